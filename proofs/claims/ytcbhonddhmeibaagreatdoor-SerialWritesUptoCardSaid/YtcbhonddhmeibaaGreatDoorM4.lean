/- Texts of this claim, one behind the other. -/
import Derived.Test.YtcbhonddhmeibaaGreatDoorProg
import Derived.Test.YtcbhonddhmeibaaGreatDoorM3
import Derived.KernelRfl
import Derived.Test.YtcbhonddhmeibaaGreatDoorRows
import Derived.WalkKit
import Derived.ProofKit
import Derived.OpenShut
import Derived.JoinedCond
import Derived.Lib.LaidU8T
import Derived.PinnedBridge
import Derived.Shelf.Vars
import Derived.Below
import Derived.Test.YtcbhonddhmeibaaGreatDoorCards
import Derived.Test.YtcbhonddhmeibaaGreatDoorTie
import Derived.Deep.DeepHandedRow
import Derived.MakeChecks
import Derived.Shelf.Strings.Builder1
import Derived.Lib.RuneBytes
import Derived.Laws.BitsLemmas
import Derived.Shelf.Strings.Builder2
import Derived.Shelf.Strings.Trim
import Derived.Shelf.Small.Utf8
import Derived.Shelf.Small.Strs
import Derived.Shelf.Strings.BuilderF
import Derived.Shelf.Utf8.RuneCount
import Derived.Shelf.Strings.Search1
import Derived.Shelf.Strings.Search2
import Derived.Shelf.Strings.Search3
import Derived.Shelf.Strings.Cut
import Derived.Shelf.Strings.Count
import Derived.Shelf.LaysM
import Derived.Shelf.Strings.Shaped
import Derived.Shelf.Strings.Prefix
import Derived.Shelf.Strings.Split
import Derived.Shelf.Strings.Replace
import Derived.Shelf.Strings.Fold
import Derived.Shelf.Strings.SplitShaped
import Derived.Shelf.Unicode.Decode
import Derived.Shelf.Strings.Runes
import Derived.Shelf.Strings.RuneCount
import Derived.Shelf.Strings.IndexAny
import Derived.Shelf.Strings.AsciiSet
import Derived.Shelf.Strings.IndexAnyAll
import Derived.Shelf.Bits.Mul64
import Derived.Shelf.Strings.Repeat
import Derived.Shelf.Unicode.DecodeSlow
import Derived.Shelf.Unicode.DecodeAny
import Derived.Shelf.Unicode.DecodeLast
import Derived.Shelf.Unicode.CaseLookup
import Derived.Shelf.Unicode.CaseConvert
import Derived.Lib.IndexMore
import Derived.Shelf.Strings.SlTrimAscii
import Derived.Lib.IndexAny
set_option maxHeartbeats 4000000
set_option maxRecDepth 100000
section
namespace Go.Proofs.K
open Go Go.Sim Go.Proofs
noncomputable abbrev Pg (G : Glob) : PG := ⟨Tryz.prog, G⟩
theorem Z1 (G : Glob) : (Pg G).gl = G := rfl
end Go.Proofs.K
end
section
set_option linter.unusedSimpArgs false
set_option linter.unusedVariables false
namespace Go.Proofs.YtcbhonddhmeibaaGreatDoor
open Go Go.Sim Go.Proofs Go.ChangeShapes Go.WideShapes Go.ChangeAt Go.RowKit
theorem own : ownKnob Tryz.prog.godebug = none := by kernel_rfl
theorem bulkAll_mem {H : Type} {d : DataW H} {l : List (DataW H)} (h : d ∈ l) : Rows.uptoBulk d <= Rows.uptoBulkAll l := by
 induction l with
 | nil => cases h
 | cons x r ih =>
  simp only [Rows.uptoBulkAll]
  rcases List.mem_cons.1 h with e | e
  ·subst e; omega
  ·have := ih e; omega
theorem bulk_pos {H : Type} (d : DataW H) : 1 <= Rows.uptoBulk d := by
 cases d with
 | lit l => cases l <;> simp [Rows.uptoBulk]
 | _ => simp [Rows.uptoBulk]
theorem bulkAll_len {H : Type} (l : List (DataW H)) : l.length <= Rows.uptoBulkAll l := by
 induction l with
 | nil => simp [Rows.uptoBulkAll]
 | cons x r ih => have := bulk_pos x; simp only [Rows.uptoBulkAll, List.length_cons]; omega
theorem bulk (H : Type) : Bulk (Rows.uptoBulk (H := H)) where
 str l := by simp [Rows.uptoBulk]
 len es sp := by have := bulkAll_len es; simp only [Rows.uptoBulk]; omega
 elem es sp d h := by have := bulkAll_mem h; simp only [Rows.uptoBulk]; omega
 part ps d h := by have := bulkAll_mem h; simp only [Rows.uptoBulk]; omega
noncomputable def G0 : Glob := fun _ => .dead
theorem GRel.g0 (W : World) : GRel (K.Pg G0).gl (Sim.g0 W) W := fun _ => ⟨.dead, .dead _⟩
variable {H : Type} {enc : TypeId × Value -> H} {w : World}
theorem mStr : Mono (fun k (l : List UInt8) => l.length <= k) := fun _ _ _ h1 h2 => Nat.le_trans h2 h1
theorem mInt {k : IntKind} : Mono (fun (_ : Nat) (n : Int) => (Lit.int k n).wf = true) := fun _ _ _ _ h => h
theorem rInt : Rdr enc Tryz.prog w Rows.uptoBulk 3 Z8 (fun _ n => (Lit.int .i64 n).wf = true) := Rdr.int Tryz.underlying3
theorem rBool : Rdr enc Tryz.prog w Rows.uptoBulk 4 (fun b : Bool => [.bool b]) (fun _ _ => True) := Rdr.bool Tryz.underlying4
theorem rStr : Rdr enc Tryz.prog w Rows.uptoBulk 9 (fun l : List UInt8 => [.str l]) (fun k l => l.length <= k) := Rdr.str (bulk H) Tryz.underlying9
theorem rInts : Rdr enc Tryz.prog w Rows.uptoBulk 99 (fun l : List Int => [sl Z8 l]) (fun k l => l.length <= k /\ ∀ x ∈ l, (Lit.int .i64 x).wf = true) :=
 Rdr.slice (bulk H) mInt (sz := 1) (enc := Z8) Tryz.underlying99 (by kernel_rfl) (by decide) (fun _ => rfl) rInt
end Go.Proofs.YtcbhonddhmeibaaGreatDoor
end
section
set_option linter.unusedSimpArgs false
set_option linter.unusedVariables false
namespace Go.Proofs.K
open Go Go.Sim Go.Proofs
theorem brNdec {A B : Prop} {p : Prop} [Decidable p] (h1 : ¬ p -> A) (h2 : p -> B) : Br (!decide p) A B .mk := ⟨fun h => h1 (by simpa using h), fun h => h2 (by simpa using h)⟩
theorem brNeq {A B : Prop} {α : Type} [BEq α] [LawfulBEq α] {a b : α} (h1 : a ≠ b -> A) (h2 : a = b -> B) : Br (!(a == b)) A B .mk := ⟨fun h => h1 (by simpa using h), fun h => h2 (by simpa using h)⟩
class BrC (t : Bool) (p q : outParam Prop) : Prop where
 pos : t = true -> p
 neg : t = false -> q
instance (priority := 100) brCi (t : Bool) : BrC t (t = true) (t = false) := ⟨id, id⟩
instance brCd (p : Prop) [Decidable p] : BrC (decide p) p (¬ p) := ⟨fun h => by simpa using h, fun h => by simpa using h⟩
instance brCe {α : Type} [BEq α] [LawfulBEq α] (a b : α) : BrC (a == b) (a = b) (a ≠ b) := ⟨fun h => by simpa using h, fun h => by simpa using h⟩
instance brCn {α : Type} [BEq α] [LawfulBEq α] (a b : α) : BrC (a != b) (a ≠ b) (a = b) := ⟨fun h => by simpa using h, fun h => by simpa using h⟩
instance brCf (p : Prop) [Decidable p] : BrC (!decide p) (¬ p) p := ⟨fun h => by simpa using h, fun h => by simpa using h⟩
instance brCg {α : Type} [BEq α] [LawfulBEq α] (a b : α) : BrC (!(a == b)) (a ≠ b) (a = b) := ⟨fun h => by simpa using h, fun h => by simpa using h⟩
theorem brC {A B : Prop} {t : Bool} {p q : Prop} [c : BrC t p q] (h1 : p -> A) (h2 : q -> B) : Br t A B .mk := ⟨fun h => h1 (c.pos h), fun h => h2 (c.neg h)⟩
theorem Z4 {ty sz : Nat} {ps : List SX} {e : Env} {h : J1} {K : AVal -> J1 -> Prop} {w : Wit K} : Hd (litE ty sz ps e h) K w = (Q5 sz e ps /\ ∀ r, h r = none -> K (.osl r sz 0 ps.length) (upd h r (some ⟨ty, sz, ps.map fun x => cellsOf (ev e x)⟩))) := rfl
theorem X9 {α : Type} [Inhabited α] {l : List α} {k : Nat} (h : k < l.length) : nth l k ∈ l := List.mem_of_getElem? (nth_some h)
theorem mem_nth {α : Type} [Inhabited α] {l : List α} {x : α} (h : x ∈ l) : ∃ k, k < l.length /\ nth l k = x := by
 obtain ⟨k, hk⟩ := List.mem_iff_getElem?.1 h
 have hl := (List.getElem?_eq_some_iff.1 hk).1
 have := nth_some hl
 rw [hk] at this
 exact ⟨k, hl, (Option.some.inj this).symm⟩
theorem any_nth {α : Type} [Inhabited α] {l : List α} {p : α -> Bool} {k : Nat} (h : k < l.length) (hp : p (nth l k) = true) : l.any p = true := List.any_eq_true.2 ⟨_, X9 h, hp⟩
theorem any_no {α : Type} [Inhabited α] {l : List α} {p : α -> Bool} (hp : ∀ j, j < l.length -> p (nth l j) = false) : l.any p = false := by
 rw [List.any_eq_false]
 intro x hx
 obtain ⟨k, hk, rfl⟩ := mem_nth hx
 simp [hp k hk]
theorem ext_nth {α : Type} [Inhabited α] {l m : List α} (hl : l.length = m.length) (h : ∀ j, j < l.length -> nth l j = nth m j) : l = m := by
 apply List.ext_getElem? 
 intro i
 by_cases hi : i < l.length
 ·rw [nth_some hi, nth_some (by omega), h i hi]
 ·rw [List.getElem?_eq_none (by omega), List.getElem?_eq_none (by omega)]
theorem K7 {α : Type} [Inhabited α] {l : List α} {j : Nat} (h : j < l.length) : l.take (j + 1) = l.take j ++ [nth l j] := by
 rw [List.take_add_one, nth_some h]; rfl
def idxM {α : Type} (p : α -> Bool) (l : List α) : Int := match l.findIdx? p with | some i => i | none => -1
theorem idxM_some {α : Type} [Inhabited α] {p : α -> Bool} {l : List α} {k : Nat} (hk : k < l.length) (h1 : ∀ j, j < k -> p (nth l j) = false) (h2 : p (nth l k) = true) : idxM p l = k := by
 have hn : ∀ j (hj : j < l.length), l[j] = nth l j := fun j hj => by have := nth_some hj; rw [List.getElem?_eq_getElem hj] at this; exact Option.some.inj this
 have : l.findIdx? p = some k := by
  rw [List.findIdx?_eq_some_iff_getElem]
  refine ⟨hk, by rw [hn k hk]; exact h2, fun j hj => ?_⟩
  rw [hn j (by omega), h1 j hj]; simp
 rw [idxM, this]
theorem idxM_none {α : Type} [Inhabited α] {p : α -> Bool} {l : List α} (h1 : ∀ j, j < l.length -> p (nth l j) = false) : idxM p l = -1 := by
 have hn : ∀ j (hj : j < l.length), l[j] = nth l j := fun j hj => by have := nth_some hj; rw [List.getElem?_eq_getElem hj] at this; exact Option.some.inj this
 have : l.findIdx? p = none := by
  rw [List.findIdx?_eq_none_iff]
  intro x hx
  obtain ⟨j, hj, rfl⟩ := List.getElem_of_mem hx
  rw [hn j hj]; exact h1 j hj
 rw [idxM, this]
theorem idxM_any {α : Type} (p : α -> Bool) (l : List α) : decide (0 <= idxM p l) = l.any p := by
 unfold idxM
 cases h : l.findIdx? p with
 | none =>
  rw [List.findIdx?_eq_none_iff] at h
  have : l.any p = false := by rw [List.any_eq_false]; intro x hx; simp [h x hx]
  rw [this]; simp
 | some i =>
  have h2 : (l.findIdx? p).isSome = true := by rw [h]; rfl
  rw [List.findIdx?_isSome] at h2
  rw [h2]
  simp
def lastP {α : Type} (p : α -> Bool) : List α -> Nat
 | [] => 0
 | x :: r => match lastP p r with
  | 0 => if p x then 1 else 0
  | n + 1 => n + 2
def IsLastP {α : Type} [Inhabited α] (p : α -> Bool) (l : List α) (k : Nat) : Prop := k <= l.length /\ (k = 0 \/ p (nth l (k - 1)) = true) /\ ∀ j, k <= j -> j < l.length -> p (nth l j) = false
theorem lastP_is {α : Type} [Inhabited α] (p : α -> Bool) (l : List α) : IsLastP p l (lastP p l) := by
 induction l with
 | nil => exact ⟨by simp [lastP], .inl rfl, fun j _ h => by simp at h⟩
 | cons x r ih =>
  obtain ⟨h1, h2, h3⟩ := ih
  cases hm : lastP p r with
  | zero =>
   rw [hm] at h3
   by_cases hx : p x = true
   ·simp only [lastP, hm, hx, if_true]
    refine ⟨by simp, .inr (by simpa [nth] using hx), fun j hj hl => ?_⟩
    obtain ⟨j, rfl⟩ : ∃ i, j = i + 1 := ⟨j - 1, by omega⟩
    exact h3 j (by omega) (by simpa using hl)
   ·simp only [lastP, hm, hx]
    refine ⟨by simp, .inl (by simp), fun j hj hl => ?_⟩
    cases j with
    | zero => simpa [nth] using hx
    | succ j => exact h3 j (by omega) (by simpa using hl)
  | succ n =>
   rw [hm] at h1 h2 h3
   simp only [lastP, hm]
   refine ⟨by simp; omega, .inr ?_, fun j hj hl => ?_⟩
   ·rcases h2 with h2 | h2
    ·omega
    ·simpa [nth] using h2
   ·obtain ⟨j, rfl⟩ : ∃ i, j = i + 1 := ⟨j - 1, by omega⟩
    exact h3 j (by omega) (by simpa using hl)
theorem IsLastP.eq {α : Type} [Inhabited α] {p : α -> Bool} {l : List α} {k : Nat} (h : IsLastP p l k) : lastP p l = k := by
 obtain ⟨a1, a2, a3⟩ := lastP_is p l
 obtain ⟨b1, b2, b3⟩ := h
 rcases Nat.lt_trichotomy (lastP p l) k with h | h | h
 ·rcases b2 with b2 | b2
  ·omega
  ·rw [a3 _ (by omega) (by omega)] at b2; cases b2
 ·exact h
 ·rcases a2 with a2 | a2
  ·omega
  ·rw [b3 _ (by omega) (by omega)] at a2; cases a2
theorem u8_all {p : UInt8 -> Bool} (h : ((List.range 256).all fun n => p (UInt8.ofNat n)) = true) (b : UInt8) : p b = true := by
 have := List.all_eq_true.1 h b.toNat (List.mem_range.2 b.toNat_lt)
 simpa using this
theorem nth_set {α : Type} [Inhabited α] (l : List α) (i j : Nat) (x : α) (hi : i < l.length) : nth (l.set i x) j = if j = i then x else nth l j := by
 unfold nth
 rw [List.getD_eq_getElem?_getD, List.getD_eq_getElem?_getD, List.getElem?_set]
 by_cases h : i = j
 ·subst h; simp [hi]
 ·rw [if_neg h, if_neg (fun e => h e.symm)]
variable {G : Glob}
def intsA (k : IntKind) (l : List Int) : List AVal := l.map fun x => .int k x
def firstL : List Int := (List.range 256).map fun c => (Lib.firstT c : Int)
def acceptL : List Int := (List.range 32).map fun i => if i % 2 = 0 then (Lib.accLo (i / 2) : Int) else Lib.accHi (i / 2)
theorem firstL_at (c : Nat) (h : c < 256) : firstL[c]? = some (Lib.firstT c : Int) := by simp [firstL, h]
theorem acceptL_lo (i : Nat) (h : i < 16) : acceptL[2 * i]? = some (Lib.accLo i : Int) := by
 have : 2 * i < 32 := by omega
 simp [acceptL, this]
theorem acceptL_hi (i : Nat) (h : i < 16) : acceptL[2 * i + 1]? = some (Lib.accHi i : Int) := by
 have h1 : 2 * i + 1 < 32 := by omega
 have h2 : (2 * i + 1) / 2 = i := by omega
 have h3 : (2 * i + 1) % 2 = 1 := by omega
 simp [acceptL, h1, h2, h3]
theorem vrel_ints {w : World} {b : Nat} {k : IntKind} {l : List Int} (hl : l ≠ []) (h : ∀ (j : Nat) (x : Int), l[j]? = some x -> w.cell? ⟨b, j, none⟩ = some (.int k x)) : VRel (g0 w) w (.pointer (some ⟨b, 0, none⟩)) (.pin (intsA k l)) := by
 have e : ∀ j, Addr.add ⟨b, 0, none⟩ j = ⟨b, j, none⟩ := fun j => by unfold Addr.add; split <;> simp_all
 refine VRel.pin_mk rfl ?_ fun j a hj => ?_
 ·show b < w.heap.size
  obtain ⟨x, r, rfl⟩ := List.exists_cons_of_ne_nil hl
  have h := h 0 x rfl
  unfold World.cell? at h
  split at h
  ·rename_i c _ _ hc
   exact (Array.getElem?_eq_some_iff.1 hc).1
  ·cases h
 ·rw [intsA, List.getElem?_map, Option.map_eq_some_iff] at hj
  obtain ⟨x, hx, rfl⟩ := hj
  exact ⟨.int k x, by rw [e]; exact h j x hx, rfl, .int k x⟩
theorem dat_ints (k : IntKind) (l : List Int) : Dat (.pin (intsA k l)) := .pin _ fun c hc => by
 obtain ⟨x, _, rfl⟩ := List.mem_map.1 hc
 exact .int k x
theorem ofBelow {P : PG} {f : Nat} {ls : List AVal} {r : AVal} (hc : Callable P.p f)
  (h : ∀ (g : Ghost) (w : World) (vs : Array Value), GRel P.gl g w -> VRelL g w vs ls -> Calls P.p f vs w fun e w' => ∃ v, e = .returned v /\ RowKit.Below w.heap.size w w' /\ ∀ g' w', VRel g' w' v r) : PCalls P f ls r :=
 fun h0 => ⟨hc, fun g w vs H GR V => (h g w vs GR V).mono fun e w' ⟨v, he, hw, hv⟩ => by
  obtain ⟨S, H'⟩ := H.ext (w' := w') (fun b hb => hw.block b hb) hw.os hw.tape hw.output hw.size
  exact ⟨v, r, h0, g, he, ⟨rfl, rfl⟩, H', hv g w', S⟩⟩
end Go.Proofs.K
end
section
set_option linter.unusedSimpArgs false
set_option linter.unusedVariables false
namespace Go.Proofs.YtcbhonddhmeibaaGreatDoor
open Go Go.Sim Go.Proofs Go.Proofs.K Go.ChangeShapes Go.WideShapes Go.ChangeAt Go.RowKit Go.Shelf Go.Lib
noncomputable def GT (m : Int) : Glob := fun b => if b = 0 then .pin [Y0 m] else if b = 4 then .pin (intsA .u8 firstL) else if b = 5 then .pin (intsA .u8 acceptL) else .dead
theorem GT_max (m : Int) : ∃ m', GT m 0 = .pin [Y0 m'] := ⟨m, if_pos rfl⟩
def tren : Ren := ⟨fun n => n, fun | 5 => 5 | 119 => 246 | 138 => 248 | 139 => 249 | n => n, fun | 3 => 4 | 4 => 5 | n => n⟩
theorem utypes : U8Types Tryz.prog tren := { t5 := Tryz.underlying5, t119 := Tryz.underlying246, t138 := Tryz.underlying248, t139 := Tryz.underlying249 }
theorem uextra : U8Extra Tryz.prog tren := { n3 := by kernel_rfl, n4 := by kernel_rfl, y3 := by kernel_rfl, y4 := by kernel_rfl, c5 := by kernel_rfl, c119 := by kernel_rfl, c138 := by kernel_rfl }
def laidL : List (String × DataW Unit) := [("unicode/utf8.acceptRanges", Rows.laid_unicode_utf8_acceptRanges), ("unicode/utf8.first", Rows.laid_unicode_utf8_first)]
theorem acc_eq : (Rows.laid_unicode_utf8_acceptRanges : DataW Unit) = acceptData := by kernel_rfl
theorem tabs_met {W : World} (hL : laidMetH Tryz.prog laidL W) : Utf8Tabs 4 5 W := by
 rw [MakeChecks.laidMetH_plain _ _ _ (by kernel_rfl)] at hL
 have h4 := laidMet.reads hL (n := "unicode/utf8.acceptRanges") (d := Rows.laid_unicode_utf8_acceptRanges) (by simp [laidL])
 have h3 := laidMet.reads hL (n := "unicode/utf8.first") (d := Rows.laid_unicode_utf8_first) (by simp [laidL])
 rw [acc_eq] at h4
 have e3 : Rows.laid_unicode_utf8_first = firstData := Pinned.utf8First_eq
 rw [e3] at h3
 exact utf8Tabs_of_readsT utypes uextra h3 h4
theorem firstL_get {j : Nat} {x : Int} (h : firstL[j]? = some x) : j < 256 /\ x = (firstT j : Int) := by
 have hl : firstL.length = 256 := by simp [firstL]
 have hj := (List.getElem?_eq_some_iff.1 h).1
 rw [firstL_at j (by omega)] at h
 exact ⟨by omega, (Option.some.inj h).symm⟩
theorem acceptL_get {j : Nat} {x : Int} (h : acceptL[j]? = some x) : j < 32 /\ ((∃ i, j = 2 * i /\ x = (accLo i : Int)) \/ ∃ i, j = 2 * i + 1 /\ x = (accHi i : Int)) := by
 have hl : acceptL.length = 32 := by simp [acceptL]
 have hj := (List.getElem?_eq_some_iff.1 h).1
 refine ⟨by omega, ?_⟩
 obtain ⟨i, rfl | rfl⟩ : ∃ i, j = 2 * i \/ j = 2 * i + 1 := ⟨j / 2, by omega⟩
 ·rw [acceptL_lo i (by omega)] at h
  exact .inl ⟨i, rfl, (Option.some.inj h).symm⟩
 ·rw [acceptL_hi i (by omega)] at h
  exact .inr ⟨i, rfl, (Option.some.inj h).symm⟩
theorem GT_rel {W : World} (hsh : W.ShapedOpen Tryz.prog) (hL : laidMetH Tryz.prog laidL W) : ∃ m, GRel (Pg (GT m)).gl (Sim.g0 W) W := by
 obtain ⟨m, hm⟩ := Go.Proofs.cell_of_shapedOpen_int (g := 0) (t := 3) (zero := #[.int .i64 0]) (k := .i64) hsh (by decide +kernel) (by kernel_rfl) rfl (by kernel_rfl) (by kernel_rfl) Tryz.underlying3
 obtain ⟨T3, T4⟩ := tabs_met hL
 refine ⟨m, fun b => ?_⟩
 show Dat (GT m b) /\ VRel _ _ _ (GT m b)
 unfold GT
 split
 ·rename_i h; subst h; exact ⟨.pin _ (fun c hc => by simp at hc; subst hc; exact .int _ _), VRel.pinInt hm⟩
 ·split
  ·rename_i h; subst h
   refine ⟨dat_ints _ _, vrel_ints (by decide +kernel) fun j x hj => ?_⟩
   obtain ⟨h1, rfl⟩ := firstL_get hj
   exact T3 j h1
  ·split
   ·rename_i h; subst h
    refine ⟨dat_ints _ _, vrel_ints (by decide +kernel) fun j x hj => ?_⟩
    obtain ⟨h1, ⟨i, rfl, rfl⟩ | ⟨i, rfl, rfl⟩⟩ := acceptL_get hj
    ·exact (T4 i (by omega)).1
    ·exact (T4 i (by omega)).2
   ·exact ⟨.dead, .dead _⟩
noncomputable def lay8 (l : List Int) : Obj -> Obj
 | .cells _ t frozen => .cells (l.map fun x => Value.int .u8 x).toArray t frozen
 | o => o
noncomputable def laidWorld (os : Os) : World :=
 { World.holding Tryz.prog os ⟨#[], #[], []⟩ with heap := ((World.holding Tryz.prog os ⟨#[], #[], []⟩).heap.modify 4 (lay8 firstL)).modify 5 (lay8 acceptL) }
end Go.Proofs.YtcbhonddhmeibaaGreatDoor
end
section
set_option linter.unusedSimpArgs false
set_option linter.unusedVariables false
namespace Go.Proofs.K
open Go Go.Sim Go.Proofs
variable {G : Glob}
structure HAttr where
 name : List UInt8
 value : List UInt8
deriving DecidableEq, Inhabited
def Z3 (a : HAttr) : List AVal := [.str a.name, .str a.value]
instance : LenE Z3 2 := ⟨fun _ => rfl⟩
theorem eAttr_beq (x y : HAttr) : (x == y) = (x.name == y.name && x.value == y.value) := by
 cases x; cases y; rw [Bool.eq_iff_iff]; simp
def c117 : SFun := ⟨.seq (.reg [o 4 (.mv (.c (.bool false)))]) (.seq (.seq (.reg [o 6 (.mv (.t 0)), o 7 (.len (.t 6)), o 8 (.mv (.t 1)), o 9 (.len (.t 8)), o 10 (.bin .neq (.t 7) (.t 9))]) (.cond (.t 10) (.seq (.reg [o 4 (.mv (.c (.bool false)))]) .ret) .skip)) (.seq (.seq (.reg [o 5 (.mv (.c (.int .i64 0)))]) (.block 0 (.loop (.seq (.seq (.reg [o 11 (.mv (.t 5)), o 12 (.mv (.t 0)), o 13 (.len (.t 12)), o 14 (.bin .lss (.t 11) (.t 13))]) (.cond (.t 14) .skip (.exit 0))) (.seq (.block 1 (.seq (.dreg [(o 17 (.mv (.t 0)), none), (o 18 (.mv (.t 5)), none), (o 19 (.idxA 2 (.t 17) (.t 18)), none), (o 20 (.ld 2 true (.t 19)), none), (o 21 (.mv (.t 1)), none), (o 22 (.mv (.t 5)), none), (o 23 (.idxA 2 (.t 21) (.t 22)), none), (o 24 (.ld 2 true (.t 23)), none), (o 25 (.eqs true [1, 1] (.t 20) (.t 24)), none)]) (.cond (.t 25) (.seq (.reg [o 4 (.mv (.c (.bool false)))]) .ret) .skip))) (.reg [o 15 (.mv (.t 5)), o 16 (.bin .add (.t 15) (.c (.int .i64 1))), o 5 (.mv (.t 16))])))))) (.seq (.reg [o 4 (.mv (.c (.bool true)))]) .ret))), [.tmp 4]⟩
theorem hc117 : X8 Tryz.prog {} Tryz.f117 = some c117 := by kernel_rfl
theorem sameA_ok (a b : List HAttr) (ha : a.length <= 1073741824) (hb : b.length <= 1073741824) : PCalls (Pg G) 117 [sl Z3 a, sl Z3 b] (.bool (a == b)) := by
 intro h
 refine Z9 Tryz.func117 (by kernel_rfl) hc117 (by rw [Tryz.ntmps117]; simp) (by rw [Tryz.ntmps117]; decide) ?_
 simp -dsimp -implicitDefEqProofs (disch := omega) only [VCA, Z1, ↓Q3, Nat.reduceEqDiff, Nat.reduceBEq, Nat.reduceAdd, Nat.reduceSub, Nat.reduceMul, Nat.reduceLT, Nat.reduceLeDiff, ↓reduceIte, reduceCtorEq, Z7, Q6, SOp.rd, SI.rd, SX.rd, rdL, rdO, rdP, Q5, Q4, Q2, Q8, Q7, Z0, implies_true, forall_const, forall_eq, ne_eq, exists_eq_right_right, exists_eq_right, exists_eq_left, exists_eq_left', Q9, Z3, Z8, c117]
 refine Br.ne (fun h1 => ?_) (fun h1 => ?_)
 ·simp -dsimp -implicitDefEqProofs (disch := omega) only [VCA, Z1, ↓Q3, Nat.reduceEqDiff, Nat.reduceBEq, Nat.reduceAdd, Nat.reduceSub, Nat.reduceMul, Nat.reduceLT, Nat.reduceLeDiff, ↓reduceIte, reduceCtorEq, Z7, Q6, SOp.rd, SI.rd, SX.rd, rdL, rdO, rdP, Q5, Q4, Q2, Q8, Q7, Z0, implies_true, forall_const, forall_eq, ne_eq, exists_eq_right_right, exists_eq_right, exists_eq_left, exists_eq_left', Q9, Z3, Z8]
  have : ¬ a = b := fun e => h1 (by rw [e])
  first | exact Sub.refl _ | exact ⟨Sub.refl _, by simp [this]⟩
 ·simp -dsimp -implicitDefEqProofs (disch := omega) only [VCA, Z1, ↓Q3, Nat.reduceEqDiff, Nat.reduceBEq, Nat.reduceAdd, Nat.reduceSub, Nat.reduceMul, Nat.reduceLT, Nat.reduceLeDiff, ↓reduceIte, reduceCtorEq, Z7, Q6, SOp.rd, SI.rd, SX.rd, rdL, rdO, rdP, Q5, Q4, Q2, Q8, Q7, Z0, implies_true, forall_const, forall_eq, ne_eq, exists_eq_right_right, exists_eq_right, exists_eq_left, exists_eq_left', Q9, Z3, Z8]
  have h1' : a.length = b.length := by omega
  refine LoopVC.intro (fun m e h' => ∃ k : Nat, k <= a.length /\ m = a.length - k /\ e 0 = sl Z3 a /\ e 1 = sl Z3 b /\ e 5 = Y0 k /\ h' = h /\ ∀ j, j < k -> nth a j = nth b j) a.length ⟨0, by omega, by omega, rfl, rfl, rfl, rfl, fun j hj => absurd hj (Nat.not_lt_zero j)⟩ ?_
  rintro m e h' ⟨k, hk, rfl, he0, he1, he5, rfl, hj⟩
  simp -dsimp -implicitDefEqProofs (disch := omega) only [VCA, Z1, ↓Q3, Nat.reduceEqDiff, Nat.reduceBEq, Nat.reduceAdd, Nat.reduceSub, Nat.reduceMul, Nat.reduceLT, Nat.reduceLeDiff, ↓reduceIte, reduceCtorEq, Z7, Q6, SOp.rd, SI.rd, SX.rd, rdL, rdO, rdP, Q5, Q4, Q2, Q8, Q7, Z0, implies_true, forall_const, forall_eq, ne_eq, exists_eq_right_right, exists_eq_right, exists_eq_left, exists_eq_left', Q9, Z3, Z8, he0, he1, he5]
  refine Br.dec (fun hlt => ?_) (fun hge => ?_)
  ·simp -dsimp -implicitDefEqProofs (disch := omega) only [VCA, Z1, ↓Q3, Nat.reduceEqDiff, Nat.reduceBEq, Nat.reduceAdd, Nat.reduceSub, Nat.reduceMul, Nat.reduceLT, Nat.reduceLeDiff, ↓reduceIte, reduceCtorEq, Z7, Q6, SOp.rd, SI.rd, SX.rd, rdL, rdO, rdP, Q5, Q4, Q2, Q8, Q7, Z0, implies_true, forall_const, forall_eq, ne_eq, exists_eq_right_right, exists_eq_right, exists_eq_left, exists_eq_left', Q9, Z3, Z8, he0, he1, he5]
   refine ⟨by omega, by omega, ?_⟩
   refine Br.intro (fun h2 => ?_) (fun h2 => ?_)
   ·simp -dsimp -implicitDefEqProofs (disch := omega) only [VCA, Z1, ↓Q3, Nat.reduceEqDiff, Nat.reduceBEq, Nat.reduceAdd, Nat.reduceSub, Nat.reduceMul, Nat.reduceLT, Nat.reduceLeDiff, ↓reduceIte, reduceCtorEq, Z7, Q6, SOp.rd, SI.rd, SX.rd, rdL, rdO, rdP, Q5, Q4, Q2, Q8, Q7, Z0, implies_true, forall_const, forall_eq, ne_eq, exists_eq_right_right, exists_eq_right, exists_eq_left, exists_eq_left', Q9, Z3, Z8]
    have : ¬ a = b := fun e => by subst e; simp at h2
    first | exact Sub.refl _ | exact ⟨Sub.refl _, by simp [this]⟩
   ·simp -dsimp -implicitDefEqProofs (disch := omega) only [VCA, Z1, ↓Q3, Nat.reduceEqDiff, Nat.reduceBEq, Nat.reduceAdd, Nat.reduceSub, Nat.reduceMul, Nat.reduceLT, Nat.reduceLeDiff, ↓reduceIte, reduceCtorEq, Z7, Q6, SOp.rd, SI.rd, SX.rd, rdL, rdO, rdP, Q5, Q4, Q2, Q8, Q7, Z0, implies_true, forall_const, forall_eq, ne_eq, exists_eq_right_right, exists_eq_right, exists_eq_left, exists_eq_left', Q9, Z3, Z8, he0, he1, he5]
    refine ⟨_, ?_, k + 1, by omega, rfl, by omega, fun j hj' => ?_⟩
    ·omega
    ·by_cases h3 : j = k
     ·subst h3
      have : (nth a j == nth b j) = true := by rw [eAttr_beq]; simpa using h2
      simpa using this
     ·exact hj j (by omega)
  ·simp -dsimp -implicitDefEqProofs (disch := omega) only [VCA, Z1, ↓Q3, Nat.reduceEqDiff, Nat.reduceBEq, Nat.reduceAdd, Nat.reduceSub, Nat.reduceMul, Nat.reduceLT, Nat.reduceLeDiff, ↓reduceIte, reduceCtorEq, Z7, Q6, SOp.rd, SI.rd, SX.rd, rdL, rdO, rdP, Q5, Q4, Q2, Q8, Q7, Z0, implies_true, forall_const, forall_eq, ne_eq, exists_eq_right_right, exists_eq_right, exists_eq_left, exists_eq_left', Q9, Z3, Z8]
   have : a = b := ext_nth h1' (fun j hj' => hj j (by omega))
   first | exact Sub.refl _ | exact ⟨Sub.refl _, by simp [this]⟩
def c197 : SFun := ⟨.seq (.reg [o 4 (.mv (.c (.bool false)))]) (.seq (.seq (.reg [o 6 (.mv (.t 0)), o 7 (.len (.t 6)), o 8 (.mv (.t 1)), o 9 (.len (.t 8)), o 10 (.bin .neq (.t 7) (.t 9))]) (.cond (.t 10) (.seq (.reg [o 4 (.mv (.c (.bool false)))]) .ret) .skip)) (.seq (.seq (.reg [o 5 (.mv (.c (.int .i64 0)))]) (.block 0 (.loop (.seq (.seq (.reg [o 11 (.mv (.t 5)), o 12 (.mv (.t 0)), o 13 (.len (.t 12)), o 14 (.bin .lss (.t 11) (.t 13))]) (.cond (.t 14) .skip (.exit 0))) (.seq (.block 1 (.seq (.dreg [(o 17 (.mv (.t 0)), none), (o 18 (.mv (.t 5)), none), (o 19 (.idxA 1 (.t 17) (.t 18)), none), (o 20 (.ld 1 false (.t 19)), none), (o 21 (.mv (.t 1)), none), (o 22 (.mv (.t 5)), none), (o 23 (.idxA 1 (.t 21) (.t 22)), none), (o 24 (.ld 1 false (.t 23)), none), (o 25 (.bin .neq (.t 20) (.t 24)), none)]) (.cond (.t 25) (.seq (.reg [o 4 (.mv (.c (.bool false)))]) .ret) .skip))) (.reg [o 15 (.mv (.t 5)), o 16 (.bin .add (.t 15) (.c (.int .i64 1))), o 5 (.mv (.t 16))])))))) (.seq (.reg [o 4 (.mv (.c (.bool true)))]) .ret))), [.tmp 4]⟩
theorem hc197 : X8 Tryz.prog {} Tryz.f197 = some c197 := by kernel_rfl
theorem sameN_ok (a b : List Int) (ha : a.length <= 1073741824) (hb : b.length <= 1073741824) : PCalls (Pg G) 197 [sl Z8 a, sl Z8 b] (.bool (a == b)) := by
 intro h
 refine Z9 Tryz.func197 (by kernel_rfl) hc197 (by rw [Tryz.ntmps197]; simp) (by rw [Tryz.ntmps197]; decide) ?_
 simp -dsimp -implicitDefEqProofs (disch := omega) only [VCA, Z1, ↓Q3, Nat.reduceEqDiff, Nat.reduceBEq, Nat.reduceAdd, Nat.reduceSub, Nat.reduceMul, Nat.reduceLT, Nat.reduceLeDiff, ↓reduceIte, reduceCtorEq, Z7, Q6, SOp.rd, SI.rd, SX.rd, rdL, rdO, rdP, Q5, Q4, Q2, Q8, Q7, Z0, implies_true, forall_const, forall_eq, ne_eq, exists_eq_right_right, exists_eq_right, exists_eq_left, exists_eq_left', Q9, Z3, Z8, c197]
 refine Br.ne (fun h1 => ?_) (fun h1 => ?_)
 ·simp -dsimp -implicitDefEqProofs (disch := omega) only [VCA, Z1, ↓Q3, Nat.reduceEqDiff, Nat.reduceBEq, Nat.reduceAdd, Nat.reduceSub, Nat.reduceMul, Nat.reduceLT, Nat.reduceLeDiff, ↓reduceIte, reduceCtorEq, Z7, Q6, SOp.rd, SI.rd, SX.rd, rdL, rdO, rdP, Q5, Q4, Q2, Q8, Q7, Z0, implies_true, forall_const, forall_eq, ne_eq, exists_eq_right_right, exists_eq_right, exists_eq_left, exists_eq_left', Q9, Z3, Z8]
  have : ¬ a = b := fun e => h1 (by rw [e])
  first | exact Sub.refl _ | exact ⟨Sub.refl _, by simp [this]⟩
 ·simp -dsimp -implicitDefEqProofs (disch := omega) only [VCA, Z1, ↓Q3, Nat.reduceEqDiff, Nat.reduceBEq, Nat.reduceAdd, Nat.reduceSub, Nat.reduceMul, Nat.reduceLT, Nat.reduceLeDiff, ↓reduceIte, reduceCtorEq, Z7, Q6, SOp.rd, SI.rd, SX.rd, rdL, rdO, rdP, Q5, Q4, Q2, Q8, Q7, Z0, implies_true, forall_const, forall_eq, ne_eq, exists_eq_right_right, exists_eq_right, exists_eq_left, exists_eq_left', Q9, Z3, Z8]
  have h1' : a.length = b.length := by omega
  refine LoopVC.intro (fun m e h' => ∃ k : Nat, k <= a.length /\ m = a.length - k /\ e 0 = sl Z8 a /\ e 1 = sl Z8 b /\ e 5 = Y0 k /\ h' = h /\ ∀ j, j < k -> nth a j = nth b j) a.length ⟨0, by omega, by omega, rfl, rfl, rfl, rfl, fun j hj => absurd hj (Nat.not_lt_zero j)⟩ ?_
  rintro m e h' ⟨k, hk, rfl, he0, he1, he5, rfl, hj⟩
  simp -dsimp -implicitDefEqProofs (disch := omega) only [VCA, Z1, ↓Q3, Nat.reduceEqDiff, Nat.reduceBEq, Nat.reduceAdd, Nat.reduceSub, Nat.reduceMul, Nat.reduceLT, Nat.reduceLeDiff, ↓reduceIte, reduceCtorEq, Z7, Q6, SOp.rd, SI.rd, SX.rd, rdL, rdO, rdP, Q5, Q4, Q2, Q8, Q7, Z0, implies_true, forall_const, forall_eq, ne_eq, exists_eq_right_right, exists_eq_right, exists_eq_left, exists_eq_left', Q9, Z3, Z8, he0, he1, he5]
  refine Br.dec (fun hlt => ?_) (fun hge => ?_)
  ·simp -dsimp -implicitDefEqProofs (disch := omega) only [VCA, Z1, ↓Q3, Nat.reduceEqDiff, Nat.reduceBEq, Nat.reduceAdd, Nat.reduceSub, Nat.reduceMul, Nat.reduceLT, Nat.reduceLeDiff, ↓reduceIte, reduceCtorEq, Z7, Q6, SOp.rd, SI.rd, SX.rd, rdL, rdO, rdP, Q5, Q4, Q2, Q8, Q7, Z0, implies_true, forall_const, forall_eq, ne_eq, exists_eq_right_right, exists_eq_right, exists_eq_left, exists_eq_left', Q9, Z3, Z8, he0, he1, he5]
   refine ⟨by omega, by omega, Br.ne (fun h2 => ?_) (fun h2 => ?_)⟩
   ·simp -dsimp -implicitDefEqProofs (disch := omega) only [VCA, Z1, ↓Q3, Nat.reduceEqDiff, Nat.reduceBEq, Nat.reduceAdd, Nat.reduceSub, Nat.reduceMul, Nat.reduceLT, Nat.reduceLeDiff, ↓reduceIte, reduceCtorEq, Z7, Q6, SOp.rd, SI.rd, SX.rd, rdL, rdO, rdP, Q5, Q4, Q2, Q8, Q7, Z0, implies_true, forall_const, forall_eq, ne_eq, exists_eq_right_right, exists_eq_right, exists_eq_left, exists_eq_left', Q9, Z3, Z8]
    have : ¬ a = b := fun e => h2 (by rw [e])
    first | exact Sub.refl _ | exact ⟨Sub.refl _, by simp [this]⟩
   ·simp -dsimp -implicitDefEqProofs (disch := omega) only [VCA, Z1, ↓Q3, Nat.reduceEqDiff, Nat.reduceBEq, Nat.reduceAdd, Nat.reduceSub, Nat.reduceMul, Nat.reduceLT, Nat.reduceLeDiff, ↓reduceIte, reduceCtorEq, Z7, Q6, SOp.rd, SI.rd, SX.rd, rdL, rdO, rdP, Q5, Q4, Q2, Q8, Q7, Z0, implies_true, forall_const, forall_eq, ne_eq, exists_eq_right_right, exists_eq_right, exists_eq_left, exists_eq_left', Q9, Z3, Z8, he0, he1, he5]
    refine ⟨_, ?_, k + 1, by omega, rfl, by omega, fun j hj' => ?_⟩
    ·omega
    ·by_cases h3 : j = k
     ·subst h3; exact h2
     ·exact hj j (by omega)
  ·simp -dsimp -implicitDefEqProofs (disch := omega) only [VCA, Z1, ↓Q3, Nat.reduceEqDiff, Nat.reduceBEq, Nat.reduceAdd, Nat.reduceSub, Nat.reduceMul, Nat.reduceLT, Nat.reduceLeDiff, ↓reduceIte, reduceCtorEq, Z7, Q6, SOp.rd, SI.rd, SX.rd, rdL, rdO, rdP, Q5, Q4, Q2, Q8, Q7, Z0, implies_true, forall_const, forall_eq, ne_eq, exists_eq_right_right, exists_eq_right, exists_eq_left, exists_eq_left', Q9, Z3, Z8]
   have : a = b := ext_nth h1' (fun j hj' => hj j (by omega))
   first | exact Sub.refl _ | exact ⟨Sub.refl _, by simp [this]⟩
structure HNode where
 kind : Int
 name : List UInt8
 attrs : List HAttr
 text : List UInt8
 parent : Int
 kids : List Int
deriving DecidableEq, Inhabited
def Z5 (x : HNode) : List AVal := [Y0 x.kind, .str x.name, sl Z3 x.attrs, .str x.text, Y0 x.parent, sl Z8 x.kids]
instance : LenE Z5 6 := ⟨fun _ => rfl⟩
structure HDoc where
 nodes : List HNode
 quirks : Bool
deriving DecidableEq, Inhabited
def J4 (d : HDoc) : List AVal := [sl Z5 d.nodes, .bool d.quirks]
instance : LenE J4 2 := ⟨fun _ => rfl⟩
def nd (d : HDoc) (n : Int) : HNode := nth d.nodes n.toNat
structure NodeSm (x : HNode) : Prop where
 name : x.name.length <= 1073741824
 attrs : x.attrs.length <= 1073741824
 each : ∀ a ∈ x.attrs, a.name.length <= 1073741824 /\ a.value.length <= 1073741824
 text : x.text.length <= 1073741824
 kids : x.kids.length <= 1073741824
structure DocSm (d : HDoc) : Prop where
 len : d.nodes.length <= 1073741824
 each : ∀ x ∈ d.nodes, NodeSm x
theorem nodeSm_default : NodeSm default := ⟨by decide, by decide, (fun a ha => by cases ha), by decide, by decide⟩
theorem nth_def {α : Type} [Inhabited α] {l : List α} {k : Nat} (h : ¬ k < l.length) : nth l k = default := by
 unfold nth; rw [List.getD_eq_getElem?_getD, List.getElem?_eq_none (by omega)]; rfl
theorem DocSm.nth {d : HDoc} (h : DocSm d) (k : Nat) : NodeSm (nth d.nodes k) := by
 by_cases hk : k < d.nodes.length
 ·exact h.each _ (X9 hk)
 ·rw [nth_def hk]; exact nodeSm_default
theorem DocSm.nd {d : HDoc} (h : DocSm d) (n : Int) : NodeSm (nd d n) := h.nth _
def fe : Nat -> (Nat -> Int) -> Int
 | 0, _ => 0
 | n + 1, f => if fe n f ≠ 0 then fe n f else f n
theorem fe_none {n : Nat} {f : Nat -> Int} (h : ∀ j, j < n -> f j = 0) : fe n f = 0 := by
 induction n with
 | zero => rfl
 | succ n ih => unfold fe; rw [if_neg (by rw [ih fun j hj => h j (by omega)]; simp)]; exact h n (by omega)
theorem fe_some {n k : Nat} {f : Nat -> Int} (hk : k < n) (h1 : ∀ j, j < k -> f j = 0) (h2 : f k ≠ 0) : fe n f = f k := by
 induction n with
 | zero => omega
 | succ n ih =>
  unfold fe
  by_cases hkn : k = n
  ·subst hkn; rw [if_neg (by rw [fe_none h1]; simp)]
  ·have := ih (by omega); rw [this, if_pos h2]
theorem fe_zero {n : Nat} {f : Nat -> Int} (h : fe n f = 0) : ∀ j, j < n -> f j = 0 := by
 induction n with
 | zero => intro j hj; omega
 | succ n ih =>
  unfold fe at h
  split at h
  ·rename_i h1; exact absurd h h1
  ·rename_i h1
   have h1 : fe n f = 0 := by simpa using h1
   intro j hj
   by_cases hjn : j = n
   ·subst hjn; exact h
   ·exact ih h1 j (by omega)
theorem fe_iff {n : Nat} {f : Nat -> Int} : fe n f = 0 ↔ ∀ j, j < n -> f j = 0 := ⟨fe_zero, fe_none⟩
def signB (b : UInt8) : Bool := (decide (97 <= b.toNat) && decide (b.toNat <= 122)) || ((decide (48 <= b.toNat) && decide (b.toNat <= 57)) || (b == 45 || (b == 95 || b == 58)))
def firstB (element : Bool) (b : UInt8) : Bool := (decide (97 <= b.toNat) && decide (b.toNat <= 122)) || (!element && (b == 45 || b == 95))
def K6 (element : Bool) (s : List UInt8) : Bool := decide (1 <= s.length) && (decide (s.length <= 40) && (firstB element (s.getD 0 0) && s.all signB))
def attrAt (l : List HAttr) (name : List UInt8) : Int := idxM (fun a => a.name == name) l
def attrE (l : List HAttr) (i : Nat) : Int :=
 if K6 false (nth l i).name = false then 3 else if 400 < (nth l i).value.length then 2 else if 0 <= attrAt (l.take i) (nth l i).name then 3 else 0
def attrsE (l : List HAttr) : Int := if 12 < l.length then 2 else fe l.length (attrE l)
def bareM (x : HNode) : Bool :=
 (decide (x.kind = 2) || decide (x.kind = 5) || decide (x.name = [])) && (decide (x.kind = 2) || decide (x.attrs = [])) && (decide (x.kind = 3) || decide (x.kind = 4) || decide (x.text = [])) && (decide (x.kind = 1) || decide (x.kind = 2) || decide (x.kids = []))
def nodeE (x : HNode) : Int :=
 if x.kind < 1 \/ 5 < x.kind \/ bareM x = false then 7 else if x.kind = 2 /\ K6 true x.name = false then 3
 else if attrsE x.attrs ≠ 0 then attrsE x.attrs else if 400 < x.text.length \/ 400 < x.name.length then 2 else 0
def inD (d : HDoc) (n : Int) : Prop := 0 <= n /\ n < d.nodes.length
instance (d : HDoc) (n : Int) : Decidable (inD d n) := by unfold inD; infer_instance
def headE (d : HDoc) (i : Nat) : Int := if ¬ ((nth d.nodes i).kind = 1 ↔ i = 0) then 3 else nodeE (nth d.nodes i)
def kidE (d : HDoc) (i k : Nat) : Int :=
 let kid := nth (nth d.nodes i).kids k
 if ¬ inD d kid \/ (nd d kid).parent ≠ i \/ kid ∈ (nth d.nodes i).kids.take k then 3 else if i = 0 /\ (nd d kid).kind = 3 then 7 else 0
def kidsE (d : HDoc) (i : Nat) : Int := fe (nth d.nodes i).kids.length (kidE d i)
def parE (d : HDoc) (i : Nat) : Int :=
 let p := (nth d.nodes i).parent
 if p ≠ -1 /\ (¬ inD d p \/ (i : Int) ∉ (nd d p).kids) then 3 else 0
def upF : Nat -> HDoc -> Int -> Nat
 | 0, _, _ => 0
 | f + 1, d, n => if 0 <= (nd d n).parent then upF f d (nd d n).parent + 1 else 0
def up (d : HDoc) (n : Int) : Nat := upF (d.nodes.length + 1) d n
def deepE (d : HDoc) (i : Nat) : Int := if d.nodes.length < up d i then 8 else if 40 < up d i then 2 else 0
def docE (d : HDoc) : Int :=
 if 200 < d.nodes.length then 2 else if d.nodes.length = 0 then 3
 else if fe d.nodes.length (headE d) ≠ 0 then fe d.nodes.length (headE d)
 else if fe d.nodes.length (kidsE d) ≠ 0 then fe d.nodes.length (kidsE d)
 else if fe d.nodes.length (parE d) ≠ 0 then fe d.nodes.length (parE d)
 else if (nd d 0).parent ≠ -1 then 3
 else fe d.nodes.length (deepE d)
end Go.Proofs.K
end
section
set_option linter.unusedSimpArgs false
set_option linter.unusedVariables false
namespace Go.Proofs.YtcbhonddhmeibaaGreatDoor
open Go Go.Sim Go.Proofs Go.Proofs.K Go.ChangeShapes Go.WideShapes Go.ChangeAt Go.RowKit
variable {H : Type} {enc : TypeId × Value -> H} {w : World}
def goodA (k : Nat) (x : HAttr) : Prop := x.name.length <= k /\ x.value.length <= k
theorem mA : Mono goodA := fun _ _ _ h1 h2 => ⟨Nat.le_trans h2.1 h1, Nat.le_trans h2.2 h1⟩
theorem rAttr : Rdr enc Tryz.prog w Rows.uptoBulk 69 Z3 goodA := by
 have hB := bulk H
 have r := Rdr.struct (eh := enc) (w := w) hB Tryz.underlying69 (by kernel_rfl) (.cons (sz := 1) rfl (by kernel_rfl) mStr rStr (.cons (sz := 1) rfl (by kernel_rfl) mStr rStr (.nil _)))
 exact r.map (fun p => ⟨p.1, p.2.1⟩) (fun _ => rfl) (fun _ _ h => ⟨h.1, h.2.1⟩)
def goodN (k : Nat) (x : HNode) : Prop := x.name.length <= k /\ (x.attrs.length <= k /\ ∀ a ∈ x.attrs, goodA k a) /\ x.text.length <= k /\ x.kids.length <= k
theorem mN : Mono goodN := fun _ _ _ h1 h2 => ⟨Nat.le_trans h2.1 h1, ⟨Nat.le_trans h2.2.1.1 h1, fun a ha => mA _ _ _ h1 (h2.2.1.2 a ha)⟩, Nat.le_trans h2.2.2.1 h1, Nat.le_trans h2.2.2.2 h1⟩
theorem rNode : Rdr enc Tryz.prog w Rows.uptoBulk 101 Z5 goodN := by
 have hB := bulk H
 have ra := Rdr.slice (eh := enc) (w := w) hB mA (sz := 2) (enc := Z3) Tryz.underlying66 (by kernel_rfl) (by decide) (fun _ => rfl) (rAttr (H := H))
 have r := Rdr.struct (eh := enc) (w := w) hB Tryz.underlying101 (by kernel_rfl) (.cons (sz := 1) rfl (by kernel_rfl) mInt rInt (.cons (sz := 1) rfl (by kernel_rfl) mStr rStr
  (.cons (sz := 1) rfl (by kernel_rfl) (fun _ _ _ h1 h2 => ⟨Nat.le_trans h2.1 h1, fun a ha => mA _ _ _ h1 (h2.2 a ha)⟩) ra (.cons (sz := 1) rfl (by kernel_rfl) mStr rStr (.cons (sz := 1) rfl (by kernel_rfl) mInt rInt
  (.cons (sz := 1) rfl (by kernel_rfl) (fun _ _ _ h1 h2 => ⟨Nat.le_trans h2.1 h1, h2.2⟩) rInts (.nil _)))))))
 exact r.map (fun p => ⟨p.1, p.2.1, p.2.2.1, p.2.2.2.1, p.2.2.2.2.1, p.2.2.2.2.2.1⟩) (fun _ => rfl) (fun _ _ h => ⟨h.2.1, h.2.2.1, h.2.2.2.1, h.2.2.2.2.2.1.1⟩)
def goodD (k : Nat) (x : HDoc) : Prop := x.nodes.length <= k /\ ∀ n ∈ x.nodes, goodN k n
theorem rDoc : Rdr enc Tryz.prog w Rows.uptoBulk 39 J4 goodD := by
 have hB := bulk H
 have ra := Rdr.slice (eh := enc) (w := w) hB mN (sz := 6) (enc := Z5) Tryz.underlying37 (by kernel_rfl) (by decide) (fun _ => rfl) (rNode (H := H))
 have r := Rdr.struct (eh := enc) (w := w) hB Tryz.underlying39 (by kernel_rfl) (.cons (sz := 1) rfl (by kernel_rfl) (fun _ _ _ h1 h2 => ⟨Nat.le_trans h2.1 h1, fun a ha => mN _ _ _ h1 (h2.2 a ha)⟩) ra (.cons (sz := 1) rfl (by kernel_rfl) (fun _ _ _ _ _ => trivial) rBool (.nil _)))
 exact r.map (fun p => ⟨p.1, p.2.1⟩) (fun _ => rfl) (fun _ _ h => h.1)
theorem docSm_of {k : Nat} {d : HDoc} (hk : k <= 1073741824) (g : goodD k d) : DocSm d :=
 ⟨Nat.le_trans g.1 hk, fun x hx => by
  obtain ⟨g1, ⟨g2, g3⟩, g4, g5⟩ := g.2 x hx
  exact ⟨Nat.le_trans g1 hk, Nat.le_trans g2 hk, fun a ha => ⟨Nat.le_trans (g3 a ha).1 hk, Nat.le_trans (g3 a ha).2 hk⟩, Nat.le_trans g4 hk, Nat.le_trans g5 hk⟩⟩
end Go.Proofs.YtcbhonddhmeibaaGreatDoor
end
section
set_option linter.unusedSimpArgs false
set_option linter.unusedVariables false
namespace Go.Proofs.K
open Go Go.Sim Go.Proofs
variable {G : Glob}
def c61 : SFun := ⟨.seq (.reg [o 6 (.mv (.c (.bool false)))]) (.seq (.reg [o 7 (.mv (.t 0)), o 8 (.mv (.t 1)), o 9 (.bin .geq (.t 7) (.t 8)), o 10 (.mv (.t 9)), ⟨some 11, .mv (.t 0), some (10, true)⟩, ⟨some 12, .mv (.t 2), some (10, true)⟩, ⟨some 13, .bin .leq (.t 11) (.t 12), some (10, true)⟩, o 14 (.pick (.t 10) (.t 13) (.c (.bool false))), o 6 (.mv (.t 14))]) .ret), [.tmp 6]⟩
theorem hc61 : X8 Tryz.prog {} Tryz.f61 = some c61 := by kernel_rfl
theorem between_ok (n a b : Int) : PCalls (Pg G) 61 [Y0 n, Y0 a, Y0 b] (.bool (decide (a <= n) && decide (n <= b))) := fun h => by
 refine Z9 Tryz.func61 (by kernel_rfl) hc61 (by rw [Tryz.ntmps61]; simp) (by rw [Tryz.ntmps61]; decide) ?_
 by_cases h1 : a <= n <;> by_cases h2 : n <= b <;> (
  simp -dsimp -implicitDefEqProofs (disch := omega) only [↓Q0 10, ↓Q1 10, VCA, Z1, ↓Q3, Nat.reduceEqDiff, Nat.reduceBEq, Nat.reduceAdd, Nat.reduceSub, Nat.reduceMul, Nat.reduceLT, Nat.reduceLeDiff, ↓reduceIte, reduceCtorEq, Z7, Q6, SOp.rd, SI.rd, SX.rd, rdL, rdO, rdP, Q5, Q4, Q2, Q8, Q7, Z0, implies_true, forall_const, forall_eq, ne_eq, exists_eq_right_right, exists_eq_right, exists_eq_left, exists_eq_left', Q9, c61, h1, h2, decide_true, decide_false, Bool.true_and, Bool.false_and]
  exact Sub.refl _)
end Go.Proofs.K
end
section
set_option linter.unusedSimpArgs false
set_option linter.unusedVariables false
namespace Go.Proofs.K
open Go Go.Sim Go.Proofs Go.Shelf
variable {G : Glob}
def bren : Ren := ⟨fun | 240 => 124 | 276 => 184 | n => n, fun | 37 => 83 | 0 => 0 | 4 => 4 | 9 => 9 | 20 => 20 | 70 => 82 | 72 => 85 | 164 => 189 | n => n, fun n => n⟩
theorem lays240 : Lays.n240 Tryz.prog bren := {
 mixed := by kernel_rfl
 f240 := Tryz.func124.trans (congrArg some (by kernel_rfl))
 f276 := Tryz.func184.trans (congrArg some (by kernel_rfl))
 t0 := Tryz.underlying0
 a0 := Tryz.isAgg0
 z0 := Tryz.sizeOf0
 v0 := Tryz.zeroValue0
 t4 := Tryz.underlying4
 a4 := Tryz.isAgg4
 z4 := Tryz.sizeOf4
 v4 := Tryz.zeroValue4
 t9 := Tryz.underlying9
 a9 := Tryz.isAgg9
 z9 := Tryz.sizeOf9
 v9 := Tryz.zeroValue9
 t20 := Tryz.underlying20
 a20 := Tryz.isAgg20
 z20 := Tryz.sizeOf20
 v20 := Tryz.zeroValue20
 t70 := Tryz.underlying82
 a70 := Tryz.isAgg82
 z70 := Tryz.sizeOf82
 v70 := Tryz.zeroValue82
 t72 := Tryz.underlying85
 a72 := Tryz.isAgg85
 z72 := Tryz.sizeOf85
 v72 := Tryz.zeroValue85
 t164 := Tryz.underlying189
 a164 := Tryz.isAgg189
 z164 := Tryz.sizeOf189
 v164 := Tryz.zeroValue189 }
theorem x72 : Builder.X72 Tryz.prog bren := {
 sizeBuilder := by kernel_rfl
 liesBuilder := by kernel_rfl }
abbrev Tb : Nat := 85
abbrev Tu : Nat := 5
def BP (rb : Nat) (p : AVal) : Prop := p = .prim (.pointer none) \/ p = .vp rb 0
theorem prim_inv {g : Ghost} {w : World} {u v : Value} (h : VRel g w u (.prim v)) : u = v := by cases h; rfl
theorem copyCheck_ok (rb : Nat) (h : J1) (p buf : AVal) (hp : BP rb p) (hr : h rb = some ⟨Tb, 2, [[p, buf]]⟩) {K : AVal -> J1 -> Prop} (hk : K (.tup []) (upd h rb (some ⟨Tb, 2, [[.vp rb 0, buf]]⟩))) :
  DCalls (Pg G) 124 [.vp rb 0] h K := by
 refine ⟨⟨_, Tryz.func124, by kernel_rfl, by kernel_rfl⟩, fun g w vs H GR V => ?_⟩
 obtain ⟨v, rfl, hv⟩ := V.one_inv
 obtain ⟨hlt, ⟨hb, hc⟩, rfl⟩ := hv.vp_inv
 have O := H.obj rb _ hr
 rcases O.block with h0 | ⟨hl, hf, cur, hcur, hsz, hcell⟩
 ·omega
 obtain ⟨lo, hi, hq, hlh⟩ := id hcur
 have hcs : cur.size = 2 := by have h1 : g.bo rb + g.cap rb * 2 = cur.size := hsz; omega
 obtain ⟨u, hu, ho, hvu⟩ := hcell 0 0 _ p rfl rfl
 obtain ⟨u2, hu2, ho2, hvu2⟩ := hcell 0 1 _ buf rfl rfl
 simp only [hb] at hu hu2
 have hw0 : w.cell? ⟨g.eta rb, 0, none⟩ = some u := by
  rw [hcur.cell]; exact hu
 rcases hp with rfl | rfl
 ·rw [prim_inv hvu] at hw0
  refine (Any.Builder_copyCheck_fresh lays240 x72 (g.eta rb) w hw0 ?_ ?_).mono ?_
  ·simp only [World.shape?, hq]; show some (Tb, cur.size) = some (Tb, 2); rw [hcs]
  ·simp [World.frozen?, hq]; omega
  ·rintro e w' ⟨rfl, rfl⟩
   rw [setCell_eq_setRow w _ _ cur _ _ _ hq]
   obtain ⟨S, H'⟩ := root_write H hr hcur (by omega) (cur.setIfInBounds 0 (.pointer (some ⟨g.eta rb, 0, none⟩))) (by simp) (es' := [[.vp rb 0, buf]]) (by simp) (by simp; omega) (fun i j e x he hx => by
    cases i with
    | succ i => simp at he
    | zero =>
     simp at he; subst he
     cases j with
     | zero => simp at hx; subst hx; exact ⟨_, by simp [hb, hcs], rfl, .vp rb 0 hlt hb hc⟩
     | succ j =>
      cases j with
      | zero => simp at hx; subst hx; exact ⟨u2, by simpa [hb] using hu2, ho2, hvu2⟩
      | succ j => simp at hx)
   exact ⟨_, _, _, g, rfl, hk, H', .tup #[] [] rfl (fun j u a hu => by simp at hu), S⟩
 ·obtain ⟨_, _, hu'⟩ := hvu.vp_inv
  rw [hu'] at hw0
  refine (Any.Builder_copyCheck_used lays240 x72 (g.eta rb) w hw0).mono ?_
  rintro e w' ⟨rfl, rfl⟩
  have : upd h rb (some ⟨Tb, 2, [[.vp rb 0, buf]]⟩) = h := upd_id hr
  rw [this] at hk
  exact ⟨_, _, h, g, rfl, hk, H, .tup #[] [] rfl (fun j u a hu => by simp at hu), GS.refl g _⟩
def Bl (h0 : J1) (rb : Nat) (s : List UInt8) (h : J1) : Prop := h0 rb = none /\ ∃ p buf, BP rb p /\ (buf ≠ .emp -> s ≠ []) /\ Acc (upd h0 rb (some ⟨Tb, 2, [[p, buf]]⟩)) Tu 1 (Y5 s) buf h /\ Sub (upd h0 rb (some ⟨Tb, 2, [[p, buf]]⟩)) h
theorem acc_at {h0 h : J1} {rb ty sz : Nat} {x y : AObj} {cells : List (List AVal)} {a : AVal} (A : Acc (upd h0 rb (some x)) ty sz cells a h) : Acc (upd h0 rb (some y)) ty sz cells a (upd h rb (some y)) := by
 rcases A with h | ⟨r, h1, h2, h3⟩
 ·exact .inl h
 ·have hne : r ≠ rb := by rintro rfl; simp at h1
  refine .inr ⟨r, ?_, ?_, h3⟩
  ·unfold Sim.upd at h1 ⊢; simpa [hne] using h1
  ·unfold Sim.upd; simpa [hne] using h2
theorem sub_at {h0 h : J1} {rb : Nat} {x y : AObj} (S : Sub (upd h0 rb (some x)) h) : Sub (upd h0 rb (some y)) (upd h rb (some y)) := by
 intro t o ht
 by_cases hne : t = rb
 ·subst hne; simpa [Sim.upd] using ht
 ·have := S t o (by simpa [Sim.upd, hne] using ht)
  simpa [Sim.upd, hne] using this
theorem sub_is {h0 h : J1} {rb : Nat} {x : AObj} (S : Sub (upd h0 rb (some x)) h) : h rb = some x := S rb x (by simp [Sim.upd])
theorem sub_off {h0 h : J1} {rb : Nat} {x : AObj} (h1 : h0 rb = none) (S : Sub (upd h0 rb (some x)) h) : Sub h0 h := by
 intro t o ht
 have hne : t ≠ rb := by rintro rfl; rw [h1] at ht; cases ht
 exact S t o (by simpa [Sim.upd, hne] using ht)
theorem Bl.new (h : J1) (rb : Nat) (h0 : h rb = none) : Bl h rb [] (upd h rb (some ⟨Tb, 2, [[.prim (.pointer none), .emp]]⟩)) :=
 ⟨h0, _, _, .inl rfl, fun h => absurd rfl h, Acc.nil, Sub.refl _⟩
theorem Bl.sub {h0 h : J1} {rb : Nat} {s : List UInt8} (B : Bl h0 rb s h) : Sub h0 h := by
 obtain ⟨h1, p, buf, _, _, _, S⟩ := B
 exact sub_off h1 S
def c51 : SFun := ⟨.seq (.reg [o 4 (.mv (.c (.int .i64 0))), o 5 (.mv (.c (.prim .nilIface)))]) (.seq (.reg [o 6 (.mv (.t 0)), o 7 (.call (.c (.fn 124 [] [])) [.t 6])]) (.seq (.reg [o 8 (.mv (.t 0)), o 9 (.mv (.t 0)), o 10 (.fldA 0 (.t 9)), o 11 (.fldA 1 (.t 10)), o 12 (.ld 1 false (.t 11)), o 13 (.mv (.t 1)), o 14 (.appS 5 1 (.t 12) (.t 13)), o 15 (.fldA 0 (.t 8)), o 16 (.fldA 1 (.t 15)), ⟨none, .st 1 (.t 16) (.t 14), none⟩]) (.seq (.reg [o 17 (.mv (.t 1)), o 18 (.lenS (.t 17)), o 4 (.mv (.t 18)), o 5 (.mv (.c (.prim .nilIface)))]) .ret))), [.tmp 4, .tmp 5]⟩
theorem hc51 : X8 Tryz.prog {} Tryz.f51 = some c51 := by kernel_rfl
theorem hn51 : (Tryz.f51.name == "runtime.NumGoroutine") = false := by kernel_rfl
theorem writeString_ok {h0 h : J1} {rb : Nat} {s : List UInt8} (t : List UInt8) (B : Bl h0 rb s h) (hs : s.length + t.length <= 140737488355328) :
  DCalls (Pg G) 51 [.vp rb 0, .str t] h fun a h' => a = .tup [Y0 t.length, .prim .nilIface] /\ Bl h0 rb (s ++ t) h' := by
 obtain ⟨hn, p, buf, hp, hnb, A, S⟩ := B
 refine Z9 Tryz.func51 hn51 hc51 (by rw [Tryz.ntmps51]; simp) (by rw [Tryz.ntmps51]; decide) ?_
 simp -dsimp -implicitDefEqProofs (disch := omega) only [VCA, Z1, ↓Q3, Nat.reduceEqDiff, Nat.reduceBEq, Nat.reduceAdd, Nat.reduceSub, Nat.reduceMul, Nat.reduceLT, Nat.reduceLeDiff, ↓reduceIte, reduceCtorEq, Z7, Q6, SOp.rd, SI.rd, SX.rd, rdL, rdO, rdP, Q5, Q4, Q2, Q8, Q7, Z0, implies_true, forall_const, forall_eq, ne_eq, exists_eq_right_right, exists_eq_right, exists_eq_left, exists_eq_left', Q9, c51]
 refine copyCheck_ok rb h p buf hp (sub_is S) ?_
 simp -dsimp -implicitDefEqProofs (disch := omega) only [VCA, Z1, ↓Q3, Nat.reduceEqDiff, Nat.reduceBEq, Nat.reduceAdd, Nat.reduceSub, Nat.reduceMul, Nat.reduceLT, Nat.reduceLeDiff, ↓reduceIte, reduceCtorEq, Z7, Q6, SOp.rd, SI.rd, SX.rd, rdL, rdO, rdP, Q5, Q4, Q2, Q8, Q7, Z0, implies_true, forall_const, forall_eq, ne_eq, exists_eq_right_right, exists_eq_right, exists_eq_left, exists_eq_left', Q9]
 by_cases he : buf = .emp /\ t = []
 ·obtain ⟨rfl, rfl⟩ := he
  refine .inl ⟨rfl, rfl, ?_⟩
  simp -dsimp -implicitDefEqProofs (disch := omega) only [VCA, Z1, ↓Q3, Nat.reduceEqDiff, Nat.reduceBEq, Nat.reduceAdd, Nat.reduceSub, Nat.reduceMul, Nat.reduceLT, Nat.reduceLeDiff, ↓reduceIte, reduceCtorEq, Z7, Q6, SOp.rd, SI.rd, SX.rd, rdL, rdO, rdP, Q5, Q4, Q2, Q8, Q7, Z0, implies_true, forall_const, forall_eq, ne_eq, exists_eq_right_right, exists_eq_right, exists_eq_left, exists_eq_left', Q9]
  exact ⟨_, Sub.refl _, hn, _, _, .inr rfl, fun q => absurd rfl q, by simpa using acc_at A, sub_at S⟩
 have hne : s ++ t ≠ [] := fun q => by
  obtain ⟨rfl, rfl⟩ := List.append_eq_nil_iff.1 q
  exact he ⟨Classical.byContradiction fun q => hnb q rfl, rfl⟩
 refine .inr ((acc_at A).app (sub_at S) (by simp [Y5]; omega) (by simp [Y5]; omega) fun a' h3 A' S' => ?_)
 obtain ⟨hv, hc⟩ : isV a' = true /\ cellsOf a' = [a'] := by
  rcases A' with ⟨_, rfl⟩ | ⟨r, _, _, rfl⟩ <;> exact ⟨rfl, rfl⟩
 simp -dsimp -implicitDefEqProofs (disch := omega) only [VCA, Z1, ↓Q3, Nat.reduceEqDiff, Nat.reduceBEq, Nat.reduceAdd, Nat.reduceSub, Nat.reduceMul, Nat.reduceLT, Nat.reduceLeDiff, ↓reduceIte, reduceCtorEq, Z7, Q6, SOp.rd, SI.rd, SX.rd, rdL, rdO, rdP, Q5, Q4, Q2, Q8, Q7, Z0, implies_true, forall_const, forall_eq, ne_eq, exists_eq_right_right, exists_eq_right, exists_eq_left, exists_eq_left', Q9, sub_is S', hv, hc]
 exact ⟨_, Sub.refl _, hn, _, _, .inr rfl, fun _ => hne, by simpa [Y5] using acc_at A', sub_at S'⟩
def c54 : SFun := ⟨.seq (.reg [o 2 (.mv (.c (.str [])))]) (.seq (.dreg [(o 3 (.mv (.t 0)), none), (o 4 (.fldA 0 (.t 3)), none), (o 5 (.fldA 1 (.t 4)), none), (o 6 (.ld 1 false (.t 5)), none), (o 8 (.mv (.t 0)), none), (o 9 (.fldA 0 (.t 8)), none), (o 10 (.fldA 1 (.t 9)), none), (o 11 (.ld 1 false (.t 10)), none), (o 12 (.len (.t 11)), none), (o 7 (.usd (.t 6)), (some [6])), (o 13 (.ustr 5 (.t 7) (.t 12)), (some [6, 11])), (o 2 (.mv (.t 13)), none)]) .ret), [.tmp 2]⟩
theorem hc54 : X8 Tryz.prog {} Tryz.f54 = some c54 := by kernel_rfl
theorem hn54 : (Tryz.f54.name == "runtime.NumGoroutine") = false := by kernel_rfl
theorem string_ok {h0 h : J1} {rb : Nat} {s : List UInt8} (B : Bl h0 rb s h) (hs : s.length < 140737488355328) :
  DCalls (Pg G) 54 [.vp rb 0] h fun a h' => a = .str s /\ Sub h0 h' := by
 obtain ⟨hn, p, buf, hp, hne, A, S⟩ := B
 refine Z9 Tryz.func54 hn54 hc54 (by rw [Tryz.ntmps54]; simp) (by rw [Tryz.ntmps54]; decide) ?_
 rcases A with ⟨he, rfl⟩ | ⟨r, h1, h2, rfl⟩
 ·have hs0 : s = [] := by simpa [Y5] using he
  subst hs0
  simp -dsimp -implicitDefEqProofs (disch := omega) only [VCA, Z1, ↓Q3, Nat.reduceEqDiff, Nat.reduceBEq, Nat.reduceAdd, Nat.reduceSub, Nat.reduceMul, Nat.reduceLT, Nat.reduceLeDiff, ↓reduceIte, reduceCtorEq, Z7, Q6, SOp.rd, SI.rd, SX.rd, rdL, rdO, rdP, Q5, Q4, Q2, Q8, Q7, Z0, implies_true, forall_const, forall_eq, ne_eq, exists_eq_right_right, exists_eq_right, exists_eq_left, exists_eq_left', Q9, c54, sub_is S]
  exact ⟨_, Sub.refl _, sub_off hn S⟩
 ·have hs1 : s ≠ [] := hne (by intro h; cases h)
  have hs2 : 0 < s.length := List.length_pos_iff.2 hs1
  have h1' : h0 r = none /\ r ≠ rb := by
   have hne : r ≠ rb := by rintro rfl; simp at h1
   exact ⟨by simpa [Sim.upd, hne] using h1, hne⟩
  simp -dsimp -implicitDefEqProofs (disch := omega) only [VCA, Z1, ↓Q3, Nat.reduceEqDiff, Nat.reduceBEq, Nat.reduceAdd, Nat.reduceSub, Nat.reduceMul, Nat.reduceLT, Nat.reduceLeDiff, ↓reduceIte, reduceCtorEq, Z7, Q6, SOp.rd, SI.rd, SX.rd, rdL, rdO, rdP, Q5, Q4, Q2, Q8, Q7, Z0, implies_true, forall_const, forall_eq, ne_eq, exists_eq_right_right, exists_eq_right, exists_eq_left, exists_eq_left', Q9, c54, sub_is S]
  have hl : (Y5 s).length = s.length := by simp [Y5]
  refine ⟨by omega, s, _, h2, rfl, rfl, by simp [Y5], List.take_of_length_le (by simp [Y5]), by simp [Y5], hs1, by omega, ?_⟩
  simp -dsimp -implicitDefEqProofs (disch := omega) only [VCA, Z1, ↓Q3, Nat.reduceEqDiff, Nat.reduceBEq, Nat.reduceAdd, Nat.reduceSub, Nat.reduceMul, Nat.reduceLT, Nat.reduceLeDiff, ↓reduceIte, reduceCtorEq, Z7, Q6, SOp.rd, SI.rd, SX.rd, rdL, rdO, rdP, Q5, Q4, Q2, Q8, Q7, Z0, implies_true, forall_const, forall_eq, ne_eq, exists_eq_right_right, exists_eq_right, exists_eq_left, exists_eq_left', Q9, sub_is S]
  first
   | exact ⟨_, Sub.refl _, Sub.del (sub_off hn S) h1'.1⟩
   | (refine ⟨?_, _, Sub.refl _, Sub.del (sub_off hn S) h1'.1⟩; rw [<- sub_is S]; simp [Sim.del, Ne.symm h1'.2])
theorem f128 (x : Int) : bitF .or .u8 128 (bitF .and .u8 (IntKind.u8.wrap x) 63) = 128 + x % 64 := by
 rw [IntKind.wrap_u8]
 have h1 : bitF .and .u8 (x % 256) 63 = x % 256 % 64 := u8_and63 _ (by omega) (by omega)
 have h2 : bitF .or .u8 128 (x % 256 % 64) = 128 + x % 256 % 64 := u8_or128 _ (by omega) (by omega)
 rw [h1, h2]; omega
theorem f224 {x : Int} (h0 : 0 <= x) (h1 : x < 16) : bitF .or .u8 224 (IntKind.u8.wrap x) = 224 + x := by
 rw [IntKind.wrap_u8, Int.emod_eq_of_lt h0 (by omega)]; exact u8_or224 _ h0 h1
theorem f240 {x : Int} (h0 : 0 <= x) (h1 : x < 8) : bitF .or .u8 240 (IntKind.u8.wrap x) = 240 + x := by
 rw [IntKind.wrap_u8, Int.emod_eq_of_lt h0 (by omega)]; exact u8_or240 _ h0 h1
end Go.Proofs.K
end
section
set_option linter.unusedSimpArgs false
set_option linter.unusedVariables false
namespace Go.Proofs.K
open Go Go.Sim Go.Proofs
variable {G : Glob}
def eRune (r : Int) : List AVal := [.int .i32 r]
instance : LenE eRune 1 := ⟨fun _ => rfl⟩
def bt (s : List UInt8) (i : Nat) : Int := ((s.getD i 0).toNat : Int)
def AccV (h0 : J1) (r0 tv ty sz : Nat) (cells : List (List AVal)) (h : J1) : Prop := h0 r0 = none /\ ∃ a, Acc (upd h0 r0 (some ⟨tv, 1, [[a]]⟩)) ty sz cells a h /\ Sub (upd h0 r0 (some ⟨tv, 1, [[a]]⟩)) h
theorem AccV.new {h0 : J1} {r0 tv ty sz : Nat} (h : h0 r0 = none) : AccV h0 r0 tv ty sz [] (upd h0 r0 (some ⟨tv, 1, [[.emp]]⟩)) := ⟨h, .emp, Acc.nil, Sub.refl _⟩
theorem Acc.lend {α : Type} [Inhabited α] {enc : α -> List AVal} {P : PG} {h h' : J1} {ty sz f : Nat} [LenE enc sz] {L : List α} {a v : AVal} {K : AVal -> J1 -> Prop} (A : Acc h ty sz (L.map enc) a h') (hp : PCalls P f [sl enc L] v) (hs : Scal v) (hk : K v h') : Hd (DCalls P f [a] h') K .mk := by
 rcases A with ⟨h1, rfl⟩ | ⟨r, _, hr, rfl⟩
 ·have : L = [] := by simpa using h1
  subst this
  exact PCalls.of (hp.wk (.cons .emp .nil)) hk
 ·exact PCalls.borrow1 hp hs hr (Nat.le_refl _) (by rw [List.take_length]) hk
theorem upd_comm {α : Type} (f : Nat -> α) {a b : Nat} (h : a ≠ b) (x y : α) : upd (upd f a x) b y = upd (upd f b y) a x := by
 funext t; unfold upd; by_cases h1 : t = a <;> by_cases h2 : t = b <;> simp_all
theorem Bl.beside {h0 h : J1} {rb rl : Nat} {s : List UInt8} {x y : AObj} (hne : rl ≠ rb) (B : Bl (upd h0 rl (some x)) rb s h) : Bl (upd h0 rl (some y)) rb s (upd h rl (some y)) := by
 obtain ⟨h1, p, buf, hp, hb, A, S⟩ := B
 rw [upd_comm _ hne] at A S
 refine ⟨by simpa [Sim.upd, hne.symm] using h1, p, buf, hp, hb, ?_, ?_⟩
 ·rw [upd_comm _ hne]; exact acc_at A
 ·rw [upd_comm _ hne]; exact sub_at S
def hasPre (s p : List UInt8) : Bool := decide (p.length <= s.length) && s.take p.length == p
def c180 : SFun := ⟨.seq (.reg [o 4 (.mv (.c (.bool false)))]) (.seq (.reg [o 5 (.mv (.t 0)), o 6 (.lenS (.t 5)), o 7 (.mv (.t 1)), o 8 (.lenS (.t 7)), o 9 (.bin .geq (.t 6) (.t 8)), o 10 (.mv (.t 9)), ⟨some 11, .mv (.t 0), some (10, true)⟩, ⟨some 12, .mv (.t 1), some (10, true)⟩, ⟨some 13, .lenS (.t 12), some (10, true)⟩, ⟨some 14, .slS (.t 11) none (some (.t 13)), some (10, true)⟩, ⟨some 15, .mv (.t 1), some (10, true)⟩, ⟨some 16, .bin .eql (.t 14) (.t 15), some (10, true)⟩, o 17 (.pick (.t 10) (.t 16) (.c (.bool false))), o 4 (.mv (.t 17))]) .ret), [.tmp 4]⟩
theorem hc180 : X8 Tryz.prog {} Tryz.f180 = some c180 := by kernel_rfl
theorem slHasPre_ok (s p : List UInt8) (hs : s.length <= 1073741824) (hp : p.length <= 1073741824) : PCalls (Pg G) 180 [.str s, .str p] (.bool (hasPre s p)) := fun h => by
 refine Z9 Tryz.func180 (by kernel_rfl) hc180 (by rw [Tryz.ntmps180]; simp) (by rw [Tryz.ntmps180]; decide) ?_
 simp -dsimp -implicitDefEqProofs (disch := omega) only [↓Q0 10, ↓Q1 10, VCA, Z1, ↓Q3, Nat.reduceEqDiff, Nat.reduceBEq, Nat.reduceAdd, Nat.reduceSub, Nat.reduceMul, Nat.reduceLT, Nat.reduceLeDiff, ↓reduceIte, reduceCtorEq, Z7, Q6, SOp.rd, SI.rd, SX.rd, rdL, rdO, rdP, Q5, Q4, Q2, Q8, Q7, Z0, implies_true, forall_const, forall_eq, ne_eq, exists_eq_right_right, exists_eq_right, exists_eq_left, exists_eq_left', Q9, eRune, c180]
 refine Br.dec (fun h1 => ?_) (fun h1 => ?_)
 ·simp -dsimp -implicitDefEqProofs (disch := omega) only [↓Q0 10, ↓Q1 10, VCA, Z1, ↓Q3, Nat.reduceEqDiff, Nat.reduceBEq, Nat.reduceAdd, Nat.reduceSub, Nat.reduceMul, Nat.reduceLT, Nat.reduceLeDiff, ↓reduceIte, reduceCtorEq, Z7, Q6, SOp.rd, SI.rd, SX.rd, rdL, rdO, rdP, Q5, Q4, Q2, Q8, Q7, Z0, implies_true, forall_const, forall_eq, ne_eq, exists_eq_right_right, exists_eq_right, exists_eq_left, exists_eq_left', Q9, eRune]
  have h1' : p.length <= s.length := by omega
  refine ⟨by omega, Sub.refl _, ?_⟩
  simp [hasPre, h1']
 ·simp -dsimp -implicitDefEqProofs (disch := omega) only [↓Q0 10, ↓Q1 10, VCA, Z1, ↓Q3, Nat.reduceEqDiff, Nat.reduceBEq, Nat.reduceAdd, Nat.reduceSub, Nat.reduceMul, Nat.reduceLT, Nat.reduceLeDiff, ↓reduceIte, reduceCtorEq, Z7, Q6, SOp.rd, SI.rd, SX.rd, rdL, rdO, rdP, Q5, Q4, Q2, Q8, Q7, Z0, implies_true, forall_const, forall_eq, ne_eq, exists_eq_right_right, exists_eq_right, exists_eq_left, exists_eq_left', Q9, eRune]
  have h1' : ¬ p.length <= s.length := by omega
  exact ⟨Sub.refl _, by simp [hasPre, h1']⟩
def c120 : SFun := ⟨.seq (.reg [o 4 (.mv (.c (.bool false)))]) (.seq (.reg [o 5 (.mv (.t 0)), o 6 (.mv (.t 1)), o 7 (.pcall 180 [.t 5, .t 6]), o 4 (.mv (.t 7))]) .ret), [.tmp 4]⟩
theorem hc120 : X8 Tryz.prog {pure := [180]} Tryz.f120 = some c120 := by kernel_rfl
theorem hasPre_ok (s p : List UInt8) (hs : s.length <= 1073741824) (hp : p.length <= 1073741824) : PCalls (Pg G) 120 [.str s, .str p] (.bool (hasPre s p)) := fun h => by
 refine Z9 Tryz.func120 (by kernel_rfl) hc120 (by rw [Tryz.ntmps120]; simp) (by rw [Tryz.ntmps120]; decide) ?_
 simp -dsimp -implicitDefEqProofs (disch := omega) only [VCA, Z1, ↓Q3, Nat.reduceEqDiff, Nat.reduceBEq, Nat.reduceAdd, Nat.reduceSub, Nat.reduceMul, Nat.reduceLT, Nat.reduceLeDiff, ↓reduceIte, reduceCtorEq, Z7, Q6, SOp.rd, SI.rd, SX.rd, rdL, rdO, rdP, Q5, Q4, Q2, Q8, Q7, Z0, implies_true, forall_const, forall_eq, ne_eq, exists_eq_right_right, exists_eq_right, exists_eq_left, exists_eq_left', Q9, eRune, c120]
 refine pcallE.of (slHasPre_ok s p hs hp) ?_; simp -dsimp -implicitDefEqProofs (disch := omega) only [VCA, Z1, ↓Q3, Nat.reduceEqDiff, Nat.reduceBEq, Nat.reduceAdd, Nat.reduceSub, Nat.reduceMul, Nat.reduceLT, Nat.reduceLeDiff, ↓reduceIte, reduceCtorEq, Z7, Q6, SOp.rd, SI.rd, SX.rd, rdL, rdO, rdP, Q5, Q4, Q2, Q8, Q7, Z0, implies_true, forall_const, forall_eq, ne_eq, exists_eq_right_right, exists_eq_right, exists_eq_left, exists_eq_left', Q9, eRune]
 exact Sub.refl _
structure EName where
 word : List UInt8
 sign : Int
 bare : Bool
deriving DecidableEq, Inhabited
def eName (x : EName) : List AVal := [.str x.word, .int .i32 x.sign, .bool x.bare]
instance : LenE eName 3 := ⟨fun _ => rfl⟩
def entO : List (Nat × Nat × Nat) := [(0, 3, 6), (7, 9, 12), (13, 15, 18), (19, 23, 26), (27, 31, 35), (36, 40, 44), (45, 48, 52), (53, 58, 62), (63, 69, 73), (74, 80, 84), (85, 89, 93), (94, 98, 102), (103, 107, 111), (112, 117, 121), (122, 125, 129), (130, 134, 138), (139, 144, 148), (149, 153, 157), (158, 162, 166), (167, 173, 177), (178, 181, 185), (186, 189, 193), (194, 200, 204), (205, 211, 215), (216, 220, 223), (224, 230, 235), (236, 241, 246), (247, 252, 257), (258, 263, 268), (269, 274, 279), (280, 285, 290), (291, 296, 301), (302, 306, 311), (312, 316, 321), (322, 327, 332), (333, 337, 342), (343, 347, 352), (353, 358, 363), (364, 366, 371), (372, 374, 379), (380, 382, 387), (388, 393, 398), (399, 404, 408), (409, 413, 417), (418, 420, 424), (425, 428, 433), (434, 439, 444), (445, 449, 455)]
def k226_1 : List UInt8 := [97, 109, 112, 42, 51, 56, 32, 108, 116, 42, 54, 48, 32, 103, 116, 42, 54, 50, 32, 113, 117, 111, 116, 42, 51, 52, 32, 110, 98, 115, 112, 42, 49, 54, 48, 32, 99, 111, 112, 121, 42, 49, 54, 57, 32, 114, 101, 103, 42, 49, 55, 52, 32, 116, 105, 109, 101, 115, 42, 50, 49, 53, 32, 100, 105, 118, 105, 100, 101, 42, 50, 52, 55, 32, 101, 97, 99, 117, 116, 101, 42, 50, 51, 51, 32, 97, 117, 109, 108, 42, 50, 50, 56, 32, 111, 117, 109, 108, 42, 50, 52, 54, 32, 117, 117, 109, 108, 42, 50, 53, 50, 32, 115, 122, 108, 105, 103, 42, 50, 50, 51, 32, 121, 101, 110, 42, 49, 54, 53, 32, 99, 101, 110, 116, 42, 49, 54, 50, 32, 112, 111, 117, 110, 100, 42, 49, 54, 51, 32, 115, 101, 99, 116, 42, 49, 54, 55, 32, 112, 97, 114, 97, 42, 49, 56, 50, 32, 109, 105, 100, 100, 111, 116, 42, 49, 56, 51, 32, 110, 111, 116, 42, 49, 55, 50, 32, 100, 101, 103, 42, 49, 55, 54, 32, 102, 114, 97, 99, 49, 50, 42, 49, 56, 57, 32, 102, 114, 97, 99, 49, 52, 42, 49, 56, 56, 32, 97, 112, 111, 115, 58, 51, 57, 32, 104, 101, 108, 108, 105, 112, 58, 56, 50, 51, 48, 32, 109, 100, 97, 115, 104, 58, 56, 50, 49, 50, 32, 110, 100, 97, 115, 104, 58, 56, 50, 49, 49, 32, 108, 115, 113, 117, 111, 58, 56, 50, 49, 54, 32, 114, 115, 113, 117, 111, 58, 56, 50, 49, 55, 32, 108, 100, 113, 117, 111, 58, 56, 50, 50, 48, 32, 114, 100, 113, 117, 111, 58, 56, 50, 50, 49, 32, 98, 117, 108, 108, 58, 56, 50, 50, 54, 32, 101, 117, 114, 111, 58, 56, 51, 54, 52, 32, 116, 114, 97, 100, 101, 58, 56, 52, 56, 50, 32, 108, 97, 114, 114, 58, 56, 53, 57, 50, 32, 114, 97, 114, 114, 58, 56, 53, 57, 52, 32, 105, 110, 102, 105, 110, 58, 56, 55, 51, 52, 32, 110, 101, 58, 56, 56, 48, 48, 32, 108, 101, 58, 56, 56, 48, 52, 32, 103, 101, 58, 56, 56, 48, 53, 32, 110, 111, 116, 105, 110, 58, 56, 55, 49, 51, 32, 97, 108, 112, 104, 97, 58, 57, 52, 53, 32, 98, 101, 116, 97, 58, 57, 52, 54, 32, 112, 105, 58, 57, 54, 48, 32, 115, 117, 109, 58, 56, 55, 50, 49, 32, 109, 105, 110, 117, 115, 58, 56, 55, 50, 50, 32, 108, 97, 110, 103, 58, 49, 48, 50, 49, 54, 32]
def tabT : List UInt8 := k226_1
def numAt (t : List UInt8) (a : Nat) : Nat -> Int
 | 0 => 0
 | m + 1 => 10 * numAt t a m + (bt t (a + m) - 48)
def offN (j : Nat) : Nat := if j < 48 then (nth entO j).1 else tabT.length
structure RowOK (j o e k : Nat) (x : EName) : Prop where
 a1 : ∀ i, o <= i -> i < e -> bt tabT i ≠ 42 /\ bt tabT i ≠ 58
 a2 : bt tabT e = 42 \/ bt tabT e = 58
 a3 : ∀ i, e < i -> i < k -> bt tabT i ≠ 32 /\ 48 <= bt tabT i /\ bt tabT i < 58
 a4 : bt tabT k = 32
 a5 : o < e
 a6 : e < k
 a7 : k < tabT.length
 a8 : offN (j + 1) = k + 1
 a9 : (tabT.take e).drop o = x.word
 a10 : (bt tabT e == 42) = x.bare
 a11 : numAt tabT (e + 1) (k - e - 1) = x.sign
 a12 : ∀ m, m < k - e -> 0 <= numAt tabT (e + 1) m /\ numAt tabT (e + 1) m <= 100000
structure EOK (x : EName) : Prop where
 a1 : 1 <= x.word.length
 a2 : x.word.length <= 6
 a3 : x.word.getLastD 0 ≠ 59
 a4 : 13 < x.sign
 a5 : x.sign < 65533
def firstF (q : Nat -> Bool) : Nat -> Nat -> Nat
 | 0, a => a
 | f + 1, a => if q a = true then a else firstF q f (a + 1)
def firstM (q : Nat -> Bool) (n a : Nat) : Nat := firstF q (n - a) a
theorem first_on {q : Nat -> Bool} {n a : Nat} (h : a < n) (hq : q a = false) : firstM q n a = firstM q n (a + 1) := by
 unfold firstM
 obtain ⟨f, hf⟩ : ∃ f, n - a = f + 1 := ⟨n - a - 1, by omega⟩
 rw [hf, show n - (a + 1) = f by omega, firstF, hq, if_neg (by simp)]
theorem first_off {q : Nat -> Bool} {n a : Nat} (hq : q a = true) (h : a < n) : firstM q n a = a := by
 unfold firstM
 obtain ⟨f, hf⟩ : ∃ f, n - a = f + 1 := ⟨n - a - 1, by omega⟩
 rw [hf, firstF, hq, if_pos rfl]
theorem first_end {q : Nat -> Bool} {n a : Nat} (h : n <= a) : firstM q n a = a := by
 unfold firstM
 rw [show n - a = 0 by omega]; rfl
structure FirstIs (q : Nat -> Bool) (n a k : Nat) : Prop where
 ge : a <= k
 le : k <= n
 hit : k < n -> q k = true
 no : ∀ j, a <= j -> j < k -> q j = false
theorem first_is {q : Nat -> Bool} {n : Nat} : ∀ m a, n - a = m -> a <= n -> FirstIs q n a (firstM q n a)
 | 0, a, hm, h => by
  obtain rfl : a = n := by omega
  rw [first_end (Nat.le_refl _)]
  exact ⟨Nat.le_refl _, Nat.le_refl _, fun h => absurd h (Nat.lt_irrefl _), fun j h1 h2 => by omega⟩
 | m + 1, a, hm, h => by
  cases hq : q a with
  | true =>
   rw [first_off hq (by omega)]
   exact ⟨Nat.le_refl _, h, fun _ => hq, fun j h1 h2 => by omega⟩
  | false =>
   rw [first_on (by omega) hq]
   obtain ⟨h1, h2, h3, h4⟩ := first_is (q := q) (n := n) m (a + 1) (by omega) (by omega)
   refine ⟨by omega, h2, h3, fun j g1 g2 => ?_⟩
   by_cases e : j = a
   ·rw [e]; exact hq
   ·exact h4 j (by omega) g2
theorem fstI {q : Nat -> Bool} {n a : Nat} (h : a <= n) : FirstIs q n a (firstM q n a) := first_is _ a rfl h
theorem FirstIs.eq {q : Nat -> Bool} {n a k : Nat} (h : FirstIs q n a k) : firstM q n a = k := by
 have g := fstI (q := q) (n := n) (a := a) (Nat.le_trans h.ge h.le)
 rcases Nat.lt_trichotomy (firstM q n a) k with hl | he | hl
 ·have h1 := h.no _ g.ge hl
  rw [g.hit (Nat.lt_of_lt_of_le hl h.le)] at h1; cases h1
 ·exact he
 ·have h1 := g.no _ h.ge hl
  rw [h.hit (Nat.lt_of_lt_of_le hl g.le)] at h1; cases h1
def rawM (nm : List UInt8) : Int := if nm = [115, 99, 114, 105, 112, 116] \/ nm = [115, 116, 121, 108, 101] then 1 else if nm = [116, 101, 120, 116, 97, 114, 101, 97] \/ nm = [116, 105, 116, 108, 101] then 2 else 0
structure HTok where
 kind : Int
 name : List UInt8
 attrs : List HAttr
 text : List UInt8
 self : Bool
 frm : Int
 til : Int
deriving DecidableEq, Inhabited
def eTok (t : HTok) : List AVal := [Y0 t.kind, .str t.name, sl Z3 t.attrs, .str t.text, .bool t.self, Y0 t.frm, Y0 t.til]
instance : LenE eTok 7 := ⟨fun _ => rfl⟩
end Go.Proofs.K
end
section
namespace Go.Proofs
open Go.Shelf
def Tryz.lays161_ren : Go.Shelf.Ren := ⟨fun | 161 => 137 | 231 => 192 | 227 => 193 | 233 => 194 | 235 => 195 | 228 => 234 | 197 => 209 | 151 => 235 | 260 => 243 | 152 => 253 | 137 => 153 | 119 => 270 | 224 => 245 | 225 => 244 | 217 => 206 | 266 => 241 | n => n, fun | 9 => 9 | 4 => 4 | 3 => 3 | 5 => 5 | 117 => 198 | 116 => 197 | 0 => 0 | 124 => 201 | 105 => 210 | 21 => 21 | 119 => 246 | 46 => 177 | 139 => 249 | 138 => 248 | n => n, fun | 3 => 4 | 4 => 5 | n => n⟩
theorem Tryz.lays161 : Go.Proofs.Lays.n161 Tryz.prog Tryz.lays161_ren := {
 mixed := by kernel_rfl
 f119 := Tryz.func270.trans (congrArg some (by kernel_rfl))
 f137 := Tryz.func153.trans (congrArg some (by kernel_rfl))
 f151 := Tryz.func235.trans (congrArg some (by kernel_rfl))
 f152 := Tryz.func253.trans (congrArg some (by kernel_rfl))
 f161 := Tryz.func137.trans (congrArg some (by kernel_rfl))
 f197 := Tryz.func209.trans (congrArg some (by kernel_rfl))
 f217 := Tryz.func206.trans (congrArg some (by kernel_rfl))
 f224 := Tryz.func245.trans (congrArg some (by kernel_rfl))
 f225 := Tryz.func244.trans (congrArg some (by kernel_rfl))
 f227 := Tryz.func193.trans (congrArg some (by kernel_rfl))
 f228 := Tryz.func234.trans (congrArg some (by kernel_rfl))
 f231 := Tryz.func192.trans (congrArg some (by kernel_rfl))
 f233 := Tryz.func194.trans (congrArg some (by kernel_rfl))
 f235 := Tryz.func195.trans (congrArg some (by kernel_rfl))
 f260 := Tryz.func243.trans (congrArg some (by kernel_rfl))
 f266 := Tryz.func241.trans (congrArg some (by kernel_rfl))
 t0 := Tryz.underlying0
 a0 := Tryz.isAgg0
 z0 := Tryz.sizeOf0
 v0 := Tryz.zeroValue0
 t3 := Tryz.underlying3
 a3 := Tryz.isAgg3
 z3 := Tryz.sizeOf3
 v3 := Tryz.zeroValue3
 t4 := Tryz.underlying4
 a4 := Tryz.isAgg4
 z4 := Tryz.sizeOf4
 v4 := Tryz.zeroValue4
 t5 := Tryz.underlying5
 a5 := Tryz.isAgg5
 z5 := Tryz.sizeOf5
 v5 := Tryz.zeroValue5
 t9 := Tryz.underlying9
 a9 := Tryz.isAgg9
 z9 := Tryz.sizeOf9
 v9 := Tryz.zeroValue9
 t21 := Tryz.underlying21
 a21 := Tryz.isAgg21
 z21 := Tryz.sizeOf21
 v21 := Tryz.zeroValue21
 t46 := Tryz.underlying177
 a46 := Tryz.isAgg177
 z46 := Tryz.sizeOf177
 v46 := Tryz.zeroValue177
 t105 := Tryz.underlying210
 a105 := Tryz.isAgg210
 z105 := Tryz.sizeOf210
 v105 := Tryz.zeroValue210
 t116 := Tryz.underlying197
 a116 := Tryz.isAgg197
 z116 := Tryz.sizeOf197
 t117 := Tryz.underlying198
 a117 := Tryz.isAgg198
 z117 := Tryz.sizeOf198
 v117 := Tryz.zeroValue198
 t119 := Tryz.underlying246
 a119 := Tryz.isAgg246
 z119 := Tryz.sizeOf246
 t124 := Tryz.underlying201
 a124 := Tryz.isAgg201
 z124 := Tryz.sizeOf201
 v124 := Tryz.zeroValue201
 t138 := Tryz.underlying248
 a138 := Tryz.isAgg248
 z138 := Tryz.sizeOf248
 v138 := Tryz.zeroValue248
 t139 := Tryz.underlying249
 a139 := Tryz.isAgg249
 z139 := Tryz.sizeOf249
 v139 := Tryz.zeroValue249
 g3 := by kernel_rfl
 g4 := by kernel_rfl }
open Go.RowKit in
theorem Tryz.strings_TrimLeft_one (s : ByteArray) (c : UInt8) (hc : c.toNat < 128) (w : World) :
  Calls Tryz.prog 137 #[.string s, .string ⟨#[c]⟩] w fun e w' => e = .returned (.string ⟨(Lib.trimLeftB s.data.toList c).toArray⟩) /\ w' = w := Any.strings_TrimLeft_one Tryz.lays161 s c hc w
def Tryz.lays160_ren : Go.Shelf.Ren := ⟨fun | 160 => 215 | 232 => 249 | 231 => 192 | 227 => 193 | 234 => 250 | 233 => 194 | 236 => 251 | 235 => 195 | 228 => 234 | 271 => 267 | 151 => 235 | 197 => 209 | 120 => 276 | 152 => 253 | 260 => 243 | 137 => 153 | 119 => 270 | 224 => 245 | 225 => 244 | 217 => 206 | 266 => 241 | n => n, fun | 9 => 9 | 4 => 4 | 3 => 3 | 5 => 5 | 117 => 198 | 116 => 197 | 0 => 0 | 124 => 201 | 21 => 21 | 105 => 210 | 46 => 177 | 119 => 246 | 139 => 249 | 138 => 248 | n => n, fun | 3 => 4 | 4 => 5 | n => n⟩
theorem Tryz.lays160 : Go.Proofs.Lays.n160 Tryz.prog Tryz.lays160_ren := {
 mixed := by kernel_rfl
 f119 := Tryz.func270.trans (congrArg some (by kernel_rfl))
 f120 := Tryz.func276.trans (congrArg some (by kernel_rfl))
 f137 := Tryz.func153.trans (congrArg some (by kernel_rfl))
 f151 := Tryz.func235.trans (congrArg some (by kernel_rfl))
 f152 := Tryz.func253.trans (congrArg some (by kernel_rfl))
 f160 := Tryz.func215.trans (congrArg some (by kernel_rfl))
 f197 := Tryz.func209.trans (congrArg some (by kernel_rfl))
 f217 := Tryz.func206.trans (congrArg some (by kernel_rfl))
 f224 := Tryz.func245.trans (congrArg some (by kernel_rfl))
 f225 := Tryz.func244.trans (congrArg some (by kernel_rfl))
 f227 := Tryz.func193.trans (congrArg some (by kernel_rfl))
 f228 := Tryz.func234.trans (congrArg some (by kernel_rfl))
 f231 := Tryz.func192.trans (congrArg some (by kernel_rfl))
 f232 := Tryz.func249.trans (congrArg some (by kernel_rfl))
 f233 := Tryz.func194.trans (congrArg some (by kernel_rfl))
 f234 := Tryz.func250.trans (congrArg some (by kernel_rfl))
 f235 := Tryz.func195.trans (congrArg some (by kernel_rfl))
 f236 := Tryz.func251.trans (congrArg some (by kernel_rfl))
 f260 := Tryz.func243.trans (congrArg some (by kernel_rfl))
 f266 := Tryz.func241.trans (congrArg some (by kernel_rfl))
 f271 := Tryz.func267.trans (congrArg some (by kernel_rfl))
 t0 := Tryz.underlying0
 a0 := Tryz.isAgg0
 z0 := Tryz.sizeOf0
 v0 := Tryz.zeroValue0
 t3 := Tryz.underlying3
 a3 := Tryz.isAgg3
 z3 := Tryz.sizeOf3
 v3 := Tryz.zeroValue3
 t4 := Tryz.underlying4
 a4 := Tryz.isAgg4
 z4 := Tryz.sizeOf4
 v4 := Tryz.zeroValue4
 t5 := Tryz.underlying5
 a5 := Tryz.isAgg5
 z5 := Tryz.sizeOf5
 v5 := Tryz.zeroValue5
 t9 := Tryz.underlying9
 a9 := Tryz.isAgg9
 z9 := Tryz.sizeOf9
 v9 := Tryz.zeroValue9
 t21 := Tryz.underlying21
 a21 := Tryz.isAgg21
 z21 := Tryz.sizeOf21
 v21 := Tryz.zeroValue21
 t46 := Tryz.underlying177
 a46 := Tryz.isAgg177
 z46 := Tryz.sizeOf177
 v46 := Tryz.zeroValue177
 t105 := Tryz.underlying210
 a105 := Tryz.isAgg210
 z105 := Tryz.sizeOf210
 v105 := Tryz.zeroValue210
 t116 := Tryz.underlying197
 a116 := Tryz.isAgg197
 z116 := Tryz.sizeOf197
 t117 := Tryz.underlying198
 a117 := Tryz.isAgg198
 z117 := Tryz.sizeOf198
 v117 := Tryz.zeroValue198
 t119 := Tryz.underlying246
 a119 := Tryz.isAgg246
 z119 := Tryz.sizeOf246
 t124 := Tryz.underlying201
 a124 := Tryz.isAgg201
 z124 := Tryz.sizeOf201
 v124 := Tryz.zeroValue201
 t138 := Tryz.underlying248
 a138 := Tryz.isAgg248
 z138 := Tryz.sizeOf248
 v138 := Tryz.zeroValue248
 t139 := Tryz.underlying249
 a139 := Tryz.isAgg249
 z139 := Tryz.sizeOf249
 v139 := Tryz.zeroValue249
 g3 := by kernel_rfl
 g4 := by kernel_rfl }
def Tryz.lays137_ren : Go.Shelf.Ren := ⟨fun | 137 => 153 | 217 => 206 | 266 => 241 | n => n, fun | 9 => 9 | 5 => 5 | 3 => 3 | n => n, fun | n => n⟩
theorem Tryz.lays137 : Go.Proofs.Lays.n137 Tryz.prog Tryz.lays137_ren := {
 mixed := by kernel_rfl
 f137 := Tryz.func153.trans (congrArg some (by kernel_rfl))
 f217 := Tryz.func206.trans (congrArg some (by kernel_rfl))
 f266 := Tryz.func241.trans (congrArg some (by kernel_rfl))
 t3 := Tryz.underlying3
 a3 := Tryz.isAgg3
 z3 := Tryz.sizeOf3
 v3 := Tryz.zeroValue3
 t5 := Tryz.underlying5
 a5 := Tryz.isAgg5
 z5 := Tryz.sizeOf5
 v5 := Tryz.zeroValue5
 t9 := Tryz.underlying9
 a9 := Tryz.isAgg9
 z9 := Tryz.sizeOf9
 v9 := Tryz.zeroValue9 }
open Go.RowKit in
theorem Tryz.strings_IndexByte (s : ByteArray) (c : Int) (w : World) :
  Calls Tryz.prog 153 #[.string s, .int .u8 c] w fun e w' => e = .returned (.int .i64 (Lib.indexByte s.data.toList c.toNat.toUInt8)) /\ w' = w := Any.strings_IndexByte Tryz.lays137 s c w
def Tryz.lays144_ren : Go.Shelf.Ren := ⟨fun | 144 => 121 | 143 => 181 | 219 => 210 | 217 => 206 | 225 => 244 | 224 => 245 | 267 => 246 | 266 => 241 | 314 => 266 | n => n, fun | 9 => 9 | 4 => 4 | 3 => 3 | 5 => 5 | 46 => 177 | 146 => 240 | 51 => 239 | n => n, fun | 1 => 0 | n => n⟩
theorem Tryz.lays144 : Go.Proofs.Lays.n144 Tryz.prog Tryz.lays144_ren := {
 mixed := by kernel_rfl
 f143 := Tryz.func181.trans (congrArg some (by kernel_rfl))
 f144 := Tryz.func121.trans (congrArg some (by kernel_rfl))
 f217 := Tryz.func206.trans (congrArg some (by kernel_rfl))
 f219 := Tryz.func210.trans (congrArg some (by kernel_rfl))
 f224 := Tryz.func245.trans (congrArg some (by kernel_rfl))
 f225 := Tryz.func244.trans (congrArg some (by kernel_rfl))
 f266 := Tryz.func241.trans (congrArg some (by kernel_rfl))
 f267 := Tryz.func246.trans (congrArg some (by kernel_rfl))
 f314 := Tryz.func266.trans (congrArg some (by kernel_rfl))
 t3 := Tryz.underlying3
 a3 := Tryz.isAgg3
 z3 := Tryz.sizeOf3
 v3 := Tryz.zeroValue3
 t4 := Tryz.underlying4
 a4 := Tryz.isAgg4
 z4 := Tryz.sizeOf4
 v4 := Tryz.zeroValue4
 t5 := Tryz.underlying5
 a5 := Tryz.isAgg5
 z5 := Tryz.sizeOf5
 v5 := Tryz.zeroValue5
 t9 := Tryz.underlying9
 a9 := Tryz.isAgg9
 z9 := Tryz.sizeOf9
 v9 := Tryz.zeroValue9
 t46 := Tryz.underlying177
 a46 := Tryz.isAgg177
 z46 := Tryz.sizeOf177
 v46 := Tryz.zeroValue177
 t51 := Tryz.underlying239
 a51 := Tryz.isAgg239
 z51 := Tryz.sizeOf239
 v51 := Tryz.zeroValue239
 t146 := Tryz.underlying240
 a146 := Tryz.isAgg240
 z146 := Tryz.sizeOf240
 v146 := Tryz.zeroValue240
 g1 := by kernel_rfl }
open Go.RowKit Go.Lib in
theorem Tryz.strings_Contains (s sub : ByteArray) (m : Int) (w : World) (hs : s.size < 4294967281) (hm : w.cell? ⟨0, 0, none⟩ = some (.int .i64 m)) :
  Calls Tryz.prog 121 #[.string s, .string sub] w fun e w' => e = .returned (.bool (Lib.contains s.data.toList sub.data.toList)) /\ w' = w := Any.strings_Contains Tryz.lays144 s sub m w hs hm
def Tryz.lays145_ren : Go.Shelf.Ren := ⟨fun | 145 => 90 | 220 => 158 | 219 => 210 | 217 => 206 | 225 => 244 | 224 => 245 | 267 => 246 | 266 => 241 | 314 => 266 | n => n, fun | 9 => 9 | 4 => 4 | 59 => 137 | 3 => 3 | 5 => 5 | 46 => 177 | 146 => 240 | 51 => 239 | n => n, fun | 1 => 0 | n => n⟩
theorem Tryz.lays145 : Go.Proofs.Lays.n145 Tryz.prog Tryz.lays145_ren := {
 mixed := by kernel_rfl
 f145 := Tryz.func90.trans (congrArg some (by kernel_rfl))
 f217 := Tryz.func206.trans (congrArg some (by kernel_rfl))
 f219 := Tryz.func210.trans (congrArg some (by kernel_rfl))
 f220 := Tryz.func158.trans (congrArg some (by kernel_rfl))
 f224 := Tryz.func245.trans (congrArg some (by kernel_rfl))
 f225 := Tryz.func244.trans (congrArg some (by kernel_rfl))
 f266 := Tryz.func241.trans (congrArg some (by kernel_rfl))
 f267 := Tryz.func246.trans (congrArg some (by kernel_rfl))
 f314 := Tryz.func266.trans (congrArg some (by kernel_rfl))
 t3 := Tryz.underlying3
 a3 := Tryz.isAgg3
 z3 := Tryz.sizeOf3
 v3 := Tryz.zeroValue3
 t4 := Tryz.underlying4
 a4 := Tryz.isAgg4
 z4 := Tryz.sizeOf4
 v4 := Tryz.zeroValue4
 t5 := Tryz.underlying5
 a5 := Tryz.isAgg5
 z5 := Tryz.sizeOf5
 v5 := Tryz.zeroValue5
 t9 := Tryz.underlying9
 a9 := Tryz.isAgg9
 z9 := Tryz.sizeOf9
 v9 := Tryz.zeroValue9
 t46 := Tryz.underlying177
 a46 := Tryz.isAgg177
 z46 := Tryz.sizeOf177
 v46 := Tryz.zeroValue177
 t51 := Tryz.underlying239
 a51 := Tryz.isAgg239
 z51 := Tryz.sizeOf239
 v51 := Tryz.zeroValue239
 t59 := Tryz.underlying137
 a59 := Tryz.isAgg137
 z59 := Tryz.sizeOf137
 v59 := Tryz.zeroValue137
 t146 := Tryz.underlying240
 a146 := Tryz.isAgg240
 z146 := Tryz.sizeOf240
 v146 := Tryz.zeroValue240
 g1 := by kernel_rfl }
open Go.RowKit Go.Lib in
theorem Tryz.strings_Cut (s sep : ByteArray) (m : Int) (w : World) (hs : s.size < 4294967281) (hm : w.cell? ⟨0, 0, none⟩ = some (.int .i64 m)) :
  Calls Tryz.prog 90 #[.string s, .string sep] w fun e w' => e = .returned (.tuple #[.string ⟨(Lib.cut s.data.toList sep.data.toList).1.toArray⟩, .string ⟨(Lib.cut s.data.toList sep.data.toList).2.1.toArray⟩, .bool (Lib.cut s.data.toList sep.data.toList).2.2]) /\ ∃ n, w' = w.drewN n := Any.strings_Cut Tryz.lays145 s sep m w hs hm
def Tryz.lays155_ren : Go.Shelf.Ren := ⟨fun | 155 => 185 | 154 => 228 | 138 => 262 | 165 => 156 | 143 => 181 | 166 => 51 | 197 => 209 | 169 => 54 | 195 => 273 | 218 => 274 | 240 => 124 | 241 => 207 | 219 => 210 | 260 => 243 | 276 => 184 | 277 => 242 | 217 => 206 | 225 => 244 | 224 => 245 | 267 => 246 | 266 => 241 | 314 => 266 | n => n, fun | 9 => 9 | 3 => 3 | 4 => 4 | 72 => 85 | 0 => 0 | 76 => 90 | 105 => 210 | 21 => 21 | 5 => 5 | 70 => 82 | 20 => 20 | 37 => 83 | 75 => 89 | 127 => 159 | 164 => 189 | 46 => 177 | 119 => 246 | 139 => 249 | 138 => 248 | 146 => 240 | 51 => 239 | 80 => 94 | n => n, fun | 1 => 0 | 3 => 4 | 4 => 5 | n => n⟩
theorem Tryz.lays155 : Go.Proofs.Lays.n155 Tryz.prog Tryz.lays155_ren := {
 mixed := by kernel_rfl
 f138 := Tryz.func262.trans (congrArg some (by kernel_rfl))
 f143 := Tryz.func181.trans (congrArg some (by kernel_rfl))
 f154 := Tryz.func228.trans (congrArg some (by kernel_rfl))
 f155 := Tryz.func185.trans (congrArg some (by kernel_rfl))
 f165 := Tryz.func156.trans (congrArg some (by kernel_rfl))
 f166 := Tryz.func51.trans (congrArg some (by kernel_rfl))
 f169 := Tryz.func54.trans (congrArg some (by kernel_rfl))
 f195 := Tryz.func273.trans (congrArg some (by kernel_rfl))
 f197 := Tryz.func209.trans (congrArg some (by kernel_rfl))
 f217 := Tryz.func206.trans (congrArg some (by kernel_rfl))
 f218 := Tryz.func274.trans (congrArg some (by kernel_rfl))
 f219 := Tryz.func210.trans (congrArg some (by kernel_rfl))
 f224 := Tryz.func245.trans (congrArg some (by kernel_rfl))
 f225 := Tryz.func244.trans (congrArg some (by kernel_rfl))
 f240 := Tryz.func124.trans (congrArg some (by kernel_rfl))
 f241 := Tryz.func207.trans (congrArg some (by kernel_rfl))
 f260 := Tryz.func243.trans (congrArg some (by kernel_rfl))
 f266 := Tryz.func241.trans (congrArg some (by kernel_rfl))
 f267 := Tryz.func246.trans (congrArg some (by kernel_rfl))
 f276 := Tryz.func184.trans (congrArg some (by kernel_rfl))
 f277 := Tryz.func242.trans (congrArg some (by kernel_rfl))
 f314 := Tryz.func266.trans (congrArg some (by kernel_rfl))
 t0 := Tryz.underlying0
 a0 := Tryz.isAgg0
 z0 := Tryz.sizeOf0
 v0 := Tryz.zeroValue0
 t3 := Tryz.underlying3
 a3 := Tryz.isAgg3
 z3 := Tryz.sizeOf3
 v3 := Tryz.zeroValue3
 t4 := Tryz.underlying4
 a4 := Tryz.isAgg4
 z4 := Tryz.sizeOf4
 v4 := Tryz.zeroValue4
 t5 := Tryz.underlying5
 a5 := Tryz.isAgg5
 z5 := Tryz.sizeOf5
 v5 := Tryz.zeroValue5
 t9 := Tryz.underlying9
 a9 := Tryz.isAgg9
 z9 := Tryz.sizeOf9
 v9 := Tryz.zeroValue9
 t20 := Tryz.underlying20
 a20 := Tryz.isAgg20
 z20 := Tryz.sizeOf20
 v20 := Tryz.zeroValue20
 t21 := Tryz.underlying21
 a21 := Tryz.isAgg21
 z21 := Tryz.sizeOf21
 v21 := Tryz.zeroValue21
 t37 := Tryz.underlying83
 a37 := Tryz.isAgg83
 z37 := Tryz.sizeOf83
 v37 := Tryz.zeroValue83
 t46 := Tryz.underlying177
 a46 := Tryz.isAgg177
 z46 := Tryz.sizeOf177
 v46 := Tryz.zeroValue177
 t51 := Tryz.underlying239
 a51 := Tryz.isAgg239
 z51 := Tryz.sizeOf239
 v51 := Tryz.zeroValue239
 t70 := Tryz.underlying82
 a70 := Tryz.isAgg82
 z70 := Tryz.sizeOf82
 v70 := Tryz.zeroValue82
 t72 := Tryz.underlying85
 a72 := Tryz.isAgg85
 z72 := Tryz.sizeOf85
 v72 := Tryz.zeroValue85
 t75 := Tryz.underlying89
 a75 := Tryz.isAgg89
 z75 := Tryz.sizeOf89
 v75 := Tryz.zeroValue89
 t76 := Tryz.underlying90
 a76 := Tryz.isAgg90
 z76 := Tryz.sizeOf90
 v76 := Tryz.zeroValue90
 t105 := Tryz.underlying210
 a105 := Tryz.isAgg210
 z105 := Tryz.sizeOf210
 v105 := Tryz.zeroValue210
 t119 := Tryz.underlying246
 a119 := Tryz.isAgg246
 z119 := Tryz.sizeOf246
 t127 := Tryz.underlying159
 a127 := Tryz.isAgg159
 z127 := Tryz.sizeOf159
 v127 := Tryz.zeroValue159
 t138 := Tryz.underlying248
 a138 := Tryz.isAgg248
 z138 := Tryz.sizeOf248
 v138 := Tryz.zeroValue248
 t139 := Tryz.underlying249
 a139 := Tryz.isAgg249
 z139 := Tryz.sizeOf249
 v139 := Tryz.zeroValue249
 t146 := Tryz.underlying240
 a146 := Tryz.isAgg240
 z146 := Tryz.sizeOf240
 v146 := Tryz.zeroValue240
 t164 := Tryz.underlying189
 a164 := Tryz.isAgg189
 z164 := Tryz.sizeOf189
 v164 := Tryz.zeroValue189
 g1 := by kernel_rfl
 g3 := by kernel_rfl
 g4 := by kernel_rfl }
theorem Tryz.Builder_Extra_155 : Builder.Extra Tryz.prog Tryz.lays155_ren := {
 sizeBuilder := by kernel_rfl
 liesBuilder := by kernel_rfl
 t5 := Tryz.underlying5
 a5 := Tryz.isAgg5
 z5 := Tryz.sizeOf5
 v5 := Tryz.zeroValue5
 infoByte := by kernel_rfl
 cellsByte := by kernel_rfl
 sizeByte := by kernel_rfl
 neB5 := by decide }
open Go.RowKit Go.Lib in
theorem Tryz.strings_ReplaceAll (s old new : ByteArray) (m : Int) (w : World) (hs : s.size < 4294967281) (hm : w.cell? ⟨0, 0, none⟩ = some (.int .i64 m)) (h1 : 1 <= old.size) (hlen : s.size + Lib.countB s old * new.size <= 140737488355328) :
  Calls Tryz.prog 185 #[.string s, .string old, .string new] w fun e w' =>
   e = .returned (.string ⟨(Lib.replaceAll s.data.toList old.data.toList new.data.toList).toArray⟩) /\ Below w.heap.size w w' := Any.strings_ReplaceAll Tryz.lays155 Tryz.Builder_Extra_155 s old new m w hs hm h1 hlen
def Tryz.lays105_ren : Go.Shelf.Ren := ⟨fun | 105 => 190 | 212 => 232 | 99 => 120 | 165 => 156 | 166 => 51 | 170 => 53 | 169 => 54 | 263 => 263 | 264 => 264 | 206 => 180 | 240 => 124 | 241 => 207 | 276 => 184 | 277 => 242 | n => n, fun | 9 => 9 | 3 => 3 | 4 => 4 | 20 => 20 | 0 => 0 | 46 => 177 | 109 => 220 | 5 => 5 | 72 => 85 | 76 => 90 | 51 => 239 | 146 => 240 | 53 => 242 | 148 => 243 | 70 => 82 | 37 => 83 | 75 => 89 | 127 => 159 | 164 => 189 | 80 => 94 | n => n, fun | n => n⟩
theorem Tryz.lays105 : Go.Proofs.Lays.n105 Tryz.prog Tryz.lays105_ren := {
 mixed := by kernel_rfl
 f99 := Tryz.func120.trans (congrArg some (by kernel_rfl))
 f105 := Tryz.func190.trans (congrArg some (by kernel_rfl))
 f165 := Tryz.func156.trans (congrArg some (by kernel_rfl))
 f166 := Tryz.func51.trans (congrArg some (by kernel_rfl))
 f169 := Tryz.func54.trans (congrArg some (by kernel_rfl))
 f170 := Tryz.func53.trans (congrArg some (by kernel_rfl))
 f206 := Tryz.func180.trans (congrArg some (by kernel_rfl))
 f212 := Tryz.func232.trans (congrArg some (by kernel_rfl))
 f240 := Tryz.func124.trans (congrArg some (by kernel_rfl))
 f241 := Tryz.func207.trans (congrArg some (by kernel_rfl))
 f263 := Tryz.func263.trans (congrArg some (by kernel_rfl))
 f264 := Tryz.func264.trans (congrArg some (by kernel_rfl))
 f276 := Tryz.func184.trans (congrArg some (by kernel_rfl))
 f277 := Tryz.func242.trans (congrArg some (by kernel_rfl))
 t0 := Tryz.underlying0
 a0 := Tryz.isAgg0
 z0 := Tryz.sizeOf0
 v0 := Tryz.zeroValue0
 t3 := Tryz.underlying3
 a3 := Tryz.isAgg3
 z3 := Tryz.sizeOf3
 v3 := Tryz.zeroValue3
 t4 := Tryz.underlying4
 a4 := Tryz.isAgg4
 z4 := Tryz.sizeOf4
 v4 := Tryz.zeroValue4
 t5 := Tryz.underlying5
 a5 := Tryz.isAgg5
 z5 := Tryz.sizeOf5
 v5 := Tryz.zeroValue5
 t9 := Tryz.underlying9
 a9 := Tryz.isAgg9
 z9 := Tryz.sizeOf9
 v9 := Tryz.zeroValue9
 t20 := Tryz.underlying20
 a20 := Tryz.isAgg20
 z20 := Tryz.sizeOf20
 v20 := Tryz.zeroValue20
 t37 := Tryz.underlying83
 a37 := Tryz.isAgg83
 z37 := Tryz.sizeOf83
 v37 := Tryz.zeroValue83
 t46 := Tryz.underlying177
 a46 := Tryz.isAgg177
 z46 := Tryz.sizeOf177
 v46 := Tryz.zeroValue177
 t51 := Tryz.underlying239
 a51 := Tryz.isAgg239
 z51 := Tryz.sizeOf239
 v51 := Tryz.zeroValue239
 t53 := Tryz.underlying242
 a53 := Tryz.isAgg242
 z53 := Tryz.sizeOf242
 v53 := Tryz.zeroValue242
 t70 := Tryz.underlying82
 a70 := Tryz.isAgg82
 z70 := Tryz.sizeOf82
 v70 := Tryz.zeroValue82
 t72 := Tryz.underlying85
 a72 := Tryz.isAgg85
 z72 := Tryz.sizeOf85
 v72 := Tryz.zeroValue85
 t75 := Tryz.underlying89
 a75 := Tryz.isAgg89
 z75 := Tryz.sizeOf89
 v75 := Tryz.zeroValue89
 t76 := Tryz.underlying90
 a76 := Tryz.isAgg90
 z76 := Tryz.sizeOf90
 v76 := Tryz.zeroValue90
 t109 := Tryz.underlying220
 a109 := Tryz.isAgg220
 z109 := Tryz.sizeOf220
 v109 := Tryz.zeroValue220
 t127 := Tryz.underlying159
 a127 := Tryz.isAgg159
 z127 := Tryz.sizeOf159
 v127 := Tryz.zeroValue159
 t146 := Tryz.underlying240
 a146 := Tryz.isAgg240
 z146 := Tryz.sizeOf240
 v146 := Tryz.zeroValue240
 t148 := Tryz.underlying243
 a148 := Tryz.isAgg243
 z148 := Tryz.sizeOf243
 v148 := Tryz.zeroValue243
 t164 := Tryz.underlying189
 a164 := Tryz.isAgg189
 z164 := Tryz.sizeOf189
 v164 := Tryz.zeroValue189 }
theorem Tryz.Builder_Extra_105 : Builder.Extra Tryz.prog Tryz.lays105_ren := {
 sizeBuilder := by kernel_rfl
 liesBuilder := by kernel_rfl
 t5 := Tryz.underlying5
 a5 := Tryz.isAgg5
 z5 := Tryz.sizeOf5
 v5 := Tryz.zeroValue5
 infoByte := by kernel_rfl
 cellsByte := by kernel_rfl
 sizeByte := by kernel_rfl
 neB5 := by decide }
open Go.RowKit Go.Lib in
theorem Tryz.strings_Repeat (s : ByteArray) (c : Nat) (w : World) (hc : c <= 9223372036854775807) (hlen : s.size * c <= 140737488355328) :
  Calls Tryz.prog 190 #[.string s, .int .i64 c] w fun e w' => e = .returned (.string ⟨(Lib.repeatL s.data.toList c).toArray⟩) /\ Below w.heap.size w w' := Any.strings_Repeat Tryz.lays105 Tryz.Builder_Extra_105 s c w hc hlen
end Go.Proofs
end
section
set_option linter.unusedSimpArgs false
set_option linter.unusedVariables false
namespace Go.Proofs.K
open Go Go.Sim Go.Proofs
variable {G : Glob}
def eStr (s : List UInt8) : List AVal := [.str s]
instance : LenE eStr 1 := ⟨fun _ => rfl⟩
def MaxLenOK (G : Glob) : Prop := ∃ m, G 0 = .pin [Y0 m]
theorem contains_ok (hG : MaxLenOK G) (s t : List UInt8) (hs : s.length < 4294967281) : PCalls (Pg G) 121 [.str s, .str t] (.bool (Lib.contains s t)) := by
 obtain ⟨m, hG⟩ := hG
 refine PCalls.ofRun ⟨_, Tryz.func121, by kernel_rfl, by kernel_rfl⟩ fun g w vs GR V => ?_
 obtain ⟨u, v, rfl, hu, hv⟩ := V.two_inv
 rw [hu.str_inv', hv.str_inv']
 exact (Tryz.strings_Contains ⟨⟨s⟩⟩ ⟨⟨t⟩⟩ m w hs (GR.int hG)).mono fun e w' ⟨he, hw⟩ => ⟨_, he, hw, .bool _⟩
theorem contains_iff (s t : List UInt8) : Lib.contains s t = true ↔ ∃ a b, s = a ++ t ++ b := by
 unfold Lib.contains
 rw [decide_eq_true_iff]
 constructor
 ·intro h
  rcases Lib.index_spec s t with ⟨h1, _⟩ | ⟨i, h1, h2, h3, _⟩
  ·omega
  ·unfold Lib.occAt at h3
   rw [List.isPrefixOf_iff_prefix] at h3
   obtain ⟨b, hb⟩ := h3
   exact ⟨s.take i, b, by rw [List.append_assoc, hb, List.take_append_drop]⟩
 ·rintro ⟨a, b, rfl⟩
  rcases Lib.index_spec (a ++ t ++ b) t with ⟨_, h2⟩ | ⟨i, h1, _⟩
  ·have := h2 a.length (by simp)
   unfold Lib.occAt at this
   rw [List.append_assoc, List.drop_left] at this
   have h : t.isPrefixOf (t ++ b) = true := by rw [List.isPrefixOf_iff_prefix]; exact ⟨b, rfl⟩
   rw [h] at this; cases this
  ·omega
theorem byte_eq (c : UInt8) (n : Nat) (h : n < 256) : ((c.toNat : Int) = n) = (c = UInt8.ofNat n) := by
 apply propext
 constructor
 ·intro e
  have e : c.toNat = n := by omega
  rw [<- e]; simp
 ·rintro rfl; simp; omega
def Y9 (b : UInt8) : List UInt8 -> List UInt8 -> List (List UInt8)
 | cur, [] => [cur]
 | cur, c :: r => if c = b then cur :: Y9 b [] r else Y9 b (cur ++ [c]) r
theorem splitB_ne (b : UInt8) (cur s : List UInt8) : Y9 b cur s ≠ [] := by
 induction s generalizing cur with
 | nil => simp [Y9]
 | cons c r ih => unfold Y9; split <;> simp [ih]
theorem splitB_cur (b : UInt8) (cur s : List UInt8) : Y9 b cur s = (cur ++ (Y9 b [] s).headD []) :: (Y9 b [] s).tail := by
 induction s generalizing cur with
 | nil => simp [Y9]
 | cons c r ih =>
  by_cases h : c = b
  ·simp [Y9, h]
  ·simp only [Y9, if_neg h]
   rw [ih (cur ++ [c]), ih ([] ++ [c])]
   simp
theorem split_head (b : UInt8) (nm s : List UInt8) (hn : b ∉ nm) : (∃ post, s ++ [b] = nm ++ b :: post) ↔ nm = (Y9 b [] s).headD [] := by
 induction s generalizing nm with
 | nil =>
  constructor
  ·rintro ⟨post, h⟩
   cases nm with
   | nil => rfl
   | cons x r => simp at h
  ·intro h; exact ⟨[], by rw [h]; rfl⟩
 | cons c r ih =>
  by_cases hc : c = b
  ·subst hc
   simp only [Y9, if_true, List.headD_cons]
   constructor
   ·rintro ⟨post, h⟩
    cases nm with
    | nil => rfl
    | cons x r => simp at h; exact absurd (by simp [h.1]) hn
   ·rintro rfl; exact ⟨_, rfl⟩
  ·simp only [Y9, if_neg hc]
   rw [splitB_cur]
   simp only [List.headD_cons, List.nil_append, List.singleton_append]
   constructor
   ·rintro ⟨post, h⟩
    cases nm with
    | nil => simp at h; exact absurd h.1 hc
    | cons x t =>
     simp at h
     obtain ⟨rfl, h⟩ := h
     rw [<- (ih t (fun h => hn (by simp [h]))).1 ⟨post, h⟩]
   ·rintro rfl
    obtain ⟨post, h⟩ := (ih _ (fun h => hn (List.mem_cons_of_mem _ h))).2 rfl
    exact ⟨post, by simp [h]⟩
theorem split_tail (b : UInt8) (nm s : List UInt8) (hn : b ∉ nm) : (∃ pre post, s ++ [b] = pre ++ b :: (nm ++ b :: post)) ↔ nm ∈ (Y9 b [] s).tail := by
 induction s with
 | nil =>
  constructor
  ·rintro ⟨pre, post, h⟩
   have := congrArg List.length h
   simp at this; omega
  ·simp [Y9]
 | cons c r ih =>
  by_cases hc : c = b
  ·subst hc
   simp only [Y9, if_true, List.tail_cons]
   have e : Y9 c [] r = (Y9 c [] r).headD [] :: (Y9 c [] r).tail := by
    cases h : Y9 c [] r with
    | nil => exact absurd h (splitB_ne _ _ _)
    | cons x t => rfl
   rw [e, List.mem_cons, <- ih, <- split_head c nm r hn]
   constructor
   ·rintro ⟨pre, post, h⟩
    cases pre with
    | nil => exact .inl ⟨post, by simpa using h⟩
    | cons x p => simp at h; exact .inr ⟨p, post, by simpa using h.2⟩
   ·rintro (⟨post, h⟩ | ⟨pre, post, h⟩)
    ·exact ⟨[], post, by simp [h]⟩
    ·exact ⟨c :: pre, post, by simp [h]⟩
  ·simp only [Y9, if_neg hc]
   rw [splitB_cur]
   simp only [List.tail_cons]
   rw [<- ih]
   constructor
   ·rintro ⟨pre, post, h⟩
    cases pre with
    | nil => simp at h; exact absurd h.1 hc
    | cons x p => simp at h; exact ⟨p, post, by simpa using h.2⟩
   ·rintro ⟨pre, post, h⟩
    exact ⟨c :: pre, post, by simp [h]⟩
theorem split_mem (b : UInt8) (nm s : List UInt8) (hn : b ∉ nm) : Lib.contains (b :: (s ++ [b])) (b :: (nm ++ [b])) = true ↔ nm ∈ Y9 b [] s := by
 have e : Y9 b [] s = (Y9 b [] s).headD [] :: (Y9 b [] s).tail := by
  cases h : Y9 b [] s with
  | nil => exact absurd h (splitB_ne _ _ _)
  | cons x t => rfl
 rw [e, List.mem_cons, <- split_tail b nm s hn, <- split_head b nm s hn, contains_iff]
 constructor
 ·rintro ⟨pre, post, h⟩
  cases pre with
  | nil => exact .inl ⟨post, by simpa using h⟩
  | cons x p => exact .inr ⟨p, post, by simp at h; simpa using h.2⟩
 ·rintro (⟨post, h⟩ | ⟨pre, post, h⟩)
  ·exact ⟨[], post, by simp [h]⟩
  ·exact ⟨b :: pre, post, by simp [h]⟩
theorem splitB_no (b : UInt8) (s x : List UInt8) (hx : x ∈ Y9 b [] s) : b ∉ x := by
 have : ∀ (cur s : List UInt8), b ∉ cur -> ∀ x ∈ Y9 b cur s, b ∉ x := by
  intro cur s
  induction s generalizing cur with
  | nil => intro h x hx; simp [Y9] at hx; subst hx; exact h
  | cons c r ih =>
   intro h x hx
   by_cases hc : c = b
   ·simp only [Y9, if_pos hc, List.mem_cons] at hx
    rcases hx with rfl | hx
    ·exact h
    ·exact ih [] (by simp) x hx
   ·simp only [Y9, if_neg hc] at hx
    exact ih (cur ++ [c]) (by simp [h, Ne.symm hc]) x hx
 exact this [] s (by simp) x hx
theorem contains_one (b : UInt8) (s : List UInt8) : Lib.contains s [b] = decide (b ∈ s) := by
 rw [Bool.eq_iff_iff, contains_iff, decide_eq_true_iff]
 constructor
 ·rintro ⟨x, y, rfl⟩; simp
 ·intro h
  obtain ⟨x, y, rfl⟩ := List.append_of_mem h
  exact ⟨x, y, by simp⟩
def oneW (nm l : List UInt8) : Bool := nm != [] && (!(decide (32 ∈ nm)) && Lib.contains l ([32] ++ nm ++ [32]))
def c72 : SFun := ⟨.seq (.reg [o 4 (.mv (.c (.bool false)))]) (.seq (.reg [o 5 (.mv (.t 0)), o 6 (.bin .neq (.t 5) (.c (.str []))), o 7 (.mv (.t 6)), ⟨some 8, .mv (.t 0), some (7, true)⟩, ⟨some 9, .pcall 121 [.t 8, .c (.str [32])], some (7, true)⟩, ⟨some 10, .un .not (.t 9), some (7, true)⟩, o 11 (.pick (.t 7) (.t 10) (.c (.bool false))), o 12 (.mv (.t 11)), ⟨some 13, .mv (.t 1), some (12, true)⟩, ⟨some 14, .mv (.t 0), some (12, true)⟩, ⟨some 15, .bin .add (.c (.str [32])) (.t 14), some (12, true)⟩, ⟨some 16, .bin .add (.t 15) (.c (.str [32])), some (12, true)⟩, ⟨some 17, .pcall 121 [.t 13, .t 16], some (12, true)⟩, o 18 (.pick (.t 12) (.t 17) (.c (.bool false))), o 4 (.mv (.t 18))]) .ret), [.tmp 4]⟩
theorem hc72 : X8 Tryz.prog {pure := [121]} Tryz.f72 = some c72 := by kernel_rfl
theorem oneW_ok (hG : MaxLenOK G) (nm l : List UInt8) (hn : nm.length < 4294967281) (hl : l.length < 4294967281) : PCalls (Pg G) 72 [.str nm, .str l] (.bool (oneW nm l)) := by
 intro h
 refine Z9 Tryz.func72 (by kernel_rfl) hc72 (by rw [Tryz.ntmps72]; simp) (by rw [Tryz.ntmps72]; decide) ?_
 simp -dsimp -implicitDefEqProofs (disch := omega) only [↓Q0 7, ↓Q1 7, ↓Q0 12, ↓Q1 12, VCA, Z1, ↓Q3, Nat.reduceEqDiff, Nat.reduceBEq, Nat.reduceAdd, Nat.reduceSub, Nat.reduceMul, Nat.reduceLT, Nat.reduceLeDiff, ↓reduceIte, reduceCtorEq, Z7, Q6, SOp.rd, SI.rd, SX.rd, rdL, rdO, rdP, Q5, Q4, Q2, Q8, Q7, Z0, implies_true, forall_const, forall_eq, ne_eq, exists_eq_right_right, exists_eq_right, exists_eq_left, exists_eq_left', Q9, eStr, c72]
 refine Br.ne (fun h1 => ?_) (fun h1 => ?_)
 ·simp -dsimp -implicitDefEqProofs (disch := omega) only [↓Q0 7, ↓Q1 7, ↓Q0 12, ↓Q1 12, VCA, Z1, ↓Q3, Nat.reduceEqDiff, Nat.reduceBEq, Nat.reduceAdd, Nat.reduceSub, Nat.reduceMul, Nat.reduceLT, Nat.reduceLeDiff, ↓reduceIte, reduceCtorEq, Z7, Q6, SOp.rd, SI.rd, SX.rd, rdL, rdO, rdP, Q5, Q4, Q2, Q8, Q7, Z0, implies_true, forall_const, forall_eq, ne_eq, exists_eq_right_right, exists_eq_right, exists_eq_left, exists_eq_left', Q9, eStr]
  refine pcallE.of (contains_ok hG nm [32] hn) ?_; simp -dsimp -implicitDefEqProofs (disch := omega) only [↓Q0 7, ↓Q1 7, ↓Q0 12, ↓Q1 12, VCA, Z1, ↓Q3, Nat.reduceEqDiff, Nat.reduceBEq, Nat.reduceAdd, Nat.reduceSub, Nat.reduceMul, Nat.reduceLT, Nat.reduceLeDiff, ↓reduceIte, reduceCtorEq, Z7, Q6, SOp.rd, SI.rd, SX.rd, rdL, rdO, rdP, Q5, Q4, Q2, Q8, Q7, Z0, implies_true, forall_const, forall_eq, ne_eq, exists_eq_right_right, exists_eq_right, exists_eq_left, exists_eq_left', Q9, eStr, contains_one]
  refine Br.intro (fun h2 => ?_) (fun h2 => ?_)
  ·simp -dsimp -implicitDefEqProofs (disch := omega) only [↓Q0 7, ↓Q1 7, ↓Q0 12, ↓Q1 12, VCA, Z1, ↓Q3, Nat.reduceEqDiff, Nat.reduceBEq, Nat.reduceAdd, Nat.reduceSub, Nat.reduceMul, Nat.reduceLT, Nat.reduceLeDiff, ↓reduceIte, reduceCtorEq, Z7, Q6, SOp.rd, SI.rd, SX.rd, rdL, rdO, rdP, Q5, Q4, Q2, Q8, Q7, Z0, implies_true, forall_const, forall_eq, ne_eq, exists_eq_right_right, exists_eq_right, exists_eq_left, exists_eq_left', Q9, eStr]
   refine ⟨by omega, by omega, ?_⟩
   refine pcallE.of (contains_ok hG l _ hl) ?_; simp -dsimp -implicitDefEqProofs (disch := omega) only [↓Q0 7, ↓Q1 7, ↓Q0 12, ↓Q1 12, VCA, Z1, ↓Q3, Nat.reduceEqDiff, Nat.reduceBEq, Nat.reduceAdd, Nat.reduceSub, Nat.reduceMul, Nat.reduceLT, Nat.reduceLeDiff, ↓reduceIte, reduceCtorEq, Z7, Q6, SOp.rd, SI.rd, SX.rd, rdL, rdO, rdP, Q5, Q4, Q2, Q8, Q7, Z0, implies_true, forall_const, forall_eq, ne_eq, exists_eq_right_right, exists_eq_right, exists_eq_left, exists_eq_left', Q9, eStr]
   exact ⟨Sub.refl _, by simp [contains_one] at h2; simp only [oneW, bne_iff_ne.2 h1, h2, decide_false, Bool.not_false, Bool.true_and, List.cons_append, List.nil_append]⟩
  ·simp -dsimp -implicitDefEqProofs (disch := omega) only [↓Q0 7, ↓Q1 7, ↓Q0 12, ↓Q1 12, VCA, Z1, ↓Q3, Nat.reduceEqDiff, Nat.reduceBEq, Nat.reduceAdd, Nat.reduceSub, Nat.reduceMul, Nat.reduceLT, Nat.reduceLeDiff, ↓reduceIte, reduceCtorEq, Z7, Q6, SOp.rd, SI.rd, SX.rd, rdL, rdO, rdP, Q5, Q4, Q2, Q8, Q7, Z0, implies_true, forall_const, forall_eq, ne_eq, exists_eq_right_right, exists_eq_right, exists_eq_left, exists_eq_left', Q9, eStr]
   exact ⟨Sub.refl _, by simp [contains_one] at h2; simp [oneW, h2]⟩
 ·simp -dsimp -implicitDefEqProofs (disch := omega) only [↓Q0 7, ↓Q1 7, ↓Q0 12, ↓Q1 12, VCA, Z1, ↓Q3, Nat.reduceEqDiff, Nat.reduceBEq, Nat.reduceAdd, Nat.reduceSub, Nat.reduceMul, Nat.reduceLT, Nat.reduceLeDiff, ↓reduceIte, reduceCtorEq, Z7, Q6, SOp.rd, SI.rd, SX.rd, rdL, rdO, rdP, Q5, Q4, Q2, Q8, Q7, Z0, implies_true, forall_const, forall_eq, ne_eq, exists_eq_right_right, exists_eq_right, exists_eq_left, exists_eq_left', Q9, eStr]
  first | exact Sub.refl _ | exact ⟨Sub.refl _, by simp [oneW, h1]⟩
theorem oneM_split (s nm : List UInt8) (hs : [] ∉ Y9 32 [] s) : oneW nm (32 :: (s ++ [32])) = (Y9 32 [] s).any (· == nm) := by
 rw [Bool.eq_iff_iff, oneW, Bool.and_eq_true, Bool.and_eq_true, Bool.not_eq_true', decide_eq_false_iff_not, bne_iff_ne, List.any_beq', List.contains_iff_mem]
 constructor
 ·rintro ⟨h1, h2, h3⟩
  exact (split_mem 32 nm s h2).1 h3
 ·intro h
  have h2 := splitB_no 32 s nm h
  exact ⟨fun e => hs (e ▸ h), h2, (split_mem 32 nm s h2).2 h⟩
def c169 : SFun := ⟨.seq (.reg [o 2 (.mv (.c .emp))]) (.seq (.reg [o 3 (.mv (.c .emp))]) (.seq (.reg [o 4 (.mv (.c (.int .i64 0)))]) (.seq (.seq (.reg [o 5 (.mv (.c (.int .i64 0)))]) (.block 0 (.loop (.seq (.seq (.reg [o 6 (.mv (.t 5)), o 7 (.mv (.t 0)), o 8 (.lenS (.t 7)), o 9 (.bin .leq (.t 6) (.t 8))]) (.cond (.t 9) .skip (.exit 0))) (.seq (.block 1 (.seq (.reg [o 12 (.mv (.t 5)), o 13 (.mv (.t 0)), o 14 (.lenS (.t 13)), o 15 (.bin .eql (.t 12) (.t 14)), o 16 (.mv (.t 15)), ⟨some 17, .mv (.t 0), some (16, false)⟩, ⟨some 18, .mv (.t 5), some (16, false)⟩, ⟨some 19, .idxS (.t 17) (.t 18), some (16, false)⟩, ⟨some 20, .bin .eql (.t 19) (.c (.int .u8 32)), some (16, false)⟩, o 21 (.pick (.t 16) (.c (.bool true)) (.t 20))]) (.cond (.t 21) (.seq (.reg [o 22 (.mv (.t 3)), o 23 (.mv (.t 0)), o 24 (.mv (.t 4)), o 25 (.mv (.t 5)), o 26 (.slS (.t 23) (some (.t 24)) (some (.t 25))), o 27 (.bldF 9 1 [.t 26]), o 28 (.app 9 1 16 (.t 22) (.t 27)), o 3 (.mv (.t 28))]) (.reg [o 29 (.mv (.t 5)), o 30 (.bin .add (.t 29) (.c (.int .i64 1))), o 4 (.mv (.t 30))])) .skip))) (.reg [o 10 (.mv (.t 5)), o 11 (.bin .add (.t 10) (.c (.int .i64 1))), o 5 (.mv (.t 11))])))))) (.seq (.reg [o 31 (.mv (.t 3)), o 2 (.mv (.t 31))]) .ret)))), [.tmp 2]⟩
theorem hc169 : X8 Tryz.prog {} Tryz.f169 = some c169 := by kernel_rfl
theorem words_ok (s : List UInt8) (hs : s.length <= 1073741824) : PCalls (Pg G) 169 [.str s] (sl eStr (Y9 32 [] s)) := PCalls.acc (ty := 9) (sz := 1) fun h => by
 refine Z9 Tryz.func169 (by kernel_rfl) hc169 (by rw [Tryz.ntmps169]; simp) (by rw [Tryz.ntmps169]; decide) ?_
 simp -dsimp -implicitDefEqProofs (disch := omega) only [↓Q0 16, ↓Q1 16, VCA, Z1, ↓Q3, Nat.reduceEqDiff, Nat.reduceBEq, Nat.reduceAdd, Nat.reduceSub, Nat.reduceMul, Nat.reduceLT, Nat.reduceLeDiff, ↓reduceIte, reduceCtorEq, Z7, Q6, SOp.rd, SI.rd, SX.rd, rdL, rdO, rdP, Q5, Q4, Q2, Q8, Q7, Z0, implies_true, forall_const, forall_eq, ne_eq, exists_eq_right_right, exists_eq_right, exists_eq_left, exists_eq_left', Q9, eStr, c169]
 refine LoopVC.intro (fun m e h' => ∃ (k f : Nat) (out : List (List UInt8)), k <= s.length + 1 /\ f <= k /\ out.length <= k /\ m = s.length + 1 - k /\ e 0 = .str s /\ e 4 = Y0 f /\ e 5 = Y0 k /\ Acc h 9 1 (out.map eStr) (e 3) h' /\ Sub h h' /\
   (k <= s.length -> out ++ Y9 32 ((s.take k).drop f) (s.drop k) = Y9 32 [] s) /\ (k = s.length + 1 -> out = Y9 32 [] s)) (s.length + 1) ⟨0, 0, [], by omega, by omega, by simp, rfl, rfl, rfl, rfl, Acc.nil, Sub.refl _, by simp, fun h => by omega⟩ ?_
 rintro m e h' ⟨k, f, out, hk, hf, ho, rfl, he0, he4, he5, A, S, hr, hd⟩
 simp -dsimp -implicitDefEqProofs (disch := omega) only [↓Q0 16, ↓Q1 16, VCA, Z1, ↓Q3, Nat.reduceEqDiff, Nat.reduceBEq, Nat.reduceAdd, Nat.reduceSub, Nat.reduceMul, Nat.reduceLT, Nat.reduceLeDiff, ↓reduceIte, reduceCtorEq, Z7, Q6, SOp.rd, SI.rd, SX.rd, rdL, rdO, rdP, Q5, Q4, Q2, Q8, Q7, Z0, implies_true, forall_const, forall_eq, ne_eq, exists_eq_right_right, exists_eq_right, exists_eq_left, exists_eq_left', Q9, eStr, he0, he4, he5]
 refine Br.dec (fun h1 => ?_) (fun h1 => ?_)
 ·simp -dsimp -implicitDefEqProofs (disch := omega) only [↓Q0 16, ↓Q1 16, VCA, Z1, ↓Q3, Nat.reduceEqDiff, Nat.reduceBEq, Nat.reduceAdd, Nat.reduceSub, Nat.reduceMul, Nat.reduceLT, Nat.reduceLeDiff, ↓reduceIte, reduceCtorEq, Z7, Q6, SOp.rd, SI.rd, SX.rd, rdL, rdO, rdP, Q5, Q4, Q2, Q8, Q7, Z0, implies_true, forall_const, forall_eq, ne_eq, exists_eq_right_right, exists_eq_right, exists_eq_left, exists_eq_left', Q9, eStr, he0, he4, he5]
  have hr := hr (by omega)
  refine Br.eq (fun h2 => ?_) (fun h2 => ?_)
  ·obtain rfl : k = s.length := by omega
   simp -dsimp -implicitDefEqProofs (disch := omega) only [↓Q0 16, ↓Q1 16, VCA, Z1, ↓Q3, Nat.reduceEqDiff, Nat.reduceBEq, Nat.reduceAdd, Nat.reduceSub, Nat.reduceMul, Nat.reduceLT, Nat.reduceLeDiff, ↓reduceIte, reduceCtorEq, Z7, Q6, SOp.rd, SI.rd, SX.rd, rdL, rdO, rdP, Q5, Q4, Q2, Q8, Q7, Z0, implies_true, forall_const, forall_eq, ne_eq, exists_eq_right_right, exists_eq_right, exists_eq_left, exists_eq_left', Q9, eStr, he0, he4, he5]
   refine ⟨by omega, ?_⟩
   refine A.app S (by simp; omega) (by simp; omega) fun a' h3 A' S' => ?_
   simp -dsimp -implicitDefEqProofs (disch := omega) only [↓Q0 16, ↓Q1 16, VCA, Z1, ↓Q3, Nat.reduceEqDiff, Nat.reduceBEq, Nat.reduceAdd, Nat.reduceSub, Nat.reduceMul, Nat.reduceLT, Nat.reduceLeDiff, ↓reduceIte, reduceCtorEq, Z7, Q6, SOp.rd, SI.rd, SX.rd, rdL, rdO, rdP, Q5, Q4, Q2, Q8, Q7, Z0, implies_true, forall_const, forall_eq, ne_eq, exists_eq_right_right, exists_eq_right, exists_eq_left, exists_eq_left', Q9, eStr, he0, he4, he5]
   refine ⟨_, ?_, s.length + 1, s.length + 1, out ++ [s.drop f], by omega, by omega, by simp; omega, rfl, rfl, rfl, by simpa [eStr] using A', S', by omega, fun _ => ?_⟩
   ·omega
   ·rw [<- hr]; simp [Y9]
  ·simp -dsimp -implicitDefEqProofs (disch := omega) only [↓Q0 16, ↓Q1 16, VCA, Z1, ↓Q3, Nat.reduceEqDiff, Nat.reduceBEq, Nat.reduceAdd, Nat.reduceSub, Nat.reduceMul, Nat.reduceLT, Nat.reduceLeDiff, ↓reduceIte, reduceCtorEq, Z7, Q6, SOp.rd, SI.rd, SX.rd, rdL, rdO, rdP, Q5, Q4, Q2, Q8, Q7, Z0, implies_true, forall_const, forall_eq, ne_eq, exists_eq_right_right, exists_eq_right, exists_eq_left, exists_eq_left', Q9, eStr, he0, he4, he5]
   refine ⟨by omega, ?_⟩
   have hks : k < s.length := by omega
   have hdk : s.drop k = s.getD k 0 :: s.drop (k + 1) := by
    rw [List.drop_eq_getElem_cons hks]; congr 1; simp [List.getD_eq_getElem?_getD, List.getElem?_eq_getElem hks]
   rw [hdk] at hr
   have htk : (s.take (k + 1)).drop f = (s.take k).drop f ++ [s.getD k 0] := by
    rw [List.take_add_one, List.getElem?_eq_getElem hks, List.drop_append_of_le_length (by simp; omega)]
    simp [List.getD_eq_getElem?_getD, List.getElem?_eq_getElem hks]
   refine Br.eq (fun h3 => ?_) (fun h3 => ?_)
   ·have h3' : s.getD k 0 = 32 := (byte_eq _ 32 (by omega)).mp h3
    simp -dsimp -implicitDefEqProofs (disch := omega) only [↓Q0 16, ↓Q1 16, VCA, Z1, ↓Q3, Nat.reduceEqDiff, Nat.reduceBEq, Nat.reduceAdd, Nat.reduceSub, Nat.reduceMul, Nat.reduceLT, Nat.reduceLeDiff, ↓reduceIte, reduceCtorEq, Z7, Q6, SOp.rd, SI.rd, SX.rd, rdL, rdO, rdP, Q5, Q4, Q2, Q8, Q7, Z0, implies_true, forall_const, forall_eq, ne_eq, exists_eq_right_right, exists_eq_right, exists_eq_left, exists_eq_left', Q9, eStr, he0, he4, he5]
    refine ⟨by omega, ?_⟩
    refine A.app S (by simp; omega) (by simp; omega) fun a' h3 A' S' => ?_
    simp -dsimp -implicitDefEqProofs (disch := omega) only [↓Q0 16, ↓Q1 16, VCA, Z1, ↓Q3, Nat.reduceEqDiff, Nat.reduceBEq, Nat.reduceAdd, Nat.reduceSub, Nat.reduceMul, Nat.reduceLT, Nat.reduceLeDiff, ↓reduceIte, reduceCtorEq, Z7, Q6, SOp.rd, SI.rd, SX.rd, rdL, rdO, rdP, Q5, Q4, Q2, Q8, Q7, Z0, implies_true, forall_const, forall_eq, ne_eq, exists_eq_right_right, exists_eq_right, exists_eq_left, exists_eq_left', Q9, eStr, he0, he4, he5]
    refine ⟨_, ?_, k + 1, k + 1, out ++ [(s.take k).drop f], by omega, by omega, by simp; omega, rfl, by omega, by omega, by simpa [eStr] using A', S', fun _ => ?_, fun h => ?_⟩
    ·omega
    ·rw [<- hr, Y9, if_pos h3']; simp
    ·omega
   ·have h3' : ¬ s.getD k 0 = 32 := fun e => h3 ((byte_eq _ 32 (by omega)).mpr e)
    simp -dsimp -implicitDefEqProofs (disch := omega) only [↓Q0 16, ↓Q1 16, VCA, Z1, ↓Q3, Nat.reduceEqDiff, Nat.reduceBEq, Nat.reduceAdd, Nat.reduceSub, Nat.reduceMul, Nat.reduceLT, Nat.reduceLeDiff, ↓reduceIte, reduceCtorEq, Z7, Q6, SOp.rd, SI.rd, SX.rd, rdL, rdO, rdP, Q5, Q4, Q2, Q8, Q7, Z0, implies_true, forall_const, forall_eq, ne_eq, exists_eq_right_right, exists_eq_right, exists_eq_left, exists_eq_left', Q9, eStr, he0, he4, he5]
    refine ⟨_, ?_, k + 1, f, out, by omega, by omega, by omega, rfl, rfl, by omega, A, S, fun _ => ?_, fun h => ?_⟩
    ·omega
    ·rw [<- hr, Y9, if_neg h3', htk]
    ·omega
 ·simp -dsimp -implicitDefEqProofs (disch := omega) only [↓Q0 16, ↓Q1 16, VCA, Z1, ↓Q3, Nat.reduceEqDiff, Nat.reduceBEq, Nat.reduceAdd, Nat.reduceSub, Nat.reduceMul, Nat.reduceLT, Nat.reduceLeDiff, ↓reduceIte, reduceCtorEq, Z7, Q6, SOp.rd, SI.rd, SX.rd, rdL, rdO, rdP, Q5, Q4, Q2, Q8, Q7, Z0, implies_true, forall_const, forall_eq, ne_eq, exists_eq_right_right, exists_eq_right, exists_eq_left, exists_eq_left', Q9, eStr, he0, he4, he5]
  rw [<- hd (by omega)]
  exact ⟨_, Sub.refl _, A, S⟩
theorem splitB_len (b : UInt8) (cur s : List UInt8) : (Y9 b cur s).length <= s.length + 1 := by
 induction s generalizing cur with
 | nil => simp [Y9]
 | cons c r ih => unfold Y9; split <;> simp <;> have := ih [] <;> have := ih (cur ++ [c]) <;> omega
def c103 : SFun := ⟨.seq (.reg [o 4 (.mv (.c (.bool false)))]) (.seq (.reg [o 7 (.mv (.t 1)), o 8 (.pcall 169 [.t 7]), o 5 (.mv (.t 8))]) (.seq (.seq (.reg [o 6 (.mv (.c (.int .i64 0)))]) (.block 0 (.loop (.seq (.seq (.reg [o 9 (.mv (.t 6)), o 10 (.mv (.t 5)), o 11 (.len (.t 10)), o 12 (.bin .lss (.t 9) (.t 11))]) (.cond (.t 12) .skip (.exit 0))) (.seq (.block 1 (.seq (.reg [o 15 (.mv (.t 5)), o 16 (.mv (.t 6)), o 17 (.idxA 1 (.t 15) (.t 16)), o 18 (.ld 1 false (.t 17)), o 19 (.mv (.t 0)), o 20 (.bin .eql (.t 18) (.t 19))]) (.cond (.t 20) (.seq (.reg [o 4 (.mv (.c (.bool true)))]) .ret) .skip))) (.reg [o 13 (.mv (.t 6)), o 14 (.bin .add (.t 13) (.c (.int .i64 1))), o 6 (.mv (.t 14))])))))) (.seq (.reg [o 4 (.mv (.c (.bool false)))]) .ret))), [.tmp 4]⟩
theorem hc103 : X8 Tryz.prog {pure := [169]} Tryz.f103 = some c103 := by kernel_rfl
theorem wordW_ok (nm s : List UInt8) (hs : s.length <= 1073741000) : PCalls (Pg G) 103 [.str nm, .str s] (.bool ((Y9 32 [] s).any (· == nm))) := by
 intro h
 refine Z9 Tryz.func103 (by kernel_rfl) hc103 (by rw [Tryz.ntmps103]; simp) (by rw [Tryz.ntmps103]; decide) ?_
 simp -dsimp -implicitDefEqProofs (disch := omega) only [VCA, Z1, ↓Q3, Nat.reduceEqDiff, Nat.reduceBEq, Nat.reduceAdd, Nat.reduceSub, Nat.reduceMul, Nat.reduceLT, Nat.reduceLeDiff, ↓reduceIte, reduceCtorEq, Z7, Q6, SOp.rd, SI.rd, SX.rd, rdL, rdO, rdP, Q5, Q4, Q2, Q8, Q7, Z0, implies_true, forall_const, forall_eq, ne_eq, exists_eq_right_right, exists_eq_right, exists_eq_left, exists_eq_left', Q9, eStr, c103]
 refine pcallE.of (words_ok s (by omega)) ?_; simp -dsimp -implicitDefEqProofs (disch := omega) only [VCA, Z1, ↓Q3, Nat.reduceEqDiff, Nat.reduceBEq, Nat.reduceAdd, Nat.reduceSub, Nat.reduceMul, Nat.reduceLT, Nat.reduceLeDiff, ↓reduceIte, reduceCtorEq, Z7, Q6, SOp.rd, SI.rd, SX.rd, rdL, rdO, rdP, Q5, Q4, Q2, Q8, Q7, Z0, implies_true, forall_const, forall_eq, ne_eq, exists_eq_right_right, exists_eq_right, exists_eq_left, exists_eq_left', Q9, eStr]
 have hl := splitB_len 32 [] s
 generalize Y9 32 [] s = l at hl ⊢
 refine LoopVC.intro (fun m e h' => ∃ k : Nat, k <= l.length /\ m = l.length - k /\ e 0 = .str nm /\ e 5 = sl eStr l /\ e 6 = Y0 k /\ h' = h /\ ∀ j, j < k -> (nth l j == nm) = false) _ ⟨0, by omega, rfl, rfl, rfl, rfl, rfl, by omega⟩ ?_
 rintro m e h' ⟨k, hk, rfl, he0, he5, he6, rfl, hj⟩
 simp -dsimp -implicitDefEqProofs (disch := omega) only [VCA, Z1, ↓Q3, Nat.reduceEqDiff, Nat.reduceBEq, Nat.reduceAdd, Nat.reduceSub, Nat.reduceMul, Nat.reduceLT, Nat.reduceLeDiff, ↓reduceIte, reduceCtorEq, Z7, Q6, SOp.rd, SI.rd, SX.rd, rdL, rdO, rdP, Q5, Q4, Q2, Q8, Q7, Z0, implies_true, forall_const, forall_eq, ne_eq, exists_eq_right_right, exists_eq_right, exists_eq_left, exists_eq_left', Q9, eStr, he0, he5, he6]
 refine Br.dec (fun h1 => ?_) (fun h1 => ?_)
 ·simp -dsimp -implicitDefEqProofs (disch := omega) only [VCA, Z1, ↓Q3, Nat.reduceEqDiff, Nat.reduceBEq, Nat.reduceAdd, Nat.reduceSub, Nat.reduceMul, Nat.reduceLT, Nat.reduceLeDiff, ↓reduceIte, reduceCtorEq, Z7, Q6, SOp.rd, SI.rd, SX.rd, rdL, rdO, rdP, Q5, Q4, Q2, Q8, Q7, Z0, implies_true, forall_const, forall_eq, ne_eq, exists_eq_right_right, exists_eq_right, exists_eq_left, exists_eq_left', Q9, eStr, he0, he5, he6]
  refine ⟨by omega, Br.eq (fun h2 => ?_) (fun h2 => ?_)⟩
  ·simp -dsimp -implicitDefEqProofs (disch := omega) only [VCA, Z1, ↓Q3, Nat.reduceEqDiff, Nat.reduceBEq, Nat.reduceAdd, Nat.reduceSub, Nat.reduceMul, Nat.reduceLT, Nat.reduceLeDiff, ↓reduceIte, reduceCtorEq, Z7, Q6, SOp.rd, SI.rd, SX.rd, rdL, rdO, rdP, Q5, Q4, Q2, Q8, Q7, Z0, implies_true, forall_const, forall_eq, ne_eq, exists_eq_right_right, exists_eq_right, exists_eq_left, exists_eq_left', Q9, eStr]
   rw [any_nth (k := k) (by omega) (by simp [h2])]
   exact ⟨Sub.refl _, rfl⟩
  ·simp -dsimp -implicitDefEqProofs (disch := omega) only [VCA, Z1, ↓Q3, Nat.reduceEqDiff, Nat.reduceBEq, Nat.reduceAdd, Nat.reduceSub, Nat.reduceMul, Nat.reduceLT, Nat.reduceLeDiff, ↓reduceIte, reduceCtorEq, Z7, Q6, SOp.rd, SI.rd, SX.rd, rdL, rdO, rdP, Q5, Q4, Q2, Q8, Q7, Z0, implies_true, forall_const, forall_eq, ne_eq, exists_eq_right_right, exists_eq_right, exists_eq_left, exists_eq_left', Q9, eStr, he0, he5, he6]
   refine ⟨_, ?_, k + 1, by omega, rfl, by omega, fun j h3 => ?_⟩
   ·omega
   ·by_cases h4 : j = k
    ·subst h4; simpa using h2
    ·exact hj j (by omega)
 ·simp -dsimp -implicitDefEqProofs (disch := omega) only [VCA, Z1, ↓Q3, Nat.reduceEqDiff, Nat.reduceBEq, Nat.reduceAdd, Nat.reduceSub, Nat.reduceMul, Nat.reduceLT, Nat.reduceLeDiff, ↓reduceIte, reduceCtorEq, Z7, Q6, SOp.rd, SI.rd, SX.rd, rdL, rdO, rdP, Q5, Q4, Q2, Q8, Q7, Z0, implies_true, forall_const, forall_eq, ne_eq, exists_eq_right_right, exists_eq_right, exists_eq_left, exists_eq_left', Q9, eStr]
  rw [any_no fun j h2 => hj j (by omega)]
  exact ⟨Sub.refl _, rfl⟩
def inW (nm s : List UInt8) : Bool := (Y9 32 [] s).any (· == nm)
theorem one_in (hG : MaxLenOK G) (nm s : List UInt8) (hs : ((Y9 32 [] s).any (· == [])) = false) (hn : nm.length < 4294967281) (hl : s.length < 4294967200) : PCalls (Pg G) 72 [.str nm, .str (32 :: (s ++ [32]))] (.bool (inW nm s)) := by
 have h := oneW_ok hG nm (32 :: (s ++ [32])) hn (by simp; omega)
 rw [oneM_split s nm (fun h => by rw [List.any_eq_false] at hs; exact hs _ h rfl)] at h
 exact h
def voidS : List UInt8 := [97, 114, 101, 97, 32, 98, 97, 115, 101, 32, 98, 114, 32, 99, 111, 108, 32, 101, 109, 98, 101, 100, 32, 104, 114, 32, 105, 109, 103, 32, 105, 110, 112, 117, 116, 32, 108, 105, 110, 107, 32, 109, 101, 116, 97, 32, 115, 111, 117, 114, 99, 101, 32, 116, 114, 97, 99, 107, 32, 119, 98, 114]
def k189_1 : List UInt8 := [32, 97, 114, 101, 97, 32, 98, 97, 115, 101, 32, 98, 114, 32, 99, 111, 108, 32, 101, 109, 98, 101, 100, 32, 104, 114, 32, 105, 109, 103, 32, 105, 110, 112, 117, 116, 32, 108, 105, 110, 107, 32, 109, 101, 116, 97, 32, 115, 111, 117, 114, 99, 101, 32, 116, 114, 97, 99, 107, 32, 119, 98, 114, 32]
def c189 : SFun := ⟨.seq (.reg [o 2 (.mv (.c (.bool false)))]) (.seq (.reg [o 3 (.mv (.t 0)), o 4 (.pcall 72 [.t 3, .c (.str k189_1)]), o 2 (.mv (.t 4))]) .ret), [.tmp 2]⟩
theorem hc189 : X8 Tryz.prog {pure := [72]} Tryz.f189 = some c189 := by kernel_rfl
theorem void_ok (hG : MaxLenOK G) (nm : List UInt8) (hn : nm.length < 4294967281) : PCalls (Pg G) 189 [.str nm] (.bool (inW nm voidS)) := by
 intro h
 refine Z9 Tryz.func189 (by kernel_rfl) hc189 (by rw [Tryz.ntmps189]; simp) (by rw [Tryz.ntmps189]; decide) ?_
 have e : k189_1 = 32 :: (voidS ++ [32]) := by decide +kernel
 simp -dsimp -implicitDefEqProofs (disch := omega) only [VCA, Z1, ↓Q3, Nat.reduceEqDiff, Nat.reduceBEq, Nat.reduceAdd, Nat.reduceSub, Nat.reduceMul, Nat.reduceLT, Nat.reduceLeDiff, ↓reduceIte, reduceCtorEq, Z7, Q6, SOp.rd, SI.rd, SX.rd, rdL, rdO, rdP, Q5, Q4, Q2, Q8, Q7, Z0, implies_true, forall_const, forall_eq, ne_eq, exists_eq_right_right, exists_eq_right, exists_eq_left, exists_eq_left', Q9, eStr, c189, e]
 refine pcallE.of (one_in hG nm voidS (by decide +kernel) hn (by decide +kernel)) ?_; simp -dsimp -implicitDefEqProofs (disch := omega) only [VCA, Z1, ↓Q3, Nat.reduceEqDiff, Nat.reduceBEq, Nat.reduceAdd, Nat.reduceSub, Nat.reduceMul, Nat.reduceLT, Nat.reduceLeDiff, ↓reduceIte, reduceCtorEq, Z7, Q6, SOp.rd, SI.rd, SX.rd, rdL, rdO, rdP, Q5, Q4, Q2, Q8, Q7, Z0, implies_true, forall_const, forall_eq, ne_eq, exists_eq_right_right, exists_eq_right, exists_eq_left, exists_eq_left', Q9, eStr]
 first | exact Sub.refl _ | exact ⟨Sub.refl _, by simp []⟩
def k69_1 : List UInt8 := [97, 114, 101, 97, 32, 98, 97, 115, 101, 32, 98, 114, 32, 99, 111, 108, 32, 101, 109, 98, 101, 100, 32, 104, 114, 32, 105, 109, 103, 32, 105, 110, 112, 117, 116, 32, 108, 105, 110, 107, 32, 109, 101, 116, 97, 32, 115, 111, 117, 114, 99, 101, 32, 116, 114, 97, 99, 107, 32, 119, 98, 114]
def c69 : SFun := ⟨.seq (.reg [o 2 (.mv (.c (.bool false)))]) (.seq (.reg [o 3 (.mv (.t 0)), o 4 (.pcall 103 [.t 3, .c (.str k69_1)]), o 2 (.mv (.t 4))]) .ret), [.tmp 2]⟩
theorem hc69 : X8 Tryz.prog {pure := [103]} Tryz.f69 = some c69 := by kernel_rfl
theorem void2_ok (nm : List UInt8) : PCalls (Pg G) 69 [.str nm] (.bool (inW nm voidS)) := by
 intro h
 refine Z9 Tryz.func69 (by kernel_rfl) hc69 (by rw [Tryz.ntmps69]; simp) (by rw [Tryz.ntmps69]; decide) ?_
 have e : k69_1 = voidS := by decide +kernel
 simp -dsimp -implicitDefEqProofs (disch := omega) only [VCA, Z1, ↓Q3, Nat.reduceEqDiff, Nat.reduceBEq, Nat.reduceAdd, Nat.reduceSub, Nat.reduceMul, Nat.reduceLT, Nat.reduceLeDiff, ↓reduceIte, reduceCtorEq, Z7, Q6, SOp.rd, SI.rd, SX.rd, rdL, rdO, rdP, Q5, Q4, Q2, Q8, Q7, Z0, implies_true, forall_const, forall_eq, ne_eq, exists_eq_right_right, exists_eq_right, exists_eq_left, exists_eq_left', Q9, eStr, c69, e]
 refine pcallE.of (wordW_ok nm voidS (by decide +kernel)) ?_; simp -dsimp -implicitDefEqProofs (disch := omega) only [VCA, Z1, ↓Q3, Nat.reduceEqDiff, Nat.reduceBEq, Nat.reduceAdd, Nat.reduceSub, Nat.reduceMul, Nat.reduceLT, Nat.reduceLeDiff, ↓reduceIte, reduceCtorEq, Z7, Q6, SOp.rd, SI.rd, SX.rd, rdL, rdO, rdP, Q5, Q4, Q2, Q8, Q7, Z0, implies_true, forall_const, forall_eq, ne_eq, exists_eq_right_right, exists_eq_right, exists_eq_left, exists_eq_left', Q9, eStr]
 first | exact Sub.refl _ | exact ⟨Sub.refl _, by simp [inW]⟩
def MaxOK (G : Glob) : Prop := ∃ m, G 0 = .pin [Y0 m]
theorem replaceAll_ok (hG : MaxOK G) (s old new : List UInt8) (hs : s.length <= 1073741823) (h1 : 1 <= old.length) (h2 : new.length <= 100) : PCalls (Pg G) 185 [.str s, .str old, .str new] (.str (Lib.replaceAll s old new)) := by
 obtain ⟨m, hG⟩ := hG
 refine ofBelow ⟨_, Tryz.func185, by kernel_rfl, by kernel_rfl⟩ fun g w vs GR V => ?_
 obtain ⟨u, v, x, rfl, hu, hv, hx⟩ : ∃ u v x, vs = #[u, v, x] /\ VRel g w u (.str s) /\ VRel g w v (.str old) /\ VRel g w x (.str new) := by
  obtain ⟨hs, hv⟩ := V
  obtain ⟨l⟩ := vs
  match l, hs with
  | [u, v, x], _ => exact ⟨u, v, x, rfl, hv 0 u _ rfl rfl, hv 1 v _ rfl rfl, hv 2 x _ rfl rfl⟩
 rw [hu.str_inv', hv.str_inv', hx.str_inv']
 have hc : Lib.countB ⟨⟨s⟩⟩ ⟨⟨old⟩⟩ <= s.length + 1 := Lib.count_le s old
 have hb : s.length + Lib.countB ⟨⟨s⟩⟩ ⟨⟨old⟩⟩ * new.length <= 140737488355328 := by
  have := Nat.mul_le_mul hc h2
  omega
 exact (Tryz.strings_ReplaceAll ⟨⟨s⟩⟩ ⟨⟨old⟩⟩ ⟨⟨new⟩⟩ m w (by show s.length < _; omega) (GR.int hG) h1 hb).mono fun e w' ⟨he, hw⟩ => ⟨_, he, hw, fun g w => VRel.str_mk g w _⟩
section
variable {old new : List UInt8}
def ra (old new s : List UInt8) : List UInt8 := Lib.replaceK old new (Lib.count s old) s
theorem ra_all (hne : old ≠ new) (s : List UInt8) : Lib.replaceAll s old new = ra old new s := by
 unfold Lib.replaceAll Lib.replace ra Lib.replaceNum
 rw [if_neg (by simpa using hne), if_pos (.inl (by decide))]
theorem ra_nil (ho : old ≠ []) : ra old new [] = [] := by
 have : Lib.index [] old = -1 := by unfold Lib.index; rw [if_neg (by cases old <;> simp_all)]
 unfold ra
 rw [Lib.count_miss this]
 rfl
theorem ra_pre (ho : old ≠ []) (t : List UInt8) : ra old new (old ++ t) = new ++ ra old new t := by
 have hi : Lib.index (old ++ t) old = ((0 : Nat) : Int) := by
  obtain ⟨c, r, rfl⟩ := List.exists_cons_of_ne_nil ho
  rw [List.cons_append]; unfold Lib.index
  rw [if_pos (by rw [List.isPrefixOf_iff_prefix]; exact ⟨t, rfl⟩)]; simp
 unfold ra
 rw [Lib.count_hit ho hi, Nat.add_comm 1, Lib.replaceK_hit _ _ _ _ 0 hi]
 simp
theorem ra_cons (ho : old ≠ []) (c : UInt8) (t : List UInt8) (h : old.isPrefixOf (c :: t) = false) : ra old new (c :: t) = c :: ra old new t := by
 have hx : Lib.index (c :: t) old = if Lib.index t old == -1 then -1 else Lib.index t old + 1 := by
  conv => lhs; unfold Lib.index
  rw [if_neg (by rw [h]; simp)]
 have hge := Lib.index_ge t old
 unfold ra
 by_cases hm : Lib.index t old = -1
 ·rw [hm] at hx
  rw [Lib.count_miss hx, Lib.count_miss hm]
  rfl
 ·obtain ⟨i, hi⟩ : ∃ i : Nat, Lib.index t old = i := ⟨(Lib.index t old).toNat, by omega⟩
  have hj : Lib.index (c :: t) old = ((i + 1 : Nat) : Int) := by rw [hx, hi, if_neg (by simp)]; rfl
  have e : i + 1 + old.length = (i + old.length) + 1 := by omega
  rw [Lib.count_hit ho hj, Lib.count_hit ho hi, Nat.add_comm 1, e, List.drop_succ_cons, Nat.add_comm 1, Lib.replaceK_hit _ _ _ _ _ hj, Lib.replaceK_hit _ _ _ _ _ hi, e, List.drop_succ_cons]
  simp
theorem ra_one (b : UInt8) (new s : List UInt8) : ra [b] new s = s.flatMap fun c => if c = b then new else [c] := by
 induction s with
 | nil => exact ra_nil (by simp)
 | cons c t ih =>
  by_cases h : c = b
  ·subst h
   have := ra_pre (old := [c]) (new := new) (by simp) t
   rw [List.singleton_append] at this
   rw [this, List.flatMap_cons, if_pos rfl, ih]
  ·have hp : ([b] : List UInt8).isPrefixOf (c :: t) = false := by simp [List.isPrefixOf]; exact fun e => h e.symm
   rw [ra_cons (by simp) c t hp, List.flatMap_cons, if_neg h, ih]; rfl
end
def ampS : List UInt8 := [38, 97, 109, 112, 59]
def nbspS : List UInt8 := [38, 110, 98, 115, 112, 59]
def quotS : List UInt8 := [38, 113, 117, 111, 116, 59]
def ltS : List UInt8 := [38, 108, 116, 59]
def gtS : List UInt8 := [38, 103, 116, 59]
def escC (attr : Bool) (c : UInt8) : List UInt8 := if c = 38 then ampS else if attr = true /\ c = 34 then quotS else if attr = false /\ c = 60 then ltS else if attr = false /\ c = 62 then gtS else [c]
def escD (attr : Bool) (s : List UInt8) : List UInt8 :=
 match s with
 | [] => []
 | c :: t => if c = 194 /\ t.head? = some 160 then nbspS ++ escD attr t.tail else escC attr c ++ escD attr t
termination_by s.length
decreasing_by
 ·simp only [List.length_tail, List.length_cons]; omega
 ·simp
theorem escD_nil (attr : Bool) : escD attr [] = [] := by unfold escD; rfl
theorem escD_nb (attr : Bool) (t : List UInt8) : escD attr (194 :: 160 :: t) = nbspS ++ escD attr t := by
 rw [escD]; rw [if_pos ⟨rfl, rfl⟩]; rfl
theorem escD_c (attr : Bool) (c : UInt8) (t : List UInt8) (h : ¬ (c = 194 /\ t.head? = some 160)) : escD attr (c :: t) = escC attr c ++ escD attr t := by
 rw [escD]; rw [if_neg h]
def ampM (s : List UInt8) : List UInt8 := ra [38] ampS s
def lastM' (attr : Bool) (s : List UInt8) : List UInt8 := if attr = true then ra [34] quotS s else ra [62] gtS (ra [60] ltS s)
theorem last_app (attr : Bool) (a b : List UInt8) : lastM' attr (a ++ b) = lastM' attr a ++ lastM' attr b := by
 unfold lastM'; split <;> simp [ra_one]
theorem last_amp (attr : Bool) : lastM' attr ampS = ampS := by cases attr <;> (simp only [lastM', ra_one]; decide)
theorem last_nbsp (attr : Bool) : lastM' attr nbspS = nbspS := by cases attr <;> (simp only [lastM', ra_one]; decide)
theorem last_nil (attr : Bool) : lastM' attr [] = [] := by cases attr <;> (simp only [lastM', ra_one]; rfl)
theorem last_c (attr : Bool) (c : UInt8) (h : c ≠ 38) : lastM' attr [c] = escC attr c := by
 unfold escC
 rw [if_neg h]
 cases attr
 ·simp only [lastM', ra_one, Bool.false_eq_true, if_false, false_and, true_and]
  by_cases h1 : c = 60
  ·subst h1; decide
  ·by_cases h2 : c = 62
   ·subst h2; decide
   ·simp [h1, h2]
 ·simp only [lastM', ra_one, if_true, true_and]
  by_cases h1 : c = 34
  ·subst h1; decide
  ·simp [h1]
theorem amp_c (c : UInt8) (t : List UInt8) (h : c ≠ 38) : ampM (c :: t) = c :: ampM t := by simp [ampM, ra_one, h]
theorem amp_a (t : List UInt8) : ampM (38 :: t) = ampS ++ ampM t := by simp [ampM, ra_one]
theorem no194 (c : UInt8) (t : List UInt8) (h : c ≠ 194) : ([194, 160] : List UInt8).isPrefixOf (c :: t) = false := by
 simp only [List.isPrefixOf, Bool.and_eq_false_imp, beq_iff_eq]
 intro e; exact absurd e.symm h
theorem esc_eq (attr : Bool) : ∀ (n : Nat) (s : List UInt8), s.length <= n -> lastM' attr (ra [194, 160] nbspS (ampM s)) = escD attr s := by
 intro n
 induction n with
 | zero =>
  intro s hs
  have : s = [] := List.eq_nil_of_length_eq_zero (by omega)
  subst this
  rw [escD_nil, show ampM [] = [] from rfl, ra_nil (by simp), last_nil]
 | succ n ih =>
  intro s hs
  cases s with
  | nil => rw [escD_nil, show ampM [] = [] from rfl, ra_nil (by simp), last_nil]
  | cons c t =>
   simp only [List.length_cons] at hs
   by_cases h0 : c = 194 /\ t.head? = some 160
   ·obtain ⟨rfl, h0⟩ := h0
    obtain ⟨u, rfl⟩ : ∃ u, t = 160 :: u := by
     cases t with
     | nil => simp at h0
     | cons x u => simp at h0; subst h0; exact ⟨u, rfl⟩
    simp only [List.length_cons] at hs
    rw [escD_nb, amp_c _ _ (by decide), amp_c _ _ (by decide)]
    have := ra_pre (old := [194, 160]) (new := nbspS) (by simp) (ampM u)
    rw [List.cons_append, List.singleton_append] at this
    rw [this, last_app, last_nbsp, ih u (by omega)]
   ·rw [escD_c _ _ _ h0]
    by_cases h1 : c = 38
    ·subst h1
     have e : escC attr 38 = ampS := if_pos rfl
     rw [amp_a, e, <- ih t (by omega)]
     have : ra [194, 160] nbspS (ampS ++ ampM t) = ampS ++ ra [194, 160] nbspS (ampM t) := by
      unfold ampS
      simp only [List.cons_append, List.nil_append]
      rw [ra_cons (by simp) _ _ (no194 _ _ (by decide)), ra_cons (by simp) _ _ (no194 _ _ (by decide)), ra_cons (by simp) _ _ (no194 _ _ (by decide)), ra_cons (by simp) _ _ (no194 _ _ (by decide)), ra_cons (by simp) _ _ (no194 _ _ (by decide))]
     rw [this, last_app, last_amp]
    ·have hp : ([194, 160] : List UInt8).isPrefixOf (c :: ampM t) = false := by
      by_cases h2 : c = 194
      ·subst h2
       cases t with
       | nil => rfl
       | cons x u =>
        have hx : x ≠ 160 := fun e => h0 ⟨rfl, by rw [e]; rfl⟩
        by_cases h3 : x = 38
        ·subst h3; rw [amp_a]; rfl
        ·rw [amp_c _ _ h3]
         simp only [List.isPrefixOf, beq_self_eq_true, Bool.true_and, Bool.and_true]
         rw [beq_eq_false_iff_ne]; exact fun e => hx e.symm
      ·exact no194 _ _ h2
     rw [amp_c _ _ h1, ra_cons (by simp) _ _ hp, <- last_c attr c h1, <- ih t (by omega), <- last_app]
     rfl
theorem flat_len {f : UInt8 -> List UInt8} {k : Nat} (h : ∀ c, (f c).length <= k) (s : List UInt8) : (s.flatMap f).length <= k * s.length := by
 induction s with
 | nil => simp
 | cons c t ih => have := h c; simp only [List.flatMap_cons, List.length_append, List.length_cons, Nat.mul_add]; omega
theorem ra_one_len (b : UInt8) (new s : List UInt8) (hn : 1 <= new.length) : (ra [b] new s).length <= new.length * s.length := by
 rw [ra_one]
 refine flat_len (fun c => ?_) s
 split
 ·omega
 ·simpa using hn
theorem ra_two_len (s : List UInt8) : ∀ n, s.length <= n -> (ra [194, 160] nbspS s).length <= 6 * s.length := by
 intro n
 induction n generalizing s with
 | zero => intro hs; have : s = [] := List.eq_nil_of_length_eq_zero (by omega); subst this; rw [ra_nil (by simp)]; simp
 | succ n ih =>
  intro hs
  cases s with
  | nil => rw [ra_nil (by simp)]; simp
  | cons c t =>
   simp only [List.length_cons] at hs ⊢
   cases hp : ([194, 160] : List UInt8).isPrefixOf (c :: t) with
   | false =>
    rw [ra_cons (by simp) _ _ hp]
    have := ih t (by omega)
    simp only [List.length_cons]; omega
   | true =>
    rw [List.isPrefixOf_iff_prefix] at hp
    obtain ⟨u, hu⟩ := hp
    rw [<- hu, ra_pre (by simp)]
    have hl := congrArg List.length hu
    simp only [List.length_append, List.length_cons, List.length_nil] at hl
    have := ih u (by omega)
    have e : nbspS.length = 6 := rfl
    simp only [List.length_append, e]; omega
def c126 : SFun := ⟨.seq (.reg [o 4 (.mv (.c (.str [])))]) (.seq (.reg [o 5 (.mv (.t 0)), o 6 (.pcall 185 [.t 5, .c (.str [38]), .c (.str [38, 97, 109, 112, 59])]), o 0 (.mv (.t 6))]) (.seq (.reg [o 7 (.mv (.t 0)), o 8 (.pcall 185 [.t 7, .c (.str [194, 160]), .c (.str [38, 110, 98, 115, 112, 59])]), o 0 (.mv (.t 8))]) (.seq (.seq (.reg [o 9 (.mv (.t 1))]) (.cond (.t 9) (.seq (.reg [o 10 (.mv (.t 0)), o 11 (.pcall 185 [.t 10, .c (.str [34]), .c (.str [38, 113, 117, 111, 116, 59])]), o 4 (.mv (.t 11))]) .ret) .skip)) (.seq (.reg [o 12 (.mv (.t 0)), o 13 (.pcall 185 [.t 12, .c (.str [60]), .c (.str [38, 108, 116, 59])]), o 14 (.pcall 185 [.t 13, .c (.str [62]), .c (.str [38, 103, 116, 59])]), o 4 (.mv (.t 14))]) .ret)))), [.tmp 4]⟩
theorem hc126 : X8 Tryz.prog {pure := [185]} Tryz.f126 = some c126 := by kernel_rfl
theorem escape_ok (hG : MaxOK G) (s : List UInt8) (attr : Bool) (hs : s.length <= 1000000) : PCalls (Pg G) 126 [.str s, .bool attr] (.str (escD attr s)) := fun h => by
 have E := esc_eq attr s.length s (Nat.le_refl _)
 have l1 : (ampM s).length <= 5 * s.length := ra_one_len 38 ampS s (by decide)
 have l2 := ra_two_len (ampM s) _ (Nat.le_refl _)
 have c1 := replaceAll_ok hG s [38] ampS (by omega) (by decide) (by decide)
 have c2 := replaceAll_ok hG (ampM s) [194, 160] nbspS (by omega) (by decide) (by decide)
 rw [ra_all (by decide)] at c1 c2
 have hq := replaceAll_ok hG (ra [194, 160] nbspS (ampM s)) [34] quotS (by omega) (by decide) (by decide)
 have hl := replaceAll_ok hG (ra [194, 160] nbspS (ampM s)) [60] ltS (by omega) (by decide) (by decide)
 have l3 := ra_one_len 60 ltS (ra [194, 160] nbspS (ampM s)) (by decide)
 have e4 : ltS.length = 4 := rfl
 rw [e4] at l3
 have hg := replaceAll_ok hG (ra [60] ltS (ra [194, 160] nbspS (ampM s))) [62] gtS (by omega) (by decide) (by decide)
 rw [ra_all (by decide)] at hq hl hg
 unfold lastM' at E
 have c1 : PCalls (Pg G) 185 [.str s, .str [38], .str [38, 97, 109, 112, 59]] (.str (ampM s)) := c1
 have c2 : PCalls (Pg G) 185 [.str (ampM s), .str [194, 160], .str [38, 110, 98, 115, 112, 59]] (.str (ra [194, 160] nbspS (ampM s))) := c2
 have hq : PCalls (Pg G) 185 [.str (ra [194, 160] nbspS (ampM s)), .str [34], .str [38, 113, 117, 111, 116, 59]] (.str (ra [34] quotS (ra [194, 160] nbspS (ampM s)))) := hq
 have hl : PCalls (Pg G) 185 [.str (ra [194, 160] nbspS (ampM s)), .str [60], .str [38, 108, 116, 59]] (.str (ra [60] ltS (ra [194, 160] nbspS (ampM s)))) := hl
 have hg : PCalls (Pg G) 185 [.str (ra [60] ltS (ra [194, 160] nbspS (ampM s))), .str [62], .str [38, 103, 116, 59]] (.str (ra [62] gtS (ra [60] ltS (ra [194, 160] nbspS (ampM s))))) := hg
 refine Z9 Tryz.func126 (by kernel_rfl) hc126 (by rw [Tryz.ntmps126]; simp) (by rw [Tryz.ntmps126]; decide) ?_
 cases attr
 ·rw [if_neg (by simp)] at E
  simp -dsimp -implicitDefEqProofs (disch := omega) only [VCA, Z1, ↓Q3, Nat.reduceEqDiff, Nat.reduceBEq, Nat.reduceAdd, Nat.reduceSub, Nat.reduceMul, Nat.reduceLT, Nat.reduceLeDiff, ↓reduceIte, reduceCtorEq, Z7, Q6, SOp.rd, SI.rd, SX.rd, rdL, rdO, rdP, Q5, Q4, Q2, Q8, Q7, Z0, implies_true, forall_const, forall_eq, ne_eq, exists_eq_right_right, exists_eq_right, exists_eq_left, exists_eq_left', Q9, eRune, eName, c126]
  repeat' (first | ((with_reducible refine brC (fun _ => ?_) fun _ => ?_) <;> try (exfalso; omega)) | (with_reducible apply pcallE.of; · exact c1) | (with_reducible apply pcallE.of; · exact c2) | (with_reducible apply pcallE.of; · exact hl) | (with_reducible apply pcallE.of; · exact hg) | (with_reducible refine And.intro ?_ ?_; · omega) | simp -dsimp -implicitDefEqProofs (disch := omega) only [VCA, Z1, ↓Q3, Nat.reduceEqDiff, Nat.reduceBEq, Nat.reduceAdd, Nat.reduceSub, Nat.reduceMul, Nat.reduceLT, Nat.reduceLeDiff, ↓reduceIte, reduceCtorEq, Z7, Q6, SOp.rd, SI.rd, SX.rd, rdL, rdO, rdP, Q5, Q4, Q2, Q8, Q7, Z0, implies_true, forall_const, forall_eq, ne_eq, exists_eq_right_right, exists_eq_right, exists_eq_left, exists_eq_left', Q9, eRune, eName])
  exact ⟨Sub.refl _, by rw [E]⟩
 ·rw [if_pos rfl] at E
  simp -dsimp -implicitDefEqProofs (disch := omega) only [VCA, Z1, ↓Q3, Nat.reduceEqDiff, Nat.reduceBEq, Nat.reduceAdd, Nat.reduceSub, Nat.reduceMul, Nat.reduceLT, Nat.reduceLeDiff, ↓reduceIte, reduceCtorEq, Z7, Q6, SOp.rd, SI.rd, SX.rd, rdL, rdO, rdP, Q5, Q4, Q2, Q8, Q7, Z0, implies_true, forall_const, forall_eq, ne_eq, exists_eq_right_right, exists_eq_right, exists_eq_left, exists_eq_left', Q9, eRune, eName, c126]
  repeat' (first | ((with_reducible refine brC (fun _ => ?_) fun _ => ?_) <;> try (exfalso; omega)) | (with_reducible apply pcallE.of; · exact c1) | (with_reducible apply pcallE.of; · exact c2) | (with_reducible apply pcallE.of; · exact hq) | (with_reducible refine And.intro ?_ ?_; · omega) | simp -dsimp -implicitDefEqProofs (disch := omega) only [VCA, Z1, ↓Q3, Nat.reduceEqDiff, Nat.reduceBEq, Nat.reduceAdd, Nat.reduceSub, Nat.reduceMul, Nat.reduceLT, Nat.reduceLeDiff, ↓reduceIte, reduceCtorEq, Z7, Q6, SOp.rd, SI.rd, SX.rd, rdL, rdO, rdP, Q5, Q4, Q2, Q8, Q7, Z0, implies_true, forall_const, forall_eq, ne_eq, exists_eq_right_right, exists_eq_right, exists_eq_left, exists_eq_left', Q9, eRune, eName])
  exact ⟨Sub.refl _, by rw [E]⟩
def c56 : SFun := ⟨.seq (.reg [o 4 (.mv (.c (.str [])))]) (.seq (.reg [o 5 (.mv (.c (.str [])))]) (.seq (.seq (.reg [o 6 (.mv (.c (.int .i64 0)))]) (.block 0 (.loop (.seq (.seq (.reg [o 7 (.mv (.t 6)), o 8 (.mv (.t 0)), o 9 (.lenS (.t 8)), o 10 (.bin .lss (.t 7) (.t 9))]) (.cond (.t 10) .skip (.exit 0))) (.seq (.block 1 (.block 2 (.seq (.reg [o 21 (.mv (.t 0)), o 22 (.mv (.t 6)), o 23 (.idxS (.t 21) (.t 22)), o 24 (.bin .eql (.t 23) (.c (.int .u8 38))), o 20 (.mv (.t 24))]) (.cond (.t 20) (.reg [o 25 (.mv (.t 5)), o 26 (.bin .add (.t 25) (.c (.str [38, 97, 109, 112, 59]))), o 5 (.mv (.t 26))]) (.seq (.reg [o 28 (.mv (.t 0)), o 29 (.mv (.t 6)), o 30 (.idxS (.t 28) (.t 29)), o 31 (.bin .eql (.t 30) (.c (.int .u8 194))), o 32 (.mv (.t 31)), ⟨some 33, .mv (.t 6), some (32, true)⟩, ⟨some 34, .bin .add (.t 33) (.c (.int .i64 1)), some (32, true)⟩, ⟨some 35, .mv (.t 0), some (32, true)⟩, ⟨some 36, .lenS (.t 35), some (32, true)⟩, ⟨some 37, .bin .lss (.t 34) (.t 36), some (32, true)⟩, o 38 (.pick (.t 32) (.t 37) (.c (.bool false))), o 39 (.mv (.t 38)), ⟨some 40, .mv (.t 0), some (39, true)⟩, ⟨some 41, .mv (.t 6), some (39, true)⟩, ⟨some 42, .bin .add (.t 41) (.c (.int .i64 1)), some (39, true)⟩, ⟨some 43, .idxS (.t 40) (.t 42), some (39, true)⟩, ⟨some 44, .bin .eql (.t 43) (.c (.int .u8 160)), some (39, true)⟩, o 45 (.pick (.t 39) (.t 44) (.c (.bool false))), o 27 (.mv (.t 45))]) (.cond (.t 27) (.seq (.reg [o 46 (.mv (.t 5)), o 47 (.bin .add (.t 46) (.c (.str [38, 110, 98, 115, 112, 59]))), o 5 (.mv (.t 47))]) (.reg [o 48 (.mv (.t 6)), o 49 (.bin .add (.t 48) (.c (.int .i64 1))), o 6 (.mv (.t 49))])) (.seq (.reg [o 51 (.mv (.t 1)), o 52 (.mv (.t 51)), ⟨some 53, .mv (.t 0), some (52, true)⟩, ⟨some 54, .mv (.t 6), some (52, true)⟩, ⟨some 55, .idxS (.t 53) (.t 54), some (52, true)⟩, ⟨some 56, .bin .eql (.t 55) (.c (.int .u8 34)), some (52, true)⟩, o 57 (.pick (.t 52) (.t 56) (.c (.bool false))), o 50 (.mv (.t 57))]) (.cond (.t 50) (.reg [o 58 (.mv (.t 5)), o 59 (.bin .add (.t 58) (.c (.str [38, 113, 117, 111, 116, 59]))), o 5 (.mv (.t 59))]) (.seq (.reg [o 61 (.mv (.t 1)), o 62 (.un .not (.t 61)), o 63 (.mv (.t 62)), ⟨some 64, .mv (.t 0), some (63, true)⟩, ⟨some 65, .mv (.t 6), some (63, true)⟩, ⟨some 66, .idxS (.t 64) (.t 65), some (63, true)⟩, ⟨some 67, .bin .eql (.t 66) (.c (.int .u8 60)), some (63, true)⟩, o 68 (.pick (.t 63) (.t 67) (.c (.bool false))), o 60 (.mv (.t 68))]) (.cond (.t 60) (.reg [o 69 (.mv (.t 5)), o 70 (.bin .add (.t 69) (.c (.str [38, 108, 116, 59]))), o 5 (.mv (.t 70))]) (.seq (.reg [o 72 (.mv (.t 1)), o 73 (.un .not (.t 72)), o 74 (.mv (.t 73)), ⟨some 75, .mv (.t 0), some (74, true)⟩, ⟨some 76, .mv (.t 6), some (74, true)⟩, ⟨some 77, .idxS (.t 75) (.t 76), some (74, true)⟩, ⟨some 78, .bin .eql (.t 77) (.c (.int .u8 62)), some (74, true)⟩, o 79 (.pick (.t 74) (.t 78) (.c (.bool false))), o 71 (.mv (.t 79))]) (.cond (.t 71) (.reg [o 80 (.mv (.t 5)), o 81 (.bin .add (.t 80) (.c (.str [38, 103, 116, 59]))), o 5 (.mv (.t 81))]) (.reg [o 13 (.mv (.t 5)), o 14 (.mv (.t 0)), o 15 (.mv (.t 6)), o 16 (.mv (.t 6)), o 17 (.bin .add (.t 16) (.c (.int .i64 1))), o 18 (.slS (.t 14) (some (.t 15)) (some (.t 17))), o 19 (.bin .add (.t 13) (.t 18)), o 5 (.mv (.t 19))]))))))))))))) (.reg [o 11 (.mv (.t 6)), o 12 (.bin .add (.t 11) (.c (.int .i64 1))), o 6 (.mv (.t 12))])))))) (.seq (.reg [o 82 (.mv (.t 5)), o 4 (.mv (.t 82))]) .ret))), [.tmp 4]⟩
theorem hc56 : X8 Tryz.prog {} Tryz.f56 = some c56 := by kernel_rfl
theorem refEscape_ok (s : List UInt8) (attr : Bool) (hs : s.length <= 1000000) : PCalls (Pg G) 56 [.str s, .bool attr] (.str (escD attr s)) := fun h => by
 refine Z9 Tryz.func56 (by kernel_rfl) hc56 (by rw [Tryz.ntmps56]; simp) (by rw [Tryz.ntmps56]; decide) ?_
 simp -dsimp -implicitDefEqProofs (disch := omega) only [↓Q0 32, ↓Q1 32, ↓Q0 39, ↓Q1 39, ↓Q0 52, ↓Q1 52, ↓Q0 63, ↓Q1 63, ↓Q0 74, ↓Q1 74, VCA, Z1, ↓Q3, Nat.reduceEqDiff, Nat.reduceBEq, Nat.reduceAdd, Nat.reduceSub, Nat.reduceMul, Nat.reduceLT, Nat.reduceLeDiff, ↓reduceIte, reduceCtorEq, Z7, Q6, SOp.rd, SI.rd, SX.rd, rdL, rdO, rdP, Q5, Q4, Q2, Q8, Q7, Z0, implies_true, forall_const, forall_eq, ne_eq, exists_eq_right_right, exists_eq_right, exists_eq_left, exists_eq_left', Q9, eRune, eName, c56]
 refine LoopVC.intro (fun m e h' => ∃ (i : Nat) (o : List UInt8), m = s.length - i /\ i <= s.length /\ e 0 = .str s /\ e 1 = .bool attr /\ e 5 = .str o /\ e 6 = Y0 i /\ h' = h /\ o.length <= 6 * i /\ o ++ escD attr (s.drop i) = escD attr s) s.length ⟨0, [], rfl, by omega, rfl, rfl, rfl, rfl, rfl, by simp, rfl⟩ ?_
 rintro m e h' ⟨i, o, rfl, hi, he0, he1, he5, he6, rfl, ho, hR⟩
 simp -dsimp -implicitDefEqProofs (disch := omega) only [↓Q0 32, ↓Q1 32, ↓Q0 39, ↓Q1 39, ↓Q0 52, ↓Q1 52, ↓Q0 63, ↓Q1 63, ↓Q0 74, ↓Q1 74, VCA, Z1, ↓Q3, Nat.reduceEqDiff, Nat.reduceBEq, Nat.reduceAdd, Nat.reduceSub, Nat.reduceMul, Nat.reduceLT, Nat.reduceLeDiff, ↓reduceIte, reduceCtorEq, Z7, Q6, SOp.rd, SI.rd, SX.rd, rdL, rdO, rdP, Q5, Q4, Q2, Q8, Q7, Z0, implies_true, forall_const, forall_eq, ne_eq, exists_eq_right_right, exists_eq_right, exists_eq_left, exists_eq_left', Q9, eRune, eName, he0, he1, he5, he6]
 refine Br.dec (fun hlt => ?_) (fun hge => ?_)
 ·have hd : s.drop i = s.getD i 0 :: s.drop (i + 1) := by
   rw [List.drop_eq_getElem_cons (by omega), List.getD_eq_getElem?_getD, List.getElem?_eq_getElem (by omega)]; rfl
  have hi1 : i + 1 <= s.length := by omega
  have bq : ∀ (c : UInt8) (n : Nat), n < 256 -> (c = UInt8.ofNat n ↔ ((c.toNat : Int) = n)) := fun c n hn => by
   constructor
   ·rintro rfl; simp; omega
   ·intro e
    have e : c.toNat = n := by omega
    rw [<- e]; simp
  have hh : (s.drop (i + 1)).head? = some 160 ↔ i + 1 < s.length /\ ((s.getD (i + 1) 0).toNat : Int) = 160 := by
   rw [List.head?_drop]
   by_cases hl : i + 1 < s.length
   ·rw [List.getElem?_eq_getElem hl, List.getD_eq_getElem?_getD, List.getElem?_eq_getElem hl]
    simp only [Option.some.injEq, Option.getD_some]
    rw [show (160 : UInt8) = UInt8.ofNat 160 from rfl, bq _ 160 (by decide)]
    exact ⟨fun h => ⟨hl, h⟩, fun h => h.2⟩
   ·rw [List.getElem?_eq_none (by omega)]
    constructor
    ·intro h; cases h
    ·rintro ⟨h, _⟩; omega
  have b38 : s.getD i 0 = 38 ↔ ((s.getD i 0).toNat : Int) = 38 := bq (s.getD i 0) 38 (by decide)
  have b194 : s.getD i 0 = 194 ↔ ((s.getD i 0).toNat : Int) = 194 := bq (s.getD i 0) 194 (by decide)
  have b34 : s.getD i 0 = 34 ↔ ((s.getD i 0).toNat : Int) = 34 := bq (s.getD i 0) 34 (by decide)
  have b60 : s.getD i 0 = 60 ↔ ((s.getD i 0).toNat : Int) = 60 := bq (s.getD i 0) 60 (by decide)
  have b62 : s.getD i 0 = 62 ↔ ((s.getD i 0).toNat : Int) = 62 := bq (s.getD i 0) 62 (by decide)
  have go : ∀ (x : List UInt8) (k : Nat) (z : Int), 1 <= k -> i + k <= s.length -> z = (i : Int) + k -> escD attr (s.drop i) = x ++ escD attr (s.drop (i + k)) -> x.length <= 6 ->
    (o.length + x.length <= 9223372036854775807 /\ ∃ m', m' < s.length - i /\ ∃ (i1 : Nat) (o1 : List UInt8), m' = s.length - i1 /\ i1 <= s.length /\ o ++ x = o1 /\ z = i1 /\ o1.length <= 6 * i1 /\ o1 ++ escD attr (s.drop i1) = escD attr s) :=
   fun x k z h1 h2 h3 h4 h5 => ⟨by omega, s.length - (i + k), by omega, i + k, o ++ x, rfl, h2, rfl, by omega, by rw [List.length_append]; omega, by rw [List.append_assoc, <- h4]; exact hR⟩
  by_cases hB : ((s.getD i 0).toNat : Int) = 194 /\ i + 1 < s.length /\ ((s.getD (i + 1) 0).toNat : Int) = 160
  ·obtain ⟨h1, h2, h3⟩ := hB
   have hE : escD attr (s.drop i) = nbspS ++ escD attr (s.drop (i + 2)) := by
    have e1 : s.getD i 0 = 194 := b194.2 h1
    have hd2 : s.drop (i + 1) = s.getD (i + 1) 0 :: s.drop (i + 2) := by
     rw [List.drop_eq_getElem_cons (by omega), List.getD_eq_getElem?_getD, List.getElem?_eq_getElem (by omega)]; rfl
    have e2 : s.getD (i + 1) 0 = 160 := (bq _ 160 (by decide)).2 h3
    rw [hd, hd2, e1, e2, escD_nb]
   simp -dsimp -implicitDefEqProofs (disch := omega) only [↓Q0 32, ↓Q1 32, ↓Q0 39, ↓Q1 39, ↓Q0 52, ↓Q1 52, ↓Q0 63, ↓Q1 63, ↓Q0 74, ↓Q1 74, VCA, Z1, ↓Q3, Nat.reduceEqDiff, Nat.reduceBEq, Nat.reduceAdd, Nat.reduceSub, Nat.reduceMul, Nat.reduceLT, Nat.reduceLeDiff, ↓reduceIte, reduceCtorEq, Z7, Q6, SOp.rd, SI.rd, SX.rd, rdL, rdO, rdP, Q5, Q4, Q2, Q8, Q7, Z0, implies_true, forall_const, forall_eq, ne_eq, exists_eq_right_right, exists_eq_right, exists_eq_left, exists_eq_left', Q9, eRune, eName, he0, he1, he5, he6]
   repeat' (first | ((with_reducible refine brC (fun _ => ?_) fun _ => ?_) <;> try (exfalso; omega)) | (with_reducible refine And.intro ?_ ?_; · omega) | simp -dsimp -implicitDefEqProofs (disch := omega) only [↓Q0 32, ↓Q1 32, ↓Q0 39, ↓Q1 39, ↓Q0 52, ↓Q1 52, ↓Q0 63, ↓Q1 63, ↓Q0 74, ↓Q1 74, VCA, Z1, ↓Q3, Nat.reduceEqDiff, Nat.reduceBEq, Nat.reduceAdd, Nat.reduceSub, Nat.reduceMul, Nat.reduceLT, Nat.reduceLeDiff, ↓reduceIte, reduceCtorEq, Z7, Q6, SOp.rd, SI.rd, SX.rd, rdL, rdO, rdP, Q5, Q4, Q2, Q8, Q7, Z0, implies_true, forall_const, forall_eq, ne_eq, exists_eq_right_right, exists_eq_right, exists_eq_left, exists_eq_left', Q9, eRune, eName, he0, he1, he5, he6])
   all_goals first | (refine go nbspS 2 _ ?_ ?_ ?_ hE (by decide) <;> omega) | (refine (go nbspS 2 _ ?_ ?_ ?_ hE (by decide)).2 <;> omega)
  ·have hE : escD attr (s.drop i) = escC attr (s.getD i 0) ++ escD attr (s.drop (i + 1)) := by
    rw [hd]
    refine escD_c attr _ _ fun hc => hB ?_
    obtain ⟨h2, h3⟩ := hh.1 hc.2
    exact ⟨b194.1 hc.1, h2, h3⟩
   have fin : ∀ x, escC attr (s.getD i 0) = x -> x.length <= 6 -> _ := fun x hx hl => go x 1 _ (by omega) hi1 rfl (by rw [<- hx]; exact hE) hl
   have cut : (s.take (i + 1)).drop i = [s.getD i 0] := by
    rw [List.drop_take, hd, show i + 1 - i = 1 from by omega]; rfl
   cases attr
   ·rcases (by omega : ((s.getD i 0).toNat : Int) = 38 \/ ((s.getD i 0).toNat : Int) = 60 \/ ((s.getD i 0).toNat : Int) = 62 \/ (((s.getD i 0).toNat : Int) ≠ 38 /\ ((s.getD i 0).toNat : Int) ≠ 60 /\ ((s.getD i 0).toNat : Int) ≠ 62)) with hc | hc | hc | hc
    ·simp -dsimp -implicitDefEqProofs (disch := omega) only [↓Q0 32, ↓Q1 32, ↓Q0 39, ↓Q1 39, ↓Q0 52, ↓Q1 52, ↓Q0 63, ↓Q1 63, ↓Q0 74, ↓Q1 74, VCA, Z1, ↓Q3, Nat.reduceEqDiff, Nat.reduceBEq, Nat.reduceAdd, Nat.reduceSub, Nat.reduceMul, Nat.reduceLT, Nat.reduceLeDiff, ↓reduceIte, reduceCtorEq, Z7, Q6, SOp.rd, SI.rd, SX.rd, rdL, rdO, rdP, Q5, Q4, Q2, Q8, Q7, Z0, implies_true, forall_const, forall_eq, ne_eq, exists_eq_right_right, exists_eq_right, exists_eq_left, exists_eq_left', Q9, eRune, eName, he0, he1, he5, he6]
     repeat' (first | ((with_reducible refine brC (fun _ => ?_) fun _ => ?_) <;> try (exfalso; omega)) | (with_reducible refine And.intro ?_ ?_; · omega) | simp -dsimp -implicitDefEqProofs (disch := omega) only [↓Q0 32, ↓Q1 32, ↓Q0 39, ↓Q1 39, ↓Q0 52, ↓Q1 52, ↓Q0 63, ↓Q1 63, ↓Q0 74, ↓Q1 74, VCA, Z1, ↓Q3, Nat.reduceEqDiff, Nat.reduceBEq, Nat.reduceAdd, Nat.reduceSub, Nat.reduceMul, Nat.reduceLT, Nat.reduceLeDiff, ↓reduceIte, reduceCtorEq, Z7, Q6, SOp.rd, SI.rd, SX.rd, rdL, rdO, rdP, Q5, Q4, Q2, Q8, Q7, Z0, implies_true, forall_const, forall_eq, ne_eq, exists_eq_right_right, exists_eq_right, exists_eq_left, exists_eq_left', Q9, eRune, eName, he0, he1, he5, he6])
     all_goals first | exact fin ampS (by rw [b38.2 hc]; rfl) (by decide) | exact (fin ampS (by rw [b38.2 hc]; rfl) (by decide)).2
    ·simp -dsimp -implicitDefEqProofs (disch := omega) only [↓Q0 32, ↓Q1 32, ↓Q0 39, ↓Q1 39, ↓Q0 52, ↓Q1 52, ↓Q0 63, ↓Q1 63, ↓Q0 74, ↓Q1 74, VCA, Z1, ↓Q3, Nat.reduceEqDiff, Nat.reduceBEq, Nat.reduceAdd, Nat.reduceSub, Nat.reduceMul, Nat.reduceLT, Nat.reduceLeDiff, ↓reduceIte, reduceCtorEq, Z7, Q6, SOp.rd, SI.rd, SX.rd, rdL, rdO, rdP, Q5, Q4, Q2, Q8, Q7, Z0, implies_true, forall_const, forall_eq, ne_eq, exists_eq_right_right, exists_eq_right, exists_eq_left, exists_eq_left', Q9, eRune, eName, he0, he1, he5, he6]
     repeat' (first | ((with_reducible refine brC (fun _ => ?_) fun _ => ?_) <;> try (exfalso; omega)) | (with_reducible refine And.intro ?_ ?_; · omega) | simp -dsimp -implicitDefEqProofs (disch := omega) only [↓Q0 32, ↓Q1 32, ↓Q0 39, ↓Q1 39, ↓Q0 52, ↓Q1 52, ↓Q0 63, ↓Q1 63, ↓Q0 74, ↓Q1 74, VCA, Z1, ↓Q3, Nat.reduceEqDiff, Nat.reduceBEq, Nat.reduceAdd, Nat.reduceSub, Nat.reduceMul, Nat.reduceLT, Nat.reduceLeDiff, ↓reduceIte, reduceCtorEq, Z7, Q6, SOp.rd, SI.rd, SX.rd, rdL, rdO, rdP, Q5, Q4, Q2, Q8, Q7, Z0, implies_true, forall_const, forall_eq, ne_eq, exists_eq_right_right, exists_eq_right, exists_eq_left, exists_eq_left', Q9, eRune, eName, he0, he1, he5, he6])
     all_goals first | exact fin ltS (by rw [b60.2 hc]; rfl) (by decide) | exact (fin ltS (by rw [b60.2 hc]; rfl) (by decide)).2
    ·simp -dsimp -implicitDefEqProofs (disch := omega) only [↓Q0 32, ↓Q1 32, ↓Q0 39, ↓Q1 39, ↓Q0 52, ↓Q1 52, ↓Q0 63, ↓Q1 63, ↓Q0 74, ↓Q1 74, VCA, Z1, ↓Q3, Nat.reduceEqDiff, Nat.reduceBEq, Nat.reduceAdd, Nat.reduceSub, Nat.reduceMul, Nat.reduceLT, Nat.reduceLeDiff, ↓reduceIte, reduceCtorEq, Z7, Q6, SOp.rd, SI.rd, SX.rd, rdL, rdO, rdP, Q5, Q4, Q2, Q8, Q7, Z0, implies_true, forall_const, forall_eq, ne_eq, exists_eq_right_right, exists_eq_right, exists_eq_left, exists_eq_left', Q9, eRune, eName, he0, he1, he5, he6]
     repeat' (first | ((with_reducible refine brC (fun _ => ?_) fun _ => ?_) <;> try (exfalso; omega)) | (with_reducible refine And.intro ?_ ?_; · omega) | simp -dsimp -implicitDefEqProofs (disch := omega) only [↓Q0 32, ↓Q1 32, ↓Q0 39, ↓Q1 39, ↓Q0 52, ↓Q1 52, ↓Q0 63, ↓Q1 63, ↓Q0 74, ↓Q1 74, VCA, Z1, ↓Q3, Nat.reduceEqDiff, Nat.reduceBEq, Nat.reduceAdd, Nat.reduceSub, Nat.reduceMul, Nat.reduceLT, Nat.reduceLeDiff, ↓reduceIte, reduceCtorEq, Z7, Q6, SOp.rd, SI.rd, SX.rd, rdL, rdO, rdP, Q5, Q4, Q2, Q8, Q7, Z0, implies_true, forall_const, forall_eq, ne_eq, exists_eq_right_right, exists_eq_right, exists_eq_left, exists_eq_left', Q9, eRune, eName, he0, he1, he5, he6])
     all_goals first | exact fin gtS (by rw [b62.2 hc]; rfl) (by decide) | exact (fin gtS (by rw [b62.2 hc]; rfl) (by decide)).2
    ·have hx : escC false (s.getD i 0) = [s.getD i 0] := by
      unfold escC
      rw [if_neg (fun e => hc.1 (b38.1 e)), if_neg (by simp), if_neg (fun e => hc.2.1 (b60.1 e.2)), if_neg (fun e => hc.2.2 (b62.1 e.2))]
     simp -dsimp -implicitDefEqProofs (disch := omega) only [↓Q0 32, ↓Q1 32, ↓Q0 39, ↓Q1 39, ↓Q0 52, ↓Q1 52, ↓Q0 63, ↓Q1 63, ↓Q0 74, ↓Q1 74, VCA, Z1, ↓Q3, Nat.reduceEqDiff, Nat.reduceBEq, Nat.reduceAdd, Nat.reduceSub, Nat.reduceMul, Nat.reduceLT, Nat.reduceLeDiff, ↓reduceIte, reduceCtorEq, Z7, Q6, SOp.rd, SI.rd, SX.rd, rdL, rdO, rdP, Q5, Q4, Q2, Q8, Q7, Z0, implies_true, forall_const, forall_eq, ne_eq, exists_eq_right_right, exists_eq_right, exists_eq_left, exists_eq_left', Q9, eRune, eName, he0, he1, he5, he6]
     repeat' (first | ((with_reducible refine brC (fun _ => ?_) fun _ => ?_) <;> try (exfalso; omega)) | (with_reducible refine And.intro ?_ ?_; · omega) | simp -dsimp -implicitDefEqProofs (disch := omega) only [↓Q0 32, ↓Q1 32, ↓Q0 39, ↓Q1 39, ↓Q0 52, ↓Q1 52, ↓Q0 63, ↓Q1 63, ↓Q0 74, ↓Q1 74, VCA, Z1, ↓Q3, Nat.reduceEqDiff, Nat.reduceBEq, Nat.reduceAdd, Nat.reduceSub, Nat.reduceMul, Nat.reduceLT, Nat.reduceLeDiff, ↓reduceIte, reduceCtorEq, Z7, Q6, SOp.rd, SI.rd, SX.rd, rdL, rdO, rdP, Q5, Q4, Q2, Q8, Q7, Z0, implies_true, forall_const, forall_eq, ne_eq, exists_eq_right_right, exists_eq_right, exists_eq_left, exists_eq_left', Q9, eRune, eName, he0, he1, he5, he6])
     all_goals first | (rw [cut]; exact fin _ hx (by simp)) | (rw [cut]; exact (fin _ hx (by simp)).2)
   ·rcases (by omega : ((s.getD i 0).toNat : Int) = 38 \/ ((s.getD i 0).toNat : Int) = 34 \/ (((s.getD i 0).toNat : Int) ≠ 38 /\ ((s.getD i 0).toNat : Int) ≠ 34)) with hc | hc | hc
    ·simp -dsimp -implicitDefEqProofs (disch := omega) only [↓Q0 32, ↓Q1 32, ↓Q0 39, ↓Q1 39, ↓Q0 52, ↓Q1 52, ↓Q0 63, ↓Q1 63, ↓Q0 74, ↓Q1 74, VCA, Z1, ↓Q3, Nat.reduceEqDiff, Nat.reduceBEq, Nat.reduceAdd, Nat.reduceSub, Nat.reduceMul, Nat.reduceLT, Nat.reduceLeDiff, ↓reduceIte, reduceCtorEq, Z7, Q6, SOp.rd, SI.rd, SX.rd, rdL, rdO, rdP, Q5, Q4, Q2, Q8, Q7, Z0, implies_true, forall_const, forall_eq, ne_eq, exists_eq_right_right, exists_eq_right, exists_eq_left, exists_eq_left', Q9, eRune, eName, he0, he1, he5, he6]
     repeat' (first | ((with_reducible refine brC (fun _ => ?_) fun _ => ?_) <;> try (exfalso; omega)) | (with_reducible refine And.intro ?_ ?_; · omega) | simp -dsimp -implicitDefEqProofs (disch := omega) only [↓Q0 32, ↓Q1 32, ↓Q0 39, ↓Q1 39, ↓Q0 52, ↓Q1 52, ↓Q0 63, ↓Q1 63, ↓Q0 74, ↓Q1 74, VCA, Z1, ↓Q3, Nat.reduceEqDiff, Nat.reduceBEq, Nat.reduceAdd, Nat.reduceSub, Nat.reduceMul, Nat.reduceLT, Nat.reduceLeDiff, ↓reduceIte, reduceCtorEq, Z7, Q6, SOp.rd, SI.rd, SX.rd, rdL, rdO, rdP, Q5, Q4, Q2, Q8, Q7, Z0, implies_true, forall_const, forall_eq, ne_eq, exists_eq_right_right, exists_eq_right, exists_eq_left, exists_eq_left', Q9, eRune, eName, he0, he1, he5, he6])
     all_goals first | exact fin ampS (by rw [b38.2 hc]; rfl) (by decide) | exact (fin ampS (by rw [b38.2 hc]; rfl) (by decide)).2
    ·simp -dsimp -implicitDefEqProofs (disch := omega) only [↓Q0 32, ↓Q1 32, ↓Q0 39, ↓Q1 39, ↓Q0 52, ↓Q1 52, ↓Q0 63, ↓Q1 63, ↓Q0 74, ↓Q1 74, VCA, Z1, ↓Q3, Nat.reduceEqDiff, Nat.reduceBEq, Nat.reduceAdd, Nat.reduceSub, Nat.reduceMul, Nat.reduceLT, Nat.reduceLeDiff, ↓reduceIte, reduceCtorEq, Z7, Q6, SOp.rd, SI.rd, SX.rd, rdL, rdO, rdP, Q5, Q4, Q2, Q8, Q7, Z0, implies_true, forall_const, forall_eq, ne_eq, exists_eq_right_right, exists_eq_right, exists_eq_left, exists_eq_left', Q9, eRune, eName, he0, he1, he5, he6]
     repeat' (first | ((with_reducible refine brC (fun _ => ?_) fun _ => ?_) <;> try (exfalso; omega)) | (with_reducible refine And.intro ?_ ?_; · omega) | simp -dsimp -implicitDefEqProofs (disch := omega) only [↓Q0 32, ↓Q1 32, ↓Q0 39, ↓Q1 39, ↓Q0 52, ↓Q1 52, ↓Q0 63, ↓Q1 63, ↓Q0 74, ↓Q1 74, VCA, Z1, ↓Q3, Nat.reduceEqDiff, Nat.reduceBEq, Nat.reduceAdd, Nat.reduceSub, Nat.reduceMul, Nat.reduceLT, Nat.reduceLeDiff, ↓reduceIte, reduceCtorEq, Z7, Q6, SOp.rd, SI.rd, SX.rd, rdL, rdO, rdP, Q5, Q4, Q2, Q8, Q7, Z0, implies_true, forall_const, forall_eq, ne_eq, exists_eq_right_right, exists_eq_right, exists_eq_left, exists_eq_left', Q9, eRune, eName, he0, he1, he5, he6])
     all_goals first | exact fin quotS (by rw [b34.2 hc]; rfl) (by decide) | exact (fin quotS (by rw [b34.2 hc]; rfl) (by decide)).2
    ·have hx : escC true (s.getD i 0) = [s.getD i 0] := by
      unfold escC
      rw [if_neg (fun e => hc.1 (b38.1 e)), if_neg (fun e => hc.2 (b34.1 e.2)), if_neg (by simp), if_neg (by simp)]
     simp -dsimp -implicitDefEqProofs (disch := omega) only [↓Q0 32, ↓Q1 32, ↓Q0 39, ↓Q1 39, ↓Q0 52, ↓Q1 52, ↓Q0 63, ↓Q1 63, ↓Q0 74, ↓Q1 74, VCA, Z1, ↓Q3, Nat.reduceEqDiff, Nat.reduceBEq, Nat.reduceAdd, Nat.reduceSub, Nat.reduceMul, Nat.reduceLT, Nat.reduceLeDiff, ↓reduceIte, reduceCtorEq, Z7, Q6, SOp.rd, SI.rd, SX.rd, rdL, rdO, rdP, Q5, Q4, Q2, Q8, Q7, Z0, implies_true, forall_const, forall_eq, ne_eq, exists_eq_right_right, exists_eq_right, exists_eq_left, exists_eq_left', Q9, eRune, eName, he0, he1, he5, he6]
     repeat' (first | ((with_reducible refine brC (fun _ => ?_) fun _ => ?_) <;> try (exfalso; omega)) | (with_reducible refine And.intro ?_ ?_; · omega) | simp -dsimp -implicitDefEqProofs (disch := omega) only [↓Q0 32, ↓Q1 32, ↓Q0 39, ↓Q1 39, ↓Q0 52, ↓Q1 52, ↓Q0 63, ↓Q1 63, ↓Q0 74, ↓Q1 74, VCA, Z1, ↓Q3, Nat.reduceEqDiff, Nat.reduceBEq, Nat.reduceAdd, Nat.reduceSub, Nat.reduceMul, Nat.reduceLT, Nat.reduceLeDiff, ↓reduceIte, reduceCtorEq, Z7, Q6, SOp.rd, SI.rd, SX.rd, rdL, rdO, rdP, Q5, Q4, Q2, Q8, Q7, Z0, implies_true, forall_const, forall_eq, ne_eq, exists_eq_right_right, exists_eq_right, exists_eq_left, exists_eq_left', Q9, eRune, eName, he0, he1, he5, he6])
     all_goals first | (rw [cut]; exact fin _ hx (by simp)) | (rw [cut]; exact (fin _ hx (by simp)).2)
 ·simp -dsimp -implicitDefEqProofs (disch := omega) only [↓Q0 32, ↓Q1 32, ↓Q0 39, ↓Q1 39, ↓Q0 52, ↓Q1 52, ↓Q0 63, ↓Q1 63, ↓Q0 74, ↓Q1 74, VCA, Z1, ↓Q3, Nat.reduceEqDiff, Nat.reduceBEq, Nat.reduceAdd, Nat.reduceSub, Nat.reduceMul, Nat.reduceLT, Nat.reduceLeDiff, ↓reduceIte, reduceCtorEq, Z7, Q6, SOp.rd, SI.rd, SX.rd, rdL, rdO, rdP, Q5, Q4, Q2, Q8, Q7, Z0, implies_true, forall_const, forall_eq, ne_eq, exists_eq_right_right, exists_eq_right, exists_eq_left, exists_eq_left', Q9, eRune, eName, he0, he1, he5, he6]
  have : s.drop i = [] := List.drop_eq_nil_of_le (by omega)
  rw [this, escD_nil, List.append_nil] at hR
  exact ⟨Sub.refl _, by rw [hR]⟩
end Go.Proofs.K
end
section
set_option linter.unusedSimpArgs false
set_option linter.unusedVariables false
namespace Go.Proofs.K
open Go Go.Sim Go.Proofs
theorem nd_nat (d : HDoc) (i : Nat) : nd d (i : Int) = nth d.nodes i := by simp [nd]
theorem inD_nat {d : HDoc} {i : Nat} : inD d (i : Int) ↔ i < d.nodes.length := by unfold inD; omega
theorem inD.nat {d : HDoc} {n : Int} (h : inD d n) : n.toNat < d.nodes.length /\ (n.toNat : Int) = n := by unfold inD at h; omega
theorem nodup_of_take {α : Type} [Inhabited α] {l : List α} (h : ∀ k, k < l.length -> nth l k ∉ l.take k) : l.Nodup := by
 rw [List.Nodup, List.pairwise_iff_getElem]
 intro i j hi hj hij heq
 have hn : ∀ j (hj : j < l.length), l[j] = nth l j := fun j hj => by have := nth_some hj; rw [List.getElem?_eq_getElem hj] at this; exact Option.some.inj this
 refine h j hj ?_
 rw [<- hn j hj, <- heq, List.mem_take_iff_getElem]
 exact ⟨i, by omega, rfl⟩
theorem take_of_nodup {α : Type} [Inhabited α] {l : List α} (h : l.Nodup) {k : Nat} (hk : k < l.length) : nth l k ∉ l.take k := by
 intro hm
 have hn : ∀ j (hj : j < l.length), l[j] = nth l j := fun j hj => by have := nth_some hj; rw [List.getElem?_eq_getElem hj] at this; exact Option.some.inj this
 rw [List.mem_take_iff_getElem] at hm
 obtain ⟨i, hi, he⟩ := hm
 rw [List.Nodup, List.pairwise_iff_getElem] at h
 rw [<- hn k hk] at he
 exact h i k (by omega) hk (by omega) he
theorem upF_mono {d : HDoc} : ∀ {f : Nat} {n : Int} {g : Nat}, upF f d n < f -> f <= g -> upF g d n = upF f d n
 | 0, n, g, h, _ => by omega
 | f + 1, n, 0, _, h => by omega
 | f + 1, n, g + 1, h, hg => by
  unfold upF at h ⊢
  split
  ·rename_i hp
   rw [if_pos hp] at h
   rw [upF_mono (f := f) (by omega) (by omega)]
  ·rfl
structure DV (d : HDoc) : Prop where
 pos : 0 < d.nodes.length
 len : d.nodes.length <= 200
 kind : ∀ n, inD d n -> ((nd d n).kind = 1 ↔ n = 0)
 node : ∀ n, inD d n -> nodeE (nd d n) = 0
 kid : ∀ n, inD d n -> ∀ k ∈ (nd d n).kids, inD d k /\ (nd d k).parent = n
 nodup : ∀ n, inD d n -> (nd d n).kids.Nodup
 top : ∀ k ∈ (nd d 0).kids, (nd d k).kind ≠ 3
 par : ∀ n, inD d n -> (nd d n).parent = -1 \/ (inD d (nd d n).parent /\ n ∈ (nd d (nd d n).parent).kids)
 root : (nd d 0).parent = -1
 fin : ∀ n, inD d n -> up d n <= d.nodes.length
 deep : ∀ n, inD d n -> up d n <= 40
theorem docE_iff (d : HDoc) : docE d = 0 ↔ DV d := by
 have all : ∀ {p : Int -> Prop}, (∀ n, inD d n -> p n) ↔ ∀ i : Nat, i < d.nodes.length -> p i := fun {p} =>
  ⟨fun h i hi => h i (inD_nat.2 hi), fun h n hn => by have := h n.toNat hn.nat.1; rwa [hn.nat.2] at this⟩
 have h1 : fe d.nodes.length (headE d) = 0 ↔ ∀ n, inD d n -> ((nd d n).kind = 1 ↔ n = 0) /\ nodeE (nd d n) = 0 := by
  rw [fe_iff, all]
  refine forall_congr' fun i => imp_congr_right fun hi => ?_
  unfold headE
  rw [nd_nat]
  by_cases hc : (nth d.nodes i).kind = 1 ↔ i = 0
  ·rw [if_neg (by simpa using hc)]
   exact ⟨fun h => ⟨hc.trans (by omega), h⟩, fun h => h.2⟩
  ·rw [if_pos hc]
   exact ⟨fun h => by omega, fun h => absurd (h.1.trans (by omega)) hc⟩
 have h2 : fe d.nodes.length (kidsE d) = 0 ↔ (∀ n, inD d n -> (∀ k ∈ (nd d n).kids, inD d k /\ (nd d k).parent = n) /\ (nd d n).kids.Nodup) /\ (0 < d.nodes.length -> ∀ k ∈ (nd d 0).kids, (nd d k).kind ≠ 3) := by
  rw [fe_iff, all]
  constructor
  ·intro h
   refine ⟨fun i hi => ?_, fun h0 k hk => ?_⟩
   ·have hi' := fe_zero (h i hi)
    rw [nd_nat]
    refine ⟨fun k hk => ?_, nodup_of_take fun k hk => ?_⟩
    ·obtain ⟨j, hj, rfl⟩ := mem_nth hk
     have := hi' j hj
     unfold kidE at this
     simp only at this
     split at this
     ·omega
     ·rename_i hn
      simp only [not_or, Classical.not_not] at hn
      exact ⟨hn.1, hn.2.1⟩
    ·have := hi' k hk
     unfold kidE at this
     simp only at this
     split at this
     ·omega
     ·rename_i hn
      simp only [not_or] at hn
      exact hn.2.2
   ·have hi' := fe_zero (h 0 h0)
    have e0 : nd d 0 = nth d.nodes 0 := nd_nat d 0
    rw [e0] at hk
    obtain ⟨j, hj, rfl⟩ := mem_nth hk
    have := hi' j hj
    unfold kidE at this
    simp only at this
    split at this
    ·omega
    ·split at this
     ·omega
     ·rename_i hn
      intro hh
      exact hn (by simpa using hh)
  ·intro ⟨h, ht⟩ i hi
   refine fe_none fun k hk => ?_
   have hi' := h i hi
   rw [nd_nat] at hi'
   have hm := X9 hk
   unfold kidE
   simp only
   rw [if_neg, if_neg]
   ·rintro ⟨rfl, hh⟩
    exact ht (by omega) _ (by rw [show nd d 0 = nth d.nodes 0 from nd_nat d 0]; exact hm) hh
   ·simp only [not_or, Classical.not_not]
    exact ⟨(hi'.1 _ hm).1, (hi'.1 _ hm).2, take_of_nodup hi'.2 hk⟩
 have h3 : fe d.nodes.length (parE d) = 0 ↔ ∀ n, inD d n -> (nd d n).parent = -1 \/ (inD d (nd d n).parent /\ n ∈ (nd d (nd d n).parent).kids) := by
  rw [fe_iff, all]
  refine forall_congr' fun i => imp_congr_right fun hi => ?_
  unfold parE
  simp only
  rw [nd_nat]
  by_cases hp : (nth d.nodes i).parent = -1
  ·rw [if_neg (by simp [hp])]; simp [hp]
  ·by_cases hq : inD d (nth d.nodes i).parent /\ (i : Int) ∈ (nd d (nth d.nodes i).parent).kids
   ·rw [if_neg (by rintro ⟨_, hh⟩; exact hh.elim (fun h => h hq.1) (fun h => h hq.2))]
    exact ⟨fun _ => .inr hq, fun _ => rfl⟩
   ·rw [if_pos ⟨hp, by rw [<- Classical.not_and_iff_not_or_not]; exact hq⟩]
    exact ⟨fun h => by omega, fun h => absurd (h.resolve_left hp) hq⟩
 have h4 : fe d.nodes.length (deepE d) = 0 ↔ ∀ n, inD d n -> up d n <= d.nodes.length /\ up d n <= 40 := by
  rw [fe_iff, all]
  refine forall_congr' fun i => imp_congr_right fun hi => ?_
  unfold deepE
  split
  ·omega
  ·split <;> omega
 constructor
 ·intro h
  unfold docE at h
  split at h
  ·omega
  ·split at h
   ·omega
   ·split at h
    ·contradiction
    ·split at h
     ·contradiction
     ·split at h
      ·contradiction
      ·split at h
       ·omega
       ·rename_i g1 g2 g3 g4 g5 g6
        simp only [ne_eq, Classical.not_not] at g3 g4 g5 g6
        have k1 := h1.1 g3
        have k2 := h2.1 g4
        have k3 := h3.1 g5
        have k4 := h4.1 h
        exact ⟨by omega, by omega, fun n hn => (k1 n hn).1, fun n hn => (k1 n hn).2, fun n hn => (k2.1 n hn).1, fun n hn => (k2.1 n hn).2, k2.2 (by omega), k3, g6, fun n hn => (k4 n hn).1, fun n hn => (k4 n hn).2⟩
 ·intro V
  have hl := V.len
  have hp := V.pos
  unfold docE
  rw [if_neg (by omega), if_neg (by omega), if_neg, if_neg, if_neg, if_neg (by simp [V.root])]
  ·exact h4.2 fun n hn => ⟨V.fin n hn, V.deep n hn⟩
  ·simp only [ne_eq, Classical.not_not]; exact h3.2 V.par
  ·simp only [ne_eq, Classical.not_not]; exact h2.2 ⟨fun n hn => ⟨V.kid n hn, V.nodup n hn⟩, fun _ => V.top⟩
  ·simp only [ne_eq, Classical.not_not]; exact h1.2 fun n hn => ⟨V.kind n hn, V.node n hn⟩
section
variable {d : HDoc}
theorem DV.zero (V : DV d) : inD d 0 := by have := V.pos; unfold inD; omega
theorem DV.par_in (V : DV d) {n : Int} (hn : inD d n) (hp : 0 <= (nd d n).parent) : inD d (nd d n).parent /\ n ∈ (nd d (nd d n).parent).kids := by
 rcases V.par n hn with h | h
 ·omega
 ·exact h
theorem DV.up_par (V : DV d) {n : Int} (hn : inD d n) (hp : 0 <= (nd d n).parent) : up d n = up d (nd d n).parent + 1 := by
 have h1 : up d n = upF d.nodes.length d (nd d n).parent + 1 := by
  unfold up; conv => lhs; unfold upF
  rw [if_pos hp]
 have h2 := V.fin n hn
 have h3 : up d (nd d n).parent = upF d.nodes.length d (nd d n).parent := upF_mono (f := d.nodes.length) (by omega) (by omega)
 rw [h1, h3]
theorem DV.up_top (V : DV d) {n : Int} (hp : ¬ 0 <= (nd d n).parent) : up d n = 0 := by unfold up upF; rw [if_neg hp]
theorem DV.up_kid (V : DV d) {n k : Int} (hn : inD d n) (hk : k ∈ (nd d n).kids) : up d k = up d n + 1 := by
 obtain ⟨h1, h2⟩ := V.kid n hn k hk
 have := V.up_par h1 (by rw [h2]; exact hn.1)
 rwa [h2] at this
theorem DV.up_lt (V : DV d) {n k : Int} (hn : inD d n) (hk : k ∈ (nd d n).kids) : up d n < 40 := by
 have := V.up_kid hn hk
 have := V.deep k (V.kid n hn k hk).1
 omega
theorem DV.down (V : DV d) {p : Int -> Prop} (h : ∀ n, inD d n -> (∀ k ∈ (nd d n).kids, p k) -> p n) : ∀ n, inD d n -> p n := by
 have : ∀ m n, inD d n -> 40 <= m + up d n -> p n := by
  intro m
  induction m with
  | zero => intro n hn hm; exact h n hn fun k hk => by have := V.up_lt hn hk; omega
  | succ m ih => intro n hn hm; exact h n hn fun k hk => ih k (V.kid n hn k hk).1 (by have := V.up_kid hn hk; omega)
 exact fun n hn => this 40 n hn (by omega)
theorem DV.rise (V : DV d) {p : Int -> Prop} (h : ∀ n, inD d n -> (0 <= (nd d n).parent -> p (nd d n).parent) -> p n) : ∀ n, inD d n -> p n := by
 have : ∀ m n, inD d n -> up d n <= m -> p n := by
  intro m
  induction m with
  | zero => intro n hn hm; exact h n hn fun hp => by have := V.up_par hn hp; omega
  | succ m ih => intro n hn hm; exact h n hn fun hp => ih _ (V.par_in hn hp).1 (by have := V.up_par hn hp; omega)
 exact fun n hn => this _ n hn (Nat.le_refl _)
def belF : Nat -> HDoc -> Int -> List Int
 | 0, _, n => [n]
 | f + 1, d, n => n :: (nd d n).kids.flatMap (belF f d)
def below (d : HDoc) (n : Int) : List Int := belF 40 d n
theorem U4 {α β : Type} {l : List α} {f g : α -> List β} (h : ∀ x ∈ l, f x = g x) : l.flatMap f = l.flatMap g := by
 induction l with
 | nil => rfl
 | cons x r ih => rw [List.flatMap_cons, List.flatMap_cons, h x List.mem_cons_self, ih fun y hy => h y (List.mem_cons_of_mem _ hy)]
theorem belF_eq (V : DV d) : ∀ (f g : Nat) (n : Int), inD d n -> 40 <= f + up d n -> 40 <= g + up d n -> belF f d n = belF g d n
 | 0, 0, _, _, _, _ => rfl
 | 0, g + 1, n, hn, hf, _ => by
  have : (nd d n).kids = [] := List.eq_nil_iff_forall_not_mem.2 fun k hk => by have := V.up_lt hn hk; omega
  simp [belF, this]
 | f + 1, 0, n, hn, _, hg => by
  have : (nd d n).kids = [] := List.eq_nil_iff_forall_not_mem.2 fun k hk => by have := V.up_lt hn hk; omega
  simp [belF, this]
 | f + 1, g + 1, n, hn, hf, hg => by
  unfold belF
  rw [U4 fun k hk => belF_eq V f g k (V.kid n hn k hk).1 (by have := V.up_kid hn hk; omega) (by have := V.up_kid hn hk; omega)]
theorem below_eq (V : DV d) {n : Int} (hn : inD d n) : below d n = n :: (nd d n).kids.flatMap (below d) := by
 have : below d n = n :: (nd d n).kids.flatMap (belF 39 d) := rfl
 rw [this, U4 fun k hk => belF_eq V 39 40 k (V.kid n hn k hk).1 (by have := V.up_kid hn hk; omega) (by omega)]
 rfl
theorem below_in (V : DV d) : ∀ n, inD d n -> ∀ m ∈ below d n, inD d m := V.down fun n hn ih m hm => by
 rw [below_eq V hn] at hm
 rcases List.mem_cons.1 hm with rfl | hm
 ·exact hn
 ·obtain ⟨k, hk, hm⟩ := List.mem_flatMap.1 hm
  exact ih k hk m hm
theorem below_self (V : DV d) {n : Int} (hn : inD d n) : n ∈ below d n := by rw [below_eq V hn]; exact List.mem_cons_self
def chF : Nat -> HDoc -> Int -> List Int
 | 0, _, n => [n]
 | f + 1, d, n => if 0 <= (nd d n).parent then n :: chF f d (nd d n).parent else [n]
def chain (d : HDoc) (n : Int) : List Int := chF 40 d n
theorem chF_eq (V : DV d) : ∀ (f g : Nat) (n : Int), inD d n -> up d n <= f -> up d n <= g -> chF f d n = chF g d n
 | 0, 0, _, _, _, _ => rfl
 | 0, g + 1, n, hn, hf, _ => by
  have : ¬ 0 <= (nd d n).parent := fun hp => by have := V.up_par hn hp; omega
  simp [chF, this]
 | f + 1, 0, n, hn, _, hg => by
  have : ¬ 0 <= (nd d n).parent := fun hp => by have := V.up_par hn hp; omega
  simp [chF, this]
 | f + 1, g + 1, n, hn, hf, hg => by
  unfold chF
  split
  ·rename_i hp
   rw [chF_eq V f g _ (V.par_in hn hp).1 (by have := V.up_par hn hp; omega) (by have := V.up_par hn hp; omega)]
  ·rfl
theorem chain_up (V : DV d) {n : Int} (hn : inD d n) (hp : 0 <= (nd d n).parent) : chain d n = n :: chain d (nd d n).parent := by
 have : chain d n = n :: chF 39 d (nd d n).parent := by
  have e : ∀ f, chF (f + 1) d n = n :: chF f d (nd d n).parent := fun f => by rw [chF, if_pos hp]
  exact e 39
 rw [this, chF_eq V 39 40 _ (V.par_in hn hp).1 (by have := V.up_par hn hp; have := V.deep n hn; omega) (V.deep _ (V.par_in hn hp).1)]
 rfl
theorem chain_top (V : DV d) {n : Int} (hp : ¬ 0 <= (nd d n).parent) : chain d n = [n] := by
 have e : ∀ f, chF (f + 1) d n = [n] := fun f => by rw [chF, if_neg hp]
 exact e 39
theorem chain_self (d : HDoc) (n : Int) : n ∈ chain d n := by show n ∈ chF 40 d n; unfold chF; split <;> simp
theorem chain_le (V : DV d) : ∀ n, inD d n -> ∀ m ∈ chain d n, up d m <= up d n /\ (up d m = up d n -> m = n) := V.rise fun n hn ih m hm => by
 by_cases hp : 0 <= (nd d n).parent
 ·rw [chain_up V hn hp] at hm
  rcases List.mem_cons.1 hm with rfl | hm
  ·exact ⟨Nat.le_refl _, fun _ => rfl⟩
  ·have := ih hp m hm
   have := V.up_par hn hp
   exact ⟨by omega, fun h => by omega⟩
 ·rw [chain_top V hp] at hm; simp at hm; subst hm; exact ⟨Nat.le_refl _, fun _ => rfl⟩
theorem chain_one (V : DV d) : ∀ n, inD d n -> ∀ a ∈ chain d n, ∀ b ∈ chain d n, up d a = up d b -> a = b := V.rise fun n hn ih a ha b hb hab => by
 by_cases hp : 0 <= (nd d n).parent
 ·have hu := V.up_par hn hp
  rw [chain_up V hn hp] at ha hb
  have hle := fun m hm => (chain_le V _ (V.par_in hn hp).1 m hm).1
  rcases List.mem_cons.1 ha with rfl | ha <;> rcases List.mem_cons.1 hb with rfl | hb
  ·rfl
  ·have := hle b hb; omega
  ·have := hle a ha; omega
  ·exact ih hp a ha b hb hab
 ·rw [chain_top V hp] at ha hb; simp at ha hb; rw [ha, hb]
theorem chain_trans (V : DV d) : ∀ n, inD d n -> ∀ m ∈ chain d n, ∀ t ∈ chain d m, t ∈ chain d n := V.rise fun n hn ih m hm t ht => by
 by_cases hp : 0 <= (nd d n).parent
 ·rw [chain_up V hn hp] at hm ⊢
  rcases List.mem_cons.1 hm with rfl | hm
  ·rw [<- chain_up V hn hp]; exact ht
  ·exact List.mem_cons_of_mem _ (ih hp m hm t ht)
 ·rw [chain_top V hp] at hm; simp at hm; subst hm; exact ht
theorem mem_below (V : DV d) {m n : Int} (hm : inD d m) (hn : inD d n) : m ∈ below d n ↔ n ∈ chain d m := by
 constructor
 ·revert m hm
  refine V.down (p := fun n => ∀ {m}, inD d m -> m ∈ below d n -> n ∈ chain d m) (fun n hn ih m hm h => ?_) n hn
  rw [below_eq V hn] at h
  rcases List.mem_cons.1 h with rfl | h
  ·exact chain_self _ _
  ·obtain ⟨k, hk, h⟩ := List.mem_flatMap.1 h
   have h1 := ih k hk hm h
   have h2 := V.kid n hn k hk
   refine chain_trans V m hm k h1 n ?_
   rw [chain_up V h2.1 (by rw [h2.2]; exact hn.1), h2.2]
   exact List.mem_cons_of_mem _ (chain_self _ _)
 ·revert n hn
  refine V.rise (p := fun m => ∀ {n}, inD d n -> n ∈ chain d m -> m ∈ below d n) (fun m hm ih n hn h => ?_) m hm
  by_cases hp : 0 <= (nd d m).parent
  ·rw [chain_up V hm hp] at h
   rcases List.mem_cons.1 h with rfl | h
   ·exact below_self V hm
   ·have h1 := ih hp hn h
    obtain ⟨h2, h3⟩ := V.par_in hm hp
    generalize (nd d m).parent = q at *
    clear ih hp
    revert h1
    refine V.down (p := fun n => q ∈ below d n -> m ∈ below d n) (fun n hn ih h1 => ?_) n hn
    rw [below_eq V hn] at h1 ⊢
    rcases List.mem_cons.1 h1 with rfl | h1
    ·exact List.mem_cons_of_mem _ (List.mem_flatMap.2 ⟨m, h3, below_self V hm⟩)
    ·obtain ⟨k, hk, h1⟩ := List.mem_flatMap.1 h1
     exact List.mem_cons_of_mem _ (List.mem_flatMap.2 ⟨k, hk, ih k hk h1⟩)
  ·rw [chain_top V hp] at h; simp at h; subst h; exact below_self V hm
theorem below_nodup (V : DV d) : ∀ n, inD d n -> (below d n).Nodup := V.down fun n hn ih => by
 rw [below_eq V hn, List.nodup_cons]
 constructor
 ·intro hm
  obtain ⟨k, hk, hm⟩ := List.mem_flatMap.1 hm
  have h1 := (mem_below V hn (V.kid n hn k hk).1).1 hm
  have := (chain_le V n hn k h1).1
  have := V.up_kid hn hk
  omega
 ·rw [List.nodup_iff_pairwise_ne, List.pairwise_flatMap]
  refine ⟨fun k hk => List.nodup_iff_pairwise_ne.1 (ih k hk), ?_⟩
  have := V.nodup n hn
  rw [List.nodup_iff_pairwise_ne] at this
  refine this.imp_of_mem fun {a b} ha hb hab x hx y hy hxy => ?_
  subst hxy
  have ia := (V.kid n hn a ha).1
  have ib := (V.kid n hn b hb).1
  have ix := below_in V a ia x hx
  exact hab (chain_one V x ix a ((mem_below V ix ia).1 hx) b ((mem_below V ix ib).1 hy) (by rw [V.up_kid hn ha, V.up_kid hn hb]))
theorem nodup_filter {α : Type} [DecidableEq α] (a : α) : ∀ (l : List α), l.Nodup -> l.length <= (l.filter (· ≠ a)).length + 1
 | [], _ => by simp
 | x :: r, h => by
  rw [List.nodup_cons] at h
  by_cases hx : x = a
  ·subst hx
   have : r.filter (· ≠ x) = r := List.filter_eq_self.2 fun y hy => by simp; rintro rfl; exact h.1 hy
   rw [List.filter_cons_of_neg (by simp), this, List.length_cons]
   omega
  ·have := nodup_filter a r h.2
   rw [List.filter_cons_of_pos (by simpa using hx), List.length_cons, List.length_cons]
   omega
theorem nodup_len : ∀ (N : Nat) (l : List Int), l.Nodup -> (∀ x ∈ l, 0 <= x /\ x < N) -> l.length <= N
 | 0, l, _, h => by
  cases l with
  | nil => simp
  | cons x r => have := h x List.mem_cons_self; omega
 | N + 1, l, hn, h => by
  have h1 := nodup_filter (N : Int) l hn
  have h2 := nodup_len N (l.filter (· ≠ (N : Int))) (hn.sublist List.filter_sublist) fun x hx => by
   rw [List.mem_filter] at hx
   have := h x hx.1
   have h3 : x ≠ (N : Int) := by simpa using hx.2
   omega
  omega
theorem below_len (V : DV d) {n : Int} (hn : inD d n) : (below d n).length <= d.nodes.length := nodup_len _ _ (below_nodup V n hn) (below_in V n hn)
end
end Go.Proofs.K
end
section
set_option linter.unusedSimpArgs false
set_option linter.unusedVariables false
namespace Go.Proofs.K
open Go Go.Sim Go.Proofs
variable {G : Glob}
theorem indexByte_ok (s : List UInt8) (c : UInt8) : PCalls (Pg G) 153 [.str s, .int .u8 c.toNat] (Y0 (Lib.indexByte s c)) := by
 refine PCalls.ofRun ⟨_, Tryz.func153, by kernel_rfl, by kernel_rfl⟩ fun g w vs GR V => ?_
 obtain ⟨u, v, rfl, hu, hv⟩ := V.two_inv
 rw [hu.str_inv', hv.int_inv]
 have := Tryz.strings_IndexByte ⟨⟨s⟩⟩ (c.toNat : Int) w
 refine this.mono fun e w' ⟨he, hw⟩ => ⟨_, he, hw, ?_⟩
 have e : ((c.toNat : Int)).toNat.toUInt8 = c := by simp
 rw [e]
 exact .int _ _
def signsL : List UInt8 := [97, 98, 99, 100, 101, 102, 103, 104, 105, 106, 107, 108, 109, 110, 111, 112, 113, 114, 115, 116, 117, 118, 119, 120, 121, 122, 48, 49, 50, 51, 52, 53, 54, 55, 56, 57, 45, 95, 58]
theorem trim_ok (s cs : List UInt8) (hs : s.length <= 1073741824) (hc : cs.length <= 1000) (ha : cs.all (fun b => decide (b.toNat < 128)) = true) : PCalls (Pg G) 215 [.str s, .str cs] (.str (Lib.trimS s cs)) := by
 refine ofBelow ⟨_, Tryz.func215, by kernel_rfl, by kernel_rfl⟩ fun g w vs GR V => ?_
 obtain ⟨u, v, rfl, hu, hv⟩ := V.two_inv
 rw [hu.str_inv', hv.str_inv']
 exact (Any.strings_Trim_laid Tryz.lays160 (by kernel_rfl) ⟨⟨s⟩⟩ ⟨⟨cs⟩⟩ w (by show s.length <= _; omega) (by show cs.length < _; omega) (ascii_of_all ha)).mono fun e w' ⟨he, hw⟩ => ⟨_, he, hw, fun g w => VRel.str_mk g w _⟩
theorem dropWhile_all {α : Type} (p : α -> Bool) (l : List α) : l.dropWhile p = [] ↔ l.all p = true := by
 induction l with
 | nil => simp
 | cons x r ih =>
  rw [List.dropWhile_cons]
  split
  ·rename_i h; rw [ih]; simp [h]
  ·rename_i h; simp [h]
theorem trim_all (s cs : List UInt8) : Lib.trimS s cs = [] ↔ s.all (cs.contains ·) = true := by
 unfold Lib.trimS Lib.trimLeftS Lib.trimRightS
 rw [dropWhile_all, List.all_reverse]
 have hr : s.all (cs.contains ·) = s.reverse.all (cs.contains ·) := by rw [List.all_reverse]
 rw [hr, <- dropWhile_all]
 generalize s.reverse = l
 refine Iff.trans ?_ (dropWhile_all (cs.contains ·) l)
 constructor
 ·intro h
  cases hd : l.dropWhile (cs.contains ·) with
  | nil => rfl
  | cons x r =>
   have h2 := List.head_dropWhile_not (cs.contains ·) (l := l) (by rw [hd]; simp)
   simp only [hd, List.head_cons] at h2
   rw [hd, List.dropWhile_cons] at h
   split at h
   ·rename_i h3; rw [h2] at h3; cases h3
   ·cases h
 ·intro h; rw [h]; rfl
def namedM (s first : List UInt8) : Bool := decide (s ≠ []) && (decide (s.length <= 40) && (first.contains (s.getD 0 0) && s.all (signsL.contains ·)))
def k230_1 : List UInt8 := [97, 98, 99, 100, 101, 102, 103, 104, 105, 106, 107, 108, 109, 110, 111, 112, 113, 114, 115, 116, 117, 118, 119, 120, 121, 122, 48, 49, 50, 51, 52, 53, 54, 55, 56, 57, 45, 95, 58]
def c230 : SFun := ⟨.seq (.reg [o 4 (.mv (.c (.bool false)))]) (.seq (.reg [o 5 (.mv (.t 0)), o 6 (.bin .neq (.t 5) (.c (.str []))), o 7 (.mv (.t 6)), ⟨some 8, .mv (.t 0), some (7, true)⟩, ⟨some 9, .lenS (.t 8), some (7, true)⟩, ⟨some 10, .bin .leq (.t 9) (.c (.int .i64 40)), some (7, true)⟩, o 11 (.pick (.t 7) (.t 10) (.c (.bool false))), o 12 (.mv (.t 11)), ⟨some 13, .mv (.t 1), some (12, true)⟩, ⟨some 14, .mv (.t 0), some (12, true)⟩, ⟨some 15, .idxS (.t 14) (.c (.int .i64 0)), some (12, true)⟩, ⟨some 16, .call (.c (.fn 153 [] [])) [.t 13, .t 15], some (12, true)⟩, ⟨some 17, .bin .geq (.t 16) (.c (.int .i64 0)), some (12, true)⟩, o 18 (.pick (.t 12) (.t 17) (.c (.bool false))), o 19 (.mv (.t 18)), ⟨some 20, .mv (.t 0), some (19, true)⟩, ⟨some 21, .call (.c (.fn 215 [] [])) [.t 20, .c (.str k230_1)], some (19, true)⟩, ⟨some 22, .bin .eql (.t 21) (.c (.str [])), some (19, true)⟩, o 23 (.pick (.t 19) (.t 22) (.c (.bool false))), o 4 (.mv (.t 23))]) .ret), [.tmp 4]⟩
theorem hc230 : X8 Tryz.prog {} Tryz.f230 = some c230 := by kernel_rfl
theorem named_ok (s first : List UInt8) (hs : s.length <= 1073741824) : PCalls (Pg G) 230 [.str s, .str first] (.bool (namedM s first)) := fun h => by
 have hI := indexByte_ok (G := G) first (s.getD 0 0)
 have hC := Lib.contains_iff_indexByte first (s.getD 0 0)
 have hT := trim_ok (G := G) s signsL hs (by decide) (by decide)
 have hA := trim_all s signsL
 have hp : ∀ {a : Bool}, (∀ r h', r = AVal.bool a /\ h' = h -> Sim.Sub h' h /\ r = AVal.bool a) := fun r h' ⟨h1, h2⟩ => by subst h2; exact ⟨Sub.refl _, h1⟩
 unfold namedM
 refine Z9 Tryz.func230 (by kernel_rfl) hc230 (by rw [Tryz.ntmps230]; simp) (by rw [Tryz.ntmps230]; decide) ?_
 by_cases h1 : s = []
 ·subst h1
  have f1 : (([] : List UInt8) != []) = false := rfl
  simp -dsimp -implicitDefEqProofs (disch := omega) only [↓Q0 7, ↓Q1 7, ↓Q0 12, ↓Q1 12, ↓Q0 19, ↓Q1 19, VCA, Z1, ↓Q3, Nat.reduceEqDiff, Nat.reduceBEq, Nat.reduceAdd, Nat.reduceSub, Nat.reduceMul, Nat.reduceLT, Nat.reduceLeDiff, ↓reduceIte, reduceCtorEq, Z7, Q6, SOp.rd, SI.rd, SX.rd, rdL, rdO, rdP, Q5, Q4, Q2, Q8, Q7, Z0, implies_true, forall_const, forall_eq, ne_eq, exists_eq_right_right, exists_eq_right, exists_eq_left, exists_eq_left', Q9, Z3, Z8, Z5, J4, c230, f1]
  exact ⟨Sub.refl _, by simp⟩
 ·have f1 : (s != []) = true := by simpa using h1
  have hl := List.length_pos_iff.2 h1
  by_cases h2 : s.length <= 40
  ·have f2 : decide ((s.length : Int) <= 40) = true := by rw [decide_eq_true_iff]; omega
   simp -dsimp -implicitDefEqProofs (disch := omega) only [↓Q0 7, ↓Q1 7, ↓Q0 12, ↓Q1 12, ↓Q0 19, ↓Q1 19, VCA, Z1, ↓Q3, Nat.reduceEqDiff, Nat.reduceBEq, Nat.reduceAdd, Nat.reduceSub, Nat.reduceMul, Nat.reduceLT, Nat.reduceLeDiff, ↓reduceIte, reduceCtorEq, Z7, Q6, SOp.rd, SI.rd, SX.rd, rdL, rdO, rdP, Q5, Q4, Q2, Q8, Q7, Z0, implies_true, forall_const, forall_eq, ne_eq, exists_eq_right_right, exists_eq_right, exists_eq_left, exists_eq_left', Q9, Z3, Z8, Z5, J4, c230, f1, f2]
   refine ⟨by omega, ?_⟩
   refine PCalls.of hI ?_
   cases h3 : first.contains (s.getD 0 0)
   ·have f3 : decide ((0 : Int) <= Lib.indexByte first (s.getD 0 0)) = false := by rw [<- hC]; exact h3
    simp -dsimp -implicitDefEqProofs (disch := omega) only [↓Q0 7, ↓Q1 7, ↓Q0 12, ↓Q1 12, ↓Q0 19, ↓Q1 19, VCA, Z1, ↓Q3, Nat.reduceEqDiff, Nat.reduceBEq, Nat.reduceAdd, Nat.reduceSub, Nat.reduceMul, Nat.reduceLT, Nat.reduceLeDiff, ↓reduceIte, reduceCtorEq, Z7, Q6, SOp.rd, SI.rd, SX.rd, rdL, rdO, rdP, Q5, Q4, Q2, Q8, Q7, Z0, implies_true, forall_const, forall_eq, ne_eq, exists_eq_right_right, exists_eq_right, exists_eq_left, exists_eq_left', Q9, Z3, Z8, Z5, J4, f3]
    exact ⟨Sub.refl _, by simp⟩
   ·have f3 : decide ((0 : Int) <= Lib.indexByte first (s.getD 0 0)) = true := by rw [<- hC]; exact h3
    simp -dsimp -implicitDefEqProofs (disch := omega) only [↓Q0 7, ↓Q1 7, ↓Q0 12, ↓Q1 12, ↓Q0 19, ↓Q1 19, VCA, Z1, ↓Q3, Nat.reduceEqDiff, Nat.reduceBEq, Nat.reduceAdd, Nat.reduceSub, Nat.reduceMul, Nat.reduceLT, Nat.reduceLeDiff, ↓reduceIte, reduceCtorEq, Z7, Q6, SOp.rd, SI.rd, SX.rd, rdL, rdO, rdP, Q5, Q4, Q2, Q8, Q7, Z0, implies_true, forall_const, forall_eq, ne_eq, exists_eq_right_right, exists_eq_right, exists_eq_left, exists_eq_left', Q9, Z3, Z8, Z5, J4, f3]
    refine PCalls.of hT ?_
    simp -dsimp -implicitDefEqProofs (disch := omega) only [↓Q0 7, ↓Q1 7, ↓Q0 12, ↓Q1 12, ↓Q0 19, ↓Q1 19, VCA, Z1, ↓Q3, Nat.reduceEqDiff, Nat.reduceBEq, Nat.reduceAdd, Nat.reduceSub, Nat.reduceMul, Nat.reduceLT, Nat.reduceLeDiff, ↓reduceIte, reduceCtorEq, Z7, Q6, SOp.rd, SI.rd, SX.rd, rdL, rdO, rdP, Q5, Q4, Q2, Q8, Q7, Z0, implies_true, forall_const, forall_eq, ne_eq, exists_eq_right_right, exists_eq_right, exists_eq_left, exists_eq_left', Q9, Z3, Z8, Z5, J4]
    refine ⟨Sub.refl _, ?_⟩
    rw [decide_eq_true h1, decide_eq_true h2]
    simp only [Bool.true_and]
    rw [Bool.eq_iff_iff, beq_iff_eq, hA]
  ·have f2 : decide ((s.length : Int) <= 40) = false := by rw [decide_eq_false_iff_not]; omega
   simp -dsimp -implicitDefEqProofs (disch := omega) only [↓Q0 7, ↓Q1 7, ↓Q0 12, ↓Q1 12, ↓Q0 19, ↓Q1 19, VCA, Z1, ↓Q3, Nat.reduceEqDiff, Nat.reduceBEq, Nat.reduceAdd, Nat.reduceSub, Nat.reduceMul, Nat.reduceLT, Nat.reduceLeDiff, ↓reduceIte, reduceCtorEq, Z7, Q6, SOp.rd, SI.rd, SX.rd, rdL, rdO, rdP, Q5, Q4, Q2, Q8, Q7, Z0, implies_true, forall_const, forall_eq, ne_eq, exists_eq_right_right, exists_eq_right, exists_eq_left, exists_eq_left', Q9, Z3, Z8, Z5, J4, c230, f1, f2]
   exact ⟨Sub.refl _, by simp [h2]⟩
theorem sign_all (b : UInt8) : signsL.contains b = signB b := by
 have := u8_all (p := fun b => signsL.contains b == signB b) (by decide +kernel) b
 simpa using this
theorem first_all (el : Bool) (b : UInt8) : (if el = true then signsL.take 26 else signsL.take 26 ++ [45, 95]).contains b = firstB el b := by
 cases el
 ·have := u8_all (p := fun b => (signsL.take 26 ++ [45, 95]).contains b == firstB false b) (by decide +kernel) b
  simpa using this
 ·have := u8_all (p := fun b => (signsL.take 26).contains b == firstB true b) (by decide +kernel) b
  simpa using this
theorem namedM_eq (s : List UInt8) (el : Bool) : namedM s (if el = true then signsL.take 26 else signsL.take 26 ++ [45, 95]) = K6 el s := by
 unfold namedM K6
 rw [first_all]
 have e1 : s.all (signsL.contains ·) = s.all signB := by congr 1; funext b; exact sign_all b
 rw [e1]
 have e2 : decide (s ≠ []) = decide (1 <= s.length) := by
  rw [Bool.eq_iff_iff, decide_eq_true_iff, decide_eq_true_iff, <- List.length_pos_iff]; exact Iff.rfl
 rw [e2]
def k187_1 : List UInt8 := [97, 98, 99, 100, 101, 102, 103, 104, 105, 106, 107, 108, 109, 110, 111, 112, 113, 114, 115, 116, 117, 118, 119, 120, 121, 122, 48, 49, 50, 51, 52, 53, 54, 55, 56, 57, 45, 95, 58]
def c187 : SFun := ⟨.seq (.reg [o 2 (.mv (.c (.bool false)))]) (.seq (.reg [o 3 (.mv (.t 0)), o 4 (.slS (.c (.str k187_1)) none (some (.c (.int .i64 26)))), o 5 (.call (.c (.fn 230 [] [])) [.t 3, .t 4]), o 2 (.mv (.t 5))]) .ret), [.tmp 2]⟩
theorem hc187 : X8 Tryz.prog {} Tryz.f187 = some c187 := by kernel_rfl
theorem name_ok (s : List UInt8) (hs : s.length <= 1073741824) : PCalls (Pg G) 187 [.str s] (.bool (K6 true s)) := fun h => by
 refine Z9 Tryz.func187 (by kernel_rfl) hc187 (by rw [Tryz.ntmps187]; simp) (by rw [Tryz.ntmps187]; decide) ?_
 simp -dsimp -implicitDefEqProofs (disch := omega) only [VCA, Z1, ↓Q3, Nat.reduceEqDiff, Nat.reduceBEq, Nat.reduceAdd, Nat.reduceSub, Nat.reduceMul, Nat.reduceLT, Nat.reduceLeDiff, ↓reduceIte, reduceCtorEq, Z7, Q6, SOp.rd, SI.rd, SX.rd, rdL, rdO, rdP, Q5, Q4, Q2, Q8, Q7, Z0, implies_true, forall_const, forall_eq, ne_eq, exists_eq_right_right, exists_eq_right, exists_eq_left, exists_eq_left', Q9, Z3, Z8, Z5, J4, c187]
 refine ⟨by decide, PCalls.of (named_ok s _ hs) ?_⟩
 simp -dsimp -implicitDefEqProofs (disch := omega) only [VCA, Z1, ↓Q3, Nat.reduceEqDiff, Nat.reduceBEq, Nat.reduceAdd, Nat.reduceSub, Nat.reduceMul, Nat.reduceLT, Nat.reduceLeDiff, ↓reduceIte, reduceCtorEq, Z7, Q6, SOp.rd, SI.rd, SX.rd, rdL, rdO, rdP, Q5, Q4, Q2, Q8, Q7, Z0, implies_true, forall_const, forall_eq, ne_eq, exists_eq_right_right, exists_eq_right, exists_eq_left, exists_eq_left', Q9, Z3, Z8, Z5, J4]
 exact ⟨Sub.refl _, by rw [<- namedM_eq]; rfl⟩
def k231_1 : List UInt8 := [97, 98, 99, 100, 101, 102, 103, 104, 105, 106, 107, 108, 109, 110, 111, 112, 113, 114, 115, 116, 117, 118, 119, 120, 121, 122, 48, 49, 50, 51, 52, 53, 54, 55, 56, 57, 45, 95, 58]
def c231 : SFun := ⟨.seq (.reg [o 2 (.mv (.c (.bool false)))]) (.seq (.reg [o 3 (.mv (.t 0)), o 4 (.slS (.c (.str k231_1)) none (some (.c (.int .i64 26)))), o 5 (.bin .add (.t 4) (.c (.str [45, 95]))), o 6 (.call (.c (.fn 230 [] [])) [.t 3, .t 5]), o 2 (.mv (.t 6))]) .ret), [.tmp 2]⟩
theorem hc231 : X8 Tryz.prog {} Tryz.f231 = some c231 := by kernel_rfl
theorem attrName_ok (s : List UInt8) (hs : s.length <= 1073741824) : PCalls (Pg G) 231 [.str s] (.bool (K6 false s)) := fun h => by
 refine Z9 Tryz.func231 (by kernel_rfl) hc231 (by rw [Tryz.ntmps231]; simp) (by rw [Tryz.ntmps231]; decide) ?_
 simp -dsimp -implicitDefEqProofs (disch := omega) only [VCA, Z1, ↓Q3, Nat.reduceEqDiff, Nat.reduceBEq, Nat.reduceAdd, Nat.reduceSub, Nat.reduceMul, Nat.reduceLT, Nat.reduceLeDiff, ↓reduceIte, reduceCtorEq, Z7, Q6, SOp.rd, SI.rd, SX.rd, rdL, rdO, rdP, Q5, Q4, Q2, Q8, Q7, Z0, implies_true, forall_const, forall_eq, ne_eq, exists_eq_right_right, exists_eq_right, exists_eq_left, exists_eq_left', Q9, Z3, Z8, Z5, J4, c231]
 refine ⟨by decide, by decide, PCalls.of (named_ok s _ hs) ?_⟩
 simp -dsimp -implicitDefEqProofs (disch := omega) only [VCA, Z1, ↓Q3, Nat.reduceEqDiff, Nat.reduceBEq, Nat.reduceAdd, Nat.reduceSub, Nat.reduceMul, Nat.reduceLT, Nat.reduceLeDiff, ↓reduceIte, reduceCtorEq, Z7, Q6, SOp.rd, SI.rd, SX.rd, rdL, rdO, rdP, Q5, Q4, Q2, Q8, Q7, Z0, implies_true, forall_const, forall_eq, ne_eq, exists_eq_right_right, exists_eq_right, exists_eq_left, exists_eq_left', Q9, Z3, Z8, Z5, J4]
 exact ⟨Sub.refl _, by rw [<- namedM_eq]; rfl⟩
def c239 : SFun := ⟨.seq (.reg [o 4 (.mv (.c (.int .i64 0)))]) (.seq (.seq (.reg [o 6 (.mv (.t 0)), o 7 (.len (.t 6)), o 8 (.mv (.c (.int .i64 0)))]) (.block 0 (.loop (.seq (.reg [o 9 (.bin .lss (.t 8) (.t 7))]) (.seq (.cond (.t 9) .skip (.exit 0)) (.seq (.block 1 (.seq (.reg [o 10 (.mv (.t 8)), o 5 (.mv (.t 10))]) (.seq (.reg [o 11 (.mv (.t 1)), o 12 (.mv (.t 0)), o 13 (.mv (.t 5)), o 14 (.idxA 2 (.t 12) (.t 13)), o 15 (.ld 2 true (.t 14)), o 16 (.call (.t 11) [.t 15])]) (.cond (.t 16) (.seq (.reg [o 17 (.mv (.t 5)), o 4 (.mv (.t 17))]) .ret) .skip)))) (.reg [o 18 (.bin .add (.t 8) (.c (.int .i64 1))), o 8 (.mv (.t 18))]))))))) (.seq (.reg [o 4 (.mv (.c (.int .i64 (-1))))]) .ret)), [.tmp 4]⟩
theorem hc239 : X8 Tryz.prog {} Tryz.f239 = some c239 := by kernel_rfl
theorem indexFA_ok {h : J1} (l : List HAttr) (f : Nat) (a b : List AVal) (p : HAttr -> Bool) (hl : l.length <= 1073741824)
  (hp : ∀ x, DCalls (Pg G) f (a ++ ([.agg (Z3 x)] ++ b)) h fun r h' => r = .bool (p x) /\ h' = h) : DCalls (Pg G) 239 [sl Z3 l, .fn f a b] h fun r h' => r = Y0 (idxM p l) /\ h' = h := by
 refine Z9 Tryz.func239 (by kernel_rfl) hc239 (by rw [Tryz.ntmps239]; simp) (by rw [Tryz.ntmps239]; decide) ?_
 simp -dsimp -implicitDefEqProofs (disch := omega) only [VCA, Z1, ↓Q3, Nat.reduceEqDiff, Nat.reduceBEq, Nat.reduceAdd, Nat.reduceSub, Nat.reduceMul, Nat.reduceLT, Nat.reduceLeDiff, ↓reduceIte, reduceCtorEq, Z7, Q6, SOp.rd, SI.rd, SX.rd, rdL, rdO, rdP, Q5, Q4, Q2, Q8, Q7, Z0, implies_true, forall_const, forall_eq, ne_eq, exists_eq_right_right, exists_eq_right, exists_eq_left, exists_eq_left', Q9, Z3, Z8, Z5, J4, c239]
 refine LoopVC.intro (fun m e h' => ∃ k : Nat, k <= l.length /\ m = l.length - k /\ e 0 = sl Z3 l /\ e 1 = .fn f a b /\ e 7 = Y0 l.length /\ e 8 = Y0 k /\ h' = h /\ ∀ j, j < k -> p (nth l j) = false) l.length ⟨0, by omega, by omega, rfl, rfl, rfl, rfl, rfl, by omega⟩ ?_
 rintro m e h' ⟨k, hk, rfl, he0, he1, he7, he8, rfl, hj⟩
 simp -dsimp -implicitDefEqProofs (disch := omega) only [VCA, Z1, ↓Q3, Nat.reduceEqDiff, Nat.reduceBEq, Nat.reduceAdd, Nat.reduceSub, Nat.reduceMul, Nat.reduceLT, Nat.reduceLeDiff, ↓reduceIte, reduceCtorEq, Z7, Q6, SOp.rd, SI.rd, SX.rd, rdL, rdO, rdP, Q5, Q4, Q2, Q8, Q7, Z0, implies_true, forall_const, forall_eq, ne_eq, exists_eq_right_right, exists_eq_right, exists_eq_left, exists_eq_left', Q9, Z3, Z8, Z5, J4, he0, he1, he7, he8]
 refine Br.dec (fun hlt => ?_) (fun hge => ?_)
 ·simp -dsimp -implicitDefEqProofs (disch := omega) only [VCA, Z1, ↓Q3, Nat.reduceEqDiff, Nat.reduceBEq, Nat.reduceAdd, Nat.reduceSub, Nat.reduceMul, Nat.reduceLT, Nat.reduceLeDiff, ↓reduceIte, reduceCtorEq, Z7, Q6, SOp.rd, SI.rd, SX.rd, rdL, rdO, rdP, Q5, Q4, Q2, Q8, Q7, Z0, implies_true, forall_const, forall_eq, ne_eq, exists_eq_right_right, exists_eq_right, exists_eq_left, exists_eq_left', Q9, Z3, Z8, Z5, J4, he0, he1, he7, he8, Z3]
  refine ⟨by omega, DCalls.of (hp (nth l k)) ?_⟩
  rintro r h' ⟨rfl, rfl⟩
  simp -dsimp -implicitDefEqProofs (disch := omega) only [VCA, Z1, ↓Q3, Nat.reduceEqDiff, Nat.reduceBEq, Nat.reduceAdd, Nat.reduceSub, Nat.reduceMul, Nat.reduceLT, Nat.reduceLeDiff, ↓reduceIte, reduceCtorEq, Z7, Q6, SOp.rd, SI.rd, SX.rd, rdL, rdO, rdP, Q5, Q4, Q2, Q8, Q7, Z0, implies_true, forall_const, forall_eq, ne_eq, exists_eq_right_right, exists_eq_right, exists_eq_left, exists_eq_left', Q9, Z3, Z8, Z5, J4, he0, he1, he7, he8]
  refine Br.intro (fun ht => ?_) (fun hf => ?_)
  ·simp -dsimp -implicitDefEqProofs (disch := omega) only [VCA, Z1, ↓Q3, Nat.reduceEqDiff, Nat.reduceBEq, Nat.reduceAdd, Nat.reduceSub, Nat.reduceMul, Nat.reduceLT, Nat.reduceLeDiff, ↓reduceIte, reduceCtorEq, Z7, Q6, SOp.rd, SI.rd, SX.rd, rdL, rdO, rdP, Q5, Q4, Q2, Q8, Q7, Z0, implies_true, forall_const, forall_eq, ne_eq, exists_eq_right_right, exists_eq_right, exists_eq_left, exists_eq_left', Q9, Z3, Z8, Z5, J4]
   rw [idxM_some (by omega) hj ht]; exact ⟨Sub.refl _, rfl⟩
  ·simp -dsimp -implicitDefEqProofs (disch := omega) only [VCA, Z1, ↓Q3, Nat.reduceEqDiff, Nat.reduceBEq, Nat.reduceAdd, Nat.reduceSub, Nat.reduceMul, Nat.reduceLT, Nat.reduceLeDiff, ↓reduceIte, reduceCtorEq, Z7, Q6, SOp.rd, SI.rd, SX.rd, rdL, rdO, rdP, Q5, Q4, Q2, Q8, Q7, Z0, implies_true, forall_const, forall_eq, ne_eq, exists_eq_right_right, exists_eq_right, exists_eq_left, exists_eq_left', Q9, Z3, Z8, Z5, J4, he0, he1, he7, he8]
   refine ⟨_, ?_, k + 1, by omega, rfl, by omega, fun j hj' => ?_⟩
   ·omega
   ·by_cases h1 : j = k
    ·subst h1; exact hf
    ·exact hj j (by omega)
 ·simp -dsimp -implicitDefEqProofs (disch := omega) only [VCA, Z1, ↓Q3, Nat.reduceEqDiff, Nat.reduceBEq, Nat.reduceAdd, Nat.reduceSub, Nat.reduceMul, Nat.reduceLT, Nat.reduceLeDiff, ↓reduceIte, reduceCtorEq, Z7, Q6, SOp.rd, SI.rd, SX.rd, rdL, rdO, rdP, Q5, Q4, Q2, Q8, Q7, Z0, implies_true, forall_const, forall_eq, ne_eq, exists_eq_right_right, exists_eq_right, exists_eq_left, exists_eq_left', Q9, Z3, Z8, Z5, J4]
  rw [idxM_none (fun j hj' => hj j (by omega))]; exact ⟨Sub.refl _, rfl⟩
def c240 : SFun := ⟨.seq (.reg [o 2 (.boxF 69 2 (.t 0)), o 3 (.mv (.c (.bool false)))]) (.seq (.reg [o 4 (.fldA 0 (.t 2)), o 5 (.ld 1 false (.t 4)), o 6 (.ld 1 false (.t 1)), o 7 (.bin .eql (.t 5) (.t 6)), o 3 (.mv (.t 7))]) .ret), [.tmp 3]⟩
theorem hc240 : X8 Tryz.prog {} Tryz.f240 = some c240 := by kernel_rfl
theorem find1_ok (name : List UInt8) (a : HAttr) : PCalls (Pg G) 240 [.agg (Z3 a), .pin [.str name]] (.bool (a.name == name)) := fun h => by
 refine Z9 Tryz.func240 (by kernel_rfl) hc240 (by rw [Tryz.ntmps240]; simp) (by rw [Tryz.ntmps240]; decide) ?_
 simp -dsimp -implicitDefEqProofs (disch := omega) only [VCA, Z1, ↓Q3, Nat.reduceEqDiff, Nat.reduceBEq, Nat.reduceAdd, Nat.reduceSub, Nat.reduceMul, Nat.reduceLT, Nat.reduceLeDiff, ↓reduceIte, reduceCtorEq, Z7, Q6, SOp.rd, SI.rd, SX.rd, rdL, rdO, rdP, Q5, Q4, Q2, Q8, Q7, Z0, implies_true, forall_const, forall_eq, ne_eq, exists_eq_right_right, exists_eq_right, exists_eq_left, exists_eq_left', Q9, Z3, Z8, Z5, J4, c240, Z3]
 exact Sub.refl _
def c204 : SFun := ⟨.seq (.reg [o 3 (.boxF 9 1 (.t 1)), o 4 (.mv (.c (.int .i64 0)))]) (.seq (.reg [o 5 (.mv (.t 0)), o 6 (.mkf 240 [] [.t 3]), o 7 (.call (.c (.fn 239 [] [])) [.t 5, .t 6]), o 4 (.mv (.t 7))]) .ret), [.tmp 4]⟩
theorem hc204 : X8 Tryz.prog {} Tryz.f204 = some c204 := by kernel_rfl
theorem find_ok (l : List HAttr) (name : List UInt8) (hl : l.length <= 1073741824) : PCalls (Pg G) 204 [sl Z3 l, .str name] (Y0 (attrAt l name)) := fun h => by
 refine Z9 Tryz.func204 (by kernel_rfl) hc204 (by rw [Tryz.ntmps204]; simp) (by rw [Tryz.ntmps204]; decide) ?_
 simp -dsimp -implicitDefEqProofs (disch := omega) only [VCA, Z1, ↓Q3, Nat.reduceEqDiff, Nat.reduceBEq, Nat.reduceAdd, Nat.reduceSub, Nat.reduceMul, Nat.reduceLT, Nat.reduceLeDiff, ↓reduceIte, reduceCtorEq, Z7, Q6, SOp.rd, SI.rd, SX.rd, rdL, rdO, rdP, Q5, Q4, Q2, Q8, Q7, Z0, implies_true, forall_const, forall_eq, ne_eq, exists_eq_right_right, exists_eq_right, exists_eq_left, exists_eq_left', Q9, Z3, Z8, Z5, J4, c204]
 refine DCalls.of (indexFA_ok l 240 [] [.pin [.str name]] (fun a => a.name == name) hl fun x => find1_ok name x h) ?_
 rintro r h' ⟨rfl, rfl⟩
 simp -dsimp -implicitDefEqProofs (disch := omega) only [VCA, Z1, ↓Q3, Nat.reduceEqDiff, Nat.reduceBEq, Nat.reduceAdd, Nat.reduceSub, Nat.reduceMul, Nat.reduceLT, Nat.reduceLeDiff, ↓reduceIte, reduceCtorEq, Z7, Q6, SOp.rd, SI.rd, SX.rd, rdL, rdO, rdP, Q5, Q4, Q2, Q8, Q7, Z0, implies_true, forall_const, forall_eq, ne_eq, exists_eq_right_right, exists_eq_right, exists_eq_left, exists_eq_left', Q9, Z3, Z8, Z5, J4]
 exact ⟨Sub.refl _, rfl⟩
def c188 : SFun := ⟨.seq (.reg [o 2 (.mv (.c (.int .i64 0)))]) (.seq (.seq (.reg [o 5 (.mv (.t 0)), o 6 (.len (.t 5)), o 7 (.bin .gtr (.t 6) (.c (.int .i64 12)))]) (.cond (.t 7) (.seq (.reg [o 2 (.mv (.c (.int .i64 2)))]) .ret) .skip)) (.seq (.seq (.reg [o 8 (.mv (.t 0)), o 9 (.len (.t 8)), o 10 (.mv (.c (.int .i64 0)))]) (.block 0 (.loop (.seq (.reg [o 11 (.bin .lss (.t 10) (.t 9))]) (.seq (.cond (.t 11) .skip (.exit 0)) (.seq (.block 1 (.seq (.reg [o 12 (.mv (.t 10)), o 13 (.idxA 2 (.t 8) (.t 10)), o 14 (.ld 2 true (.t 13)), o 4 (.new 69 2 [.str [], .str []]), o 3 (.mv (.t 12)), ⟨none, .st 2 (.t 4) (.t 14), none⟩]) (.block 2 (.seq (.reg [o 16 (.fldA 0 (.t 4)), o 17 (.ld 1 false (.t 16)), o 18 (.pcall 231 [.t 17]), o 19 (.un .not (.t 18)), o 15 (.mv (.t 19))]) (.cond (.t 15) (.seq (.reg [o 2 (.mv (.c (.int .i64 3)))]) .ret) (.seq (.reg [o 21 (.fldA 1 (.t 4)), o 22 (.ld 1 false (.t 21)), o 23 (.lenS (.t 22)), o 24 (.bin .gtr (.t 23) (.c (.int .i64 400))), o 20 (.mv (.t 24))]) (.cond (.t 20) (.seq (.reg [o 2 (.mv (.c (.int .i64 2)))]) .ret) (.seq (.dreg [(o 26 (.mv (.t 0)), none), (o 27 (.mv (.t 3)), none), (o 28 (.slA 2 (.t 26) none (some (.t 27))), none), (o 29 (.fldA 0 (.t 4)), none), (o 30 (.ld 1 false (.t 29)), none), (o 31 (.pcall 204 [.t 28, .t 30]), none), (o 32 (.bin .geq (.t 31) (.c (.int .i64 0))), none), (o 25 (.mv (.t 32)), none)]) (.cond (.t 25) (.seq (.reg [o 2 (.mv (.c (.int .i64 3)))]) .ret) .skip))))))))) (.reg [o 33 (.bin .add (.t 10) (.c (.int .i64 1))), o 10 (.mv (.t 33))]))))))) (.seq (.reg [o 2 (.mv (.c (.int .i64 0)))]) .ret))), [.tmp 2]⟩
theorem hc188 : X8 Tryz.prog {pure := [231, 204]} Tryz.f188 = some c188 := by kernel_rfl
theorem attrs_ok (l : List HAttr) (hl : l.length <= 1073741824) (hs : ∀ a ∈ l, a.name.length <= 1073741824) : PCalls (Pg G) 188 [sl Z3 l] (Y0 (attrsE l)) := fun h => by
 refine Z9 Tryz.func188 (by kernel_rfl) hc188 (by rw [Tryz.ntmps188]; simp) (by rw [Tryz.ntmps188]; decide) ?_
 simp -dsimp -implicitDefEqProofs (disch := omega) only [VCA, Z1, ↓Q3, Nat.reduceEqDiff, Nat.reduceBEq, Nat.reduceAdd, Nat.reduceSub, Nat.reduceMul, Nat.reduceLT, Nat.reduceLeDiff, ↓reduceIte, reduceCtorEq, Z7, Q6, SOp.rd, SI.rd, SX.rd, rdL, rdO, rdP, Q5, Q4, Q2, Q8, Q7, Z0, implies_true, forall_const, forall_eq, ne_eq, exists_eq_right_right, exists_eq_right, exists_eq_left, exists_eq_left', Q9, Z3, Z8, Z5, J4, c188]
 unfold attrsE
 refine Br.dec (fun h1 => ?_) (fun h1 => ?_)
 ·simp -dsimp -implicitDefEqProofs (disch := omega) only [VCA, Z1, ↓Q3, Nat.reduceEqDiff, Nat.reduceBEq, Nat.reduceAdd, Nat.reduceSub, Nat.reduceMul, Nat.reduceLT, Nat.reduceLeDiff, ↓reduceIte, reduceCtorEq, Z7, Q6, SOp.rd, SI.rd, SX.rd, rdL, rdO, rdP, Q5, Q4, Q2, Q8, Q7, Z0, implies_true, forall_const, forall_eq, ne_eq, exists_eq_right_right, exists_eq_right, exists_eq_left, exists_eq_left', Q9, Z3, Z8, Z5, J4]
  exact ⟨Sub.refl _, by rw [if_pos (by omega)]⟩
 ·rw [if_neg (by omega)]
  simp -dsimp -implicitDefEqProofs (disch := omega) only [VCA, Z1, ↓Q3, Nat.reduceEqDiff, Nat.reduceBEq, Nat.reduceAdd, Nat.reduceSub, Nat.reduceMul, Nat.reduceLT, Nat.reduceLeDiff, ↓reduceIte, reduceCtorEq, Z7, Q6, SOp.rd, SI.rd, SX.rd, rdL, rdO, rdP, Q5, Q4, Q2, Q8, Q7, Z0, implies_true, forall_const, forall_eq, ne_eq, exists_eq_right_right, exists_eq_right, exists_eq_left, exists_eq_left', Q9, Z3, Z8, Z5, J4]
  refine LoopVC.intro (fun m e h' => ∃ k : Nat, k <= l.length /\ m = l.length - k /\ e 0 = sl Z3 l /\ e 8 = sl Z3 l /\ e 9 = Y0 l.length /\ e 10 = Y0 k /\ Sim.Sub h h' /\ ∀ j, j < k -> attrE l j = 0) l.length ⟨0, by omega, by omega, rfl, rfl, rfl, rfl, Sub.refl _, by omega⟩ ?_
  rintro m e h' ⟨k, hk, rfl, he0, he8, he9, he10, S, hj⟩
  simp -dsimp -implicitDefEqProofs (disch := omega) only [VCA, Z1, ↓Q3, Nat.reduceEqDiff, Nat.reduceBEq, Nat.reduceAdd, Nat.reduceSub, Nat.reduceMul, Nat.reduceLT, Nat.reduceLeDiff, ↓reduceIte, reduceCtorEq, Z7, Q6, SOp.rd, SI.rd, SX.rd, rdL, rdO, rdP, Q5, Q4, Q2, Q8, Q7, Z0, implies_true, forall_const, forall_eq, ne_eq, exists_eq_right_right, exists_eq_right, exists_eq_left, exists_eq_left', Q9, Z3, Z8, Z5, J4, he0, he8, he9, he10]
  refine Br.dec (fun hlt => ?_) (fun hge => ?_)
  ·have hk' : k < l.length := by omega
   have hn := hs _ (X9 hk')
   have e2 : (l.take (Int.toNat (k : Int))) = l.take k := by simp
   have go0 : attrE l k = 0 -> ∀ h2, Sim.Sub h h2 -> ∃ m', m' < l.length - k /\ ∃ k1, k1 <= l.length /\ m' = l.length - k1 /\ (k : Int) + 1 = k1 /\ Sim.Sub h h2 /\ ∀ j, j < k1 -> attrE l j = 0 := fun h0 h2 S2 =>
    ⟨l.length - (k + 1), by omega, k + 1, by omega, rfl, by omega, S2, fun j hj' => by
     by_cases hjk : j = k
     ·subst hjk; exact h0
     ·exact hj j (by omega)⟩
   have fin : ∀ x : Int, x ≠ 0 -> attrE l k = x -> fe l.length (attrE l) = x := fun x hx he => by rw [fe_some hk' hj (by rw [he]; exact hx), he]
   simp -dsimp -implicitDefEqProofs (disch := omega) only [VCA, Z1, ↓Q3, Nat.reduceEqDiff, Nat.reduceBEq, Nat.reduceAdd, Nat.reduceSub, Nat.reduceMul, Nat.reduceLT, Nat.reduceLeDiff, ↓reduceIte, reduceCtorEq, Z7, Q6, SOp.rd, SI.rd, SX.rd, rdL, rdO, rdP, Q5, Q4, Q2, Q8, Q7, Z0, implies_true, forall_const, forall_eq, ne_eq, exists_eq_right_right, exists_eq_right, exists_eq_left, exists_eq_left', Q9, Z3, Z8, Z5, J4, he0, he8, he9, he10]
   refine ⟨by omega, fun r hr => ?_⟩
   have S1 := S.upd (x := some ⟨.t 69, 2, [[.str (nth l k).name, .str (nth l k).value]]⟩) (S.none hr)
   refine pcallE.of (attrName_ok _ hn) ?_; simp -dsimp -implicitDefEqProofs (disch := omega) only [VCA, Z1, ↓Q3, Nat.reduceEqDiff, Nat.reduceBEq, Nat.reduceAdd, Nat.reduceSub, Nat.reduceMul, Nat.reduceLT, Nat.reduceLeDiff, ↓reduceIte, reduceCtorEq, Z7, Q6, SOp.rd, SI.rd, SX.rd, rdL, rdO, rdP, Q5, Q4, Q2, Q8, Q7, Z0, implies_true, forall_const, forall_eq, ne_eq, exists_eq_right_right, exists_eq_right, exists_eq_left, exists_eq_left', Q9, Z3, Z8, Z5, J4, J5, he0, he8, he9, he10]
   refine Br.intro (fun h2 => ?_) (fun h2 => ?_)
   ·simp -dsimp -implicitDefEqProofs (disch := omega) only [VCA, Z1, ↓Q3, Nat.reduceEqDiff, Nat.reduceBEq, Nat.reduceAdd, Nat.reduceSub, Nat.reduceMul, Nat.reduceLT, Nat.reduceLeDiff, ↓reduceIte, reduceCtorEq, Z7, Q6, SOp.rd, SI.rd, SX.rd, rdL, rdO, rdP, Q5, Q4, Q2, Q8, Q7, Z0, implies_true, forall_const, forall_eq, ne_eq, exists_eq_right_right, exists_eq_right, exists_eq_left, exists_eq_left', Q9, Z3, Z8, Z5, J4]
    exact ⟨S1, (fin 3 (by decide) (by unfold attrE; rw [if_pos (by simpa using h2)])).symm⟩
   ·have h2 : K6 false (nth l k).name = true := by simpa using h2
    simp -dsimp -implicitDefEqProofs (disch := omega) only [VCA, Z1, ↓Q3, Nat.reduceEqDiff, Nat.reduceBEq, Nat.reduceAdd, Nat.reduceSub, Nat.reduceMul, Nat.reduceLT, Nat.reduceLeDiff, ↓reduceIte, reduceCtorEq, Z7, Q6, SOp.rd, SI.rd, SX.rd, rdL, rdO, rdP, Q5, Q4, Q2, Q8, Q7, Z0, implies_true, forall_const, forall_eq, ne_eq, exists_eq_right_right, exists_eq_right, exists_eq_left, exists_eq_left', Q9, Z3, Z8, Z5, J4, J5, he0, he8, he9, he10]
    refine Br.dec (fun h3 => ?_) (fun h3 => ?_)
    ·simp -dsimp -implicitDefEqProofs (disch := omega) only [VCA, Z1, ↓Q3, Nat.reduceEqDiff, Nat.reduceBEq, Nat.reduceAdd, Nat.reduceSub, Nat.reduceMul, Nat.reduceLT, Nat.reduceLeDiff, ↓reduceIte, reduceCtorEq, Z7, Q6, SOp.rd, SI.rd, SX.rd, rdL, rdO, rdP, Q5, Q4, Q2, Q8, Q7, Z0, implies_true, forall_const, forall_eq, ne_eq, exists_eq_right_right, exists_eq_right, exists_eq_left, exists_eq_left', Q9, Z3, Z8, Z5, J4]
     exact ⟨S1, (fin 2 (by decide) (by unfold attrE; rw [if_neg (by simp [h2]), if_pos (by omega)])).symm⟩
    ·simp -dsimp -implicitDefEqProofs (disch := omega) only [VCA, Z1, ↓Q3, Nat.reduceEqDiff, Nat.reduceBEq, Nat.reduceAdd, Nat.reduceSub, Nat.reduceMul, Nat.reduceLT, Nat.reduceLeDiff, ↓reduceIte, reduceCtorEq, Z7, Q6, SOp.rd, SI.rd, SX.rd, rdL, rdO, rdP, Q5, Q4, Q2, Q8, Q7, Z0, implies_true, forall_const, forall_eq, ne_eq, exists_eq_right_right, exists_eq_right, exists_eq_left, exists_eq_left', Q9, Z3, Z8, Z5, J4, J5, he0, he8, he9, he10]
     refine ⟨by omega, ?_⟩
     refine pcallE.of (find_ok (l.take k) (nth l k).name (by simp; omega)) ?_; simp -dsimp -implicitDefEqProofs (disch := omega) only [VCA, Z1, ↓Q3, Nat.reduceEqDiff, Nat.reduceBEq, Nat.reduceAdd, Nat.reduceSub, Nat.reduceMul, Nat.reduceLT, Nat.reduceLeDiff, ↓reduceIte, reduceCtorEq, Z7, Q6, SOp.rd, SI.rd, SX.rd, rdL, rdO, rdP, Q5, Q4, Q2, Q8, Q7, Z0, implies_true, forall_const, forall_eq, ne_eq, exists_eq_right_right, exists_eq_right, exists_eq_left, exists_eq_left', Q9, Z3, Z8, Z5, J4, J5, he0, he8, he9, he10]
     refine Br.dec (fun h4 => ?_) (fun h4 => ?_)
     ·simp -dsimp -implicitDefEqProofs (disch := omega) only [VCA, Z1, ↓Q3, Nat.reduceEqDiff, Nat.reduceBEq, Nat.reduceAdd, Nat.reduceSub, Nat.reduceMul, Nat.reduceLT, Nat.reduceLeDiff, ↓reduceIte, reduceCtorEq, Z7, Q6, SOp.rd, SI.rd, SX.rd, rdL, rdO, rdP, Q5, Q4, Q2, Q8, Q7, Z0, implies_true, forall_const, forall_eq, ne_eq, exists_eq_right_right, exists_eq_right, exists_eq_left, exists_eq_left', Q9, Z3, Z8, Z5, J4]
      exact ⟨S1, (fin 3 (by decide) (by unfold attrE; rw [if_neg (by simp [h2]), if_neg (by omega), if_pos h4])).symm⟩
     ·simp -dsimp -implicitDefEqProofs (disch := omega) only [VCA, Z1, ↓Q3, Nat.reduceEqDiff, Nat.reduceBEq, Nat.reduceAdd, Nat.reduceSub, Nat.reduceMul, Nat.reduceLT, Nat.reduceLeDiff, ↓reduceIte, reduceCtorEq, Z7, Q6, SOp.rd, SI.rd, SX.rd, rdL, rdO, rdP, Q5, Q4, Q2, Q8, Q7, Z0, implies_true, forall_const, forall_eq, ne_eq, exists_eq_right_right, exists_eq_right, exists_eq_left, exists_eq_left', Q9, Z3, Z8, Z5, J4, J5, he0, he8, he9, he10]
      refine go0 ?_ _ S1
      unfold attrE
      rw [if_neg (by simp [h2]), if_neg (by omega), if_neg h4]
  ·simp -dsimp -implicitDefEqProofs (disch := omega) only [VCA, Z1, ↓Q3, Nat.reduceEqDiff, Nat.reduceBEq, Nat.reduceAdd, Nat.reduceSub, Nat.reduceMul, Nat.reduceLT, Nat.reduceLeDiff, ↓reduceIte, reduceCtorEq, Z7, Q6, SOp.rd, SI.rd, SX.rd, rdL, rdO, rdP, Q5, Q4, Q2, Q8, Q7, Z0, implies_true, forall_const, forall_eq, ne_eq, exists_eq_right_right, exists_eq_right, exists_eq_left, exists_eq_left', Q9, Z3, Z8, Z5, J4]
   obtain rfl : k = l.length := by omega
   exact ⟨S, (fe_none hj).symm⟩
def c229 : SFun := ⟨.seq (.reg [o 2 (.mv (.c (.bool false)))]) (.seq (.reg [o 3 (.mv (.t 0)), o 4 (.bin .eql (.t 3) (.c (.int .i64 1))), o 5 (.mv (.t 4)), ⟨some 6, .mv (.t 0), some (5, false)⟩, ⟨some 7, .bin .eql (.t 6) (.c (.int .i64 2)), some (5, false)⟩, o 8 (.pick (.t 5) (.c (.bool true)) (.t 7)), o 2 (.mv (.t 8))]) .ret), [.tmp 2]⟩
theorem hc229 : X8 Tryz.prog {} Tryz.f229 = some c229 := by kernel_rfl
theorem parent_ok (k : Int) : PCalls (Pg G) 229 [Y0 k] (.bool (decide (k = 1) || decide (k = 2))) := fun h => by
 refine Z9 Tryz.func229 (by kernel_rfl) hc229 (by rw [Tryz.ntmps229]; simp) (by rw [Tryz.ntmps229]; decide) ?_
 by_cases h1 : k = 1
 ·subst h1
  simp -dsimp -implicitDefEqProofs (disch := omega) only [↓Q0 5, ↓Q1 5, VCA, Z1, ↓Q3, Nat.reduceEqDiff, Nat.reduceBEq, Nat.reduceAdd, Nat.reduceSub, Nat.reduceMul, Nat.reduceLT, Nat.reduceLeDiff, ↓reduceIte, reduceCtorEq, Z7, Q6, SOp.rd, SI.rd, SX.rd, rdL, rdO, rdP, Q5, Q4, Q2, Q8, Q7, Z0, implies_true, forall_const, forall_eq, ne_eq, exists_eq_right_right, exists_eq_right, exists_eq_left, exists_eq_left', Q9, Z3, Z8, Z5, J4, c229]
  repeat' (first | ((with_reducible refine brC (fun _ => ?_) fun _ => ?_) <;> try (exfalso; omega)) | (with_reducible refine And.intro ?_ ?_; · omega) | simp -dsimp -implicitDefEqProofs (disch := omega) only [↓Q0 5, ↓Q1 5, VCA, Z1, ↓Q3, Nat.reduceEqDiff, Nat.reduceBEq, Nat.reduceAdd, Nat.reduceSub, Nat.reduceMul, Nat.reduceLT, Nat.reduceLeDiff, ↓reduceIte, reduceCtorEq, Z7, Q6, SOp.rd, SI.rd, SX.rd, rdL, rdO, rdP, Q5, Q4, Q2, Q8, Q7, Z0, implies_true, forall_const, forall_eq, ne_eq, exists_eq_right_right, exists_eq_right, exists_eq_left, exists_eq_left', Q9, Z3, Z8, Z5, J4])
  all_goals exact ⟨Sub.refl _, by simp_all⟩
 ·simp -dsimp -implicitDefEqProofs (disch := omega) only [↓Q0 5, ↓Q1 5, VCA, Z1, ↓Q3, Nat.reduceEqDiff, Nat.reduceBEq, Nat.reduceAdd, Nat.reduceSub, Nat.reduceMul, Nat.reduceLT, Nat.reduceLeDiff, ↓reduceIte, reduceCtorEq, Z7, Q6, SOp.rd, SI.rd, SX.rd, rdL, rdO, rdP, Q5, Q4, Q2, Q8, Q7, Z0, implies_true, forall_const, forall_eq, ne_eq, exists_eq_right_right, exists_eq_right, exists_eq_left, exists_eq_left', Q9, Z3, Z8, Z5, J4, c229]
  repeat' (first | ((with_reducible refine brC (fun _ => ?_) fun _ => ?_) <;> try (exfalso; omega)) | (with_reducible refine And.intro ?_ ?_; · omega) | simp -dsimp -implicitDefEqProofs (disch := omega) only [↓Q0 5, ↓Q1 5, VCA, Z1, ↓Q3, Nat.reduceEqDiff, Nat.reduceBEq, Nat.reduceAdd, Nat.reduceSub, Nat.reduceMul, Nat.reduceLT, Nat.reduceLeDiff, ↓reduceIte, reduceCtorEq, Z7, Q6, SOp.rd, SI.rd, SX.rd, rdL, rdO, rdP, Q5, Q4, Q2, Q8, Q7, Z0, implies_true, forall_const, forall_eq, ne_eq, exists_eq_right_right, exists_eq_right, exists_eq_left, exists_eq_left', Q9, Z3, Z8, Z5, J4])
  all_goals first | (exfalso; omega) | exact ⟨Sub.refl _, by rw [Bool.eq_iff_iff]; simp [h1]⟩
theorem len0 {α : Type} (l : List α) : ((l.length : Int) = 0) = (l = []) := by rw [<- List.length_eq_zero_iff]; exact propext (by omega)
theorem len0b {α : Type} (l : List α) [DecidableEq α] : ((l.length : Int) == 0) = decide (l = []) := by
 rw [Bool.eq_iff_iff, beq_iff_eq, decide_eq_true_iff, len0]
def c186 : SFun := ⟨.seq (.reg [o 1 (.boxF 101 6 (.t 0)), o 2 (.mv (.c (.bool false)))]) (.seq (.dreg [(o 5 (.fldA 0 (.t 1)), none), (o 6 (.ld 1 false (.t 5)), none), (o 7 (.bin .eql (.t 6) (.c (.int .i64 2))), none), (o 8 (.fldA 0 (.t 1)), none), (o 9 (.ld 1 false (.t 8)), none), (o 10 (.bin .eql (.t 9) (.c (.int .i64 3))), none), (o 11 (.mv (.t 10)), none), (⟨some 12, .fldA 0 (.t 1), some (11, false)⟩, none), (⟨some 13, .ld 1 false (.t 12), some (11, false)⟩, none), (⟨some 14, .bin .eql (.t 13) (.c (.int .i64 4)), some (11, false)⟩, none), (o 15 (.pick (.t 11) (.c (.bool true)) (.t 14)), none), (o 3 (.mv (.t 7)), none), (o 4 (.mv (.t 15)), none)]) (.seq (.reg [o 16 (.mv (.t 3)), o 17 (.mv (.t 16)), ⟨some 18, .fldA 0 (.t 1), some (17, false)⟩, ⟨some 19, .ld 1 false (.t 18), some (17, false)⟩, ⟨some 20, .bin .eql (.t 19) (.c (.int .i64 5)), some (17, false)⟩, o 21 (.pick (.t 17) (.c (.bool true)) (.t 20)), o 22 (.mv (.t 21)), ⟨some 23, .fldA 1 (.t 1), some (22, false)⟩, ⟨some 24, .ld 1 false (.t 23), some (22, false)⟩, ⟨some 25, .bin .eql (.t 24) (.c (.str [])), some (22, false)⟩, o 26 (.pick (.t 22) (.c (.bool true)) (.t 25)), o 27 (.mv (.t 26)), ⟨some 28, .mv (.t 3), some (27, true)⟩, ⟨some 29, .mv (.t 28), some (27, true)⟩, ⟨some 30, .fldA 2 (.t 1), some (29, false)⟩, ⟨some 31, .ld 1 false (.t 30), some (29, false)⟩, ⟨some 32, .len (.t 31), some (29, false)⟩, ⟨some 33, .bin .eql (.t 32) (.c (.int .i64 0)), some (29, false)⟩, ⟨some 34, .pick (.t 29) (.c (.bool true)) (.t 33), some (27, true)⟩, o 35 (.pick (.t 27) (.t 34) (.c (.bool false))), o 36 (.mv (.t 35)), ⟨some 37, .mv (.t 4), some (36, true)⟩, ⟨some 38, .mv (.t 37), some (36, true)⟩, ⟨some 39, .fldA 3 (.t 1), some (38, false)⟩, ⟨some 40, .ld 1 false (.t 39), some (38, false)⟩, ⟨some 41, .bin .eql (.t 40) (.c (.str [])), some (38, false)⟩, ⟨some 42, .pick (.t 38) (.c (.bool true)) (.t 41), some (36, true)⟩, o 43 (.pick (.t 36) (.t 42) (.c (.bool false))), o 44 (.mv (.t 43)), ⟨some 45, .fldA 0 (.t 1), some (44, true)⟩, ⟨some 46, .ld 1 false (.t 45), some (44, true)⟩, ⟨some 47, .pcall 229 [.t 46], some (44, true)⟩, ⟨some 48, .mv (.t 47), some (44, true)⟩, ⟨some 49, .fldA 5 (.t 1), some (48, false)⟩, ⟨some 50, .ld 1 false (.t 49), some (48, false)⟩, ⟨some 51, .len (.t 50), some (48, false)⟩, ⟨some 52, .bin .eql (.t 51) (.c (.int .i64 0)), some (48, false)⟩, ⟨some 53, .pick (.t 48) (.c (.bool true)) (.t 52), some (44, true)⟩, o 54 (.pick (.t 44) (.t 53) (.c (.bool false))), o 2 (.mv (.t 54))]) .ret)), [.tmp 2]⟩
theorem hc186 : X8 Tryz.prog {pure := [229]} Tryz.f186 = some c186 := by kernel_rfl
theorem bare_ok (x : HNode) : PCalls (Pg G) 186 [.agg (Z5 x)] (.bool (bareM x)) := fun h => by
 refine Z9 Tryz.func186 (by kernel_rfl) hc186 (by rw [Tryz.ntmps186]; simp) (by rw [Tryz.ntmps186]; decide) ?_
 simp -dsimp -implicitDefEqProofs (disch := omega) only [↓Q0 11, ↓Q1 11, ↓Q0 17, ↓Q1 17, ↓Q0 22, ↓Q1 22, ↓Q0 27, ↓Q1 27, ↓Q0 29, ↓Q1 29, ↓Q0 36, ↓Q1 36, ↓Q0 38, ↓Q1 38, ↓Q0 44, ↓Q1 44, ↓Q0 48, ↓Q1 48, VCA, Z1, ↓Q3, Nat.reduceEqDiff, Nat.reduceBEq, Nat.reduceAdd, Nat.reduceSub, Nat.reduceMul, Nat.reduceLT, Nat.reduceLeDiff, ↓reduceIte, reduceCtorEq, Z7, Q6, SOp.rd, SI.rd, SX.rd, rdL, rdO, rdP, Q5, Q4, Q2, Q8, Q7, Z0, implies_true, forall_const, forall_eq, ne_eq, exists_eq_right_right, exists_eq_right, exists_eq_left, exists_eq_left', Q9, Z3, Z8, Z5, J4, c186, Z5]
 repeat' (first | ((with_reducible refine brC (fun _ => ?_) fun _ => ?_) <;> try (exfalso; omega)) | (with_reducible apply pcallE.of; · exact parent_ok x.kind) | (with_reducible refine And.intro ?_ ?_; · omega) | simp -dsimp -implicitDefEqProofs (disch := omega) only [↓Q0 11, ↓Q1 11, ↓Q0 17, ↓Q1 17, ↓Q0 22, ↓Q1 22, ↓Q0 27, ↓Q1 27, ↓Q0 29, ↓Q1 29, ↓Q0 36, ↓Q1 36, ↓Q0 38, ↓Q1 38, ↓Q0 44, ↓Q1 44, ↓Q0 48, ↓Q1 48, VCA, Z1, ↓Q3, Nat.reduceEqDiff, Nat.reduceBEq, Nat.reduceAdd, Nat.reduceSub, Nat.reduceMul, Nat.reduceLT, Nat.reduceLeDiff, ↓reduceIte, reduceCtorEq, Z7, Q6, SOp.rd, SI.rd, SX.rd, rdL, rdO, rdP, Q5, Q4, Q2, Q8, Q7, Z0, implies_true, forall_const, forall_eq, ne_eq, exists_eq_right_right, exists_eq_right, exists_eq_left, exists_eq_left', Q9, Z3, Z8, Z5, J4])
 all_goals (refine ⟨Sub.refl _, ?_⟩; simp_all [bareM, len0, len0b])
theorem lt400 (n : Nat) : ((400 : Int) < (n : Int)) = (400 < n) := propext (by omega)
def c128 : SFun := ⟨.seq (.reg [o 1 (.boxF 101 6 (.t 0)), o 2 (.mv (.c (.int .i64 0)))]) (.seq (.block 0 (.seq (.reg [o 5 (.fldA 0 (.t 1)), o 6 (.ld 1 false (.t 5)), o 7 (.bin .lss (.t 6) (.c (.int .i64 1))), o 8 (.mv (.t 7)), ⟨some 9, .fldA 0 (.t 1), some (8, false)⟩, ⟨some 10, .ld 1 false (.t 9), some (8, false)⟩, ⟨some 11, .bin .gtr (.t 10) (.c (.int .i64 5)), some (8, false)⟩, o 12 (.pick (.t 8) (.c (.bool true)) (.t 11)), o 13 (.mv (.t 12)), ⟨some 14, .ld 6 true (.t 1), some (13, false)⟩, ⟨some 15, .pcall 186 [.t 14], some (13, false)⟩, ⟨some 16, .un .not (.t 15), some (13, false)⟩, o 17 (.pick (.t 13) (.c (.bool true)) (.t 16)), o 4 (.mv (.t 17))]) (.cond (.t 4) (.seq (.reg [o 2 (.mv (.c (.int .i64 7)))]) .ret) (.seq (.reg [o 19 (.fldA 0 (.t 1)), o 20 (.ld 1 false (.t 19)), o 21 (.bin .eql (.t 20) (.c (.int .i64 2))), o 22 (.mv (.t 21)), ⟨some 23, .fldA 1 (.t 1), some (22, true)⟩, ⟨some 24, .ld 1 false (.t 23), some (22, true)⟩, ⟨some 25, .pcall 187 [.t 24], some (22, true)⟩, ⟨some 26, .un .not (.t 25), some (22, true)⟩, o 27 (.pick (.t 22) (.t 26) (.c (.bool false))), o 18 (.mv (.t 27))]) (.cond (.t 18) (.seq (.reg [o 2 (.mv (.c (.int .i64 3)))]) .ret) .skip))))) (.seq (.seq (.reg [o 28 (.fldA 2 (.t 1)), o 29 (.ld 1 false (.t 28)), o 30 (.pcall 188 [.t 29]), o 3 (.mv (.t 30))]) (.seq (.reg [o 31 (.mv (.t 3)), o 32 (.bin .neq (.t 31) (.c (.int .i64 0)))]) (.cond (.t 32) (.seq (.reg [o 33 (.mv (.t 3)), o 2 (.mv (.t 33))]) .ret) .skip))) (.seq (.seq (.reg [o 34 (.fldA 3 (.t 1)), o 35 (.ld 1 false (.t 34)), o 36 (.lenS (.t 35)), o 37 (.bin .gtr (.t 36) (.c (.int .i64 400))), o 38 (.mv (.t 37)), ⟨some 39, .fldA 1 (.t 1), some (38, false)⟩, ⟨some 40, .ld 1 false (.t 39), some (38, false)⟩, ⟨some 41, .lenS (.t 40), some (38, false)⟩, ⟨some 42, .bin .gtr (.t 41) (.c (.int .i64 400)), some (38, false)⟩, o 43 (.pick (.t 38) (.c (.bool true)) (.t 42))]) (.cond (.t 43) (.seq (.reg [o 2 (.mv (.c (.int .i64 2)))]) .ret) .skip)) (.seq (.reg [o 2 (.mv (.c (.int .i64 0)))]) .ret)))), [.tmp 2]⟩
theorem hc128 : X8 Tryz.prog {pure := [186, 187, 188]} Tryz.f128 = some c128 := by kernel_rfl
theorem one_ok' (x : HNode) (hx : NodeSm x) : PCalls (Pg G) 128 [.agg (Z5 x)] (Y0 (nodeE x)) := fun h => by
 refine Z9 Tryz.func128 (by kernel_rfl) hc128 (by rw [Tryz.ntmps128]; simp) (by rw [Tryz.ntmps128]; decide) ?_
 simp -dsimp -implicitDefEqProofs (disch := omega) only [↓Q0 8, ↓Q1 8, ↓Q0 13, ↓Q1 13, ↓Q0 22, ↓Q1 22, ↓Q0 38, ↓Q1 38, VCA, Z1, ↓Q3, Nat.reduceEqDiff, Nat.reduceBEq, Nat.reduceAdd, Nat.reduceSub, Nat.reduceMul, Nat.reduceLT, Nat.reduceLeDiff, ↓reduceIte, reduceCtorEq, Z7, Q6, SOp.rd, SI.rd, SX.rd, rdL, rdO, rdP, Q5, Q4, Q2, Q8, Q7, Z0, implies_true, forall_const, forall_eq, ne_eq, exists_eq_right_right, exists_eq_right, exists_eq_left, exists_eq_left', Q9, Z3, Z8, Z5, J4, c128, Z5]
 have hb : PCalls (Pg G) 186 [.agg [Y0 x.kind, .str x.name, sl Z3 x.attrs, .str x.text, Y0 x.parent, sl Z8 x.kids]] (.bool (bareM x)) := bare_ok x
 repeat' (first | ((with_reducible refine brC (fun _ => ?_) fun _ => ?_) <;> try (exfalso; omega)) | (with_reducible apply pcallE.of; · exact hb) | (with_reducible apply pcallE.of; · exact name_ok x.name hx.name) | (with_reducible apply pcallE.of; · exact attrs_ok x.attrs hx.attrs (fun a ha => (hx.each a ha).1)) | (with_reducible refine And.intro ?_ ?_; · omega) | simp -dsimp -implicitDefEqProofs (disch := omega) only [↓Q0 8, ↓Q1 8, ↓Q0 13, ↓Q1 13, ↓Q0 22, ↓Q1 22, ↓Q0 38, ↓Q1 38, VCA, Z1, ↓Q3, Nat.reduceEqDiff, Nat.reduceBEq, Nat.reduceAdd, Nat.reduceSub, Nat.reduceMul, Nat.reduceLT, Nat.reduceLeDiff, ↓reduceIte, reduceCtorEq, Z7, Q6, SOp.rd, SI.rd, SX.rd, rdL, rdO, rdP, Q5, Q4, Q2, Q8, Q7, Z0, implies_true, forall_const, forall_eq, ne_eq, exists_eq_right_right, exists_eq_right, exists_eq_left, exists_eq_left', Q9, Z3, Z8, Z5, J4])
 all_goals (clear hb hx; refine ⟨Sub.refl _, ?_⟩; simp_all [nodeE, lt400]; try (first | omega | (intro hh; omega) | (rw [if_neg (by omega), if_neg (by omega)])))
end Go.Proofs.K
end
