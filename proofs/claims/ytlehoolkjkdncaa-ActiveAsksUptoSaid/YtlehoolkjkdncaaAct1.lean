import Derived.Test.YtlehoolkjkdncaaProg
import Derived.Test.YtlehoolkjkdncaaSimAll
import Derived.KernelRfl
set_option linter.unusedSimpArgs false
set_option linter.unusedVariables false
namespace Go.Proofs.K
open Go Go.Sim Go.Proofs

structure HAttr where
  name : List UInt8
  value : List UInt8
deriving DecidableEq, Inhabited
def eAttr (a : HAttr) : List AVal := [.str a.name, .str a.value]
instance : LenE eAttr 2 := ⟨fun _ => rfl⟩
theorem eAttr_beq (x y : HAttr) : (x == y) = (x.name == y.name && x.value == y.value) := by
  cases x; cases y; rw [Bool.eq_iff_iff]; simp
structure HItem where
  node : Int
  name : List UInt8
  attrs : List HAttr
deriving DecidableEq, Inhabited
def eItem (x : HItem) : List AVal := [aInt x.node, .str x.name, sl eAttr x.attrs]
instance : LenE eItem 3 := ⟨fun _ => rfl⟩

/-! ## slices -/
def idxM {α : Type} (p : α → Bool) (l : List α) : Int := match l.findIdx? p with | some i => i | none => -1
theorem idxM_some {α : Type} [Inhabited α] {p : α → Bool} {l : List α} {k : Nat} (hk : k < l.length) (h1 : ∀ j, j < k → p (nth l j) = false) (h2 : p (nth l k) = true) : idxM p l = k := by
  have hn : ∀ j (hj : j < l.length), l[j] = nth l j := fun j hj => by have := nth_some hj; rw [List.getElem?_eq_getElem hj] at this; exact Option.some.inj this
  have : l.findIdx? p = some k := by
    rw [List.findIdx?_eq_some_iff_getElem]
    refine ⟨hk, by rw [hn k hk]; exact h2, fun j hj => ?_⟩
    rw [hn j (by omega), h1 j hj]; simp
  rw [idxM, this]
theorem idxM_none {α : Type} [Inhabited α] {p : α → Bool} {l : List α} (h1 : ∀ j, j < l.length → p (nth l j) = false) : idxM p l = -1 := by
  have hn : ∀ j (hj : j < l.length), l[j] = nth l j := fun j hj => by have := nth_some hj; rw [List.getElem?_eq_getElem hj] at this; exact Option.some.inj this
  have : l.findIdx? p = none := by
    rw [List.findIdx?_eq_none_iff]
    intro x hx
    obtain ⟨j, hj, rfl⟩ := List.getElem_of_mem hx
    rw [hn j hj]; exact h1 j hj
  rw [idxM, this]
theorem idxM_any {α : Type} (p : α → Bool) (l : List α) : decide (0 ≤ idxM p l) = l.any p := by
  unfold idxM
  cases h : l.findIdx? p with
  | none =>
    rw [List.findIdx?_eq_none_iff] at h
    have : l.any p = false := by rw [List.any_eq_false]; intro x hx; simp [h x hx]
    rw [this]; simp
  | some i =>
    have h2 : (l.findIdx? p).isSome = true := by rw [h]; rfl
    rw [List.findIdx?_isSome] at h2
    rw [h2]
    simp

def c90 : SFun := ⟨(.seq (.reg [⟨(some 4), (.mv (.c (.int .i64 (0)))), none⟩]) (.seq (.seq (.reg [⟨(some 6), (.mv (.t 0)), none⟩, ⟨(some 7), (.len (.t 6)), none⟩, ⟨(some 8), (.mv (.c (.int .i64 (0)))), none⟩]) (.block 0 (.loop (.seq (.reg [⟨(some 9), (.bin .lss (.t 8) (.t 7)), none⟩]) (.seq (.cond (.t 9) .skip (.exit 0)) (.seq (.block 1 (.seq (.reg [⟨(some 10), (.mv (.t 8)), none⟩, ⟨(some 5), (.mv (.t 10)), none⟩]) (.seq (.reg [⟨(some 11), (.mv (.t 1)), none⟩, ⟨(some 12), (.mv (.t 0)), none⟩, ⟨(some 13), (.mv (.t 5)), none⟩, ⟨(some 14), (.idxA 3 (.t 12) (.t 13)), none⟩, ⟨(some 15), (.ld 3 true (.t 14)), none⟩, ⟨(some 16), (.call (.t 11) [(.t 15)]), none⟩]) (.cond (.t 16) (.seq (.reg [⟨(some 17), (.mv (.t 5)), none⟩, ⟨(some 4), (.mv (.t 17)), none⟩]) .ret) .skip)))) (.reg [⟨(some 18), (.bin .add (.t 8) (.c (.int .i64 (1)))), none⟩, ⟨(some 8), (.mv (.t 18)), none⟩]))))))) (.seq (.reg [⟨(some 4), (.mv (.c (.int .i64 (-1)))), none⟩]) .ret))), [(.tmp 4)]⟩
theorem hc90 : toSF Try.prog {} Try.f90 = some c90 := by kernel_rfl
theorem hn90 : (Try.f90.name == "runtime.NumGoroutine") = false := by kernel_rfl
theorem indexF_ok {h : Heap} (l : List HItem) (f : Nat) (a b : List AVal) (p : HItem → Bool) (hl : l.length ≤ 1073741824)
    (hp : ∀ x, DCalls Try.prog f (a ++ ([.agg (eItem x)] ++ b)) h fun r h' => r = .bool (p x) ∧ h' = h) : DCalls Try.prog 90 [sl eItem l, .fn f a b] h fun r h' => r = aInt (idxM p l) ∧ h' = h := by
  refine dcalls_of_vc Try.func90 hn90 hc90 (by rw [Try.ntmps90]; simp) ?_
  simp -dsimp -implicitDefEqProofs (disch := omega) only [VC1, VC2, VC3, VC4, VC5, VC6, VC7, VC8, VC9, VC10, VC11, VC12, VC13, VC14, VC15, VC16, VC17, VC18, VC19, VC20, ↓upd_none, Nat.reduceEqDiff, Nat.reduceBEq, Nat.reduceAdd, Nat.reduceSub, Nat.reduceMul, Nat.reduceLT, Nat.reduceLeDiff, ↓reduceIte, reduceCtorEq, rsOf, rootsOf, SOp.rd, SI.rd, SX.rd, rdL, rdO, rdP, okParts, eqCells, okEqCells, fillA, okFill, setAt, implies_true, forall_const, forall_eq, ne_eq, exists_eq_right_right, exists_eq_right, exists_eq_left, exists_eq_left', eItem, eAttr, c90]
  refine LoopVC.intro (fun m e h' => ∃ k : Nat, k ≤ l.length ∧ m = l.length - k ∧ e 0 = sl eItem l ∧ e 1 = .fn f a b ∧ e 7 = aInt l.length ∧ e 8 = aInt k ∧ h' = h ∧ ∀ j, j < k → p (nth l j) = false) l.length ⟨0, by omega, by omega, rfl, rfl, rfl, rfl, rfl, by omega⟩ ?_
  rintro m e h' ⟨k, hk, rfl, he0, he1, he7, he8, rfl, hj⟩
  simp -dsimp -implicitDefEqProofs (disch := omega) only [VC1, VC2, VC3, VC4, VC5, VC6, VC7, VC8, VC9, VC10, VC11, VC12, VC13, VC14, VC15, VC16, VC17, VC18, VC19, VC20, ↓upd_none, Nat.reduceEqDiff, Nat.reduceBEq, Nat.reduceAdd, Nat.reduceSub, Nat.reduceMul, Nat.reduceLT, Nat.reduceLeDiff, ↓reduceIte, reduceCtorEq, rsOf, rootsOf, SOp.rd, SI.rd, SX.rd, rdL, rdO, rdP, okParts, eqCells, okEqCells, fillA, okFill, setAt, implies_true, forall_const, forall_eq, ne_eq, exists_eq_right_right, exists_eq_right, exists_eq_left, exists_eq_left', eItem, eAttr, he0, he1, he7, he8]
  refine Br.dec (fun hlt => ?_) (fun hge => ?_)
  · simp -dsimp -implicitDefEqProofs (disch := omega) only [VC1, VC2, VC3, VC4, VC5, VC6, VC7, VC8, VC9, VC10, VC11, VC12, VC13, VC14, VC15, VC16, VC17, VC18, VC19, VC20, ↓upd_none, Nat.reduceEqDiff, Nat.reduceBEq, Nat.reduceAdd, Nat.reduceSub, Nat.reduceMul, Nat.reduceLT, Nat.reduceLeDiff, ↓reduceIte, reduceCtorEq, rsOf, rootsOf, SOp.rd, SI.rd, SX.rd, rdL, rdO, rdP, okParts, eqCells, okEqCells, fillA, okFill, setAt, implies_true, forall_const, forall_eq, ne_eq, exists_eq_right_right, exists_eq_right, exists_eq_left, exists_eq_left', eItem, eAttr, he0, he1, he7, he8, eItem]
    refine ⟨by omega, DCalls.of (hp (nth l k)) ?_⟩
    rintro r h' ⟨rfl, rfl⟩
    simp -dsimp -implicitDefEqProofs (disch := omega) only [VC1, VC2, VC3, VC4, VC5, VC6, VC7, VC8, VC9, VC10, VC11, VC12, VC13, VC14, VC15, VC16, VC17, VC18, VC19, VC20, ↓upd_none, Nat.reduceEqDiff, Nat.reduceBEq, Nat.reduceAdd, Nat.reduceSub, Nat.reduceMul, Nat.reduceLT, Nat.reduceLeDiff, ↓reduceIte, reduceCtorEq, rsOf, rootsOf, SOp.rd, SI.rd, SX.rd, rdL, rdO, rdP, okParts, eqCells, okEqCells, fillA, okFill, setAt, implies_true, forall_const, forall_eq, ne_eq, exists_eq_right_right, exists_eq_right, exists_eq_left, exists_eq_left', eItem, eAttr, he0, he1, he7, he8]
    refine Br.intro (fun ht => ?_) (fun hf => ?_)
    · simp -dsimp -implicitDefEqProofs (disch := omega) only [VC1, VC2, VC3, VC4, VC5, VC6, VC7, VC8, VC9, VC10, VC11, VC12, VC13, VC14, VC15, VC16, VC17, VC18, VC19, VC20, ↓upd_none, Nat.reduceEqDiff, Nat.reduceBEq, Nat.reduceAdd, Nat.reduceSub, Nat.reduceMul, Nat.reduceLT, Nat.reduceLeDiff, ↓reduceIte, reduceCtorEq, rsOf, rootsOf, SOp.rd, SI.rd, SX.rd, rdL, rdO, rdP, okParts, eqCells, okEqCells, fillA, okFill, setAt, implies_true, forall_const, forall_eq, ne_eq, exists_eq_right_right, exists_eq_right, exists_eq_left, exists_eq_left', eItem, eAttr]
      rw [idxM_some (by omega) hj ht]; exact ⟨Sub.refl _, rfl⟩
    · simp -dsimp -implicitDefEqProofs (disch := omega) only [VC1, VC2, VC3, VC4, VC5, VC6, VC7, VC8, VC9, VC10, VC11, VC12, VC13, VC14, VC15, VC16, VC17, VC18, VC19, VC20, ↓upd_none, Nat.reduceEqDiff, Nat.reduceBEq, Nat.reduceAdd, Nat.reduceSub, Nat.reduceMul, Nat.reduceLT, Nat.reduceLeDiff, ↓reduceIte, reduceCtorEq, rsOf, rootsOf, SOp.rd, SI.rd, SX.rd, rdL, rdO, rdP, okParts, eqCells, okEqCells, fillA, okFill, setAt, implies_true, forall_const, forall_eq, ne_eq, exists_eq_right_right, exists_eq_right, exists_eq_left, exists_eq_left', eItem, eAttr, he0, he1, he7, he8]
      refine ⟨_, ?_, k + 1, by omega, rfl, by omega, fun j hj' => ?_⟩
      · omega
      · by_cases h1 : j = k
        · subst h1; exact hf
        · exact hj j (by omega)
  · simp -dsimp -implicitDefEqProofs (disch := omega) only [VC1, VC2, VC3, VC4, VC5, VC6, VC7, VC8, VC9, VC10, VC11, VC12, VC13, VC14, VC15, VC16, VC17, VC18, VC19, VC20, ↓upd_none, Nat.reduceEqDiff, Nat.reduceBEq, Nat.reduceAdd, Nat.reduceSub, Nat.reduceMul, Nat.reduceLT, Nat.reduceLeDiff, ↓reduceIte, reduceCtorEq, rsOf, rootsOf, SOp.rd, SI.rd, SX.rd, rdL, rdO, rdP, okParts, eqCells, okEqCells, fillA, okFill, setAt, implies_true, forall_const, forall_eq, ne_eq, exists_eq_right_right, exists_eq_right, exists_eq_left, exists_eq_left', eItem, eAttr]
    rw [idxM_none (fun j hj' => hj j (by omega))]; exact ⟨Sub.refl _, rfl⟩
def c54 : SFun := ⟨(.seq (.reg [⟨(some 4), (.mv (.c (.bool false))), none⟩]) (.seq (.reg [⟨(some 5), (.mv (.t 0)), none⟩, ⟨(some 6), (.mv (.t 1)), none⟩, ⟨(some 7), (.call (.c (.fn 90 [] [])) [(.t 5), (.t 6)]), none⟩, ⟨(some 8), (.bin .geq (.t 7) (.c (.int .i64 (0)))), none⟩, ⟨(some 4), (.mv (.t 8)), none⟩]) .ret)), [(.tmp 4)]⟩
theorem hc54 : toSF Try.prog {} Try.f54 = some c54 := by kernel_rfl
theorem hn54 : (Try.f54.name == "runtime.NumGoroutine") = false := by kernel_rfl
theorem containsF_ok {h : Heap} (l : List HItem) (f : Nat) (a b : List AVal) (p : HItem → Bool) (hl : l.length ≤ 1073741824)
    (hp : ∀ x, DCalls Try.prog f (a ++ ([.agg (eItem x)] ++ b)) h fun r h' => r = .bool (p x) ∧ h' = h) : DCalls Try.prog 54 [sl eItem l, .fn f a b] h fun r h' => r = .bool (l.any p) ∧ h' = h := by
  refine dcalls_of_vc Try.func54 hn54 hc54 (by rw [Try.ntmps54]; simp) ?_
  simp -dsimp -implicitDefEqProofs (disch := omega) only [VC1, VC2, VC3, VC4, VC5, VC6, VC7, VC8, VC9, VC10, VC11, VC12, VC13, VC14, VC15, VC16, VC17, VC18, VC19, VC20, ↓upd_none, Nat.reduceEqDiff, Nat.reduceBEq, Nat.reduceAdd, Nat.reduceSub, Nat.reduceMul, Nat.reduceLT, Nat.reduceLeDiff, ↓reduceIte, reduceCtorEq, rsOf, rootsOf, SOp.rd, SI.rd, SX.rd, rdL, rdO, rdP, okParts, eqCells, okEqCells, fillA, okFill, setAt, implies_true, forall_const, forall_eq, ne_eq, exists_eq_right_right, exists_eq_right, exists_eq_left, exists_eq_left', eItem, eAttr, c54]
  refine DCalls.of (indexF_ok l f a b p hl hp) ?_
  rintro r h' ⟨rfl, rfl⟩
  simp -dsimp -implicitDefEqProofs (disch := omega) only [VC1, VC2, VC3, VC4, VC5, VC6, VC7, VC8, VC9, VC10, VC11, VC12, VC13, VC14, VC15, VC16, VC17, VC18, VC19, VC20, ↓upd_none, Nat.reduceEqDiff, Nat.reduceBEq, Nat.reduceAdd, Nat.reduceSub, Nat.reduceMul, Nat.reduceLT, Nat.reduceLeDiff, ↓reduceIte, reduceCtorEq, rsOf, rootsOf, SOp.rd, SI.rd, SX.rd, rdL, rdO, rdP, okParts, eqCells, okEqCells, fillA, okFill, setAt, implies_true, forall_const, forall_eq, ne_eq, exists_eq_right_right, exists_eq_right, exists_eq_left, exists_eq_left', eItem, eAttr]
  exact ⟨Sub.refl _, idxM_any p l⟩
def c122 : SFun := ⟨(.seq (.reg [⟨(some 4), (.mv (.c (.int .i64 (0)))), none⟩]) (.seq (.seq (.reg [⟨(some 6), (.mv (.t 0)), none⟩, ⟨(some 7), (.len (.t 6)), none⟩, ⟨(some 8), (.mv (.c (.int .i64 (0)))), none⟩]) (.block 0 (.loop (.seq (.reg [⟨(some 9), (.bin .lss (.t 8) (.t 7)), none⟩]) (.seq (.cond (.t 9) .skip (.exit 0)) (.seq (.block 1 (.seq (.reg [⟨(some 10), (.mv (.t 8)), none⟩, ⟨(some 5), (.mv (.t 10)), none⟩]) (.seq (.reg [⟨(some 11), (.mv (.t 1)), none⟩, ⟨(some 12), (.mv (.t 0)), none⟩, ⟨(some 13), (.mv (.t 5)), none⟩, ⟨(some 14), (.idxA 2 (.t 12) (.t 13)), none⟩, ⟨(some 15), (.ld 2 true (.t 14)), none⟩, ⟨(some 16), (.call (.t 11) [(.t 15)]), none⟩]) (.cond (.t 16) (.seq (.reg [⟨(some 17), (.mv (.t 5)), none⟩, ⟨(some 4), (.mv (.t 17)), none⟩]) .ret) .skip)))) (.reg [⟨(some 18), (.bin .add (.t 8) (.c (.int .i64 (1)))), none⟩, ⟨(some 8), (.mv (.t 18)), none⟩]))))))) (.seq (.reg [⟨(some 4), (.mv (.c (.int .i64 (-1)))), none⟩]) .ret))), [(.tmp 4)]⟩
theorem hc122 : toSF Try.prog {} Try.f122 = some c122 := by kernel_rfl
theorem hn122 : (Try.f122.name == "runtime.NumGoroutine") = false := by kernel_rfl
theorem indexFA_ok {h : Heap} (l : List HAttr) (f : Nat) (a b : List AVal) (p : HAttr → Bool) (hl : l.length ≤ 1073741824)
    (hp : ∀ x, DCalls Try.prog f (a ++ ([.agg (eAttr x)] ++ b)) h fun r h' => r = .bool (p x) ∧ h' = h) : DCalls Try.prog 122 [sl eAttr l, .fn f a b] h fun r h' => r = aInt (idxM p l) ∧ h' = h := by
  refine dcalls_of_vc Try.func122 hn122 hc122 (by rw [Try.ntmps122]; simp) ?_
  simp -dsimp -implicitDefEqProofs (disch := omega) only [VC1, VC2, VC3, VC4, VC5, VC6, VC7, VC8, VC9, VC10, VC11, VC12, VC13, VC14, VC15, VC16, VC17, VC18, VC19, VC20, ↓upd_none, Nat.reduceEqDiff, Nat.reduceBEq, Nat.reduceAdd, Nat.reduceSub, Nat.reduceMul, Nat.reduceLT, Nat.reduceLeDiff, ↓reduceIte, reduceCtorEq, rsOf, rootsOf, SOp.rd, SI.rd, SX.rd, rdL, rdO, rdP, okParts, eqCells, okEqCells, fillA, okFill, setAt, implies_true, forall_const, forall_eq, ne_eq, exists_eq_right_right, exists_eq_right, exists_eq_left, exists_eq_left', eItem, eAttr, c122]
  refine LoopVC.intro (fun m e h' => ∃ k : Nat, k ≤ l.length ∧ m = l.length - k ∧ e 0 = sl eAttr l ∧ e 1 = .fn f a b ∧ e 7 = aInt l.length ∧ e 8 = aInt k ∧ h' = h ∧ ∀ j, j < k → p (nth l j) = false) l.length ⟨0, by omega, by omega, rfl, rfl, rfl, rfl, rfl, by omega⟩ ?_
  rintro m e h' ⟨k, hk, rfl, he0, he1, he7, he8, rfl, hj⟩
  simp -dsimp -implicitDefEqProofs (disch := omega) only [VC1, VC2, VC3, VC4, VC5, VC6, VC7, VC8, VC9, VC10, VC11, VC12, VC13, VC14, VC15, VC16, VC17, VC18, VC19, VC20, ↓upd_none, Nat.reduceEqDiff, Nat.reduceBEq, Nat.reduceAdd, Nat.reduceSub, Nat.reduceMul, Nat.reduceLT, Nat.reduceLeDiff, ↓reduceIte, reduceCtorEq, rsOf, rootsOf, SOp.rd, SI.rd, SX.rd, rdL, rdO, rdP, okParts, eqCells, okEqCells, fillA, okFill, setAt, implies_true, forall_const, forall_eq, ne_eq, exists_eq_right_right, exists_eq_right, exists_eq_left, exists_eq_left', eItem, eAttr, he0, he1, he7, he8]
  refine Br.dec (fun hlt => ?_) (fun hge => ?_)
  · simp -dsimp -implicitDefEqProofs (disch := omega) only [VC1, VC2, VC3, VC4, VC5, VC6, VC7, VC8, VC9, VC10, VC11, VC12, VC13, VC14, VC15, VC16, VC17, VC18, VC19, VC20, ↓upd_none, Nat.reduceEqDiff, Nat.reduceBEq, Nat.reduceAdd, Nat.reduceSub, Nat.reduceMul, Nat.reduceLT, Nat.reduceLeDiff, ↓reduceIte, reduceCtorEq, rsOf, rootsOf, SOp.rd, SI.rd, SX.rd, rdL, rdO, rdP, okParts, eqCells, okEqCells, fillA, okFill, setAt, implies_true, forall_const, forall_eq, ne_eq, exists_eq_right_right, exists_eq_right, exists_eq_left, exists_eq_left', eItem, eAttr, he0, he1, he7, he8, eAttr]
    refine ⟨by omega, DCalls.of (hp (nth l k)) ?_⟩
    rintro r h' ⟨rfl, rfl⟩
    simp -dsimp -implicitDefEqProofs (disch := omega) only [VC1, VC2, VC3, VC4, VC5, VC6, VC7, VC8, VC9, VC10, VC11, VC12, VC13, VC14, VC15, VC16, VC17, VC18, VC19, VC20, ↓upd_none, Nat.reduceEqDiff, Nat.reduceBEq, Nat.reduceAdd, Nat.reduceSub, Nat.reduceMul, Nat.reduceLT, Nat.reduceLeDiff, ↓reduceIte, reduceCtorEq, rsOf, rootsOf, SOp.rd, SI.rd, SX.rd, rdL, rdO, rdP, okParts, eqCells, okEqCells, fillA, okFill, setAt, implies_true, forall_const, forall_eq, ne_eq, exists_eq_right_right, exists_eq_right, exists_eq_left, exists_eq_left', eItem, eAttr, he0, he1, he7, he8]
    refine Br.intro (fun ht => ?_) (fun hf => ?_)
    · simp -dsimp -implicitDefEqProofs (disch := omega) only [VC1, VC2, VC3, VC4, VC5, VC6, VC7, VC8, VC9, VC10, VC11, VC12, VC13, VC14, VC15, VC16, VC17, VC18, VC19, VC20, ↓upd_none, Nat.reduceEqDiff, Nat.reduceBEq, Nat.reduceAdd, Nat.reduceSub, Nat.reduceMul, Nat.reduceLT, Nat.reduceLeDiff, ↓reduceIte, reduceCtorEq, rsOf, rootsOf, SOp.rd, SI.rd, SX.rd, rdL, rdO, rdP, okParts, eqCells, okEqCells, fillA, okFill, setAt, implies_true, forall_const, forall_eq, ne_eq, exists_eq_right_right, exists_eq_right, exists_eq_left, exists_eq_left', eItem, eAttr]
      rw [idxM_some (by omega) hj ht]; exact ⟨Sub.refl _, rfl⟩
    · simp -dsimp -implicitDefEqProofs (disch := omega) only [VC1, VC2, VC3, VC4, VC5, VC6, VC7, VC8, VC9, VC10, VC11, VC12, VC13, VC14, VC15, VC16, VC17, VC18, VC19, VC20, ↓upd_none, Nat.reduceEqDiff, Nat.reduceBEq, Nat.reduceAdd, Nat.reduceSub, Nat.reduceMul, Nat.reduceLT, Nat.reduceLeDiff, ↓reduceIte, reduceCtorEq, rsOf, rootsOf, SOp.rd, SI.rd, SX.rd, rdL, rdO, rdP, okParts, eqCells, okEqCells, fillA, okFill, setAt, implies_true, forall_const, forall_eq, ne_eq, exists_eq_right_right, exists_eq_right, exists_eq_left, exists_eq_left', eItem, eAttr, he0, he1, he7, he8]
      refine ⟨_, ?_, k + 1, by omega, rfl, by omega, fun j hj' => ?_⟩
      · omega
      · by_cases h1 : j = k
        · subst h1; exact hf
        · exact hj j (by omega)
  · simp -dsimp -implicitDefEqProofs (disch := omega) only [VC1, VC2, VC3, VC4, VC5, VC6, VC7, VC8, VC9, VC10, VC11, VC12, VC13, VC14, VC15, VC16, VC17, VC18, VC19, VC20, ↓upd_none, Nat.reduceEqDiff, Nat.reduceBEq, Nat.reduceAdd, Nat.reduceSub, Nat.reduceMul, Nat.reduceLT, Nat.reduceLeDiff, ↓reduceIte, reduceCtorEq, rsOf, rootsOf, SOp.rd, SI.rd, SX.rd, rdL, rdO, rdP, okParts, eqCells, okEqCells, fillA, okFill, setAt, implies_true, forall_const, forall_eq, ne_eq, exists_eq_right_right, exists_eq_right, exists_eq_left, exists_eq_left', eItem, eAttr]
    rw [idxM_none (fun j hj' => hj j (by omega))]; exact ⟨Sub.refl _, rfl⟩
def c118 : SFun := ⟨(.seq (.reg [⟨(some 4), (.mv (.c (.bool false))), none⟩]) (.seq (.reg [⟨(some 5), (.mv (.t 0)), none⟩, ⟨(some 6), (.mv (.t 1)), none⟩, ⟨(some 7), (.call (.c (.fn 122 [] [])) [(.t 5), (.t 6)]), none⟩, ⟨(some 8), (.bin .geq (.t 7) (.c (.int .i64 (0)))), none⟩, ⟨(some 4), (.mv (.t 8)), none⟩]) .ret)), [(.tmp 4)]⟩
theorem hc118 : toSF Try.prog {} Try.f118 = some c118 := by kernel_rfl
theorem hn118 : (Try.f118.name == "runtime.NumGoroutine") = false := by kernel_rfl
theorem containsFA_ok {h : Heap} (l : List HAttr) (f : Nat) (a b : List AVal) (p : HAttr → Bool) (hl : l.length ≤ 1073741824)
    (hp : ∀ x, DCalls Try.prog f (a ++ ([.agg (eAttr x)] ++ b)) h fun r h' => r = .bool (p x) ∧ h' = h) : DCalls Try.prog 118 [sl eAttr l, .fn f a b] h fun r h' => r = .bool (l.any p) ∧ h' = h := by
  refine dcalls_of_vc Try.func118 hn118 hc118 (by rw [Try.ntmps118]; simp) ?_
  simp -dsimp -implicitDefEqProofs (disch := omega) only [VC1, VC2, VC3, VC4, VC5, VC6, VC7, VC8, VC9, VC10, VC11, VC12, VC13, VC14, VC15, VC16, VC17, VC18, VC19, VC20, ↓upd_none, Nat.reduceEqDiff, Nat.reduceBEq, Nat.reduceAdd, Nat.reduceSub, Nat.reduceMul, Nat.reduceLT, Nat.reduceLeDiff, ↓reduceIte, reduceCtorEq, rsOf, rootsOf, SOp.rd, SI.rd, SX.rd, rdL, rdO, rdP, okParts, eqCells, okEqCells, fillA, okFill, setAt, implies_true, forall_const, forall_eq, ne_eq, exists_eq_right_right, exists_eq_right, exists_eq_left, exists_eq_left', eItem, eAttr, c118]
  refine DCalls.of (indexFA_ok l f a b p hl hp) ?_
  rintro r h' ⟨rfl, rfl⟩
  simp -dsimp -implicitDefEqProofs (disch := omega) only [VC1, VC2, VC3, VC4, VC5, VC6, VC7, VC8, VC9, VC10, VC11, VC12, VC13, VC14, VC15, VC16, VC17, VC18, VC19, VC20, ↓upd_none, Nat.reduceEqDiff, Nat.reduceBEq, Nat.reduceAdd, Nat.reduceSub, Nat.reduceMul, Nat.reduceLT, Nat.reduceLeDiff, ↓reduceIte, reduceCtorEq, rsOf, rootsOf, SOp.rd, SI.rd, SX.rd, rdL, rdO, rdP, okParts, eqCells, okEqCells, fillA, okFill, setAt, implies_true, forall_const, forall_eq, ne_eq, exists_eq_right_right, exists_eq_right, exists_eq_left, exists_eq_left', eItem, eAttr]
  exact ⟨Sub.refl _, idxM_any p l⟩
def c49 : SFun := ⟨(.seq (.reg [⟨(some 2), (.mv (.c .emp)), none⟩]) (.seq (.seq (.reg [⟨(some 3), (.mv (.t 0)), none⟩, ⟨(some 4), (.isnil 0 false (.t 3)), none⟩]) (.cond (.t 4) (.seq (.reg [⟨(some 2), (.mv (.c .emp)), none⟩]) .ret) .skip)) (.seq (.reg [⟨(some 5), (.bldF 25 3 []), none⟩, ⟨(some 6), (.mv (.t 0)), none⟩, ⟨(some 7), (.app 25 3 48 (.t 5) (.t 6)), none⟩, ⟨(some 2), (.mv (.t 7)), none⟩]) .ret))), [(.tmp 2)]⟩
theorem hc49 : toSF Try.prog {} Try.f49 = some c49 := by kernel_rfl
theorem hn49 : (Try.f49.name == "runtime.NumGoroutine") = false := by kernel_rfl
theorem cloneI_own {h : Heap} (l : List HItem) (hl : l.length ≤ 1073741824) : DCalls Try.prog 49 [sl eItem l] h (AccK h 25 3 (l.map eItem)) := by
  refine dcalls_of_vc Try.func49 hn49 hc49 (by rw [Try.ntmps49]; simp) ?_
  simp -dsimp -implicitDefEqProofs (disch := omega) only [VC1, VC2, VC3, VC4, VC5, VC6, VC7, VC8, VC9, VC10, VC11, VC12, VC13, VC14, VC15, VC16, VC17, VC18, VC19, VC20, ↓upd_none, Nat.reduceEqDiff, Nat.reduceBEq, Nat.reduceAdd, Nat.reduceSub, Nat.reduceMul, Nat.reduceLT, Nat.reduceLeDiff, ↓reduceIte, reduceCtorEq, rsOf, rootsOf, SOp.rd, SI.rd, SX.rd, rdL, rdO, rdP, okParts, eqCells, okEqCells, fillA, okFill, setAt, implies_true, forall_const, forall_eq, ne_eq, exists_eq_right_right, exists_eq_right, exists_eq_left, exists_eq_left', eItem, eAttr, c49]
  intro b hb
  refine Br.intro (fun ht => ?_) (fun hf => ?_)
  · simp -dsimp -implicitDefEqProofs (disch := omega) only [VC1, VC2, VC3, VC4, VC5, VC6, VC7, VC8, VC9, VC10, VC11, VC12, VC13, VC14, VC15, VC16, VC17, VC18, VC19, VC20, ↓upd_none, Nat.reduceEqDiff, Nat.reduceBEq, Nat.reduceAdd, Nat.reduceSub, Nat.reduceMul, Nat.reduceLT, Nat.reduceLeDiff, ↓reduceIte, reduceCtorEq, rsOf, rootsOf, SOp.rd, SI.rd, SX.rd, rdL, rdO, rdP, okParts, eqCells, okEqCells, fillA, okFill, setAt, implies_true, forall_const, forall_eq, ne_eq, exists_eq_right_right, exists_eq_right, exists_eq_left, exists_eq_left', eItem, eAttr]
    have : l = [] := hb (by simpa using ht)
    subst this
    exact ⟨_, Sub.refl _, Acc.nil, Sub.refl _⟩
  · simp -dsimp -implicitDefEqProofs (disch := omega) only [VC1, VC2, VC3, VC4, VC5, VC6, VC7, VC8, VC9, VC10, VC11, VC12, VC13, VC14, VC15, VC16, VC17, VC18, VC19, VC20, ↓upd_none, Nat.reduceEqDiff, Nat.reduceBEq, Nat.reduceAdd, Nat.reduceSub, Nat.reduceMul, Nat.reduceLT, Nat.reduceLeDiff, ↓reduceIte, reduceCtorEq, rsOf, rootsOf, SOp.rd, SI.rd, SX.rd, rdL, rdO, rdP, okParts, eqCells, okEqCells, fillA, okFill, setAt, implies_true, forall_const, forall_eq, ne_eq, exists_eq_right_right, exists_eq_right, exists_eq_left, exists_eq_left', eItem, eAttr]
    refine ⟨by omega, by omega, fun r hr => ?_⟩
    exact ⟨_, Sub.refl _, by simpa using Acc.root (cells := l.map eItem) hr (upd_same _ _ _), (Sub.refl _).upd hr⟩
theorem cloneI_ok (l : List HItem) (hl : l.length ≤ 1073741824) : PCalls Try.prog 49 [sl eItem l] (sl eItem l) := PCalls.acc fun h => cloneI_own l hl
def c85 : SFun := ⟨(.seq (.reg [⟨(some 2), (.mv (.c .emp)), none⟩]) (.seq (.seq (.reg [⟨(some 3), (.mv (.t 0)), none⟩, ⟨(some 4), (.isnil 0 false (.t 3)), none⟩]) (.cond (.t 4) (.seq (.reg [⟨(some 2), (.mv (.c .emp)), none⟩]) .ret) .skip)) (.seq (.reg [⟨(some 5), (.bldF 99 2 []), none⟩, ⟨(some 6), (.mv (.t 0)), none⟩, ⟨(some 7), (.app 99 2 32 (.t 5) (.t 6)), none⟩, ⟨(some 2), (.mv (.t 7)), none⟩]) .ret))), [(.tmp 2)]⟩
theorem hc85 : toSF Try.prog {} Try.f85 = some c85 := by kernel_rfl
theorem hn85 : (Try.f85.name == "runtime.NumGoroutine") = false := by kernel_rfl
theorem cloneA_own {h : Heap} (l : List HAttr) (hl : l.length ≤ 1073741824) : DCalls Try.prog 85 [sl eAttr l] h (AccK h 99 2 (l.map eAttr)) := by
  refine dcalls_of_vc Try.func85 hn85 hc85 (by rw [Try.ntmps85]; simp) ?_
  simp -dsimp -implicitDefEqProofs (disch := omega) only [VC1, VC2, VC3, VC4, VC5, VC6, VC7, VC8, VC9, VC10, VC11, VC12, VC13, VC14, VC15, VC16, VC17, VC18, VC19, VC20, ↓upd_none, Nat.reduceEqDiff, Nat.reduceBEq, Nat.reduceAdd, Nat.reduceSub, Nat.reduceMul, Nat.reduceLT, Nat.reduceLeDiff, ↓reduceIte, reduceCtorEq, rsOf, rootsOf, SOp.rd, SI.rd, SX.rd, rdL, rdO, rdP, okParts, eqCells, okEqCells, fillA, okFill, setAt, implies_true, forall_const, forall_eq, ne_eq, exists_eq_right_right, exists_eq_right, exists_eq_left, exists_eq_left', eItem, eAttr, c85]
  intro b hb
  refine Br.intro (fun ht => ?_) (fun hf => ?_)
  · simp -dsimp -implicitDefEqProofs (disch := omega) only [VC1, VC2, VC3, VC4, VC5, VC6, VC7, VC8, VC9, VC10, VC11, VC12, VC13, VC14, VC15, VC16, VC17, VC18, VC19, VC20, ↓upd_none, Nat.reduceEqDiff, Nat.reduceBEq, Nat.reduceAdd, Nat.reduceSub, Nat.reduceMul, Nat.reduceLT, Nat.reduceLeDiff, ↓reduceIte, reduceCtorEq, rsOf, rootsOf, SOp.rd, SI.rd, SX.rd, rdL, rdO, rdP, okParts, eqCells, okEqCells, fillA, okFill, setAt, implies_true, forall_const, forall_eq, ne_eq, exists_eq_right_right, exists_eq_right, exists_eq_left, exists_eq_left', eItem, eAttr]
    have : l = [] := hb (by simpa using ht)
    subst this
    exact ⟨_, Sub.refl _, Acc.nil, Sub.refl _⟩
  · simp -dsimp -implicitDefEqProofs (disch := omega) only [VC1, VC2, VC3, VC4, VC5, VC6, VC7, VC8, VC9, VC10, VC11, VC12, VC13, VC14, VC15, VC16, VC17, VC18, VC19, VC20, ↓upd_none, Nat.reduceEqDiff, Nat.reduceBEq, Nat.reduceAdd, Nat.reduceSub, Nat.reduceMul, Nat.reduceLT, Nat.reduceLeDiff, ↓reduceIte, reduceCtorEq, rsOf, rootsOf, SOp.rd, SI.rd, SX.rd, rdL, rdO, rdP, okParts, eqCells, okEqCells, fillA, okFill, setAt, implies_true, forall_const, forall_eq, ne_eq, exists_eq_right_right, exists_eq_right, exists_eq_left, exists_eq_left', eItem, eAttr]
    refine ⟨by omega, by omega, fun r hr => ?_⟩
    exact ⟨_, Sub.refl _, by simpa using Acc.root (cells := l.map eAttr) hr (upd_same _ _ _), (Sub.refl _).upd hr⟩
theorem cloneA_ok (l : List HAttr) (hl : l.length ≤ 1073741824) : PCalls Try.prog 85 [sl eAttr l] (sl eAttr l) := PCalls.acc fun h => cloneA_own l hl

/-! ## The document's list, as the program reads it -/
def c56 : SFun := ⟨(.seq (.reg [⟨(some 1), (.boxF 25 3 (.t 0)), none⟩, ⟨(some 2), (.mv (.c (.bool false))), none⟩]) (.seq (.reg [⟨(some 3), (.fldA 0 (.t 1)), none⟩, ⟨(some 4), (.ld 1 false (.t 3)), none⟩, ⟨(some 5), (.bin .eql (.t 4) (.c (.int .i64 (-1)))), none⟩, ⟨(some 2), (.mv (.t 5)), none⟩]) .ret)), [(.tmp 2)]⟩
theorem hc56 : toSF Try.prog {} Try.f56 = some c56 := by kernel_rfl
theorem hn56 : (Try.f56.name == "runtime.NumGoroutine") = false := by kernel_rfl
theorem marker_ok (x : HItem) : PCalls Try.prog 56 [.agg (eItem x)] (.bool (x.node == -1)) := by
  intro h
  refine dcalls_of_vc Try.func56 hn56 hc56 (by rw [Try.ntmps56]; simp) ?_
  simp -dsimp -implicitDefEqProofs (disch := omega) only [VC1, VC2, VC3, VC4, VC5, VC6, VC7, VC8, VC9, VC10, VC11, VC12, VC13, VC14, VC15, VC16, VC17, VC18, VC19, VC20, ↓upd_none, Nat.reduceEqDiff, Nat.reduceBEq, Nat.reduceAdd, Nat.reduceSub, Nat.reduceMul, Nat.reduceLT, Nat.reduceLeDiff, ↓reduceIte, reduceCtorEq, rsOf, rootsOf, SOp.rd, SI.rd, SX.rd, rdL, rdO, rdP, okParts, eqCells, okEqCells, fillA, okFill, setAt, implies_true, forall_const, forall_eq, ne_eq, exists_eq_right_right, exists_eq_right, exists_eq_left, exists_eq_left', eItem, eAttr, c56, eItem]
  exact Sub.refl _

def badM (x : HItem) : Bool := decide (x.node < -1) || (x.node == -1 && (x.name != [] || decide (0 < x.attrs.length)))
def c55 : SFun := ⟨(.seq (.reg [⟨(some 1), (.boxF 25 3 (.t 0)), none⟩, ⟨(some 2), (.mv (.c (.bool false))), none⟩]) (.seq (.reg [⟨(some 3), (.fldA 0 (.t 1)), none⟩, ⟨(some 4), (.ld 1 false (.t 3)), none⟩, ⟨(some 5), (.bin .lss (.t 4) (.c (.int .i64 (-1)))), none⟩, ⟨(some 6), (.mv (.t 5)), none⟩, ⟨(some 7), (.ld 3 true (.t 1)), (some (6, false))⟩, ⟨(some 8), (.pcall 56 [(.t 7)]), (some (6, false))⟩, ⟨(some 9), (.mv (.t 8)), (some (6, false))⟩, ⟨(some 10), (.fldA 1 (.t 1)), (some (9, true))⟩, ⟨(some 11), (.ld 1 false (.t 10)), (some (9, true))⟩, ⟨(some 12), (.bin .neq (.t 11) (.c (.str []))), (some (9, true))⟩, ⟨(some 13), (.mv (.t 12)), (some (9, true))⟩, ⟨(some 14), (.fldA 2 (.t 1)), (some (13, false))⟩, ⟨(some 15), (.ld 1 false (.t 14)), (some (13, false))⟩, ⟨(some 16), (.len (.t 15)), (some (13, false))⟩, ⟨(some 17), (.bin .gtr (.t 16) (.c (.int .i64 (0)))), (some (13, false))⟩, ⟨(some 18), (.pick (.t 13) (.c (.bool true)) (.t 17)), (some (9, true))⟩, ⟨(some 19), (.pick (.t 9) (.t 18) (.c (.bool false))), (some (6, false))⟩, ⟨(some 20), (.pick (.t 6) (.c (.bool true)) (.t 19)), none⟩, ⟨(some 2), (.mv (.t 20)), none⟩]) .ret)), [(.tmp 2)]⟩
theorem hc55 : toSF Try.prog {pure := [56]} Try.f55 = some c55 := by kernel_rfl
theorem hn55 : (Try.f55.name == "runtime.NumGoroutine") = false := by kernel_rfl
theorem bad_ok (x : HItem) : PCalls Try.prog 55 [.agg (eItem x)] (.bool (badM x)) := by
  intro h
  refine dcalls_of_vc Try.func55 hn55 hc55 (by rw [Try.ntmps55]; simp) ?_
  simp -dsimp -implicitDefEqProofs (disch := omega) only [↓vcOps_sp 6, ↓vcD_sp 6, ↓vcOps_sp 9, ↓vcD_sp 9, ↓vcOps_sp 13, ↓vcD_sp 13, VC1, VC2, VC3, VC4, VC5, VC6, VC7, VC8, VC9, VC10, VC11, VC12, VC13, VC14, VC15, VC16, VC17, VC18, VC19, VC20, ↓upd_none, Nat.reduceEqDiff, Nat.reduceBEq, Nat.reduceAdd, Nat.reduceSub, Nat.reduceMul, Nat.reduceLT, Nat.reduceLeDiff, ↓reduceIte, reduceCtorEq, rsOf, rootsOf, SOp.rd, SI.rd, SX.rd, rdL, rdO, rdP, okParts, eqCells, okEqCells, fillA, okFill, setAt, implies_true, forall_const, forall_eq, ne_eq, exists_eq_right_right, exists_eq_right, exists_eq_left, exists_eq_left', eItem, eAttr, c55, eItem]
  refine Br.dec (fun h1 => ?_) (fun h1 => ?_)
  · simp -dsimp -implicitDefEqProofs (disch := omega) only [↓vcOps_sp 6, ↓vcD_sp 6, ↓vcOps_sp 9, ↓vcD_sp 9, ↓vcOps_sp 13, ↓vcD_sp 13, VC1, VC2, VC3, VC4, VC5, VC6, VC7, VC8, VC9, VC10, VC11, VC12, VC13, VC14, VC15, VC16, VC17, VC18, VC19, VC20, ↓upd_none, Nat.reduceEqDiff, Nat.reduceBEq, Nat.reduceAdd, Nat.reduceSub, Nat.reduceMul, Nat.reduceLT, Nat.reduceLeDiff, ↓reduceIte, reduceCtorEq, rsOf, rootsOf, SOp.rd, SI.rd, SX.rd, rdL, rdO, rdP, okParts, eqCells, okEqCells, fillA, okFill, setAt, implies_true, forall_const, forall_eq, ne_eq, exists_eq_right_right, exists_eq_right, exists_eq_left, exists_eq_left', eItem, eAttr]
    exact ⟨Sub.refl _, by simp [badM, h1]⟩
  · simp -dsimp -implicitDefEqProofs (disch := omega) only [↓vcOps_sp 6, ↓vcD_sp 6, ↓vcOps_sp 9, ↓vcD_sp 9, ↓vcOps_sp 13, ↓vcD_sp 13, VC1, VC2, VC3, VC4, VC5, VC6, VC7, VC8, VC9, VC10, VC11, VC12, VC13, VC14, VC15, VC16, VC17, VC18, VC19, VC20, ↓upd_none, Nat.reduceEqDiff, Nat.reduceBEq, Nat.reduceAdd, Nat.reduceSub, Nat.reduceMul, Nat.reduceLT, Nat.reduceLeDiff, ↓reduceIte, reduceCtorEq, rsOf, rootsOf, SOp.rd, SI.rd, SX.rd, rdL, rdO, rdP, okParts, eqCells, okEqCells, fillA, okFill, setAt, implies_true, forall_const, forall_eq, ne_eq, exists_eq_right_right, exists_eq_right, exists_eq_left, exists_eq_left', eItem, eAttr]
    refine pcallE.of (marker_ok x) ?_; simp -dsimp -implicitDefEqProofs (disch := omega) only [↓vcOps_sp 6, ↓vcD_sp 6, ↓vcOps_sp 9, ↓vcD_sp 9, ↓vcOps_sp 13, ↓vcD_sp 13, VC1, VC2, VC3, VC4, VC5, VC6, VC7, VC8, VC9, VC10, VC11, VC12, VC13, VC14, VC15, VC16, VC17, VC18, VC19, VC20, ↓upd_none, Nat.reduceEqDiff, Nat.reduceBEq, Nat.reduceAdd, Nat.reduceSub, Nat.reduceMul, Nat.reduceLT, Nat.reduceLeDiff, ↓reduceIte, reduceCtorEq, rsOf, rootsOf, SOp.rd, SI.rd, SX.rd, rdL, rdO, rdP, okParts, eqCells, okEqCells, fillA, okFill, setAt, implies_true, forall_const, forall_eq, ne_eq, exists_eq_right_right, exists_eq_right, exists_eq_left, exists_eq_left', eItem, eAttr]
    refine Br.eq (fun h2 => ?_) (fun h2 => ?_)
    · simp -dsimp -implicitDefEqProofs (disch := omega) only [↓vcOps_sp 6, ↓vcD_sp 6, ↓vcOps_sp 9, ↓vcD_sp 9, ↓vcOps_sp 13, ↓vcD_sp 13, VC1, VC2, VC3, VC4, VC5, VC6, VC7, VC8, VC9, VC10, VC11, VC12, VC13, VC14, VC15, VC16, VC17, VC18, VC19, VC20, ↓upd_none, Nat.reduceEqDiff, Nat.reduceBEq, Nat.reduceAdd, Nat.reduceSub, Nat.reduceMul, Nat.reduceLT, Nat.reduceLeDiff, ↓reduceIte, reduceCtorEq, rsOf, rootsOf, SOp.rd, SI.rd, SX.rd, rdL, rdO, rdP, okParts, eqCells, okEqCells, fillA, okFill, setAt, implies_true, forall_const, forall_eq, ne_eq, exists_eq_right_right, exists_eq_right, exists_eq_left, exists_eq_left', eItem, eAttr]
      refine Br.ne (fun h3 => ?_) (fun h3 => ?_)
      · simp -dsimp -implicitDefEqProofs (disch := omega) only [↓vcOps_sp 6, ↓vcD_sp 6, ↓vcOps_sp 9, ↓vcD_sp 9, ↓vcOps_sp 13, ↓vcD_sp 13, VC1, VC2, VC3, VC4, VC5, VC6, VC7, VC8, VC9, VC10, VC11, VC12, VC13, VC14, VC15, VC16, VC17, VC18, VC19, VC20, ↓upd_none, Nat.reduceEqDiff, Nat.reduceBEq, Nat.reduceAdd, Nat.reduceSub, Nat.reduceMul, Nat.reduceLT, Nat.reduceLeDiff, ↓reduceIte, reduceCtorEq, rsOf, rootsOf, SOp.rd, SI.rd, SX.rd, rdL, rdO, rdP, okParts, eqCells, okEqCells, fillA, okFill, setAt, implies_true, forall_const, forall_eq, ne_eq, exists_eq_right_right, exists_eq_right, exists_eq_left, exists_eq_left', eItem, eAttr]
        exact ⟨Sub.refl _, by simp [badM, h1, h2, h3]⟩
      · simp -dsimp -implicitDefEqProofs (disch := omega) only [↓vcOps_sp 6, ↓vcD_sp 6, ↓vcOps_sp 9, ↓vcD_sp 9, ↓vcOps_sp 13, ↓vcD_sp 13, VC1, VC2, VC3, VC4, VC5, VC6, VC7, VC8, VC9, VC10, VC11, VC12, VC13, VC14, VC15, VC16, VC17, VC18, VC19, VC20, ↓upd_none, Nat.reduceEqDiff, Nat.reduceBEq, Nat.reduceAdd, Nat.reduceSub, Nat.reduceMul, Nat.reduceLT, Nat.reduceLeDiff, ↓reduceIte, reduceCtorEq, rsOf, rootsOf, SOp.rd, SI.rd, SX.rd, rdL, rdO, rdP, okParts, eqCells, okEqCells, fillA, okFill, setAt, implies_true, forall_const, forall_eq, ne_eq, exists_eq_right_right, exists_eq_right, exists_eq_left, exists_eq_left', eItem, eAttr]
        exact ⟨Sub.refl _, by simp [badM, h1, h2, h3]⟩
    · simp -dsimp -implicitDefEqProofs (disch := omega) only [↓vcOps_sp 6, ↓vcD_sp 6, ↓vcOps_sp 9, ↓vcD_sp 9, ↓vcOps_sp 13, ↓vcD_sp 13, VC1, VC2, VC3, VC4, VC5, VC6, VC7, VC8, VC9, VC10, VC11, VC12, VC13, VC14, VC15, VC16, VC17, VC18, VC19, VC20, ↓upd_none, Nat.reduceEqDiff, Nat.reduceBEq, Nat.reduceAdd, Nat.reduceSub, Nat.reduceMul, Nat.reduceLT, Nat.reduceLeDiff, ↓reduceIte, reduceCtorEq, rsOf, rootsOf, SOp.rd, SI.rd, SX.rd, rdL, rdO, rdP, okParts, eqCells, okEqCells, fillA, okFill, setAt, implies_true, forall_const, forall_eq, ne_eq, exists_eq_right_right, exists_eq_right, exists_eq_left, exists_eq_left', eItem, eAttr]
      exact ⟨Sub.refl _, by simp [badM, h1, h2]⟩

def checkM (l : List HItem) : Int := if 60 < l.length then 2 else if l.any badM then 3 else 0
def c16 : SFun := ⟨(.seq (.reg [⟨(some 2), (.mv (.c (.int .i64 (0)))), none⟩]) (.seq (.seq (.reg [⟨(some 3), (.mv (.t 0)), none⟩, ⟨(some 4), (.len (.t 3)), none⟩, ⟨(some 5), (.bin .gtr (.t 4) (.c (.int .i64 (60)))), none⟩]) (.cond (.t 5) (.seq (.reg [⟨(some 2), (.mv (.c (.int .i64 (2)))), none⟩]) .ret) .skip)) (.seq (.seq (.reg [⟨(some 6), (.mv (.t 0)), none⟩, ⟨(some 7), (.call (.c (.fn 54 [] [])) [(.t 6), (.c (.fn 55 [] []))]), none⟩]) (.cond (.t 7) (.seq (.reg [⟨(some 2), (.mv (.c (.int .i64 (3)))), none⟩]) .ret) .skip)) (.seq (.reg [⟨(some 2), (.mv (.c (.int .i64 (0)))), none⟩]) .ret)))), [(.tmp 2)]⟩
theorem hc16 : toSF Try.prog {} Try.f16 = some c16 := by kernel_rfl
theorem hn16 : (Try.f16.name == "runtime.NumGoroutine") = false := by kernel_rfl
theorem check_ok (l : List HItem) (hl : l.length ≤ 1073741824) : PCalls Try.prog 16 [sl eItem l] (aInt (checkM l)) := by
  intro h
  refine dcalls_of_vc Try.func16 hn16 hc16 (by rw [Try.ntmps16]; simp) ?_
  simp -dsimp -implicitDefEqProofs (disch := omega) only [VC1, VC2, VC3, VC4, VC5, VC6, VC7, VC8, VC9, VC10, VC11, VC12, VC13, VC14, VC15, VC16, VC17, VC18, VC19, VC20, ↓upd_none, Nat.reduceEqDiff, Nat.reduceBEq, Nat.reduceAdd, Nat.reduceSub, Nat.reduceMul, Nat.reduceLT, Nat.reduceLeDiff, ↓reduceIte, reduceCtorEq, rsOf, rootsOf, SOp.rd, SI.rd, SX.rd, rdL, rdO, rdP, okParts, eqCells, okEqCells, fillA, okFill, setAt, implies_true, forall_const, forall_eq, ne_eq, exists_eq_right_right, exists_eq_right, exists_eq_left, exists_eq_left', eItem, eAttr, c16]
  refine Br.dec (fun h1 => ?_) (fun h1 => ?_)
  · simp -dsimp -implicitDefEqProofs (disch := omega) only [VC1, VC2, VC3, VC4, VC5, VC6, VC7, VC8, VC9, VC10, VC11, VC12, VC13, VC14, VC15, VC16, VC17, VC18, VC19, VC20, ↓upd_none, Nat.reduceEqDiff, Nat.reduceBEq, Nat.reduceAdd, Nat.reduceSub, Nat.reduceMul, Nat.reduceLT, Nat.reduceLeDiff, ↓reduceIte, reduceCtorEq, rsOf, rootsOf, SOp.rd, SI.rd, SX.rd, rdL, rdO, rdP, okParts, eqCells, okEqCells, fillA, okFill, setAt, implies_true, forall_const, forall_eq, ne_eq, exists_eq_right_right, exists_eq_right, exists_eq_left, exists_eq_left', eItem, eAttr]
    exact ⟨Sub.refl _, by simp [checkM]; omega⟩
  · simp -dsimp -implicitDefEqProofs (disch := omega) only [VC1, VC2, VC3, VC4, VC5, VC6, VC7, VC8, VC9, VC10, VC11, VC12, VC13, VC14, VC15, VC16, VC17, VC18, VC19, VC20, ↓upd_none, Nat.reduceEqDiff, Nat.reduceBEq, Nat.reduceAdd, Nat.reduceSub, Nat.reduceMul, Nat.reduceLT, Nat.reduceLeDiff, ↓reduceIte, reduceCtorEq, rsOf, rootsOf, SOp.rd, SI.rd, SX.rd, rdL, rdO, rdP, okParts, eqCells, okEqCells, fillA, okFill, setAt, implies_true, forall_const, forall_eq, ne_eq, exists_eq_right_right, exists_eq_right, exists_eq_left, exists_eq_left', eItem, eAttr]
    refine DCalls.of (containsF_ok l 55 [] [] badM hl fun x => bad_ok x h) ?_
    rintro r h' ⟨rfl, rfl⟩
    simp -dsimp -implicitDefEqProofs (disch := omega) only [VC1, VC2, VC3, VC4, VC5, VC6, VC7, VC8, VC9, VC10, VC11, VC12, VC13, VC14, VC15, VC16, VC17, VC18, VC19, VC20, ↓upd_none, Nat.reduceEqDiff, Nat.reduceBEq, Nat.reduceAdd, Nat.reduceSub, Nat.reduceMul, Nat.reduceLT, Nat.reduceLeDiff, ↓reduceIte, reduceCtorEq, rsOf, rootsOf, SOp.rd, SI.rd, SX.rd, rdL, rdO, rdP, okParts, eqCells, okEqCells, fillA, okFill, setAt, implies_true, forall_const, forall_eq, ne_eq, exists_eq_right_right, exists_eq_right, exists_eq_left, exists_eq_left', eItem, eAttr]
    refine Br.intro (fun h2 => ?_) (fun h2 => ?_)
    · simp -dsimp -implicitDefEqProofs (disch := omega) only [VC1, VC2, VC3, VC4, VC5, VC6, VC7, VC8, VC9, VC10, VC11, VC12, VC13, VC14, VC15, VC16, VC17, VC18, VC19, VC20, ↓upd_none, Nat.reduceEqDiff, Nat.reduceBEq, Nat.reduceAdd, Nat.reduceSub, Nat.reduceMul, Nat.reduceLT, Nat.reduceLeDiff, ↓reduceIte, reduceCtorEq, rsOf, rootsOf, SOp.rd, SI.rd, SX.rd, rdL, rdO, rdP, okParts, eqCells, okEqCells, fillA, okFill, setAt, implies_true, forall_const, forall_eq, ne_eq, exists_eq_right_right, exists_eq_right, exists_eq_left, exists_eq_left', eItem, eAttr]
      exact ⟨Sub.refl _, by rw [checkM, if_neg (by omega), h2]; rfl⟩
    · simp -dsimp -implicitDefEqProofs (disch := omega) only [VC1, VC2, VC3, VC4, VC5, VC6, VC7, VC8, VC9, VC10, VC11, VC12, VC13, VC14, VC15, VC16, VC17, VC18, VC19, VC20, ↓upd_none, Nat.reduceEqDiff, Nat.reduceBEq, Nat.reduceAdd, Nat.reduceSub, Nat.reduceMul, Nat.reduceLT, Nat.reduceLeDiff, ↓reduceIte, reduceCtorEq, rsOf, rootsOf, SOp.rd, SI.rd, SX.rd, rdL, rdO, rdP, okParts, eqCells, okEqCells, fillA, okFill, setAt, implies_true, forall_const, forall_eq, ne_eq, exists_eq_right_right, exists_eq_right, exists_eq_left, exists_eq_left', eItem, eAttr]
      exact ⟨Sub.refl _, by rw [checkM, if_neg (by omega), h2]; rfl⟩

/-- where the last ones begin -/
def lastM : List HItem → Nat
  | [] => 0
  | x :: r => match lastM r with
    | 0 => if x.node = -1 then 1 else 0
    | n + 1 => n + 2
def IsLast (l : List HItem) (k : Nat) : Prop := k ≤ l.length ∧ (k = 0 ∨ (nth l (k - 1)).node = -1) ∧ ∀ j, k ≤ j → j < l.length → (nth l j).node ≠ -1
theorem lastM_is (l : List HItem) : IsLast l (lastM l) := by
  induction l with
  | nil => exact ⟨by simp [lastM], .inl rfl, fun j _ h => by simp at h⟩
  | cons x r ih =>
    obtain ⟨h1, h2, h3⟩ := ih
    cases hm : lastM r with
    | zero =>
      rw [hm] at h3
      by_cases hx : x.node = -1
      · simp only [lastM, hm, hx, if_true]
        refine ⟨by simp, .inr (by simpa [nth] using hx), fun j hj hl => ?_⟩
        obtain ⟨j, rfl⟩ : ∃ i, j = i + 1 := ⟨j - 1, by omega⟩
        exact h3 j (by omega) (by simpa using hl)
      · simp only [lastM, hm, hx, if_false]
        refine ⟨by simp, .inl rfl, fun j hj hl => ?_⟩
        cases j with
        | zero => simpa [nth] using hx
        | succ j => exact h3 j (by omega) (by simpa using hl)
    | succ n =>
      rw [hm] at h1 h2 h3
      simp only [lastM, hm]
      refine ⟨by simp; omega, .inr ?_, fun j hj hl => ?_⟩
      · rcases h2 with h2 | h2
        · omega
        · simpa [nth] using h2
      · obtain ⟨j, rfl⟩ : ∃ i, j = i + 1 := ⟨j - 1, by omega⟩
        exact h3 j (by omega) (by simpa using hl)
theorem IsLast.eq {l : List HItem} {k : Nat} (h : IsLast l k) : lastM l = k := by
  obtain ⟨a1, a2, a3⟩ := lastM_is l
  obtain ⟨b1, b2, b3⟩ := h
  rcases Nat.lt_trichotomy (lastM l) k with h | h | h
  · rcases b2 with b2 | b2
    · omega
    · exact absurd b2 (a3 _ (by omega) (by omega))
  · exact h
  · rcases a2 with a2 | a2
    · omega
    · exact absurd a2 (b3 _ (by omega) (by omega))
def c86 : SFun := ⟨(.seq (.reg [⟨(some 2), (.mv (.c (.int .i64 (0)))), none⟩]) (.seq (.seq (.reg [⟨(some 4), (.mv (.t 0)), none⟩, ⟨(some 5), (.len (.t 4)), none⟩, ⟨(some 3), (.mv (.t 5)), none⟩]) (.block 0 (.loop (.seq (.seq (.reg [⟨(some 6), (.mv (.t 3)), none⟩, ⟨(some 7), (.bin .gtr (.t 6) (.c (.int .i64 (0)))), none⟩]) (.cond (.t 7) .skip (.exit 0))) (.seq (.block 1 (.seq (.reg [⟨(some 10), (.mv (.t 0)), none⟩, ⟨(some 11), (.mv (.t 3)), none⟩, ⟨(some 12), (.bin .sub (.t 11) (.c (.int .i64 (1)))), none⟩, ⟨(some 13), (.idxA 3 (.t 10) (.t 12)), none⟩, ⟨(some 14), (.ld 3 true (.t 13)), none⟩, ⟨(some 15), (.pcall 56 [(.t 14)]), none⟩]) (.cond (.t 15) (.seq (.reg [⟨(some 16), (.mv (.t 3)), none⟩, ⟨(some 2), (.mv (.t 16)), none⟩]) .ret) .skip))) (.reg [⟨(some 8), (.mv (.t 3)), none⟩, ⟨(some 9), (.bin .sub (.t 8) (.c (.int .i64 (1)))), none⟩, ⟨(some 3), (.mv (.t 9)), none⟩])))))) (.seq (.reg [⟨(some 2), (.mv (.c (.int .i64 (0)))), none⟩]) .ret))), [(.tmp 2)]⟩
theorem hc86 : toSF Try.prog {pure := [56]} Try.f86 = some c86 := by kernel_rfl
theorem hn86 : (Try.f86.name == "runtime.NumGoroutine") = false := by kernel_rfl
theorem last_ok (l : List HItem) (hl : l.length ≤ 1073741824) : PCalls Try.prog 86 [sl eItem l] (aInt (lastM l)) := by
  intro h
  refine dcalls_of_vc Try.func86 hn86 hc86 (by rw [Try.ntmps86]; simp) ?_
  simp -dsimp -implicitDefEqProofs (disch := omega) only [VC1, VC2, VC3, VC4, VC5, VC6, VC7, VC8, VC9, VC10, VC11, VC12, VC13, VC14, VC15, VC16, VC17, VC18, VC19, VC20, ↓upd_none, Nat.reduceEqDiff, Nat.reduceBEq, Nat.reduceAdd, Nat.reduceSub, Nat.reduceMul, Nat.reduceLT, Nat.reduceLeDiff, ↓reduceIte, reduceCtorEq, rsOf, rootsOf, SOp.rd, SI.rd, SX.rd, rdL, rdO, rdP, okParts, eqCells, okEqCells, fillA, okFill, setAt, implies_true, forall_const, forall_eq, ne_eq, exists_eq_right_right, exists_eq_right, exists_eq_left, exists_eq_left', eItem, eAttr, c86]
  refine LoopVC.intro (fun m e h' => ∃ k : Nat, k ≤ l.length ∧ m = k ∧ e 0 = sl eItem l ∧ e 3 = aInt k ∧ h' = h ∧ ∀ j, k ≤ j → j < l.length → (nth l j).node ≠ -1) l.length ⟨l.length, by omega, rfl, rfl, rfl, rfl, by omega⟩ ?_
  rintro m e h' ⟨k, hk, rfl, he0, he3, rfl, hj⟩
  simp -dsimp -implicitDefEqProofs (disch := omega) only [VC1, VC2, VC3, VC4, VC5, VC6, VC7, VC8, VC9, VC10, VC11, VC12, VC13, VC14, VC15, VC16, VC17, VC18, VC19, VC20, ↓upd_none, Nat.reduceEqDiff, Nat.reduceBEq, Nat.reduceAdd, Nat.reduceSub, Nat.reduceMul, Nat.reduceLT, Nat.reduceLeDiff, ↓reduceIte, reduceCtorEq, rsOf, rootsOf, SOp.rd, SI.rd, SX.rd, rdL, rdO, rdP, okParts, eqCells, okEqCells, fillA, okFill, setAt, implies_true, forall_const, forall_eq, ne_eq, exists_eq_right_right, exists_eq_right, exists_eq_left, exists_eq_left', eItem, eAttr, he0, he3]
  refine Br.dec (fun hlt => ?_) (fun hge => ?_)
  · obtain ⟨m, rfl⟩ : ∃ j, m = j + 1 := ⟨m - 1, by omega⟩
    simp -dsimp -implicitDefEqProofs (disch := omega) only [VC1, VC2, VC3, VC4, VC5, VC6, VC7, VC8, VC9, VC10, VC11, VC12, VC13, VC14, VC15, VC16, VC17, VC18, VC19, VC20, ↓upd_none, Nat.reduceEqDiff, Nat.reduceBEq, Nat.reduceAdd, Nat.reduceSub, Nat.reduceMul, Nat.reduceLT, Nat.reduceLeDiff, ↓reduceIte, reduceCtorEq, rsOf, rootsOf, SOp.rd, SI.rd, SX.rd, rdL, rdO, rdP, okParts, eqCells, okEqCells, fillA, okFill, setAt, implies_true, forall_const, forall_eq, ne_eq, exists_eq_right_right, exists_eq_right, exists_eq_left, exists_eq_left', eItem, eAttr, he0, he3, eItem]
    refine ⟨by omega, ?_⟩
    refine pcallE.of (marker_ok (nth l m)) ?_; simp -dsimp -implicitDefEqProofs (disch := omega) only [VC1, VC2, VC3, VC4, VC5, VC6, VC7, VC8, VC9, VC10, VC11, VC12, VC13, VC14, VC15, VC16, VC17, VC18, VC19, VC20, ↓upd_none, Nat.reduceEqDiff, Nat.reduceBEq, Nat.reduceAdd, Nat.reduceSub, Nat.reduceMul, Nat.reduceLT, Nat.reduceLeDiff, ↓reduceIte, reduceCtorEq, rsOf, rootsOf, SOp.rd, SI.rd, SX.rd, rdL, rdO, rdP, okParts, eqCells, okEqCells, fillA, okFill, setAt, implies_true, forall_const, forall_eq, ne_eq, exists_eq_right_right, exists_eq_right, exists_eq_left, exists_eq_left', eItem, eAttr]
    refine Br.eq (fun ht => ?_) (fun hf => ?_)
    · simp -dsimp -implicitDefEqProofs (disch := omega) only [VC1, VC2, VC3, VC4, VC5, VC6, VC7, VC8, VC9, VC10, VC11, VC12, VC13, VC14, VC15, VC16, VC17, VC18, VC19, VC20, ↓upd_none, Nat.reduceEqDiff, Nat.reduceBEq, Nat.reduceAdd, Nat.reduceSub, Nat.reduceMul, Nat.reduceLT, Nat.reduceLeDiff, ↓reduceIte, reduceCtorEq, rsOf, rootsOf, SOp.rd, SI.rd, SX.rd, rdL, rdO, rdP, okParts, eqCells, okEqCells, fillA, okFill, setAt, implies_true, forall_const, forall_eq, ne_eq, exists_eq_right_right, exists_eq_right, exists_eq_left, exists_eq_left', eItem, eAttr, he3]
      exact ⟨Sub.refl _, by rw [IsLast.eq (k := m + 1) ⟨by omega, .inr ht, hj⟩]⟩
    · simp -dsimp -implicitDefEqProofs (disch := omega) only [VC1, VC2, VC3, VC4, VC5, VC6, VC7, VC8, VC9, VC10, VC11, VC12, VC13, VC14, VC15, VC16, VC17, VC18, VC19, VC20, ↓upd_none, Nat.reduceEqDiff, Nat.reduceBEq, Nat.reduceAdd, Nat.reduceSub, Nat.reduceMul, Nat.reduceLT, Nat.reduceLeDiff, ↓reduceIte, reduceCtorEq, rsOf, rootsOf, SOp.rd, SI.rd, SX.rd, rdL, rdO, rdP, okParts, eqCells, okEqCells, fillA, okFill, setAt, implies_true, forall_const, forall_eq, ne_eq, exists_eq_right_right, exists_eq_right, exists_eq_left, exists_eq_left', eItem, eAttr, he0, he3]
      refine ⟨_, ?_, m, by omega, rfl, by omega, fun j h1 h2 => ?_⟩
      · omega
      · by_cases h3 : j = m
        · subst h3; exact hf
        · exact hj j (by omega) h2
  · simp -dsimp -implicitDefEqProofs (disch := omega) only [VC1, VC2, VC3, VC4, VC5, VC6, VC7, VC8, VC9, VC10, VC11, VC12, VC13, VC14, VC15, VC16, VC17, VC18, VC19, VC20, ↓upd_none, Nat.reduceEqDiff, Nat.reduceBEq, Nat.reduceAdd, Nat.reduceSub, Nat.reduceMul, Nat.reduceLT, Nat.reduceLeDiff, ↓reduceIte, reduceCtorEq, rsOf, rootsOf, SOp.rd, SI.rd, SX.rd, rdL, rdO, rdP, okParts, eqCells, okEqCells, fillA, okFill, setAt, implies_true, forall_const, forall_eq, ne_eq, exists_eq_right_right, exists_eq_right, exists_eq_left, exists_eq_left', eItem, eAttr]
    exact ⟨Sub.refl _, by rw [IsLast.eq (k := 0) ⟨by omega, .inl rfl, fun j h1 h2 => hj j (by omega) h2⟩]; rfl⟩

def c123 : SFun := ⟨(.seq (.reg [⟨(some 3), (.boxF 99 2 (.t 1)), none⟩, ⟨(some 4), (.mv (.c (.int .i64 (0)))), none⟩]) (.seq (.seq (.reg [⟨(some 6), (.mv (.t 0)), none⟩, ⟨(some 7), (.len (.t 6)), none⟩, ⟨(some 8), (.mv (.c (.int .i64 (0)))), none⟩]) (.block 0 (.loop (.seq (.reg [⟨(some 9), (.bin .lss (.t 8) (.t 7)), none⟩]) (.seq (.cond (.t 9) .skip (.exit 0)) (.seq (.block 1 (.seq (.reg [⟨(some 10), (.mv (.t 8)), none⟩, ⟨(some 5), (.mv (.t 10)), none⟩]) (.seq (.dreg [(⟨(some 11), (.ld 2 true (.t 3)), none⟩, false), (⟨(some 12), (.mv (.t 0)), none⟩, false), (⟨(some 13), (.mv (.t 5)), none⟩, false), (⟨(some 14), (.idxA 2 (.t 12) (.t 13)), none⟩, false), (⟨(some 15), (.ld 2 true (.t 14)), none⟩, false), (⟨(some 16), (.eqs false [1, 1] (.t 11) (.t 15)), none⟩, false)]) (.cond (.t 16) (.seq (.reg [⟨(some 17), (.mv (.t 5)), none⟩, ⟨(some 4), (.mv (.t 17)), none⟩]) .ret) .skip)))) (.reg [⟨(some 18), (.bin .add (.t 8) (.c (.int .i64 (1)))), none⟩, ⟨(some 8), (.mv (.t 18)), none⟩]))))))) (.seq (.reg [⟨(some 4), (.mv (.c (.int .i64 (-1)))), none⟩]) .ret))), [(.tmp 4)]⟩
theorem hc123 : toSF Try.prog {} Try.f123 = some c123 := by kernel_rfl
theorem hn123 : (Try.f123.name == "runtime.NumGoroutine") = false := by kernel_rfl
theorem containsAI_ok (l : List HAttr) (x : HAttr) (hl : l.length ≤ 1073741824) : PCalls Try.prog 123 [sl eAttr l, .agg (eAttr x)] (aInt (idxM (· == x) l)) := by
  intro h
  refine dcalls_of_vc Try.func123 hn123 hc123 (by rw [Try.ntmps123]; simp) ?_
  simp -dsimp -implicitDefEqProofs (disch := omega) only [VC1, VC2, VC3, VC4, VC5, VC6, VC7, VC8, VC9, VC10, VC11, VC12, VC13, VC14, VC15, VC16, VC17, VC18, VC19, VC20, ↓upd_none, Nat.reduceEqDiff, Nat.reduceBEq, Nat.reduceAdd, Nat.reduceSub, Nat.reduceMul, Nat.reduceLT, Nat.reduceLeDiff, ↓reduceIte, reduceCtorEq, rsOf, rootsOf, SOp.rd, SI.rd, SX.rd, rdL, rdO, rdP, okParts, eqCells, okEqCells, fillA, okFill, setAt, implies_true, forall_const, forall_eq, ne_eq, exists_eq_right_right, exists_eq_right, exists_eq_left, exists_eq_left', eItem, eAttr, c123]
  refine LoopVC.intro (fun m e h' => ∃ k : Nat, k ≤ l.length ∧ m = l.length - k ∧ e 0 = sl eAttr l ∧ e 3 = .pin (eAttr x) ∧ e 7 = aInt l.length ∧ e 8 = aInt k ∧ h' = h ∧ ∀ j, j < k → (nth l j == x) = false) l.length ⟨0, by omega, by omega, rfl, rfl, rfl, rfl, rfl, fun j hj => absurd hj (Nat.not_lt_zero j)⟩ ?_
  rintro m e h' ⟨k, hk, rfl, he0, he3, he7, he8, rfl, hj⟩
  simp -dsimp -implicitDefEqProofs (disch := omega) only [VC1, VC2, VC3, VC4, VC5, VC6, VC7, VC8, VC9, VC10, VC11, VC12, VC13, VC14, VC15, VC16, VC17, VC18, VC19, VC20, ↓upd_none, Nat.reduceEqDiff, Nat.reduceBEq, Nat.reduceAdd, Nat.reduceSub, Nat.reduceMul, Nat.reduceLT, Nat.reduceLeDiff, ↓reduceIte, reduceCtorEq, rsOf, rootsOf, SOp.rd, SI.rd, SX.rd, rdL, rdO, rdP, okParts, eqCells, okEqCells, fillA, okFill, setAt, implies_true, forall_const, forall_eq, ne_eq, exists_eq_right_right, exists_eq_right, exists_eq_left, exists_eq_left', eItem, eAttr, he0, he3, he7, he8]
  refine Br.dec (fun hlt => ?_) (fun hge => ?_)
  · simp -dsimp -implicitDefEqProofs (disch := omega) only [VC1, VC2, VC3, VC4, VC5, VC6, VC7, VC8, VC9, VC10, VC11, VC12, VC13, VC14, VC15, VC16, VC17, VC18, VC19, VC20, ↓upd_none, Nat.reduceEqDiff, Nat.reduceBEq, Nat.reduceAdd, Nat.reduceSub, Nat.reduceMul, Nat.reduceLT, Nat.reduceLeDiff, ↓reduceIte, reduceCtorEq, rsOf, rootsOf, SOp.rd, SI.rd, SX.rd, rdL, rdO, rdP, okParts, eqCells, okEqCells, fillA, okFill, setAt, implies_true, forall_const, forall_eq, ne_eq, exists_eq_right_right, exists_eq_right, exists_eq_left, exists_eq_left', eItem, eAttr, he0, he3, he7, he8, eAttr]
    refine ⟨by omega, ?_⟩
    refine Br.intro (fun ht => ?_) (fun hf => ?_)
    · simp -dsimp -implicitDefEqProofs (disch := omega) only [VC1, VC2, VC3, VC4, VC5, VC6, VC7, VC8, VC9, VC10, VC11, VC12, VC13, VC14, VC15, VC16, VC17, VC18, VC19, VC20, ↓upd_none, Nat.reduceEqDiff, Nat.reduceBEq, Nat.reduceAdd, Nat.reduceSub, Nat.reduceMul, Nat.reduceLT, Nat.reduceLeDiff, ↓reduceIte, reduceCtorEq, rsOf, rootsOf, SOp.rd, SI.rd, SX.rd, rdL, rdO, rdP, okParts, eqCells, okEqCells, fillA, okFill, setAt, implies_true, forall_const, forall_eq, ne_eq, exists_eq_right_right, exists_eq_right, exists_eq_left, exists_eq_left', eItem, eAttr]
      rw [idxM_some (k := k) (by omega) hj (by rw [eAttr_beq]; simpa [Bool.beq_comm, BEq.comm] using ht)]; exact ⟨Sub.refl _, rfl⟩
    · simp -dsimp -implicitDefEqProofs (disch := omega) only [VC1, VC2, VC3, VC4, VC5, VC6, VC7, VC8, VC9, VC10, VC11, VC12, VC13, VC14, VC15, VC16, VC17, VC18, VC19, VC20, ↓upd_none, Nat.reduceEqDiff, Nat.reduceBEq, Nat.reduceAdd, Nat.reduceSub, Nat.reduceMul, Nat.reduceLT, Nat.reduceLeDiff, ↓reduceIte, reduceCtorEq, rsOf, rootsOf, SOp.rd, SI.rd, SX.rd, rdL, rdO, rdP, okParts, eqCells, okEqCells, fillA, okFill, setAt, implies_true, forall_const, forall_eq, ne_eq, exists_eq_right_right, exists_eq_right, exists_eq_left, exists_eq_left', eItem, eAttr, he0, he3, he7, he8]
      refine ⟨_, ?_, k + 1, by omega, rfl, by omega, fun j hj' => ?_⟩
      · omega
      · by_cases h1 : j = k
        · subst h1; rw [eAttr_beq]; simpa [Bool.beq_comm, BEq.comm] using hf
        · exact hj j (by omega)
  · simp -dsimp -implicitDefEqProofs (disch := omega) only [VC1, VC2, VC3, VC4, VC5, VC6, VC7, VC8, VC9, VC10, VC11, VC12, VC13, VC14, VC15, VC16, VC17, VC18, VC19, VC20, ↓upd_none, Nat.reduceEqDiff, Nat.reduceBEq, Nat.reduceAdd, Nat.reduceSub, Nat.reduceMul, Nat.reduceLT, Nat.reduceLeDiff, ↓reduceIte, reduceCtorEq, rsOf, rootsOf, SOp.rd, SI.rd, SX.rd, rdL, rdO, rdP, okParts, eqCells, okEqCells, fillA, okFill, setAt, implies_true, forall_const, forall_eq, ne_eq, exists_eq_right_right, exists_eq_right, exists_eq_left, exists_eq_left', eItem, eAttr]
    rw [idxM_none (fun j hj' => hj j (by omega))]; exact ⟨Sub.refl _, rfl⟩
def c120 : SFun := ⟨(.seq (.reg [⟨(some 3), (.boxF 99 2 (.t 1)), none⟩, ⟨(some 4), (.mv (.c (.bool false))), none⟩]) (.seq (.reg [⟨(some 5), (.mv (.t 0)), none⟩, ⟨(some 6), (.ld 2 true (.t 3)), none⟩, ⟨(some 7), (.pcall 123 [(.t 5), (.t 6)]), none⟩, ⟨(some 8), (.bin .geq (.t 7) (.c (.int .i64 (0)))), none⟩, ⟨(some 4), (.mv (.t 8)), none⟩]) .ret)), [(.tmp 4)]⟩
theorem hc120 : toSF Try.prog {pure := [123]} Try.f120 = some c120 := by kernel_rfl
theorem hn120 : (Try.f120.name == "runtime.NumGoroutine") = false := by kernel_rfl
theorem containsA_ok (l : List HAttr) (x : HAttr) (hl : l.length ≤ 1073741824) : PCalls Try.prog 120 [sl eAttr l, .agg (eAttr x)] (.bool (l.any (· == x))) := by
  intro h
  refine dcalls_of_vc Try.func120 hn120 hc120 (by rw [Try.ntmps120]; simp) ?_
  simp -dsimp -implicitDefEqProofs (disch := omega) only [VC1, VC2, VC3, VC4, VC5, VC6, VC7, VC8, VC9, VC10, VC11, VC12, VC13, VC14, VC15, VC16, VC17, VC18, VC19, VC20, ↓upd_none, Nat.reduceEqDiff, Nat.reduceBEq, Nat.reduceAdd, Nat.reduceSub, Nat.reduceMul, Nat.reduceLT, Nat.reduceLeDiff, ↓reduceIte, reduceCtorEq, rsOf, rootsOf, SOp.rd, SI.rd, SX.rd, rdL, rdO, rdP, okParts, eqCells, okEqCells, fillA, okFill, setAt, implies_true, forall_const, forall_eq, ne_eq, exists_eq_right_right, exists_eq_right, exists_eq_left, exists_eq_left', eItem, eAttr, c120, eAttr]
  refine pcallE.of (containsAI_ok l x hl) ?_; simp -dsimp -implicitDefEqProofs (disch := omega) only [VC1, VC2, VC3, VC4, VC5, VC6, VC7, VC8, VC9, VC10, VC11, VC12, VC13, VC14, VC15, VC16, VC17, VC18, VC19, VC20, ↓upd_none, Nat.reduceEqDiff, Nat.reduceBEq, Nat.reduceAdd, Nat.reduceSub, Nat.reduceMul, Nat.reduceLT, Nat.reduceLeDiff, ↓reduceIte, reduceCtorEq, rsOf, rootsOf, SOp.rd, SI.rd, SX.rd, rdL, rdO, rdP, okParts, eqCells, okEqCells, fillA, okFill, setAt, implies_true, forall_const, forall_eq, ne_eq, exists_eq_right_right, exists_eq_right, exists_eq_left, exists_eq_left', eItem, eAttr]
  exact ⟨Sub.refl _, idxM_any _ l⟩
def withinM (a b : List HAttr) : Bool := a.all fun x => b.any (· == x)
def c119 : SFun := ⟨(.seq (.reg [⟨(some 2), (.boxF 99 2 (.t 0)), none⟩, ⟨(some 3), (.mv (.c (.bool false))), none⟩]) (.seq (.reg [⟨(some 4), (.ld 1 false (.t 1)), none⟩, ⟨(some 5), (.ld 2 true (.t 2)), none⟩, ⟨(some 6), (.pcall 120 [(.t 4), (.t 5)]), none⟩, ⟨(some 7), (.un .not (.t 6)), none⟩, ⟨(some 3), (.mv (.t 7)), none⟩]) .ret)), [(.tmp 3)]⟩
theorem hc119 : toSF Try.prog {pure := [120]} Try.f119 = some c119 := by kernel_rfl
theorem hn119 : (Try.f119.name == "runtime.NumGoroutine") = false := by kernel_rfl
theorem within1_ok (b : List HAttr) (hb : b.length ≤ 1073741824) (x : HAttr) : PCalls Try.prog 119 [.agg (eAttr x), .pin [sl eAttr b]] (.bool (!(b.any (· == x)))) := by
  intro h
  refine dcalls_of_vc Try.func119 hn119 hc119 (by rw [Try.ntmps119]; simp) ?_
  simp -dsimp -implicitDefEqProofs (disch := omega) only [VC1, VC2, VC3, VC4, VC5, VC6, VC7, VC8, VC9, VC10, VC11, VC12, VC13, VC14, VC15, VC16, VC17, VC18, VC19, VC20, ↓upd_none, Nat.reduceEqDiff, Nat.reduceBEq, Nat.reduceAdd, Nat.reduceSub, Nat.reduceMul, Nat.reduceLT, Nat.reduceLeDiff, ↓reduceIte, reduceCtorEq, rsOf, rootsOf, SOp.rd, SI.rd, SX.rd, rdL, rdO, rdP, okParts, eqCells, okEqCells, fillA, okFill, setAt, implies_true, forall_const, forall_eq, ne_eq, exists_eq_right_right, exists_eq_right, exists_eq_left, exists_eq_left', eItem, eAttr, c119, eAttr]
  refine pcallE.of (containsA_ok b x hb) ?_; simp -dsimp -implicitDefEqProofs (disch := omega) only [VC1, VC2, VC3, VC4, VC5, VC6, VC7, VC8, VC9, VC10, VC11, VC12, VC13, VC14, VC15, VC16, VC17, VC18, VC19, VC20, ↓upd_none, Nat.reduceEqDiff, Nat.reduceBEq, Nat.reduceAdd, Nat.reduceSub, Nat.reduceMul, Nat.reduceLT, Nat.reduceLeDiff, ↓reduceIte, reduceCtorEq, rsOf, rootsOf, SOp.rd, SI.rd, SX.rd, rdL, rdO, rdP, okParts, eqCells, okEqCells, fillA, okFill, setAt, implies_true, forall_const, forall_eq, ne_eq, exists_eq_right_right, exists_eq_right, exists_eq_left, exists_eq_left', eItem, eAttr]
  exact Sub.refl _
def c110 : SFun := ⟨(.seq (.reg [⟨(some 3), (.boxF 23 1 (.t 1)), none⟩, ⟨(some 4), (.mv (.c (.bool false))), none⟩]) (.seq (.reg [⟨(some 5), (.mv (.t 0)), none⟩, ⟨(some 6), (.mkf 119 [] [(.t 3)]), none⟩, ⟨(some 7), (.call (.c (.fn 118 [] [])) [(.t 5), (.t 6)]), none⟩, ⟨(some 8), (.un .not (.t 7)), none⟩, ⟨(some 4), (.mv (.t 8)), none⟩]) .ret)), [(.tmp 4)]⟩
theorem hc110 : toSF Try.prog {} Try.f110 = some c110 := by kernel_rfl
theorem hn110 : (Try.f110.name == "runtime.NumGoroutine") = false := by kernel_rfl
theorem within_ok (a b : List HAttr) (ha : a.length ≤ 1073741824) (hb : b.length ≤ 1073741824) : PCalls Try.prog 110 [sl eAttr a, sl eAttr b] (.bool (withinM a b)) := by
  intro h
  refine dcalls_of_vc Try.func110 hn110 hc110 (by rw [Try.ntmps110]; simp) ?_
  simp -dsimp -implicitDefEqProofs (disch := omega) only [VC1, VC2, VC3, VC4, VC5, VC6, VC7, VC8, VC9, VC10, VC11, VC12, VC13, VC14, VC15, VC16, VC17, VC18, VC19, VC20, ↓upd_none, Nat.reduceEqDiff, Nat.reduceBEq, Nat.reduceAdd, Nat.reduceSub, Nat.reduceMul, Nat.reduceLT, Nat.reduceLeDiff, ↓reduceIte, reduceCtorEq, rsOf, rootsOf, SOp.rd, SI.rd, SX.rd, rdL, rdO, rdP, okParts, eqCells, okEqCells, fillA, okFill, setAt, implies_true, forall_const, forall_eq, ne_eq, exists_eq_right_right, exists_eq_right, exists_eq_left, exists_eq_left', eItem, eAttr, c110]
  refine DCalls.of (containsFA_ok a 119 [] [.pin [sl eAttr b]] (fun x => !(b.any (· == x))) ha fun x => within1_ok b hb x h) ?_
  rintro v h' ⟨rfl, rfl⟩
  simp -dsimp -implicitDefEqProofs (disch := omega) only [VC1, VC2, VC3, VC4, VC5, VC6, VC7, VC8, VC9, VC10, VC11, VC12, VC13, VC14, VC15, VC16, VC17, VC18, VC19, VC20, ↓upd_none, Nat.reduceEqDiff, Nat.reduceBEq, Nat.reduceAdd, Nat.reduceSub, Nat.reduceMul, Nat.reduceLT, Nat.reduceLeDiff, ↓reduceIte, reduceCtorEq, rsOf, rootsOf, SOp.rd, SI.rd, SX.rd, rdL, rdO, rdP, okParts, eqCells, okEqCells, fillA, okFill, setAt, implies_true, forall_const, forall_eq, ne_eq, exists_eq_right_right, exists_eq_right, exists_eq_left, exists_eq_left', eItem, eAttr]
  exact ⟨Sub.refl _, by simp [withinM, List.all_eq_not_any_not]⟩
def alikeM (a b : HItem) : Bool := a.name == b.name && (a.attrs.length == b.attrs.length && (withinM a.attrs b.attrs && withinM b.attrs a.attrs))
def c87 : SFun := ⟨(.seq (.reg [⟨(some 2), (.boxF 25 3 (.t 0)), none⟩, ⟨(some 3), (.boxF 25 3 (.t 1)), none⟩, ⟨(some 4), (.mv (.c (.bool false))), none⟩]) (.seq (.reg [⟨(some 5), (.fldA 1 (.t 2)), none⟩, ⟨(some 6), (.ld 1 false (.t 5)), none⟩, ⟨(some 7), (.fldA 1 (.t 3)), none⟩, ⟨(some 8), (.ld 1 false (.t 7)), none⟩, ⟨(some 9), (.bin .eql (.t 6) (.t 8)), none⟩, ⟨(some 10), (.mv (.t 9)), none⟩, ⟨(some 11), (.fldA 2 (.t 2)), (some (10, true))⟩, ⟨(some 12), (.ld 1 false (.t 11)), (some (10, true))⟩, ⟨(some 13), (.len (.t 12)), (some (10, true))⟩, ⟨(some 14), (.fldA 2 (.t 3)), (some (10, true))⟩, ⟨(some 15), (.ld 1 false (.t 14)), (some (10, true))⟩, ⟨(some 16), (.len (.t 15)), (some (10, true))⟩, ⟨(some 17), (.bin .eql (.t 13) (.t 16)), (some (10, true))⟩, ⟨(some 18), (.pick (.t 10) (.t 17) (.c (.bool false))), none⟩, ⟨(some 19), (.mv (.t 18)), none⟩, ⟨(some 20), (.fldA 2 (.t 2)), (some (19, true))⟩, ⟨(some 21), (.ld 1 false (.t 20)), (some (19, true))⟩, ⟨(some 22), (.fldA 2 (.t 3)), (some (19, true))⟩, ⟨(some 23), (.ld 1 false (.t 22)), (some (19, true))⟩, ⟨(some 24), (.pcall 110 [(.t 21), (.t 23)]), (some (19, true))⟩, ⟨(some 25), (.pick (.t 19) (.t 24) (.c (.bool false))), none⟩, ⟨(some 26), (.mv (.t 25)), none⟩, ⟨(some 27), (.fldA 2 (.t 3)), (some (26, true))⟩, ⟨(some 28), (.ld 1 false (.t 27)), (some (26, true))⟩, ⟨(some 29), (.fldA 2 (.t 2)), (some (26, true))⟩, ⟨(some 30), (.ld 1 false (.t 29)), (some (26, true))⟩, ⟨(some 31), (.pcall 110 [(.t 28), (.t 30)]), (some (26, true))⟩, ⟨(some 32), (.pick (.t 26) (.t 31) (.c (.bool false))), none⟩, ⟨(some 4), (.mv (.t 32)), none⟩]) .ret)), [(.tmp 4)]⟩
theorem hc87 : toSF Try.prog {pure := [110]} Try.f87 = some c87 := by kernel_rfl
theorem hn87 : (Try.f87.name == "runtime.NumGoroutine") = false := by kernel_rfl
theorem alike_ok (a b : HItem) (ha : a.attrs.length ≤ 1073741824) (hb : b.attrs.length ≤ 1073741824) : PCalls Try.prog 87 [.agg (eItem a), .agg (eItem b)] (.bool (alikeM a b)) := by
  intro h
  refine dcalls_of_vc Try.func87 hn87 hc87 (by rw [Try.ntmps87]; simp) ?_
  simp -dsimp -implicitDefEqProofs (disch := omega) only [↓vcOps_sp 10, ↓vcD_sp 10, ↓vcOps_sp 19, ↓vcD_sp 19, ↓vcOps_sp 26, ↓vcD_sp 26, VC1, VC2, VC3, VC4, VC5, VC6, VC7, VC8, VC9, VC10, VC11, VC12, VC13, VC14, VC15, VC16, VC17, VC18, VC19, VC20, ↓upd_none, Nat.reduceEqDiff, Nat.reduceBEq, Nat.reduceAdd, Nat.reduceSub, Nat.reduceMul, Nat.reduceLT, Nat.reduceLeDiff, ↓reduceIte, reduceCtorEq, rsOf, rootsOf, SOp.rd, SI.rd, SX.rd, rdL, rdO, rdP, okParts, eqCells, okEqCells, fillA, okFill, setAt, implies_true, forall_const, forall_eq, ne_eq, exists_eq_right_right, exists_eq_right, exists_eq_left, exists_eq_left', eItem, eAttr, c87, eItem]
  refine Br.eq (fun h1 => ?_) (fun h1 => ?_)
  · simp -dsimp -implicitDefEqProofs (disch := omega) only [↓vcOps_sp 10, ↓vcD_sp 10, ↓vcOps_sp 19, ↓vcD_sp 19, ↓vcOps_sp 26, ↓vcD_sp 26, VC1, VC2, VC3, VC4, VC5, VC6, VC7, VC8, VC9, VC10, VC11, VC12, VC13, VC14, VC15, VC16, VC17, VC18, VC19, VC20, ↓upd_none, Nat.reduceEqDiff, Nat.reduceBEq, Nat.reduceAdd, Nat.reduceSub, Nat.reduceMul, Nat.reduceLT, Nat.reduceLeDiff, ↓reduceIte, reduceCtorEq, rsOf, rootsOf, SOp.rd, SI.rd, SX.rd, rdL, rdO, rdP, okParts, eqCells, okEqCells, fillA, okFill, setAt, implies_true, forall_const, forall_eq, ne_eq, exists_eq_right_right, exists_eq_right, exists_eq_left, exists_eq_left', eItem, eAttr]
    refine Br.eq (fun h2 => ?_) (fun h2 => ?_)
    · simp -dsimp -implicitDefEqProofs (disch := omega) only [↓vcOps_sp 10, ↓vcD_sp 10, ↓vcOps_sp 19, ↓vcD_sp 19, ↓vcOps_sp 26, ↓vcD_sp 26, VC1, VC2, VC3, VC4, VC5, VC6, VC7, VC8, VC9, VC10, VC11, VC12, VC13, VC14, VC15, VC16, VC17, VC18, VC19, VC20, ↓upd_none, Nat.reduceEqDiff, Nat.reduceBEq, Nat.reduceAdd, Nat.reduceSub, Nat.reduceMul, Nat.reduceLT, Nat.reduceLeDiff, ↓reduceIte, reduceCtorEq, rsOf, rootsOf, SOp.rd, SI.rd, SX.rd, rdL, rdO, rdP, okParts, eqCells, okEqCells, fillA, okFill, setAt, implies_true, forall_const, forall_eq, ne_eq, exists_eq_right_right, exists_eq_right, exists_eq_left, exists_eq_left', eItem, eAttr]
      refine pcallE.of (within_ok a.attrs b.attrs ha hb) ?_; simp -dsimp -implicitDefEqProofs (disch := omega) only [↓vcOps_sp 10, ↓vcD_sp 10, ↓vcOps_sp 19, ↓vcD_sp 19, ↓vcOps_sp 26, ↓vcD_sp 26, VC1, VC2, VC3, VC4, VC5, VC6, VC7, VC8, VC9, VC10, VC11, VC12, VC13, VC14, VC15, VC16, VC17, VC18, VC19, VC20, ↓upd_none, Nat.reduceEqDiff, Nat.reduceBEq, Nat.reduceAdd, Nat.reduceSub, Nat.reduceMul, Nat.reduceLT, Nat.reduceLeDiff, ↓reduceIte, reduceCtorEq, rsOf, rootsOf, SOp.rd, SI.rd, SX.rd, rdL, rdO, rdP, okParts, eqCells, okEqCells, fillA, okFill, setAt, implies_true, forall_const, forall_eq, ne_eq, exists_eq_right_right, exists_eq_right, exists_eq_left, exists_eq_left', eItem, eAttr]
      refine Br.intro (fun h3 => ?_) (fun h3 => ?_)
      · simp -dsimp -implicitDefEqProofs (disch := omega) only [↓vcOps_sp 10, ↓vcD_sp 10, ↓vcOps_sp 19, ↓vcD_sp 19, ↓vcOps_sp 26, ↓vcD_sp 26, VC1, VC2, VC3, VC4, VC5, VC6, VC7, VC8, VC9, VC10, VC11, VC12, VC13, VC14, VC15, VC16, VC17, VC18, VC19, VC20, ↓upd_none, Nat.reduceEqDiff, Nat.reduceBEq, Nat.reduceAdd, Nat.reduceSub, Nat.reduceMul, Nat.reduceLT, Nat.reduceLeDiff, ↓reduceIte, reduceCtorEq, rsOf, rootsOf, SOp.rd, SI.rd, SX.rd, rdL, rdO, rdP, okParts, eqCells, okEqCells, fillA, okFill, setAt, implies_true, forall_const, forall_eq, ne_eq, exists_eq_right_right, exists_eq_right, exists_eq_left, exists_eq_left', eItem, eAttr]
        refine pcallE.of (within_ok b.attrs a.attrs hb ha) ?_; simp -dsimp -implicitDefEqProofs (disch := omega) only [↓vcOps_sp 10, ↓vcD_sp 10, ↓vcOps_sp 19, ↓vcD_sp 19, ↓vcOps_sp 26, ↓vcD_sp 26, VC1, VC2, VC3, VC4, VC5, VC6, VC7, VC8, VC9, VC10, VC11, VC12, VC13, VC14, VC15, VC16, VC17, VC18, VC19, VC20, ↓upd_none, Nat.reduceEqDiff, Nat.reduceBEq, Nat.reduceAdd, Nat.reduceSub, Nat.reduceMul, Nat.reduceLT, Nat.reduceLeDiff, ↓reduceIte, reduceCtorEq, rsOf, rootsOf, SOp.rd, SI.rd, SX.rd, rdL, rdO, rdP, okParts, eqCells, okEqCells, fillA, okFill, setAt, implies_true, forall_const, forall_eq, ne_eq, exists_eq_right_right, exists_eq_right, exists_eq_left, exists_eq_left', eItem, eAttr]
        first | exact Sub.refl _ | exact ⟨Sub.refl _, by simp [alikeM, h1, h2, h3, Int.ofNat_inj.1 h2]⟩
      · simp -dsimp -implicitDefEqProofs (disch := omega) only [↓vcOps_sp 10, ↓vcD_sp 10, ↓vcOps_sp 19, ↓vcD_sp 19, ↓vcOps_sp 26, ↓vcD_sp 26, VC1, VC2, VC3, VC4, VC5, VC6, VC7, VC8, VC9, VC10, VC11, VC12, VC13, VC14, VC15, VC16, VC17, VC18, VC19, VC20, ↓upd_none, Nat.reduceEqDiff, Nat.reduceBEq, Nat.reduceAdd, Nat.reduceSub, Nat.reduceMul, Nat.reduceLT, Nat.reduceLeDiff, ↓reduceIte, reduceCtorEq, rsOf, rootsOf, SOp.rd, SI.rd, SX.rd, rdL, rdO, rdP, okParts, eqCells, okEqCells, fillA, okFill, setAt, implies_true, forall_const, forall_eq, ne_eq, exists_eq_right_right, exists_eq_right, exists_eq_left, exists_eq_left', eItem, eAttr]
        first | exact Sub.refl _ | exact ⟨Sub.refl _, by simp [alikeM, h3]⟩
    · simp -dsimp -implicitDefEqProofs (disch := omega) only [↓vcOps_sp 10, ↓vcD_sp 10, ↓vcOps_sp 19, ↓vcD_sp 19, ↓vcOps_sp 26, ↓vcD_sp 26, VC1, VC2, VC3, VC4, VC5, VC6, VC7, VC8, VC9, VC10, VC11, VC12, VC13, VC14, VC15, VC16, VC17, VC18, VC19, VC20, ↓upd_none, Nat.reduceEqDiff, Nat.reduceBEq, Nat.reduceAdd, Nat.reduceSub, Nat.reduceMul, Nat.reduceLT, Nat.reduceLeDiff, ↓reduceIte, reduceCtorEq, rsOf, rootsOf, SOp.rd, SI.rd, SX.rd, rdL, rdO, rdP, okParts, eqCells, okEqCells, fillA, okFill, setAt, implies_true, forall_const, forall_eq, ne_eq, exists_eq_right_right, exists_eq_right, exists_eq_left, exists_eq_left', eItem, eAttr]
      have h2' : ¬ a.attrs.length = b.attrs.length := by omega
      first | exact Sub.refl _ | exact ⟨Sub.refl _, by simp [alikeM, h2']⟩
  · simp -dsimp -implicitDefEqProofs (disch := omega) only [↓vcOps_sp 10, ↓vcD_sp 10, ↓vcOps_sp 19, ↓vcD_sp 19, ↓vcOps_sp 26, ↓vcD_sp 26, VC1, VC2, VC3, VC4, VC5, VC6, VC7, VC8, VC9, VC10, VC11, VC12, VC13, VC14, VC15, VC16, VC17, VC18, VC19, VC20, ↓upd_none, Nat.reduceEqDiff, Nat.reduceBEq, Nat.reduceAdd, Nat.reduceSub, Nat.reduceMul, Nat.reduceLT, Nat.reduceLeDiff, ↓reduceIte, reduceCtorEq, rsOf, rootsOf, SOp.rd, SI.rd, SX.rd, rdL, rdO, rdP, okParts, eqCells, okEqCells, fillA, okFill, setAt, implies_true, forall_const, forall_eq, ne_eq, exists_eq_right_right, exists_eq_right, exists_eq_left, exists_eq_left', eItem, eAttr]
    first | exact Sub.refl _ | exact ⟨Sub.refl _, by simp [alikeM, h1]⟩

end Go.Proofs.K
