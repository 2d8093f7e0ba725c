import Derived.Test.YtlehoolkjkdncaaAct4
set_option linter.unusedSimpArgs false
set_option linter.unusedVariables false
namespace Go.Proofs.K
open Go Go.Sim Go.Proofs

def lastP {α : Type} (p : α → Bool) : List α → Nat
  | [] => 0
  | x :: r => match lastP p r with
    | 0 => if p x then 1 else 0
    | n + 1 => n + 2
def IsLastP {α : Type} [Inhabited α] (p : α → Bool) (l : List α) (k : Nat) : Prop := k ≤ l.length ∧ (k = 0 ∨ p (nth l (k - 1)) = true) ∧ ∀ j, k ≤ j → j < l.length → p (nth l j) = false
theorem lastP_is {α : Type} [Inhabited α] (p : α → Bool) (l : List α) : IsLastP p l (lastP p l) := by
  induction l with
  | nil => exact ⟨by simp [lastP], .inl rfl, fun j _ h => by simp at h⟩
  | cons x r ih =>
    obtain ⟨h1, h2, h3⟩ := ih
    cases hm : lastP p r with
    | zero =>
      rw [hm] at h3
      by_cases hx : p x = true
      · simp only [lastP, hm, hx, if_true]
        refine ⟨by simp, .inr (by simpa [nth] using hx), fun j hj hl => ?_⟩
        obtain ⟨j, rfl⟩ : ∃ i, j = i + 1 := ⟨j - 1, by omega⟩
        exact h3 j (by omega) (by simpa using hl)
      · simp only [lastP, hm, hx]
        refine ⟨by simp, .inl (by simp), fun j hj hl => ?_⟩
        cases j with
        | zero => simpa [nth] using hx
        | succ j => exact h3 j (by omega) (by simpa using hl)
    | succ n =>
      rw [hm] at h1 h2 h3
      simp only [lastP, hm]
      refine ⟨by simp; omega, .inr ?_, fun j hj hl => ?_⟩
      · rcases h2 with h2 | h2
        · omega
        · simpa [nth] using h2
      · obtain ⟨j, rfl⟩ : ∃ i, j = i + 1 := ⟨j - 1, by omega⟩
        exact h3 j (by omega) (by simpa using hl)
theorem IsLastP.eq {α : Type} [Inhabited α] {p : α → Bool} {l : List α} {k : Nat} (h : IsLastP p l k) : lastP p l = k := by
  obtain ⟨a1, a2, a3⟩ := lastP_is p l
  obtain ⟨b1, b2, b3⟩ := h
  rcases Nat.lt_trichotomy (lastP p l) k with h | h | h
  · rcases b2 with b2 | b2
    · omega
    · rw [a3 _ (by omega) (by omega)] at b2; cases b2
  · exact h
  · rcases a2 with a2 | a2
    · omega
    · rw [b3 _ (by omega) (by omega)] at a2; cases a2

def c114 : SFun := ⟨(.seq (.reg [⟨(some 4), (.mv (.c (.int .i64 (0)))), none⟩]) (.seq (.seq (.reg [⟨(some 6), (.mv (.t 0)), none⟩, ⟨(some 7), (.len (.t 6)), none⟩, ⟨(some 8), (.mv (.c (.int .i64 (0)))), none⟩]) (.block 0 (.loop (.seq (.reg [⟨(some 9), (.bin .lss (.t 8) (.t 7)), none⟩]) (.seq (.cond (.t 9) .skip (.exit 0)) (.seq (.block 1 (.seq (.reg [⟨(some 10), (.mv (.t 8)), none⟩, ⟨(some 5), (.mv (.t 10)), none⟩]) (.seq (.reg [⟨(some 11), (.mv (.t 1)), none⟩, ⟨(some 12), (.mv (.t 0)), none⟩, ⟨(some 13), (.mv (.t 5)), none⟩, ⟨(some 14), (.idxA 1 (.t 12) (.t 13)), none⟩, ⟨(some 15), (.ld 1 false (.t 14)), none⟩, ⟨(some 16), (.bin .eql (.t 11) (.t 15)), none⟩]) (.cond (.t 16) (.seq (.reg [⟨(some 17), (.mv (.t 5)), none⟩, ⟨(some 4), (.mv (.t 17)), none⟩]) .ret) .skip)))) (.reg [⟨(some 18), (.bin .add (.t 8) (.c (.int .i64 (1)))), none⟩, ⟨(some 8), (.mv (.t 18)), none⟩]))))))) (.seq (.reg [⟨(some 4), (.mv (.c (.int .i64 (-1)))), none⟩]) .ret))), [(.tmp 4)]⟩
theorem hc114 : toSF Try.prog {} Try.f114 = some c114 := by kernel_rfl
theorem hn114 : (Try.f114.name == "runtime.NumGoroutine") = false := by kernel_rfl
theorem containsNI_ok (l : List Int) (x : Int) (hl : l.length ≤ 1073741824) : PCalls Try.prog 114 [sl eInt l, aInt x] (aInt (idxM (· == x) l)) := by
  intro h
  refine dcalls_of_vc Try.func114 hn114 hc114 (by rw [Try.ntmps114]; simp) ?_
  simp -dsimp -implicitDefEqProofs (disch := omega) only [VC1, VC2, VC3, VC4, VC5, VC6, VC7, VC8, VC9, VC10, VC11, VC12, VC13, VC14, VC15, VC16, VC17, VC18, VC19, VC20, ↓upd_none, Nat.reduceEqDiff, Nat.reduceBEq, Nat.reduceAdd, Nat.reduceSub, Nat.reduceMul, Nat.reduceLT, Nat.reduceLeDiff, ↓reduceIte, reduceCtorEq, rsOf, rootsOf, SOp.rd, SI.rd, SX.rd, rdL, rdO, rdP, okParts, eqCells, okEqCells, fillA, okFill, setAt, implies_true, forall_const, forall_eq, ne_eq, exists_eq_right_right, exists_eq_right, exists_eq_left, exists_eq_left', eItem, eAttr, eInt, c114]
  refine LoopVC.intro (fun m e h' => ∃ k : Nat, k ≤ l.length ∧ m = l.length - k ∧ e 0 = sl eInt l ∧ e 1 = aInt x ∧ e 7 = aInt l.length ∧ e 8 = aInt k ∧ h' = h ∧ ∀ j, j < k → (nth l j == x) = false) l.length ⟨0, by omega, by omega, rfl, rfl, rfl, rfl, rfl, fun j hj => absurd hj (Nat.not_lt_zero j)⟩ ?_
  rintro m e h' ⟨k, hk, rfl, he0, he1, he7, he8, rfl, hj⟩
  simp -dsimp -implicitDefEqProofs (disch := omega) only [VC1, VC2, VC3, VC4, VC5, VC6, VC7, VC8, VC9, VC10, VC11, VC12, VC13, VC14, VC15, VC16, VC17, VC18, VC19, VC20, ↓upd_none, Nat.reduceEqDiff, Nat.reduceBEq, Nat.reduceAdd, Nat.reduceSub, Nat.reduceMul, Nat.reduceLT, Nat.reduceLeDiff, ↓reduceIte, reduceCtorEq, rsOf, rootsOf, SOp.rd, SI.rd, SX.rd, rdL, rdO, rdP, okParts, eqCells, okEqCells, fillA, okFill, setAt, implies_true, forall_const, forall_eq, ne_eq, exists_eq_right_right, exists_eq_right, exists_eq_left, exists_eq_left', eItem, eAttr, eInt, he0, he1, he7, he8]
  refine Br.dec (fun hlt => ?_) (fun hge => ?_)
  · simp -dsimp -implicitDefEqProofs (disch := omega) only [VC1, VC2, VC3, VC4, VC5, VC6, VC7, VC8, VC9, VC10, VC11, VC12, VC13, VC14, VC15, VC16, VC17, VC18, VC19, VC20, ↓upd_none, Nat.reduceEqDiff, Nat.reduceBEq, Nat.reduceAdd, Nat.reduceSub, Nat.reduceMul, Nat.reduceLT, Nat.reduceLeDiff, ↓reduceIte, reduceCtorEq, rsOf, rootsOf, SOp.rd, SI.rd, SX.rd, rdL, rdO, rdP, okParts, eqCells, okEqCells, fillA, okFill, setAt, implies_true, forall_const, forall_eq, ne_eq, exists_eq_right_right, exists_eq_right, exists_eq_left, exists_eq_left', eItem, eAttr, eInt, he0, he1, he7, he8]
    refine ⟨by omega, Br.eq (fun ht => ?_) (fun hf => ?_)⟩
    · simp -dsimp -implicitDefEqProofs (disch := omega) only [VC1, VC2, VC3, VC4, VC5, VC6, VC7, VC8, VC9, VC10, VC11, VC12, VC13, VC14, VC15, VC16, VC17, VC18, VC19, VC20, ↓upd_none, Nat.reduceEqDiff, Nat.reduceBEq, Nat.reduceAdd, Nat.reduceSub, Nat.reduceMul, Nat.reduceLT, Nat.reduceLeDiff, ↓reduceIte, reduceCtorEq, rsOf, rootsOf, SOp.rd, SI.rd, SX.rd, rdL, rdO, rdP, okParts, eqCells, okEqCells, fillA, okFill, setAt, implies_true, forall_const, forall_eq, ne_eq, exists_eq_right_right, exists_eq_right, exists_eq_left, exists_eq_left', eItem, eAttr, eInt]
      rw [idxM_some (k := k) (by omega) hj (by simp [ht])]; exact ⟨Sub.refl _, rfl⟩
    · simp -dsimp -implicitDefEqProofs (disch := omega) only [VC1, VC2, VC3, VC4, VC5, VC6, VC7, VC8, VC9, VC10, VC11, VC12, VC13, VC14, VC15, VC16, VC17, VC18, VC19, VC20, ↓upd_none, Nat.reduceEqDiff, Nat.reduceBEq, Nat.reduceAdd, Nat.reduceSub, Nat.reduceMul, Nat.reduceLT, Nat.reduceLeDiff, ↓reduceIte, reduceCtorEq, rsOf, rootsOf, SOp.rd, SI.rd, SX.rd, rdL, rdO, rdP, okParts, eqCells, okEqCells, fillA, okFill, setAt, implies_true, forall_const, forall_eq, ne_eq, exists_eq_right_right, exists_eq_right, exists_eq_left, exists_eq_left', eItem, eAttr, eInt, he0, he1, he7, he8]
      refine ⟨_, ?_, k + 1, by omega, rfl, by omega, fun j hj' => ?_⟩
      · omega
      · by_cases h1 : j = k
        · subst h1; simpa using fun e => hf e.symm
        · exact hj j (by omega)
  · simp -dsimp -implicitDefEqProofs (disch := omega) only [VC1, VC2, VC3, VC4, VC5, VC6, VC7, VC8, VC9, VC10, VC11, VC12, VC13, VC14, VC15, VC16, VC17, VC18, VC19, VC20, ↓upd_none, Nat.reduceEqDiff, Nat.reduceBEq, Nat.reduceAdd, Nat.reduceSub, Nat.reduceMul, Nat.reduceLT, Nat.reduceLeDiff, ↓reduceIte, reduceCtorEq, rsOf, rootsOf, SOp.rd, SI.rd, SX.rd, rdL, rdO, rdP, okParts, eqCells, okEqCells, fillA, okFill, setAt, implies_true, forall_const, forall_eq, ne_eq, exists_eq_right_right, exists_eq_right, exists_eq_left, exists_eq_left', eItem, eAttr, eInt]
    rw [idxM_none (fun j hj' => hj j (by omega))]; exact ⟨Sub.refl _, rfl⟩
def c97 : SFun := ⟨(.seq (.reg [⟨(some 4), (.mv (.c (.bool false))), none⟩]) (.seq (.reg [⟨(some 5), (.mv (.t 0)), none⟩, ⟨(some 6), (.mv (.t 1)), none⟩, ⟨(some 7), (.pcall 114 [(.t 5), (.t 6)]), none⟩, ⟨(some 8), (.bin .geq (.t 7) (.c (.int .i64 (0)))), none⟩, ⟨(some 4), (.mv (.t 8)), none⟩]) .ret)), [(.tmp 4)]⟩
theorem hc97 : toSF Try.prog {pure := [114]} Try.f97 = some c97 := by kernel_rfl
theorem hn97 : (Try.f97.name == "runtime.NumGoroutine") = false := by kernel_rfl
theorem containsN_ok (l : List Int) (x : Int) (hl : l.length ≤ 1073741824) : PCalls Try.prog 97 [sl eInt l, aInt x] (.bool (l.any (· == x))) := by
  intro h
  refine dcalls_of_vc Try.func97 hn97 hc97 (by rw [Try.ntmps97]; simp) ?_
  simp -dsimp -implicitDefEqProofs (disch := omega) only [VC1, VC2, VC3, VC4, VC5, VC6, VC7, VC8, VC9, VC10, VC11, VC12, VC13, VC14, VC15, VC16, VC17, VC18, VC19, VC20, ↓upd_none, Nat.reduceEqDiff, Nat.reduceBEq, Nat.reduceAdd, Nat.reduceSub, Nat.reduceMul, Nat.reduceLT, Nat.reduceLeDiff, ↓reduceIte, reduceCtorEq, rsOf, rootsOf, SOp.rd, SI.rd, SX.rd, rdL, rdO, rdP, okParts, eqCells, okEqCells, fillA, okFill, setAt, implies_true, forall_const, forall_eq, ne_eq, exists_eq_right_right, exists_eq_right, exists_eq_left, exists_eq_left', eItem, eAttr, eInt, c97]
  refine pcallE.of (containsNI_ok l x hl) ?_; simp -dsimp -implicitDefEqProofs (disch := omega) only [VC1, VC2, VC3, VC4, VC5, VC6, VC7, VC8, VC9, VC10, VC11, VC12, VC13, VC14, VC15, VC16, VC17, VC18, VC19, VC20, ↓upd_none, Nat.reduceEqDiff, Nat.reduceBEq, Nat.reduceAdd, Nat.reduceSub, Nat.reduceMul, Nat.reduceLT, Nat.reduceLeDiff, ↓reduceIte, reduceCtorEq, rsOf, rootsOf, SOp.rd, SI.rd, SX.rd, rdL, rdO, rdP, okParts, eqCells, okEqCells, fillA, okFill, setAt, implies_true, forall_const, forall_eq, ne_eq, exists_eq_right_right, exists_eq_right, exists_eq_left, exists_eq_left', eItem, eAttr, eInt]
  exact ⟨Sub.refl _, idxM_any _ l⟩
def missM (l : List HItem) (o : List Int) : Nat := lastP (fun y => y.node == -1 || o.any (· == y.node)) l
def c67 : SFun := ⟨(.seq (.reg [⟨(some 4), (.mv (.c (.int .i64 (0)))), none⟩]) (.seq (.reg [⟨(some 6), (.mv (.t 0)), none⟩, ⟨(some 7), (.len (.t 6)), none⟩, ⟨(some 5), (.mv (.t 7)), none⟩]) (.seq (.block 0 (.loop (.seq (.seq (.reg [⟨(some 8), (.mv (.t 5)), none⟩, ⟨(some 9), (.mv (.t 0)), none⟩, ⟨(some 10), (.pcall 86 [(.t 9)]), none⟩, ⟨(some 11), (.bin .gtr (.t 8) (.t 10)), none⟩, ⟨(some 12), (.mv (.t 11)), none⟩, ⟨(some 13), (.mv (.t 1)), (some (12, true))⟩, ⟨(some 14), (.mv (.t 0)), (some (12, true))⟩, ⟨(some 15), (.mv (.t 5)), (some (12, true))⟩, ⟨(some 16), (.bin .sub (.t 15) (.c (.int .i64 (1)))), (some (12, true))⟩, ⟨(some 17), (.idxA 3 (.t 14) (.t 16)), (some (12, true))⟩, ⟨(some 18), (.fldA 0 (.t 17)), (some (12, true))⟩, ⟨(some 19), (.ld 1 false (.t 18)), (some (12, true))⟩, ⟨(some 20), (.pcall 97 [(.t 13), (.t 19)]), (some (12, true))⟩, ⟨(some 21), (.un .not (.t 20)), (some (12, true))⟩, ⟨(some 22), (.pick (.t 12) (.t 21) (.c (.bool false))), none⟩]) (.cond (.t 22) .skip (.exit 0))) (.block 1 (.reg [⟨(some 23), (.mv (.t 5)), none⟩, ⟨(some 24), (.bin .sub (.t 23) (.c (.int .i64 (1)))), none⟩, ⟨(some 5), (.mv (.t 24)), none⟩]))))) (.seq (.reg [⟨(some 25), (.mv (.t 5)), none⟩, ⟨(some 4), (.mv (.t 25)), none⟩]) .ret)))), [(.tmp 4)]⟩
theorem hc67 : toSF Try.prog {pure := [86, 97]} Try.f67 = some c67 := by kernel_rfl
theorem hn67 : (Try.f67.name == "runtime.NumGoroutine") = false := by kernel_rfl
theorem miss_ok (l : List HItem) (o : List Int) (hl : l.length ≤ 1073741824) (ho : o.length ≤ 1073741824) : PCalls Try.prog 67 [sl eItem l, sl eInt o] (aInt (missM l o)) := by
  intro h
  refine dcalls_of_vc Try.func67 hn67 hc67 (by rw [Try.ntmps67]; simp) ?_
  simp -dsimp -implicitDefEqProofs (disch := omega) only [↓vcOps_sp 12, ↓vcD_sp 12, VC1, VC2, VC3, VC4, VC5, VC6, VC7, VC8, VC9, VC10, VC11, VC12, VC13, VC14, VC15, VC16, VC17, VC18, VC19, VC20, ↓upd_none, Nat.reduceEqDiff, Nat.reduceBEq, Nat.reduceAdd, Nat.reduceSub, Nat.reduceMul, Nat.reduceLT, Nat.reduceLeDiff, ↓reduceIte, reduceCtorEq, rsOf, rootsOf, SOp.rd, SI.rd, SX.rd, rdL, rdO, rdP, okParts, eqCells, okEqCells, fillA, okFill, setAt, implies_true, forall_const, forall_eq, ne_eq, exists_eq_right_right, exists_eq_right, exists_eq_left, exists_eq_left', eItem, eAttr, eInt, c67]
  obtain ⟨hla, hlb, hlc⟩ := lastM_is l
  refine LoopVC.intro (fun m e h' => ∃ k : Nat, k ≤ l.length ∧ lastM l ≤ k ∧ m = k ∧ e 0 = sl eItem l ∧ e 1 = sl eInt o ∧ e 5 = aInt k ∧ h' = h ∧ ∀ j, k ≤ j → j < l.length → o.any (· == (nth l j).node) = false) l.length ⟨l.length, by omega, by omega, rfl, rfl, rfl, rfl, rfl, by omega⟩ ?_
  rintro m e h' ⟨k, hk, hlk, rfl, he0, he1, he5, rfl, hj⟩
  simp -dsimp -implicitDefEqProofs (disch := omega) only [↓vcOps_sp 12, ↓vcD_sp 12, VC1, VC2, VC3, VC4, VC5, VC6, VC7, VC8, VC9, VC10, VC11, VC12, VC13, VC14, VC15, VC16, VC17, VC18, VC19, VC20, ↓upd_none, Nat.reduceEqDiff, Nat.reduceBEq, Nat.reduceAdd, Nat.reduceSub, Nat.reduceMul, Nat.reduceLT, Nat.reduceLeDiff, ↓reduceIte, reduceCtorEq, rsOf, rootsOf, SOp.rd, SI.rd, SX.rd, rdL, rdO, rdP, okParts, eqCells, okEqCells, fillA, okFill, setAt, implies_true, forall_const, forall_eq, ne_eq, exists_eq_right_right, exists_eq_right, exists_eq_left, exists_eq_left', eItem, eAttr, eInt, he0, he1, he5]
  refine pcallE.of (last_ok l hl) ?_; simp -dsimp -implicitDefEqProofs (disch := omega) only [↓vcOps_sp 12, ↓vcD_sp 12, VC1, VC2, VC3, VC4, VC5, VC6, VC7, VC8, VC9, VC10, VC11, VC12, VC13, VC14, VC15, VC16, VC17, VC18, VC19, VC20, ↓upd_none, Nat.reduceEqDiff, Nat.reduceBEq, Nat.reduceAdd, Nat.reduceSub, Nat.reduceMul, Nat.reduceLT, Nat.reduceLeDiff, ↓reduceIte, reduceCtorEq, rsOf, rootsOf, SOp.rd, SI.rd, SX.rd, rdL, rdO, rdP, okParts, eqCells, okEqCells, fillA, okFill, setAt, implies_true, forall_const, forall_eq, ne_eq, exists_eq_right_right, exists_eq_right, exists_eq_left, exists_eq_left', eItem, eAttr, eInt, he0, he1, he5]
  have stop : (m = 0 ∨ (nth l (m - 1)).node = -1 ∨ o.any (· == (nth l (m - 1)).node) = true) → missM l o = m := by
    intro hs
    refine IsLastP.eq ⟨hk, ?_, fun j h1 h2 => ?_⟩
    · rcases hs with h | h | h
      · exact .inl h
      · exact .inr (by simp [h])
      · exact .inr (by simp only [h, Bool.or_true])
    · have := hlc j (by omega) h2
      simp only [hj j h1 h2, Bool.or_false]
      simpa using this
  refine Br.dec (fun h1 => ?_) (fun h1 => ?_)
  · obtain ⟨m, rfl⟩ : ∃ j, m = j + 1 := ⟨m - 1, by omega⟩
    simp -dsimp -implicitDefEqProofs (disch := omega) only [↓vcOps_sp 12, ↓vcD_sp 12, VC1, VC2, VC3, VC4, VC5, VC6, VC7, VC8, VC9, VC10, VC11, VC12, VC13, VC14, VC15, VC16, VC17, VC18, VC19, VC20, ↓upd_none, Nat.reduceEqDiff, Nat.reduceBEq, Nat.reduceAdd, Nat.reduceSub, Nat.reduceMul, Nat.reduceLT, Nat.reduceLeDiff, ↓reduceIte, reduceCtorEq, rsOf, rootsOf, SOp.rd, SI.rd, SX.rd, rdL, rdO, rdP, okParts, eqCells, okEqCells, fillA, okFill, setAt, implies_true, forall_const, forall_eq, ne_eq, exists_eq_right_right, exists_eq_right, exists_eq_left, exists_eq_left', eItem, eAttr, eInt, he0, he1, he5]
    refine ⟨by omega, ?_⟩
    refine pcallE.of (containsN_ok o (nth l m).node ho) ?_; simp -dsimp -implicitDefEqProofs (disch := omega) only [↓vcOps_sp 12, ↓vcD_sp 12, VC1, VC2, VC3, VC4, VC5, VC6, VC7, VC8, VC9, VC10, VC11, VC12, VC13, VC14, VC15, VC16, VC17, VC18, VC19, VC20, ↓upd_none, Nat.reduceEqDiff, Nat.reduceBEq, Nat.reduceAdd, Nat.reduceSub, Nat.reduceMul, Nat.reduceLT, Nat.reduceLeDiff, ↓reduceIte, reduceCtorEq, rsOf, rootsOf, SOp.rd, SI.rd, SX.rd, rdL, rdO, rdP, okParts, eqCells, okEqCells, fillA, okFill, setAt, implies_true, forall_const, forall_eq, ne_eq, exists_eq_right_right, exists_eq_right, exists_eq_left, exists_eq_left', eItem, eAttr, eInt, he0, he1, he5]
    refine Br.intro (fun h2 => ?_) (fun h2 => ?_)
    · simp -dsimp -implicitDefEqProofs (disch := omega) only [↓vcOps_sp 12, ↓vcD_sp 12, VC1, VC2, VC3, VC4, VC5, VC6, VC7, VC8, VC9, VC10, VC11, VC12, VC13, VC14, VC15, VC16, VC17, VC18, VC19, VC20, ↓upd_none, Nat.reduceEqDiff, Nat.reduceBEq, Nat.reduceAdd, Nat.reduceSub, Nat.reduceMul, Nat.reduceLT, Nat.reduceLeDiff, ↓reduceIte, reduceCtorEq, rsOf, rootsOf, SOp.rd, SI.rd, SX.rd, rdL, rdO, rdP, okParts, eqCells, okEqCells, fillA, okFill, setAt, implies_true, forall_const, forall_eq, ne_eq, exists_eq_right_right, exists_eq_right, exists_eq_left, exists_eq_left', eItem, eAttr, eInt, he0, he1, he5]
      refine ⟨_, ?_, m, by omega, by omega, rfl, by omega, fun j h3 h4 => ?_⟩
      · omega
      · by_cases h5 : j = m
        · subst h5; simpa using h2
        · exact hj j (by omega) h4
    · simp -dsimp -implicitDefEqProofs (disch := omega) only [↓vcOps_sp 12, ↓vcD_sp 12, VC1, VC2, VC3, VC4, VC5, VC6, VC7, VC8, VC9, VC10, VC11, VC12, VC13, VC14, VC15, VC16, VC17, VC18, VC19, VC20, ↓upd_none, Nat.reduceEqDiff, Nat.reduceBEq, Nat.reduceAdd, Nat.reduceSub, Nat.reduceMul, Nat.reduceLT, Nat.reduceLeDiff, ↓reduceIte, reduceCtorEq, rsOf, rootsOf, SOp.rd, SI.rd, SX.rd, rdL, rdO, rdP, okParts, eqCells, okEqCells, fillA, okFill, setAt, implies_true, forall_const, forall_eq, ne_eq, exists_eq_right_right, exists_eq_right, exists_eq_left, exists_eq_left', eItem, eAttr, eInt, he0, he1, he5]
      rw [stop (.inr (.inr (by simpa using h2)))]
      exact ⟨Sub.refl _, rfl⟩
  · simp -dsimp -implicitDefEqProofs (disch := omega) only [↓vcOps_sp 12, ↓vcD_sp 12, VC1, VC2, VC3, VC4, VC5, VC6, VC7, VC8, VC9, VC10, VC11, VC12, VC13, VC14, VC15, VC16, VC17, VC18, VC19, VC20, ↓upd_none, Nat.reduceEqDiff, Nat.reduceBEq, Nat.reduceAdd, Nat.reduceSub, Nat.reduceMul, Nat.reduceLT, Nat.reduceLeDiff, ↓reduceIte, reduceCtorEq, rsOf, rootsOf, SOp.rd, SI.rd, SX.rd, rdL, rdO, rdP, okParts, eqCells, okEqCells, fillA, okFill, setAt, implies_true, forall_const, forall_eq, ne_eq, exists_eq_right_right, exists_eq_right, exists_eq_left, exists_eq_left', eItem, eAttr, eInt, he0, he1, he5]
    rw [stop ?_]
    · exact ⟨Sub.refl _, rfl⟩
    · have : lastM l = m := by omega
      rw [← this]
      rcases hlb with h | h
      · exact .inl h
      · exact .inr (.inl h)
def againM (l : List HItem) (o : List Int) : List Int := (List.range' (missM l o) (l.length - missM l o)).map fun i : Nat => (i : Int)
def c23 : SFun := ⟨(.seq (.reg [⟨(some 4), (.mv (.c .emp)), none⟩, ⟨(some 5), (.mv (.c (.int .i64 (0)))), none⟩]) (.seq (.seq (.reg [⟨(some 9), (.mv (.t 0)), none⟩, ⟨(some 10), (.pcall 16 [(.t 9)]), none⟩, ⟨(some 6), (.mv (.t 10)), none⟩]) (.seq (.reg [⟨(some 11), (.mv (.t 6)), none⟩, ⟨(some 12), (.bin .neq (.t 11) (.c (.int .i64 (0)))), none⟩]) (.cond (.t 12) (.seq (.reg [⟨(some 13), (.mv (.t 6)), none⟩, ⟨(some 4), (.mv (.c .emp)), none⟩, ⟨(some 5), (.mv (.t 13)), none⟩]) .ret) .skip))) (.seq (.reg [⟨(some 7), (.mv (.c .emp)), none⟩]) (.seq (.seq (.reg [⟨(some 14), (.mv (.t 0)), none⟩, ⟨(some 15), (.mv (.t 1)), none⟩, ⟨(some 16), (.pcall 67 [(.t 14), (.t 15)]), none⟩, ⟨(some 8), (.mv (.t 16)), none⟩]) (.block 0 (.loop (.seq (.seq (.reg [⟨(some 17), (.mv (.t 8)), none⟩, ⟨(some 18), (.mv (.t 0)), none⟩, ⟨(some 19), (.len (.t 18)), none⟩, ⟨(some 20), (.bin .lss (.t 17) (.t 19)), none⟩]) (.cond (.t 20) .skip (.exit 0))) (.seq (.block 1 (.reg [⟨(some 23), (.mv (.t 7)), none⟩, ⟨(some 24), (.mv (.t 8)), none⟩, ⟨(some 25), (.bldF 3 1 [(.t 24)]), none⟩, ⟨(some 26), (.app 3 1 8 (.t 23) (.t 25)), none⟩, ⟨(some 7), (.mv (.t 26)), none⟩])) (.reg [⟨(some 21), (.mv (.t 8)), none⟩, ⟨(some 22), (.bin .add (.t 21) (.c (.int .i64 (1)))), none⟩, ⟨(some 8), (.mv (.t 22)), none⟩])))))) (.seq (.reg [⟨(some 27), (.mv (.t 7)), none⟩, ⟨(some 4), (.mv (.t 27)), none⟩, ⟨(some 5), (.mv (.c (.int .i64 (0)))), none⟩]) .ret))))), [(.tmp 4), (.tmp 5)]⟩
theorem hc23 : toSF Try.prog {pure := [16, 67]} Try.f23 = some c23 := by kernel_rfl
theorem hn23 : (Try.f23.name == "runtime.NumGoroutine") = false := by kernel_rfl
theorem again_ok (l : List HItem) (o : List Int) (hl : l.length ≤ 1000) (ho : o.length ≤ 1073741824) : PCalls Try.prog 23 [sl eItem l, sl eInt o] (.tup [sl eInt (if checkM l = 0 then againM l o else []), aInt (checkM l)]) := PCalls.accT (ty := 3) (sz := 1) fun h => by
  refine dcalls_of_vc Try.func23 hn23 hc23 (by rw [Try.ntmps23]; simp) ?_
  simp -dsimp -implicitDefEqProofs (disch := omega) only [VC1, VC2, VC3, VC4, VC5, VC6, VC7, VC8, VC9, VC10, VC11, VC12, VC13, VC14, VC15, VC16, VC17, VC18, VC19, VC20, ↓upd_none, Nat.reduceEqDiff, Nat.reduceBEq, Nat.reduceAdd, Nat.reduceSub, Nat.reduceMul, Nat.reduceLT, Nat.reduceLeDiff, ↓reduceIte, reduceCtorEq, rsOf, rootsOf, SOp.rd, SI.rd, SX.rd, rdL, rdO, rdP, okParts, eqCells, okEqCells, fillA, okFill, setAt, implies_true, forall_const, forall_eq, ne_eq, exists_eq_right_right, exists_eq_right, exists_eq_left, exists_eq_left', eItem, eAttr, eInt, c23]
  refine pcallE.of (check_ok l (by omega)) ?_; simp -dsimp -implicitDefEqProofs (disch := omega) only [VC1, VC2, VC3, VC4, VC5, VC6, VC7, VC8, VC9, VC10, VC11, VC12, VC13, VC14, VC15, VC16, VC17, VC18, VC19, VC20, ↓upd_none, Nat.reduceEqDiff, Nat.reduceBEq, Nat.reduceAdd, Nat.reduceSub, Nat.reduceMul, Nat.reduceLT, Nat.reduceLeDiff, ↓reduceIte, reduceCtorEq, rsOf, rootsOf, SOp.rd, SI.rd, SX.rd, rdL, rdO, rdP, okParts, eqCells, okEqCells, fillA, okFill, setAt, implies_true, forall_const, forall_eq, ne_eq, exists_eq_right_right, exists_eq_right, exists_eq_left, exists_eq_left', eItem, eAttr, eInt]
  refine Br.ne (fun hc => ?_) (fun hc => ?_)
  · simp -dsimp -implicitDefEqProofs (disch := omega) only [VC1, VC2, VC3, VC4, VC5, VC6, VC7, VC8, VC9, VC10, VC11, VC12, VC13, VC14, VC15, VC16, VC17, VC18, VC19, VC20, ↓upd_none, Nat.reduceEqDiff, Nat.reduceBEq, Nat.reduceAdd, Nat.reduceSub, Nat.reduceMul, Nat.reduceLT, Nat.reduceLeDiff, ↓reduceIte, reduceCtorEq, rsOf, rootsOf, SOp.rd, SI.rd, SX.rd, rdL, rdO, rdP, okParts, eqCells, okEqCells, fillA, okFill, setAt, implies_true, forall_const, forall_eq, ne_eq, exists_eq_right_right, exists_eq_right, exists_eq_left, exists_eq_left', eItem, eAttr, eInt]
    rw [if_neg hc]
    exact ⟨_, Sub.refl _, _, rfl, Acc.nil, Sub.refl _⟩
  · simp -dsimp -implicitDefEqProofs (disch := omega) only [VC1, VC2, VC3, VC4, VC5, VC6, VC7, VC8, VC9, VC10, VC11, VC12, VC13, VC14, VC15, VC16, VC17, VC18, VC19, VC20, ↓upd_none, Nat.reduceEqDiff, Nat.reduceBEq, Nat.reduceAdd, Nat.reduceSub, Nat.reduceMul, Nat.reduceLT, Nat.reduceLeDiff, ↓reduceIte, reduceCtorEq, rsOf, rootsOf, SOp.rd, SI.rd, SX.rd, rdL, rdO, rdP, okParts, eqCells, okEqCells, fillA, okFill, setAt, implies_true, forall_const, forall_eq, ne_eq, exists_eq_right_right, exists_eq_right, exists_eq_left, exists_eq_left', eItem, eAttr, eInt]
    refine pcallE.of (miss_ok l o (by omega) ho) ?_; simp -dsimp -implicitDefEqProofs (disch := omega) only [VC1, VC2, VC3, VC4, VC5, VC6, VC7, VC8, VC9, VC10, VC11, VC12, VC13, VC14, VC15, VC16, VC17, VC18, VC19, VC20, ↓upd_none, Nat.reduceEqDiff, Nat.reduceBEq, Nat.reduceAdd, Nat.reduceSub, Nat.reduceMul, Nat.reduceLT, Nat.reduceLeDiff, ↓reduceIte, reduceCtorEq, rsOf, rootsOf, SOp.rd, SI.rd, SX.rd, rdL, rdO, rdP, okParts, eqCells, okEqCells, fillA, okFill, setAt, implies_true, forall_const, forall_eq, ne_eq, exists_eq_right_right, exists_eq_right, exists_eq_left, exists_eq_left', eItem, eAttr, eInt]
    rw [if_pos hc, hc]
    have hml := (lastP_is (fun y => y.node == -1 || o.any (· == y.node)) l).1
    change missM l o ≤ l.length at hml
    refine LoopVC.intro (fun m e h' => ∃ k : Nat, k ≤ l.length ∧ missM l o ≤ k ∧ m = l.length - k ∧ e 0 = sl eItem l ∧ e 8 = aInt k ∧ Acc h 3 1 (((List.range' (missM l o) (k - missM l o)).map fun i : Nat => (i : Int)).map eInt) (e 7) h' ∧ Sub h h') _ ⟨missM l o, by omega, by omega, rfl, rfl, rfl, ?_, Sub.refl _⟩ ?_
    · simp only [Nat.sub_self, List.range'_zero, List.map_nil]; exact Acc.nil
    rintro m e h' ⟨k, hk, hmk, rfl, he0, he8, A, S⟩
    simp -dsimp -implicitDefEqProofs (disch := omega) only [VC1, VC2, VC3, VC4, VC5, VC6, VC7, VC8, VC9, VC10, VC11, VC12, VC13, VC14, VC15, VC16, VC17, VC18, VC19, VC20, ↓upd_none, Nat.reduceEqDiff, Nat.reduceBEq, Nat.reduceAdd, Nat.reduceSub, Nat.reduceMul, Nat.reduceLT, Nat.reduceLeDiff, ↓reduceIte, reduceCtorEq, rsOf, rootsOf, SOp.rd, SI.rd, SX.rd, rdL, rdO, rdP, okParts, eqCells, okEqCells, fillA, okFill, setAt, implies_true, forall_const, forall_eq, ne_eq, exists_eq_right_right, exists_eq_right, exists_eq_left, exists_eq_left', eItem, eAttr, eInt, he0, he8]
    refine Br.dec (fun h1 => ?_) (fun h1 => ?_)
    · simp -dsimp -implicitDefEqProofs (disch := omega) only [VC1, VC2, VC3, VC4, VC5, VC6, VC7, VC8, VC9, VC10, VC11, VC12, VC13, VC14, VC15, VC16, VC17, VC18, VC19, VC20, ↓upd_none, Nat.reduceEqDiff, Nat.reduceBEq, Nat.reduceAdd, Nat.reduceSub, Nat.reduceMul, Nat.reduceLT, Nat.reduceLeDiff, ↓reduceIte, reduceCtorEq, rsOf, rootsOf, SOp.rd, SI.rd, SX.rd, rdL, rdO, rdP, okParts, eqCells, okEqCells, fillA, okFill, setAt, implies_true, forall_const, forall_eq, ne_eq, exists_eq_right_right, exists_eq_right, exists_eq_left, exists_eq_left', eItem, eAttr, eInt, he0, he8]
      refine A.app S (by simp; omega) (by simp; omega) fun a' h3 A' S' => ?_
      simp -dsimp -implicitDefEqProofs (disch := omega) only [VC1, VC2, VC3, VC4, VC5, VC6, VC7, VC8, VC9, VC10, VC11, VC12, VC13, VC14, VC15, VC16, VC17, VC18, VC19, VC20, ↓upd_none, Nat.reduceEqDiff, Nat.reduceBEq, Nat.reduceAdd, Nat.reduceSub, Nat.reduceMul, Nat.reduceLT, Nat.reduceLeDiff, ↓reduceIte, reduceCtorEq, rsOf, rootsOf, SOp.rd, SI.rd, SX.rd, rdL, rdO, rdP, okParts, eqCells, okEqCells, fillA, okFill, setAt, implies_true, forall_const, forall_eq, ne_eq, exists_eq_right_right, exists_eq_right, exists_eq_left, exists_eq_left', eItem, eAttr, eInt, he0, he8]
      refine ⟨_, ?_, k + 1, by omega, by omega, rfl, by omega, ?_, S'⟩
      · omega
      · have : k + 1 - missM l o = (k - missM l o) + 1 := by omega
        rw [this, List.range'_concat]
        have e2 : missM l o + 1 * (k - missM l o) = k := by omega
        rw [e2]
        simpa [eInt] using A'
    · obtain rfl : k = l.length := by omega
      simp -dsimp -implicitDefEqProofs (disch := omega) only [VC1, VC2, VC3, VC4, VC5, VC6, VC7, VC8, VC9, VC10, VC11, VC12, VC13, VC14, VC15, VC16, VC17, VC18, VC19, VC20, ↓upd_none, Nat.reduceEqDiff, Nat.reduceBEq, Nat.reduceAdd, Nat.reduceSub, Nat.reduceMul, Nat.reduceLT, Nat.reduceLeDiff, ↓reduceIte, reduceCtorEq, rsOf, rootsOf, SOp.rd, SI.rd, SX.rd, rdL, rdO, rdP, okParts, eqCells, okEqCells, fillA, okFill, setAt, implies_true, forall_const, forall_eq, ne_eq, exists_eq_right_right, exists_eq_right, exists_eq_left, exists_eq_left', eItem, eAttr, eInt, he0, he8]
      exact ⟨_, Sub.refl _, _, rfl, A, S⟩
def c26 : SFun := ⟨(.seq (.reg [⟨(some 4), (.mv (.c (.bool false))), none⟩]) (.seq (.seq (.reg [⟨(some 6), (.mv (.t 0)), none⟩, ⟨(some 7), (.len (.t 6)), none⟩, ⟨(some 8), (.mv (.t 1)), none⟩, ⟨(some 9), (.len (.t 8)), none⟩, ⟨(some 10), (.bin .neq (.t 7) (.t 9)), none⟩]) (.cond (.t 10) (.seq (.reg [⟨(some 4), (.mv (.c (.bool false))), none⟩]) .ret) .skip)) (.seq (.seq (.reg [⟨(some 5), (.mv (.c (.int .i64 (0)))), none⟩]) (.block 0 (.loop (.seq (.seq (.reg [⟨(some 11), (.mv (.t 5)), none⟩, ⟨(some 12), (.mv (.t 0)), none⟩, ⟨(some 13), (.len (.t 12)), none⟩, ⟨(some 14), (.bin .lss (.t 11) (.t 13)), none⟩]) (.cond (.t 14) .skip (.exit 0))) (.seq (.block 1 (.seq (.dreg [(⟨(some 17), (.mv (.t 0)), none⟩, false), (⟨(some 18), (.mv (.t 5)), none⟩, false), (⟨(some 19), (.idxA 1 (.t 17) (.t 18)), none⟩, false), (⟨(some 20), (.ld 1 false (.t 19)), none⟩, false), (⟨(some 21), (.mv (.t 1)), none⟩, false), (⟨(some 22), (.mv (.t 5)), none⟩, false), (⟨(some 23), (.idxA 1 (.t 21) (.t 22)), none⟩, false), (⟨(some 24), (.ld 1 false (.t 23)), none⟩, false), (⟨(some 25), (.bin .neq (.t 20) (.t 24)), none⟩, false)]) (.cond (.t 25) (.seq (.reg [⟨(some 4), (.mv (.c (.bool false))), none⟩]) .ret) .skip))) (.reg [⟨(some 15), (.mv (.t 5)), none⟩, ⟨(some 16), (.bin .add (.t 15) (.c (.int .i64 (1)))), none⟩, ⟨(some 5), (.mv (.t 16)), none⟩])))))) (.seq (.reg [⟨(some 4), (.mv (.c (.bool true))), none⟩]) .ret)))), [(.tmp 4)]⟩
theorem hc26 : toSF Try.prog {} Try.f26 = some c26 := by kernel_rfl
theorem hn26 : (Try.f26.name == "runtime.NumGoroutine") = false := by kernel_rfl
theorem sameN_ok (a b : List Int) (ha : a.length ≤ 1073741824) (hb : b.length ≤ 1073741824) : PCalls Try.prog 26 [sl eInt a, sl eInt b] (.bool (a == b)) := by
  intro h
  refine dcalls_of_vc Try.func26 hn26 hc26 (by rw [Try.ntmps26]; simp) ?_
  simp -dsimp -implicitDefEqProofs (disch := omega) only [VC1, VC2, VC3, VC4, VC5, VC6, VC7, VC8, VC9, VC10, VC11, VC12, VC13, VC14, VC15, VC16, VC17, VC18, VC19, VC20, ↓upd_none, Nat.reduceEqDiff, Nat.reduceBEq, Nat.reduceAdd, Nat.reduceSub, Nat.reduceMul, Nat.reduceLT, Nat.reduceLeDiff, ↓reduceIte, reduceCtorEq, rsOf, rootsOf, SOp.rd, SI.rd, SX.rd, rdL, rdO, rdP, okParts, eqCells, okEqCells, fillA, okFill, setAt, implies_true, forall_const, forall_eq, ne_eq, exists_eq_right_right, exists_eq_right, exists_eq_left, exists_eq_left', eItem, eAttr, eInt, c26]
  refine Br.ne (fun h1 => ?_) (fun h1 => ?_)
  · simp -dsimp -implicitDefEqProofs (disch := omega) only [VC1, VC2, VC3, VC4, VC5, VC6, VC7, VC8, VC9, VC10, VC11, VC12, VC13, VC14, VC15, VC16, VC17, VC18, VC19, VC20, ↓upd_none, Nat.reduceEqDiff, Nat.reduceBEq, Nat.reduceAdd, Nat.reduceSub, Nat.reduceMul, Nat.reduceLT, Nat.reduceLeDiff, ↓reduceIte, reduceCtorEq, rsOf, rootsOf, SOp.rd, SI.rd, SX.rd, rdL, rdO, rdP, okParts, eqCells, okEqCells, fillA, okFill, setAt, implies_true, forall_const, forall_eq, ne_eq, exists_eq_right_right, exists_eq_right, exists_eq_left, exists_eq_left', eItem, eAttr, eInt]
    have : ¬ a = b := fun e => h1 (by rw [e])
    first | exact Sub.refl _ | exact ⟨Sub.refl _, by simp [this]⟩
  · simp -dsimp -implicitDefEqProofs (disch := omega) only [VC1, VC2, VC3, VC4, VC5, VC6, VC7, VC8, VC9, VC10, VC11, VC12, VC13, VC14, VC15, VC16, VC17, VC18, VC19, VC20, ↓upd_none, Nat.reduceEqDiff, Nat.reduceBEq, Nat.reduceAdd, Nat.reduceSub, Nat.reduceMul, Nat.reduceLT, Nat.reduceLeDiff, ↓reduceIte, reduceCtorEq, rsOf, rootsOf, SOp.rd, SI.rd, SX.rd, rdL, rdO, rdP, okParts, eqCells, okEqCells, fillA, okFill, setAt, implies_true, forall_const, forall_eq, ne_eq, exists_eq_right_right, exists_eq_right, exists_eq_left, exists_eq_left', eItem, eAttr, eInt]
    have h1' : a.length = b.length := by omega
    refine LoopVC.intro (fun m e h' => ∃ k : Nat, k ≤ a.length ∧ m = a.length - k ∧ e 0 = sl eInt a ∧ e 1 = sl eInt b ∧ e 5 = aInt k ∧ h' = h ∧ ∀ j, j < k → nth a j = nth b j) a.length ⟨0, by omega, by omega, rfl, rfl, rfl, rfl, fun j hj => absurd hj (Nat.not_lt_zero j)⟩ ?_
    rintro m e h' ⟨k, hk, rfl, he0, he1, he5, rfl, hj⟩
    simp -dsimp -implicitDefEqProofs (disch := omega) only [VC1, VC2, VC3, VC4, VC5, VC6, VC7, VC8, VC9, VC10, VC11, VC12, VC13, VC14, VC15, VC16, VC17, VC18, VC19, VC20, ↓upd_none, Nat.reduceEqDiff, Nat.reduceBEq, Nat.reduceAdd, Nat.reduceSub, Nat.reduceMul, Nat.reduceLT, Nat.reduceLeDiff, ↓reduceIte, reduceCtorEq, rsOf, rootsOf, SOp.rd, SI.rd, SX.rd, rdL, rdO, rdP, okParts, eqCells, okEqCells, fillA, okFill, setAt, implies_true, forall_const, forall_eq, ne_eq, exists_eq_right_right, exists_eq_right, exists_eq_left, exists_eq_left', eItem, eAttr, eInt, he0, he1, he5]
    refine Br.dec (fun hlt => ?_) (fun hge => ?_)
    · simp -dsimp -implicitDefEqProofs (disch := omega) only [VC1, VC2, VC3, VC4, VC5, VC6, VC7, VC8, VC9, VC10, VC11, VC12, VC13, VC14, VC15, VC16, VC17, VC18, VC19, VC20, ↓upd_none, Nat.reduceEqDiff, Nat.reduceBEq, Nat.reduceAdd, Nat.reduceSub, Nat.reduceMul, Nat.reduceLT, Nat.reduceLeDiff, ↓reduceIte, reduceCtorEq, rsOf, rootsOf, SOp.rd, SI.rd, SX.rd, rdL, rdO, rdP, okParts, eqCells, okEqCells, fillA, okFill, setAt, implies_true, forall_const, forall_eq, ne_eq, exists_eq_right_right, exists_eq_right, exists_eq_left, exists_eq_left', eItem, eAttr, eInt, he0, he1, he5]
      refine ⟨by omega, by omega, Br.ne (fun h2 => ?_) (fun h2 => ?_)⟩
      · simp -dsimp -implicitDefEqProofs (disch := omega) only [VC1, VC2, VC3, VC4, VC5, VC6, VC7, VC8, VC9, VC10, VC11, VC12, VC13, VC14, VC15, VC16, VC17, VC18, VC19, VC20, ↓upd_none, Nat.reduceEqDiff, Nat.reduceBEq, Nat.reduceAdd, Nat.reduceSub, Nat.reduceMul, Nat.reduceLT, Nat.reduceLeDiff, ↓reduceIte, reduceCtorEq, rsOf, rootsOf, SOp.rd, SI.rd, SX.rd, rdL, rdO, rdP, okParts, eqCells, okEqCells, fillA, okFill, setAt, implies_true, forall_const, forall_eq, ne_eq, exists_eq_right_right, exists_eq_right, exists_eq_left, exists_eq_left', eItem, eAttr, eInt]
        have : ¬ a = b := fun e => h2 (by rw [e])
        first | exact Sub.refl _ | exact ⟨Sub.refl _, by simp [this]⟩
      · simp -dsimp -implicitDefEqProofs (disch := omega) only [VC1, VC2, VC3, VC4, VC5, VC6, VC7, VC8, VC9, VC10, VC11, VC12, VC13, VC14, VC15, VC16, VC17, VC18, VC19, VC20, ↓upd_none, Nat.reduceEqDiff, Nat.reduceBEq, Nat.reduceAdd, Nat.reduceSub, Nat.reduceMul, Nat.reduceLT, Nat.reduceLeDiff, ↓reduceIte, reduceCtorEq, rsOf, rootsOf, SOp.rd, SI.rd, SX.rd, rdL, rdO, rdP, okParts, eqCells, okEqCells, fillA, okFill, setAt, implies_true, forall_const, forall_eq, ne_eq, exists_eq_right_right, exists_eq_right, exists_eq_left, exists_eq_left', eItem, eAttr, eInt, he0, he1, he5]
        refine ⟨_, ?_, k + 1, by omega, rfl, by omega, fun j hj' => ?_⟩
        · omega
        · by_cases h3 : j = k
          · subst h3; exact h2
          · exact hj j (by omega)
    · simp -dsimp -implicitDefEqProofs (disch := omega) only [VC1, VC2, VC3, VC4, VC5, VC6, VC7, VC8, VC9, VC10, VC11, VC12, VC13, VC14, VC15, VC16, VC17, VC18, VC19, VC20, ↓upd_none, Nat.reduceEqDiff, Nat.reduceBEq, Nat.reduceAdd, Nat.reduceSub, Nat.reduceMul, Nat.reduceLT, Nat.reduceLeDiff, ↓reduceIte, reduceCtorEq, rsOf, rootsOf, SOp.rd, SI.rd, SX.rd, rdL, rdO, rdP, okParts, eqCells, okEqCells, fillA, okFill, setAt, implies_true, forall_const, forall_eq, ne_eq, exists_eq_right_right, exists_eq_right, exists_eq_left, exists_eq_left', eItem, eAttr, eInt]
      have : a = b := ext_nth h1' (fun j hj' => hj j (by omega))
      first | exact Sub.refl _ | exact ⟨Sub.refl _, by simp [this]⟩
end Go.Proofs.K
