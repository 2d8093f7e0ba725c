/- Attributes, and lists of numbers. -/
import Derived.Test.YtmfechcelhchcaaDoorLst
set_option linter.unusedSimpArgs false
set_option linter.unusedVariables false
namespace Go.Proofs.K
open Go Go.Sim Go.Proofs
variable {G : Glob}

structure HAttr where
  name : List UInt8
  value : List UInt8
deriving DecidableEq, Inhabited
def eAttr (a : HAttr) : List AVal := [.str a.name, .str a.value]
instance : LenE eAttr 2 := ⟨fun _ => rfl⟩
theorem eAttr_beq (x y : HAttr) : (x == y) = (x.name == y.name && x.value == y.value) := by
  cases x; cases y; rw [Bool.eq_iff_iff]; simp

def c80 : SFun := ⟨(.seq (.reg [⟨(some 2), (.mv (.c .emp)), none⟩]) (.seq (.seq (.reg [⟨(some 3), (.mv (.t 0)), none⟩, ⟨(some 4), (.isnil 0 false (.t 3)), none⟩]) (.cond (.t 4) (.seq (.reg [⟨(some 2), (.mv (.c .emp)), none⟩]) .ret) .skip)) (.seq (.reg [⟨(some 5), (.bldF 122 2 []), none⟩, ⟨(some 6), (.mv (.t 0)), none⟩, ⟨(some 7), (.app 122 2 32 (.t 5) (.t 6)), none⟩, ⟨(some 2), (.mv (.t 7)), none⟩]) .ret))), [(.tmp 2)]⟩
theorem hc80 : toSF Tryd.prog {} Tryd.f80 = some c80 := by kernel_rfl
theorem hn80 : (Tryd.f80.name == "runtime.NumGoroutine") = false := by kernel_rfl
theorem cloneA_own {h : Heap} (l : List HAttr) (hl : l.length ≤ 1073741824) : DCalls (Pg G) 80 [sl eAttr l] h (AccK h 122 2 (l.map eAttr)) := by
  refine dcalls_of_vc Tryd.func80 hn80 hc80 (by rw [Tryd.ntmps80]; simp) (by rw [Tryd.ntmps80]; decide) ?_
  simp -dsimp -implicitDefEqProofs (disch := omega) only [VCA, pg_gl, ↓upd_none, Nat.reduceEqDiff, Nat.reduceBEq, Nat.reduceAdd, Nat.reduceSub, Nat.reduceMul, Nat.reduceLT, Nat.reduceLeDiff, ↓reduceIte, reduceCtorEq, rsOf, rootsOf, SOp.rd, SI.rd, SX.rd, rdL, rdO, rdP, okParts, eqCells, okEqCells, fillA, okFill, setAt, implies_true, forall_const, forall_eq, ne_eq, exists_eq_right_right, exists_eq_right, exists_eq_left, exists_eq_left', eAttr, eInt, c80]
  intro b hb
  refine Br.intro (fun ht => ?_) (fun hf => ?_)
  · simp -dsimp -implicitDefEqProofs (disch := omega) only [VCA, pg_gl, ↓upd_none, Nat.reduceEqDiff, Nat.reduceBEq, Nat.reduceAdd, Nat.reduceSub, Nat.reduceMul, Nat.reduceLT, Nat.reduceLeDiff, ↓reduceIte, reduceCtorEq, rsOf, rootsOf, SOp.rd, SI.rd, SX.rd, rdL, rdO, rdP, okParts, eqCells, okEqCells, fillA, okFill, setAt, implies_true, forall_const, forall_eq, ne_eq, exists_eq_right_right, exists_eq_right, exists_eq_left, exists_eq_left', eAttr, eInt]
    have : l = [] := hb (by simpa using ht)
    subst this
    exact ⟨_, Sub.refl _, Acc.nil, Sub.refl _⟩
  · simp -dsimp -implicitDefEqProofs (disch := omega) only [VCA, pg_gl, ↓upd_none, Nat.reduceEqDiff, Nat.reduceBEq, Nat.reduceAdd, Nat.reduceSub, Nat.reduceMul, Nat.reduceLT, Nat.reduceLeDiff, ↓reduceIte, reduceCtorEq, rsOf, rootsOf, SOp.rd, SI.rd, SX.rd, rdL, rdO, rdP, okParts, eqCells, okEqCells, fillA, okFill, setAt, implies_true, forall_const, forall_eq, ne_eq, exists_eq_right_right, exists_eq_right, exists_eq_left, exists_eq_left', eAttr, eInt]
    refine ⟨by omega, by omega, fun r hr => ?_⟩
    exact ⟨_, Sub.refl _, by simpa using Acc.root (cells := l.map eAttr) hr (upd_same _ _ _), (Sub.refl _).upd hr⟩
theorem cloneA_ok (l : List HAttr) (hl : l.length ≤ 1073741824) : PCalls (Pg G) 80 [sl eAttr l] (sl eAttr l) := PCalls.acc fun h => cloneA_own l hl
def c138 : SFun := ⟨(.seq (.reg [⟨(some 4), (.mv (.c (.bool false))), none⟩]) (.seq (.seq (.reg [⟨(some 6), (.mv (.t 0)), none⟩, ⟨(some 7), (.len (.t 6)), none⟩, ⟨(some 8), (.mv (.t 1)), none⟩, ⟨(some 9), (.len (.t 8)), none⟩, ⟨(some 10), (.bin .neq (.t 7) (.t 9)), none⟩]) (.cond (.t 10) (.seq (.reg [⟨(some 4), (.mv (.c (.bool false))), none⟩]) .ret) .skip)) (.seq (.seq (.reg [⟨(some 5), (.mv (.c (.int .i64 (0)))), none⟩]) (.block 0 (.loop (.seq (.seq (.reg [⟨(some 11), (.mv (.t 5)), none⟩, ⟨(some 12), (.mv (.t 0)), none⟩, ⟨(some 13), (.len (.t 12)), none⟩, ⟨(some 14), (.bin .lss (.t 11) (.t 13)), none⟩]) (.cond (.t 14) .skip (.exit 0))) (.seq (.block 1 (.seq (.dreg [(⟨(some 17), (.mv (.t 0)), none⟩, none), (⟨(some 18), (.mv (.t 5)), none⟩, none), (⟨(some 19), (.idxA 2 (.t 17) (.t 18)), none⟩, none), (⟨(some 20), (.ld 2 true (.t 19)), none⟩, none), (⟨(some 21), (.mv (.t 1)), none⟩, none), (⟨(some 22), (.mv (.t 5)), none⟩, none), (⟨(some 23), (.idxA 2 (.t 21) (.t 22)), none⟩, none), (⟨(some 24), (.ld 2 true (.t 23)), none⟩, none), (⟨(some 25), (.eqs true [1, 1] (.t 20) (.t 24)), none⟩, none)]) (.cond (.t 25) (.seq (.reg [⟨(some 4), (.mv (.c (.bool false))), none⟩]) .ret) .skip))) (.reg [⟨(some 15), (.mv (.t 5)), none⟩, ⟨(some 16), (.bin .add (.t 15) (.c (.int .i64 (1)))), none⟩, ⟨(some 5), (.mv (.t 16)), none⟩])))))) (.seq (.reg [⟨(some 4), (.mv (.c (.bool true))), none⟩]) .ret)))), [(.tmp 4)]⟩
theorem hc138 : toSF Tryd.prog {} Tryd.f138 = some c138 := by kernel_rfl
theorem hn138 : (Tryd.f138.name == "runtime.NumGoroutine") = false := by kernel_rfl
theorem sameA_ok (a b : List HAttr) (ha : a.length ≤ 1073741824) (hb : b.length ≤ 1073741824) : PCalls (Pg G) 138 [sl eAttr a, sl eAttr b] (.bool (a == b)) := by
  intro h
  refine dcalls_of_vc Tryd.func138 hn138 hc138 (by rw [Tryd.ntmps138]; simp) (by rw [Tryd.ntmps138]; decide) ?_
  simp -dsimp -implicitDefEqProofs (disch := omega) only [VCA, pg_gl, ↓upd_none, Nat.reduceEqDiff, Nat.reduceBEq, Nat.reduceAdd, Nat.reduceSub, Nat.reduceMul, Nat.reduceLT, Nat.reduceLeDiff, ↓reduceIte, reduceCtorEq, rsOf, rootsOf, SOp.rd, SI.rd, SX.rd, rdL, rdO, rdP, okParts, eqCells, okEqCells, fillA, okFill, setAt, implies_true, forall_const, forall_eq, ne_eq, exists_eq_right_right, exists_eq_right, exists_eq_left, exists_eq_left', eAttr, eInt, c138]
  refine Br.ne (fun h1 => ?_) (fun h1 => ?_)
  · simp -dsimp -implicitDefEqProofs (disch := omega) only [VCA, pg_gl, ↓upd_none, Nat.reduceEqDiff, Nat.reduceBEq, Nat.reduceAdd, Nat.reduceSub, Nat.reduceMul, Nat.reduceLT, Nat.reduceLeDiff, ↓reduceIte, reduceCtorEq, rsOf, rootsOf, SOp.rd, SI.rd, SX.rd, rdL, rdO, rdP, okParts, eqCells, okEqCells, fillA, okFill, setAt, implies_true, forall_const, forall_eq, ne_eq, exists_eq_right_right, exists_eq_right, exists_eq_left, exists_eq_left', eAttr, eInt]
    have : ¬ a = b := fun e => h1 (by rw [e])
    first | exact Sub.refl _ | exact ⟨Sub.refl _, by simp [this]⟩
  · simp -dsimp -implicitDefEqProofs (disch := omega) only [VCA, pg_gl, ↓upd_none, Nat.reduceEqDiff, Nat.reduceBEq, Nat.reduceAdd, Nat.reduceSub, Nat.reduceMul, Nat.reduceLT, Nat.reduceLeDiff, ↓reduceIte, reduceCtorEq, rsOf, rootsOf, SOp.rd, SI.rd, SX.rd, rdL, rdO, rdP, okParts, eqCells, okEqCells, fillA, okFill, setAt, implies_true, forall_const, forall_eq, ne_eq, exists_eq_right_right, exists_eq_right, exists_eq_left, exists_eq_left', eAttr, eInt]
    have h1' : a.length = b.length := by omega
    refine LoopVC.intro (fun m e h' => ∃ k : Nat, k ≤ a.length ∧ m = a.length - k ∧ e 0 = sl eAttr a ∧ e 1 = sl eAttr b ∧ e 5 = aInt k ∧ h' = h ∧ ∀ j, j < k → nth a j = nth b j) a.length ⟨0, by omega, by omega, rfl, rfl, rfl, rfl, fun j hj => absurd hj (Nat.not_lt_zero j)⟩ ?_
    rintro m e h' ⟨k, hk, rfl, he0, he1, he5, rfl, hj⟩
    simp -dsimp -implicitDefEqProofs (disch := omega) only [VCA, pg_gl, ↓upd_none, Nat.reduceEqDiff, Nat.reduceBEq, Nat.reduceAdd, Nat.reduceSub, Nat.reduceMul, Nat.reduceLT, Nat.reduceLeDiff, ↓reduceIte, reduceCtorEq, rsOf, rootsOf, SOp.rd, SI.rd, SX.rd, rdL, rdO, rdP, okParts, eqCells, okEqCells, fillA, okFill, setAt, implies_true, forall_const, forall_eq, ne_eq, exists_eq_right_right, exists_eq_right, exists_eq_left, exists_eq_left', eAttr, eInt, he0, he1, he5]
    refine Br.dec (fun hlt => ?_) (fun hge => ?_)
    · simp -dsimp -implicitDefEqProofs (disch := omega) only [VCA, pg_gl, ↓upd_none, Nat.reduceEqDiff, Nat.reduceBEq, Nat.reduceAdd, Nat.reduceSub, Nat.reduceMul, Nat.reduceLT, Nat.reduceLeDiff, ↓reduceIte, reduceCtorEq, rsOf, rootsOf, SOp.rd, SI.rd, SX.rd, rdL, rdO, rdP, okParts, eqCells, okEqCells, fillA, okFill, setAt, implies_true, forall_const, forall_eq, ne_eq, exists_eq_right_right, exists_eq_right, exists_eq_left, exists_eq_left', eAttr, eInt, he0, he1, he5]
      refine ⟨by omega, by omega, ?_⟩
      refine Br.intro (fun h2 => ?_) (fun h2 => ?_)
      · simp -dsimp -implicitDefEqProofs (disch := omega) only [VCA, pg_gl, ↓upd_none, Nat.reduceEqDiff, Nat.reduceBEq, Nat.reduceAdd, Nat.reduceSub, Nat.reduceMul, Nat.reduceLT, Nat.reduceLeDiff, ↓reduceIte, reduceCtorEq, rsOf, rootsOf, SOp.rd, SI.rd, SX.rd, rdL, rdO, rdP, okParts, eqCells, okEqCells, fillA, okFill, setAt, implies_true, forall_const, forall_eq, ne_eq, exists_eq_right_right, exists_eq_right, exists_eq_left, exists_eq_left', eAttr, eInt]
        have : ¬ a = b := fun e => by subst e; simp at h2
        first | exact Sub.refl _ | exact ⟨Sub.refl _, by simp [this]⟩
      · simp -dsimp -implicitDefEqProofs (disch := omega) only [VCA, pg_gl, ↓upd_none, Nat.reduceEqDiff, Nat.reduceBEq, Nat.reduceAdd, Nat.reduceSub, Nat.reduceMul, Nat.reduceLT, Nat.reduceLeDiff, ↓reduceIte, reduceCtorEq, rsOf, rootsOf, SOp.rd, SI.rd, SX.rd, rdL, rdO, rdP, okParts, eqCells, okEqCells, fillA, okFill, setAt, implies_true, forall_const, forall_eq, ne_eq, exists_eq_right_right, exists_eq_right, exists_eq_left, exists_eq_left', eAttr, eInt, he0, he1, he5]
        refine ⟨_, ?_, k + 1, by omega, rfl, by omega, fun j hj' => ?_⟩
        · omega
        · by_cases h3 : j = k
          · subst h3
            have : (nth a j == nth b j) = true := by rw [eAttr_beq]; simpa using h2
            simpa using this
          · exact hj j (by omega)
    · simp -dsimp -implicitDefEqProofs (disch := omega) only [VCA, pg_gl, ↓upd_none, Nat.reduceEqDiff, Nat.reduceBEq, Nat.reduceAdd, Nat.reduceSub, Nat.reduceMul, Nat.reduceLT, Nat.reduceLeDiff, ↓reduceIte, reduceCtorEq, rsOf, rootsOf, SOp.rd, SI.rd, SX.rd, rdL, rdO, rdP, okParts, eqCells, okEqCells, fillA, okFill, setAt, implies_true, forall_const, forall_eq, ne_eq, exists_eq_right_right, exists_eq_right, exists_eq_left, exists_eq_left', eAttr, eInt]
      have : a = b := ext_nth h1' (fun j hj' => hj j (by omega))
      first | exact Sub.refl _ | exact ⟨Sub.refl _, by simp [this]⟩
def c30 : SFun := ⟨(.seq (.reg [⟨(some 4), (.mv (.c (.bool false))), none⟩]) (.seq (.seq (.reg [⟨(some 6), (.mv (.t 0)), none⟩, ⟨(some 7), (.len (.t 6)), none⟩, ⟨(some 8), (.mv (.t 1)), none⟩, ⟨(some 9), (.len (.t 8)), none⟩, ⟨(some 10), (.bin .neq (.t 7) (.t 9)), none⟩]) (.cond (.t 10) (.seq (.reg [⟨(some 4), (.mv (.c (.bool false))), none⟩]) .ret) .skip)) (.seq (.seq (.reg [⟨(some 5), (.mv (.c (.int .i64 (0)))), none⟩]) (.block 0 (.loop (.seq (.seq (.reg [⟨(some 11), (.mv (.t 5)), none⟩, ⟨(some 12), (.mv (.t 0)), none⟩, ⟨(some 13), (.len (.t 12)), none⟩, ⟨(some 14), (.bin .lss (.t 11) (.t 13)), none⟩]) (.cond (.t 14) .skip (.exit 0))) (.seq (.block 1 (.seq (.dreg [(⟨(some 17), (.mv (.t 0)), none⟩, none), (⟨(some 18), (.mv (.t 5)), none⟩, none), (⟨(some 19), (.idxA 1 (.t 17) (.t 18)), none⟩, none), (⟨(some 20), (.ld 1 false (.t 19)), none⟩, none), (⟨(some 21), (.mv (.t 1)), none⟩, none), (⟨(some 22), (.mv (.t 5)), none⟩, none), (⟨(some 23), (.idxA 1 (.t 21) (.t 22)), none⟩, none), (⟨(some 24), (.ld 1 false (.t 23)), none⟩, none), (⟨(some 25), (.bin .neq (.t 20) (.t 24)), none⟩, none)]) (.cond (.t 25) (.seq (.reg [⟨(some 4), (.mv (.c (.bool false))), none⟩]) .ret) .skip))) (.reg [⟨(some 15), (.mv (.t 5)), none⟩, ⟨(some 16), (.bin .add (.t 15) (.c (.int .i64 (1)))), none⟩, ⟨(some 5), (.mv (.t 16)), none⟩])))))) (.seq (.reg [⟨(some 4), (.mv (.c (.bool true))), none⟩]) .ret)))), [(.tmp 4)]⟩
theorem hc30 : toSF Tryd.prog {} Tryd.f30 = some c30 := by kernel_rfl
theorem hn30 : (Tryd.f30.name == "runtime.NumGoroutine") = false := by kernel_rfl
theorem sameN_ok (a b : List Int) (ha : a.length ≤ 1073741824) (hb : b.length ≤ 1073741824) : PCalls (Pg G) 30 [sl eInt a, sl eInt b] (.bool (a == b)) := by
  intro h
  refine dcalls_of_vc Tryd.func30 hn30 hc30 (by rw [Tryd.ntmps30]; simp) (by rw [Tryd.ntmps30]; decide) ?_
  simp -dsimp -implicitDefEqProofs (disch := omega) only [VCA, pg_gl, ↓upd_none, Nat.reduceEqDiff, Nat.reduceBEq, Nat.reduceAdd, Nat.reduceSub, Nat.reduceMul, Nat.reduceLT, Nat.reduceLeDiff, ↓reduceIte, reduceCtorEq, rsOf, rootsOf, SOp.rd, SI.rd, SX.rd, rdL, rdO, rdP, okParts, eqCells, okEqCells, fillA, okFill, setAt, implies_true, forall_const, forall_eq, ne_eq, exists_eq_right_right, exists_eq_right, exists_eq_left, exists_eq_left', eAttr, eInt, c30]
  refine Br.ne (fun h1 => ?_) (fun h1 => ?_)
  · simp -dsimp -implicitDefEqProofs (disch := omega) only [VCA, pg_gl, ↓upd_none, Nat.reduceEqDiff, Nat.reduceBEq, Nat.reduceAdd, Nat.reduceSub, Nat.reduceMul, Nat.reduceLT, Nat.reduceLeDiff, ↓reduceIte, reduceCtorEq, rsOf, rootsOf, SOp.rd, SI.rd, SX.rd, rdL, rdO, rdP, okParts, eqCells, okEqCells, fillA, okFill, setAt, implies_true, forall_const, forall_eq, ne_eq, exists_eq_right_right, exists_eq_right, exists_eq_left, exists_eq_left', eAttr, eInt]
    have : ¬ a = b := fun e => h1 (by rw [e])
    first | exact Sub.refl _ | exact ⟨Sub.refl _, by simp [this]⟩
  · simp -dsimp -implicitDefEqProofs (disch := omega) only [VCA, pg_gl, ↓upd_none, Nat.reduceEqDiff, Nat.reduceBEq, Nat.reduceAdd, Nat.reduceSub, Nat.reduceMul, Nat.reduceLT, Nat.reduceLeDiff, ↓reduceIte, reduceCtorEq, rsOf, rootsOf, SOp.rd, SI.rd, SX.rd, rdL, rdO, rdP, okParts, eqCells, okEqCells, fillA, okFill, setAt, implies_true, forall_const, forall_eq, ne_eq, exists_eq_right_right, exists_eq_right, exists_eq_left, exists_eq_left', eAttr, eInt]
    have h1' : a.length = b.length := by omega
    refine LoopVC.intro (fun m e h' => ∃ k : Nat, k ≤ a.length ∧ m = a.length - k ∧ e 0 = sl eInt a ∧ e 1 = sl eInt b ∧ e 5 = aInt k ∧ h' = h ∧ ∀ j, j < k → nth a j = nth b j) a.length ⟨0, by omega, by omega, rfl, rfl, rfl, rfl, fun j hj => absurd hj (Nat.not_lt_zero j)⟩ ?_
    rintro m e h' ⟨k, hk, rfl, he0, he1, he5, rfl, hj⟩
    simp -dsimp -implicitDefEqProofs (disch := omega) only [VCA, pg_gl, ↓upd_none, Nat.reduceEqDiff, Nat.reduceBEq, Nat.reduceAdd, Nat.reduceSub, Nat.reduceMul, Nat.reduceLT, Nat.reduceLeDiff, ↓reduceIte, reduceCtorEq, rsOf, rootsOf, SOp.rd, SI.rd, SX.rd, rdL, rdO, rdP, okParts, eqCells, okEqCells, fillA, okFill, setAt, implies_true, forall_const, forall_eq, ne_eq, exists_eq_right_right, exists_eq_right, exists_eq_left, exists_eq_left', eAttr, eInt, he0, he1, he5]
    refine Br.dec (fun hlt => ?_) (fun hge => ?_)
    · simp -dsimp -implicitDefEqProofs (disch := omega) only [VCA, pg_gl, ↓upd_none, Nat.reduceEqDiff, Nat.reduceBEq, Nat.reduceAdd, Nat.reduceSub, Nat.reduceMul, Nat.reduceLT, Nat.reduceLeDiff, ↓reduceIte, reduceCtorEq, rsOf, rootsOf, SOp.rd, SI.rd, SX.rd, rdL, rdO, rdP, okParts, eqCells, okEqCells, fillA, okFill, setAt, implies_true, forall_const, forall_eq, ne_eq, exists_eq_right_right, exists_eq_right, exists_eq_left, exists_eq_left', eAttr, eInt, he0, he1, he5]
      refine ⟨by omega, by omega, Br.ne (fun h2 => ?_) (fun h2 => ?_)⟩
      · simp -dsimp -implicitDefEqProofs (disch := omega) only [VCA, pg_gl, ↓upd_none, Nat.reduceEqDiff, Nat.reduceBEq, Nat.reduceAdd, Nat.reduceSub, Nat.reduceMul, Nat.reduceLT, Nat.reduceLeDiff, ↓reduceIte, reduceCtorEq, rsOf, rootsOf, SOp.rd, SI.rd, SX.rd, rdL, rdO, rdP, okParts, eqCells, okEqCells, fillA, okFill, setAt, implies_true, forall_const, forall_eq, ne_eq, exists_eq_right_right, exists_eq_right, exists_eq_left, exists_eq_left', eAttr, eInt]
        have : ¬ a = b := fun e => h2 (by rw [e])
        first | exact Sub.refl _ | exact ⟨Sub.refl _, by simp [this]⟩
      · simp -dsimp -implicitDefEqProofs (disch := omega) only [VCA, pg_gl, ↓upd_none, Nat.reduceEqDiff, Nat.reduceBEq, Nat.reduceAdd, Nat.reduceSub, Nat.reduceMul, Nat.reduceLT, Nat.reduceLeDiff, ↓reduceIte, reduceCtorEq, rsOf, rootsOf, SOp.rd, SI.rd, SX.rd, rdL, rdO, rdP, okParts, eqCells, okEqCells, fillA, okFill, setAt, implies_true, forall_const, forall_eq, ne_eq, exists_eq_right_right, exists_eq_right, exists_eq_left, exists_eq_left', eAttr, eInt, he0, he1, he5]
        refine ⟨_, ?_, k + 1, by omega, rfl, by omega, fun j hj' => ?_⟩
        · omega
        · by_cases h3 : j = k
          · subst h3; exact h2
          · exact hj j (by omega)
    · simp -dsimp -implicitDefEqProofs (disch := omega) only [VCA, pg_gl, ↓upd_none, Nat.reduceEqDiff, Nat.reduceBEq, Nat.reduceAdd, Nat.reduceSub, Nat.reduceMul, Nat.reduceLT, Nat.reduceLeDiff, ↓reduceIte, reduceCtorEq, rsOf, rootsOf, SOp.rd, SI.rd, SX.rd, rdL, rdO, rdP, okParts, eqCells, okEqCells, fillA, okFill, setAt, implies_true, forall_const, forall_eq, ne_eq, exists_eq_right_right, exists_eq_right, exists_eq_left, exists_eq_left', eAttr, eInt]
      have : a = b := ext_nth h1' (fun j hj' => hj j (by omega))
      first | exact Sub.refl _ | exact ⟨Sub.refl _, by simp [this]⟩
end Go.Proofs.K
