/- chars: bytes to signs. -/
import Derived.Test.YtlehoolkjkdncaaDoorChr
set_option linter.unusedSimpArgs false
set_option linter.unusedVariables false
namespace Go.Proofs.K
open Go Go.Sim Go.Proofs
variable {G : Glob}

/-- how many bytes are behind a first byte, and from where to where the first of them goes -/
def leadM (b : Int) : Int × Int × Int :=
  if b < 128 then (0, 128, 191)
  else if 194 ≤ b ∧ b ≤ 223 then (1, 128, 191)
  else if 224 ≤ b ∧ b ≤ 239 then (2, if b = 224 then 160 else 128, if b = 237 then 159 else 191)
  else if 240 ≤ b ∧ b ≤ 244 then (3, if b = 240 then 144 else 128, if b = 244 then 143 else 191)
  else (-1, 128, 191)
def c44 : SFun := ⟨(.seq (.reg [⟨(some 2), (.mv (.c (.int .i64 (0)))), none⟩, ⟨(some 3), (.mv (.c (.int .u8 (0)))), none⟩, ⟨(some 4), (.mv (.c (.int .u8 (0)))), none⟩]) (.seq (.reg [⟨(some 3), (.mv (.c (.int .u8 (128)))), none⟩, ⟨(some 4), (.mv (.c (.int .u8 (191)))), none⟩]) (.seq (.block 0 (.seq (.reg [⟨(some 8), (.mv (.t 0)), none⟩, ⟨(some 9), (.bin .lss (.t 8) (.c (.int .u8 (128)))), none⟩, ⟨(some 7), (.mv (.t 9)), none⟩]) (.cond (.t 7) (.seq (.reg [⟨(some 10), (.mv (.t 3)), none⟩, ⟨(some 11), (.mv (.t 4)), none⟩, ⟨(some 2), (.mv (.c (.int .i64 (0)))), none⟩, ⟨(some 3), (.mv (.t 10)), none⟩, ⟨(some 4), (.mv (.t 11)), none⟩]) .ret) (.seq (.reg [⟨(some 13), (.mv (.t 0)), none⟩, ⟨(some 14), (.bin .geq (.t 13) (.c (.int .u8 (194)))), none⟩, ⟨(some 15), (.mv (.t 14)), none⟩, ⟨(some 16), (.mv (.t 0)), (some (15, true))⟩, ⟨(some 17), (.bin .leq (.t 16) (.c (.int .u8 (223)))), (some (15, true))⟩, ⟨(some 18), (.pick (.t 15) (.t 17) (.c (.bool false))), none⟩, ⟨(some 12), (.mv (.t 18)), none⟩]) (.cond (.t 12) (.seq (.reg [⟨(some 19), (.mv (.t 3)), none⟩, ⟨(some 20), (.mv (.t 4)), none⟩, ⟨(some 2), (.mv (.c (.int .i64 (1)))), none⟩, ⟨(some 3), (.mv (.t 19)), none⟩, ⟨(some 4), (.mv (.t 20)), none⟩]) .ret) (.seq (.reg [⟨(some 22), (.mv (.t 0)), none⟩, ⟨(some 23), (.bin .geq (.t 22) (.c (.int .u8 (224)))), none⟩, ⟨(some 24), (.mv (.t 23)), none⟩, ⟨(some 25), (.mv (.t 0)), (some (24, true))⟩, ⟨(some 26), (.bin .leq (.t 25) (.c (.int .u8 (239)))), (some (24, true))⟩, ⟨(some 27), (.pick (.t 24) (.t 26) (.c (.bool false))), none⟩, ⟨(some 21), (.mv (.t 27)), none⟩]) (.cond (.t 21) (.reg [⟨(some 2), (.mv (.c (.int .i64 (2)))), none⟩]) (.seq (.reg [⟨(some 29), (.mv (.t 0)), none⟩, ⟨(some 30), (.bin .geq (.t 29) (.c (.int .u8 (240)))), none⟩, ⟨(some 31), (.mv (.t 30)), none⟩, ⟨(some 32), (.mv (.t 0)), (some (31, true))⟩, ⟨(some 33), (.bin .leq (.t 32) (.c (.int .u8 (244)))), (some (31, true))⟩, ⟨(some 34), (.pick (.t 31) (.t 33) (.c (.bool false))), none⟩, ⟨(some 28), (.mv (.t 34)), none⟩]) (.cond (.t 28) (.reg [⟨(some 2), (.mv (.c (.int .i64 (3)))), none⟩]) (.seq (.reg [⟨(some 5), (.mv (.t 3)), none⟩, ⟨(some 6), (.mv (.t 4)), none⟩, ⟨(some 2), (.mv (.c (.int .i64 (-1)))), none⟩, ⟨(some 3), (.mv (.t 5)), none⟩, ⟨(some 4), (.mv (.t 6)), none⟩]) .ret)))))))))) (.seq (.seq (.reg [⟨(some 35), (.mv (.t 0)), none⟩]) (.block 1 (.seq (.reg [⟨(some 37), (.bin .eql (.t 35) (.c (.int .u8 (224)))), none⟩, ⟨(some 36), (.mv (.t 37)), none⟩]) (.cond (.t 36) (.reg [⟨(some 3), (.mv (.c (.int .u8 (160)))), none⟩]) (.seq (.reg [⟨(some 39), (.bin .eql (.t 35) (.c (.int .u8 (237)))), none⟩, ⟨(some 38), (.mv (.t 39)), none⟩]) (.cond (.t 38) (.reg [⟨(some 4), (.mv (.c (.int .u8 (159)))), none⟩]) (.seq (.reg [⟨(some 41), (.bin .eql (.t 35) (.c (.int .u8 (240)))), none⟩, ⟨(some 40), (.mv (.t 41)), none⟩]) (.cond (.t 40) (.reg [⟨(some 3), (.mv (.c (.int .u8 (144)))), none⟩]) (.seq (.reg [⟨(some 43), (.bin .eql (.t 35) (.c (.int .u8 (244)))), none⟩, ⟨(some 42), (.mv (.t 43)), none⟩]) (.cond (.t 42) (.reg [⟨(some 4), (.mv (.c (.int .u8 (143)))), none⟩]) .skip)))))))))) (.seq (.reg [⟨(some 44), (.mv (.t 2)), none⟩, ⟨(some 45), (.mv (.t 3)), none⟩, ⟨(some 46), (.mv (.t 4)), none⟩, ⟨(some 2), (.mv (.t 44)), none⟩, ⟨(some 3), (.mv (.t 45)), none⟩, ⟨(some 4), (.mv (.t 46)), none⟩]) .ret))))), [(.tmp 2), (.tmp 3), (.tmp 4)]⟩
theorem hc44 : toSF Tryd.prog {} Tryd.f44 = some c44 := by kernel_rfl
theorem hn44 : (Tryd.f44.name == "runtime.NumGoroutine") = false := by kernel_rfl
theorem lead_ok (b : Int) (h0 : 0 ≤ b) (h1 : b < 256) : PCalls (Pg G) 44 [.int .u8 b] (.tup [aInt (leadM b).1, .int .u8 (leadM b).2.1, .int .u8 (leadM b).2.2]) := fun h => by
  refine dcalls_of_vc Tryd.func44 hn44 hc44 (by rw [Tryd.ntmps44]; simp) (by rw [Tryd.ntmps44]; decide) ?_
  rcases (by omega : (0 ≤ b ∧ b ≤ 127) ∨ (128 ≤ b ∧ b ≤ 193) ∨ (194 ≤ b ∧ b ≤ 223) ∨ (224 ≤ b ∧ b ≤ 224) ∨ (225 ≤ b ∧ b ≤ 236) ∨ (237 ≤ b ∧ b ≤ 237) ∨ (238 ≤ b ∧ b ≤ 239) ∨ (240 ≤ b ∧ b ≤ 240) ∨ (241 ≤ b ∧ b ≤ 243) ∨ (244 ≤ b ∧ b ≤ 244) ∨ (245 ≤ b ∧ b ≤ 255)) with hc | hc | hc | hc | hc | hc | hc | hc | hc | hc | hc
  · have hm : leadM b = (0, 128, 191) := by
      unfold leadM; repeat' split
      all_goals first | omega | (simp; omega) | rfl
    have f0 : decide (b < 128) = true := by simp; omega
    have f1 : decide (194 ≤ b) = false := by simp; omega
    have f2 : decide (224 ≤ b) = false := by simp; omega
    have f3 : decide (240 ≤ b) = false := by simp; omega
    have f4 : decide (b ≤ 223) = true := by simp; omega
    have f5 : decide (b ≤ 239) = true := by simp; omega
    have f6 : decide (b ≤ 244) = true := by simp; omega
    have f7 : (b == 224) = false := by simp; omega
    have f8 : (b == 237) = false := by simp; omega
    have f9 : (b == 240) = false := by simp; omega
    have f10 : (b == 244) = false := by simp; omega
    rw [hm]
    simp -dsimp -implicitDefEqProofs (disch := omega) only [↓vcOps_sp 15, ↓vcD_sp 15, ↓vcOps_sp 24, ↓vcD_sp 24, ↓vcOps_sp 31, ↓vcD_sp 31, VCA, pg_gl, ↓upd_none, Nat.reduceEqDiff, Nat.reduceBEq, Nat.reduceAdd, Nat.reduceSub, Nat.reduceMul, Nat.reduceLT, Nat.reduceLeDiff, ↓reduceIte, reduceCtorEq, rsOf, rootsOf, SOp.rd, SI.rd, SX.rd, rdL, rdO, rdP, okParts, eqCells, okEqCells, fillA, okFill, setAt, implies_true, forall_const, forall_eq, ne_eq, exists_eq_right_right, exists_eq_right, exists_eq_left, exists_eq_left', eRune, c44, f0, f1, f2, f3, f4, f5, f6, f7, f8, f9, f10]
    exact Sub.refl _
  · have hm : leadM b = (-1, 128, 191) := by
      unfold leadM; repeat' split
      all_goals first | omega | (simp; omega) | rfl
    have f0 : decide (b < 128) = false := by simp; omega
    have f1 : decide (194 ≤ b) = false := by simp; omega
    have f2 : decide (224 ≤ b) = false := by simp; omega
    have f3 : decide (240 ≤ b) = false := by simp; omega
    have f4 : decide (b ≤ 223) = true := by simp; omega
    have f5 : decide (b ≤ 239) = true := by simp; omega
    have f6 : decide (b ≤ 244) = true := by simp; omega
    have f7 : (b == 224) = false := by simp; omega
    have f8 : (b == 237) = false := by simp; omega
    have f9 : (b == 240) = false := by simp; omega
    have f10 : (b == 244) = false := by simp; omega
    rw [hm]
    simp -dsimp -implicitDefEqProofs (disch := omega) only [↓vcOps_sp 15, ↓vcD_sp 15, ↓vcOps_sp 24, ↓vcD_sp 24, ↓vcOps_sp 31, ↓vcD_sp 31, VCA, pg_gl, ↓upd_none, Nat.reduceEqDiff, Nat.reduceBEq, Nat.reduceAdd, Nat.reduceSub, Nat.reduceMul, Nat.reduceLT, Nat.reduceLeDiff, ↓reduceIte, reduceCtorEq, rsOf, rootsOf, SOp.rd, SI.rd, SX.rd, rdL, rdO, rdP, okParts, eqCells, okEqCells, fillA, okFill, setAt, implies_true, forall_const, forall_eq, ne_eq, exists_eq_right_right, exists_eq_right, exists_eq_left, exists_eq_left', eRune, c44, f0, f1, f2, f3, f4, f5, f6, f7, f8, f9, f10]
    exact Sub.refl _
  · have hm : leadM b = (1, 128, 191) := by
      unfold leadM; repeat' split
      all_goals first | omega | (simp; omega) | rfl
    have f0 : decide (b < 128) = false := by simp; omega
    have f1 : decide (194 ≤ b) = true := by simp; omega
    have f2 : decide (224 ≤ b) = false := by simp; omega
    have f3 : decide (240 ≤ b) = false := by simp; omega
    have f4 : decide (b ≤ 223) = true := by simp; omega
    have f5 : decide (b ≤ 239) = true := by simp; omega
    have f6 : decide (b ≤ 244) = true := by simp; omega
    have f7 : (b == 224) = false := by simp; omega
    have f8 : (b == 237) = false := by simp; omega
    have f9 : (b == 240) = false := by simp; omega
    have f10 : (b == 244) = false := by simp; omega
    rw [hm]
    simp -dsimp -implicitDefEqProofs (disch := omega) only [↓vcOps_sp 15, ↓vcD_sp 15, ↓vcOps_sp 24, ↓vcD_sp 24, ↓vcOps_sp 31, ↓vcD_sp 31, VCA, pg_gl, ↓upd_none, Nat.reduceEqDiff, Nat.reduceBEq, Nat.reduceAdd, Nat.reduceSub, Nat.reduceMul, Nat.reduceLT, Nat.reduceLeDiff, ↓reduceIte, reduceCtorEq, rsOf, rootsOf, SOp.rd, SI.rd, SX.rd, rdL, rdO, rdP, okParts, eqCells, okEqCells, fillA, okFill, setAt, implies_true, forall_const, forall_eq, ne_eq, exists_eq_right_right, exists_eq_right, exists_eq_left, exists_eq_left', eRune, c44, f0, f1, f2, f3, f4, f5, f6, f7, f8, f9, f10]
    exact Sub.refl _
  · have hm : leadM b = (2, 160, 191) := by
      unfold leadM; repeat' split
      all_goals first | omega | (simp; omega) | rfl
    have f0 : decide (b < 128) = false := by simp; omega
    have f1 : decide (194 ≤ b) = true := by simp; omega
    have f2 : decide (224 ≤ b) = true := by simp; omega
    have f3 : decide (240 ≤ b) = false := by simp; omega
    have f4 : decide (b ≤ 223) = false := by simp; omega
    have f5 : decide (b ≤ 239) = true := by simp; omega
    have f6 : decide (b ≤ 244) = true := by simp; omega
    have f7 : (b == 224) = true := by simp; omega
    have f8 : (b == 237) = false := by simp; omega
    have f9 : (b == 240) = false := by simp; omega
    have f10 : (b == 244) = false := by simp; omega
    rw [hm]
    simp -dsimp -implicitDefEqProofs (disch := omega) only [↓vcOps_sp 15, ↓vcD_sp 15, ↓vcOps_sp 24, ↓vcD_sp 24, ↓vcOps_sp 31, ↓vcD_sp 31, VCA, pg_gl, ↓upd_none, Nat.reduceEqDiff, Nat.reduceBEq, Nat.reduceAdd, Nat.reduceSub, Nat.reduceMul, Nat.reduceLT, Nat.reduceLeDiff, ↓reduceIte, reduceCtorEq, rsOf, rootsOf, SOp.rd, SI.rd, SX.rd, rdL, rdO, rdP, okParts, eqCells, okEqCells, fillA, okFill, setAt, implies_true, forall_const, forall_eq, ne_eq, exists_eq_right_right, exists_eq_right, exists_eq_left, exists_eq_left', eRune, c44, f0, f1, f2, f3, f4, f5, f6, f7, f8, f9, f10]
    exact Sub.refl _
  · have hm : leadM b = (2, 128, 191) := by
      unfold leadM; repeat' split
      all_goals first | omega | (simp; omega) | rfl
    have f0 : decide (b < 128) = false := by simp; omega
    have f1 : decide (194 ≤ b) = true := by simp; omega
    have f2 : decide (224 ≤ b) = true := by simp; omega
    have f3 : decide (240 ≤ b) = false := by simp; omega
    have f4 : decide (b ≤ 223) = false := by simp; omega
    have f5 : decide (b ≤ 239) = true := by simp; omega
    have f6 : decide (b ≤ 244) = true := by simp; omega
    have f7 : (b == 224) = false := by simp; omega
    have f8 : (b == 237) = false := by simp; omega
    have f9 : (b == 240) = false := by simp; omega
    have f10 : (b == 244) = false := by simp; omega
    rw [hm]
    simp -dsimp -implicitDefEqProofs (disch := omega) only [↓vcOps_sp 15, ↓vcD_sp 15, ↓vcOps_sp 24, ↓vcD_sp 24, ↓vcOps_sp 31, ↓vcD_sp 31, VCA, pg_gl, ↓upd_none, Nat.reduceEqDiff, Nat.reduceBEq, Nat.reduceAdd, Nat.reduceSub, Nat.reduceMul, Nat.reduceLT, Nat.reduceLeDiff, ↓reduceIte, reduceCtorEq, rsOf, rootsOf, SOp.rd, SI.rd, SX.rd, rdL, rdO, rdP, okParts, eqCells, okEqCells, fillA, okFill, setAt, implies_true, forall_const, forall_eq, ne_eq, exists_eq_right_right, exists_eq_right, exists_eq_left, exists_eq_left', eRune, c44, f0, f1, f2, f3, f4, f5, f6, f7, f8, f9, f10]
    exact Sub.refl _
  · have hm : leadM b = (2, 128, 159) := by
      unfold leadM; repeat' split
      all_goals first | omega | (simp; omega) | rfl
    have f0 : decide (b < 128) = false := by simp; omega
    have f1 : decide (194 ≤ b) = true := by simp; omega
    have f2 : decide (224 ≤ b) = true := by simp; omega
    have f3 : decide (240 ≤ b) = false := by simp; omega
    have f4 : decide (b ≤ 223) = false := by simp; omega
    have f5 : decide (b ≤ 239) = true := by simp; omega
    have f6 : decide (b ≤ 244) = true := by simp; omega
    have f7 : (b == 224) = false := by simp; omega
    have f8 : (b == 237) = true := by simp; omega
    have f9 : (b == 240) = false := by simp; omega
    have f10 : (b == 244) = false := by simp; omega
    rw [hm]
    simp -dsimp -implicitDefEqProofs (disch := omega) only [↓vcOps_sp 15, ↓vcD_sp 15, ↓vcOps_sp 24, ↓vcD_sp 24, ↓vcOps_sp 31, ↓vcD_sp 31, VCA, pg_gl, ↓upd_none, Nat.reduceEqDiff, Nat.reduceBEq, Nat.reduceAdd, Nat.reduceSub, Nat.reduceMul, Nat.reduceLT, Nat.reduceLeDiff, ↓reduceIte, reduceCtorEq, rsOf, rootsOf, SOp.rd, SI.rd, SX.rd, rdL, rdO, rdP, okParts, eqCells, okEqCells, fillA, okFill, setAt, implies_true, forall_const, forall_eq, ne_eq, exists_eq_right_right, exists_eq_right, exists_eq_left, exists_eq_left', eRune, c44, f0, f1, f2, f3, f4, f5, f6, f7, f8, f9, f10]
    exact Sub.refl _
  · have hm : leadM b = (2, 128, 191) := by
      unfold leadM; repeat' split
      all_goals first | omega | (simp; omega) | rfl
    have f0 : decide (b < 128) = false := by simp; omega
    have f1 : decide (194 ≤ b) = true := by simp; omega
    have f2 : decide (224 ≤ b) = true := by simp; omega
    have f3 : decide (240 ≤ b) = false := by simp; omega
    have f4 : decide (b ≤ 223) = false := by simp; omega
    have f5 : decide (b ≤ 239) = true := by simp; omega
    have f6 : decide (b ≤ 244) = true := by simp; omega
    have f7 : (b == 224) = false := by simp; omega
    have f8 : (b == 237) = false := by simp; omega
    have f9 : (b == 240) = false := by simp; omega
    have f10 : (b == 244) = false := by simp; omega
    rw [hm]
    simp -dsimp -implicitDefEqProofs (disch := omega) only [↓vcOps_sp 15, ↓vcD_sp 15, ↓vcOps_sp 24, ↓vcD_sp 24, ↓vcOps_sp 31, ↓vcD_sp 31, VCA, pg_gl, ↓upd_none, Nat.reduceEqDiff, Nat.reduceBEq, Nat.reduceAdd, Nat.reduceSub, Nat.reduceMul, Nat.reduceLT, Nat.reduceLeDiff, ↓reduceIte, reduceCtorEq, rsOf, rootsOf, SOp.rd, SI.rd, SX.rd, rdL, rdO, rdP, okParts, eqCells, okEqCells, fillA, okFill, setAt, implies_true, forall_const, forall_eq, ne_eq, exists_eq_right_right, exists_eq_right, exists_eq_left, exists_eq_left', eRune, c44, f0, f1, f2, f3, f4, f5, f6, f7, f8, f9, f10]
    exact Sub.refl _
  · have hm : leadM b = (3, 144, 191) := by
      unfold leadM; repeat' split
      all_goals first | omega | (simp; omega) | rfl
    have f0 : decide (b < 128) = false := by simp; omega
    have f1 : decide (194 ≤ b) = true := by simp; omega
    have f2 : decide (224 ≤ b) = true := by simp; omega
    have f3 : decide (240 ≤ b) = true := by simp; omega
    have f4 : decide (b ≤ 223) = false := by simp; omega
    have f5 : decide (b ≤ 239) = false := by simp; omega
    have f6 : decide (b ≤ 244) = true := by simp; omega
    have f7 : (b == 224) = false := by simp; omega
    have f8 : (b == 237) = false := by simp; omega
    have f9 : (b == 240) = true := by simp; omega
    have f10 : (b == 244) = false := by simp; omega
    rw [hm]
    simp -dsimp -implicitDefEqProofs (disch := omega) only [↓vcOps_sp 15, ↓vcD_sp 15, ↓vcOps_sp 24, ↓vcD_sp 24, ↓vcOps_sp 31, ↓vcD_sp 31, VCA, pg_gl, ↓upd_none, Nat.reduceEqDiff, Nat.reduceBEq, Nat.reduceAdd, Nat.reduceSub, Nat.reduceMul, Nat.reduceLT, Nat.reduceLeDiff, ↓reduceIte, reduceCtorEq, rsOf, rootsOf, SOp.rd, SI.rd, SX.rd, rdL, rdO, rdP, okParts, eqCells, okEqCells, fillA, okFill, setAt, implies_true, forall_const, forall_eq, ne_eq, exists_eq_right_right, exists_eq_right, exists_eq_left, exists_eq_left', eRune, c44, f0, f1, f2, f3, f4, f5, f6, f7, f8, f9, f10]
    exact Sub.refl _
  · have hm : leadM b = (3, 128, 191) := by
      unfold leadM; repeat' split
      all_goals first | omega | (simp; omega) | rfl
    have f0 : decide (b < 128) = false := by simp; omega
    have f1 : decide (194 ≤ b) = true := by simp; omega
    have f2 : decide (224 ≤ b) = true := by simp; omega
    have f3 : decide (240 ≤ b) = true := by simp; omega
    have f4 : decide (b ≤ 223) = false := by simp; omega
    have f5 : decide (b ≤ 239) = false := by simp; omega
    have f6 : decide (b ≤ 244) = true := by simp; omega
    have f7 : (b == 224) = false := by simp; omega
    have f8 : (b == 237) = false := by simp; omega
    have f9 : (b == 240) = false := by simp; omega
    have f10 : (b == 244) = false := by simp; omega
    rw [hm]
    simp -dsimp -implicitDefEqProofs (disch := omega) only [↓vcOps_sp 15, ↓vcD_sp 15, ↓vcOps_sp 24, ↓vcD_sp 24, ↓vcOps_sp 31, ↓vcD_sp 31, VCA, pg_gl, ↓upd_none, Nat.reduceEqDiff, Nat.reduceBEq, Nat.reduceAdd, Nat.reduceSub, Nat.reduceMul, Nat.reduceLT, Nat.reduceLeDiff, ↓reduceIte, reduceCtorEq, rsOf, rootsOf, SOp.rd, SI.rd, SX.rd, rdL, rdO, rdP, okParts, eqCells, okEqCells, fillA, okFill, setAt, implies_true, forall_const, forall_eq, ne_eq, exists_eq_right_right, exists_eq_right, exists_eq_left, exists_eq_left', eRune, c44, f0, f1, f2, f3, f4, f5, f6, f7, f8, f9, f10]
    exact Sub.refl _
  · have hm : leadM b = (3, 128, 143) := by
      unfold leadM; repeat' split
      all_goals first | omega | (simp; omega) | rfl
    have f0 : decide (b < 128) = false := by simp; omega
    have f1 : decide (194 ≤ b) = true := by simp; omega
    have f2 : decide (224 ≤ b) = true := by simp; omega
    have f3 : decide (240 ≤ b) = true := by simp; omega
    have f4 : decide (b ≤ 223) = false := by simp; omega
    have f5 : decide (b ≤ 239) = false := by simp; omega
    have f6 : decide (b ≤ 244) = true := by simp; omega
    have f7 : (b == 224) = false := by simp; omega
    have f8 : (b == 237) = false := by simp; omega
    have f9 : (b == 240) = false := by simp; omega
    have f10 : (b == 244) = true := by simp; omega
    rw [hm]
    simp -dsimp -implicitDefEqProofs (disch := omega) only [↓vcOps_sp 15, ↓vcD_sp 15, ↓vcOps_sp 24, ↓vcD_sp 24, ↓vcOps_sp 31, ↓vcD_sp 31, VCA, pg_gl, ↓upd_none, Nat.reduceEqDiff, Nat.reduceBEq, Nat.reduceAdd, Nat.reduceSub, Nat.reduceMul, Nat.reduceLT, Nat.reduceLeDiff, ↓reduceIte, reduceCtorEq, rsOf, rootsOf, SOp.rd, SI.rd, SX.rd, rdL, rdO, rdP, okParts, eqCells, okEqCells, fillA, okFill, setAt, implies_true, forall_const, forall_eq, ne_eq, exists_eq_right_right, exists_eq_right, exists_eq_left, exists_eq_left', eRune, c44, f0, f1, f2, f3, f4, f5, f6, f7, f8, f9, f10]
    exact Sub.refl _
  · have hm : leadM b = (-1, 128, 191) := by
      unfold leadM; repeat' split
      all_goals first | omega | (simp; omega) | rfl
    have f0 : decide (b < 128) = false := by simp; omega
    have f1 : decide (194 ≤ b) = true := by simp; omega
    have f2 : decide (224 ≤ b) = true := by simp; omega
    have f3 : decide (240 ≤ b) = true := by simp; omega
    have f4 : decide (b ≤ 223) = false := by simp; omega
    have f5 : decide (b ≤ 239) = false := by simp; omega
    have f6 : decide (b ≤ 244) = false := by simp; omega
    have f7 : (b == 224) = false := by simp; omega
    have f8 : (b == 237) = false := by simp; omega
    have f9 : (b == 240) = false := by simp; omega
    have f10 : (b == 244) = false := by simp; omega
    rw [hm]
    simp -dsimp -implicitDefEqProofs (disch := omega) only [↓vcOps_sp 15, ↓vcD_sp 15, ↓vcOps_sp 24, ↓vcD_sp 24, ↓vcOps_sp 31, ↓vcD_sp 31, VCA, pg_gl, ↓upd_none, Nat.reduceEqDiff, Nat.reduceBEq, Nat.reduceAdd, Nat.reduceSub, Nat.reduceMul, Nat.reduceLT, Nat.reduceLeDiff, ↓reduceIte, reduceCtorEq, rsOf, rootsOf, SOp.rd, SI.rd, SX.rd, rdL, rdO, rdP, okParts, eqCells, okEqCells, fillA, okFill, setAt, implies_true, forall_const, forall_eq, ne_eq, exists_eq_right_right, exists_eq_right, exists_eq_left, exists_eq_left', eRune, c44, f0, f1, f2, f3, f4, f5, f6, f7, f8, f9, f10]
    exact Sub.refl _

/-- the byte at a place -/
def bt (s : List UInt8) (i : Nat) : Int := ((s.getD i 0).toNat : Int)
theorem bt_byte (s : List UInt8) (i : Nat) : 0 ≤ bt s i ∧ bt s i < 256 := by
  unfold bt; have := (s.getD i 0).toNat_lt; omega
/-- the rest of a sign -/
def contM (s : List UInt8) (more : Nat) : Nat → Nat → Int → Int → Int → Int × Nat
  | 0, _, _, _, n => (n, more + 1)
  | f + 1, i, low, high, n => if i = s.length ∨ bt s i < low ∨ high < bt s i then (65533, i) else contM s more f (i + 1) 128 191 (n * 64 + bt s i % 64)
/-- one sign at the beginning of a text, and how many bytes it is -/
def oneM (s : List UInt8) : Int × Nat :=
  let p := leadM (bt s 0)
  if p.1 < 0 then (65533, 1) else if p.1 = 0 then (bt s 0, 1)
  else contM s p.1.toNat p.1.toNat 1 p.2.1 p.2.2 (bt s 0 % 2 ^ (6 - p.1.toNat))
theorem leadM_cases (b : Int) : (leadM b).1 = -1 ∨ (leadM b).1 = 0 ∨ ∃ m : Nat, 1 ≤ m ∧ m ≤ 3 ∧ (leadM b).1 = m := by
  unfold leadM; repeat' split
  all_goals first | exact .inl rfl | exact .inr (.inl rfl) | exact .inr (.inr ⟨1, by omega, by omega, rfl⟩) | exact .inr (.inr ⟨2, by omega, by omega, rfl⟩) | exact .inr (.inr ⟨3, by omega, by omega, rfl⟩)
theorem mask_ok {m : Nat} (h1 : 1 ≤ m) (h3 : m ≤ 3) {b : Int} (h0 : 0 ≤ b) (hb : b < 256) :
    bitF .and .i32 (IntKind.i32.wrap b) (IntKind.i32.wrap (IntKind.i32.wrap (1 * 2 ^ min (6 - (m : Int)).toNat IntKind.i32.bits) - 1)) = b % 2 ^ (6 - m) := by
  have hw : IntKind.i32.wrap b = b := by rw [IntKind.wrap_i32]; omega
  rw [hw]
  rcases (by omega : m = 1 ∨ m = 2 ∨ m = 3) with rfl | rfl | rfl
  · exact bits_mask .i32 31 (by decide) wraps_i32 5 (by decide) b h0 (by omega)
  · exact bits_mask .i32 31 (by decide) wraps_i32 4 (by decide) b h0 (by omega)
  · exact bits_mask .i32 31 (by decide) wraps_i32 3 (by decide) b h0 (by omega)
theorem join_ok {n b : Int} (h0 : 0 ≤ n) (h1 : n < 33554432) (hb : 0 ≤ b) (hb1 : b < 256) :
    bitF .or .i32 (IntKind.i32.wrap (n * 2 ^ min (6 : Int).toNat IntKind.i32.bits)) (IntKind.i32.wrap (bitF .and .u8 b 63)) = n * 64 + b % 64 := by
  have e : (2 : Int) ^ min (6 : Int).toNat IntKind.i32.bits = 64 := rfl
  have e2 : bitF .and .u8 b 63 = b % 64 := u8_and63 _ hb hb1
  have hw : IntKind.i32.wrap (n * 64) = n * 64 := by rw [IntKind.wrap_i32]; omega
  have hw2 : IntKind.i32.wrap (b % 64) = b % 64 := by rw [IntKind.wrap_i32]; omega
  rw [e, e2, hw, hw2]
  exact i32_or6 _ _ (by omega) (by omega) (by omega) (by omega) (by omega)
def c32 : SFun := ⟨(.seq (.reg [⟨(some 2), (.mv (.c (.int .i32 (0)))), none⟩, ⟨(some 3), (.mv (.c (.int .i64 (0)))), none⟩]) (.seq (.reg [⟨(some 10), (.mv (.t 0)), none⟩, ⟨(some 11), (.idxS (.t 10) (.c (.int .i64 (0)))), none⟩, ⟨(some 12), (.pcall 44 [(.t 11)]), none⟩, ⟨(some 9), (.mv (.t 12)), none⟩, ⟨(some 13), (.ext (.t 9) 0), none⟩, ⟨(some 14), (.ext (.t 9) 1), none⟩, ⟨(some 15), (.ext (.t 9) 2), none⟩, ⟨(some 4), (.mv (.t 13)), none⟩, ⟨(some 5), (.mv (.t 14)), none⟩, ⟨(some 6), (.mv (.t 15)), none⟩]) (.seq (.seq (.reg [⟨(some 16), (.mv (.t 4)), none⟩, ⟨(some 17), (.bin .lss (.t 16) (.c (.int .i64 (0)))), none⟩]) (.cond (.t 17) (.seq (.reg [⟨(some 2), (.mv (.c (.int .i32 (65533)))), none⟩, ⟨(some 3), (.mv (.c (.int .i64 (1)))), none⟩]) .ret) .skip)) (.seq (.seq (.reg [⟨(some 18), (.mv (.t 4)), none⟩, ⟨(some 19), (.bin .eql (.t 18) (.c (.int .i64 (0)))), none⟩]) (.cond (.t 19) (.seq (.reg [⟨(some 20), (.mv (.t 0)), none⟩, ⟨(some 21), (.idxS (.t 20) (.c (.int .i64 (0)))), none⟩, ⟨(some 22), (.cvi .i32 (.t 21)), none⟩, ⟨(some 2), (.mv (.t 22)), none⟩, ⟨(some 3), (.mv (.c (.int .i64 (1)))), none⟩]) .ret) .skip)) (.seq (.dreg [(⟨(some 23), (.mv (.t 0)), none⟩, false), (⟨(some 24), (.idxS (.t 23) (.c (.int .i64 (0)))), none⟩, false), (⟨(some 25), (.cvi .i32 (.t 24)), none⟩, false), (⟨(some 26), (.mv (.t 4)), none⟩, false), (⟨(some 27), (.bin .sub (.c (.int .i64 (6))) (.t 26)), none⟩, false), (⟨(some 28), (.bin .shl (.c (.int .i32 (1))) (.t 27)), none⟩, false), (⟨(some 29), (.bin .sub (.t 28) (.c (.int .i32 (1)))), none⟩, false), (⟨(some 30), (.bin .and (.t 25) (.t 29)), none⟩, false), (⟨(some 7), (.mv (.t 30)), none⟩, false)]) (.seq (.seq (.reg [⟨(some 8), (.mv (.c (.int .i64 (1)))), none⟩]) (.block 0 (.loop (.seq (.seq (.reg [⟨(some 31), (.mv (.t 8)), none⟩, ⟨(some 32), (.mv (.t 4)), none⟩, ⟨(some 33), (.bin .leq (.t 31) (.t 32)), none⟩]) (.cond (.t 33) .skip (.exit 0))) (.seq (.block 1 (.seq (.seq (.reg [⟨(some 36), (.mv (.t 8)), none⟩, ⟨(some 37), (.mv (.t 0)), none⟩, ⟨(some 38), (.lenS (.t 37)), none⟩, ⟨(some 39), (.bin .eql (.t 36) (.t 38)), none⟩, ⟨(some 40), (.mv (.t 39)), none⟩, ⟨(some 41), (.mv (.t 0)), (some (40, false))⟩, ⟨(some 42), (.mv (.t 8)), (some (40, false))⟩, ⟨(some 43), (.idxS (.t 41) (.t 42)), (some (40, false))⟩, ⟨(some 44), (.mv (.t 5)), (some (40, false))⟩, ⟨(some 45), (.bin .lss (.t 43) (.t 44)), (some (40, false))⟩, ⟨(some 46), (.pick (.t 40) (.c (.bool true)) (.t 45)), none⟩, ⟨(some 47), (.mv (.t 46)), none⟩, ⟨(some 48), (.mv (.t 0)), (some (47, false))⟩, ⟨(some 49), (.mv (.t 8)), (some (47, false))⟩, ⟨(some 50), (.idxS (.t 48) (.t 49)), (some (47, false))⟩, ⟨(some 51), (.mv (.t 6)), (some (47, false))⟩, ⟨(some 52), (.bin .gtr (.t 50) (.t 51)), (some (47, false))⟩, ⟨(some 53), (.pick (.t 47) (.c (.bool true)) (.t 52)), none⟩]) (.cond (.t 53) (.seq (.reg [⟨(some 54), (.mv (.t 8)), none⟩, ⟨(some 2), (.mv (.c (.int .i32 (65533)))), none⟩, ⟨(some 3), (.mv (.t 54)), none⟩]) .ret) .skip)) (.seq (.reg [⟨(some 55), (.mv (.t 7)), none⟩, ⟨(some 56), (.bin .shl (.t 55) (.c (.int .u64 (6)))), none⟩, ⟨(some 57), (.mv (.t 0)), none⟩, ⟨(some 58), (.mv (.t 8)), none⟩, ⟨(some 59), (.idxS (.t 57) (.t 58)), none⟩, ⟨(some 60), (.bin .and (.t 59) (.c (.int .u8 (63)))), none⟩, ⟨(some 61), (.cvi .i32 (.t 60)), none⟩, ⟨(some 62), (.bin .or (.t 56) (.t 61)), none⟩, ⟨(some 7), (.mv (.t 62)), none⟩]) (.reg [⟨(some 5), (.mv (.c (.int .u8 (128)))), none⟩, ⟨(some 6), (.mv (.c (.int .u8 (191)))), none⟩])))) (.reg [⟨(some 34), (.mv (.t 8)), none⟩, ⟨(some 35), (.bin .add (.t 34) (.c (.int .i64 (1)))), none⟩, ⟨(some 8), (.mv (.t 35)), none⟩])))))) (.seq (.reg [⟨(some 63), (.mv (.t 7)), none⟩, ⟨(some 64), (.mv (.t 4)), none⟩, ⟨(some 65), (.bin .add (.t 64) (.c (.int .i64 (1)))), none⟩, ⟨(some 2), (.mv (.t 63)), none⟩, ⟨(some 3), (.mv (.t 65)), none⟩]) .ret))))))), [(.tmp 2), (.tmp 3)]⟩
theorem hc32 : toSF Tryd.prog {pure := [44]} Tryd.f32 = some c32 := by kernel_rfl
theorem hn32 : (Tryd.f32.name == "runtime.NumGoroutine") = false := by kernel_rfl
theorem one_ok (s : List UInt8) (hs : s ≠ []) (hl : s.length ≤ 1073741824) : PCalls (Pg G) 32 [.str s] (.tup [.int .i32 (oneM s).1, aInt (oneM s).2]) := fun h => by
  have hp : 0 < s.length := List.length_pos_iff.2 hs
  have hb := bt_byte s 0
  refine dcalls_of_vc Tryd.func32 hn32 hc32 (by rw [Tryd.ntmps32]; simp) (by rw [Tryd.ntmps32]; decide) ?_
  simp -dsimp -implicitDefEqProofs (disch := omega) only [↓vcOps_sp 40, ↓vcD_sp 40, ↓vcOps_sp 47, ↓vcD_sp 47, VCA, pg_gl, ↓upd_none, Nat.reduceEqDiff, Nat.reduceBEq, Nat.reduceAdd, Nat.reduceSub, Nat.reduceMul, Nat.reduceLT, Nat.reduceLeDiff, ↓reduceIte, reduceCtorEq, rsOf, rootsOf, SOp.rd, SI.rd, SX.rd, rdL, rdO, rdP, okParts, eqCells, okEqCells, fillA, okFill, setAt, implies_true, forall_const, forall_eq, ne_eq, exists_eq_right_right, exists_eq_right, exists_eq_left, exists_eq_left', eRune, c32]
  refine ⟨by omega, ?_⟩
  refine pcallE.of (lead_ok (bt s 0) hb.1 hb.2) ?_; simp -dsimp -implicitDefEqProofs (disch := omega) only [↓vcOps_sp 40, ↓vcD_sp 40, ↓vcOps_sp 47, ↓vcD_sp 47, VCA, pg_gl, ↓upd_none, Nat.reduceEqDiff, Nat.reduceBEq, Nat.reduceAdd, Nat.reduceSub, Nat.reduceMul, Nat.reduceLT, Nat.reduceLeDiff, ↓reduceIte, reduceCtorEq, rsOf, rootsOf, SOp.rd, SI.rd, SX.rd, rdL, rdO, rdP, okParts, eqCells, okEqCells, fillA, okFill, setAt, implies_true, forall_const, forall_eq, ne_eq, exists_eq_right_right, exists_eq_right, exists_eq_left, exists_eq_left', eRune]
  have hmo := leadM_cases (bt s 0)
  have hO : oneM s = if (leadM (bt s 0)).1 < 0 then (65533, 1) else if (leadM (bt s 0)).1 = 0 then (bt s 0, 1) else contM s (leadM (bt s 0)).1.toNat (leadM (bt s 0)).1.toNat 1 (leadM (bt s 0)).2.1 (leadM (bt s 0)).2.2 (bt s 0 % 2 ^ (6 - (leadM (bt s 0)).1.toNat)) := rfl
  generalize leadM (bt s 0) = q at hmo hO
  obtain ⟨m, lo, hi⟩ := q
  simp only at hO
  simp only at hmo
  rcases hmo with rfl | rfl | ⟨m, hm1, hm3, rfl⟩
  · have a1 : decide ((-1 : Int) < 0) = true := rfl
    simp -dsimp -implicitDefEqProofs (disch := omega) only [↓vcOps_sp 40, ↓vcD_sp 40, ↓vcOps_sp 47, ↓vcD_sp 47, VCA, pg_gl, ↓upd_none, Nat.reduceEqDiff, Nat.reduceBEq, Nat.reduceAdd, Nat.reduceSub, Nat.reduceMul, Nat.reduceLT, Nat.reduceLeDiff, ↓reduceIte, reduceCtorEq, rsOf, rootsOf, SOp.rd, SI.rd, SX.rd, rdL, rdO, rdP, okParts, eqCells, okEqCells, fillA, okFill, setAt, implies_true, forall_const, forall_eq, ne_eq, exists_eq_right_right, exists_eq_right, exists_eq_left, exists_eq_left', eRune, a1]
    rw [hO, if_pos (by decide)]
    exact ⟨Sub.refl _, rfl⟩
  · have a2 : decide ((0 : Int) < 0) = false := rfl
    have b2 : ((0 : Int) == 0) = true := rfl
    simp -dsimp -implicitDefEqProofs (disch := omega) only [↓vcOps_sp 40, ↓vcD_sp 40, ↓vcOps_sp 47, ↓vcD_sp 47, VCA, pg_gl, ↓upd_none, Nat.reduceEqDiff, Nat.reduceBEq, Nat.reduceAdd, Nat.reduceSub, Nat.reduceMul, Nat.reduceLT, Nat.reduceLeDiff, ↓reduceIte, reduceCtorEq, rsOf, rootsOf, SOp.rd, SI.rd, SX.rd, rdL, rdO, rdP, okParts, eqCells, okEqCells, fillA, okFill, setAt, implies_true, forall_const, forall_eq, ne_eq, exists_eq_right_right, exists_eq_right, exists_eq_left, exists_eq_left', eRune, a2, b2]
    refine ⟨⟨by omega, by omega⟩, Sub.refl _, ?_⟩
    rw [hO, if_neg (by decide), if_pos rfl]
    have : IntKind.i32.wrap (bt s 0) = bt s 0 := by rw [IntKind.wrap_i32]; omega
    exact congrArg (fun z => AVal.tup [AVal.int IntKind.i32 z, AVal.int IntKind.i64 1]) this
  · have a3 : decide ((m : Int) < 0) = false := by simp
    have b3 : ((m : Int) == 0) = false := by simp; omega
    have e3 : ¬ (m : Int) < 0 := by omega
    have e4 : ¬ (m : Int) = 0 := by omega
    simp -dsimp -implicitDefEqProofs (disch := omega) only [↓vcOps_sp 40, ↓vcD_sp 40, ↓vcOps_sp 47, ↓vcD_sp 47, VCA, pg_gl, ↓upd_none, Nat.reduceEqDiff, Nat.reduceBEq, Nat.reduceAdd, Nat.reduceSub, Nat.reduceMul, Nat.reduceLT, Nat.reduceLeDiff, ↓reduceIte, reduceCtorEq, rsOf, rootsOf, SOp.rd, SI.rd, SX.rd, rdL, rdO, rdP, okParts, eqCells, okEqCells, fillA, okFill, setAt, implies_true, forall_const, forall_eq, ne_eq, exists_eq_right_right, exists_eq_right, exists_eq_left, exists_eq_left', eRune, a3, b3]
    refine ⟨⟨by omega, by omega⟩, by omega, ?_⟩
    have hmk := mask_ok hm1 hm3 hb.1 hb.2
    rw [if_neg e3, if_neg e4, Int.toNat_natCast] at hO
    have hn1 : 0 ≤ bt s 0 % 2 ^ (6 - m) ∧ bt s 0 % 2 ^ (6 - m) < 32 := by
      rcases (by omega : m = 1 ∨ m = 2 ∨ m = 3) with rfl | rfl | rfl <;> (simp only [Nat.reduceSub]; omega)
    refine LoopVC.intro (fun q e h' => ∃ (f i : Nat) (lo' hi' n : Int), q = f ∧ i + f = m + 1 ∧ 1 ≤ i ∧ e 0 = .str s ∧ e 4 = aInt m ∧ e 5 = .int .u8 lo' ∧ e 6 = .int .u8 hi' ∧ e 7 = .int .i32 n ∧ e 8 = aInt i ∧ i ≤ s.length ∧
      contM s m f i lo' hi' n = oneM s ∧ 0 ≤ n ∧ (i = 1 → n < 32) ∧ (i = 2 → n < 2048) ∧ (i = 3 → n < 131072) ∧ (i = 4 → n < 8388608) ∧ h' = h) m ⟨m, 1, lo, hi, bt s 0 % 2 ^ (6 - m), rfl, by omega, by omega, rfl, rfl, rfl, rfl, ?_, rfl, by omega, hO.symm, by omega, by omega, by omega, by omega, by omega, rfl⟩ ?_
    · exact congrArg (AVal.int .i32) hmk
    · rintro q e h' ⟨f, i, lo', hi', n, rfl, hif, hi1, he0, he4, he5, he6, he7, he8, his, hC, hn0, hn1, hn2, hn3, hn4, rfl⟩
      simp -dsimp -implicitDefEqProofs (disch := omega) only [↓vcOps_sp 40, ↓vcD_sp 40, ↓vcOps_sp 47, ↓vcD_sp 47, VCA, pg_gl, ↓upd_none, Nat.reduceEqDiff, Nat.reduceBEq, Nat.reduceAdd, Nat.reduceSub, Nat.reduceMul, Nat.reduceLT, Nat.reduceLeDiff, ↓reduceIte, reduceCtorEq, rsOf, rootsOf, SOp.rd, SI.rd, SX.rd, rdL, rdO, rdP, okParts, eqCells, okEqCells, fillA, okFill, setAt, implies_true, forall_const, forall_eq, ne_eq, exists_eq_right_right, exists_eq_right, exists_eq_left, exists_eq_left', eRune, he0, he4, he5, he6, he7, he8]
      refine Br.dec (fun hlt => ?_) (fun hge => ?_)
      · obtain ⟨f, rfl⟩ : ∃ f', q = f' + 1 := ⟨q - 1, by omega⟩
        unfold contM at hC
        simp -dsimp -implicitDefEqProofs (disch := omega) only [↓vcOps_sp 40, ↓vcD_sp 40, ↓vcOps_sp 47, ↓vcD_sp 47, VCA, pg_gl, ↓upd_none, Nat.reduceEqDiff, Nat.reduceBEq, Nat.reduceAdd, Nat.reduceSub, Nat.reduceMul, Nat.reduceLT, Nat.reduceLeDiff, ↓reduceIte, reduceCtorEq, rsOf, rootsOf, SOp.rd, SI.rd, SX.rd, rdL, rdO, rdP, okParts, eqCells, okEqCells, fillA, okFill, setAt, implies_true, forall_const, forall_eq, ne_eq, exists_eq_right_right, exists_eq_right, exists_eq_left, exists_eq_left', eRune, he0, he4, he5, he6, he7, he8]
        refine Br.eq (fun h2 => ?_) (fun h2 => ?_)
        · rw [if_pos (.inl (by omega))] at hC
          simp -dsimp -implicitDefEqProofs (disch := omega) only [↓vcOps_sp 40, ↓vcD_sp 40, ↓vcOps_sp 47, ↓vcD_sp 47, VCA, pg_gl, ↓upd_none, Nat.reduceEqDiff, Nat.reduceBEq, Nat.reduceAdd, Nat.reduceSub, Nat.reduceMul, Nat.reduceLT, Nat.reduceLeDiff, ↓reduceIte, reduceCtorEq, rsOf, rootsOf, SOp.rd, SI.rd, SX.rd, rdL, rdO, rdP, okParts, eqCells, okEqCells, fillA, okFill, setAt, implies_true, forall_const, forall_eq, ne_eq, exists_eq_right_right, exists_eq_right, exists_eq_left, exists_eq_left', eRune, he0, he4, he5, he6, he7, he8]
          refine ⟨Sub.refl _, ?_⟩
          rw [← hC]
        · have hbi := bt_byte s i
          simp -dsimp -implicitDefEqProofs (disch := omega) only [↓vcOps_sp 40, ↓vcD_sp 40, ↓vcOps_sp 47, ↓vcD_sp 47, VCA, pg_gl, ↓upd_none, Nat.reduceEqDiff, Nat.reduceBEq, Nat.reduceAdd, Nat.reduceSub, Nat.reduceMul, Nat.reduceLT, Nat.reduceLeDiff, ↓reduceIte, reduceCtorEq, rsOf, rootsOf, SOp.rd, SI.rd, SX.rd, rdL, rdO, rdP, okParts, eqCells, okEqCells, fillA, okFill, setAt, implies_true, forall_const, forall_eq, ne_eq, exists_eq_right_right, exists_eq_right, exists_eq_left, exists_eq_left', eRune, he0, he4, he5, he6, he7, he8]
          refine ⟨by omega, ?_⟩
          refine Br.dec (fun h3 => ?_) (fun h3 => ?_)
          · rw [if_pos (.inr (.inl h3))] at hC
            simp -dsimp -implicitDefEqProofs (disch := omega) only [↓vcOps_sp 40, ↓vcD_sp 40, ↓vcOps_sp 47, ↓vcD_sp 47, VCA, pg_gl, ↓upd_none, Nat.reduceEqDiff, Nat.reduceBEq, Nat.reduceAdd, Nat.reduceSub, Nat.reduceMul, Nat.reduceLT, Nat.reduceLeDiff, ↓reduceIte, reduceCtorEq, rsOf, rootsOf, SOp.rd, SI.rd, SX.rd, rdL, rdO, rdP, okParts, eqCells, okEqCells, fillA, okFill, setAt, implies_true, forall_const, forall_eq, ne_eq, exists_eq_right_right, exists_eq_right, exists_eq_left, exists_eq_left', eRune, he0, he4, he5, he6, he7, he8]
            refine ⟨Sub.refl _, ?_⟩
            rw [← hC]
          · simp -dsimp -implicitDefEqProofs (disch := omega) only [↓vcOps_sp 40, ↓vcD_sp 40, ↓vcOps_sp 47, ↓vcD_sp 47, VCA, pg_gl, ↓upd_none, Nat.reduceEqDiff, Nat.reduceBEq, Nat.reduceAdd, Nat.reduceSub, Nat.reduceMul, Nat.reduceLT, Nat.reduceLeDiff, ↓reduceIte, reduceCtorEq, rsOf, rootsOf, SOp.rd, SI.rd, SX.rd, rdL, rdO, rdP, okParts, eqCells, okEqCells, fillA, okFill, setAt, implies_true, forall_const, forall_eq, ne_eq, exists_eq_right_right, exists_eq_right, exists_eq_left, exists_eq_left', eRune, he0, he4, he5, he6, he7, he8]
            refine ⟨by omega, ?_⟩
            refine Br.dec (fun h4 => ?_) (fun h4 => ?_)
            · rw [if_pos (.inr (.inr h4))] at hC
              simp -dsimp -implicitDefEqProofs (disch := omega) only [↓vcOps_sp 40, ↓vcD_sp 40, ↓vcOps_sp 47, ↓vcD_sp 47, VCA, pg_gl, ↓upd_none, Nat.reduceEqDiff, Nat.reduceBEq, Nat.reduceAdd, Nat.reduceSub, Nat.reduceMul, Nat.reduceLT, Nat.reduceLeDiff, ↓reduceIte, reduceCtorEq, rsOf, rootsOf, SOp.rd, SI.rd, SX.rd, rdL, rdO, rdP, okParts, eqCells, okEqCells, fillA, okFill, setAt, implies_true, forall_const, forall_eq, ne_eq, exists_eq_right_right, exists_eq_right, exists_eq_left, exists_eq_left', eRune, he0, he4, he5, he6, he7, he8]
              refine ⟨Sub.refl _, ?_⟩
              rw [← hC]
            · have hno : ¬ (i = s.length ∨ bt s i < lo' ∨ hi' < bt s i) := not_or.2 ⟨by omega, not_or.2 ⟨h3, h4⟩⟩
              rw [if_neg hno] at hC
              have hj := join_ok (n := n) (b := bt s i) hn0 (by
                rcases (by omega : i = 1 ∨ i = 2 ∨ i = 3) with h | h | h
                · have := hn1 h; omega
                · have := hn2 h; omega
                · have := hn3 h; omega) hbi.1 hbi.2
              simp -dsimp -implicitDefEqProofs (disch := omega) only [↓vcOps_sp 40, ↓vcD_sp 40, ↓vcOps_sp 47, ↓vcD_sp 47, VCA, pg_gl, ↓upd_none, Nat.reduceEqDiff, Nat.reduceBEq, Nat.reduceAdd, Nat.reduceSub, Nat.reduceMul, Nat.reduceLT, Nat.reduceLeDiff, ↓reduceIte, reduceCtorEq, rsOf, rootsOf, SOp.rd, SI.rd, SX.rd, rdL, rdO, rdP, okParts, eqCells, okEqCells, fillA, okFill, setAt, implies_true, forall_const, forall_eq, ne_eq, exists_eq_right_right, exists_eq_right, exists_eq_left, exists_eq_left', eRune, he0, he4, he5, he6, he7, he8]
              refine ⟨by omega, by omega, ⟨f, by omega, f, i + 1, 128, 191, n * 64 + bt s i % 64, rfl, by omega, by omega, rfl, rfl, ?_, by omega, by omega, hC, by omega, by omega, fun h => ?_, fun h => ?_, fun h => ?_⟩⟩
              · exact hj
              · have := hn1 (by omega); omega
              · have := hn2 (by omega); omega
              · have := hn3 (by omega); omega
      · simp -dsimp -implicitDefEqProofs (disch := omega) only [↓vcOps_sp 40, ↓vcD_sp 40, ↓vcOps_sp 47, ↓vcD_sp 47, VCA, pg_gl, ↓upd_none, Nat.reduceEqDiff, Nat.reduceBEq, Nat.reduceAdd, Nat.reduceSub, Nat.reduceMul, Nat.reduceLT, Nat.reduceLeDiff, ↓reduceIte, reduceCtorEq, rsOf, rootsOf, SOp.rd, SI.rd, SX.rd, rdL, rdO, rdP, okParts, eqCells, okEqCells, fillA, okFill, setAt, implies_true, forall_const, forall_eq, ne_eq, exists_eq_right_right, exists_eq_right, exists_eq_left, exists_eq_left', eRune, he0, he4, he5, he6, he7, he8]
        obtain rfl : q = 0 := by omega
        unfold contM at hC
        refine ⟨Sub.refl _, ?_⟩
        rw [← hC]
        rfl
end Go.Proofs.K
