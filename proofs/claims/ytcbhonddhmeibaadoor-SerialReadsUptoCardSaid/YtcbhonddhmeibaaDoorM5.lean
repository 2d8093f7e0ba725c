/- Texts of this claim, one behind the other. -/
import Derived.Test.YtcbhonddhmeibaaDoorM4
section
set_option linter.unusedSimpArgs false
set_option linter.unusedVariables false
namespace Go.Proofs.K
open Go Go.Sim Go.Proofs
variable {G : Glob}
theorem betw_ok (n a b : Int) : PCalls (Pg G) 46 [aInt n, aInt a, aInt b] (.bool (decide (a ≤ n) && decide (n ≤ b))) := between_ok n a b
def c47 : SFun := ⟨.seq (.reg [⟨some 4, .mv (.c (.int .i64 0)), none⟩]) (.seq (.seq (.reg [⟨some 5, .mv (.c (.int .i64 0)), none⟩]) (.block 0 (.loop (.seq (.seq (.reg [⟨some 6, .mv (.t 5), none⟩, ⟨some 7, .mv (.t 0), none⟩, ⟨some 8, .len (.t 7), none⟩, ⟨some 9, .bin .lss (.t 6) (.t 8), none⟩]) (.cond (.t 9) .skip (.exit 0))) (.seq (.block 1 (.seq (.reg [⟨some 12, .mv (.t 0), none⟩, ⟨some 13, .mv (.t 5), none⟩, ⟨some 14, .idxA 1 (.t 12) (.t 13), none⟩, ⟨some 15, .ld 1 false (.t 14), none⟩, ⟨some 16, .mv (.t 1), none⟩, ⟨some 17, .bin .eql (.t 15) (.t 16), none⟩]) (.cond (.t 17) (.seq (.reg [⟨some 18, .mv (.t 5), none⟩, ⟨some 4, .mv (.t 18), none⟩]) .ret) .skip))) (.reg [⟨some 10, .mv (.t 5), none⟩, ⟨some 11, .bin .add (.t 10) (.c (.int .i64 1)), none⟩, ⟨some 5, .mv (.t 11), none⟩])))))) (.seq (.reg [⟨some 4, .mv (.c (.int .i64 (-1))), none⟩]) .ret)), [.tmp 4]⟩
theorem hc47 : toSF Tryd.prog {} Tryd.f47 = some c47 := by kernel_rfl
theorem hn47 : (Tryd.f47.name == "runtime.NumGoroutine") = false := by kernel_rfl
theorem placeIn_ok (l : List Int) (n : Int) (hl : l.length ≤ 1073741824) : PCalls (Pg G) 47 [sl eInt l, aInt n] (aInt (idxM (· == n) l)) := fun h => by
  refine dcalls_of_vc Tryd.func47 hn47 hc47 (by rw [Tryd.ntmps47]; simp) (by rw [Tryd.ntmps47]; decide) ?_
  simp -dsimp -implicitDefEqProofs (disch := omega) only [VCA, pg_gl, ↓upd_none, Nat.reduceEqDiff, Nat.reduceBEq, Nat.reduceAdd, Nat.reduceSub, Nat.reduceMul, Nat.reduceLT, Nat.reduceLeDiff, ↓reduceIte, reduceCtorEq, rsOf, rootsOf, SOp.rd, SI.rd, SX.rd, rdL, rdO, rdP, okParts, eqCells, okEqCells, fillA, okFill, setAt, implies_true, forall_const, forall_eq, ne_eq, exists_eq_right_right, exists_eq_right, exists_eq_left, exists_eq_left', rootL, eAttr, eInt, eNode, eDoc, eBool, c47]
  refine LoopVC.intro (fun m e h' => ∃ k : Nat, k ≤ l.length ∧ m = l.length - k ∧ e 0 = sl eInt l ∧ e 1 = aInt n ∧ e 5 = aInt k ∧ h' = h ∧ ∀ j, j < k → (nth l j == n) = false) l.length ⟨0, by omega, by omega, rfl, rfl, rfl, rfl, by omega⟩ ?_
  rintro m e h' ⟨k, hk, rfl, he0, he1, he5, rfl, hj⟩
  simp -dsimp -implicitDefEqProofs (disch := omega) only [VCA, pg_gl, ↓upd_none, Nat.reduceEqDiff, Nat.reduceBEq, Nat.reduceAdd, Nat.reduceSub, Nat.reduceMul, Nat.reduceLT, Nat.reduceLeDiff, ↓reduceIte, reduceCtorEq, rsOf, rootsOf, SOp.rd, SI.rd, SX.rd, rdL, rdO, rdP, okParts, eqCells, okEqCells, fillA, okFill, setAt, implies_true, forall_const, forall_eq, ne_eq, exists_eq_right_right, exists_eq_right, exists_eq_left, exists_eq_left', rootL, eAttr, eInt, eNode, eDoc, eBool, he0, he1, he5]
  repeat' (first | ((with_reducible refine brC (fun _ => ?_) fun _ => ?_) <;> try (exfalso; omega)) | (with_reducible refine And.intro ?_ ?_; · omega) | simp -dsimp -implicitDefEqProofs (disch := omega) only [VCA, pg_gl, ↓upd_none, Nat.reduceEqDiff, Nat.reduceBEq, Nat.reduceAdd, Nat.reduceSub, Nat.reduceMul, Nat.reduceLT, Nat.reduceLeDiff, ↓reduceIte, reduceCtorEq, rsOf, rootsOf, SOp.rd, SI.rd, SX.rd, rdL, rdO, rdP, okParts, eqCells, okEqCells, fillA, okFill, setAt, implies_true, forall_const, forall_eq, ne_eq, exists_eq_right_right, exists_eq_right, exists_eq_left, exists_eq_left', rootL, eAttr, eInt, eNode, eDoc, eBool, he0, he1, he5])
  · rename_i h1 h2
    exact ⟨Sub.refl _, (idxM_some (by omega) hj (by simpa using h2)).symm⟩
  · rename_i h1 h2
    refine ⟨_, by omega, k + 1, by omega, rfl, by omega, fun j hj' => ?_⟩
    by_cases hjk : j = k
    · subst hjk; simpa using h2
    · exact hj j (by omega)
  · rename_i h1
    exact ⟨Sub.refl _, (idxM_none (fun j hj' => hj j (by omega))).symm⟩
theorem idx_mem (l : List Int) (n : Int) : 0 ≤ idxM (· == n) l ↔ n ∈ l := by
  have := idxM_any (· == n) l
  rw [← decide_eq_true_iff (p := 0 ≤ idxM (· == n) l), this, List.any_eq_true]
  simp
def c70 : SFun := ⟨.seq (.reg [⟨some 4, .mv (.c (.str [])), none⟩, ⟨some 5, .mv (.c (.bool false)), none⟩]) (.seq (.seq (.reg [⟨some 6, .mv (.c (.int .i64 0)), none⟩]) (.block 0 (.loop (.seq (.seq (.reg [⟨some 7, .mv (.t 6), none⟩, ⟨some 8, .mv (.t 0), none⟩, ⟨some 9, .len (.t 8), none⟩, ⟨some 10, .bin .lss (.t 7) (.t 9), none⟩]) (.cond (.t 10) .skip (.exit 0))) (.seq (.block 1 (.seq (.reg [⟨some 13, .mv (.t 0), none⟩, ⟨some 14, .mv (.t 6), none⟩, ⟨some 15, .idxA 2 (.t 13) (.t 14), none⟩, ⟨some 16, .fldA 0 (.t 15), none⟩, ⟨some 17, .ld 1 false (.t 16), none⟩, ⟨some 18, .mv (.t 1), none⟩, ⟨some 19, .bin .eql (.t 17) (.t 18), none⟩]) (.cond (.t 19) (.seq (.reg [⟨some 20, .mv (.t 0), none⟩, ⟨some 21, .mv (.t 6), none⟩, ⟨some 22, .idxA 2 (.t 20) (.t 21), none⟩, ⟨some 23, .fldA 1 (.t 22), none⟩, ⟨some 24, .ld 1 false (.t 23), none⟩, ⟨some 4, .mv (.t 24), none⟩, ⟨some 5, .mv (.c (.bool true)), none⟩]) .ret) .skip))) (.reg [⟨some 11, .mv (.t 6), none⟩, ⟨some 12, .bin .add (.t 11) (.c (.int .i64 1)), none⟩, ⟨some 6, .mv (.t 12), none⟩])))))) (.seq (.reg [⟨some 4, .mv (.c (.str [])), none⟩, ⟨some 5, .mv (.c (.bool false)), none⟩]) .ret)), [.tmp 4, .tmp 5]⟩
theorem hc70 : toSF Tryd.prog {} Tryd.f70 = some c70 := by kernel_rfl
theorem hn70 : (Tryd.f70.name == "runtime.NumGoroutine") = false := by kernel_rfl
def attrOfM (l : List HAttr) (name : List UInt8) : List UInt8 × Bool := if 0 ≤ attrAt l name then ((nth l (attrAt l name).toNat).value, true) else ([], false)
theorem attrOf_ok (l : List HAttr) (name : List UInt8) (hl : l.length ≤ 1073741824) : PCalls (Pg G) 70 [sl eAttr l, .str name] (.tup [.str (attrOfM l name).1, .bool (attrOfM l name).2]) := fun h => by
  refine dcalls_of_vc Tryd.func70 hn70 hc70 (by rw [Tryd.ntmps70]; simp) (by rw [Tryd.ntmps70]; decide) ?_
  simp -dsimp -implicitDefEqProofs (disch := omega) only [VCA, pg_gl, ↓upd_none, Nat.reduceEqDiff, Nat.reduceBEq, Nat.reduceAdd, Nat.reduceSub, Nat.reduceMul, Nat.reduceLT, Nat.reduceLeDiff, ↓reduceIte, reduceCtorEq, rsOf, rootsOf, SOp.rd, SI.rd, SX.rd, rdL, rdO, rdP, okParts, eqCells, okEqCells, fillA, okFill, setAt, implies_true, forall_const, forall_eq, ne_eq, exists_eq_right_right, exists_eq_right, exists_eq_left, exists_eq_left', rootL, eAttr, eInt, eNode, eDoc, eBool, c70]
  refine LoopVC.intro (fun m e h' => ∃ k : Nat, k ≤ l.length ∧ m = l.length - k ∧ e 0 = sl eAttr l ∧ e 1 = .str name ∧ e 6 = aInt k ∧ h' = h ∧ ∀ j, j < k → ((nth l j).name == name) = false) l.length ⟨0, by omega, by omega, rfl, rfl, rfl, rfl, by omega⟩ ?_
  rintro m e h' ⟨k, hk, rfl, he0, he1, he6, rfl, hj⟩
  simp -dsimp -implicitDefEqProofs (disch := omega) only [VCA, pg_gl, ↓upd_none, Nat.reduceEqDiff, Nat.reduceBEq, Nat.reduceAdd, Nat.reduceSub, Nat.reduceMul, Nat.reduceLT, Nat.reduceLeDiff, ↓reduceIte, reduceCtorEq, rsOf, rootsOf, SOp.rd, SI.rd, SX.rd, rdL, rdO, rdP, okParts, eqCells, okEqCells, fillA, okFill, setAt, implies_true, forall_const, forall_eq, ne_eq, exists_eq_right_right, exists_eq_right, exists_eq_left, exists_eq_left', rootL, eAttr, eInt, eNode, eDoc, eBool, he0, he1, he6]
  repeat' (first | ((with_reducible refine brC (fun _ => ?_) fun _ => ?_) <;> try (exfalso; omega)) | (with_reducible refine And.intro ?_ ?_; · omega) | simp -dsimp -implicitDefEqProofs (disch := omega) only [VCA, pg_gl, ↓upd_none, Nat.reduceEqDiff, Nat.reduceBEq, Nat.reduceAdd, Nat.reduceSub, Nat.reduceMul, Nat.reduceLT, Nat.reduceLeDiff, ↓reduceIte, reduceCtorEq, rsOf, rootsOf, SOp.rd, SI.rd, SX.rd, rdL, rdO, rdP, okParts, eqCells, okEqCells, fillA, okFill, setAt, implies_true, forall_const, forall_eq, ne_eq, exists_eq_right_right, exists_eq_right, exists_eq_left, exists_eq_left', rootL, eAttr, eInt, eNode, eDoc, eBool, he0, he1, he6, eAttr])
  · rename_i h1 h2
    have e1 : attrAt l name = k := idxM_some (by omega) hj (by simpa using h2)
    unfold attrOfM
    rw [e1, if_pos (by omega)]
    exact ⟨Sub.refl _, rfl⟩
  · rename_i h1 h2
    refine ⟨_, by omega, k + 1, by omega, rfl, by omega, fun j hj' => ?_⟩
    by_cases hjk : j = k
    · subst hjk; simpa using h2
    · exact hj j (by omega)
  · rename_i h1
    have e1 : attrAt l name = -1 := idxM_none (fun j hj' => hj j (by omega))
    unfold attrOfM
    rw [e1, if_neg (by omega)]
    exact ⟨Sub.refl _, rfl⟩
theorem attrOf_has (l : List HAttr) (name : List UInt8) : (attrOfM l name).2 = decide (0 ≤ attrAt l name) := by
  unfold attrOfM; split <;> simp_all
def c69 : SFun := ⟨.seq (.reg [⟨some 4, .mv (.c (.bool false)), none⟩]) (.seq (.seq (.reg [⟨some 8, .mv (.t 0), none⟩, ⟨some 9, .lenS (.t 8), none⟩, ⟨some 10, .bin .lss (.t 9) (.c (.int .i64 1)), none⟩, ⟨some 11, .mv (.t 10), none⟩, ⟨some 12, .mv (.t 0), some (11, false)⟩, ⟨some 13, .lenS (.t 12), some (11, false)⟩, ⟨some 14, .bin .gtr (.t 13) (.c (.int .i64 40)), some (11, false)⟩, ⟨some 15, .pick (.t 11) (.c (.bool true)) (.t 14), none⟩]) (.cond (.t 15) (.seq (.reg [⟨some 4, .mv (.c (.bool false)), none⟩]) .ret) .skip)) (.seq (.seq (.reg [⟨some 5, .mv (.c (.int .i64 0)), none⟩]) (.block 0 (.loop (.seq (.seq (.reg [⟨some 16, .mv (.t 5), none⟩, ⟨some 17, .mv (.t 0), none⟩, ⟨some 18, .lenS (.t 17), none⟩, ⟨some 19, .bin .lss (.t 16) (.t 18), none⟩]) (.cond (.t 19) .skip (.exit 0))) (.seq (.block 1 (.seq (.reg [⟨some 22, .mv (.t 0), none⟩, ⟨some 23, .mv (.t 5), none⟩, ⟨some 24, .idxS (.t 22) (.t 23), none⟩, ⟨some 6, .mv (.t 24), none⟩]) (.seq (.reg [⟨some 25, .mv (.t 6), none⟩, ⟨some 26, .bin .geq (.t 25) (.c (.int .u8 97)), none⟩, ⟨some 27, .mv (.t 26), none⟩, ⟨some 28, .mv (.t 6), some (27, true)⟩, ⟨some 29, .bin .leq (.t 28) (.c (.int .u8 122)), some (27, true)⟩, ⟨some 30, .pick (.t 27) (.t 29) (.c (.bool false)), none⟩, ⟨some 7, .mv (.t 30), none⟩]) (.seq (.seq (.reg [⟨some 31, .mv (.t 7), none⟩, ⟨some 32, .un .not (.t 31), none⟩, ⟨some 33, .mv (.t 32), none⟩, ⟨some 34, .mv (.t 6), some (33, true)⟩, ⟨some 35, .bin .geq (.t 34) (.c (.int .u8 48)), some (33, true)⟩, ⟨some 36, .mv (.t 35), some (33, true)⟩, ⟨some 37, .mv (.t 6), some (36, true)⟩, ⟨some 38, .bin .leq (.t 37) (.c (.int .u8 57)), some (36, true)⟩, ⟨some 39, .pick (.t 36) (.t 38) (.c (.bool false)), some (33, true)⟩, ⟨some 40, .un .not (.t 39), some (33, true)⟩, ⟨some 41, .pick (.t 33) (.t 40) (.c (.bool false)), none⟩, ⟨some 42, .mv (.t 41), none⟩, ⟨some 43, .mv (.t 6), some (42, true)⟩, ⟨some 44, .bin .neq (.t 43) (.c (.int .u8 45)), some (42, true)⟩, ⟨some 45, .pick (.t 42) (.t 44) (.c (.bool false)), none⟩, ⟨some 46, .mv (.t 45), none⟩, ⟨some 47, .mv (.t 6), some (46, true)⟩, ⟨some 48, .bin .neq (.t 47) (.c (.int .u8 95)), some (46, true)⟩, ⟨some 49, .pick (.t 46) (.t 48) (.c (.bool false)), none⟩, ⟨some 50, .mv (.t 49), none⟩, ⟨some 51, .mv (.t 6), some (50, true)⟩, ⟨some 52, .bin .neq (.t 51) (.c (.int .u8 58)), some (50, true)⟩, ⟨some 53, .pick (.t 50) (.t 52) (.c (.bool false)), none⟩]) (.cond (.t 53) (.seq (.reg [⟨some 4, .mv (.c (.bool false)), none⟩]) .ret) .skip)) (.seq (.reg [⟨some 54, .mv (.t 5), none⟩, ⟨some 55, .bin .eql (.t 54) (.c (.int .i64 0)), none⟩, ⟨some 56, .mv (.t 55), none⟩, ⟨some 57, .mv (.t 7), some (56, true)⟩, ⟨some 58, .un .not (.t 57), some (56, true)⟩, ⟨some 59, .pick (.t 56) (.t 58) (.c (.bool false)), none⟩, ⟨some 60, .mv (.t 59), none⟩, ⟨some 61, .mv (.t 1), some (60, true)⟩, ⟨some 62, .mv (.t 61), some (60, true)⟩, ⟨some 63, .mv (.t 6), some (62, false)⟩, ⟨some 64, .bin .neq (.t 63) (.c (.int .u8 45)), some (62, false)⟩, ⟨some 65, .mv (.t 64), some (62, false)⟩, ⟨some 66, .mv (.t 6), some (65, true)⟩, ⟨some 67, .bin .neq (.t 66) (.c (.int .u8 95)), some (65, true)⟩, ⟨some 68, .pick (.t 65) (.t 67) (.c (.bool false)), some (62, false)⟩, ⟨some 69, .pick (.t 62) (.c (.bool true)) (.t 68), some (60, true)⟩, ⟨some 70, .pick (.t 60) (.t 69) (.c (.bool false)), none⟩]) (.cond (.t 70) (.seq (.reg [⟨some 4, .mv (.c (.bool false)), none⟩]) .ret) .skip)))))) (.reg [⟨some 20, .mv (.t 5), none⟩, ⟨some 21, .bin .add (.t 20) (.c (.int .i64 1)), none⟩, ⟨some 5, .mv (.t 21), none⟩])))))) (.seq (.reg [⟨some 4, .mv (.c (.bool true)), none⟩]) .ret))), [.tmp 4]⟩
theorem hc69 : toSF Tryd.prog {} Tryd.f69 = some c69 := by kernel_rfl
theorem hn69 : (Tryd.f69.name == "runtime.NumGoroutine") = false := by kernel_rfl
theorem domName_ok (s : List UInt8) (el : Bool) (hs : s.length ≤ 1073741824) : PCalls (Pg G) 69 [.str s, .bool el] (.bool (nameOK el s)) := fun h => by
  refine dcalls_of_vc Tryd.func69 hn69 hc69 (by rw [Tryd.ntmps69]; simp) (by rw [Tryd.ntmps69]; decide) ?_
  simp -dsimp -implicitDefEqProofs (disch := omega) only [↓vcOps_sp 11, ↓vcD_sp 11, ↓vcOps_sp 27, ↓vcD_sp 27, ↓vcOps_sp 33, ↓vcD_sp 33, ↓vcOps_sp 36, ↓vcD_sp 36, ↓vcOps_sp 42, ↓vcD_sp 42, ↓vcOps_sp 46, ↓vcD_sp 46, ↓vcOps_sp 50, ↓vcD_sp 50, ↓vcOps_sp 56, ↓vcD_sp 56, ↓vcOps_sp 60, ↓vcD_sp 60, ↓vcOps_sp 62, ↓vcD_sp 62, ↓vcOps_sp 65, ↓vcD_sp 65, VCA, pg_gl, ↓upd_none, Nat.reduceEqDiff, Nat.reduceBEq, Nat.reduceAdd, Nat.reduceSub, Nat.reduceMul, Nat.reduceLT, Nat.reduceLeDiff, ↓reduceIte, reduceCtorEq, rsOf, rootsOf, SOp.rd, SI.rd, SX.rd, rdL, rdO, rdP, okParts, eqCells, okEqCells, fillA, okFill, setAt, implies_true, forall_const, forall_eq, ne_eq, exists_eq_right_right, exists_eq_right, exists_eq_left, exists_eq_left', rootL, eAttr, eInt, eNode, eDoc, eBool, c69]
  have nd' : nameOK el s = decide (1 ≤ s.length ∧ s.length ≤ 40 ∧ firstB el (s.getD 0 0) = true ∧ s.all signB = true) := by
    unfold nameOK; rw [Bool.eq_iff_iff]; simp
  refine Br.dec (fun h1 => ?_) (fun h1 => ?_)
  · simp -dsimp -implicitDefEqProofs (disch := omega) only [↓vcOps_sp 11, ↓vcD_sp 11, ↓vcOps_sp 27, ↓vcD_sp 27, ↓vcOps_sp 33, ↓vcD_sp 33, ↓vcOps_sp 36, ↓vcD_sp 36, ↓vcOps_sp 42, ↓vcD_sp 42, ↓vcOps_sp 46, ↓vcD_sp 46, ↓vcOps_sp 50, ↓vcD_sp 50, ↓vcOps_sp 56, ↓vcD_sp 56, ↓vcOps_sp 60, ↓vcD_sp 60, ↓vcOps_sp 62, ↓vcD_sp 62, ↓vcOps_sp 65, ↓vcD_sp 65, VCA, pg_gl, ↓upd_none, Nat.reduceEqDiff, Nat.reduceBEq, Nat.reduceAdd, Nat.reduceSub, Nat.reduceMul, Nat.reduceLT, Nat.reduceLeDiff, ↓reduceIte, reduceCtorEq, rsOf, rootsOf, SOp.rd, SI.rd, SX.rd, rdL, rdO, rdP, okParts, eqCells, okEqCells, fillA, okFill, setAt, implies_true, forall_const, forall_eq, ne_eq, exists_eq_right_right, exists_eq_right, exists_eq_left, exists_eq_left', rootL, eAttr, eInt, eNode, eDoc, eBool]
    exact ⟨Sub.refl _, by rw [nd']; symm; rw [decide_eq_false_iff_not]; omega⟩
  · simp -dsimp -implicitDefEqProofs (disch := omega) only [↓vcOps_sp 11, ↓vcD_sp 11, ↓vcOps_sp 27, ↓vcD_sp 27, ↓vcOps_sp 33, ↓vcD_sp 33, ↓vcOps_sp 36, ↓vcD_sp 36, ↓vcOps_sp 42, ↓vcD_sp 42, ↓vcOps_sp 46, ↓vcD_sp 46, ↓vcOps_sp 50, ↓vcD_sp 50, ↓vcOps_sp 56, ↓vcD_sp 56, ↓vcOps_sp 60, ↓vcD_sp 60, ↓vcOps_sp 62, ↓vcD_sp 62, ↓vcOps_sp 65, ↓vcD_sp 65, VCA, pg_gl, ↓upd_none, Nat.reduceEqDiff, Nat.reduceBEq, Nat.reduceAdd, Nat.reduceSub, Nat.reduceMul, Nat.reduceLT, Nat.reduceLeDiff, ↓reduceIte, reduceCtorEq, rsOf, rootsOf, SOp.rd, SI.rd, SX.rd, rdL, rdO, rdP, okParts, eqCells, okEqCells, fillA, okFill, setAt, implies_true, forall_const, forall_eq, ne_eq, exists_eq_right_right, exists_eq_right, exists_eq_left, exists_eq_left', rootL, eAttr, eInt, eNode, eDoc, eBool]
    refine Br.dec (fun h2 => ?_) (fun h2 => ?_)
    · simp -dsimp -implicitDefEqProofs (disch := omega) only [↓vcOps_sp 11, ↓vcD_sp 11, ↓vcOps_sp 27, ↓vcD_sp 27, ↓vcOps_sp 33, ↓vcD_sp 33, ↓vcOps_sp 36, ↓vcD_sp 36, ↓vcOps_sp 42, ↓vcD_sp 42, ↓vcOps_sp 46, ↓vcD_sp 46, ↓vcOps_sp 50, ↓vcD_sp 50, ↓vcOps_sp 56, ↓vcD_sp 56, ↓vcOps_sp 60, ↓vcD_sp 60, ↓vcOps_sp 62, ↓vcD_sp 62, ↓vcOps_sp 65, ↓vcD_sp 65, VCA, pg_gl, ↓upd_none, Nat.reduceEqDiff, Nat.reduceBEq, Nat.reduceAdd, Nat.reduceSub, Nat.reduceMul, Nat.reduceLT, Nat.reduceLeDiff, ↓reduceIte, reduceCtorEq, rsOf, rootsOf, SOp.rd, SI.rd, SX.rd, rdL, rdO, rdP, okParts, eqCells, okEqCells, fillA, okFill, setAt, implies_true, forall_const, forall_eq, ne_eq, exists_eq_right_right, exists_eq_right, exists_eq_left, exists_eq_left', rootL, eAttr, eInt, eNode, eDoc, eBool]
      exact ⟨Sub.refl _, by rw [nd']; symm; rw [decide_eq_false_iff_not]; omega⟩
    · simp -dsimp -implicitDefEqProofs (disch := omega) only [↓vcOps_sp 11, ↓vcD_sp 11, ↓vcOps_sp 27, ↓vcD_sp 27, ↓vcOps_sp 33, ↓vcD_sp 33, ↓vcOps_sp 36, ↓vcD_sp 36, ↓vcOps_sp 42, ↓vcD_sp 42, ↓vcOps_sp 46, ↓vcD_sp 46, ↓vcOps_sp 50, ↓vcD_sp 50, ↓vcOps_sp 56, ↓vcD_sp 56, ↓vcOps_sp 60, ↓vcD_sp 60, ↓vcOps_sp 62, ↓vcD_sp 62, ↓vcOps_sp 65, ↓vcD_sp 65, VCA, pg_gl, ↓upd_none, Nat.reduceEqDiff, Nat.reduceBEq, Nat.reduceAdd, Nat.reduceSub, Nat.reduceMul, Nat.reduceLT, Nat.reduceLeDiff, ↓reduceIte, reduceCtorEq, rsOf, rootsOf, SOp.rd, SI.rd, SX.rd, rdL, rdO, rdP, okParts, eqCells, okEqCells, fillA, okFill, setAt, implies_true, forall_const, forall_eq, ne_eq, exists_eq_right_right, exists_eq_right, exists_eq_left, exists_eq_left', rootL, eAttr, eInt, eNode, eDoc, eBool]
      refine LoopVC.intro (fun m e h' => ∃ k : Nat, k ≤ s.length ∧ m = s.length - k ∧ e 0 = .str s ∧ e 1 = .bool el ∧ e 5 = aInt k ∧ h' = h ∧ (∀ j, j < k → signB (s.getD j 0) = true) ∧ (0 < k → firstB el (s.getD 0 0) = true)) s.length ⟨0, by omega, by omega, rfl, rfl, rfl, rfl, by omega, by omega⟩ ?_
      rintro m e h' ⟨k, hk, rfl, he0, he1, he5, rfl, hj, hf⟩
      simp -dsimp -implicitDefEqProofs (disch := omega) only [↓vcOps_sp 11, ↓vcD_sp 11, ↓vcOps_sp 27, ↓vcD_sp 27, ↓vcOps_sp 33, ↓vcD_sp 33, ↓vcOps_sp 36, ↓vcD_sp 36, ↓vcOps_sp 42, ↓vcD_sp 42, ↓vcOps_sp 46, ↓vcD_sp 46, ↓vcOps_sp 50, ↓vcD_sp 50, ↓vcOps_sp 56, ↓vcD_sp 56, ↓vcOps_sp 60, ↓vcD_sp 60, ↓vcOps_sp 62, ↓vcD_sp 62, ↓vcOps_sp 65, ↓vcD_sp 65, VCA, pg_gl, ↓upd_none, Nat.reduceEqDiff, Nat.reduceBEq, Nat.reduceAdd, Nat.reduceSub, Nat.reduceMul, Nat.reduceLT, Nat.reduceLeDiff, ↓reduceIte, reduceCtorEq, rsOf, rootsOf, SOp.rd, SI.rd, SX.rd, rdL, rdO, rdP, okParts, eqCells, okEqCells, fillA, okFill, setAt, implies_true, forall_const, forall_eq, ne_eq, exists_eq_right_right, exists_eq_right, exists_eq_left, exists_eq_left', rootL, eAttr, eInt, eNode, eDoc, eBool, he0, he1, he5]
      refine Br.dec (fun hlt => ?_) (fun hge => ?_)
      · have hk' : k < s.length := by omega
        have sg : signB (s.getD k 0) = true ↔ ((97 ≤ ((s.getD k 0).toNat : Int) ∧ ((s.getD k 0).toNat : Int) ≤ 122) ∨ (48 ≤ ((s.getD k 0).toNat : Int) ∧ ((s.getD k 0).toNat : Int) ≤ 57) ∨ ((s.getD k 0).toNat : Int) = 45 ∨ ((s.getD k 0).toNat : Int) = 95 ∨ ((s.getD k 0).toNat : Int) = 58) := by
          generalize s.getD k 0 = b
          unfold signB
          have e45 : (b = 45) ↔ ((b.toNat : Int) = 45) := by rw [← UInt8.toNat_inj]; exact (by omega : b.toNat = 45 ↔ (b.toNat : Int) = 45)
          have e95 : (b = 95) ↔ ((b.toNat : Int) = 95) := by rw [← UInt8.toNat_inj]; exact (by omega : b.toNat = 95 ↔ (b.toNat : Int) = 95)
          have e58 : (b = 58) ↔ ((b.toNat : Int) = 58) := by rw [← UInt8.toNat_inj]; exact (by omega : b.toNat = 58 ↔ (b.toNat : Int) = 58)
          simp only [Bool.or_eq_true, Bool.and_eq_true, decide_eq_true_eq, beq_iff_eq, e45, e95, e58]
          omega
        have fs : k = 0 → (firstB el (s.getD 0 0) = true ↔ ((97 ≤ ((s.getD k 0).toNat : Int) ∧ ((s.getD k 0).toNat : Int) ≤ 122) ∨ (el = false ∧ (((s.getD k 0).toNat : Int) = 45 ∨ ((s.getD k 0).toNat : Int) = 95)))) := by
          rintro rfl
          generalize s.getD 0 0 = b
          unfold firstB
          have e45 : (b = 45) ↔ ((b.toNat : Int) = 45) := by rw [← UInt8.toNat_inj]; exact (by omega : b.toNat = 45 ↔ (b.toNat : Int) = 45)
          have e95 : (b = 95) ↔ ((b.toNat : Int) = 95) := by rw [← UInt8.toNat_inj]; exact (by omega : b.toNat = 95 ↔ (b.toNat : Int) = 95)
          simp only [Bool.or_eq_true, Bool.and_eq_true, decide_eq_true_eq, beq_iff_eq, e45, e95, Bool.not_eq_true']
          exact or_congr (by omega) Iff.rfl
        have badS : ¬ signB (s.getD k 0) = true → false = nameOK el s := fun hn => by
          rw [nd']; symm; rw [decide_eq_false_iff_not]
          rintro ⟨_, _, _, hall⟩
          rw [List.all_eq_true] at hall
          refine hn (hall _ ?_)
          rw [List.getD_eq_getElem?_getD, List.getElem?_eq_getElem hk']
          exact List.getElem_mem hk'
        have badF : k = 0 → ¬ firstB el (s.getD 0 0) = true → false = nameOK el s := fun _ hn => by
          rw [nd']; symm; rw [decide_eq_false_iff_not]
          rintro ⟨_, _, hh, _⟩
          exact hn hh
        have go : signB (s.getD k 0) = true → (k = 0 → firstB el (s.getD 0 0) = true) → ∃ m', m' < s.length - k ∧ ∃ k1, k1 ≤ s.length ∧ m' = s.length - k1 ∧ (k : Int) + 1 = k1 ∧ (∀ j, j < k1 → signB (s.getD j 0) = true) ∧ (0 < k1 → firstB el (s.getD 0 0) = true) := fun h1 h2 =>
          ⟨_, by omega, k + 1, by omega, rfl, by omega, fun j hj' => by
            by_cases hjk : j = k
            · subst hjk; exact h1
            · exact hj j (by omega), fun _ => by
            by_cases hk0 : k = 0
            · exact h2 hk0
            · exact hf (by omega)⟩
        clear nd'
        cases el
        · simp only [true_and] at fs
          simp -dsimp -implicitDefEqProofs (disch := omega) only [↓vcOps_sp 11, ↓vcD_sp 11, ↓vcOps_sp 27, ↓vcD_sp 27, ↓vcOps_sp 33, ↓vcD_sp 33, ↓vcOps_sp 36, ↓vcD_sp 36, ↓vcOps_sp 42, ↓vcD_sp 42, ↓vcOps_sp 46, ↓vcD_sp 46, ↓vcOps_sp 50, ↓vcD_sp 50, ↓vcOps_sp 56, ↓vcD_sp 56, ↓vcOps_sp 60, ↓vcD_sp 60, ↓vcOps_sp 62, ↓vcD_sp 62, ↓vcOps_sp 65, ↓vcD_sp 65, VCA, pg_gl, ↓upd_none, Nat.reduceEqDiff, Nat.reduceBEq, Nat.reduceAdd, Nat.reduceSub, Nat.reduceMul, Nat.reduceLT, Nat.reduceLeDiff, ↓reduceIte, reduceCtorEq, rsOf, rootsOf, SOp.rd, SI.rd, SX.rd, rdL, rdO, rdP, okParts, eqCells, okEqCells, fillA, okFill, setAt, implies_true, forall_const, forall_eq, ne_eq, exists_eq_right_right, exists_eq_right, exists_eq_left, exists_eq_left', rootL, eAttr, eInt, eNode, eDoc, eBool, he0, he1, he5]
          repeat' (first | ((with_reducible refine brC (fun _ => ?_) fun _ => ?_) <;> try (exfalso; omega)) | (with_reducible refine And.intro ?_ ?_; · omega) | simp -dsimp -implicitDefEqProofs (disch := omega) only [↓vcOps_sp 11, ↓vcD_sp 11, ↓vcOps_sp 27, ↓vcD_sp 27, ↓vcOps_sp 33, ↓vcD_sp 33, ↓vcOps_sp 36, ↓vcD_sp 36, ↓vcOps_sp 42, ↓vcD_sp 42, ↓vcOps_sp 46, ↓vcD_sp 46, ↓vcOps_sp 50, ↓vcD_sp 50, ↓vcOps_sp 56, ↓vcD_sp 56, ↓vcOps_sp 60, ↓vcD_sp 60, ↓vcOps_sp 62, ↓vcD_sp 62, ↓vcOps_sp 65, ↓vcD_sp 65, VCA, pg_gl, ↓upd_none, Nat.reduceEqDiff, Nat.reduceBEq, Nat.reduceAdd, Nat.reduceSub, Nat.reduceMul, Nat.reduceLT, Nat.reduceLeDiff, ↓reduceIte, reduceCtorEq, rsOf, rootsOf, SOp.rd, SI.rd, SX.rd, rdL, rdO, rdP, okParts, eqCells, okEqCells, fillA, okFill, setAt, implies_true, forall_const, forall_eq, ne_eq, exists_eq_right_right, exists_eq_right, exists_eq_left, exists_eq_left', rootL, eAttr, eInt, eNode, eDoc, eBool, he0, he1, he5])
          all_goals first
            | exact ⟨Sub.refl _, badS (by rw [sg]; omega)⟩
            | exact ⟨Sub.refl _, badF (by omega) (by rw [fs (by omega)]; omega)⟩
            | exact go (by rw [sg]; omega) (fun hk0 => by rw [fs hk0]; omega)
        · simp only [Bool.true_eq_false, false_and, or_false] at fs
          simp -dsimp -implicitDefEqProofs (disch := omega) only [↓vcOps_sp 11, ↓vcD_sp 11, ↓vcOps_sp 27, ↓vcD_sp 27, ↓vcOps_sp 33, ↓vcD_sp 33, ↓vcOps_sp 36, ↓vcD_sp 36, ↓vcOps_sp 42, ↓vcD_sp 42, ↓vcOps_sp 46, ↓vcD_sp 46, ↓vcOps_sp 50, ↓vcD_sp 50, ↓vcOps_sp 56, ↓vcD_sp 56, ↓vcOps_sp 60, ↓vcD_sp 60, ↓vcOps_sp 62, ↓vcD_sp 62, ↓vcOps_sp 65, ↓vcD_sp 65, VCA, pg_gl, ↓upd_none, Nat.reduceEqDiff, Nat.reduceBEq, Nat.reduceAdd, Nat.reduceSub, Nat.reduceMul, Nat.reduceLT, Nat.reduceLeDiff, ↓reduceIte, reduceCtorEq, rsOf, rootsOf, SOp.rd, SI.rd, SX.rd, rdL, rdO, rdP, okParts, eqCells, okEqCells, fillA, okFill, setAt, implies_true, forall_const, forall_eq, ne_eq, exists_eq_right_right, exists_eq_right, exists_eq_left, exists_eq_left', rootL, eAttr, eInt, eNode, eDoc, eBool, he0, he1, he5]
          repeat' (first | ((with_reducible refine brC (fun _ => ?_) fun _ => ?_) <;> try (exfalso; omega)) | (with_reducible refine And.intro ?_ ?_; · omega) | simp -dsimp -implicitDefEqProofs (disch := omega) only [↓vcOps_sp 11, ↓vcD_sp 11, ↓vcOps_sp 27, ↓vcD_sp 27, ↓vcOps_sp 33, ↓vcD_sp 33, ↓vcOps_sp 36, ↓vcD_sp 36, ↓vcOps_sp 42, ↓vcD_sp 42, ↓vcOps_sp 46, ↓vcD_sp 46, ↓vcOps_sp 50, ↓vcD_sp 50, ↓vcOps_sp 56, ↓vcD_sp 56, ↓vcOps_sp 60, ↓vcD_sp 60, ↓vcOps_sp 62, ↓vcD_sp 62, ↓vcOps_sp 65, ↓vcD_sp 65, VCA, pg_gl, ↓upd_none, Nat.reduceEqDiff, Nat.reduceBEq, Nat.reduceAdd, Nat.reduceSub, Nat.reduceMul, Nat.reduceLT, Nat.reduceLeDiff, ↓reduceIte, reduceCtorEq, rsOf, rootsOf, SOp.rd, SI.rd, SX.rd, rdL, rdO, rdP, okParts, eqCells, okEqCells, fillA, okFill, setAt, implies_true, forall_const, forall_eq, ne_eq, exists_eq_right_right, exists_eq_right, exists_eq_left, exists_eq_left', rootL, eAttr, eInt, eNode, eDoc, eBool, he0, he1, he5])
          all_goals first
            | exact ⟨Sub.refl _, badS (by rw [sg]; omega)⟩
            | exact ⟨Sub.refl _, badF (by omega) (by rw [fs (by omega)]; omega)⟩
            | exact go (by rw [sg]; omega) (fun hk0 => by rw [fs hk0]; omega)
      · obtain rfl : k = s.length := by omega
        simp -dsimp -implicitDefEqProofs (disch := omega) only [↓vcOps_sp 11, ↓vcD_sp 11, ↓vcOps_sp 27, ↓vcD_sp 27, ↓vcOps_sp 33, ↓vcD_sp 33, ↓vcOps_sp 36, ↓vcD_sp 36, ↓vcOps_sp 42, ↓vcD_sp 42, ↓vcOps_sp 46, ↓vcD_sp 46, ↓vcOps_sp 50, ↓vcD_sp 50, ↓vcOps_sp 56, ↓vcD_sp 56, ↓vcOps_sp 60, ↓vcD_sp 60, ↓vcOps_sp 62, ↓vcD_sp 62, ↓vcOps_sp 65, ↓vcD_sp 65, VCA, pg_gl, ↓upd_none, Nat.reduceEqDiff, Nat.reduceBEq, Nat.reduceAdd, Nat.reduceSub, Nat.reduceMul, Nat.reduceLT, Nat.reduceLeDiff, ↓reduceIte, reduceCtorEq, rsOf, rootsOf, SOp.rd, SI.rd, SX.rd, rdL, rdO, rdP, okParts, eqCells, okEqCells, fillA, okFill, setAt, implies_true, forall_const, forall_eq, ne_eq, exists_eq_right_right, exists_eq_right, exists_eq_left, exists_eq_left', rootL, eAttr, eInt, eNode, eDoc, eBool]
        refine ⟨Sub.refl _, ?_⟩
        rw [nd']; symm; rw [decide_eq_true_iff]
        refine ⟨by omega, by omega, hf (by omega), List.all_eq_true.2 fun x hx => ?_⟩
        obtain ⟨j, hj', rfl⟩ := List.getElem_of_mem hx
        have := hj j hj'
        rwa [List.getD_eq_getElem?_getD, List.getElem?_eq_getElem hj'] at this
theorem lenp {α : Type} (l : List α) : (0 < (l.length : Int)) = (l ≠ []) := by rw [← List.length_pos_iff]; exact propext (by omega)
def c45_s5 : SCode := (.seq (.seq (.reg [⟨some 3, .mv (.c (.int .i64 0)), none⟩]) (.block 0 (.loop (.seq (.seq (.reg [⟨some 73, .mv (.t 3), none⟩, ⟨some 74, .fldA 2 (.t 1), none⟩, ⟨some 75, .ld 1 false (.t 74), none⟩, ⟨some 76, .len (.t 75), none⟩, ⟨some 77, .bin .lss (.t 73) (.t 76), none⟩]) (.cond (.t 77) .skip (.exit 0))) (.seq (.block 1 (.seq (.seq (.reg [⟨some 80, .fldA 2 (.t 1), none⟩, ⟨some 81, .ld 1 false (.t 80), none⟩, ⟨some 82, .mv (.t 3), none⟩, ⟨some 83, .idxA 2 (.t 81) (.t 82), none⟩, ⟨some 84, .fldA 0 (.t 83), none⟩, ⟨some 85, .ld 1 false (.t 84), none⟩, ⟨some 86, .pcall 69 [.t 85, .c (.bool false)], none⟩, ⟨some 87, .un .not (.t 86), none⟩]) (.cond (.t 87) (.seq (.reg [⟨some 2, .mv (.c (.int .i64 3)), none⟩]) .ret) .skip)) (.seq (.seq (.reg [⟨some 88, .fldA 2 (.t 1), none⟩, ⟨some 89, .ld 1 false (.t 88), none⟩, ⟨some 90, .mv (.t 3), none⟩, ⟨some 91, .idxA 2 (.t 89) (.t 90), none⟩, ⟨some 92, .fldA 1 (.t 91), none⟩, ⟨some 93, .ld 1 false (.t 92), none⟩, ⟨some 94, .lenS (.t 93), none⟩, ⟨some 95, .bin .gtr (.t 94) (.c (.int .i64 400)), none⟩]) (.cond (.t 95) (.seq (.reg [⟨some 2, .mv (.c (.int .i64 2)), none⟩]) .ret) .skip)) (.seq (.dreg [(⟨some 97, .fldA 2 (.t 1), none⟩, none), (⟨some 98, .ld 1 false (.t 97), none⟩, none), (⟨some 99, .mv (.t 3), none⟩, none), (⟨some 100, .slA 2 (.t 98) none (some (.t 99)), none⟩, none), (⟨some 101, .fldA 2 (.t 1), none⟩, none), (⟨some 102, .ld 1 false (.t 101), none⟩, none), (⟨some 103, .mv (.t 3), none⟩, none), (⟨some 104, .idxA 2 (.t 102) (.t 103), none⟩, none), (⟨some 105, .fldA 0 (.t 104), none⟩, none), (⟨some 106, .ld 1 false (.t 105), none⟩, none), (⟨some 107, .pcall 70 [.t 100, .t 106], none⟩, none), (⟨some 96, .mv (.t 107), none⟩, none), (⟨some 108, .ext (.t 96) 0, none⟩, none), (⟨some 109, .ext (.t 96) 1, none⟩, none), (⟨some 4, .mv (.t 108), none⟩, none), (⟨some 5, .mv (.t 109), none⟩, none)]) (.seq (.reg [⟨some 110, .mv (.t 5), none⟩]) (.cond (.t 110) (.seq (.reg [⟨some 2, .mv (.c (.int .i64 3)), none⟩]) .ret) .skip)))))) (.reg [⟨some 78, .mv (.t 3), none⟩, ⟨some 79, .bin .add (.t 78) (.c (.int .i64 1)), none⟩, ⟨some 3, .mv (.t 79), none⟩])))))) (.seq (.seq (.reg [⟨some 111, .fldA 3 (.t 1), none⟩, ⟨some 112, .ld 1 false (.t 111), none⟩, ⟨some 113, .lenS (.t 112), none⟩, ⟨some 114, .bin .gtr (.t 113) (.c (.int .i64 400)), none⟩, ⟨some 115, .mv (.t 114), none⟩, ⟨some 116, .fldA 1 (.t 1), some (115, false)⟩, ⟨some 117, .ld 1 false (.t 116), some (115, false)⟩, ⟨some 118, .lenS (.t 117), some (115, false)⟩, ⟨some 119, .bin .gtr (.t 118) (.c (.int .i64 400)), some (115, false)⟩, ⟨some 120, .pick (.t 115) (.c (.bool true)) (.t 119), none⟩]) (.cond (.t 120) (.seq (.reg [⟨some 2, .mv (.c (.int .i64 2)), none⟩]) .ret) .skip)) (.seq (.reg [⟨some 2, .mv (.c (.int .i64 0)), none⟩]) .ret)))
def c45_s3 : SCode := (.seq (.seq (.reg [⟨some 60, .fldA 0 (.t 1), none⟩, ⟨some 61, .ld 1 false (.t 60), none⟩, ⟨some 62, .bin .eql (.t 61) (.c (.int .i64 2)), none⟩, ⟨some 63, .mv (.t 62), none⟩, ⟨some 64, .fldA 1 (.t 1), some (63, true)⟩, ⟨some 65, .ld 1 false (.t 64), some (63, true)⟩, ⟨some 66, .pcall 69 [.t 65, .c (.bool true)], some (63, true)⟩, ⟨some 67, .un .not (.t 66), some (63, true)⟩, ⟨some 68, .pick (.t 63) (.t 67) (.c (.bool false)), none⟩]) (.cond (.t 68) (.seq (.reg [⟨some 2, .mv (.c (.int .i64 3)), none⟩]) .ret) .skip)) (.seq (.seq (.reg [⟨some 69, .fldA 2 (.t 1), none⟩, ⟨some 70, .ld 1 false (.t 69), none⟩, ⟨some 71, .len (.t 70), none⟩, ⟨some 72, .bin .gtr (.t 71) (.c (.int .i64 12)), none⟩]) (.cond (.t 72) (.seq (.reg [⟨some 2, .mv (.c (.int .i64 2)), none⟩]) .ret) .skip)) c45_s5))
def c45 : SFun := ⟨.seq (.reg [⟨some 1, .boxF 53 6 (.t 0), none⟩, ⟨some 2, .mv (.c (.int .i64 0)), none⟩]) (.seq (.seq (.reg [⟨some 6, .fldA 0 (.t 1), none⟩, ⟨some 7, .ld 1 false (.t 6), none⟩, ⟨some 8, .pcall 46 [.t 7, .c (.int .i64 1), .c (.int .i64 5)], none⟩, ⟨some 9, .un .not (.t 8), none⟩]) (.cond (.t 9) (.seq (.reg [⟨some 2, .mv (.c (.int .i64 7)), none⟩]) .ret) .skip)) (.seq (.seq (.reg [⟨some 10, .fldA 1 (.t 1), none⟩, ⟨some 11, .ld 1 false (.t 10), none⟩, ⟨some 12, .bin .neq (.t 11) (.c (.str [])), none⟩, ⟨some 13, .mv (.t 12), none⟩, ⟨some 14, .fldA 0 (.t 1), some (13, true)⟩, ⟨some 15, .ld 1 false (.t 14), some (13, true)⟩, ⟨some 16, .bin .neq (.t 15) (.c (.int .i64 2)), some (13, true)⟩, ⟨some 17, .pick (.t 13) (.t 16) (.c (.bool false)), none⟩, ⟨some 18, .mv (.t 17), none⟩, ⟨some 19, .fldA 0 (.t 1), some (18, true)⟩, ⟨some 20, .ld 1 false (.t 19), some (18, true)⟩, ⟨some 21, .bin .neq (.t 20) (.c (.int .i64 5)), some (18, true)⟩, ⟨some 22, .pick (.t 18) (.t 21) (.c (.bool false)), none⟩, ⟨some 23, .mv (.t 22), none⟩, ⟨some 24, .fldA 2 (.t 1), some (23, false)⟩, ⟨some 25, .ld 1 false (.t 24), some (23, false)⟩, ⟨some 26, .len (.t 25), some (23, false)⟩, ⟨some 27, .bin .gtr (.t 26) (.c (.int .i64 0)), some (23, false)⟩, ⟨some 28, .mv (.t 27), some (23, false)⟩, ⟨some 29, .fldA 0 (.t 1), some (28, true)⟩, ⟨some 30, .ld 1 false (.t 29), some (28, true)⟩, ⟨some 31, .bin .neq (.t 30) (.c (.int .i64 2)), some (28, true)⟩, ⟨some 32, .pick (.t 28) (.t 31) (.c (.bool false)), some (23, false)⟩, ⟨some 33, .pick (.t 23) (.c (.bool true)) (.t 32), none⟩, ⟨some 34, .mv (.t 33), none⟩, ⟨some 35, .fldA 3 (.t 1), some (34, false)⟩, ⟨some 36, .ld 1 false (.t 35), some (34, false)⟩, ⟨some 37, .bin .neq (.t 36) (.c (.str [])), some (34, false)⟩, ⟨some 38, .mv (.t 37), some (34, false)⟩, ⟨some 39, .fldA 0 (.t 1), some (38, true)⟩, ⟨some 40, .ld 1 false (.t 39), some (38, true)⟩, ⟨some 41, .bin .neq (.t 40) (.c (.int .i64 3)), some (38, true)⟩, ⟨some 42, .pick (.t 38) (.t 41) (.c (.bool false)), some (34, false)⟩, ⟨some 43, .mv (.t 42), some (34, false)⟩, ⟨some 44, .fldA 0 (.t 1), some (43, true)⟩, ⟨some 45, .ld 1 false (.t 44), some (43, true)⟩, ⟨some 46, .bin .neq (.t 45) (.c (.int .i64 4)), some (43, true)⟩, ⟨some 47, .pick (.t 43) (.t 46) (.c (.bool false)), some (34, false)⟩, ⟨some 48, .pick (.t 34) (.c (.bool true)) (.t 47), none⟩, ⟨some 49, .mv (.t 48), none⟩, ⟨some 50, .fldA 5 (.t 1), some (49, false)⟩, ⟨some 51, .ld 1 false (.t 50), some (49, false)⟩, ⟨some 52, .len (.t 51), some (49, false)⟩, ⟨some 53, .bin .gtr (.t 52) (.c (.int .i64 0)), some (49, false)⟩, ⟨some 54, .mv (.t 53), some (49, false)⟩, ⟨some 55, .fldA 0 (.t 1), some (54, true)⟩, ⟨some 56, .ld 1 false (.t 55), some (54, true)⟩, ⟨some 57, .bin .gtr (.t 56) (.c (.int .i64 2)), some (54, true)⟩, ⟨some 58, .pick (.t 54) (.t 57) (.c (.bool false)), some (49, false)⟩, ⟨some 59, .pick (.t 49) (.c (.bool true)) (.t 58), none⟩]) (.cond (.t 59) (.seq (.reg [⟨some 2, .mv (.c (.int .i64 7)), none⟩]) .ret) .skip)) c45_s3)), [.tmp 2]⟩
theorem hc45 : toSF Tryd.prog {pure := [46, 69, 70]} Tryd.f45 = some c45 := by kernel_rfl
theorem hn45 : (Tryd.f45.name == "runtime.NumGoroutine") = false := by kernel_rfl
theorem nodeErr_ok (x : HNode) (hx : NodeSm x) : PCalls (Pg G) 45 [.agg (eNode x)] (aInt (nodeE x)) := fun h => by
  have ka := hx.attrs
  have key7 : (x.kind < 1 ∨ 5 < x.kind ∨ bareM x = false) → 7 = nodeE x := fun hh => by unfold nodeE; rw [if_pos hh]
  have rest : ¬ (x.kind < 1 ∨ 5 < x.kind ∨ bareM x = false) → ∀ e : Env, e 1 = .pin (eNode x) → vc (Pg G) c45_s3 (retK [.tmp 2] fun r h' => r = aInt (nodeE x) ∧ h' = h) e h := by
    intro k3 e he1
    unfold nodeE
    rw [if_neg k3]
    have nm := domName_ok (G := G) x.name true hx.name
    have loop : ¬ (x.kind = 2 ∧ nameOK true x.name = false) → ¬ 12 < x.attrs.length → ∀ e : Env, e 1 = .pin (eNode x) → vc (Pg G) c45_s5 (retK [.tmp 2] fun r h' => r = aInt (if x.kind = 2 ∧ nameOK true x.name = false then 3
      else if attrsE x.attrs ≠ 0 then attrsE x.attrs else if 400 < x.text.length ∨ 400 < x.name.length then 2 else 0) ∧ h' = h) e h := by
      intro g1 g2 e he1
      have ae : attrsE x.attrs = fe x.attrs.length (attrE x.attrs) := by unfold attrsE; rw [if_neg g2]
      rw [if_neg g1, ae]
      unfold c45_s5
      skip
      simp -dsimp -implicitDefEqProofs (disch := omega) only [↓vcOps_sp 13, ↓vcD_sp 13, ↓vcOps_sp 18, ↓vcD_sp 18, ↓vcOps_sp 23, ↓vcD_sp 23, ↓vcOps_sp 28, ↓vcD_sp 28, ↓vcOps_sp 34, ↓vcD_sp 34, ↓vcOps_sp 38, ↓vcD_sp 38, ↓vcOps_sp 43, ↓vcD_sp 43, ↓vcOps_sp 49, ↓vcD_sp 49, ↓vcOps_sp 54, ↓vcD_sp 54, ↓vcOps_sp 63, ↓vcD_sp 63, ↓vcOps_sp 115, ↓vcD_sp 115, VCA, pg_gl, ↓upd_none, Nat.reduceEqDiff, Nat.reduceBEq, Nat.reduceAdd, Nat.reduceSub, Nat.reduceMul, Nat.reduceLT, Nat.reduceLeDiff, ↓reduceIte, reduceCtorEq, rsOf, rootsOf, SOp.rd, SI.rd, SX.rd, rdL, rdO, rdP, okParts, eqCells, okEqCells, fillA, okFill, setAt, implies_true, forall_const, forall_eq, ne_eq, exists_eq_right_right, exists_eq_right, exists_eq_left, exists_eq_left', rootL, eAttr, eInt, eNode, eDoc, eBool]
      refine LoopVC.intro (fun m e h' => ∃ k : Nat, k ≤ x.attrs.length ∧ m = x.attrs.length - k ∧ e 1 = .pin (eNode x) ∧ e 3 = aInt k ∧ h' = h ∧ ∀ j, j < k → attrE x.attrs j = 0) x.attrs.length ⟨0, by omega, by omega, he1, rfl, rfl, by omega⟩ ?_
      rintro m e h' ⟨k, hk, rfl, he1, he3, rfl, hj⟩
      simp -dsimp -implicitDefEqProofs (disch := omega) only [↓vcOps_sp 13, ↓vcD_sp 13, ↓vcOps_sp 18, ↓vcD_sp 18, ↓vcOps_sp 23, ↓vcD_sp 23, ↓vcOps_sp 28, ↓vcD_sp 28, ↓vcOps_sp 34, ↓vcD_sp 34, ↓vcOps_sp 38, ↓vcD_sp 38, ↓vcOps_sp 43, ↓vcD_sp 43, ↓vcOps_sp 49, ↓vcD_sp 49, ↓vcOps_sp 54, ↓vcD_sp 54, ↓vcOps_sp 63, ↓vcD_sp 63, ↓vcOps_sp 115, ↓vcD_sp 115, VCA, pg_gl, ↓upd_none, Nat.reduceEqDiff, Nat.reduceBEq, Nat.reduceAdd, Nat.reduceSub, Nat.reduceMul, Nat.reduceLT, Nat.reduceLeDiff, ↓reduceIte, reduceCtorEq, rsOf, rootsOf, SOp.rd, SI.rd, SX.rd, rdL, rdO, rdP, okParts, eqCells, okEqCells, fillA, okFill, setAt, implies_true, forall_const, forall_eq, ne_eq, exists_eq_right_right, exists_eq_right, exists_eq_left, exists_eq_left', rootL, eAttr, eInt, eNode, eDoc, eBool, he1, he3, eNode]
      refine Br.dec (fun hlt => ?_) (fun hge => ?_)
      · have hk' : k < x.attrs.length := by omega
        have bad : ∀ y : Int, y ≠ 0 → attrE x.attrs k = y → fe x.attrs.length (attrE x.attrs) = y := fun y hy he => by rw [fe_some hk' hj (by rw [he]; exact hy), he]
        have adef : attrE x.attrs k = if nameOK false (nth x.attrs k).name = false then 3 else if 400 < (nth x.attrs k).value.length then 2 else if 0 ≤ attrAt (x.attrs.take k) (nth x.attrs k).name then 3 else 0 := rfl
        have e2 : x.attrs.take (Int.toNat (k : Int)) = x.attrs.take k := by simp
        have hh := attrOf_has (x.attrs.take k) (nth x.attrs k).name
        have hA := attrOf_ok (G := G) (x.attrs.take k) (nth x.attrs k).name (by simp; omega)
        simp -dsimp -implicitDefEqProofs (disch := omega) only [↓vcOps_sp 13, ↓vcD_sp 13, ↓vcOps_sp 18, ↓vcD_sp 18, ↓vcOps_sp 23, ↓vcD_sp 23, ↓vcOps_sp 28, ↓vcD_sp 28, ↓vcOps_sp 34, ↓vcD_sp 34, ↓vcOps_sp 38, ↓vcD_sp 38, ↓vcOps_sp 43, ↓vcD_sp 43, ↓vcOps_sp 49, ↓vcD_sp 49, ↓vcOps_sp 54, ↓vcD_sp 54, ↓vcOps_sp 63, ↓vcD_sp 63, ↓vcOps_sp 115, ↓vcD_sp 115, VCA, pg_gl, ↓upd_none, Nat.reduceEqDiff, Nat.reduceBEq, Nat.reduceAdd, Nat.reduceSub, Nat.reduceMul, Nat.reduceLT, Nat.reduceLeDiff, ↓reduceIte, reduceCtorEq, rsOf, rootsOf, SOp.rd, SI.rd, SX.rd, rdL, rdO, rdP, okParts, eqCells, okEqCells, fillA, okFill, setAt, implies_true, forall_const, forall_eq, ne_eq, exists_eq_right_right, exists_eq_right, exists_eq_left, exists_eq_left', rootL, eAttr, eInt, eNode, eDoc, eBool, he1, he3, eNode]
        repeat' (first | ((with_reducible refine brC (fun _ => ?_) fun _ => ?_) <;> try (exfalso; omega)) | (with_reducible apply pcallE.of; · exact domName_ok (nth x.attrs k).name false (hx.each _ (nth_mem' hk')).1) | (with_reducible apply pcallE.of; · exact hA) | (with_reducible refine And.intro ?_ ?_; · omega) | simp -dsimp -implicitDefEqProofs (disch := omega) only [↓vcOps_sp 13, ↓vcD_sp 13, ↓vcOps_sp 18, ↓vcD_sp 18, ↓vcOps_sp 23, ↓vcD_sp 23, ↓vcOps_sp 28, ↓vcD_sp 28, ↓vcOps_sp 34, ↓vcD_sp 34, ↓vcOps_sp 38, ↓vcD_sp 38, ↓vcOps_sp 43, ↓vcD_sp 43, ↓vcOps_sp 49, ↓vcD_sp 49, ↓vcOps_sp 54, ↓vcD_sp 54, ↓vcOps_sp 63, ↓vcD_sp 63, ↓vcOps_sp 115, ↓vcD_sp 115, VCA, pg_gl, ↓upd_none, Nat.reduceEqDiff, Nat.reduceBEq, Nat.reduceAdd, Nat.reduceSub, Nat.reduceMul, Nat.reduceLT, Nat.reduceLeDiff, ↓reduceIte, reduceCtorEq, rsOf, rootsOf, SOp.rd, SI.rd, SX.rd, rdL, rdO, rdP, okParts, eqCells, okEqCells, fillA, okFill, setAt, implies_true, forall_const, forall_eq, ne_eq, exists_eq_right_right, exists_eq_right, exists_eq_left, exists_eq_left', rootL, eAttr, eInt, eNode, eDoc, eBool, he1, he3, eNode, hh, e2])
        · rename_i q
          have q : nameOK false (nth x.attrs k).name = false := by simpa using q
          have := bad 3 (by decide) (by rw [adef, if_pos q])
          exact ⟨Sub.refl _, by rw [this]; rfl⟩
        · rename_i q1 q
          have q1 : ¬ nameOK false (nth x.attrs k).name = false := by simpa using q1
          have := bad 2 (by decide) (by rw [adef, if_neg q1, if_pos (by omega)])
          exact ⟨Sub.refl _, by rw [this]; rfl⟩
        · rename_i q2 q1 q
          have q2 : ¬ nameOK false (nth x.attrs k).name = false := by simpa using q2
          have := bad 3 (by decide) (by rw [adef, if_neg q2, if_neg (by omega), if_pos q])
          exact ⟨Sub.refl _, by rw [this]; rfl⟩
        · rename_i q2 q1 q
          have q2 : ¬ nameOK false (nth x.attrs k).name = false := by simpa using q2
          refine ⟨_, by omega, k + 1, by omega, rfl, by omega, fun j hj' => ?_⟩
          by_cases hjk : j = k
          · subst hjk; rw [adef, if_neg q2, if_neg (by omega), if_neg q]
          · exact hj j (by omega)
      · obtain rfl : k = x.attrs.length := by omega
        rw [fe_none hj, if_neg (by simp)]
        simp -dsimp -implicitDefEqProofs (disch := omega) only [↓vcOps_sp 13, ↓vcD_sp 13, ↓vcOps_sp 18, ↓vcD_sp 18, ↓vcOps_sp 23, ↓vcD_sp 23, ↓vcOps_sp 28, ↓vcD_sp 28, ↓vcOps_sp 34, ↓vcD_sp 34, ↓vcOps_sp 38, ↓vcD_sp 38, ↓vcOps_sp 43, ↓vcD_sp 43, ↓vcOps_sp 49, ↓vcD_sp 49, ↓vcOps_sp 54, ↓vcD_sp 54, ↓vcOps_sp 63, ↓vcD_sp 63, ↓vcOps_sp 115, ↓vcD_sp 115, VCA, pg_gl, ↓upd_none, Nat.reduceEqDiff, Nat.reduceBEq, Nat.reduceAdd, Nat.reduceSub, Nat.reduceMul, Nat.reduceLT, Nat.reduceLeDiff, ↓reduceIte, reduceCtorEq, rsOf, rootsOf, SOp.rd, SI.rd, SX.rd, rdL, rdO, rdP, okParts, eqCells, okEqCells, fillA, okFill, setAt, implies_true, forall_const, forall_eq, ne_eq, exists_eq_right_right, exists_eq_right, exists_eq_left, exists_eq_left', rootL, eAttr, eInt, eNode, eDoc, eBool, he1, eNode]
        repeat' (first | ((with_reducible refine brC (fun _ => ?_) fun _ => ?_) <;> try (exfalso; omega)) | (with_reducible refine And.intro ?_ ?_; · omega) | simp -dsimp -implicitDefEqProofs (disch := omega) only [↓vcOps_sp 13, ↓vcD_sp 13, ↓vcOps_sp 18, ↓vcD_sp 18, ↓vcOps_sp 23, ↓vcD_sp 23, ↓vcOps_sp 28, ↓vcD_sp 28, ↓vcOps_sp 34, ↓vcD_sp 34, ↓vcOps_sp 38, ↓vcD_sp 38, ↓vcOps_sp 43, ↓vcD_sp 43, ↓vcOps_sp 49, ↓vcD_sp 49, ↓vcOps_sp 54, ↓vcD_sp 54, ↓vcOps_sp 63, ↓vcD_sp 63, ↓vcOps_sp 115, ↓vcD_sp 115, VCA, pg_gl, ↓upd_none, Nat.reduceEqDiff, Nat.reduceBEq, Nat.reduceAdd, Nat.reduceSub, Nat.reduceMul, Nat.reduceLT, Nat.reduceLeDiff, ↓reduceIte, reduceCtorEq, rsOf, rootsOf, SOp.rd, SI.rd, SX.rd, rdL, rdO, rdP, okParts, eqCells, okEqCells, fillA, okFill, setAt, implies_true, forall_const, forall_eq, ne_eq, exists_eq_right_right, exists_eq_right, exists_eq_left, exists_eq_left', rootL, eAttr, eInt, eNode, eDoc, eBool, he1, eNode])
        · exact ⟨Sub.refl _, by rw [if_pos (by omega)]⟩
        · exact ⟨Sub.refl _, by rw [if_pos (by omega)]⟩
        · exact ⟨Sub.refl _, by rw [if_neg (by omega)]⟩
    unfold c45_s3
    skip
    simp -dsimp -implicitDefEqProofs (disch := omega) only [↓vcOps_sp 13, ↓vcD_sp 13, ↓vcOps_sp 18, ↓vcD_sp 18, ↓vcOps_sp 23, ↓vcD_sp 23, ↓vcOps_sp 28, ↓vcD_sp 28, ↓vcOps_sp 34, ↓vcD_sp 34, ↓vcOps_sp 38, ↓vcD_sp 38, ↓vcOps_sp 43, ↓vcD_sp 43, ↓vcOps_sp 49, ↓vcD_sp 49, ↓vcOps_sp 54, ↓vcD_sp 54, ↓vcOps_sp 63, ↓vcD_sp 63, ↓vcOps_sp 115, ↓vcD_sp 115, VCA, pg_gl, ↓upd_none, Nat.reduceEqDiff, Nat.reduceBEq, Nat.reduceAdd, Nat.reduceSub, Nat.reduceMul, Nat.reduceLT, Nat.reduceLeDiff, ↓reduceIte, reduceCtorEq, rsOf, rootsOf, SOp.rd, SI.rd, SX.rd, rdL, rdO, rdP, okParts, eqCells, okEqCells, fillA, okFill, setAt, implies_true, forall_const, forall_eq, ne_eq, exists_eq_right_right, exists_eq_right, exists_eq_left, exists_eq_left', rootL, eAttr, eInt, eNode, eDoc, eBool, eNode, he1]
    repeat' (first | ((with_reducible refine brC (fun _ => ?_) fun _ => ?_) <;> try (exfalso; omega)) | (with_reducible apply pcallE.of; · exact nm) | (with_reducible refine And.intro ?_ ?_; · omega) | simp -dsimp -implicitDefEqProofs (disch := omega) only [↓vcOps_sp 13, ↓vcD_sp 13, ↓vcOps_sp 18, ↓vcD_sp 18, ↓vcOps_sp 23, ↓vcD_sp 23, ↓vcOps_sp 28, ↓vcD_sp 28, ↓vcOps_sp 34, ↓vcD_sp 34, ↓vcOps_sp 38, ↓vcD_sp 38, ↓vcOps_sp 43, ↓vcD_sp 43, ↓vcOps_sp 49, ↓vcD_sp 49, ↓vcOps_sp 54, ↓vcD_sp 54, ↓vcOps_sp 63, ↓vcD_sp 63, ↓vcOps_sp 115, ↓vcD_sp 115, VCA, pg_gl, ↓upd_none, Nat.reduceEqDiff, Nat.reduceBEq, Nat.reduceAdd, Nat.reduceSub, Nat.reduceMul, Nat.reduceLT, Nat.reduceLeDiff, ↓reduceIte, reduceCtorEq, rsOf, rootsOf, SOp.rd, SI.rd, SX.rd, rdL, rdO, rdP, okParts, eqCells, okEqCells, fillA, okFill, setAt, implies_true, forall_const, forall_eq, ne_eq, exists_eq_right_right, exists_eq_right, exists_eq_left, exists_eq_left', rootL, eAttr, eInt, eNode, eDoc, eBool, eNode, he1])
    · rename_i q1 q
      exact ⟨Sub.refl _, by rw [if_pos ⟨q1, by simpa using q⟩]⟩
    · rename_i q2 q1 q
      have ae : attrsE x.attrs = 2 := by unfold attrsE; rw [if_pos (by omega)]
      exact ⟨Sub.refl _, by rw [if_neg (fun hh => by simp [hh.2] at q1), ae]; rfl⟩
    · rename_i q2 q1 q
      exact loop (fun hh => by simp [hh.2] at q1) (by omega) _ he1
    · rename_i q1 q
      have ae : attrsE x.attrs = 2 := by unfold attrsE; rw [if_pos (by omega)]
      exact ⟨Sub.refl _, by rw [if_neg (fun hh => q1 hh.1), ae]; rfl⟩
    · rename_i q1 q
      exact loop (fun hh => q1 hh.1) (by omega) _ he1
  refine dcalls_of_vc Tryd.func45 hn45 hc45 (by rw [Tryd.ntmps45]; simp) (by rw [Tryd.ntmps45]; decide) ?_
  simp -dsimp -implicitDefEqProofs (disch := omega) only [↓vcOps_sp 13, ↓vcD_sp 13, ↓vcOps_sp 18, ↓vcD_sp 18, ↓vcOps_sp 23, ↓vcD_sp 23, ↓vcOps_sp 28, ↓vcD_sp 28, ↓vcOps_sp 34, ↓vcD_sp 34, ↓vcOps_sp 38, ↓vcD_sp 38, ↓vcOps_sp 43, ↓vcD_sp 43, ↓vcOps_sp 49, ↓vcD_sp 49, ↓vcOps_sp 54, ↓vcD_sp 54, ↓vcOps_sp 63, ↓vcD_sp 63, ↓vcOps_sp 115, ↓vcD_sp 115, VCA, pg_gl, ↓upd_none, Nat.reduceEqDiff, Nat.reduceBEq, Nat.reduceAdd, Nat.reduceSub, Nat.reduceMul, Nat.reduceLT, Nat.reduceLeDiff, ↓reduceIte, reduceCtorEq, rsOf, rootsOf, SOp.rd, SI.rd, SX.rd, rdL, rdO, rdP, okParts, eqCells, okEqCells, fillA, okFill, setAt, implies_true, forall_const, forall_eq, ne_eq, exists_eq_right_right, exists_eq_right, exists_eq_left, exists_eq_left', rootL, eAttr, eInt, eNode, eDoc, eBool, c45, eNode]
  refine pcallE.of (betw_ok x.kind 1 5) ?_; simp -dsimp -implicitDefEqProofs (disch := omega) only [↓vcOps_sp 13, ↓vcD_sp 13, ↓vcOps_sp 18, ↓vcD_sp 18, ↓vcOps_sp 23, ↓vcD_sp 23, ↓vcOps_sp 28, ↓vcD_sp 28, ↓vcOps_sp 34, ↓vcD_sp 34, ↓vcOps_sp 38, ↓vcD_sp 38, ↓vcOps_sp 43, ↓vcD_sp 43, ↓vcOps_sp 49, ↓vcD_sp 49, ↓vcOps_sp 54, ↓vcD_sp 54, ↓vcOps_sp 63, ↓vcD_sp 63, ↓vcOps_sp 115, ↓vcD_sp 115, VCA, pg_gl, ↓upd_none, Nat.reduceEqDiff, Nat.reduceBEq, Nat.reduceAdd, Nat.reduceSub, Nat.reduceMul, Nat.reduceLT, Nat.reduceLeDiff, ↓reduceIte, reduceCtorEq, rsOf, rootsOf, SOp.rd, SI.rd, SX.rd, rdL, rdO, rdP, okParts, eqCells, okEqCells, fillA, okFill, setAt, implies_true, forall_const, forall_eq, ne_eq, exists_eq_right_right, exists_eq_right, exists_eq_left, exists_eq_left', rootL, eAttr, eInt, eNode, eDoc, eBool]
  cases hb : (decide (1 ≤ x.kind) && decide (x.kind ≤ 5))
  · have : x.kind < 1 ∨ 5 < x.kind := by
      rw [Bool.and_eq_false_iff, decide_eq_false_iff_not, decide_eq_false_iff_not] at hb; omega
    simp -dsimp -implicitDefEqProofs (disch := omega) only [↓vcOps_sp 13, ↓vcD_sp 13, ↓vcOps_sp 18, ↓vcD_sp 18, ↓vcOps_sp 23, ↓vcD_sp 23, ↓vcOps_sp 28, ↓vcD_sp 28, ↓vcOps_sp 34, ↓vcD_sp 34, ↓vcOps_sp 38, ↓vcD_sp 38, ↓vcOps_sp 43, ↓vcD_sp 43, ↓vcOps_sp 49, ↓vcD_sp 49, ↓vcOps_sp 54, ↓vcD_sp 54, ↓vcOps_sp 63, ↓vcD_sp 63, ↓vcOps_sp 115, ↓vcD_sp 115, VCA, pg_gl, ↓upd_none, Nat.reduceEqDiff, Nat.reduceBEq, Nat.reduceAdd, Nat.reduceSub, Nat.reduceMul, Nat.reduceLT, Nat.reduceLeDiff, ↓reduceIte, reduceCtorEq, rsOf, rootsOf, SOp.rd, SI.rd, SX.rd, rdL, rdO, rdP, okParts, eqCells, okEqCells, fillA, okFill, setAt, implies_true, forall_const, forall_eq, ne_eq, exists_eq_right_right, exists_eq_right, exists_eq_left, exists_eq_left', rootL, eAttr, eInt, eNode, eDoc, eBool]
    exact ⟨Sub.refl _, key7 (by omega)⟩
  · have hk : 1 ≤ x.kind ∧ x.kind ≤ 5 := by simpa using hb
    simp -dsimp -implicitDefEqProofs (disch := omega) only [↓vcOps_sp 13, ↓vcD_sp 13, ↓vcOps_sp 18, ↓vcD_sp 18, ↓vcOps_sp 23, ↓vcD_sp 23, ↓vcOps_sp 28, ↓vcD_sp 28, ↓vcOps_sp 34, ↓vcD_sp 34, ↓vcOps_sp 38, ↓vcD_sp 38, ↓vcOps_sp 43, ↓vcD_sp 43, ↓vcOps_sp 49, ↓vcD_sp 49, ↓vcOps_sp 54, ↓vcD_sp 54, ↓vcOps_sp 63, ↓vcD_sp 63, ↓vcOps_sp 115, ↓vcD_sp 115, VCA, pg_gl, ↓upd_none, Nat.reduceEqDiff, Nat.reduceBEq, Nat.reduceAdd, Nat.reduceSub, Nat.reduceMul, Nat.reduceLT, Nat.reduceLeDiff, ↓reduceIte, reduceCtorEq, rsOf, rootsOf, SOp.rd, SI.rd, SX.rd, rdL, rdO, rdP, okParts, eqCells, okEqCells, fillA, okFill, setAt, implies_true, forall_const, forall_eq, ne_eq, exists_eq_right_right, exists_eq_right, exists_eq_left, exists_eq_left', rootL, eAttr, eInt, eNode, eDoc, eBool]
    repeat' (first | ((with_reducible refine brC (fun _ => ?_) fun _ => ?_) <;> try (exfalso; omega)) | (with_reducible refine And.intro ?_ ?_; · omega) | simp -dsimp -implicitDefEqProofs (disch := omega) only [↓vcOps_sp 13, ↓vcD_sp 13, ↓vcOps_sp 18, ↓vcD_sp 18, ↓vcOps_sp 23, ↓vcD_sp 23, ↓vcOps_sp 28, ↓vcD_sp 28, ↓vcOps_sp 34, ↓vcD_sp 34, ↓vcOps_sp 38, ↓vcD_sp 38, ↓vcOps_sp 43, ↓vcD_sp 43, ↓vcOps_sp 49, ↓vcD_sp 49, ↓vcOps_sp 54, ↓vcD_sp 54, ↓vcOps_sp 63, ↓vcD_sp 63, ↓vcOps_sp 115, ↓vcD_sp 115, VCA, pg_gl, ↓upd_none, Nat.reduceEqDiff, Nat.reduceBEq, Nat.reduceAdd, Nat.reduceSub, Nat.reduceMul, Nat.reduceLT, Nat.reduceLeDiff, ↓reduceIte, reduceCtorEq, rsOf, rootsOf, SOp.rd, SI.rd, SX.rd, rdL, rdO, rdP, okParts, eqCells, okEqCells, fillA, okFill, setAt, implies_true, forall_const, forall_eq, ne_eq, exists_eq_right_right, exists_eq_right, exists_eq_left, exists_eq_left', rootL, eAttr, eInt, eNode, eDoc, eBool])
    all_goals first
      | (refine ⟨Sub.refl _, key7 (.inr (.inr ?_))⟩; clear rest key7 hx; simp_all [bareM, lenp, List.length_pos_iff]; done)
      | (refine ⟨Sub.refl _, key7 (.inr (.inr ?_))⟩; clear rest key7 hx; simp_all [bareM, lenp, List.length_pos_iff]; omega)
      | (refine rest ?_ _ rfl; clear rest key7 hx; simp_all [bareM, lenp, List.length_pos_iff]; done)
      | (refine rest ?_ _ rfl; clear rest key7 hx; simp_all [bareM, lenp, List.length_pos_iff]; omega)
      | trace_state
end Go.Proofs.K
end
section
set_option linter.unusedSimpArgs false
set_option linter.unusedVariables false
namespace Go.Proofs.K
open Go Go.Sim Go.Proofs
variable {G : Glob}
def deepM (d : HDoc) (n : Int) : Int := if d.nodes.length < up d n then -1 else up d n
def c48 : SFun := ⟨.seq (.reg [⟨some 2, .boxF 29 2 (.t 0), none⟩, ⟨some 4, .mv (.c (.int .i64 0)), none⟩]) (.seq (.reg [⟨some 5, .mv (.c (.int .i64 0)), none⟩]) (.seq (.block 0 (.loop (.seq (.seq (.reg [⟨some 6, .fldA 0 (.t 2), none⟩, ⟨some 7, .ld 1 false (.t 6), none⟩, ⟨some 8, .mv (.t 1), none⟩, ⟨some 9, .idxA 6 (.t 7) (.t 8), none⟩, ⟨some 10, .fldA 4 (.t 9), none⟩, ⟨some 11, .ld 1 false (.t 10), none⟩, ⟨some 12, .bin .geq (.t 11) (.c (.int .i64 0)), none⟩]) (.cond (.t 12) .skip (.exit 0))) (.block 1 (.seq (.reg [⟨some 13, .fldA 0 (.t 2), none⟩, ⟨some 14, .ld 1 false (.t 13), none⟩, ⟨some 15, .mv (.t 1), none⟩, ⟨some 16, .idxA 6 (.t 14) (.t 15), none⟩, ⟨some 17, .fldA 4 (.t 16), none⟩, ⟨some 18, .ld 1 false (.t 17), none⟩, ⟨some 1, .mv (.t 18), none⟩]) (.seq (.reg [⟨some 19, .mv (.t 5), none⟩, ⟨some 20, .bin .add (.t 19) (.c (.int .i64 1)), none⟩, ⟨some 5, .mv (.t 20), none⟩]) (.seq (.reg [⟨some 21, .mv (.t 5), none⟩, ⟨some 22, .fldA 0 (.t 2), none⟩, ⟨some 23, .ld 1 false (.t 22), none⟩, ⟨some 24, .len (.t 23), none⟩, ⟨some 25, .bin .gtr (.t 21) (.t 24), none⟩]) (.cond (.t 25) (.seq (.reg [⟨some 4, .mv (.c (.int .i64 (-1))), none⟩]) .ret) .skip)))))))) (.seq (.reg [⟨some 26, .mv (.t 5), none⟩, ⟨some 4, .mv (.t 26), none⟩]) .ret))), [.tmp 4]⟩
theorem hc48 : toSF Tryd.prog {} Tryd.f48 = some c48 := by kernel_rfl
theorem hn48 : (Tryd.f48.name == "runtime.NumGoroutine") = false := by kernel_rfl
theorem deep_ok (d : HDoc) (sm : DocSm d) (hP : ∀ n, inD d n → 0 ≤ (nd d n).parent → inD d (nd d n).parent) (n : Int) (hn : inD d n) : PCalls (Pg G) 48 [.agg (eDoc d), aInt n] (aInt (deepM d n)) := fun h => by
  have hl := sm.len
  refine dcalls_of_vc Tryd.func48 hn48 hc48 (by rw [Tryd.ntmps48]; simp) (by rw [Tryd.ntmps48]; decide) ?_
  simp -dsimp -implicitDefEqProofs (disch := omega) only [VCA, pg_gl, ↓upd_none, Nat.reduceEqDiff, Nat.reduceBEq, Nat.reduceAdd, Nat.reduceSub, Nat.reduceMul, Nat.reduceLT, Nat.reduceLeDiff, ↓reduceIte, reduceCtorEq, rsOf, rootsOf, SOp.rd, SI.rd, SX.rd, rdL, rdO, rdP, okParts, eqCells, okEqCells, fillA, okFill, setAt, implies_true, forall_const, forall_eq, ne_eq, exists_eq_right_right, exists_eq_right, exists_eq_left, exists_eq_left', rootL, eAttr, eInt, eNode, eDoc, eBool, lit_eq, c48, eDoc]
  refine LoopVC.intro (fun m e h' => ∃ (c : Int) (k : Nat), k ≤ d.nodes.length ∧ m = d.nodes.length + 1 - k ∧ inD d c ∧ e 1 = aInt c ∧ e 2 = .pin (eDoc d) ∧ e 5 = aInt k ∧ h' = h ∧ k + upF (d.nodes.length + 1 - k) d c = up d n) (d.nodes.length + 1) ⟨n, 0, by omega, rfl, hn, rfl, rfl, rfl, rfl, by simp [up]⟩ ?_
  rintro m e h' ⟨c, k, hk, rfl, hc, he1, he2, he5, rfl, hu⟩
  have hc0 := hc.1
  have hc1 := hc.2
  simp -dsimp -implicitDefEqProofs (disch := omega) only [VCA, pg_gl, ↓upd_none, Nat.reduceEqDiff, Nat.reduceBEq, Nat.reduceAdd, Nat.reduceSub, Nat.reduceMul, Nat.reduceLT, Nat.reduceLeDiff, ↓reduceIte, reduceCtorEq, rsOf, rootsOf, SOp.rd, SI.rd, SX.rd, rdL, rdO, rdP, okParts, eqCells, okEqCells, fillA, okFill, setAt, implies_true, forall_const, forall_eq, ne_eq, exists_eq_right_right, exists_eq_right, exists_eq_left, exists_eq_left', rootL, eAttr, eInt, eNode, eDoc, eBool, lit_eq, he1, he2, he5, eDoc]
  refine ⟨by omega, ?_⟩
  have e0 : nth d.nodes c.toNat = nd d c := rfl
  rw [e0]
  refine Br.dec (fun h1 => ?_) (fun h1 => ?_)
  · obtain ⟨f, hf⟩ : ∃ f, d.nodes.length + 1 - k = f + 1 := ⟨d.nodes.length - k, by omega⟩
    rw [hf, upF, if_pos h1] at hu
    simp -dsimp -implicitDefEqProofs (disch := omega) only [VCA, pg_gl, ↓upd_none, Nat.reduceEqDiff, Nat.reduceBEq, Nat.reduceAdd, Nat.reduceSub, Nat.reduceMul, Nat.reduceLT, Nat.reduceLeDiff, ↓reduceIte, reduceCtorEq, rsOf, rootsOf, SOp.rd, SI.rd, SX.rd, rdL, rdO, rdP, okParts, eqCells, okEqCells, fillA, okFill, setAt, implies_true, forall_const, forall_eq, ne_eq, exists_eq_right_right, exists_eq_right, exists_eq_left, exists_eq_left', rootL, eAttr, eInt, eNode, eDoc, eBool, lit_eq, he1, he2, he5, eDoc]
    rw [e0]
    refine ⟨by omega, ?_⟩
    refine Br.dec (fun h2 => ?_) (fun h2 => ?_)
    · simp -dsimp -implicitDefEqProofs (disch := omega) only [VCA, pg_gl, ↓upd_none, Nat.reduceEqDiff, Nat.reduceBEq, Nat.reduceAdd, Nat.reduceSub, Nat.reduceMul, Nat.reduceLT, Nat.reduceLeDiff, ↓reduceIte, reduceCtorEq, rsOf, rootsOf, SOp.rd, SI.rd, SX.rd, rdL, rdO, rdP, okParts, eqCells, okEqCells, fillA, okFill, setAt, implies_true, forall_const, forall_eq, ne_eq, exists_eq_right_right, exists_eq_right, exists_eq_left, exists_eq_left', rootL, eAttr, eInt, eNode, eDoc, eBool, lit_eq]
      have : d.nodes.length < up d n := by omega
      exact ⟨Sub.refl _, by unfold deepM; rw [if_pos this]⟩
    · simp -dsimp -implicitDefEqProofs (disch := omega) only [VCA, pg_gl, ↓upd_none, Nat.reduceEqDiff, Nat.reduceBEq, Nat.reduceAdd, Nat.reduceSub, Nat.reduceMul, Nat.reduceLT, Nat.reduceLeDiff, ↓reduceIte, reduceCtorEq, rsOf, rootsOf, SOp.rd, SI.rd, SX.rd, rdL, rdO, rdP, okParts, eqCells, okEqCells, fillA, okFill, setAt, implies_true, forall_const, forall_eq, ne_eq, exists_eq_right_right, exists_eq_right, exists_eq_left, exists_eq_left', rootL, eAttr, eInt, eNode, eDoc, eBool, lit_eq, he2, he5]
      refine ⟨_, ?_, (nd d c).parent, k + 1, by omega, rfl, hP c hc h1, rfl, by omega, ?_⟩
      · omega
      · have e2 : d.nodes.length + 1 - (k + 1) = f := by omega
        rw [e2]; omega
  · simp -dsimp -implicitDefEqProofs (disch := omega) only [VCA, pg_gl, ↓upd_none, Nat.reduceEqDiff, Nat.reduceBEq, Nat.reduceAdd, Nat.reduceSub, Nat.reduceMul, Nat.reduceLT, Nat.reduceLeDiff, ↓reduceIte, reduceCtorEq, rsOf, rootsOf, SOp.rd, SI.rd, SX.rd, rdL, rdO, rdP, okParts, eqCells, okEqCells, fillA, okFill, setAt, implies_true, forall_const, forall_eq, ne_eq, exists_eq_right_right, exists_eq_right, exists_eq_left, exists_eq_left', rootL, eAttr, eInt, eNode, eDoc, eBool, lit_eq, he5]
    rw [upF_top h1] at hu
    exact ⟨Sub.refl _, by unfold deepM; rw [if_neg (by omega)]; omega⟩
def c25_s7 : SCode := (.seq (.seq (.reg [⟨some 153, .fldA 0 (.t 1), none⟩, ⟨some 154, .ld 1 false (.t 153), none⟩, ⟨some 155, .idxA 6 (.t 154) (.c (.int .i64 0)), none⟩, ⟨some 156, .fldA 4 (.t 155), none⟩, ⟨some 157, .ld 1 false (.t 156), none⟩, ⟨some 158, .bin .neq (.t 157) (.c (.int .i64 (-1))), none⟩]) (.cond (.t 158) (.seq (.reg [⟨some 2, .mv (.c (.int .i64 3)), none⟩]) .ret) .skip)) (.seq (.seq (.reg [⟨some 11, .mv (.c (.int .i64 0)), none⟩]) (.block 8 (.loop (.seq (.seq (.reg [⟨some 159, .mv (.t 11), none⟩, ⟨some 160, .mv (.t 3), none⟩, ⟨some 161, .bin .lss (.t 159) (.t 160), none⟩]) (.cond (.t 161) .skip (.exit 8))) (.seq (.block 9 (.seq (.reg [⟨some 164, .ld 2 true (.t 1), none⟩, ⟨some 165, .mv (.t 11), none⟩, ⟨some 166, .pcall 48 [.t 164, .t 165], none⟩, ⟨some 12, .mv (.t 166), none⟩]) (.seq (.seq (.reg [⟨some 167, .mv (.t 12), none⟩, ⟨some 168, .bin .lss (.t 167) (.c (.int .i64 0)), none⟩]) (.cond (.t 168) (.seq (.reg [⟨some 2, .mv (.c (.int .i64 8)), none⟩]) .ret) .skip)) (.seq (.reg [⟨some 169, .mv (.t 12), none⟩, ⟨some 170, .bin .gtr (.t 169) (.c (.int .i64 40)), none⟩]) (.cond (.t 170) (.seq (.reg [⟨some 2, .mv (.c (.int .i64 2)), none⟩]) .ret) .skip))))) (.reg [⟨some 162, .mv (.t 11), none⟩, ⟨some 163, .bin .add (.t 162) (.c (.int .i64 1)), none⟩, ⟨some 11, .mv (.t 163), none⟩])))))) (.seq (.reg [⟨some 2, .mv (.c (.int .i64 0)), none⟩]) .ret)))
def c25_s6 : SCode := (.seq (.seq (.reg [⟨some 9, .mv (.c (.int .i64 0)), none⟩]) (.block 6 (.loop (.seq (.seq (.reg [⟨some 122, .mv (.t 9), none⟩, ⟨some 123, .mv (.t 3), none⟩, ⟨some 124, .bin .lss (.t 122) (.t 123), none⟩]) (.cond (.t 124) .skip (.exit 6))) (.seq (.block 7 (.seq (.reg [⟨some 127, .fldA 0 (.t 1), none⟩, ⟨some 128, .ld 1 false (.t 127), none⟩, ⟨some 129, .mv (.t 9), none⟩, ⟨some 130, .idxA 6 (.t 128) (.t 129), none⟩, ⟨some 131, .fldA 4 (.t 130), none⟩, ⟨some 132, .ld 1 false (.t 131), none⟩, ⟨some 10, .mv (.t 132), none⟩]) (.seq (.reg [⟨some 133, .mv (.t 10), none⟩, ⟨some 134, .bin .neq (.t 133) (.c (.int .i64 (-1))), none⟩, ⟨some 135, .mv (.t 134), none⟩, ⟨some 136, .mv (.t 10), some (135, true)⟩, ⟨some 137, .mv (.t 3), some (135, true)⟩, ⟨some 138, .bin .sub (.t 137) (.c (.int .i64 1)), some (135, true)⟩, ⟨some 139, .pcall 46 [.t 136, .c (.int .i64 0), .t 138], some (135, true)⟩, ⟨some 140, .un .not (.t 139), some (135, true)⟩, ⟨some 141, .mv (.t 140), some (135, true)⟩, ⟨some 142, .fldA 0 (.t 1), some (141, false)⟩, ⟨some 143, .ld 1 false (.t 142), some (141, false)⟩, ⟨some 144, .mv (.t 10), some (141, false)⟩, ⟨some 145, .idxA 6 (.t 143) (.t 144), some (141, false)⟩, ⟨some 146, .fldA 5 (.t 145), some (141, false)⟩, ⟨some 147, .ld 1 false (.t 146), some (141, false)⟩, ⟨some 148, .mv (.t 9), some (141, false)⟩, ⟨some 149, .pcall 47 [.t 147, .t 148], some (141, false)⟩, ⟨some 150, .bin .lss (.t 149) (.c (.int .i64 0)), some (141, false)⟩, ⟨some 151, .pick (.t 141) (.c (.bool true)) (.t 150), some (135, true)⟩, ⟨some 152, .pick (.t 135) (.t 151) (.c (.bool false)), none⟩]) (.cond (.t 152) (.seq (.reg [⟨some 2, .mv (.c (.int .i64 3)), none⟩]) .ret) .skip)))) (.reg [⟨some 125, .mv (.t 9), none⟩, ⟨some 126, .bin .add (.t 125) (.c (.int .i64 1)), none⟩, ⟨some 9, .mv (.t 126), none⟩])))))) c25_s7)
def c25_s5 : SCode := (.seq (.seq (.reg [⟨some 6, .mv (.c (.int .i64 0)), none⟩]) (.block 2 (.loop (.seq (.seq (.reg [⟨some 58, .mv (.t 6), none⟩, ⟨some 59, .mv (.t 3), none⟩, ⟨some 60, .bin .lss (.t 58) (.t 59), none⟩]) (.cond (.t 60) .skip (.exit 2))) (.seq (.block 3 (.seq (.reg [⟨some 7, .mv (.c (.int .i64 0)), none⟩]) (.block 4 (.loop (.seq (.seq (.reg [⟨some 63, .mv (.t 7), none⟩, ⟨some 64, .fldA 0 (.t 1), none⟩, ⟨some 65, .ld 1 false (.t 64), none⟩, ⟨some 66, .mv (.t 6), none⟩, ⟨some 67, .idxA 6 (.t 65) (.t 66), none⟩, ⟨some 68, .fldA 5 (.t 67), none⟩, ⟨some 69, .ld 1 false (.t 68), none⟩, ⟨some 70, .len (.t 69), none⟩, ⟨some 71, .bin .lss (.t 63) (.t 70), none⟩]) (.cond (.t 71) .skip (.exit 4))) (.seq (.block 5 (.seq (.reg [⟨some 74, .fldA 0 (.t 1), none⟩, ⟨some 75, .ld 1 false (.t 74), none⟩, ⟨some 76, .mv (.t 6), none⟩, ⟨some 77, .idxA 6 (.t 75) (.t 76), none⟩, ⟨some 78, .fldA 5 (.t 77), none⟩, ⟨some 79, .ld 1 false (.t 78), none⟩, ⟨some 80, .mv (.t 7), none⟩, ⟨some 81, .idxA 1 (.t 79) (.t 80), none⟩, ⟨some 82, .ld 1 false (.t 81), none⟩, ⟨some 8, .mv (.t 82), none⟩]) (.seq (.seq (.reg [⟨some 83, .mv (.t 8), none⟩, ⟨some 84, .mv (.t 3), none⟩, ⟨some 85, .bin .sub (.t 84) (.c (.int .i64 1)), none⟩, ⟨some 86, .pcall 46 [.t 83, .c (.int .i64 0), .t 85], none⟩, ⟨some 87, .un .not (.t 86), none⟩, ⟨some 88, .mv (.t 87), none⟩, ⟨some 89, .fldA 0 (.t 1), some (88, false)⟩, ⟨some 90, .ld 1 false (.t 89), some (88, false)⟩, ⟨some 91, .mv (.t 8), some (88, false)⟩, ⟨some 92, .idxA 6 (.t 90) (.t 91), some (88, false)⟩, ⟨some 93, .fldA 4 (.t 92), some (88, false)⟩, ⟨some 94, .ld 1 false (.t 93), some (88, false)⟩, ⟨some 95, .mv (.t 6), some (88, false)⟩, ⟨some 96, .bin .neq (.t 94) (.t 95), some (88, false)⟩, ⟨some 97, .pick (.t 88) (.c (.bool true)) (.t 96), none⟩, ⟨some 98, .mv (.t 97), none⟩, ⟨some 99, .fldA 0 (.t 1), some (98, false)⟩, ⟨some 100, .ld 1 false (.t 99), some (98, false)⟩, ⟨some 101, .mv (.t 6), some (98, false)⟩, ⟨some 102, .idxA 6 (.t 100) (.t 101), some (98, false)⟩, ⟨some 103, .fldA 5 (.t 102), some (98, false)⟩, ⟨some 104, .ld 1 false (.t 103), some (98, false)⟩, ⟨some 105, .mv (.t 7), some (98, false)⟩, ⟨some 106, .slA 1 (.t 104) none (some (.t 105)), some (98, false)⟩, ⟨some 107, .mv (.t 8), some (98, false)⟩, ⟨some 108, .pcall 47 [.t 106, .t 107], some (98, false)⟩, ⟨some 109, .bin .geq (.t 108) (.c (.int .i64 0)), some (98, false)⟩, ⟨some 110, .pick (.t 98) (.c (.bool true)) (.t 109), none⟩]) (.cond (.t 110) (.seq (.reg [⟨some 2, .mv (.c (.int .i64 3)), none⟩]) .ret) .skip)) (.seq (.reg [⟨some 111, .mv (.t 6), none⟩, ⟨some 112, .bin .eql (.t 111) (.c (.int .i64 0)), none⟩, ⟨some 113, .mv (.t 112), none⟩, ⟨some 114, .fldA 0 (.t 1), some (113, true)⟩, ⟨some 115, .ld 1 false (.t 114), some (113, true)⟩, ⟨some 116, .mv (.t 8), some (113, true)⟩, ⟨some 117, .idxA 6 (.t 115) (.t 116), some (113, true)⟩, ⟨some 118, .fldA 0 (.t 117), some (113, true)⟩, ⟨some 119, .ld 1 false (.t 118), some (113, true)⟩, ⟨some 120, .bin .eql (.t 119) (.c (.int .i64 3)), some (113, true)⟩, ⟨some 121, .pick (.t 113) (.t 120) (.c (.bool false)), none⟩]) (.cond (.t 121) (.seq (.reg [⟨some 2, .mv (.c (.int .i64 7)), none⟩]) .ret) .skip))))) (.reg [⟨some 72, .mv (.t 7), none⟩, ⟨some 73, .bin .add (.t 72) (.c (.int .i64 1)), none⟩, ⟨some 7, .mv (.t 73), none⟩]))))))) (.reg [⟨some 61, .mv (.t 6), none⟩, ⟨some 62, .bin .add (.t 61) (.c (.int .i64 1)), none⟩, ⟨some 6, .mv (.t 62), none⟩])))))) c25_s6)
def c25_s4 : SCode := (.seq (.seq (.reg [⟨some 4, .mv (.c (.int .i64 0)), none⟩]) (.block 0 (.loop (.seq (.seq (.reg [⟨some 20, .mv (.t 4), none⟩, ⟨some 21, .mv (.t 3), none⟩, ⟨some 22, .bin .lss (.t 20) (.t 21), none⟩]) (.cond (.t 22) .skip (.exit 0))) (.seq (.block 1 (.seq (.seq (.reg [⟨some 25, .mv (.t 4), none⟩, ⟨some 26, .bin .eql (.t 25) (.c (.int .i64 0)), none⟩, ⟨some 27, .mv (.t 26), none⟩, ⟨some 28, .fldA 0 (.t 1), some (27, true)⟩, ⟨some 29, .ld 1 false (.t 28), some (27, true)⟩, ⟨some 30, .mv (.t 4), some (27, true)⟩, ⟨some 31, .idxA 6 (.t 29) (.t 30), some (27, true)⟩, ⟨some 32, .fldA 0 (.t 31), some (27, true)⟩, ⟨some 33, .ld 1 false (.t 32), some (27, true)⟩, ⟨some 34, .bin .neq (.t 33) (.c (.int .i64 1)), some (27, true)⟩, ⟨some 35, .pick (.t 27) (.t 34) (.c (.bool false)), none⟩, ⟨some 36, .mv (.t 35), none⟩, ⟨some 37, .mv (.t 4), some (36, false)⟩, ⟨some 38, .bin .gtr (.t 37) (.c (.int .i64 0)), some (36, false)⟩, ⟨some 39, .mv (.t 38), some (36, false)⟩, ⟨some 40, .fldA 0 (.t 1), some (39, true)⟩, ⟨some 41, .ld 1 false (.t 40), some (39, true)⟩, ⟨some 42, .mv (.t 4), some (39, true)⟩, ⟨some 43, .idxA 6 (.t 41) (.t 42), some (39, true)⟩, ⟨some 44, .fldA 0 (.t 43), some (39, true)⟩, ⟨some 45, .ld 1 false (.t 44), some (39, true)⟩, ⟨some 46, .bin .eql (.t 45) (.c (.int .i64 1)), some (39, true)⟩, ⟨some 47, .pick (.t 39) (.t 46) (.c (.bool false)), some (36, false)⟩, ⟨some 48, .pick (.t 36) (.c (.bool true)) (.t 47), none⟩]) (.cond (.t 48) (.seq (.reg [⟨some 2, .mv (.c (.int .i64 3)), none⟩]) .ret) .skip)) (.seq (.reg [⟨some 49, .fldA 0 (.t 1), none⟩, ⟨some 50, .ld 1 false (.t 49), none⟩, ⟨some 51, .mv (.t 4), none⟩, ⟨some 52, .idxA 6 (.t 50) (.t 51), none⟩, ⟨some 53, .ld 6 true (.t 52), none⟩, ⟨some 54, .pcall 45 [.t 53], none⟩, ⟨some 5, .mv (.t 54), none⟩]) (.seq (.reg [⟨some 55, .mv (.t 5), none⟩, ⟨some 56, .bin .neq (.t 55) (.c (.int .i64 0)), none⟩]) (.cond (.t 56) (.seq (.reg [⟨some 57, .mv (.t 5), none⟩, ⟨some 2, .mv (.t 57), none⟩]) .ret) .skip))))) (.reg [⟨some 23, .mv (.t 4), none⟩, ⟨some 24, .bin .add (.t 23) (.c (.int .i64 1)), none⟩, ⟨some 4, .mv (.t 24), none⟩])))))) c25_s5)
def c25 : SFun := ⟨.seq (.reg [⟨some 1, .boxF 29 2 (.t 0), none⟩, ⟨some 2, .mv (.c (.int .i64 0)), none⟩]) (.seq (.reg [⟨some 13, .fldA 0 (.t 1), none⟩, ⟨some 14, .ld 1 false (.t 13), none⟩, ⟨some 15, .len (.t 14), none⟩, ⟨some 3, .mv (.t 15), none⟩]) (.seq (.seq (.reg [⟨some 16, .mv (.t 3), none⟩, ⟨some 17, .bin .gtr (.t 16) (.c (.int .i64 200)), none⟩]) (.cond (.t 17) (.seq (.reg [⟨some 2, .mv (.c (.int .i64 2)), none⟩]) .ret) .skip)) (.seq (.seq (.reg [⟨some 18, .mv (.t 3), none⟩, ⟨some 19, .bin .eql (.t 18) (.c (.int .i64 0)), none⟩]) (.cond (.t 19) (.seq (.reg [⟨some 2, .mv (.c (.int .i64 3)), none⟩]) .ret) .skip)) c25_s4))), [.tmp 2]⟩
theorem hc25 : toSF Tryd.prog {pure := [46, 45, 47, 48]} Tryd.f25 = some c25 := by kernel_rfl
theorem hn25 : (Tryd.f25.name == "runtime.NumGoroutine") = false := by kernel_rfl
theorem docErr_ok (d : HDoc) (sm : DocSm d) : PCalls (Pg G) 25 [.agg (eDoc d)] (aInt (docE d)) := fun h => by
  have hl := sm.len
  have s7 : kidsAll d = 0 ∨ (fe d.nodes.length (kidsE d) = 0 ∧ fe d.nodes.length (parE d) = 0) → 0 < d.nodes.length → ∀ e : Env, e 1 = .pin (eDoc d) → e 3 = aInt d.nodes.length → vc (Pg G) c25_s7 (retK [.tmp 2] fun r h' => r = aInt (if kidsAll d ≠ 0 then kidsAll d else fe d.nodes.length (deepE d)) ∧ h' = h) e h := by
    intro hk hp e he1 he3
    have e0 : nth d.nodes 0 = nd d 0 := rfl
    unfold c25_s7
    skip
    simp -dsimp -implicitDefEqProofs (disch := omega) only [↓vcOps_sp 27, ↓vcD_sp 27, ↓vcOps_sp 36, ↓vcD_sp 36, ↓vcOps_sp 39, ↓vcD_sp 39, ↓vcOps_sp 88, ↓vcD_sp 88, ↓vcOps_sp 98, ↓vcD_sp 98, ↓vcOps_sp 113, ↓vcD_sp 113, ↓vcOps_sp 135, ↓vcD_sp 135, ↓vcOps_sp 141, ↓vcD_sp 141, VCA, pg_gl, ↓upd_none, Nat.reduceEqDiff, Nat.reduceBEq, Nat.reduceAdd, Nat.reduceSub, Nat.reduceMul, Nat.reduceLT, Nat.reduceLeDiff, ↓reduceIte, reduceCtorEq, rsOf, rootsOf, SOp.rd, SI.rd, SX.rd, rdL, rdO, rdP, okParts, eqCells, okEqCells, fillA, okFill, setAt, implies_true, forall_const, forall_eq, ne_eq, exists_eq_right_right, exists_eq_right, exists_eq_left, exists_eq_left', rootL, eAttr, eInt, eNode, eDoc, eBool, lit_eq, he1, he3, eDoc, eNode]
    rw [e0]
    refine ⟨by omega, Br.ne (fun h1 => ?_) (fun h1 => ?_)⟩
    · simp -dsimp -implicitDefEqProofs (disch := omega) only [↓vcOps_sp 27, ↓vcD_sp 27, ↓vcOps_sp 36, ↓vcD_sp 36, ↓vcOps_sp 39, ↓vcD_sp 39, ↓vcOps_sp 88, ↓vcD_sp 88, ↓vcOps_sp 98, ↓vcD_sp 98, ↓vcOps_sp 113, ↓vcD_sp 113, ↓vcOps_sp 135, ↓vcD_sp 135, ↓vcOps_sp 141, ↓vcD_sp 141, VCA, pg_gl, ↓upd_none, Nat.reduceEqDiff, Nat.reduceBEq, Nat.reduceAdd, Nat.reduceSub, Nat.reduceMul, Nat.reduceLT, Nat.reduceLeDiff, ↓reduceIte, reduceCtorEq, rsOf, rootsOf, SOp.rd, SI.rd, SX.rd, rdL, rdO, rdP, okParts, eqCells, okEqCells, fillA, okFill, setAt, implies_true, forall_const, forall_eq, ne_eq, exists_eq_right_right, exists_eq_right, exists_eq_left, exists_eq_left', rootL, eAttr, eInt, eNode, eDoc, eBool, lit_eq]
      have : kidsAll d = 3 := by
        rcases hk with hk | ⟨k1, k2⟩
        · unfold kidsAll at hk
          split at hk
          · contradiction
          · split at hk
            · contradiction
            · first | omega | (rw [if_pos h1] at hk; omega)
        · unfold kidsAll; rw [if_neg (by rw [k1]; simp), if_neg (by rw [k2]; simp), if_pos h1]
      exact ⟨Sub.refl _, by rw [this]; rfl⟩
    · have h0 : kidsAll d = 0 := by
        rcases hk with hk | ⟨k1, k2⟩
        · exact hk
        · unfold kidsAll; rw [if_neg (by rw [k1]; simp), if_neg (by rw [k2]; simp), if_neg (by simpa using h1)]
      rw [h0, if_neg (by simp)]
      have hP := kids_par h0
      simp -dsimp -implicitDefEqProofs (disch := omega) only [↓vcOps_sp 27, ↓vcD_sp 27, ↓vcOps_sp 36, ↓vcD_sp 36, ↓vcOps_sp 39, ↓vcD_sp 39, ↓vcOps_sp 88, ↓vcD_sp 88, ↓vcOps_sp 98, ↓vcD_sp 98, ↓vcOps_sp 113, ↓vcD_sp 113, ↓vcOps_sp 135, ↓vcD_sp 135, ↓vcOps_sp 141, ↓vcD_sp 141, VCA, pg_gl, ↓upd_none, Nat.reduceEqDiff, Nat.reduceBEq, Nat.reduceAdd, Nat.reduceSub, Nat.reduceMul, Nat.reduceLT, Nat.reduceLeDiff, ↓reduceIte, reduceCtorEq, rsOf, rootsOf, SOp.rd, SI.rd, SX.rd, rdL, rdO, rdP, okParts, eqCells, okEqCells, fillA, okFill, setAt, implies_true, forall_const, forall_eq, ne_eq, exists_eq_right_right, exists_eq_right, exists_eq_left, exists_eq_left', rootL, eAttr, eInt, eNode, eDoc, eBool, lit_eq, he1, he3, eDoc]
      refine LoopVC.intro (fun m e h' => ∃ i : Nat, i ≤ d.nodes.length ∧ m = d.nodes.length - i ∧ e 1 = .pin (eDoc d) ∧ e 3 = aInt d.nodes.length ∧ e 11 = aInt i ∧ h' = h ∧ ∀ j, j < i → deepE d j = 0) d.nodes.length ⟨0, by omega, by omega, he1, he3, rfl, rfl, by omega⟩ ?_
      rintro m e h' ⟨i, hi, rfl, he1, he3, he11, rfl, hj⟩
      simp -dsimp -implicitDefEqProofs (disch := omega) only [↓vcOps_sp 27, ↓vcD_sp 27, ↓vcOps_sp 36, ↓vcD_sp 36, ↓vcOps_sp 39, ↓vcD_sp 39, ↓vcOps_sp 88, ↓vcD_sp 88, ↓vcOps_sp 98, ↓vcD_sp 98, ↓vcOps_sp 113, ↓vcD_sp 113, ↓vcOps_sp 135, ↓vcD_sp 135, ↓vcOps_sp 141, ↓vcD_sp 141, VCA, pg_gl, ↓upd_none, Nat.reduceEqDiff, Nat.reduceBEq, Nat.reduceAdd, Nat.reduceSub, Nat.reduceMul, Nat.reduceLT, Nat.reduceLeDiff, ↓reduceIte, reduceCtorEq, rsOf, rootsOf, SOp.rd, SI.rd, SX.rd, rdL, rdO, rdP, okParts, eqCells, okEqCells, fillA, okFill, setAt, implies_true, forall_const, forall_eq, ne_eq, exists_eq_right_right, exists_eq_right, exists_eq_left, exists_eq_left', rootL, eAttr, eInt, eNode, eDoc, eBool, lit_eq, he1, he3, he11]
      refine Br.dec (fun hlt => ?_) (fun hge => ?_)
      · have hi' : i < d.nodes.length := by omega
        have hU : PCalls (Pg G) 48 [.agg [sl eNode d.nodes, .bool d.quirks], aInt i] (aInt (deepM d i)) := deep_ok d sm hP i (inD_nat.2 hi')
        have bad : ∀ x : Int, x ≠ 0 → deepE d i = x → fe d.nodes.length (deepE d) = x := fun x hx he => by rw [fe_some hi' hj (by rw [he]; exact hx), he]
        have ddef : deepE d i = if d.nodes.length < up d i then 8 else if 40 < up d i then 2 else 0 := rfl
        have dm : deepM d i = if d.nodes.length < up d i then -1 else (up d i : Int) := rfl
        simp -dsimp -implicitDefEqProofs (disch := omega) only [↓vcOps_sp 27, ↓vcD_sp 27, ↓vcOps_sp 36, ↓vcD_sp 36, ↓vcOps_sp 39, ↓vcD_sp 39, ↓vcOps_sp 88, ↓vcD_sp 88, ↓vcOps_sp 98, ↓vcD_sp 98, ↓vcOps_sp 113, ↓vcD_sp 113, ↓vcOps_sp 135, ↓vcD_sp 135, ↓vcOps_sp 141, ↓vcD_sp 141, VCA, pg_gl, ↓upd_none, Nat.reduceEqDiff, Nat.reduceBEq, Nat.reduceAdd, Nat.reduceSub, Nat.reduceMul, Nat.reduceLT, Nat.reduceLeDiff, ↓reduceIte, reduceCtorEq, rsOf, rootsOf, SOp.rd, SI.rd, SX.rd, rdL, rdO, rdP, okParts, eqCells, okEqCells, fillA, okFill, setAt, implies_true, forall_const, forall_eq, ne_eq, exists_eq_right_right, exists_eq_right, exists_eq_left, exists_eq_left', rootL, eAttr, eInt, eNode, eDoc, eBool, lit_eq, he1, he3, he11, eDoc]
        repeat' (first | ((with_reducible refine brC (fun _ => ?_) fun _ => ?_) <;> try (exfalso; omega)) | (with_reducible apply pcallE.of; · exact hU) | (with_reducible refine And.intro ?_ ?_; · omega) | simp -dsimp -implicitDefEqProofs (disch := omega) only [↓vcOps_sp 27, ↓vcD_sp 27, ↓vcOps_sp 36, ↓vcD_sp 36, ↓vcOps_sp 39, ↓vcD_sp 39, ↓vcOps_sp 88, ↓vcD_sp 88, ↓vcOps_sp 98, ↓vcD_sp 98, ↓vcOps_sp 113, ↓vcD_sp 113, ↓vcOps_sp 135, ↓vcD_sp 135, ↓vcOps_sp 141, ↓vcD_sp 141, VCA, pg_gl, ↓upd_none, Nat.reduceEqDiff, Nat.reduceBEq, Nat.reduceAdd, Nat.reduceSub, Nat.reduceMul, Nat.reduceLT, Nat.reduceLeDiff, ↓reduceIte, reduceCtorEq, rsOf, rootsOf, SOp.rd, SI.rd, SX.rd, rdL, rdO, rdP, okParts, eqCells, okEqCells, fillA, okFill, setAt, implies_true, forall_const, forall_eq, ne_eq, exists_eq_right_right, exists_eq_right, exists_eq_left, exists_eq_left', rootL, eAttr, eInt, eNode, eDoc, eBool, lit_eq, he1, he3, he11, eDoc])
        · rename_i q
          have : d.nodes.length < up d i := by rw [dm] at q; split at q <;> omega
          exact ⟨Sub.refl _, (bad 8 (by decide) (by rw [ddef, if_pos this])).symm⟩
        · rename_i q1 q
          have : ¬ d.nodes.length < up d i := by rw [dm] at q1; split at q1 <;> omega
          rw [dm, if_neg this] at q
          exact ⟨Sub.refl _, (bad 2 (by decide) (by rw [ddef, if_neg this, if_pos (by omega)])).symm⟩
        · rename_i q1 q
          have : ¬ d.nodes.length < up d i := by rw [dm] at q1; split at q1 <;> omega
          rw [dm, if_neg this] at q
          refine ⟨_, by omega, i + 1, by omega, rfl, by omega, fun j hj' => ?_⟩
          by_cases hji : j = i
          · subst hji; rw [ddef, if_neg this, if_neg (by omega)]
          · exact hj j (by omega)
      · obtain rfl : i = d.nodes.length := by omega
        simp -dsimp -implicitDefEqProofs (disch := omega) only [↓vcOps_sp 27, ↓vcD_sp 27, ↓vcOps_sp 36, ↓vcD_sp 36, ↓vcOps_sp 39, ↓vcD_sp 39, ↓vcOps_sp 88, ↓vcD_sp 88, ↓vcOps_sp 98, ↓vcD_sp 98, ↓vcOps_sp 113, ↓vcD_sp 113, ↓vcOps_sp 135, ↓vcD_sp 135, ↓vcOps_sp 141, ↓vcD_sp 141, VCA, pg_gl, ↓upd_none, Nat.reduceEqDiff, Nat.reduceBEq, Nat.reduceAdd, Nat.reduceSub, Nat.reduceMul, Nat.reduceLT, Nat.reduceLeDiff, ↓reduceIte, reduceCtorEq, rsOf, rootsOf, SOp.rd, SI.rd, SX.rd, rdL, rdO, rdP, okParts, eqCells, okEqCells, fillA, okFill, setAt, implies_true, forall_const, forall_eq, ne_eq, exists_eq_right_right, exists_eq_right, exists_eq_left, exists_eq_left', rootL, eAttr, eInt, eNode, eDoc, eBool, lit_eq]
        exact ⟨Sub.refl _, (fe_none hj).symm⟩
  have s6 : fe d.nodes.length (kidsE d) = 0 → 0 < d.nodes.length → ∀ e : Env, e 1 = .pin (eDoc d) → e 3 = aInt d.nodes.length → vc (Pg G) c25_s6 (retK [.tmp 2] fun r h' => r = aInt (if kidsAll d ≠ 0 then kidsAll d else fe d.nodes.length (deepE d)) ∧ h' = h) e h := by
    intro hk hp e he1 he3
    unfold c25_s6
    skip
    simp -dsimp -implicitDefEqProofs (disch := omega) only [↓vcOps_sp 27, ↓vcD_sp 27, ↓vcOps_sp 36, ↓vcD_sp 36, ↓vcOps_sp 39, ↓vcD_sp 39, ↓vcOps_sp 88, ↓vcD_sp 88, ↓vcOps_sp 98, ↓vcD_sp 98, ↓vcOps_sp 113, ↓vcD_sp 113, ↓vcOps_sp 135, ↓vcD_sp 135, ↓vcOps_sp 141, ↓vcD_sp 141, VCA, pg_gl, ↓upd_none, Nat.reduceEqDiff, Nat.reduceBEq, Nat.reduceAdd, Nat.reduceSub, Nat.reduceMul, Nat.reduceLT, Nat.reduceLeDiff, ↓reduceIte, reduceCtorEq, rsOf, rootsOf, SOp.rd, SI.rd, SX.rd, rdL, rdO, rdP, okParts, eqCells, okEqCells, fillA, okFill, setAt, implies_true, forall_const, forall_eq, ne_eq, exists_eq_right_right, exists_eq_right, exists_eq_left, exists_eq_left', rootL, eAttr, eInt, eNode, eDoc, eBool, lit_eq, he1, he3]
    refine LoopVC.intro (fun m e h' => ∃ i : Nat, i ≤ d.nodes.length ∧ m = d.nodes.length - i ∧ e 1 = .pin (eDoc d) ∧ e 3 = aInt d.nodes.length ∧ e 9 = aInt i ∧ h' = h ∧ ∀ j, j < i → parE d j = 0) d.nodes.length ⟨0, by omega, by omega, he1, he3, rfl, rfl, by omega⟩ ?_
    rintro m e h' ⟨i, hi, rfl, he1, he3, he9, rfl, hj⟩
    simp -dsimp -implicitDefEqProofs (disch := omega) only [↓vcOps_sp 27, ↓vcD_sp 27, ↓vcOps_sp 36, ↓vcD_sp 36, ↓vcOps_sp 39, ↓vcD_sp 39, ↓vcOps_sp 88, ↓vcD_sp 88, ↓vcOps_sp 98, ↓vcD_sp 98, ↓vcOps_sp 113, ↓vcD_sp 113, ↓vcOps_sp 135, ↓vcD_sp 135, ↓vcOps_sp 141, ↓vcD_sp 141, VCA, pg_gl, ↓upd_none, Nat.reduceEqDiff, Nat.reduceBEq, Nat.reduceAdd, Nat.reduceSub, Nat.reduceMul, Nat.reduceLT, Nat.reduceLeDiff, ↓reduceIte, reduceCtorEq, rsOf, rootsOf, SOp.rd, SI.rd, SX.rd, rdL, rdO, rdP, okParts, eqCells, okEqCells, fillA, okFill, setAt, implies_true, forall_const, forall_eq, ne_eq, exists_eq_right_right, exists_eq_right, exists_eq_left, exists_eq_left', rootL, eAttr, eInt, eNode, eDoc, eBool, lit_eq, he1, he3, he9]
    refine Br.dec (fun hlt => ?_) (fun hge => ?_)
    · have hi' : i < d.nodes.length := by omega
      have pdef : parE d i = if (nth d.nodes i).parent ≠ -1 ∧ (¬ inD d (nth d.nodes i).parent ∨ (i : Int) ∉ (nd d (nth d.nodes i).parent).kids) then 3 else 0 := rfl
      have bad : parE d i = 3 → 3 = (if kidsAll d ≠ 0 then kidsAll d else fe d.nodes.length (deepE d)) := fun h3 => by
        have h2 : fe d.nodes.length (parE d) = 3 := by rw [fe_some hi' hj (by rw [h3]; decide), h3]
        have : kidsAll d = 3 := by unfold kidsAll; rw [hk, if_neg (by simp), h2]; rfl
        rw [this]; rfl
      have ok0 : parE d i = 0 → ∀ j, j < i + 1 → parE d j = 0 := fun h0 j hj' => by
        by_cases hji : j = i
        · subst hji; exact h0
        · exact hj j (by omega)
      have hB := betw_ok (G := G) (nth d.nodes i).parent 0 ((d.nodes.length : Int) - 1)
      have inP : inD d (nth d.nodes i).parent ↔ (decide ((0 : Int) ≤ (nth d.nodes i).parent) && decide ((nth d.nodes i).parent ≤ (d.nodes.length : Int) - 1)) = true := by
        unfold inD; simp; omega
      have im := idx_mem (nd d (nth d.nodes i).parent).kids i
      have hPl := placeIn_ok (G := G) (nd d (nth d.nodes i).parent).kids i (sm.nd _).kids
      have en : nth d.nodes (nth d.nodes i).parent.toNat = nd d (nth d.nodes i).parent := rfl
      simp -dsimp -implicitDefEqProofs (disch := omega) only [↓vcOps_sp 27, ↓vcD_sp 27, ↓vcOps_sp 36, ↓vcD_sp 36, ↓vcOps_sp 39, ↓vcD_sp 39, ↓vcOps_sp 88, ↓vcD_sp 88, ↓vcOps_sp 98, ↓vcD_sp 98, ↓vcOps_sp 113, ↓vcD_sp 113, ↓vcOps_sp 135, ↓vcD_sp 135, ↓vcOps_sp 141, ↓vcD_sp 141, VCA, pg_gl, ↓upd_none, Nat.reduceEqDiff, Nat.reduceBEq, Nat.reduceAdd, Nat.reduceSub, Nat.reduceMul, Nat.reduceLT, Nat.reduceLeDiff, ↓reduceIte, reduceCtorEq, rsOf, rootsOf, SOp.rd, SI.rd, SX.rd, rdL, rdO, rdP, okParts, eqCells, okEqCells, fillA, okFill, setAt, implies_true, forall_const, forall_eq, ne_eq, exists_eq_right_right, exists_eq_right, exists_eq_left, exists_eq_left', rootL, eAttr, eInt, eNode, eDoc, eBool, lit_eq, he1, he3, he9, eDoc, eNode]
      refine ⟨by omega, Br.ne (fun h1 => ?_) (fun h1 => ?_)⟩
      · simp -dsimp -implicitDefEqProofs (disch := omega) only [↓vcOps_sp 27, ↓vcD_sp 27, ↓vcOps_sp 36, ↓vcD_sp 36, ↓vcOps_sp 39, ↓vcD_sp 39, ↓vcOps_sp 88, ↓vcD_sp 88, ↓vcOps_sp 98, ↓vcD_sp 98, ↓vcOps_sp 113, ↓vcD_sp 113, ↓vcOps_sp 135, ↓vcD_sp 135, ↓vcOps_sp 141, ↓vcD_sp 141, VCA, pg_gl, ↓upd_none, Nat.reduceEqDiff, Nat.reduceBEq, Nat.reduceAdd, Nat.reduceSub, Nat.reduceMul, Nat.reduceLT, Nat.reduceLeDiff, ↓reduceIte, reduceCtorEq, rsOf, rootsOf, SOp.rd, SI.rd, SX.rd, rdL, rdO, rdP, okParts, eqCells, okEqCells, fillA, okFill, setAt, implies_true, forall_const, forall_eq, ne_eq, exists_eq_right_right, exists_eq_right, exists_eq_left, exists_eq_left', rootL, eAttr, eInt, eNode, eDoc, eBool, lit_eq, he1, he3, he9, eDoc, eNode]
        refine pcallE.of (hB) ?_; simp -dsimp -implicitDefEqProofs (disch := omega) only [↓vcOps_sp 27, ↓vcD_sp 27, ↓vcOps_sp 36, ↓vcD_sp 36, ↓vcOps_sp 39, ↓vcD_sp 39, ↓vcOps_sp 88, ↓vcD_sp 88, ↓vcOps_sp 98, ↓vcD_sp 98, ↓vcOps_sp 113, ↓vcD_sp 113, ↓vcOps_sp 135, ↓vcD_sp 135, ↓vcOps_sp 141, ↓vcD_sp 141, VCA, pg_gl, ↓upd_none, Nat.reduceEqDiff, Nat.reduceBEq, Nat.reduceAdd, Nat.reduceSub, Nat.reduceMul, Nat.reduceLT, Nat.reduceLeDiff, ↓reduceIte, reduceCtorEq, rsOf, rootsOf, SOp.rd, SI.rd, SX.rd, rdL, rdO, rdP, okParts, eqCells, okEqCells, fillA, okFill, setAt, implies_true, forall_const, forall_eq, ne_eq, exists_eq_right_right, exists_eq_right, exists_eq_left, exists_eq_left', rootL, eAttr, eInt, eNode, eDoc, eBool, lit_eq, he1, he3, he9, eDoc, eNode]
        cases hb : (decide ((0 : Int) ≤ (nth d.nodes i).parent) && decide ((nth d.nodes i).parent ≤ (d.nodes.length : Int) - 1))
        · simp -dsimp -implicitDefEqProofs (disch := omega) only [↓vcOps_sp 27, ↓vcD_sp 27, ↓vcOps_sp 36, ↓vcD_sp 36, ↓vcOps_sp 39, ↓vcD_sp 39, ↓vcOps_sp 88, ↓vcD_sp 88, ↓vcOps_sp 98, ↓vcD_sp 98, ↓vcOps_sp 113, ↓vcD_sp 113, ↓vcOps_sp 135, ↓vcD_sp 135, ↓vcOps_sp 141, ↓vcD_sp 141, VCA, pg_gl, ↓upd_none, Nat.reduceEqDiff, Nat.reduceBEq, Nat.reduceAdd, Nat.reduceSub, Nat.reduceMul, Nat.reduceLT, Nat.reduceLeDiff, ↓reduceIte, reduceCtorEq, rsOf, rootsOf, SOp.rd, SI.rd, SX.rd, rdL, rdO, rdP, okParts, eqCells, okEqCells, fillA, okFill, setAt, implies_true, forall_const, forall_eq, ne_eq, exists_eq_right_right, exists_eq_right, exists_eq_left, exists_eq_left', rootL, eAttr, eInt, eNode, eDoc, eBool, lit_eq]
          exact ⟨Sub.refl _, bad (by rw [pdef, if_pos ⟨h1, .inl (by rw [inP, hb]; simp)⟩])⟩
        · have hin := inP.2 hb
          have q1 := hin.1
          have q2 := hin.2
          simp -dsimp -implicitDefEqProofs (disch := omega) only [↓vcOps_sp 27, ↓vcD_sp 27, ↓vcOps_sp 36, ↓vcD_sp 36, ↓vcOps_sp 39, ↓vcD_sp 39, ↓vcOps_sp 88, ↓vcD_sp 88, ↓vcOps_sp 98, ↓vcD_sp 98, ↓vcOps_sp 113, ↓vcD_sp 113, ↓vcOps_sp 135, ↓vcD_sp 135, ↓vcOps_sp 141, ↓vcD_sp 141, VCA, pg_gl, ↓upd_none, Nat.reduceEqDiff, Nat.reduceBEq, Nat.reduceAdd, Nat.reduceSub, Nat.reduceMul, Nat.reduceLT, Nat.reduceLeDiff, ↓reduceIte, reduceCtorEq, rsOf, rootsOf, SOp.rd, SI.rd, SX.rd, rdL, rdO, rdP, okParts, eqCells, okEqCells, fillA, okFill, setAt, implies_true, forall_const, forall_eq, ne_eq, exists_eq_right_right, exists_eq_right, exists_eq_left, exists_eq_left', rootL, eAttr, eInt, eNode, eDoc, eBool, lit_eq, he1, he3, he9, eDoc, eNode]
          refine ⟨by omega, ?_⟩
          rw [en]
          refine pcallE.of (hPl) ?_; simp -dsimp -implicitDefEqProofs (disch := omega) only [↓vcOps_sp 27, ↓vcD_sp 27, ↓vcOps_sp 36, ↓vcD_sp 36, ↓vcOps_sp 39, ↓vcD_sp 39, ↓vcOps_sp 88, ↓vcD_sp 88, ↓vcOps_sp 98, ↓vcD_sp 98, ↓vcOps_sp 113, ↓vcD_sp 113, ↓vcOps_sp 135, ↓vcD_sp 135, ↓vcOps_sp 141, ↓vcD_sp 141, VCA, pg_gl, ↓upd_none, Nat.reduceEqDiff, Nat.reduceBEq, Nat.reduceAdd, Nat.reduceSub, Nat.reduceMul, Nat.reduceLT, Nat.reduceLeDiff, ↓reduceIte, reduceCtorEq, rsOf, rootsOf, SOp.rd, SI.rd, SX.rd, rdL, rdO, rdP, okParts, eqCells, okEqCells, fillA, okFill, setAt, implies_true, forall_const, forall_eq, ne_eq, exists_eq_right_right, exists_eq_right, exists_eq_left, exists_eq_left', rootL, eAttr, eInt, eNode, eDoc, eBool, lit_eq, he1, he3, he9, eDoc, eNode]
          refine Br.dec (fun h2 => ?_) (fun h2 => ?_)
          · simp -dsimp -implicitDefEqProofs (disch := omega) only [↓vcOps_sp 27, ↓vcD_sp 27, ↓vcOps_sp 36, ↓vcD_sp 36, ↓vcOps_sp 39, ↓vcD_sp 39, ↓vcOps_sp 88, ↓vcD_sp 88, ↓vcOps_sp 98, ↓vcD_sp 98, ↓vcOps_sp 113, ↓vcD_sp 113, ↓vcOps_sp 135, ↓vcD_sp 135, ↓vcOps_sp 141, ↓vcD_sp 141, VCA, pg_gl, ↓upd_none, Nat.reduceEqDiff, Nat.reduceBEq, Nat.reduceAdd, Nat.reduceSub, Nat.reduceMul, Nat.reduceLT, Nat.reduceLeDiff, ↓reduceIte, reduceCtorEq, rsOf, rootsOf, SOp.rd, SI.rd, SX.rd, rdL, rdO, rdP, okParts, eqCells, okEqCells, fillA, okFill, setAt, implies_true, forall_const, forall_eq, ne_eq, exists_eq_right_right, exists_eq_right, exists_eq_left, exists_eq_left', rootL, eAttr, eInt, eNode, eDoc, eBool, lit_eq]
            exact ⟨Sub.refl _, bad (by rw [pdef, if_pos ⟨h1, .inr (fun hm => by have := im.2 hm; omega)⟩])⟩
          · simp -dsimp -implicitDefEqProofs (disch := omega) only [↓vcOps_sp 27, ↓vcD_sp 27, ↓vcOps_sp 36, ↓vcD_sp 36, ↓vcOps_sp 39, ↓vcD_sp 39, ↓vcOps_sp 88, ↓vcD_sp 88, ↓vcOps_sp 98, ↓vcD_sp 98, ↓vcOps_sp 113, ↓vcD_sp 113, ↓vcOps_sp 135, ↓vcD_sp 135, ↓vcOps_sp 141, ↓vcD_sp 141, VCA, pg_gl, ↓upd_none, Nat.reduceEqDiff, Nat.reduceBEq, Nat.reduceAdd, Nat.reduceSub, Nat.reduceMul, Nat.reduceLT, Nat.reduceLeDiff, ↓reduceIte, reduceCtorEq, rsOf, rootsOf, SOp.rd, SI.rd, SX.rd, rdL, rdO, rdP, okParts, eqCells, okEqCells, fillA, okFill, setAt, implies_true, forall_const, forall_eq, ne_eq, exists_eq_right_right, exists_eq_right, exists_eq_left, exists_eq_left', rootL, eAttr, eInt, eNode, eDoc, eBool, lit_eq, he1, he3, he9]
            refine ⟨_, by omega, i + 1, by omega, rfl, by omega, ok0 ?_⟩
            rw [pdef, if_neg]
            rintro ⟨_, hh | hh⟩
            · exact hh hin
            · exact hh (im.1 (by omega))
      · simp -dsimp -implicitDefEqProofs (disch := omega) only [↓vcOps_sp 27, ↓vcD_sp 27, ↓vcOps_sp 36, ↓vcD_sp 36, ↓vcOps_sp 39, ↓vcD_sp 39, ↓vcOps_sp 88, ↓vcD_sp 88, ↓vcOps_sp 98, ↓vcD_sp 98, ↓vcOps_sp 113, ↓vcD_sp 113, ↓vcOps_sp 135, ↓vcD_sp 135, ↓vcOps_sp 141, ↓vcD_sp 141, VCA, pg_gl, ↓upd_none, Nat.reduceEqDiff, Nat.reduceBEq, Nat.reduceAdd, Nat.reduceSub, Nat.reduceMul, Nat.reduceLT, Nat.reduceLeDiff, ↓reduceIte, reduceCtorEq, rsOf, rootsOf, SOp.rd, SI.rd, SX.rd, rdL, rdO, rdP, okParts, eqCells, okEqCells, fillA, okFill, setAt, implies_true, forall_const, forall_eq, ne_eq, exists_eq_right_right, exists_eq_right, exists_eq_left, exists_eq_left', rootL, eAttr, eInt, eNode, eDoc, eBool, lit_eq, he1, he3, he9]
        refine ⟨_, by omega, i + 1, by omega, rfl, by omega, ok0 ?_⟩
        rw [pdef, if_neg (fun hh => hh.1 h1)]
    · obtain rfl : i = d.nodes.length := by omega
      simp -dsimp -implicitDefEqProofs (disch := omega) only [↓vcOps_sp 27, ↓vcD_sp 27, ↓vcOps_sp 36, ↓vcD_sp 36, ↓vcOps_sp 39, ↓vcD_sp 39, ↓vcOps_sp 88, ↓vcD_sp 88, ↓vcOps_sp 98, ↓vcD_sp 98, ↓vcOps_sp 113, ↓vcD_sp 113, ↓vcOps_sp 135, ↓vcD_sp 135, ↓vcOps_sp 141, ↓vcD_sp 141, VCA, pg_gl, ↓upd_none, Nat.reduceEqDiff, Nat.reduceBEq, Nat.reduceAdd, Nat.reduceSub, Nat.reduceMul, Nat.reduceLT, Nat.reduceLeDiff, ↓reduceIte, reduceCtorEq, rsOf, rootsOf, SOp.rd, SI.rd, SX.rd, rdL, rdO, rdP, okParts, eqCells, okEqCells, fillA, okFill, setAt, implies_true, forall_const, forall_eq, ne_eq, exists_eq_right_right, exists_eq_right, exists_eq_left, exists_eq_left', rootL, eAttr, eInt, eNode, eDoc, eBool, lit_eq]
      exact s7 (.inr ⟨hk, fe_none hj⟩) hp _ he1 he3
  have s5 : 0 < d.nodes.length → ∀ e : Env, e 1 = .pin (eDoc d) → e 3 = aInt d.nodes.length → vc (Pg G) c25_s5 (retK [.tmp 2] fun r h' => r = aInt (if kidsAll d ≠ 0 then kidsAll d else fe d.nodes.length (deepE d)) ∧ h' = h) e h := by
    intro hp e he1 he3
    unfold c25_s5
    skip
    simp -dsimp -implicitDefEqProofs (disch := omega) only [↓vcOps_sp 27, ↓vcD_sp 27, ↓vcOps_sp 36, ↓vcD_sp 36, ↓vcOps_sp 39, ↓vcD_sp 39, ↓vcOps_sp 88, ↓vcD_sp 88, ↓vcOps_sp 98, ↓vcD_sp 98, ↓vcOps_sp 113, ↓vcD_sp 113, ↓vcOps_sp 135, ↓vcD_sp 135, ↓vcOps_sp 141, ↓vcD_sp 141, VCA, pg_gl, ↓upd_none, Nat.reduceEqDiff, Nat.reduceBEq, Nat.reduceAdd, Nat.reduceSub, Nat.reduceMul, Nat.reduceLT, Nat.reduceLeDiff, ↓reduceIte, reduceCtorEq, rsOf, rootsOf, SOp.rd, SI.rd, SX.rd, rdL, rdO, rdP, okParts, eqCells, okEqCells, fillA, okFill, setAt, implies_true, forall_const, forall_eq, ne_eq, exists_eq_right_right, exists_eq_right, exists_eq_left, exists_eq_left', rootL, eAttr, eInt, eNode, eDoc, eBool, lit_eq, he1, he3]
    refine LoopVC.intro (fun m e h' => ∃ i : Nat, i ≤ d.nodes.length ∧ m = d.nodes.length - i ∧ e 1 = .pin (eDoc d) ∧ e 3 = aInt d.nodes.length ∧ e 6 = aInt i ∧ h' = h ∧ ∀ j, j < i → kidsE d j = 0) d.nodes.length ⟨0, by omega, by omega, he1, he3, rfl, rfl, by omega⟩ ?_
    rintro m e h' ⟨i, hi, rfl, he1, he3, he6, rfl, hj⟩
    simp -dsimp -implicitDefEqProofs (disch := omega) only [↓vcOps_sp 27, ↓vcD_sp 27, ↓vcOps_sp 36, ↓vcD_sp 36, ↓vcOps_sp 39, ↓vcD_sp 39, ↓vcOps_sp 88, ↓vcD_sp 88, ↓vcOps_sp 98, ↓vcD_sp 98, ↓vcOps_sp 113, ↓vcD_sp 113, ↓vcOps_sp 135, ↓vcD_sp 135, ↓vcOps_sp 141, ↓vcD_sp 141, VCA, pg_gl, ↓upd_none, Nat.reduceEqDiff, Nat.reduceBEq, Nat.reduceAdd, Nat.reduceSub, Nat.reduceMul, Nat.reduceLT, Nat.reduceLeDiff, ↓reduceIte, reduceCtorEq, rsOf, rootsOf, SOp.rd, SI.rd, SX.rd, rdL, rdO, rdP, okParts, eqCells, okEqCells, fillA, okFill, setAt, implies_true, forall_const, forall_eq, ne_eq, exists_eq_right_right, exists_eq_right, exists_eq_left, exists_eq_left', rootL, eAttr, eInt, eNode, eDoc, eBool, lit_eq, he1, he3, he6]
    refine Br.dec (fun hlt => ?_) (fun hge => ?_)
    · have hi' : i < d.nodes.length := by omega
      have kl := (sm.nth i).kids
      simp -dsimp -implicitDefEqProofs (disch := omega) only [↓vcOps_sp 27, ↓vcD_sp 27, ↓vcOps_sp 36, ↓vcD_sp 36, ↓vcOps_sp 39, ↓vcD_sp 39, ↓vcOps_sp 88, ↓vcD_sp 88, ↓vcOps_sp 98, ↓vcD_sp 98, ↓vcOps_sp 113, ↓vcD_sp 113, ↓vcOps_sp 135, ↓vcD_sp 135, ↓vcOps_sp 141, ↓vcD_sp 141, VCA, pg_gl, ↓upd_none, Nat.reduceEqDiff, Nat.reduceBEq, Nat.reduceAdd, Nat.reduceSub, Nat.reduceMul, Nat.reduceLT, Nat.reduceLeDiff, ↓reduceIte, reduceCtorEq, rsOf, rootsOf, SOp.rd, SI.rd, SX.rd, rdL, rdO, rdP, okParts, eqCells, okEqCells, fillA, okFill, setAt, implies_true, forall_const, forall_eq, ne_eq, exists_eq_right_right, exists_eq_right, exists_eq_left, exists_eq_left', rootL, eAttr, eInt, eNode, eDoc, eBool, lit_eq, he1, he3, he6]
      refine LoopVC.intro (fun m e h2 => ∃ k : Nat, k ≤ (nth d.nodes i).kids.length ∧ m = (nth d.nodes i).kids.length - k ∧ e 1 = .pin (eDoc d) ∧ e 3 = aInt d.nodes.length ∧ e 6 = aInt i ∧ e 7 = aInt k ∧ h2 = h' ∧ ∀ j, j < k → kidE d i j = 0) (nth d.nodes i).kids.length ⟨0, by omega, by omega, he1, he3, he6, rfl, rfl, by omega⟩ ?_
      rintro m e h2 ⟨k, hk, rfl, he1, he3, he6, he7, rfl, hk0⟩
      simp -dsimp -implicitDefEqProofs (disch := omega) only [↓vcOps_sp 27, ↓vcD_sp 27, ↓vcOps_sp 36, ↓vcD_sp 36, ↓vcOps_sp 39, ↓vcD_sp 39, ↓vcOps_sp 88, ↓vcD_sp 88, ↓vcOps_sp 98, ↓vcD_sp 98, ↓vcOps_sp 113, ↓vcD_sp 113, ↓vcOps_sp 135, ↓vcD_sp 135, ↓vcOps_sp 141, ↓vcD_sp 141, VCA, pg_gl, ↓upd_none, Nat.reduceEqDiff, Nat.reduceBEq, Nat.reduceAdd, Nat.reduceSub, Nat.reduceMul, Nat.reduceLT, Nat.reduceLeDiff, ↓reduceIte, reduceCtorEq, rsOf, rootsOf, SOp.rd, SI.rd, SX.rd, rdL, rdO, rdP, okParts, eqCells, okEqCells, fillA, okFill, setAt, implies_true, forall_const, forall_eq, ne_eq, exists_eq_right_right, exists_eq_right, exists_eq_left, exists_eq_left', rootL, eAttr, eInt, eNode, eDoc, eBool, lit_eq, he1, he3, he6, he7, eDoc, eNode]
      refine ⟨by omega, ?_⟩
      refine Br.dec (fun hlt => ?_) (fun hge => ?_)
      · have hk' : k < (nth d.nodes i).kids.length := by omega
        have bad : ∀ x : Int, x ≠ 0 → kidE d i k = x → x = (if kidsAll d ≠ 0 then kidsAll d else fe d.nodes.length (deepE d)) := fun x hx he => by
          have h1 : kidsE d i = x := by unfold kidsE; rw [fe_some hk' hk0 (by rw [he]; exact hx), he]
          have h2 : fe d.nodes.length (kidsE d) = x := by rw [fe_some hi' hj (by rw [h1]; exact hx), h1]
          have h3 : kidsAll d = x := by unfold kidsAll; rw [h2, if_pos hx]
          rw [h3, if_pos hx]
        have kdef : kidE d i k = if ¬ inD d (nth (nth d.nodes i).kids k) ∨ (nd d (nth (nth d.nodes i).kids k)).parent ≠ i ∨ nth (nth d.nodes i).kids k ∈ (nth d.nodes i).kids.take k then 3 else if i = 0 ∧ (nd d (nth (nth d.nodes i).kids k)).kind = 3 then 7 else 0 := rfl
        have ok0 : ∀ j, kidE d i k = 0 → j < k + 1 → kidE d i j = 0 := fun j h0 hj' => by
          by_cases hjk : j = k
          · subst hjk; exact h0
          · exact hk0 j (by omega)
        have hB := betw_ok (G := G) (nth (nth d.nodes i).kids k) 0 ((d.nodes.length : Int) - 1)
        have inP : inD d (nth (nth d.nodes i).kids k) ↔ (decide ((0 : Int) ≤ nth (nth d.nodes i).kids k) && decide (nth (nth d.nodes i).kids k ≤ (d.nodes.length : Int) - 1)) = true := by
          unfold inD; simp; omega
        have im := idx_mem ((nth d.nodes i).kids.take k) (nth (nth d.nodes i).kids k)
        have e2 : (nth d.nodes i).kids.take (Int.toNat (k : Int)) = (nth d.nodes i).kids.take k := by simp
        have hPl := placeIn_ok (G := G) ((nth d.nodes i).kids.take k) (nth (nth d.nodes i).kids k) (by simp; omega)
        have en : nth d.nodes (nth (nth d.nodes i).kids k).toNat = nd d (nth (nth d.nodes i).kids k) := rfl
        simp -dsimp -implicitDefEqProofs (disch := omega) only [↓vcOps_sp 27, ↓vcD_sp 27, ↓vcOps_sp 36, ↓vcD_sp 36, ↓vcOps_sp 39, ↓vcD_sp 39, ↓vcOps_sp 88, ↓vcD_sp 88, ↓vcOps_sp 98, ↓vcD_sp 98, ↓vcOps_sp 113, ↓vcD_sp 113, ↓vcOps_sp 135, ↓vcD_sp 135, ↓vcOps_sp 141, ↓vcD_sp 141, VCA, pg_gl, ↓upd_none, Nat.reduceEqDiff, Nat.reduceBEq, Nat.reduceAdd, Nat.reduceSub, Nat.reduceMul, Nat.reduceLT, Nat.reduceLeDiff, ↓reduceIte, reduceCtorEq, rsOf, rootsOf, SOp.rd, SI.rd, SX.rd, rdL, rdO, rdP, okParts, eqCells, okEqCells, fillA, okFill, setAt, implies_true, forall_const, forall_eq, ne_eq, exists_eq_right_right, exists_eq_right, exists_eq_left, exists_eq_left', rootL, eAttr, eInt, eNode, eDoc, eBool, lit_eq, he1, he3, he6, he7, eDoc, eNode]
        refine ⟨by omega, by omega, ?_⟩
        refine pcallE.of (hB) ?_; simp -dsimp -implicitDefEqProofs (disch := omega) only [↓vcOps_sp 27, ↓vcD_sp 27, ↓vcOps_sp 36, ↓vcD_sp 36, ↓vcOps_sp 39, ↓vcD_sp 39, ↓vcOps_sp 88, ↓vcD_sp 88, ↓vcOps_sp 98, ↓vcD_sp 98, ↓vcOps_sp 113, ↓vcD_sp 113, ↓vcOps_sp 135, ↓vcD_sp 135, ↓vcOps_sp 141, ↓vcD_sp 141, VCA, pg_gl, ↓upd_none, Nat.reduceEqDiff, Nat.reduceBEq, Nat.reduceAdd, Nat.reduceSub, Nat.reduceMul, Nat.reduceLT, Nat.reduceLeDiff, ↓reduceIte, reduceCtorEq, rsOf, rootsOf, SOp.rd, SI.rd, SX.rd, rdL, rdO, rdP, okParts, eqCells, okEqCells, fillA, okFill, setAt, implies_true, forall_const, forall_eq, ne_eq, exists_eq_right_right, exists_eq_right, exists_eq_left, exists_eq_left', rootL, eAttr, eInt, eNode, eDoc, eBool, lit_eq, he1, he3, he6, he7, eDoc, eNode]
        cases hb : (decide ((0 : Int) ≤ nth (nth d.nodes i).kids k) && decide (nth (nth d.nodes i).kids k ≤ (d.nodes.length : Int) - 1))
        · simp -dsimp -implicitDefEqProofs (disch := omega) only [↓vcOps_sp 27, ↓vcD_sp 27, ↓vcOps_sp 36, ↓vcD_sp 36, ↓vcOps_sp 39, ↓vcD_sp 39, ↓vcOps_sp 88, ↓vcD_sp 88, ↓vcOps_sp 98, ↓vcD_sp 98, ↓vcOps_sp 113, ↓vcD_sp 113, ↓vcOps_sp 135, ↓vcD_sp 135, ↓vcOps_sp 141, ↓vcD_sp 141, VCA, pg_gl, ↓upd_none, Nat.reduceEqDiff, Nat.reduceBEq, Nat.reduceAdd, Nat.reduceSub, Nat.reduceMul, Nat.reduceLT, Nat.reduceLeDiff, ↓reduceIte, reduceCtorEq, rsOf, rootsOf, SOp.rd, SI.rd, SX.rd, rdL, rdO, rdP, okParts, eqCells, okEqCells, fillA, okFill, setAt, implies_true, forall_const, forall_eq, ne_eq, exists_eq_right_right, exists_eq_right, exists_eq_left, exists_eq_left', rootL, eAttr, eInt, eNode, eDoc, eBool, lit_eq]
          exact ⟨Sub.refl _, bad 3 (by decide) (by rw [kdef, if_pos (.inl (by rw [inP, hb]; simp))])⟩
        · have hin := inP.2 hb
          have q1 := hin.1
          have q2 := hin.2
          simp -dsimp -implicitDefEqProofs (disch := omega) only [↓vcOps_sp 27, ↓vcD_sp 27, ↓vcOps_sp 36, ↓vcD_sp 36, ↓vcOps_sp 39, ↓vcD_sp 39, ↓vcOps_sp 88, ↓vcD_sp 88, ↓vcOps_sp 98, ↓vcD_sp 98, ↓vcOps_sp 113, ↓vcD_sp 113, ↓vcOps_sp 135, ↓vcD_sp 135, ↓vcOps_sp 141, ↓vcD_sp 141, VCA, pg_gl, ↓upd_none, Nat.reduceEqDiff, Nat.reduceBEq, Nat.reduceAdd, Nat.reduceSub, Nat.reduceMul, Nat.reduceLT, Nat.reduceLeDiff, ↓reduceIte, reduceCtorEq, rsOf, rootsOf, SOp.rd, SI.rd, SX.rd, rdL, rdO, rdP, okParts, eqCells, okEqCells, fillA, okFill, setAt, implies_true, forall_const, forall_eq, ne_eq, exists_eq_right_right, exists_eq_right, exists_eq_left, exists_eq_left', rootL, eAttr, eInt, eNode, eDoc, eBool, lit_eq, he1, he3, he6, he7, eDoc, eNode]
          refine ⟨by omega, ?_⟩
          rw [en]
          refine Br.ne (fun h1 => ?_) (fun h1 => ?_)
          · simp -dsimp -implicitDefEqProofs (disch := omega) only [↓vcOps_sp 27, ↓vcD_sp 27, ↓vcOps_sp 36, ↓vcD_sp 36, ↓vcOps_sp 39, ↓vcD_sp 39, ↓vcOps_sp 88, ↓vcD_sp 88, ↓vcOps_sp 98, ↓vcD_sp 98, ↓vcOps_sp 113, ↓vcD_sp 113, ↓vcOps_sp 135, ↓vcD_sp 135, ↓vcOps_sp 141, ↓vcD_sp 141, VCA, pg_gl, ↓upd_none, Nat.reduceEqDiff, Nat.reduceBEq, Nat.reduceAdd, Nat.reduceSub, Nat.reduceMul, Nat.reduceLT, Nat.reduceLeDiff, ↓reduceIte, reduceCtorEq, rsOf, rootsOf, SOp.rd, SI.rd, SX.rd, rdL, rdO, rdP, okParts, eqCells, okEqCells, fillA, okFill, setAt, implies_true, forall_const, forall_eq, ne_eq, exists_eq_right_right, exists_eq_right, exists_eq_left, exists_eq_left', rootL, eAttr, eInt, eNode, eDoc, eBool, lit_eq]
            exact ⟨Sub.refl _, bad 3 (by decide) (by rw [kdef, if_pos (.inr (.inl h1))])⟩
          · simp -dsimp -implicitDefEqProofs (disch := omega) only [↓vcOps_sp 27, ↓vcD_sp 27, ↓vcOps_sp 36, ↓vcD_sp 36, ↓vcOps_sp 39, ↓vcD_sp 39, ↓vcOps_sp 88, ↓vcD_sp 88, ↓vcOps_sp 98, ↓vcD_sp 98, ↓vcOps_sp 113, ↓vcD_sp 113, ↓vcOps_sp 135, ↓vcD_sp 135, ↓vcOps_sp 141, ↓vcD_sp 141, VCA, pg_gl, ↓upd_none, Nat.reduceEqDiff, Nat.reduceBEq, Nat.reduceAdd, Nat.reduceSub, Nat.reduceMul, Nat.reduceLT, Nat.reduceLeDiff, ↓reduceIte, reduceCtorEq, rsOf, rootsOf, SOp.rd, SI.rd, SX.rd, rdL, rdO, rdP, okParts, eqCells, okEqCells, fillA, okFill, setAt, implies_true, forall_const, forall_eq, ne_eq, exists_eq_right_right, exists_eq_right, exists_eq_left, exists_eq_left', rootL, eAttr, eInt, eNode, eDoc, eBool, lit_eq, he1, he3, he6, he7, eDoc, eNode]
            refine ⟨by omega, by omega, ?_⟩
            refine pcallE.of (hPl) ?_; simp -dsimp -implicitDefEqProofs (disch := omega) only [↓vcOps_sp 27, ↓vcD_sp 27, ↓vcOps_sp 36, ↓vcD_sp 36, ↓vcOps_sp 39, ↓vcD_sp 39, ↓vcOps_sp 88, ↓vcD_sp 88, ↓vcOps_sp 98, ↓vcD_sp 98, ↓vcOps_sp 113, ↓vcD_sp 113, ↓vcOps_sp 135, ↓vcD_sp 135, ↓vcOps_sp 141, ↓vcD_sp 141, VCA, pg_gl, ↓upd_none, Nat.reduceEqDiff, Nat.reduceBEq, Nat.reduceAdd, Nat.reduceSub, Nat.reduceMul, Nat.reduceLT, Nat.reduceLeDiff, ↓reduceIte, reduceCtorEq, rsOf, rootsOf, SOp.rd, SI.rd, SX.rd, rdL, rdO, rdP, okParts, eqCells, okEqCells, fillA, okFill, setAt, implies_true, forall_const, forall_eq, ne_eq, exists_eq_right_right, exists_eq_right, exists_eq_left, exists_eq_left', rootL, eAttr, eInt, eNode, eDoc, eBool, lit_eq, he1, he3, he6, he7, eDoc, eNode]
            refine Br.dec (fun h2 => ?_) (fun h2 => ?_)
            · simp -dsimp -implicitDefEqProofs (disch := omega) only [↓vcOps_sp 27, ↓vcD_sp 27, ↓vcOps_sp 36, ↓vcD_sp 36, ↓vcOps_sp 39, ↓vcD_sp 39, ↓vcOps_sp 88, ↓vcD_sp 88, ↓vcOps_sp 98, ↓vcD_sp 98, ↓vcOps_sp 113, ↓vcD_sp 113, ↓vcOps_sp 135, ↓vcD_sp 135, ↓vcOps_sp 141, ↓vcD_sp 141, VCA, pg_gl, ↓upd_none, Nat.reduceEqDiff, Nat.reduceBEq, Nat.reduceAdd, Nat.reduceSub, Nat.reduceMul, Nat.reduceLT, Nat.reduceLeDiff, ↓reduceIte, reduceCtorEq, rsOf, rootsOf, SOp.rd, SI.rd, SX.rd, rdL, rdO, rdP, okParts, eqCells, okEqCells, fillA, okFill, setAt, implies_true, forall_const, forall_eq, ne_eq, exists_eq_right_right, exists_eq_right, exists_eq_left, exists_eq_left', rootL, eAttr, eInt, eNode, eDoc, eBool, lit_eq]
              exact ⟨Sub.refl _, bad 3 (by decide) (by rw [kdef, if_pos (.inr (.inr (im.1 h2)))])⟩
            · have hno : ¬ (¬ inD d (nth (nth d.nodes i).kids k) ∨ (nd d (nth (nth d.nodes i).kids k)).parent ≠ i ∨ nth (nth d.nodes i).kids k ∈ (nth d.nodes i).kids.take k) := by
                rintro (hh | hh | hh)
                · exact hh hin
                · exact hh h1
                · exact h2 (im.2 hh)
              have e0 : ∀ h0 : i = 0, nth d.nodes (nth (nth d.nodes i).kids k).toNat = nd d (nth (nth d.nodes i).kids k) := fun _ => rfl
              simp -dsimp -implicitDefEqProofs (disch := omega) only [↓vcOps_sp 27, ↓vcD_sp 27, ↓vcOps_sp 36, ↓vcD_sp 36, ↓vcOps_sp 39, ↓vcD_sp 39, ↓vcOps_sp 88, ↓vcD_sp 88, ↓vcOps_sp 98, ↓vcD_sp 98, ↓vcOps_sp 113, ↓vcD_sp 113, ↓vcOps_sp 135, ↓vcD_sp 135, ↓vcOps_sp 141, ↓vcD_sp 141, VCA, pg_gl, ↓upd_none, Nat.reduceEqDiff, Nat.reduceBEq, Nat.reduceAdd, Nat.reduceSub, Nat.reduceMul, Nat.reduceLT, Nat.reduceLeDiff, ↓reduceIte, reduceCtorEq, rsOf, rootsOf, SOp.rd, SI.rd, SX.rd, rdL, rdO, rdP, okParts, eqCells, okEqCells, fillA, okFill, setAt, implies_true, forall_const, forall_eq, ne_eq, exists_eq_right_right, exists_eq_right, exists_eq_left, exists_eq_left', rootL, eAttr, eInt, eNode, eDoc, eBool, lit_eq, he1, he3, he6, he7, eDoc, eNode]
              repeat' (first | ((with_reducible refine brC (fun _ => ?_) fun _ => ?_) <;> try (exfalso; omega)) | (with_reducible refine And.intro ?_ ?_; · omega) | simp -dsimp -implicitDefEqProofs (disch := omega) only [↓vcOps_sp 27, ↓vcD_sp 27, ↓vcOps_sp 36, ↓vcD_sp 36, ↓vcOps_sp 39, ↓vcD_sp 39, ↓vcOps_sp 88, ↓vcD_sp 88, ↓vcOps_sp 98, ↓vcD_sp 98, ↓vcOps_sp 113, ↓vcD_sp 113, ↓vcOps_sp 135, ↓vcD_sp 135, ↓vcOps_sp 141, ↓vcD_sp 141, VCA, pg_gl, ↓upd_none, Nat.reduceEqDiff, Nat.reduceBEq, Nat.reduceAdd, Nat.reduceSub, Nat.reduceMul, Nat.reduceLT, Nat.reduceLeDiff, ↓reduceIte, reduceCtorEq, rsOf, rootsOf, SOp.rd, SI.rd, SX.rd, rdL, rdO, rdP, okParts, eqCells, okEqCells, fillA, okFill, setAt, implies_true, forall_const, forall_eq, ne_eq, exists_eq_right_right, exists_eq_right, exists_eq_left, exists_eq_left', rootL, eAttr, eInt, eNode, eDoc, eBool, lit_eq, he1, he3, he6, he7, eDoc, eNode])
              · rename_i g1 g2
                exact ⟨Sub.refl _, bad 7 (by decide) (by rw [kdef, if_neg hno, if_pos ⟨by omega, g2⟩])⟩
              · rename_i g1 g2
                exact ⟨_, by omega, k + 1, by omega, rfl, by omega, fun j => ok0 j (by rw [kdef, if_neg hno, if_neg (fun hh => g2 hh.2)])⟩
              · rename_i g1
                exact ⟨_, by omega, k + 1, by omega, rfl, by omega, fun j => ok0 j (by rw [kdef, if_neg hno, if_neg (fun hh => g1 (by omega))])⟩
      · obtain rfl : k = (nth d.nodes i).kids.length := by omega
        simp -dsimp -implicitDefEqProofs (disch := omega) only [↓vcOps_sp 27, ↓vcD_sp 27, ↓vcOps_sp 36, ↓vcD_sp 36, ↓vcOps_sp 39, ↓vcD_sp 39, ↓vcOps_sp 88, ↓vcD_sp 88, ↓vcOps_sp 98, ↓vcD_sp 98, ↓vcOps_sp 113, ↓vcD_sp 113, ↓vcOps_sp 135, ↓vcD_sp 135, ↓vcOps_sp 141, ↓vcD_sp 141, VCA, pg_gl, ↓upd_none, Nat.reduceEqDiff, Nat.reduceBEq, Nat.reduceAdd, Nat.reduceSub, Nat.reduceMul, Nat.reduceLT, Nat.reduceLeDiff, ↓reduceIte, reduceCtorEq, rsOf, rootsOf, SOp.rd, SI.rd, SX.rd, rdL, rdO, rdP, okParts, eqCells, okEqCells, fillA, okFill, setAt, implies_true, forall_const, forall_eq, ne_eq, exists_eq_right_right, exists_eq_right, exists_eq_left, exists_eq_left', rootL, eAttr, eInt, eNode, eDoc, eBool, lit_eq, he1, he3, he6]
        refine ⟨_, by omega, i + 1, by omega, rfl, by omega, fun j hj' => ?_⟩
        by_cases hji : j = i
        · subst hji; exact fe_none hk0
        · exact hj j (by omega)
    · obtain rfl : i = d.nodes.length := by omega
      simp -dsimp -implicitDefEqProofs (disch := omega) only [↓vcOps_sp 27, ↓vcD_sp 27, ↓vcOps_sp 36, ↓vcD_sp 36, ↓vcOps_sp 39, ↓vcD_sp 39, ↓vcOps_sp 88, ↓vcD_sp 88, ↓vcOps_sp 98, ↓vcD_sp 98, ↓vcOps_sp 113, ↓vcD_sp 113, ↓vcOps_sp 135, ↓vcD_sp 135, ↓vcOps_sp 141, ↓vcD_sp 141, VCA, pg_gl, ↓upd_none, Nat.reduceEqDiff, Nat.reduceBEq, Nat.reduceAdd, Nat.reduceSub, Nat.reduceMul, Nat.reduceLT, Nat.reduceLeDiff, ↓reduceIte, reduceCtorEq, rsOf, rootsOf, SOp.rd, SI.rd, SX.rd, rdL, rdO, rdP, okParts, eqCells, okEqCells, fillA, okFill, setAt, implies_true, forall_const, forall_eq, ne_eq, exists_eq_right_right, exists_eq_right, exists_eq_left, exists_eq_left', rootL, eAttr, eInt, eNode, eDoc, eBool, lit_eq]
      exact s6 (fe_none hj) hp _ he1 he3
  have s4 : 0 < d.nodes.length → ∀ e : Env, e 1 = .pin (eDoc d) → e 3 = aInt d.nodes.length → vc (Pg G) c25_s4 (retK [.tmp 2] fun r h' => r = aInt (if fe d.nodes.length (headE d) ≠ 0 then fe d.nodes.length (headE d) else if kidsAll d ≠ 0 then kidsAll d else fe d.nodes.length (deepE d)) ∧ h' = h) e h := by
    intro hp e he1 he3
    unfold c25_s4
    skip
    simp -dsimp -implicitDefEqProofs (disch := omega) only [↓vcOps_sp 27, ↓vcD_sp 27, ↓vcOps_sp 36, ↓vcD_sp 36, ↓vcOps_sp 39, ↓vcD_sp 39, ↓vcOps_sp 88, ↓vcD_sp 88, ↓vcOps_sp 98, ↓vcD_sp 98, ↓vcOps_sp 113, ↓vcD_sp 113, ↓vcOps_sp 135, ↓vcD_sp 135, ↓vcOps_sp 141, ↓vcD_sp 141, VCA, pg_gl, ↓upd_none, Nat.reduceEqDiff, Nat.reduceBEq, Nat.reduceAdd, Nat.reduceSub, Nat.reduceMul, Nat.reduceLT, Nat.reduceLeDiff, ↓reduceIte, reduceCtorEq, rsOf, rootsOf, SOp.rd, SI.rd, SX.rd, rdL, rdO, rdP, okParts, eqCells, okEqCells, fillA, okFill, setAt, implies_true, forall_const, forall_eq, ne_eq, exists_eq_right_right, exists_eq_right, exists_eq_left, exists_eq_left', rootL, eAttr, eInt, eNode, eDoc, eBool, lit_eq, he1, he3]
    refine LoopVC.intro (fun m e h' => ∃ i : Nat, i ≤ d.nodes.length ∧ m = d.nodes.length - i ∧ e 1 = .pin (eDoc d) ∧ e 3 = aInt d.nodes.length ∧ e 4 = aInt i ∧ h' = h ∧ ∀ j, j < i → headE d j = 0) d.nodes.length ⟨0, by omega, by omega, he1, he3, rfl, rfl, by omega⟩ ?_
    rintro m e h' ⟨i, hi, rfl, he1, he3, he4, rfl, hj⟩
    simp -dsimp -implicitDefEqProofs (disch := omega) only [↓vcOps_sp 27, ↓vcD_sp 27, ↓vcOps_sp 36, ↓vcD_sp 36, ↓vcOps_sp 39, ↓vcD_sp 39, ↓vcOps_sp 88, ↓vcD_sp 88, ↓vcOps_sp 98, ↓vcD_sp 98, ↓vcOps_sp 113, ↓vcD_sp 113, ↓vcOps_sp 135, ↓vcD_sp 135, ↓vcOps_sp 141, ↓vcD_sp 141, VCA, pg_gl, ↓upd_none, Nat.reduceEqDiff, Nat.reduceBEq, Nat.reduceAdd, Nat.reduceSub, Nat.reduceMul, Nat.reduceLT, Nat.reduceLeDiff, ↓reduceIte, reduceCtorEq, rsOf, rootsOf, SOp.rd, SI.rd, SX.rd, rdL, rdO, rdP, okParts, eqCells, okEqCells, fillA, okFill, setAt, implies_true, forall_const, forall_eq, ne_eq, exists_eq_right_right, exists_eq_right, exists_eq_left, exists_eq_left', rootL, eAttr, eInt, eNode, eDoc, eBool, lit_eq, he1, he3, he4]
    refine Br.dec (fun hlt => ?_) (fun hge => ?_)
    · have hi' : i < d.nodes.length := by omega
      have hdef : headE d i = if ¬ ((nth d.nodes i).kind = 1 ↔ i = 0) then 3 else nodeE (nth d.nodes i) := rfl
      have bad : ∀ x : Int, x ≠ 0 → headE d i = x → x = (if fe d.nodes.length (headE d) ≠ 0 then fe d.nodes.length (headE d) else if kidsAll d ≠ 0 then kidsAll d else fe d.nodes.length (deepE d)) := fun x hx he => by
        have : fe d.nodes.length (headE d) = x := by rw [fe_some hi' hj (by rw [he]; exact hx), he]
        rw [this, if_pos hx]
      have ok0 : headE d i = 0 → ∀ j, j < i + 1 → headE d j = 0 := fun h0 j hj' => by
        by_cases hji : j = i
        · subst hji; exact h0
        · exact hj j (by omega)
      have hO : PCalls (Pg G) 45 [.agg [aInt (nth d.nodes i).kind, .str (nth d.nodes i).name, sl eAttr (nth d.nodes i).attrs, .str (nth d.nodes i).text, aInt (nth d.nodes i).parent, sl eInt (nth d.nodes i).kids]] (aInt (nodeE (nth d.nodes i))) := nodeErr_ok _ (sm.nth i)
      simp -dsimp -implicitDefEqProofs (disch := omega) only [↓vcOps_sp 27, ↓vcD_sp 27, ↓vcOps_sp 36, ↓vcD_sp 36, ↓vcOps_sp 39, ↓vcD_sp 39, ↓vcOps_sp 88, ↓vcD_sp 88, ↓vcOps_sp 98, ↓vcD_sp 98, ↓vcOps_sp 113, ↓vcD_sp 113, ↓vcOps_sp 135, ↓vcD_sp 135, ↓vcOps_sp 141, ↓vcD_sp 141, VCA, pg_gl, ↓upd_none, Nat.reduceEqDiff, Nat.reduceBEq, Nat.reduceAdd, Nat.reduceSub, Nat.reduceMul, Nat.reduceLT, Nat.reduceLeDiff, ↓reduceIte, reduceCtorEq, rsOf, rootsOf, SOp.rd, SI.rd, SX.rd, rdL, rdO, rdP, okParts, eqCells, okEqCells, fillA, okFill, setAt, implies_true, forall_const, forall_eq, ne_eq, exists_eq_right_right, exists_eq_right, exists_eq_left, exists_eq_left', rootL, eAttr, eInt, eNode, eDoc, eBool, lit_eq, he1, he3, he4, eDoc, eNode]
      repeat' (first | ((with_reducible refine brC (fun _ => ?_) fun _ => ?_) <;> try (exfalso; omega)) | (with_reducible apply pcallE.of; · exact hO) | (with_reducible refine And.intro ?_ ?_; · omega) | simp -dsimp -implicitDefEqProofs (disch := omega) only [↓vcOps_sp 27, ↓vcD_sp 27, ↓vcOps_sp 36, ↓vcD_sp 36, ↓vcOps_sp 39, ↓vcD_sp 39, ↓vcOps_sp 88, ↓vcD_sp 88, ↓vcOps_sp 98, ↓vcD_sp 98, ↓vcOps_sp 113, ↓vcD_sp 113, ↓vcOps_sp 135, ↓vcD_sp 135, ↓vcOps_sp 141, ↓vcD_sp 141, VCA, pg_gl, ↓upd_none, Nat.reduceEqDiff, Nat.reduceBEq, Nat.reduceAdd, Nat.reduceSub, Nat.reduceMul, Nat.reduceLT, Nat.reduceLeDiff, ↓reduceIte, reduceCtorEq, rsOf, rootsOf, SOp.rd, SI.rd, SX.rd, rdL, rdO, rdP, okParts, eqCells, okEqCells, fillA, okFill, setAt, implies_true, forall_const, forall_eq, ne_eq, exists_eq_right_right, exists_eq_right, exists_eq_left, exists_eq_left', rootL, eAttr, eInt, eNode, eDoc, eBool, lit_eq, he1, he3, he4, eDoc, eNode])
      all_goals first
        | exact ⟨Sub.refl _, bad 3 (by decide) (by rw [hdef, if_pos (by omega)])⟩
        | (rename_i q; exact ⟨Sub.refl _, bad _ q (by rw [hdef, if_neg (by omega)])⟩)
        | (rename_i q; exact ⟨_, by omega, i + 1, by omega, rfl, by omega, ok0 (by rw [hdef, if_neg (by omega), q])⟩)
    · obtain rfl : i = d.nodes.length := by omega
      rw [fe_none hj, if_neg (by simp)]
      simp -dsimp -implicitDefEqProofs (disch := omega) only [↓vcOps_sp 27, ↓vcD_sp 27, ↓vcOps_sp 36, ↓vcD_sp 36, ↓vcOps_sp 39, ↓vcD_sp 39, ↓vcOps_sp 88, ↓vcD_sp 88, ↓vcOps_sp 98, ↓vcD_sp 98, ↓vcOps_sp 113, ↓vcD_sp 113, ↓vcOps_sp 135, ↓vcD_sp 135, ↓vcOps_sp 141, ↓vcD_sp 141, VCA, pg_gl, ↓upd_none, Nat.reduceEqDiff, Nat.reduceBEq, Nat.reduceAdd, Nat.reduceSub, Nat.reduceMul, Nat.reduceLT, Nat.reduceLeDiff, ↓reduceIte, reduceCtorEq, rsOf, rootsOf, SOp.rd, SI.rd, SX.rd, rdL, rdO, rdP, okParts, eqCells, okEqCells, fillA, okFill, setAt, implies_true, forall_const, forall_eq, ne_eq, exists_eq_right_right, exists_eq_right, exists_eq_left, exists_eq_left', rootL, eAttr, eInt, eNode, eDoc, eBool, lit_eq]
      exact s5 hp _ he1 he3
  rw [docE_kids]
  refine dcalls_of_vc Tryd.func25 hn25 hc25 (by rw [Tryd.ntmps25]; simp) (by rw [Tryd.ntmps25]; decide) ?_
  simp -dsimp -implicitDefEqProofs (disch := omega) only [↓vcOps_sp 27, ↓vcD_sp 27, ↓vcOps_sp 36, ↓vcD_sp 36, ↓vcOps_sp 39, ↓vcD_sp 39, ↓vcOps_sp 88, ↓vcD_sp 88, ↓vcOps_sp 98, ↓vcD_sp 98, ↓vcOps_sp 113, ↓vcD_sp 113, ↓vcOps_sp 135, ↓vcD_sp 135, ↓vcOps_sp 141, ↓vcD_sp 141, VCA, pg_gl, ↓upd_none, Nat.reduceEqDiff, Nat.reduceBEq, Nat.reduceAdd, Nat.reduceSub, Nat.reduceMul, Nat.reduceLT, Nat.reduceLeDiff, ↓reduceIte, reduceCtorEq, rsOf, rootsOf, SOp.rd, SI.rd, SX.rd, rdL, rdO, rdP, okParts, eqCells, okEqCells, fillA, okFill, setAt, implies_true, forall_const, forall_eq, ne_eq, exists_eq_right_right, exists_eq_right, exists_eq_left, exists_eq_left', rootL, eAttr, eInt, eNode, eDoc, eBool, lit_eq, c25, eDoc]
  refine Br.dec (fun h1 => ?_) (fun h1 => ?_)
  · rw [if_pos (by omega)]
    simp -dsimp -implicitDefEqProofs (disch := omega) only [↓vcOps_sp 27, ↓vcD_sp 27, ↓vcOps_sp 36, ↓vcD_sp 36, ↓vcOps_sp 39, ↓vcD_sp 39, ↓vcOps_sp 88, ↓vcD_sp 88, ↓vcOps_sp 98, ↓vcD_sp 98, ↓vcOps_sp 113, ↓vcD_sp 113, ↓vcOps_sp 135, ↓vcD_sp 135, ↓vcOps_sp 141, ↓vcD_sp 141, VCA, pg_gl, ↓upd_none, Nat.reduceEqDiff, Nat.reduceBEq, Nat.reduceAdd, Nat.reduceSub, Nat.reduceMul, Nat.reduceLT, Nat.reduceLeDiff, ↓reduceIte, reduceCtorEq, rsOf, rootsOf, SOp.rd, SI.rd, SX.rd, rdL, rdO, rdP, okParts, eqCells, okEqCells, fillA, okFill, setAt, implies_true, forall_const, forall_eq, ne_eq, exists_eq_right_right, exists_eq_right, exists_eq_left, exists_eq_left', rootL, eAttr, eInt, eNode, eDoc, eBool, lit_eq]
    exact Sub.refl _
  · rw [if_neg (by omega)]
    simp -dsimp -implicitDefEqProofs (disch := omega) only [↓vcOps_sp 27, ↓vcD_sp 27, ↓vcOps_sp 36, ↓vcD_sp 36, ↓vcOps_sp 39, ↓vcD_sp 39, ↓vcOps_sp 88, ↓vcD_sp 88, ↓vcOps_sp 98, ↓vcD_sp 98, ↓vcOps_sp 113, ↓vcD_sp 113, ↓vcOps_sp 135, ↓vcD_sp 135, ↓vcOps_sp 141, ↓vcD_sp 141, VCA, pg_gl, ↓upd_none, Nat.reduceEqDiff, Nat.reduceBEq, Nat.reduceAdd, Nat.reduceSub, Nat.reduceMul, Nat.reduceLT, Nat.reduceLeDiff, ↓reduceIte, reduceCtorEq, rsOf, rootsOf, SOp.rd, SI.rd, SX.rd, rdL, rdO, rdP, okParts, eqCells, okEqCells, fillA, okFill, setAt, implies_true, forall_const, forall_eq, ne_eq, exists_eq_right_right, exists_eq_right, exists_eq_left, exists_eq_left', rootL, eAttr, eInt, eNode, eDoc, eBool, lit_eq]
    refine Br.eq (fun h2 => ?_) (fun h2 => ?_)
    · rw [if_pos (by omega)]
      simp -dsimp -implicitDefEqProofs (disch := omega) only [↓vcOps_sp 27, ↓vcD_sp 27, ↓vcOps_sp 36, ↓vcD_sp 36, ↓vcOps_sp 39, ↓vcD_sp 39, ↓vcOps_sp 88, ↓vcD_sp 88, ↓vcOps_sp 98, ↓vcD_sp 98, ↓vcOps_sp 113, ↓vcD_sp 113, ↓vcOps_sp 135, ↓vcD_sp 135, ↓vcOps_sp 141, ↓vcD_sp 141, VCA, pg_gl, ↓upd_none, Nat.reduceEqDiff, Nat.reduceBEq, Nat.reduceAdd, Nat.reduceSub, Nat.reduceMul, Nat.reduceLT, Nat.reduceLeDiff, ↓reduceIte, reduceCtorEq, rsOf, rootsOf, SOp.rd, SI.rd, SX.rd, rdL, rdO, rdP, okParts, eqCells, okEqCells, fillA, okFill, setAt, implies_true, forall_const, forall_eq, ne_eq, exists_eq_right_right, exists_eq_right, exists_eq_left, exists_eq_left', rootL, eAttr, eInt, eNode, eDoc, eBool, lit_eq]
      exact Sub.refl _
    · rw [if_neg (by omega)]
      simp -dsimp -implicitDefEqProofs (disch := omega) only [↓vcOps_sp 27, ↓vcD_sp 27, ↓vcOps_sp 36, ↓vcD_sp 36, ↓vcOps_sp 39, ↓vcD_sp 39, ↓vcOps_sp 88, ↓vcD_sp 88, ↓vcOps_sp 98, ↓vcD_sp 98, ↓vcOps_sp 113, ↓vcD_sp 113, ↓vcOps_sp 135, ↓vcD_sp 135, ↓vcOps_sp 141, ↓vcD_sp 141, VCA, pg_gl, ↓upd_none, Nat.reduceEqDiff, Nat.reduceBEq, Nat.reduceAdd, Nat.reduceSub, Nat.reduceMul, Nat.reduceLT, Nat.reduceLeDiff, ↓reduceIte, reduceCtorEq, rsOf, rootsOf, SOp.rd, SI.rd, SX.rd, rdL, rdO, rdP, okParts, eqCells, okEqCells, fillA, okFill, setAt, implies_true, forall_const, forall_eq, ne_eq, exists_eq_right_right, exists_eq_right, exists_eq_left, exists_eq_left', rootL, eAttr, eInt, eNode, eDoc, eBool, lit_eq]
      exact s4 (by omega) _ rfl rfl
def c29 : SFun := ⟨.seq (.reg [⟨some 2, .boxF 53 6 (.t 0), none⟩, ⟨some 3, .boxF 53 6 (.t 1), none⟩, ⟨some 4, .mv (.c (.bool false)), none⟩]) (.seq (.reg [⟨some 5, .fldA 0 (.t 2), none⟩, ⟨some 6, .ld 1 false (.t 5), none⟩, ⟨some 7, .fldA 0 (.t 3), none⟩, ⟨some 8, .ld 1 false (.t 7), none⟩, ⟨some 9, .bin .eql (.t 6) (.t 8), none⟩, ⟨some 10, .mv (.t 9), none⟩, ⟨some 11, .fldA 1 (.t 2), some (10, true)⟩, ⟨some 12, .ld 1 false (.t 11), some (10, true)⟩, ⟨some 13, .fldA 1 (.t 3), some (10, true)⟩, ⟨some 14, .ld 1 false (.t 13), some (10, true)⟩, ⟨some 15, .bin .eql (.t 12) (.t 14), some (10, true)⟩, ⟨some 16, .pick (.t 10) (.t 15) (.c (.bool false)), none⟩, ⟨some 17, .mv (.t 16), none⟩, ⟨some 18, .fldA 3 (.t 2), some (17, true)⟩, ⟨some 19, .ld 1 false (.t 18), some (17, true)⟩, ⟨some 20, .fldA 3 (.t 3), some (17, true)⟩, ⟨some 21, .ld 1 false (.t 20), some (17, true)⟩, ⟨some 22, .bin .eql (.t 19) (.t 21), some (17, true)⟩, ⟨some 23, .pick (.t 17) (.t 22) (.c (.bool false)), none⟩, ⟨some 24, .mv (.t 23), none⟩, ⟨some 25, .fldA 4 (.t 2), some (24, true)⟩, ⟨some 26, .ld 1 false (.t 25), some (24, true)⟩, ⟨some 27, .fldA 4 (.t 3), some (24, true)⟩, ⟨some 28, .ld 1 false (.t 27), some (24, true)⟩, ⟨some 29, .bin .eql (.t 26) (.t 28), some (24, true)⟩, ⟨some 30, .pick (.t 24) (.t 29) (.c (.bool false)), none⟩, ⟨some 31, .mv (.t 30), none⟩, ⟨some 32, .fldA 2 (.t 2), some (31, true)⟩, ⟨some 33, .ld 1 false (.t 32), some (31, true)⟩, ⟨some 34, .fldA 2 (.t 3), some (31, true)⟩, ⟨some 35, .ld 1 false (.t 34), some (31, true)⟩, ⟨some 36, .pcall 50 [.t 33, .t 35], some (31, true)⟩, ⟨some 37, .pick (.t 31) (.t 36) (.c (.bool false)), none⟩, ⟨some 38, .mv (.t 37), none⟩, ⟨some 39, .fldA 5 (.t 2), some (38, true)⟩, ⟨some 40, .ld 1 false (.t 39), some (38, true)⟩, ⟨some 41, .fldA 5 (.t 3), some (38, true)⟩, ⟨some 42, .ld 1 false (.t 41), some (38, true)⟩, ⟨some 43, .pcall 51 [.t 40, .t 42], some (38, true)⟩, ⟨some 44, .pick (.t 38) (.t 43) (.c (.bool false)), none⟩, ⟨some 4, .mv (.t 44), none⟩]) .ret), [.tmp 4]⟩
theorem hc29 : toSF Tryd.prog {pure := [50, 51]} Tryd.f29 = some c29 := by kernel_rfl
theorem hn29 : (Tryd.f29.name == "runtime.NumGoroutine") = false := by kernel_rfl
theorem sameNode_ok (x y : HNode) (hx : NodeSm x) (hy : NodeSm y) : PCalls (Pg G) 29 [.agg (eNode x), .agg (eNode y)] (.bool (x == y)) := fun h => by
  have key : (x == y) = (x.kind == y.kind && (x.name == y.name && (x.text == y.text && (x.parent == y.parent && (x.attrs == y.attrs && x.kids == y.kids))))) := by
    cases x; cases y; rw [Bool.eq_iff_iff]; simp; intro _ _; exact ⟨fun ⟨a, b, c, d⟩ => ⟨b, c, a, d⟩, fun ⟨a, b, c, d⟩ => ⟨c, a, b, d⟩⟩
  refine dcalls_of_vc Tryd.func29 hn29 hc29 (by rw [Tryd.ntmps29]; simp) (by rw [Tryd.ntmps29]; decide) ?_
  simp -dsimp -implicitDefEqProofs (disch := omega) only [↓vcOps_sp 10, ↓vcD_sp 10, ↓vcOps_sp 17, ↓vcD_sp 17, ↓vcOps_sp 24, ↓vcD_sp 24, ↓vcOps_sp 31, ↓vcD_sp 31, ↓vcOps_sp 38, ↓vcD_sp 38, VCA, pg_gl, ↓upd_none, Nat.reduceEqDiff, Nat.reduceBEq, Nat.reduceAdd, Nat.reduceSub, Nat.reduceMul, Nat.reduceLT, Nat.reduceLeDiff, ↓reduceIte, reduceCtorEq, rsOf, rootsOf, SOp.rd, SI.rd, SX.rd, rdL, rdO, rdP, okParts, eqCells, okEqCells, fillA, okFill, setAt, implies_true, forall_const, forall_eq, ne_eq, exists_eq_right_right, exists_eq_right, exists_eq_left, exists_eq_left', rootL, eAttr, eInt, eNode, eDoc, eBool, lit_eq, c29, eNode]
  repeat' (first | ((with_reducible refine brC (fun _ => ?_) fun _ => ?_) <;> try (exfalso; omega)) | (with_reducible apply pcallE.of; · exact sameA_ok x.attrs y.attrs hx.attrs hy.attrs) | (with_reducible apply pcallE.of; · exact sameN_ok x.kids y.kids hx.kids hy.kids) | (with_reducible refine And.intro ?_ ?_; · omega) | simp -dsimp -implicitDefEqProofs (disch := omega) only [↓vcOps_sp 10, ↓vcD_sp 10, ↓vcOps_sp 17, ↓vcD_sp 17, ↓vcOps_sp 24, ↓vcD_sp 24, ↓vcOps_sp 31, ↓vcD_sp 31, ↓vcOps_sp 38, ↓vcD_sp 38, VCA, pg_gl, ↓upd_none, Nat.reduceEqDiff, Nat.reduceBEq, Nat.reduceAdd, Nat.reduceSub, Nat.reduceMul, Nat.reduceLT, Nat.reduceLeDiff, ↓reduceIte, reduceCtorEq, rsOf, rootsOf, SOp.rd, SI.rd, SX.rd, rdL, rdO, rdP, okParts, eqCells, okEqCells, fillA, okFill, setAt, implies_true, forall_const, forall_eq, ne_eq, exists_eq_right_right, exists_eq_right, exists_eq_left, exists_eq_left', rootL, eAttr, eInt, eNode, eDoc, eBool, lit_eq])
  all_goals (refine ⟨Sub.refl _, ?_⟩; rw [key]; simp_all)
def c14 : SFun := ⟨.seq (.reg [⟨some 2, .boxF 29 2 (.t 0), none⟩, ⟨some 3, .boxF 29 2 (.t 1), none⟩, ⟨some 4, .mv (.c (.bool false)), none⟩]) (.seq (.seq (.reg [⟨some 6, .fldA 0 (.t 2), none⟩, ⟨some 7, .ld 1 false (.t 6), none⟩, ⟨some 8, .len (.t 7), none⟩, ⟨some 9, .fldA 0 (.t 3), none⟩, ⟨some 10, .ld 1 false (.t 9), none⟩, ⟨some 11, .len (.t 10), none⟩, ⟨some 12, .bin .neq (.t 8) (.t 11), none⟩, ⟨some 13, .mv (.t 12), none⟩, ⟨some 14, .fldA 1 (.t 2), some (13, false)⟩, ⟨some 15, .ld 1 false (.t 14), some (13, false)⟩, ⟨some 16, .fldA 1 (.t 3), some (13, false)⟩, ⟨some 17, .ld 1 false (.t 16), some (13, false)⟩, ⟨some 18, .eqb true (.t 15) (.t 17), some (13, false)⟩, ⟨some 19, .pick (.t 13) (.c (.bool true)) (.t 18), none⟩]) (.cond (.t 19) (.seq (.reg [⟨some 4, .mv (.c (.bool false)), none⟩]) .ret) .skip)) (.seq (.seq (.reg [⟨some 5, .mv (.c (.int .i64 0)), none⟩]) (.block 0 (.loop (.seq (.seq (.reg [⟨some 20, .mv (.t 5), none⟩, ⟨some 21, .fldA 0 (.t 2), none⟩, ⟨some 22, .ld 1 false (.t 21), none⟩, ⟨some 23, .len (.t 22), none⟩, ⟨some 24, .bin .lss (.t 20) (.t 23), none⟩]) (.cond (.t 24) .skip (.exit 0))) (.seq (.block 1 (.seq (.dreg [(⟨some 27, .fldA 0 (.t 2), none⟩, none), (⟨some 28, .ld 1 false (.t 27), none⟩, none), (⟨some 29, .mv (.t 5), none⟩, none), (⟨some 30, .idxA 6 (.t 28) (.t 29), none⟩, none), (⟨some 31, .ld 6 true (.t 30), none⟩, none), (⟨some 32, .fldA 0 (.t 3), none⟩, none), (⟨some 33, .ld 1 false (.t 32), none⟩, none), (⟨some 34, .mv (.t 5), none⟩, none), (⟨some 35, .idxA 6 (.t 33) (.t 34), none⟩, none), (⟨some 36, .ld 6 true (.t 35), none⟩, none), (⟨some 37, .pcall 29 [.t 31, .t 36], none⟩, none), (⟨some 38, .un .not (.t 37), none⟩, none)]) (.cond (.t 38) (.seq (.reg [⟨some 4, .mv (.c (.bool false)), none⟩]) .ret) .skip))) (.reg [⟨some 25, .mv (.t 5), none⟩, ⟨some 26, .bin .add (.t 25) (.c (.int .i64 1)), none⟩, ⟨some 5, .mv (.t 26), none⟩])))))) (.seq (.reg [⟨some 4, .mv (.c (.bool true)), none⟩]) .ret))), [.tmp 4]⟩
theorem hc14 : toSF Tryd.prog {pure := [29]} Tryd.f14 = some c14 := by kernel_rfl
theorem hn14 : (Tryd.f14.name == "runtime.NumGoroutine") = false := by kernel_rfl
theorem sameDoc_ok (a b : HDoc) (ha : DocSm a) (hb : DocSm b) : PCalls (Pg G) 14 [.agg (eDoc a), .agg (eDoc b)] (.bool (a == b)) := fun h => by
  have l1 := ha.len
  have l2 := hb.len
  refine dcalls_of_vc Tryd.func14 hn14 hc14 (by rw [Tryd.ntmps14]; simp) (by rw [Tryd.ntmps14]; decide) ?_
  simp -dsimp -implicitDefEqProofs (disch := omega) only [↓vcOps_sp 13, ↓vcD_sp 13, VCA, pg_gl, ↓upd_none, Nat.reduceEqDiff, Nat.reduceBEq, Nat.reduceAdd, Nat.reduceSub, Nat.reduceMul, Nat.reduceLT, Nat.reduceLeDiff, ↓reduceIte, reduceCtorEq, rsOf, rootsOf, SOp.rd, SI.rd, SX.rd, rdL, rdO, rdP, okParts, eqCells, okEqCells, fillA, okFill, setAt, implies_true, forall_const, forall_eq, ne_eq, exists_eq_right_right, exists_eq_right, exists_eq_left, exists_eq_left', rootL, eAttr, eInt, eNode, eDoc, eBool, lit_eq, c14, eDoc]
  refine Br.ne (fun h1 => ?_) (fun h1 => ?_)
  · simp -dsimp -implicitDefEqProofs (disch := omega) only [↓vcOps_sp 13, ↓vcD_sp 13, VCA, pg_gl, ↓upd_none, Nat.reduceEqDiff, Nat.reduceBEq, Nat.reduceAdd, Nat.reduceSub, Nat.reduceMul, Nat.reduceLT, Nat.reduceLeDiff, ↓reduceIte, reduceCtorEq, rsOf, rootsOf, SOp.rd, SI.rd, SX.rd, rdL, rdO, rdP, okParts, eqCells, okEqCells, fillA, okFill, setAt, implies_true, forall_const, forall_eq, ne_eq, exists_eq_right_right, exists_eq_right, exists_eq_left, exists_eq_left', rootL, eAttr, eInt, eNode, eDoc, eBool, lit_eq]
    have : ¬ a = b := fun e => h1 (by rw [e])
    first | exact Sub.refl _ | exact ⟨Sub.refl _, by simp [this]⟩
  · have h1' : a.nodes.length = b.nodes.length := by omega
    simp -dsimp -implicitDefEqProofs (disch := omega) only [↓vcOps_sp 13, ↓vcD_sp 13, VCA, pg_gl, ↓upd_none, Nat.reduceEqDiff, Nat.reduceBEq, Nat.reduceAdd, Nat.reduceSub, Nat.reduceMul, Nat.reduceLT, Nat.reduceLeDiff, ↓reduceIte, reduceCtorEq, rsOf, rootsOf, SOp.rd, SI.rd, SX.rd, rdL, rdO, rdP, okParts, eqCells, okEqCells, fillA, okFill, setAt, implies_true, forall_const, forall_eq, ne_eq, exists_eq_right_right, exists_eq_right, exists_eq_left, exists_eq_left', rootL, eAttr, eInt, eNode, eDoc, eBool, lit_eq, eDoc]
    refine brNeq (fun h2 => ?_) (fun h2 => ?_)
    · simp -dsimp -implicitDefEqProofs (disch := omega) only [↓vcOps_sp 13, ↓vcD_sp 13, VCA, pg_gl, ↓upd_none, Nat.reduceEqDiff, Nat.reduceBEq, Nat.reduceAdd, Nat.reduceSub, Nat.reduceMul, Nat.reduceLT, Nat.reduceLeDiff, ↓reduceIte, reduceCtorEq, rsOf, rootsOf, SOp.rd, SI.rd, SX.rd, rdL, rdO, rdP, okParts, eqCells, okEqCells, fillA, okFill, setAt, implies_true, forall_const, forall_eq, ne_eq, exists_eq_right_right, exists_eq_right, exists_eq_left, exists_eq_left', rootL, eAttr, eInt, eNode, eDoc, eBool, lit_eq]
      have : ¬ a = b := fun e => h2 (by rw [e])
      first | exact Sub.refl _ | exact ⟨Sub.refl _, by simp [this]⟩
    · simp -dsimp -implicitDefEqProofs (disch := omega) only [↓vcOps_sp 13, ↓vcD_sp 13, VCA, pg_gl, ↓upd_none, Nat.reduceEqDiff, Nat.reduceBEq, Nat.reduceAdd, Nat.reduceSub, Nat.reduceMul, Nat.reduceLT, Nat.reduceLeDiff, ↓reduceIte, reduceCtorEq, rsOf, rootsOf, SOp.rd, SI.rd, SX.rd, rdL, rdO, rdP, okParts, eqCells, okEqCells, fillA, okFill, setAt, implies_true, forall_const, forall_eq, ne_eq, exists_eq_right_right, exists_eq_right, exists_eq_left, exists_eq_left', rootL, eAttr, eInt, eNode, eDoc, eBool, lit_eq]
      refine LoopVC.intro (fun m e h' => ∃ k : Nat, k ≤ a.nodes.length ∧ m = a.nodes.length - k ∧ e 2 = .pin (eDoc a) ∧ e 3 = .pin (eDoc b) ∧ e 5 = aInt k ∧ h' = h ∧ ∀ j, j < k → nth a.nodes j = nth b.nodes j) a.nodes.length ⟨0, by omega, by omega, rfl, rfl, rfl, rfl, fun j hj => absurd hj (Nat.not_lt_zero j)⟩ ?_
      rintro m e h' ⟨k, hk, rfl, he2, he3, he5, rfl, hj⟩
      have hN : PCalls (Pg G) 29 [.agg (eNode (nth a.nodes k)), .agg (eNode (nth b.nodes k))] (.bool (nth a.nodes k == nth b.nodes k)) := sameNode_ok _ _ (ha.nth k) (hb.nth k)
      unfold eNode at hN
      simp -dsimp -implicitDefEqProofs (disch := omega) only [↓vcOps_sp 13, ↓vcD_sp 13, VCA, pg_gl, ↓upd_none, Nat.reduceEqDiff, Nat.reduceBEq, Nat.reduceAdd, Nat.reduceSub, Nat.reduceMul, Nat.reduceLT, Nat.reduceLeDiff, ↓reduceIte, reduceCtorEq, rsOf, rootsOf, SOp.rd, SI.rd, SX.rd, rdL, rdO, rdP, okParts, eqCells, okEqCells, fillA, okFill, setAt, implies_true, forall_const, forall_eq, ne_eq, exists_eq_right_right, exists_eq_right, exists_eq_left, exists_eq_left', rootL, eAttr, eInt, eNode, eDoc, eBool, lit_eq, he2, he3, he5, eDoc]
      refine Br.dec (fun hlt => ?_) (fun hge => ?_)
      · simp -dsimp -implicitDefEqProofs (disch := omega) only [↓vcOps_sp 13, ↓vcD_sp 13, VCA, pg_gl, ↓upd_none, Nat.reduceEqDiff, Nat.reduceBEq, Nat.reduceAdd, Nat.reduceSub, Nat.reduceMul, Nat.reduceLT, Nat.reduceLeDiff, ↓reduceIte, reduceCtorEq, rsOf, rootsOf, SOp.rd, SI.rd, SX.rd, rdL, rdO, rdP, okParts, eqCells, okEqCells, fillA, okFill, setAt, implies_true, forall_const, forall_eq, ne_eq, exists_eq_right_right, exists_eq_right, exists_eq_left, exists_eq_left', rootL, eAttr, eInt, eNode, eDoc, eBool, lit_eq, he2, he3, he5, eDoc, eNode]
        refine ⟨by omega, by omega, ?_⟩
        refine pcallE.of (hN) ?_; simp -dsimp -implicitDefEqProofs (disch := omega) only [↓vcOps_sp 13, ↓vcD_sp 13, VCA, pg_gl, ↓upd_none, Nat.reduceEqDiff, Nat.reduceBEq, Nat.reduceAdd, Nat.reduceSub, Nat.reduceMul, Nat.reduceLT, Nat.reduceLeDiff, ↓reduceIte, reduceCtorEq, rsOf, rootsOf, SOp.rd, SI.rd, SX.rd, rdL, rdO, rdP, okParts, eqCells, okEqCells, fillA, okFill, setAt, implies_true, forall_const, forall_eq, ne_eq, exists_eq_right_right, exists_eq_right, exists_eq_left, exists_eq_left', rootL, eAttr, eInt, eNode, eDoc, eBool, lit_eq, he2, he3, he5, eDoc, eNode]
        refine brNeq (fun h3 => ?_) (fun h3 => ?_)
        · simp -dsimp -implicitDefEqProofs (disch := omega) only [↓vcOps_sp 13, ↓vcD_sp 13, VCA, pg_gl, ↓upd_none, Nat.reduceEqDiff, Nat.reduceBEq, Nat.reduceAdd, Nat.reduceSub, Nat.reduceMul, Nat.reduceLT, Nat.reduceLeDiff, ↓reduceIte, reduceCtorEq, rsOf, rootsOf, SOp.rd, SI.rd, SX.rd, rdL, rdO, rdP, okParts, eqCells, okEqCells, fillA, okFill, setAt, implies_true, forall_const, forall_eq, ne_eq, exists_eq_right_right, exists_eq_right, exists_eq_left, exists_eq_left', rootL, eAttr, eInt, eNode, eDoc, eBool, lit_eq]
          have : ¬ a = b := fun e => h3 (by rw [e])
          first | exact Sub.refl _ | exact ⟨Sub.refl _, by simp [this]⟩
        · simp -dsimp -implicitDefEqProofs (disch := omega) only [↓vcOps_sp 13, ↓vcD_sp 13, VCA, pg_gl, ↓upd_none, Nat.reduceEqDiff, Nat.reduceBEq, Nat.reduceAdd, Nat.reduceSub, Nat.reduceMul, Nat.reduceLT, Nat.reduceLeDiff, ↓reduceIte, reduceCtorEq, rsOf, rootsOf, SOp.rd, SI.rd, SX.rd, rdL, rdO, rdP, okParts, eqCells, okEqCells, fillA, okFill, setAt, implies_true, forall_const, forall_eq, ne_eq, exists_eq_right_right, exists_eq_right, exists_eq_left, exists_eq_left', rootL, eAttr, eInt, eNode, eDoc, eBool, lit_eq, he2, he3, he5, eDoc]
          refine ⟨_, by omega, k + 1, by omega, rfl, by omega, fun j hj' => ?_⟩
          by_cases hjk : j = k
          · subst hjk; exact h3
          · exact hj j (by omega)
      · simp -dsimp -implicitDefEqProofs (disch := omega) only [↓vcOps_sp 13, ↓vcD_sp 13, VCA, pg_gl, ↓upd_none, Nat.reduceEqDiff, Nat.reduceBEq, Nat.reduceAdd, Nat.reduceSub, Nat.reduceMul, Nat.reduceLT, Nat.reduceLeDiff, ↓reduceIte, reduceCtorEq, rsOf, rootsOf, SOp.rd, SI.rd, SX.rd, rdL, rdO, rdP, okParts, eqCells, okEqCells, fillA, okFill, setAt, implies_true, forall_const, forall_eq, ne_eq, exists_eq_right_right, exists_eq_right, exists_eq_left, exists_eq_left', rootL, eAttr, eInt, eNode, eDoc, eBool, lit_eq]
        have hn : a.nodes = b.nodes := ext_nth h1' (fun j hj' => hj j (by omega))
        have : a = b := by cases a; cases b; simp_all
        first | exact Sub.refl _ | exact ⟨Sub.refl _, by simp [this]⟩
end Go.Proofs.K
end
section
set_option linter.unusedSimpArgs false
set_option linter.unusedVariables false
namespace Go.Proofs.K
open Go Go.Sim Go.Proofs
def attrH (a : HAttr) : List UInt8 := [32] ++ a.name ++ [61, 34] ++ escD true a.value ++ [34]
def openH (x : HNode) : List UInt8 := [60] ++ x.name ++ x.attrs.flatMap attrH ++ [62]
def lineFirst (d : HDoc) (x : HNode) : Bool :=
  (x.name == [112, 114, 101] || x.name == [116, 101, 120, 116, 97, 114, 101, 97]) && (decide (x.kids ≠ []) && ((nd d (nth x.kids 0)).kind == 3 && ((nd d (nth x.kids 0)).text != [] && bt (nd d (nth x.kids 0)).text 0 == 10)))
def htG (d : HDoc) (x : HNode) (inner : List UInt8) : List UInt8 :=
  if x.kind = 1 then inner
  else if x.kind = 5 then [60, 33, 68, 79, 67, 84, 89, 80, 69, 32] ++ x.name ++ [62]
  else if x.kind = 4 then [60, 33, 45, 45] ++ x.text ++ [45, 45, 62]
  else if x.kind = 3 then (if 0 ≤ x.parent ∧ rawM (nd d x.parent).name = 1 then x.text else escD false x.text)
  else if inW x.name voidS = true ∧ x.kids = [] then openH x
  else openH x ++ (if lineFirst d x = true then [10] else []) ++ inner ++ [60, 47] ++ x.name ++ [62]
def htF : Nat → HDoc → Int → List UInt8
  | 0, _, _ => []
  | f + 1, d, n => htG d (nd d n) ((nd d n).kids.flatMap (htF f d))
def htmlM (d : HDoc) (n : Int) : List UInt8 := htF 41 d n
theorem htF_eq {d : HDoc} (V : DV d) : ∀ (f g : Nat) (n : Int), inD d n → 41 ≤ f + up d n → 41 ≤ g + up d n → htF f d n = htF g d n
  | 0, g, n, hn, hf, _ => by have := V.deep n hn; omega
  | f + 1, 0, n, hn, _, hg => by have := V.deep n hn; omega
  | f + 1, g + 1, n, hn, hf, hg => by
    unfold htF
    rw [flatMap_congr' fun k hk => htF_eq V f g k (V.kid n hn k hk).1 (by have := V.up_kid hn hk; omega) (by have := V.up_kid hn hk; omega)]
theorem html_eq {d : HDoc} (V : DV d) {n : Int} (hn : inD d n) : htmlM d n = htG d (nd d n) ((nd d n).kids.flatMap (htmlM d)) := by
  show htF 41 d n = _
  unfold htF
  rw [flatMap_congr' fun k hk => htF_eq V 40 41 k (V.kid n hn k hk).1 (by have := V.up_kid hn hk; omega) (by omega)]
  rfl
theorem esc_len (attr : Bool) : ∀ (n : Nat) (s : List UInt8), s.length ≤ n → (escD attr s).length ≤ 6 * s.length
  | _, [], _ => by rw [escD_nil]; simp
  | 0, c :: t, h => by simp at h
  | n + 1, c :: t, h => by
    by_cases hc : c = 194 ∧ t.head? = some 160
    · obtain ⟨rfl, ht⟩ := hc
      cases t with
      | nil => cases ht
      | cons b u =>
        simp only [List.head?_cons, Option.some.injEq] at ht
        subst ht
        rw [escD_nb]
        have := esc_len attr n u (by simp at h; omega)
        simp only [List.length_append, List.length_cons]
        have : nbspS.length = 6 := rfl
        omega
    · rw [escD_c attr c t hc]
      have h1 := esc_len attr n t (by simp at h; omega)
      have h2 : (escC attr c).length ≤ 6 := by
        unfold escC
        repeat' split
        all_goals first | decide | simp
      simp only [List.length_append, List.length_cons]
      omega
theorem flat_le {α β : Type} {f : α → List β} {k : Nat} : ∀ l : List α, (∀ x ∈ l, (f x).length ≤ k) → (l.flatMap f).length ≤ k * l.length
  | [], _ => by simp
  | x :: r, h => by
    have h1 := h x List.mem_cons_self
    have h2 := flat_le r fun y hy => h y (List.mem_cons_of_mem _ hy)
    rw [List.flatMap_cons, List.length_append, List.length_cons, Nat.mul_add]
    omega
theorem flat_le2 {α β γ : Type} {f : α → List β} {g : α → List γ} {k : Nat} : ∀ l : List α, (∀ x ∈ l, (f x).length ≤ k * (g x).length) → (l.flatMap f).length ≤ k * (l.flatMap g).length
  | [], _ => by simp
  | x :: r, h => by
    have h1 := h x List.mem_cons_self
    have h2 := flat_le2 r fun y hy => h y (List.mem_cons_of_mem _ hy)
    rw [List.flatMap_cons, List.flatMap_cons, List.length_append, List.length_append, Nat.mul_add]
    omega
structure NodeSz (x : HNode) : Prop where
  name : x.name.length ≤ 400
  attrs : x.attrs.length ≤ 12
  each : ∀ a ∈ x.attrs, a.name.length ≤ 40 ∧ a.value.length ≤ 400 ∧ nameOK false a.name = true
  text : x.text.length ≤ 400
  elem : x.kind = 2 → nameOK true x.name = true
  kind : 1 ≤ x.kind ∧ x.kind ≤ 5 ∧ bareM x = true
theorem nodeE_sz {x : HNode} (h : nodeE x = 0) : NodeSz x := by
  unfold nodeE at h
  split at h
  · omega
  rename_i hk
  split at h
  · omega
  rename_i he
  split at h
  · rename_i ha; exact absurd h ha
  rename_i ha
  split at h
  · omega
  rename_i hl
  have ha : attrsE x.attrs = 0 := by simpa using ha
  unfold attrsE at ha
  split at ha
  · omega
  have hz := fe_zero ha
  refine ⟨by omega, by omega, fun a hm => ?_, by omega, fun k => ?_, by omega, by omega, ?_⟩
  · obtain ⟨j, hj, rfl⟩ := mem_nth hm
    have h1 := hz j hj
    unfold attrE at h1
    split at h1
    · omega
    rename_i hn
    split at h1
    · omega
    have hn : nameOK false (nth x.attrs j).name = true := by simpa using hn
    refine ⟨?_, by omega, hn⟩
    unfold nameOK at hn
    simp only [Bool.and_eq_true, decide_eq_true_eq] at hn
    omega
  · cases hq : nameOK true x.name with
    | true => rfl
    | false => exact absurd ⟨k, hq⟩ he
  · cases hq : bareM x with
    | true => rfl
    | false => exact absurd (.inr (.inr hq)) hk
theorem html_len {d : HDoc} (V : DV d) : ∀ n, inD d n → (htmlM d n).length ≤ 40000 * (below d n).length := V.down fun n hn ih => by
  have Z := nodeE_sz (V.node n hn)
  rw [html_eq V hn, below_eq V hn]
  have hin : ((nd d n).kids.flatMap (htmlM d)).length ≤ 40000 * ((nd d n).kids.flatMap (below d)).length := flat_le2 _ ih
  have h1 := Z.name
  have h2 := Z.text
  have h3 := esc_len false _ (nd d n).text (Nat.le_refl _)
  have h4 : (openH (nd d n)).length ≤ 36000 := by
    unfold openH
    have := flat_le (f := attrH) (k := 2500) (nd d n).attrs fun a ha => by
      have h1 := Z.each a ha
      have h2 := esc_len true _ a.value (Nat.le_refl _)
      unfold attrH
      simp only [List.length_append, List.length_cons, List.length_nil]
      omega
    have h5 := Z.attrs
    simp only [List.length_append, List.length_cons, List.length_nil]
    omega
  unfold htG
  simp only [List.length_cons]
  repeat' split
  all_goals (try simp only [List.length_append, List.length_cons, List.length_nil]); omega
def hexD (n : Nat) : UInt8 := UInt8.ofNat (if n < 10 then 48 + n else 87 + n)
def plainB (b : UInt8) : Bool := decide (32 ≤ b.toNat) && (decide (b.toNat ≤ 126) && (b != 34 && b != 92))
def quoB (b : UInt8) : List UInt8 := if plainB b = true then [b] else [92, hexD (b.toNat / 16), hexD (b.toNat % 16)]
def quoteM (s : List UInt8) : List UInt8 := 34 :: (s.flatMap quoB ++ [34])
def attrL (a : HAttr) : List UInt8 := [32] ++ a.name ++ [61] ++ quoteM a.value
def lineM (x : HNode) : List UInt8 :=
  if x.kind = 5 then 33 :: quoteM x.name else if x.kind = 3 then quoteM x.text else if x.kind = 4 then 45 :: quoteM x.text
  else x.name ++ x.attrs.flatMap attrL
def rowL (d : HDoc) (k : Nat) (n : Int) : List UInt8 := List.replicate k 32 ++ lineM (nd d n) ++ [10]
def lnF : Nat → HDoc → Int → Nat → List UInt8
  | 0, _, _, _ => []
  | f + 1, d, n, k => (nd d n).kids.flatMap fun m => rowL d k m ++ lnF f d m (k + 1)
def linesM (d : HDoc) (n : Int) (k : Nat) : List UInt8 := lnF 41 d n k
theorem lnF_eq {d : HDoc} (V : DV d) : ∀ (f g : Nat) (n : Int) (k : Nat), inD d n → 41 ≤ f + up d n → 41 ≤ g + up d n → lnF f d n k = lnF g d n k
  | 0, g, n, k, hn, hf, _ => by have := V.deep n hn; omega
  | f + 1, 0, n, k, hn, _, hg => by have := V.deep n hn; omega
  | f + 1, g + 1, n, k, hn, hf, hg => by
    unfold lnF
    exact flatMap_congr' fun m hm => by rw [lnF_eq V f g m (k + 1) (V.kid n hn m hm).1 (by have := V.up_kid hn hm; omega) (by have := V.up_kid hn hm; omega)]
theorem lines_eq {d : HDoc} (V : DV d) {n : Int} (hn : inD d n) (k : Nat) : linesM d n k = (nd d n).kids.flatMap fun m => rowL d k m ++ linesM d m (k + 1) := by
  show lnF 41 d n k = _
  unfold lnF
  exact flatMap_congr' fun m hm => by rw [lnF_eq V 40 41 m (k + 1) (V.kid n hn m hm).1 (by have := V.up_kid hn hm; omega) (by omega)]; rfl
def treeM (d : HDoc) : List UInt8 := (if d.quirks = true then [126, 10] else []) ++ linesM d 0 0
theorem quote_len (s : List UInt8) : (quoteM s).length ≤ 3 * s.length + 2 := by
  have := flat_le (f := quoB) (k := 3) s fun b _ => by unfold quoB; split <;> simp
  unfold quoteM; simp only [List.length_cons, List.length_append, List.length_nil]; omega
theorem line_len {x : HNode} (Z : NodeSz x) : (lineM x).length ≤ 20000 := by
  have h1 := quote_len x.name
  have h2 := quote_len x.text
  have h3 := Z.name
  have h4 := Z.text
  have h5 := Z.attrs
  have := flat_le (f := attrL) (k := 1300) x.attrs fun a ha => by
    have h1 := Z.each a ha
    have h2 := quote_len a.value
    unfold attrL
    simp only [List.length_append, List.length_cons, List.length_nil]; omega
  unfold lineM
  repeat' split
  all_goals (try simp only [List.length_append, List.length_cons]); omega
theorem lines_len {d : HDoc} (V : DV d) : ∀ n, inD d n → ∀ k, k ≤ up d n → (linesM d n k).length + 20100 ≤ 20100 * (below d n).length := V.down fun n hn ih k hk => by
  rw [lines_eq V hn, below_eq V hn]
  have : (((nd d n).kids.flatMap fun m => rowL d k m ++ linesM d m (k + 1))).length ≤ 20100 * ((nd d n).kids.flatMap (below d)).length := flat_le2 _ fun m hm => by
    have h1 := ih m hm (k + 1) (by have := V.up_kid hn hm; omega)
    have h2 := line_len (nodeE_sz (V.node m (V.kid n hn m hm).1))
    have h3 := V.deep m (V.kid n hn m hm).1
    have h4 := V.up_kid hn hm
    unfold rowL
    simp only [List.length_append, List.length_replicate, List.length_cons, List.length_nil]
    omega
  simp only [List.length_cons]
  omega
theorem lines_below {d : HDoc} (V : DV d) : ∀ n, inD d n → ∀ k, k = up d n → linesM d n k = ((below d n).drop 1).flatMap fun m => rowL d (up d m - 1) m := V.down fun n hn ih k hk => by
  rw [lines_eq V hn, below_eq V hn, List.drop_succ_cons, List.drop_zero, List.flatMap_assoc]
  refine flatMap_congr' fun m hm => ?_
  have hi := (V.kid n hn m hm).1
  have hu := V.up_kid hn hm
  rw [ih m hm (k + 1) (by omega), below_eq V hi, List.flatMap_cons, List.drop_succ_cons, List.drop_zero, hu, hk]
  rfl
end Go.Proofs.K
end
section
set_option linter.unusedSimpArgs false
set_option linter.unusedVariables false
namespace Go.Proofs.K
open Go Go.Sim Go.Proofs
theorem bt_inj {a b : UInt8} (h : (a.toNat : Int) = b.toNat) : a = b := UInt8.toNat_inj.1 (by omega)
end Go.Proofs.K
end
section
set_option linter.unusedSimpArgs false
set_option linter.unusedVariables false
namespace Go.Proofs.K
open Go Go.Sim Go.Proofs
def hexN (b : UInt8) : Nat := if 48 ≤ b.toNat ∧ b.toNat ≤ 57 then b.toNat - 48 else if 97 ≤ b.toNat ∧ b.toNat ≤ 102 then b.toNat - 87 else 16
def qtL : List UInt8 → Option (List UInt8 × List UInt8)
  | [] => none
  | [c] => if c = 34 then some ([], []) else none
  | [c, a] => if c = 34 then some ([], [a]) else if plainB c = true ∧ a = 34 then some ([c], []) else none
  | c :: a :: b :: r =>
    if c = 34 then some ([], a :: b :: r)
    else if c = 92 then
      if hexN a < 16 ∧ hexN b < 16 ∧ plainB (UInt8.ofNat (16 * hexN a + hexN b)) = false then (qtL r).map fun q => (UInt8.ofNat (16 * hexN a + hexN b) :: q.1, q.2) else none
    else if plainB c = true then (qtL (a :: b :: r)).map fun q => (c :: q.1, q.2) else none
def hexX (b : UInt8) : Int := if hexN b < 16 then hexN b else -1
def byteX (a b : UInt8) : UInt8 := UInt8.ofNat ((IntKind.u8.wrap (bitF .or .i64 (IntKind.i64.wrap (hexX a * 16)) (hexX b))).toNat)
def uqL : List UInt8 → Option (List UInt8 × List UInt8)
  | [] => none
  | [c] => if c = 34 then some ([], []) else none
  | [c, a] => if c = 34 then some ([], [a]) else if a = 34 then some ([c], []) else none
  | c :: a :: b :: r =>
    if c = 34 then some ([], a :: b :: r)
    else if c = 92 then (uqL r).map fun q => (byteX a b :: q.1, q.2)
    else (uqL (a :: b :: r)).map fun q => (c :: q.1, q.2)
theorem qt_cons {c : UInt8} {t : List UInt8} (h1 : c ≠ 34) (h2 : c ≠ 92) : qtL (c :: t) = if plainB c = true then (qtL t).map fun q => (c :: q.1, q.2) else none := by
  match t with
  | [] => unfold qtL; rw [if_neg h1]; split <;> rfl
  | [a] =>
    unfold qtL
    rw [if_neg h1]
    by_cases hp : plainB c = true
    · by_cases ha : a = 34
      · rw [if_pos ⟨hp, ha⟩, if_pos hp, if_pos ha]; rfl
      · rw [if_neg (fun h => ha h.2), if_pos hp, if_neg ha]; rfl
    · rw [if_neg (fun h => hp h.1), if_neg hp]
  | a :: b :: r => rw [qtL, if_neg h1, if_neg h2]
theorem qt_end {t : List UInt8} : qtL (34 :: t) = some ([], t) := by
  match t with
  | [] => rfl
  | [a] => rfl
  | a :: b :: r => rw [qtL, if_pos rfl]
theorem uq_cons {c : UInt8} {t : List UInt8} (h1 : c ≠ 34) (h2 : c ≠ 92) : uqL (c :: t) = (uqL t).map fun q => (c :: q.1, q.2) := by
  match t with
  | [] => unfold uqL; rw [if_neg h1]; rfl
  | [a] =>
    unfold uqL
    rw [if_neg h1]
    by_cases ha : a = 34
    · rw [if_pos ha, if_pos ha]; rfl
    · rw [if_neg ha, if_neg ha]; rfl
  | a :: b :: r => rw [uqL, if_neg h1, if_neg h2]
theorem uq_end {t : List UInt8} : uqL (34 :: t) = some ([], t) := by
  match t with
  | [] => rfl
  | [a] => rfl
  | a :: b :: r => rw [uqL, if_pos rfl]
theorem plain92 : plainB 92 = false := by decide
theorem plain34 : plainB 34 = false := by decide
theorem quo_plain {c : UInt8} (h : plainB c = true) : quoB c = [c] ∧ c ≠ 34 ∧ c ≠ 92 := by
  refine ⟨if_pos h, fun e => ?_, fun e => ?_⟩
  · rw [e, plain34] at h; cases h
  · rw [e, plain92] at h; cases h
theorem hex_back {n : Nat} (h : n < 16) : hexN (hexD n) = n := by
  have : ∀ m : Fin 16, hexN (hexD m.val) = m.val := by decide +kernel
  exact this ⟨n, h⟩
theorem hexD_hexN (a : UInt8) (h : hexN a < 16) : hexD (hexN a) = a := by
  have := u8_all (p := fun a => decide (hexN a < 16 → hexD (hexN a) = a)) (by decide +kernel) a
  exact of_decide_eq_true this h
theorem pair_byte {a b : UInt8} (ha : hexN a < 16) (hb : hexN b < 16) : (UInt8.ofNat (16 * hexN a + hexN b)).toNat = 16 * hexN a + hexN b := by
  simp; omega
theorem quo_pair {a b : UInt8} (ha : hexN a < 16) (hb : hexN b < 16) (hp : plainB (UInt8.ofNat (16 * hexN a + hexN b)) = false) : quoB (UInt8.ofNat (16 * hexN a + hexN b)) = [92, a, b] := by
  unfold quoB
  rw [hp, if_neg (by simp), pair_byte ha hb]
  rw [show (16 * hexN a + hexN b) / 16 = hexN a by omega, show (16 * hexN a + hexN b) % 16 = hexN b by omega, hexD_hexN a ha, hexD_hexN b hb]
theorem byteX_pair : ∀ (m n : Fin 16), UInt8.ofNat ((IntKind.u8.wrap (bitF .or .i64 (IntKind.i64.wrap ((m.val : Int) * 16)) n.val)).toNat) = UInt8.ofNat (16 * m.val + n.val) := by decide +kernel
theorem byteX_is {a b : UInt8} (ha : hexN a < 16) (hb : hexN b < 16) : byteX a b = UInt8.ofNat (16 * hexN a + hexN b) := by
  unfold byteX hexX
  rw [if_pos ha, if_pos hb]
  exact byteX_pair ⟨_, ha⟩ ⟨_, hb⟩
theorem qt_uq : ∀ (n : Nat) (t : List UInt8), t.length ≤ n → ∀ x r, qtL t = some (x, r) → uqL t = some (x, r) ∧ t = x.flatMap quoB ++ 34 :: r
  | _, [], _, x, r, h => by cases h
  | 0, c :: t, hn, _, _, _ => by simp at hn
  | n + 1, c :: t, hn, x, r, h => by
    simp only [List.length_cons] at hn
    by_cases h1 : c = 34
    · subst h1
      rw [qt_end] at h
      cases h
      exact ⟨uq_end, rfl⟩
    · by_cases h2 : c = 92
      · subst h2
        match t, h with
        | [], h => cases h
        | [a], h =>
          unfold qtL at h
          rw [if_neg (by decide), if_neg (by rw [plain92]; simp)] at h
          cases h
        | a :: b :: u, h =>
          rw [qtL, if_neg (by decide), if_pos rfl] at h
          split at h
          · rename_i hp
            obtain ⟨ha, hb, hq⟩ := hp
            rw [Option.map_eq_some_iff] at h
            obtain ⟨⟨y, z⟩, hy, he⟩ := h
            cases he
            obtain ⟨g1, g2⟩ := qt_uq n u (by simp at hn; omega) y z hy
            refine ⟨?_, ?_⟩
            · rw [uqL, if_neg (by decide), if_pos rfl, g1, byteX_is ha hb]; rfl
            · rw [List.flatMap_cons, quo_pair ha hb hq, List.append_assoc, ← g2]; rfl
          · cases h
      · rw [qt_cons h1 h2] at h
        split at h
        · rename_i hp
          rw [Option.map_eq_some_iff] at h
          obtain ⟨⟨y, z⟩, hy, he⟩ := h
          cases he
          obtain ⟨g1, g2⟩ := qt_uq n t (by omega) y z hy
          refine ⟨?_, ?_⟩
          · rw [uq_cons h1 h2, g1]; rfl
          · rw [List.flatMap_cons, (quo_plain hp).1, List.append_assoc, ← g2]; rfl
        · cases h
theorem qt_quote : ∀ (x r : List UInt8), qtL (x.flatMap quoB ++ 34 :: r) = some (x, r)
  | [], r => qt_end
  | c :: x, r => by
    rw [List.flatMap_cons, List.append_assoc]
    by_cases hp : plainB c = true
    · obtain ⟨h1, h2, h3⟩ := quo_plain hp
      rw [h1]
      show qtL (c :: (x.flatMap quoB ++ 34 :: r)) = _
      rw [qt_cons h2 h3, if_pos hp, qt_quote x r]; rfl
    · have hq : plainB c = false := by simpa using hp
      have e : quoB c = [92, hexD (c.toNat / 16), hexD (c.toNat % 16)] := if_neg hp
      have hc := c.toNat_lt
      have e1 := hex_back (n := c.toNat / 16) (by omega)
      have e2 := hex_back (n := c.toNat % 16) (by omega)
      have e3 : UInt8.ofNat (16 * (c.toNat / 16) + c.toNat % 16) = c := by rw [Nat.div_add_mod]; simp
      rw [e]
      show qtL (92 :: hexD (c.toNat / 16) :: hexD (c.toNat % 16) :: (x.flatMap quoB ++ 34 :: r)) = _
      rw [qtL, if_neg (by decide), if_pos rfl, e1, e2, e3, if_pos ⟨by omega, by omega, hq⟩, qt_quote x r]; rfl
def inq (f : List UInt8 → Option (List UInt8 × List UInt8)) : List UInt8 → Option (List UInt8 × List UInt8)
  | [] => none
  | c :: r => if c = 34 then f r else none
theorem inq_quote (x r : List UInt8) : inq qtL (quoteM x ++ r) = some (x, r) := by
  unfold quoteM inq
  rw [List.cons_append]
  simp only [if_true]
  rw [List.append_assoc]
  exact qt_quote x r
theorem inq_uq {t x r : List UInt8} (h : inq qtL t = some (x, r)) : inq uqL t = some (x, r) ∧ t = quoteM x ++ r := by
  cases t with
  | nil => cases h
  | cons c t =>
    unfold inq at h ⊢
    simp only at h ⊢
    split at h
    · rename_i hc
      subst hc
      obtain ⟨h1, h2⟩ := qt_uq _ t (Nat.le_refl _) x r h
      rw [if_pos rfl]
      refine ⟨h1, ?_⟩
      unfold quoteM
      rw [List.cons_append, List.append_assoc, h2]; rfl
    · cases h
def cutB (b : UInt8) : List UInt8 → List UInt8 × Option (List UInt8)
  | [] => ([], none)
  | c :: r => if c = b then ([], some r) else (c :: (cutB b r).1, (cutB b r).2)
theorem cutB_not {b : UInt8} : ∀ {x : List UInt8}, b ∉ x → ∀ r, cutB b (x ++ r) = (x ++ (cutB b r).1, (cutB b r).2)
  | [], _, r => rfl
  | c :: x, h, r => by
    rw [List.cons_append, cutB, if_neg (fun e => h (by rw [e]; exact List.mem_cons_self)), cutB_not (fun hh => h (List.mem_cons_of_mem _ hh)) r]
    rfl
theorem cutB_at {b : UInt8} {x r : List UInt8} (h : b ∉ x) : cutB b (x ++ b :: r) = (x, some r) := by
  rw [cutB_not h]
  unfold cutB
  simp
theorem cutB_is {b : UInt8} : ∀ (t : List UInt8), b ∉ (cutB b t).1 ∧ t = (cutB b t).1 ++ (match (cutB b t).2 with | some r => b :: r | none => [])
  | [] => ⟨by simp [cutB], rfl⟩
  | c :: r => by
    obtain ⟨h1, h2⟩ := cutB_is (b := b) r
    unfold cutB
    split
    · rename_i hc; subst hc; exact ⟨by simp, rfl⟩
    · rename_i hc
      refine ⟨fun hh => ?_, ?_⟩
      · rcases List.mem_cons.1 hh with e | e
        · exact hc e.symm
        · exact h1 e
      · simp only [List.cons_append]; rw [← h2]
def atsS : Nat → List UInt8 → Option (List HAttr)
  | 0, _ => none
  | f + 1, t => match t with
    | [] => some []
    | _ :: u => match cutB 61 u with
      | (_, none) => none
      | (nm, some v) => match inq qtL v with
        | none => none
        | some (x, r) => if r = [] then some [⟨nm, x⟩] else if r.head? = some 32 ∧ r.length ≠ 1 then (atsS f r).map (⟨nm, x⟩ :: ·) else none
def atsP : Nat → List UInt8 → List HAttr
  | 0, _ => []
  | f + 1, u => match inq uqL ((cutB 61 u).2.getD []) with
      | none => []
      | some (x, r) => ⟨(cutB 61 u).1, x⟩ :: match (cutB 32 r).2 with
        | none => []
        | some u' => atsP f u'
def atsO (f : Nat) : Option (List UInt8) → List HAttr
  | none => []
  | some u => atsP f u
def nodeS (t : List UInt8) : Option HNode :=
  if t = [] then none
  else if t.head? = some 33 then match inq qtL (t.drop 1) with
    | some (x, []) => some ⟨5, x, [], [], 0, []⟩
    | _ => none
  else if t.head? = some 34 then match inq qtL t with
    | some (x, []) => some ⟨3, [], [], x, 0, []⟩
    | _ => none
  else if t.head? = some 45 then match inq qtL (t.drop 1) with
    | some (x, []) => some ⟨4, [], [], x, 0, []⟩
    | _ => none
  else (atsS (t.length + 1) (t.drop (cutB 32 t).1.length)).map fun l => ⟨2, (cutB 32 t).1, l, [], 0, []⟩
def fstQ (q : Option (List UInt8 × List UInt8)) : List UInt8 := match q with
  | some (x, _) => x
  | none => []
def nodeU (t : List UInt8) : HNode :=
  if t.head? = some 33 then ⟨5, fstQ (inq uqL (t.drop 1)), [], [], 0, []⟩
  else if t.head? = some 34 then ⟨3, [], [], fstQ (inq uqL t), 0, []⟩
  else if t.head? = some 45 then ⟨4, [], [], fstQ (inq uqL (t.drop 1)), 0, []⟩
  else ⟨2, (cutB 32 t).1, atsO (t.length + 1) (cutB 32 t).2, [], 0, []⟩
end Go.Proofs.K
end
section
set_option linter.unusedSimpArgs false
set_option linter.unusedVariables false
namespace Go.Proofs.K
open Go Go.Sim Go.Proofs
theorem attrL_eq (a : HAttr) (r : List UInt8) : attrL a ++ r = 32 :: (a.name ++ 61 :: (quoteM a.value ++ r)) := by
  unfold attrL; simp
theorem ats_in : ∀ (f : Nat) (t : List UInt8) (l : List HAttr), (t = [] ∨ t.head? = some 32) → atsS f t = some l → t = l.flatMap attrL ∧ ∀ u, t = 32 :: u → atsP f u = l
  | 0, _, _, _, h => by cases h
  | f + 1, [], l, _, h => by
    unfold atsS at h; cases h
    exact ⟨rfl, fun u hu => by cases hu⟩
  | f + 1, c :: u, l, hc, h => by
    have hc : c = 32 := by
      rcases hc with hc | hc
      · cases hc
      · simpa using hc
    subst hc
    unfold atsS at h
    simp only at h
    split at h
    · cases h
    · rename_i nm v hcut
      split at h
      · cases h
      · rename_i x r hin
        obtain ⟨h1, h2⟩ := inq_uq hin
        have hu := (cutB_is (b := 61) u).2
        rw [hcut] at hu
        simp only at hu
        have hP : atsP (f + 1) u = ⟨nm, x⟩ :: (match (cutB 32 r).2 with | none => [] | some u' => atsP f u') := by
          rw [atsP, hcut]
          simp only [Option.getD_some]
          rw [h1]
          first | done | rfl
        split at h
        · rename_i hr
          subst hr
          cases h
          refine ⟨?_, fun u' hu' => ?_⟩
          · rw [List.flatMap_cons, List.flatMap_nil, attrL_eq, ← h2, ← hu]
          · cases hu'; rw [hP]; rfl
        · rename_i hr
          split at h
          · rename_i hh
            obtain ⟨hh1, hh2⟩ := hh
            rw [Option.map_eq_some_iff] at h
            obtain ⟨l', hl', rfl⟩ := h
            obtain ⟨g1, g2⟩ := ats_in f r l' (.inr hh1) hl'
            refine ⟨?_, fun u' hu' => ?_⟩
            · rw [List.flatMap_cons, attrL_eq, ← g1, ← h2, ← hu]
            · cases hu'
              rw [hP]
              cases r with
              | nil => exact absurd rfl hr
              | cons b r' =>
                simp only [List.head?_cons, Option.some.injEq] at hh1
                subst hh1
                have : cutB 32 ((32 : UInt8) :: r') = ([], some r') := by unfold cutB; rw [if_pos rfl]
                rw [this]
                simp only
                rw [g2 r' rfl]
          · cases h
theorem nodeS_in {t : List UInt8} {x : HNode} (h : nodeS t = some x) : nodeU t = x ∧ lineM x = t ∧ x.parent = 0 ∧ x.kids = [] := by
  unfold nodeS at h
  unfold nodeU
  split at h
  · cases h
  rename_i h0
  split at h
  · rename_i h33
    rw [if_pos h33]
    cases t with
    | nil => exact absurd rfl h0
    | cons c t =>
      simp only [List.head?_cons, Option.some.injEq] at h33
      subst h33
      rw [List.drop_succ_cons, List.drop_zero] at h ⊢
      split at h
      · rename_i y hy
        cases h
        obtain ⟨h1, h2⟩ := inq_uq hy
        rw [h1]
        refine ⟨rfl, ?_, rfl, rfl⟩
        rw [List.append_nil] at h2
        rw [h2]; rfl
      · cases h
  · rename_i h33
    rw [if_neg h33]
    split at h
    · rename_i h34
      rw [if_pos h34]
      split at h
      · rename_i y hy
        cases h
        obtain ⟨h1, h2⟩ := inq_uq hy
        rw [h1]
        refine ⟨rfl, ?_, rfl, rfl⟩
        rw [List.append_nil] at h2
        rw [h2]; rfl
      · cases h
    · rename_i h34
      rw [if_neg h34]
      split at h
      · rename_i h45
        rw [if_pos h45]
        cases t with
        | nil => exact absurd rfl h0
        | cons c t =>
          simp only [List.head?_cons, Option.some.injEq] at h45
          subst h45
          rw [List.drop_succ_cons, List.drop_zero] at h ⊢
          split at h
          · rename_i y hy
            cases h
            obtain ⟨h1, h2⟩ := inq_uq hy
            rw [h1]
            refine ⟨rfl, ?_, rfl, rfl⟩
            rw [List.append_nil] at h2
            rw [h2]; rfl
          · cases h
      · rename_i h45
        rw [if_neg h45]
        rw [Option.map_eq_some_iff] at h
        obtain ⟨l, hl, rfl⟩ := h
        have hc := (cutB_is (b := 32) t).2
        have hd := (congrArg (List.drop (cutB 32 t).1.length) hc).trans List.drop_left
        rw [hd] at hl
        cases hr : (cutB 32 t).2 with
        | none =>
          rw [hr] at hl hc
          simp only at hl hc
          have : l = [] := by unfold atsS at hl; cases hl; rfl
          subst this
          refine ⟨rfl, ?_, rfl, rfl⟩
          rw [List.append_nil] at hc
          conv => rhs; rw [hc]
          unfold lineM
          rw [if_neg (show ¬ (2 : Int) = 5 by decide), if_neg (show ¬ (2 : Int) = 3 by decide), if_neg (show ¬ (2 : Int) = 4 by decide)]; simp
        | some r =>
          rw [hr] at hl hc
          simp only at hl hc
          obtain ⟨g1, g2⟩ := ats_in _ _ l (.inr rfl) hl
          refine ⟨by rw [← g2 r rfl]; rfl, ?_, rfl, rfl⟩
          conv => rhs; rw [hc, g1]
          unfold lineM
          rw [if_neg (show ¬ (2 : Int) = 5 by decide), if_neg (show ¬ (2 : Int) = 3 by decide), if_neg (show ¬ (2 : Int) = 4 by decide)]
theorem flatA_ge : ∀ l : List HAttr, l.length ≤ (l.flatMap attrL).length
  | [] => Nat.zero_le _
  | a :: l => by
    have := flatA_ge l
    rw [List.flatMap_cons, attrL_eq]
    simp only [List.length_cons, List.length_append]
    omega
theorem sign_no {l : List UInt8} (h : l.all signB = true) {b : UInt8} (hb : signB b = false) : b ∉ l := fun hm => by
  have := List.all_eq_true.1 h b hm
  rw [hb] at this; cases this
theorem name_no {el : Bool} {s : List UInt8} (h : nameOK el s = true) : 32 ∉ s ∧ 61 ∉ s ∧ 10 ∉ s ∧ s ≠ [] := by
  unfold nameOK at h
  simp only [Bool.and_eq_true, decide_eq_true_eq] at h
  obtain ⟨h1, h2, h3, h4⟩ := h
  exact ⟨sign_no h4 (by decide), sign_no h4 (by decide), sign_no h4 (by decide), fun e => by rw [e] at h1; simp at h1⟩
theorem ats_out : ∀ (l : List HAttr) (f : Nat), l.length < f → (∀ a ∈ l, nameOK false a.name = true) → atsS f (l.flatMap attrL) = some l
  | [], f + 1, _, _ => by unfold atsS; rfl
  | a :: l, f + 1, hf, hn => by
    simp only [List.length_cons] at hf
    obtain ⟨h1, h2, _, _⟩ := name_no (hn a List.mem_cons_self)
    have ih := ats_out l f (by omega) fun b hb => hn b (List.mem_cons_of_mem _ hb)
    rw [List.flatMap_cons, attrL_eq]
    unfold atsS
    simp only
    rw [cutB_at h2]
    simp only
    rw [inq_quote]
    simp only
    cases l with
    | nil => rw [List.flatMap_nil, if_pos rfl]
    | cons b l =>
      have e : (b :: l).flatMap attrL = 32 :: (b.name ++ 61 :: (quoteM b.value ++ l.flatMap attrL)) := by rw [List.flatMap_cons, attrL_eq]
      rw [if_neg (by rw [e]; simp), if_pos (by rw [e]; refine ⟨rfl, ?_⟩; simp), ih]; rfl
theorem nodeS_out {t : List UInt8} (Z : NodeSz (nodeU t)) (h : lineM (nodeU t) = t) : nodeS t = some (nodeU t) := by
  unfold nodeS
  unfold nodeU at h Z ⊢
  split at h
  · rename_i h33
    rw [if_pos h33] at Z ⊢
    rw [if_neg (fun e => by rw [e] at h33; cases h33), if_pos h33]
    cases t with
    | nil => cases h33
    | cons c t =>
      rw [List.drop_succ_cons, List.drop_zero] at h ⊢
      have h : (33 : UInt8) :: quoteM (fstQ (inq uqL t)) = c :: t := h
      have e : t = quoteM (fstQ (inq uqL t)) ++ [] := by rw [List.append_nil]; exact (List.cons.inj h).2.symm
      have e2 : inq qtL t = some (fstQ (inq uqL t), []) := by
        conv => lhs; rw [e]
        exact inq_quote _ _
      rw [e2]
  · rename_i h33
    rw [if_neg h33] at Z ⊢
    split at h
    · rename_i h34
      rw [if_pos h34] at Z ⊢
      rw [if_neg (fun e => by rw [e] at h34; cases h34), if_neg h33, if_pos h34]
      have h : quoteM (fstQ (inq uqL t)) = t := h
      have e2 : inq qtL t = some (fstQ (inq uqL t), []) := by
        have := inq_quote (fstQ (inq uqL t)) []
        rw [List.append_nil, h] at this
        exact this
      rw [e2]
    · rename_i h34
      rw [if_neg h34] at Z ⊢
      split at h
      · rename_i h45
        rw [if_pos h45] at Z ⊢
        rw [if_neg (fun e => by rw [e] at h45; cases h45), if_neg h33, if_neg h34, if_pos h45]
        cases t with
        | nil => cases h45
        | cons c t =>
          rw [List.drop_succ_cons, List.drop_zero] at h ⊢
          have h : (45 : UInt8) :: quoteM (fstQ (inq uqL t)) = c :: t := h
          have e : t = quoteM (fstQ (inq uqL t)) ++ [] := by rw [List.append_nil]; exact (List.cons.inj h).2.symm
          have e2 : inq qtL t = some (fstQ (inq uqL t), []) := by
            conv => lhs; rw [e]
            exact inq_quote _ _
          rw [e2]
      · rename_i h45
        rw [if_neg h45] at Z ⊢
        have hn := Z.elem rfl
        have hne := (name_no hn).2.2.2
        rw [if_neg (fun e => by subst e; exact hne rfl), if_neg h33, if_neg h34, if_neg h45]
        obtain ⟨l, hl⟩ : ∃ l, atsO (t.length + 1) (cutB 32 t).2 = l := ⟨_, rfl⟩
        rw [hl] at h Z ⊢
        have h : (cutB 32 t).1 ++ l.flatMap attrL = t := by
          unfold lineM at h
          rw [if_neg (show ¬ (2 : Int) = 5 by decide), if_neg (show ¬ (2 : Int) = 3 by decide), if_neg (show ¬ (2 : Int) = 4 by decide)] at h
          exact h
        have hd : t.drop (cutB 32 t).1.length = l.flatMap attrL := by
          conv => lhs; rw [← h]
          rw [List.drop_left' (by rw [h])]
        have hlen : l.length < t.length + 1 := by
          have h1 := flatA_ge l
          have h2 := congrArg List.length h
          rw [List.length_append] at h2
          omega
        rw [hd, ats_out l _ hlen fun a ha => (Z.each a ha).2.2]; rfl
theorem quo_no10 (s : List UInt8) : 10 ∉ quoteM s := by
  unfold quoteM
  intro h
  rcases List.mem_cons.1 h with h | h
  · exact absurd h (by decide)
  · rcases List.mem_append.1 h with h | h
    · obtain ⟨b, _, hb⟩ := List.mem_flatMap.1 h
      have := u8_all (p := fun b => decide ((10 : UInt8) ∉ quoB b)) (by decide +kernel) b
      exact of_decide_eq_true this hb
    · simp at h
theorem line_no10 {x : HNode} (Z : NodeSz x) : 10 ∉ lineM x := by
  unfold lineM
  have hq := quo_no10
  repeat' split
  · intro h
    rcases List.mem_cons.1 h with h | h
    · exact absurd h (by decide)
    · exact hq _ h
  · exact hq _
  · intro h
    rcases List.mem_cons.1 h with h | h
    · exact absurd h (by decide)
    · exact hq _ h
  · rename_i h5 h3 h4
    have hk := Z.kind
    intro h
    rcases List.mem_append.1 h with h | h
    · by_cases h2 : x.kind = 2
      · exact (name_no (Z.elem h2)).2.2.1 h
      · have hb := hk.2.2
        have e : x.name = [] := by
          unfold bareM at hb
          simp only [Bool.and_eq_true, Bool.or_eq_true, decide_eq_true_eq] at hb
          rcases hb.1.1.1 with (h | h) | h
          · exact absurd h h2
          · exact absurd h h5
          · exact h
        rw [e] at h; cases h
    · obtain ⟨a, ha, hh⟩ := List.mem_flatMap.1 h
      have hn := name_no (Z.each a ha).2.2
      rw [show attrL a = attrL a ++ [] by simp, attrL_eq, List.append_nil] at hh
      rcases List.mem_cons.1 hh with h | h
      · exact absurd h (by decide)
      · rcases List.mem_append.1 h with h | h
        · exact hn.2.2.1 h
        · rcases List.mem_cons.1 h with h | h
          · exact absurd h (by decide)
          · exact hq _ h
end Go.Proofs.K
end
section
set_option linter.unusedSimpArgs false
set_option linter.unusedVariables false
namespace Go.Proofs.K
open Go Go.Sim Go.Proofs
def addKid (d : HDoc) (p : Int) (x : HNode) : HDoc :=
  ⟨d.nodes.set p.toNat { nd d p with kids := (nd d p).kids ++ [(d.nodes.length : Int)] } ++ [{ x with parent := p }], d.quirks⟩
theorem addKid_len (d : HDoc) (p : Int) (x : HNode) : (addKid d p x).nodes.length = d.nodes.length + 1 := by simp [addKid]
def same5 (x y : HNode) : Prop := x.kind = y.kind ∧ x.name = y.name ∧ x.attrs = y.attrs ∧ x.text = y.text ∧ x.parent = y.parent
theorem same5_refl (x : HNode) : same5 x x := ⟨rfl, rfl, rfl, rfl, rfl⟩
theorem same5.trans {x y z : HNode} (h : same5 x y) (k : same5 y z) : same5 x z := ⟨h.1.trans k.1, h.2.1.trans k.2.1, h.2.2.1.trans k.2.2.1, h.2.2.2.1.trans k.2.2.2.1, h.2.2.2.2.trans k.2.2.2.2⟩
theorem nth_app_lo {α : Type} [Inhabited α] {l m : List α} {i : Nat} (h : i < l.length) : nth (l ++ m) i = nth l i := by
  unfold nth; rw [List.getD_eq_getElem?_getD, List.getD_eq_getElem?_getD, List.getElem?_append_left h]
theorem nth_app_at {α : Type} [Inhabited α] {l : List α} {x : α} : nth (l ++ [x]) l.length = x := by
  unfold nth; rw [List.getD_eq_getElem?_getD]; simp
theorem addKid_new (d : HDoc) (p : Int) (x : HNode) : nth (addKid d p x).nodes d.nodes.length = { x with parent := p } := by
  unfold addKid
  have := nth_app_at (l := d.nodes.set p.toNat { nd d p with kids := (nd d p).kids ++ [(d.nodes.length : Int)] }) (x := { x with parent := p })
  rw [List.length_set] at this
  exact this
theorem addKid_old {d : HDoc} {p : Int} (x : HNode) (hp : p.toNat < d.nodes.length) {m : Nat} (hm : m < d.nodes.length) :
    nth (addKid d p x).nodes m = if m = p.toNat then { nd d p with kids := (nd d p).kids ++ [(d.nodes.length : Int)] } else nth d.nodes m := by
  unfold addKid
  rw [nth_app_lo (by rw [List.length_set]; exact hm), nth_set _ _ _ _ hp]
theorem addKid_same {d : HDoc} {p : Int} (x : HNode) (hp : p.toNat < d.nodes.length) {m : Nat} (hm : m < d.nodes.length) : same5 (nth (addKid d p x).nodes m) (nth d.nodes m) := by
  rw [addKid_old x hp hm]
  split
  · rename_i e; subst e; exact same5_refl _
  · exact same5_refl _
def Sk (d : HDoc) : Prop := ∀ m, m < d.nodes.length → (nth d.nodes m).kids.Pairwise (· < ·) ∧ ∀ k ∈ (nth d.nodes m).kids, k < d.nodes.length
theorem addKid_sk {d : HDoc} {p : Int} {x : HNode} (hp : p.toNat < d.nodes.length) (hx : x.kids = []) (S : Sk d) : Sk (addKid d p x) := fun m hm => by
  rw [addKid_len] at hm ⊢
  by_cases hl : m < d.nodes.length
  · obtain ⟨h1, h2⟩ := S m hl
    rw [addKid_old x hp hl]
    split
    · rename_i e
      subst e
      refine ⟨List.pairwise_append.2 ⟨h1, List.pairwise_singleton _ _, fun a ha b hb => ?_⟩, fun k hk => ?_⟩
      · rw [List.mem_singleton] at hb; subst hb; exact h2 a ha
      · rcases List.mem_append.1 hk with hk | hk
        · have := h2 k hk; omega
        · rw [List.mem_singleton] at hk; omega
    · exact ⟨h1, fun k hk => by have := h2 k hk; omega⟩
  · obtain rfl : m = d.nodes.length := by omega
    rw [addKid_new]
    show x.kids.Pairwise _ ∧ ∀ k ∈ x.kids, _
    rw [hx]
    exact ⟨List.Pairwise.nil, fun k hk => by cases hk⟩
def innerOf (one : List UInt8) : List UInt8 := one.dropWhile (· == 32)
def deepOf (one : List UInt8) : Nat := one.length - (innerOf one).length
theorem one_eq (one : List UInt8) : one = List.replicate (deepOf one) 32 ++ innerOf one := by
  unfold deepOf innerOf
  induction one with
  | nil => rfl
  | cons c r ih =>
    by_cases h : c = 32
    · subst h
      have hle : (List.dropWhile (· == 32) r).length ≤ r.length := (List.dropWhile_sublist _).length_le
      rw [List.dropWhile_cons_of_pos (by simp), List.length_cons, show r.length + 1 - (List.dropWhile (· == 32) r).length = (r.length - (List.dropWhile (· == 32) r).length) + 1 by omega, List.replicate_succ, List.cons_append, ← ih]
    · rw [List.dropWhile_cons_of_neg (by simpa using h)]; simp
def backF : Nat → HDoc → List Int → List UInt8 → Option HDoc
  | 0, d, _, _ => some d
  | f + 1, d, path, rest =>
    if rest = [] ∨ 200 < d.nodes.length then some d
    else if path.length ≤ deepOf (cutB 10 rest).1 then none
    else backF f (addKid d (nth path (deepOf (cutB 10 rest).1)) (nodeU (innerOf (cutB 10 rest).1))) (path.take (deepOf (cutB 10 rest).1 + 1) ++ [(d.nodes.length : Int)]) ((cutB 10 rest).2.getD [])
def strF : Nat → HDoc → List Int → List UInt8 → Option HDoc
  | 0, d, _, _ => some d
  | f + 1, d, path, rest =>
    if rest = [] then some d
    else if (cutB 10 rest).2 = none ∨ nodeS (innerOf (cutB 10 rest).1) = none ∨ path.length ≤ deepOf (cutB 10 rest).1 ∨ 200 < d.nodes.length then none
    else strF f (addKid d (nth path (deepOf (cutB 10 rest).1)) ((nodeS (innerOf (cutB 10 rest).1)).getD default)) (path.take (deepOf (cutB 10 rest).1 + 1) ++ [(d.nodes.length : Int)]) ((cutB 10 rest).2.getD [])
theorem str_back : ∀ (f : Nat) (d : HDoc) (path : List Int) (rest : List UInt8) {D : HDoc}, strF f d path rest = some D → backF f d path rest = some D
  | 0, _, _, _, _, h => h
  | f + 1, d, path, rest, D, h => by
    unfold strF at h
    unfold backF
    split at h
    · rename_i h0; rw [if_pos (.inl h0)]; exact h
    · rename_i h0
      split at h
      · cases h
      · rename_i h1
        rw [if_neg (fun hh => hh.elim h0 fun h2 => h1 (.inr (.inr (.inr h2)))), if_neg (fun hh => h1 (.inr (.inr (.inl hh))))]
        cases hx : nodeS (innerOf (cutB 10 rest).1) with
        | none => exact absurd (.inr (.inl hx)) h1
        | some x =>
          rw [hx, Option.getD_some] at h
          rw [(nodeS_in hx).1]
          exact str_back f _ _ _ h
theorem nodeU_kids (t : List UInt8) : (nodeU t).kids = [] := by
  unfold nodeU
  repeat' split
  all_goals rfl
theorem cut_len10 {rest : List UInt8} (h : rest ≠ []) : ((cutB 10 rest).2.getD []).length < rest.length := by
  have h2 := congrArg List.length (cutB_is (b := 10) rest).2
  have hp := List.length_pos_iff.2 h
  cases hc : (cutB 10 rest).2 with
  | none => simpa using hp
  | some r =>
    rw [hc, List.length_append] at h2
    simp only [List.length_cons] at h2
    simp only [Option.getD_some]; omega
def PathIn (path : List Int) (n : Nat) : Prop := ∀ p ∈ path, 0 ≤ p ∧ p < n
theorem path_next {path : List Int} {n k : Nat} (h : PathIn path n) : PathIn (path.take (k + 1) ++ [(n : Int)]) (n + 1) := fun p hp => by
  rcases List.mem_append.1 hp with hp | hp
  · have := h p (List.mem_of_mem_take hp); omega
  · rw [List.mem_singleton] at hp; omega
theorem back_ext : ∀ (f : Nat) (d : HDoc) (path : List Int) (rest : List UInt8) {D : HDoc}, backF f d path rest = some D → PathIn path d.nodes.length →
    d.nodes.length ≤ D.nodes.length ∧ (∀ m, m < d.nodes.length → same5 (nth D.nodes m) (nth d.nodes m)) ∧ (Sk d → Sk D) ∧ D.quirks = d.quirks
  | 0, d, _, _, D, h, _ => by
    unfold backF at h; cases h
    exact ⟨Nat.le_refl _, fun m _ => same5_refl _, id, rfl⟩
  | f + 1, d, path, rest, D, h, hP => by
    unfold backF at h
    split at h
    · cases h
      exact ⟨Nat.le_refl _, fun m _ => same5_refl _, id, rfl⟩
    · split at h
      · cases h
      · rename_i hd
        have hp := hP _ (nth_mem' (l := path) (k := deepOf (cutB 10 rest).1) (by omega))
        obtain ⟨h1, h2, h3, h4⟩ := back_ext f _ _ _ h (by rw [addKid_len]; exact path_next hP)
        rw [addKid_len] at h1 h2
        refine ⟨by omega, fun m hm => (h2 m (by omega)).trans (addKid_same _ (by omega) hm), fun S => h3 (addKid_sk (by omega) (nodeU_kids _) S), h4⟩
structure Rt (D : HDoc) (n : Nat) (path : List Int) : Prop where
  pos : 1 ≤ n
  len : 0 < path.length
  upp : ∀ j, j < path.length → up D (nth path j) = j
  inn : PathIn path n
  chn : ∀ j, j < path.length → nth path j ∈ chain D (n - 1 : Nat)
  two : ∀ i j, i ≤ j → j < path.length → nth path i ∈ chain D (nth path j)
def PreAt (D : HDoc) (m : Nat) : Prop := 0 ≤ (nth D.nodes m).parent ∧ (nth D.nodes m).parent < m ∧ (nth D.nodes m).parent ∈ chain D (m - 1 : Nat)
theorem Rt.next {D : HDoc} (V : DV D) {n : Nat} {path : List Int} (R : Rt D n path) (hn : n < D.nodes.length) {k : Nat} (hk : k < path.length) (hp : (nth D.nodes n).parent = nth path k) :
    Rt D (n + 1) (path.take (k + 1) ++ [(n : Int)]) ∧ up D n = k + 1 ∧ PreAt D n := by
  have hi : inD D (n : Int) := inD_nat.2 hn
  have hin := R.inn _ (nth_mem' hk)
  have e : nd D (n : Int) = nth D.nodes n := nd_nat D n
  have hpar : 0 ≤ (nd D (n : Int)).parent := by rw [e, hp]; exact hin.1
  have hup := V.up_par hi hpar
  rw [e, hp, R.upp k hk] at hup
  have hch := chain_up V hi hpar
  rw [e, hp] at hch
  have hl : (path.take (k + 1)).length = k + 1 := by rw [List.length_take]; omega
  have lo : ∀ j, j ≤ k → nth (path.take (k + 1) ++ [(n : Int)]) j = nth path j := fun j hj => by
    rw [nth_app_lo (by omega)]
    unfold nth; rw [List.getD_eq_getElem?_getD, List.getD_eq_getElem?_getD, List.getElem?_take, if_pos (by omega)]
  have hi2 : nth (path.take (k + 1) ++ [(n : Int)]) (k + 1) = n := by
    have := nth_app_at (l := path.take (k + 1)) (x := (n : Int))
    rw [hl] at this; exact this
  have hlen : (path.take (k + 1) ++ [(n : Int)]).length = k + 2 := by rw [List.length_append, hl]; rfl
  refine ⟨⟨by omega, by omega, fun j hj => ?_, path_next R.inn, fun j hj => ?_, fun i j hij hj => ?_⟩, hup, ?_⟩
  · rw [hlen] at hj
    by_cases h : j ≤ k
    · rw [lo j h]; exact R.upp j (by omega)
    · obtain rfl : j = k + 1 := by omega
      rw [hi2]; exact hup
  · rw [hlen] at hj
    show _ ∈ chain D ((n + 1 - 1 : Nat) : Int)
    rw [Nat.add_sub_cancel, hch]
    by_cases h : j ≤ k
    · rw [lo j h]; exact List.mem_cons_of_mem _ (R.two j k h hk)
    · obtain rfl : j = k + 1 := by omega
      rw [hi2]; exact List.mem_cons_self
  · rw [hlen] at hj
    by_cases h : j ≤ k
    · rw [lo j h, lo i (by omega)]; exact R.two i j hij (by omega)
    · obtain rfl : j = k + 1 := by omega
      rw [hi2]
      by_cases h' : i ≤ k
      · rw [lo i h', hch]; exact List.mem_cons_of_mem _ (R.two i k h' hk)
      · obtain rfl : i = k + 1 := by omega
        rw [hi2]; exact chain_self _ _
  · unfold PreAt
    rw [hp]
    exact ⟨hin.1, hin.2, R.chn k hk⟩
def ints (a b : Nat) : List Int := (List.range (b - a)).map fun i => ((a + i : Nat) : Int)
theorem ints_nil {a b : Nat} (h : b ≤ a) : ints a b = [] := by unfold ints; rw [show b - a = 0 by omega]; rfl
theorem ints_cons {a b : Nat} (h : a < b) : ints a b = (a : Int) :: ints (a + 1) b := by
  unfold ints
  obtain ⟨k, hk⟩ : ∃ k, b - a = k + 1 := ⟨b - a - 1, by omega⟩
  rw [hk, show b - (a + 1) = k by omega, List.range_succ_eq_map, List.map_cons, List.map_map]
  congr 1
  exact List.map_congr_left fun i _ => by show ((a + (i + 1) : Nat) : Int) = ((a + 1 + i : Nat) : Int); congr 1; omega
def rowU (D : HDoc) (m : Int) : List UInt8 := rowL D (up D m - 1) m
theorem line_same {x y : HNode} (h : same5 x y) : lineM x = lineM y := by
  unfold lineM; rw [h.1, h.2.1, h.2.2.1, h.2.2.2.1]
theorem step_at {f : Nat} {d D : HDoc} (V : DV D) {path : List Int} {k : Nat} {x : HNode} {rest' : List UInt8} (R : Rt D d.nodes.length path) (hk : k < path.length)
    (h : backF f (addKid d (nth path k) x) (path.take (k + 1) ++ [(d.nodes.length : Int)]) rest' = some D) :
    Rt D (d.nodes.length + 1) (path.take (k + 1) ++ [(d.nodes.length : Int)]) ∧ up D d.nodes.length = k + 1 ∧ PreAt D d.nodes.length ∧ d.nodes.length < D.nodes.length ∧ same5 (nth D.nodes d.nodes.length) { x with parent := nth path k } := by
  obtain ⟨h1, h2, _, _⟩ := back_ext f _ _ _ h (by rw [addKid_len]; exact path_next R.inn)
  rw [addKid_len] at h1 h2
  have hs := h2 d.nodes.length (by omega)
  rw [addKid_new] at hs
  obtain ⟨g1, g2, g3⟩ := R.next V (by omega) hk hs.2.2.2.2
  exact ⟨g1, g2, g3, by omega, hs⟩
theorem back_pre {D : HDoc} (V : DV D) : ∀ (f : Nat) (d : HDoc) (path : List Int) (rest : List UInt8), backF f d path rest = some D → Rt D d.nodes.length path → ∀ m, d.nodes.length ≤ m → m < D.nodes.length → PreAt D m
  | 0, d, _, _, h, _, m, h1, h2 => by unfold backF at h; cases h; omega
  | f + 1, d, path, rest, h, R, m, h1, h2 => by
    unfold backF at h
    split at h
    · cases h; omega
    · split at h
      · cases h
      · rename_i hd
        obtain ⟨g1, g2, g3, g4, _⟩ := step_at V R (by omega) h
        by_cases e : m = d.nodes.length
        · rw [e]; exact g3
        · exact back_pre V f _ _ _ h (by rw [addKid_len]; exact g1) m (by rw [addKid_len]; omega) h2
theorem str_rows {D : HDoc} (V : DV D) : ∀ (f : Nat) (d : HDoc) (path : List Int) (rest : List UInt8), strF f d path rest = some D → rest.length < f → Rt D d.nodes.length path → rest = (ints d.nodes.length D.nodes.length).flatMap (rowU D)
  | 0, d, _, _, h, hf, _ => by omega
  | f + 1, d, path, rest, h, hf, R => by
    unfold strF at h
    split at h
    · rename_i h0
      cases h
      rw [h0, ints_nil (Nat.le_refl _)]; rfl
    · rename_i h0
      split at h
      · cases h
      · rename_i h1
        cases hx : nodeS (innerOf (cutB 10 rest).1) with
        | none => exact absurd (.inr (.inl hx)) h1
        | some x =>
          cases hr : (cutB 10 rest).2 with
          | none => exact absurd (.inl hr) h1
          | some r =>
            rw [hx, hr, Option.getD_some, Option.getD_some] at h
            have hk : deepOf (cutB 10 rest).1 < path.length := Nat.lt_of_not_le fun hh => h1 (.inr (.inr (.inl hh)))
            obtain ⟨g1, g2, g3, g4, g5⟩ := step_at V R hk (str_back f _ _ _ h)
            have hl := cut_len10 h0
            rw [hr, Option.getD_some] at hl
            have ih := str_rows V f _ _ _ h (by omega) (by rw [addKid_len]; exact g1)
            rw [addKid_len] at ih
            obtain ⟨_, hli, _, _⟩ := nodeS_in hx
            have e1 : lineM (nd D d.nodes.length) = innerOf (cutB 10 rest).1 := by rw [nd_nat, line_same g5, ← hli]; rfl
            rw [ints_cons g4, List.flatMap_cons, ← ih]
            show _ = List.replicate (up D d.nodes.length - 1) 32 ++ lineM (nd D d.nodes.length) ++ [10] ++ r
            rw [g2, e1, Nat.add_sub_cancel, ← one_eq]
            have := (cutB_is (b := 10) rest).2
            rw [hr] at this
            simp only at this
            rw [List.append_assoc]
            exact this
theorem sz_kids {x y : HNode} (Z : NodeSz x) (h : same5 x y) (hk : y.kids = []) : NodeSz y := by
  obtain ⟨h1, h2, h3, h4, _⟩ := h
  refine ⟨h2 ▸ Z.name, h3 ▸ Z.attrs, h3 ▸ Z.each, h4 ▸ Z.text, fun e => h2 ▸ Z.elem (h1.trans e), ?_⟩
  have hz := Z.kind
  refine ⟨h1 ▸ hz.1, h1 ▸ hz.2.1, ?_⟩
  have hb := hz.2.2
  unfold bareM at hb ⊢
  rw [← h1, ← h2, ← h3, ← h4, hk]
  simp only [Bool.and_eq_true, Bool.or_eq_true, decide_eq_true_eq] at hb ⊢
  exact ⟨hb.1, .inr trivial⟩
theorem back_str {D : HDoc} (V : DV D) : ∀ (f : Nat) (d : HDoc) (path : List Int) (rest : List UInt8), backF f d path rest = some D → rest.length < f → Rt D d.nodes.length path → rest = (ints d.nodes.length D.nodes.length).flatMap (rowU D) → strF f d path rest = some D
  | 0, d, _, _, h, hf, _, _ => by omega
  | f + 1, d, path, rest, h, hf, R, hw => by
    have hle := V.len
    unfold backF at h
    unfold strF
    split at h
    · rename_i h0
      cases h
      by_cases hr : rest = []
      · rw [if_pos hr]
      · exact absurd (h0.resolve_left hr) (by omega)
    · rename_i h0
      have h0' : rest ≠ [] := fun e => h0 (.inl e)
      have h200 : ¬ 200 < d.nodes.length := fun e => h0 (.inr e)
      rw [if_neg h0']
      split at h
      · cases h
      · rename_i hd
        have hk : deepOf (cutB 10 rest).1 < path.length := by omega
        obtain ⟨g1, g2, g3, g4, g5⟩ := step_at V R hk h
        have hin : inD D (d.nodes.length : Int) := inD_nat.2 g4
        have Z := nodeE_sz (V.node _ hin)
        have hrow : rest = (List.replicate (up D d.nodes.length - 1) 32 ++ lineM (nd D d.nodes.length)) ++ 10 :: (ints (d.nodes.length + 1) D.nodes.length).flatMap (rowU D) := by
          rw [ints_cons g4, List.flatMap_cons] at hw
          conv => lhs; rw [hw]
          unfold rowU rowL
          simp
        have hno : 10 ∉ List.replicate (up D d.nodes.length - 1) (32 : UInt8) ++ lineM (nd D d.nodes.length) := fun hm => by
          rcases List.mem_append.1 hm with hm | hm
          · exact absurd (List.eq_of_mem_replicate hm) (by decide)
          · exact line_no10 Z hm
        have hcut : cutB 10 rest = (List.replicate (up D d.nodes.length - 1) 32 ++ lineM (nd D d.nodes.length), some ((ints (d.nodes.length + 1) D.nodes.length).flatMap (rowU D))) := by
          conv => lhs; rw [hrow]
          exact cutB_at hno
        have hone := one_eq (cutB 10 rest).1
        have hone2 : (cutB 10 rest).1 = List.replicate (deepOf (cutB 10 rest).1) 32 ++ lineM (nd D d.nodes.length) := by
          conv => lhs; rw [hcut, g2]
          rfl
        have hinn : innerOf (cutB 10 rest).1 = lineM (nd D d.nodes.length) := List.append_cancel_left (hone.symm.trans hone2)
        have e1 : lineM (nodeU (innerOf (cutB 10 rest).1)) = innerOf (cutB 10 rest).1 := by
          conv => rhs; rw [hinn, nd_nat, line_same g5]
          rfl
        have Z' : NodeSz (nodeU (innerOf (cutB 10 rest).1)) := by
          rw [nd_nat] at Z
          have Z2 := sz_kids Z g5 (nodeU_kids _)
          exact ⟨Z2.name, Z2.attrs, Z2.each, Z2.text, Z2.elem, Z2.kind⟩
        have hS := nodeS_out Z' e1
        rw [if_neg (fun hh => by
          rcases hh with hh | hh | hh | hh
          · rw [hcut] at hh; cases hh
          · rw [hS] at hh; cases hh
          · exact hd hh
          · exact h200 hh), hS, Option.getD_some]
        refine back_str V f _ _ _ h (by have := cut_len10 h0'; omega) (by rw [addKid_len]; exact g1) ?_
        rw [addKid_len, hcut]; rfl
end Go.Proofs.K
end
section
set_option linter.unusedSimpArgs false
set_option linter.unusedVariables false
namespace Go.Proofs.K
open Go Go.Sim Go.Proofs
section
variable {D : HDoc}
theorem pre_at (hp : ∀ m, 1 ≤ m → m < D.nodes.length → PreAt D m) {m : Int} (h1 : 1 ≤ m) (hm : inD D m) : 0 ≤ (nd D m).parent ∧ (nd D m).parent < m ∧ (nd D m).parent ∈ chain D (m - 1) := by
  have h := hp m.toNat (by have := hm.1; omega) hm.nat.1
  unfold PreAt at h
  have e : ((m.toNat : Nat) : Int) = m := hm.nat.2
  have e2 : ((m.toNat - 1 : Nat) : Int) = m - 1 := by omega
  rw [e, e2] at h
  exact h
theorem chain_ge (V : DV D) (hp : ∀ m, 1 ≤ m → m < D.nodes.length → PreAt D m) : ∀ m, inD D m → ∀ a ∈ chain D m, a ≤ m := V.rise fun m hm ih a ha => by
  by_cases h0 : 0 ≤ (nd D m).parent
  · rw [chain_up V hm h0] at ha
    rcases List.mem_cons.1 ha with rfl | ha
    · exact Int.le_refl _
    · have h1 := ih h0 a ha
      have hm1 : 1 ≤ m := by
        apply Classical.byContradiction; intro hc
        have : m = 0 := by have := hm.1; omega
        rw [this, V.root] at h0; omega
      have := (pre_at hp hm1 hm).2.1
      omega
  · rw [chain_top V h0, List.mem_singleton] at ha
    omega
theorem kid_ahead (V : DV D) (hp : ∀ m, 1 ≤ m → m < D.nodes.length → PreAt D m) {n k1 k2 : Int} (hn : inD D n) (h1 : k1 ∈ (nd D n).kids) (h2 : k2 ∈ (nd D n).kids) (hlt : k1 < k2) :
    ∀ (j : Nat) (m : Int), m = j → inD D m → k1 ∈ chain D m → m < k2 := by
  intro j
  induction j using Nat.strongRecOn with
  | ind j ih =>
    intro m hmj hm hk
    apply Classical.byContradiction; intro hge
    have hk1 := V.kid n hn k1 h1
    have hk2 := V.kid n hn k2 h2
    have u1 := V.up_kid hn h1
    have u2 := V.up_kid hn h2
    have hne : m ≠ k2 := fun e => by
      subst e
      have := chain_one V m hm k1 hk m (chain_self _ _) (by omega)
      omega
    have hm1 : 1 ≤ m := by have := hk1.1.1; omega
    obtain ⟨p0, p1, p2⟩ := pre_at hp hm1 hm
    have hk' : k1 ∈ chain D (nd D m).parent := by
      rw [chain_up V hm p0] at hk
      rcases List.mem_cons.1 hk with e | hk
      · omega
      · exact hk
    have hin : inD D (m - 1) := by have := hm.2; unfold inD; omega
    have hk3 := chain_trans V (m - 1) hin _ p2 _ hk'
    have := ih (m - 1).toNat (by omega) (m - 1) (by omega) hin hk3
    omega
theorem flat_pw {α β : Type} {R : β → β → Prop} {f : α → List β} : ∀ {l : List α} {S : α → α → Prop}, l.Pairwise S → (∀ a ∈ l, (f a).Pairwise R) → (∀ a ∈ l, ∀ b ∈ l, S a b → ∀ x ∈ f a, ∀ y ∈ f b, R x y) → (l.flatMap f).Pairwise R
  | [], S, _, _, _ => List.Pairwise.nil
  | a :: l, S, h, h1, h2 => by
    rw [List.pairwise_cons] at h
    rw [List.flatMap_cons]
    refine List.pairwise_append.2 ⟨h1 a List.mem_cons_self, flat_pw h.2 (fun b hb => h1 b (List.mem_cons_of_mem _ hb)) (fun b hb c hc => h2 b (List.mem_cons_of_mem _ hb) c (List.mem_cons_of_mem _ hc)), fun x hx y hy => ?_⟩
    obtain ⟨b, hb, hy⟩ := List.mem_flatMap.1 hy
    exact h2 a List.mem_cons_self b (List.mem_cons_of_mem _ hb) (h.1 b hb) x hx y hy
theorem below_pw (V : DV D) (S : Sk D) (hp : ∀ m, 1 ≤ m → m < D.nodes.length → PreAt D m) : ∀ n, inD D n → (below D n).Pairwise (· < ·) := V.down fun n hn ih => by
  rw [below_eq V hn, List.pairwise_cons]
  have e : nd D n = nth D.nodes n.toNat := rfl
  constructor
  · intro a ha
    obtain ⟨k, hk, ha⟩ := List.mem_flatMap.1 ha
    have hki := (V.kid n hn k hk).1
    have hai := below_in V k hki a ha
    have h1 := chain_ge V hp a hai k ((mem_below V hai hki).1 ha)
    have h2 : n < k := by
      have hk1 : 1 ≤ k := by
        apply Classical.byContradiction; intro hc
        have : k = 0 := by have := hki.1; omega
        have hp := (V.kid n hn k hk).2
        rw [this, V.root] at hp
        have := hn.1; omega
      have := (pre_at hp hk1 hki).2.1
      rw [(V.kid n hn k hk).2] at this
      exact this
    omega
  · refine flat_pw (S := (· < ·)) (by rw [e]; exact (S _ hn.nat.1).1) (fun k hk => ih k hk) fun a ha b hb hab x hx y hy => ?_
    have hai := (V.kid n hn a ha).1
    have hbi := (V.kid n hn b hb).1
    have hxi := below_in V a hai x hx
    have hyi := below_in V b hbi y hy
    have h1 := kid_ahead V hp hn ha hb hab x.toNat x hxi.nat.2.symm hxi ((mem_below V hxi hai).1 hx)
    have h2 := chain_ge V hp y hyi b ((mem_below V hyi hbi).1 hy)
    omega
theorem root_all (V : DV D) (hp : ∀ m, 1 ≤ m → m < D.nodes.length → PreAt D m) : ∀ m, inD D m → 0 ∈ chain D m := V.rise fun m hm ih => by
  by_cases h0 : 0 ≤ (nd D m).parent
  · rw [chain_up V hm h0]; exact List.mem_cons_of_mem _ (ih h0)
  · have : m = 0 := by
      apply Classical.byContradiction; intro hc
      have := (pre_at hp (by have := hm.1; omega) hm).1
      exact h0 this
    rw [this]; exact chain_self _ _
theorem sorted_eq : ∀ {l m : List Int}, l.Pairwise (· < ·) → m.Pairwise (· < ·) → (∀ x, x ∈ l ↔ x ∈ m) → l = m
  | [], [], _, _, _ => rfl
  | [], b :: m, _, _, h => absurd ((h b).2 List.mem_cons_self) (by simp)
  | a :: l, [], _, _, h => absurd ((h a).1 List.mem_cons_self) (by simp)
  | a :: l, b :: m, h1, h2, h => by
    rw [List.pairwise_cons] at h1 h2
    have hab : a = b := by
      rcases List.mem_cons.1 ((h a).1 List.mem_cons_self) with e | ha
      · exact e
      · rcases List.mem_cons.1 ((h b).2 List.mem_cons_self) with e | hb
        · exact e.symm
        · have := h1.1 b hb
          have := h2.1 a ha
          omega
    subst hab
    refine congrArg (a :: ·) (sorted_eq h1.2 h2.2 fun x => ⟨fun hx => ?_, fun hx => ?_⟩)
    · rcases List.mem_cons.1 ((h x).1 (List.mem_cons_of_mem _ hx)) with e | hx'
      · have := h1.1 x hx; omega
      · exact hx'
    · rcases List.mem_cons.1 ((h x).2 (List.mem_cons_of_mem _ hx)) with e | hx'
      · have := h2.1 x hx; omega
      · exact hx'
theorem ints_mem {a b : Nat} {x : Int} : x ∈ ints a b ↔ a ≤ x ∧ x < b := by
  unfold ints
  rw [List.mem_map]
  constructor
  · rintro ⟨i, hi, rfl⟩
    rw [List.mem_range] at hi; omega
  · intro h
    exact ⟨(x - a).toNat, List.mem_range.2 (by omega), by omega⟩
theorem ints_pw (a b : Nat) : (ints a b).Pairwise (· < ·) := by
  unfold ints
  rw [List.pairwise_map]
  exact List.pairwise_lt_range.imp fun h => by omega
theorem below_all (V : DV D) (S : Sk D) (hp : ∀ m, 1 ≤ m → m < D.nodes.length → PreAt D m) : below D 0 = ints 0 D.nodes.length :=
  sorted_eq (below_pw V S hp 0 V.zero) (ints_pw _ _) fun x => by
    rw [ints_mem]
    constructor
    · intro h; have := below_in V 0 V.zero x h; unfold inD at this; omega
    · intro h
      have hx : inD D x := by unfold inD; omega
      exact (mem_below V hx V.zero).2 (root_all V hp x hx)
theorem tree_rows (V : DV D) (S : Sk D) (hp : ∀ m, 1 ≤ m → m < D.nodes.length → PreAt D m) : linesM D 0 0 = (ints 1 D.nodes.length).flatMap (rowU D) := by
  have hu : up D 0 = 0 := V.up_top (by rw [V.root]; omega)
  rw [lines_below V 0 V.zero 0 hu.symm, below_all V S hp, ints_cons V.pos, List.drop_succ_cons, List.drop_zero]
  rfl
end
def rootD (q : Bool) : HDoc := ⟨[⟨1, [], [], [], -1, []⟩], q⟩
def quirkS (s : List UInt8) : Bool := hasPre s [126, 10]
def restS (s : List UInt8) : List UInt8 := if quirkS s = true then s.drop 2 else s
theorem rest_eq (s : List UInt8) : s = (if quirkS s = true then [126, 10] else []) ++ restS s := by
  unfold restS
  split
  · rename_i h
    unfold quirkS hasPre at h
    rw [Bool.and_eq_true, beq_iff_eq] at h
    conv => lhs; rw [← List.take_append_drop 2 s]
    rw [show s.take 2 = [126, 10] from h.2]
  · rfl
def backV (s : List UInt8) : Option HDoc := match backF (s.length + 1) (rootD (quirkS s)) [0] (restS s) with
  | none => none
  | some D => if docE D = 0 ∧ treeM D = s then some D else none
def strV (s : List UInt8) : Option HDoc := match strF (s.length + 1) (rootD (quirkS s)) [0] (restS s) with
  | none => none
  | some D => if docE D = 0 then some D else none
theorem rest_len (s : List UInt8) : (restS s).length ≤ s.length := by
  unfold restS; split
  · rw [List.length_drop]; omega
  · exact Nat.le_refl _
theorem root_path : PathIn [0] 1 := fun p hp => by rw [List.mem_singleton] at hp; omega
theorem root_sk (q : Bool) : Sk (rootD q) := fun m hm => by
  have : m = 0 := by simp [rootD] at hm; exact hm
  subst this
  exact ⟨List.Pairwise.nil, fun k hk => by cases hk⟩
theorem root_rt {D : HDoc} (V : DV D) : Rt D 1 [0] := by
  have hu : up D 0 = 0 := V.up_top (by rw [V.root]; omega)
  refine ⟨Nat.le_refl _, by decide, fun j hj => ?_, root_path, fun j hj => ?_, fun i j hij hj => ?_⟩
  · have : j = 0 := by simpa using hj
    subst this; exact hu
  · have : j = 0 := by simpa using hj
    subst this; exact chain_self _ _
  · have : j = 0 := by simpa using hj
    subst this
    have : i = 0 := by omega
    subst this; exact chain_self _ _
theorem back_law (s : List UInt8) : backV s = strV s := by
  have key : ∀ D, backF (s.length + 1) (rootD (quirkS s)) [0] (restS s) = some D → docE D = 0 → (treeM D = s ↔ restS s = (ints 1 D.nodes.length).flatMap (rowU D)) := fun D hb hd => by
    have V := (docE_iff D).1 hd
    obtain ⟨_, _, h3, h4⟩ := back_ext _ _ _ _ hb root_path
    have hp := back_pre V _ _ _ _ hb (root_rt V)
    have ht := tree_rows V (h3 (root_sk _)) hp
    have e := rest_eq s
    unfold treeM
    rw [ht, h4]
    constructor
    · intro h
      rw [e] at h
      exact (List.append_cancel_left (h.trans (by rw [← e]; exact e))).symm
    · intro h
      rw [← h]; exact e.symm
  have hf := rest_len s
  unfold backV strV
  cases hs : strF (s.length + 1) (rootD (quirkS s)) [0] (restS s) with
  | some D =>
    have hb := str_back _ _ _ _ hs
    rw [hb]
    simp only
    by_cases hd : docE D = 0
    · have V := (docE_iff D).1 hd
      have := str_rows V _ _ _ _ hs (by omega) (root_rt V)
      rw [if_pos hd, if_pos ⟨hd, (key D hb hd).2 this⟩]
    · rw [if_neg hd, if_neg fun h => hd h.1]
  | none =>
    cases hb : backF (s.length + 1) (rootD (quirkS s)) [0] (restS s) with
    | none => rfl
    | some D =>
      simp only
      rw [if_neg]
      rintro ⟨hd, ht⟩
      have V := (docE_iff D).1 hd
      have := back_str V _ _ _ _ hb (by omega) (root_rt V) ((key D hb hd).1 ht)
      rw [hs] at this; cases this
end Go.Proofs.K
end
section
set_option linter.unusedSimpArgs false
set_option linter.unusedVariables false
namespace Go.Proofs.K
open Go Go.Sim Go.Proofs Go.Shelf Go.RowKit
variable {G : Glob}
abbrev Tw : Nat := 92
theorem lies_w : liesAt Tryd.prog Tryd.prog.depth Tw (4 / Tryd.prog.cellsOf Tw) 0 (bren.t 72) 1 = true := by kernel_rfl
set_option maxHeartbeats 1000000 in
set_option maxRecDepth 100000 in
theorem cc_fresh (b : Nat) (w : World) (h0 : w.cell? ⟨b, 0, none⟩ = some (.pointer none)) (hsh : w.shape? b = some (Tw, 4)) (hfz : w.frozen? ⟨b, 0, none⟩ = false) :
    Calls Tryd.prog 65 #[.pointer (some ⟨b, 0, none⟩)] w fun e w' => e = .returned (.tuple #[]) ∧ w' = w.setCell ⟨b, 0, none⟩ (.pointer (some ⟨b, 0, none⟩)) := by
  have L := lays240
  obtain ⟨j, hj, hjs⟩ := Option.map_eq_some_iff.1 x72.sizeBuilder
  have mixed := L.mixed
  have t72 := L.t72; have a72 := L.a72; have z72 := L.z72; have v72 := L.v72; have u72 := run_underlying L.t72
  have t70 := L.t70; have a70 := L.a70; have z70 := L.z70; have v70 := L.v70; have u70 := run_underlying L.t70
  have t9 := L.t9; have a9 := L.a9; have z9 := L.z9; have v9 := L.v9; have u9 := run_underlying L.t9
  have t4 := L.t4; have a4 := L.a4; have z4 := L.z4; have v4 := L.v4; have u4 := run_underlying L.t4
  have t164 := L.t164; have a164 := L.a164; have z164 := L.z164; have v164 := L.v164; have u164 := run_underlying L.t164
  show Calls Tryd.prog (bren.f 240) _ _ _
  go_enter L.f240, Body.n240_ntmps bren
  go_wp2
  rw [Lib.run_to_unsafe w ⟨b, 0, none⟩ L.t70 L.t164 hj (by rw [hjs]; decide) hsh (Nat.zero_lt_succ 3)]
  simp only [Result.andThen]
  rw [Oper.upon_value]
  go_wp2
  rw [run_callFunc_extern L.f276 (by kernel_rfl) (by kernel_rfl) (by kernel_rfl) (e := Extern.AbiNoEscape.same) (by kernel_rfl)]
  rw [Lib.run_noEscape]
  simp only [Result.andThen]
  rw [Oper.upon_value]
  go_wp2
  rw [Lib.run_from_unsafe w ⟨b, 0, none⟩ L.t164 L.t70 hj hsh lies_w]
  simp only [Result.andThen]
  rw [Oper.upon_value]
  go_wp2
  go_end0
  exact ⟨rfl, rfl⟩
theorem copyCheckE_ok (rb : Nat) (h : Heap) (p buf x y : AVal) (hp : BP rb p) (hr : h rb = some ⟨Tw, 4, [[p, buf, x, y]]⟩) {K : AVal → Heap → Prop} (hk : K (.tup []) (upd h rb (some ⟨Tw, 4, [[.vp rb 0, buf, x, y]]⟩))) :
    DCalls (Pg G) 65 [.vp rb 0] h K := by
  refine ⟨⟨_, Tryd.func65, by kernel_rfl, by kernel_rfl⟩, fun g w vs H GR V => ?_⟩
  obtain ⟨v, rfl, hv⟩ := V.one_inv
  obtain ⟨hlt, ⟨hb, hc⟩, rfl⟩ := hv.vp_inv
  have O := H.obj rb _ hr
  rcases O.block with h0 | ⟨hl, hf, cur, hcur, hsz, hcell⟩
  · omega
  have hcs : cur.size = 4 := by have h1 : g.bo rb + g.cap rb * 4 = cur.size := hsz; omega
  obtain ⟨u, hu, ho, hvu⟩ := hcell 0 0 _ p rfl rfl
  have rest : ∀ (j : Nat) (z : AVal), 1 ≤ j → [p, buf, x, y][j]? = some z → ∃ u, cur[j]? = some u ∧ u.oneCell' = true ∧ VRel g w u z := fun j z hj hz => by
    obtain ⟨u, hu, ho, hv⟩ := hcell 0 j _ z rfl hz
    exact ⟨u, by simpa [hb] using hu, ho, hv⟩
  simp only [hb] at hu
  have hw0 : w.cell? ⟨g.eta rb, 0, none⟩ = some u := by
    rw [cell_of_row w _ _ cur _ _ hcur]; exact hu
  rcases hp with rfl | rfl
  · rw [prim_inv hvu] at hw0
    refine (cc_fresh (g.eta rb) w hw0 ?_ ?_).mono ?_
    · simp only [World.shape?, hcur]; show some (Tw, cur.size) = some (Tw, 4); rw [hcs]
    · simp [World.frozen?, hcur]
    · rintro e w' ⟨rfl, rfl⟩
      rw [setCell_eq_setRow w _ _ cur _ _ _ hcur]
      obtain ⟨S, H'⟩ := root_write H hr hcur (by omega) (cur.setIfInBounds 0 (.pointer (some ⟨g.eta rb, 0, none⟩))) (by simp) (es' := [[.vp rb 0, buf, x, y]]) (by simp) (by simp; omega) (fun i j e z he hx => by
        cases i with
        | succ i => simp at he
        | zero =>
          simp at he; subst he
          cases j with
          | zero => simp at hx; subst hx; exact ⟨_, by simp [hb, hcs], rfl, .vp rb 0 hlt hb hc⟩
          | succ j =>
            obtain ⟨u2, q1, q2, q3⟩ := rest (j + 1) z (by omega) (by simpa using hx)
            exact ⟨u2, by simpa [hb] using q1, q2, q3⟩)
      exact ⟨_, _, _, g, rfl, hk, H', .tup #[] [] rfl (fun j u a hu => by simp at hu), S⟩
  · obtain ⟨_, _, hu'⟩ := hvu.vp_inv
    rw [hu'] at hw0
    refine (Any.Builder_copyCheck_used lays240 x72 (g.eta rb) w hw0).mono ?_
    rintro e w' ⟨rfl, rfl⟩
    have : upd h rb (some ⟨Tw, 4, [[.vp rb 0, buf, x, y]]⟩) = h := upd_id hr
    rw [this] at hk
    exact ⟨_, _, h, g, rfl, hk, H, .tup #[] [] rfl (fun j u a hu => by simp at hu), GS.refl g _⟩
def BlE (x y : AVal) (h0 : Heap) (rb : Nat) (s : List UInt8) (h : Heap) : Prop := h0 rb = none ∧ ∃ p buf, BP rb p ∧ (buf ≠ .emp → s ≠ []) ∧ Acc (upd h0 rb (some ⟨Tw, 4, [[p, buf, x, y]]⟩)) Tu 1 (strEs s) buf h ∧ Sub (upd h0 rb (some ⟨Tw, 4, [[p, buf, x, y]]⟩)) h
section
variable {x y : AVal}
theorem BlE.new (h : Heap) (rb : Nat) (h0 : h rb = none) : BlE x y h rb [] (upd h rb (some ⟨Tw, 4, [[.prim (.pointer none), .emp, x, y]]⟩)) :=
  ⟨h0, _, _, .inl rfl, fun h => absurd rfl h, Acc.nil, Sub.refl _⟩
theorem BlE.sub {h0 h : Heap} {rb : Nat} {s : List UInt8} (B : BlE x y h0 rb s h) : Sub h0 h := by
  obtain ⟨h1, p, buf, _, _, _, S⟩ := B
  exact sub_off h1 S
theorem BlE.at {h0 h : Heap} {rb : Nat} {s : List UInt8} (B : BlE x y h0 rb s h) : ∃ p buf, h rb = some ⟨Tw, 4, [[p, buf, x, y]]⟩ := by
  obtain ⟨h1, p, buf, _, _, _, S⟩ := B
  exact ⟨p, buf, sub_is S⟩
theorem BlE.more {h0 h : Heap} {rb : Nat} {s : List UInt8} (B : BlE x y h0 rb s h) {r : Nat} (hr : h r = none) (o : AObj) : BlE x y (upd h0 r (some o)) rb s (upd h r (some o)) := by
  obtain ⟨h1, p, buf, hp, hb, A, S⟩ := B
  have hrb : r ≠ rb := fun e => by rw [e, sub_is S] at hr; cases hr
  have hc : ∀ z : AObj, upd (upd h0 r (some o)) rb (some z) = upd (upd h0 rb (some z)) r (some o) := fun z => by
    funext t; unfold Sim.upd; by_cases e1 : t = rb <;> by_cases e2 : t = r <;> simp_all
  refine ⟨by rw [upd_ne _ _ (Ne.symm hrb)]; exact h1, p, buf, hp, hb, ?_, ?_⟩
  · rw [hc]
    rcases A with q | ⟨t, q1, q2, q3⟩
    · exact .inl q
    · have hne : t ≠ r := fun e => by rw [e, hr] at q2; cases q2
      exact .inr ⟨t, by rw [upd_ne _ _ hne]; exact q1, by rw [upd_ne _ _ hne]; exact q2, q3⟩
  · rw [hc]
    intro t z ht
    by_cases e : t = r
    · subst e; rw [upd_same] at ht ⊢; exact ht
    · rw [upd_ne _ _ e] at ht ⊢; exact S t z ht
theorem BlE.less {h0 h : Heap} {rb : Nat} {s : List UInt8} {r : Nat} {o : AObj} (B : BlE x y (upd h0 r (some o)) rb s h) (hr : h0 r = none) : BlE x y h0 rb s h := by
  obtain ⟨h1, p, buf, hp, hb, A, S⟩ := B
  have hrb : rb ≠ r := fun e => by rw [e, upd_same] at h1; cases h1
  rw [upd_ne _ _ hrb] at h1
  have lo : ∀ z t, upd (upd h0 r (some o)) rb (some z) t = none → upd h0 rb (some z) t = none := fun z t ht => by
    unfold Sim.upd at ht ⊢
    split at ht
    · cases ht
    · split at ht
      · cases ht
      · rename_i q1 q2; rw [if_neg q1]; exact ht
  refine ⟨h1, p, buf, hp, hb, ?_, fun t z ht => S t z ?_⟩
  · rcases A with q | ⟨t, q1, q2, q3⟩
    · exact .inl q
    · exact .inr ⟨t, lo _ _ q1, q2, q3⟩
  · unfold Sim.upd at ht ⊢
    split at ht
    · rename_i q; rw [if_pos q]; exact ht
    · rename_i q
      rw [if_neg q, if_neg (fun e => by subst e; rw [hr] at ht; cases ht)]; exact ht
theorem BlE.has {h0 h : Heap} {rb : Nat} {s : List UInt8} {r : Nat} {o : AObj} (B : BlE x y (upd h0 r (some o)) rb s h) : h r = some o := B.sub r o (upd_same _ _ _)
theorem BlE.free {h0 h : Heap} {rb : Nat} {s : List UInt8} (B : BlE x y h0 rb s h) {r : Nat} (hr : h r = none) : h0 r = none := B.sub.none hr
theorem writeStringE_ok {h0 h : Heap} {rb : Nat} {s : List UInt8} (t : List UInt8) (B : BlE x y h0 rb s h) (hne : s ++ t ≠ []) (hs : s.length + t.length ≤ 140737488355328) :
    DCalls (Pg G) 41 [.vp rb 0, .str t] h fun a h' => a = .tup [aInt t.length, .prim .nilIface] ∧ BlE x y h0 rb (s ++ t) h' := by
  obtain ⟨hn, p, buf, hp, hnb, A, S⟩ := B
  refine dcalls_of_vc Tryd.func41 hn41 hc41 (by rw [Tryd.ntmps41]; simp) (by rw [Tryd.ntmps41]; decide) ?_
  simp -dsimp -implicitDefEqProofs (disch := omega) only [VCA, pg_gl, ↓upd_none, Nat.reduceEqDiff, Nat.reduceBEq, Nat.reduceAdd, Nat.reduceSub, Nat.reduceMul, Nat.reduceLT, Nat.reduceLeDiff, ↓reduceIte, reduceCtorEq, rsOf, rootsOf, SOp.rd, SI.rd, SX.rd, rdL, rdO, rdP, okParts, eqCells, okEqCells, fillA, okFill, setAt, implies_true, forall_const, forall_eq, ne_eq, exists_eq_right_right, exists_eq_right, exists_eq_left, exists_eq_left', rootL, c41]
  refine copyCheckE_ok rb h p buf x y hp (sub_is S) ?_
  simp -dsimp -implicitDefEqProofs (disch := omega) only [VCA, pg_gl, ↓upd_none, Nat.reduceEqDiff, Nat.reduceBEq, Nat.reduceAdd, Nat.reduceSub, Nat.reduceMul, Nat.reduceLT, Nat.reduceLeDiff, ↓reduceIte, reduceCtorEq, rsOf, rootsOf, SOp.rd, SI.rd, SX.rd, rdL, rdO, rdP, okParts, eqCells, okEqCells, fillA, okFill, setAt, implies_true, forall_const, forall_eq, ne_eq, exists_eq_right_right, exists_eq_right, exists_eq_left, exists_eq_left', rootL]
  refine (acc_at A).app (sub_at S) (by simp [strEs]; omega) (by simp [strEs]; omega) fun a' h3 A' S' => ?_
  obtain ⟨hv, hc⟩ : isV a' = true ∧ cellsOf a' = [a'] := by
    rcases A' with ⟨_, rfl⟩ | ⟨r, _, _, rfl⟩ <;> exact ⟨rfl, rfl⟩
  simp -dsimp -implicitDefEqProofs (disch := omega) only [VCA, pg_gl, ↓upd_none, Nat.reduceEqDiff, Nat.reduceBEq, Nat.reduceAdd, Nat.reduceSub, Nat.reduceMul, Nat.reduceLT, Nat.reduceLeDiff, ↓reduceIte, reduceCtorEq, rsOf, rootsOf, SOp.rd, SI.rd, SX.rd, rdL, rdO, rdP, okParts, eqCells, okEqCells, fillA, okFill, setAt, implies_true, forall_const, forall_eq, ne_eq, exists_eq_right_right, exists_eq_right, exists_eq_left, exists_eq_left', rootL, sub_is S', hv, hc]
  exact ⟨_, Sub.refl _, hn, _, _, .inr rfl, fun _ => hne, by simpa [strEs] using acc_at A', sub_at S'⟩
theorem stringE_ok {h0 h : Heap} {rb : Nat} {s : List UInt8} (B : BlE x y h0 rb s h) (hs : s.length < 140737488355328) :
    DCalls (Pg G) 43 [.vp rb 0] h fun a h' => a = .str s ∧ Sub h0 h' := by
  obtain ⟨hn, p, buf, hp, hne, A, S⟩ := B
  refine dcalls_of_vc Tryd.func43 hn43 hc43 (by rw [Tryd.ntmps43]; simp) (by rw [Tryd.ntmps43]; decide) ?_
  rcases A with ⟨he, rfl⟩ | ⟨r, h1, h2, rfl⟩
  · have hs0 : s = [] := by simpa [strEs] using he
    subst hs0
    simp -dsimp -implicitDefEqProofs (disch := omega) only [VCA, pg_gl, ↓upd_none, Nat.reduceEqDiff, Nat.reduceBEq, Nat.reduceAdd, Nat.reduceSub, Nat.reduceMul, Nat.reduceLT, Nat.reduceLeDiff, ↓reduceIte, reduceCtorEq, rsOf, rootsOf, SOp.rd, SI.rd, SX.rd, rdL, rdO, rdP, okParts, eqCells, okEqCells, fillA, okFill, setAt, implies_true, forall_const, forall_eq, ne_eq, exists_eq_right_right, exists_eq_right, exists_eq_left, exists_eq_left', rootL, c43, sub_is S]
    exact ⟨_, Sub.refl _, sub_off hn S⟩
  · have hs1 : s ≠ [] := hne (by intro h; cases h)
    have hs2 : 0 < s.length := List.length_pos_iff.2 hs1
    have h1' : h0 r = none ∧ r ≠ rb := by
      have hne : r ≠ rb := by rintro rfl; simp at h1
      exact ⟨by simpa [Sim.upd, hne] using h1, hne⟩
    simp -dsimp -implicitDefEqProofs (disch := omega) only [VCA, pg_gl, ↓upd_none, Nat.reduceEqDiff, Nat.reduceBEq, Nat.reduceAdd, Nat.reduceSub, Nat.reduceMul, Nat.reduceLT, Nat.reduceLeDiff, ↓reduceIte, reduceCtorEq, rsOf, rootsOf, SOp.rd, SI.rd, SX.rd, rdL, rdO, rdP, okParts, eqCells, okEqCells, fillA, okFill, setAt, implies_true, forall_const, forall_eq, ne_eq, exists_eq_right_right, exists_eq_right, exists_eq_left, exists_eq_left', rootL, c43, sub_is S]
    have hl : (strEs s).length = s.length := by simp [strEs]
    refine ⟨by omega, s, _, h2, rfl, rfl, by simp [strEs], List.take_of_length_le (by simp [strEs]), by simp [strEs], hs1, by omega, ?_⟩
    simp -dsimp -implicitDefEqProofs (disch := omega) only [VCA, pg_gl, ↓upd_none, Nat.reduceEqDiff, Nat.reduceBEq, Nat.reduceAdd, Nat.reduceSub, Nat.reduceMul, Nat.reduceLT, Nat.reduceLeDiff, ↓reduceIte, reduceCtorEq, rsOf, rootsOf, SOp.rd, SI.rd, SX.rd, rdL, rdO, rdP, okParts, eqCells, okEqCells, fillA, okFill, setAt, implies_true, forall_const, forall_eq, ne_eq, exists_eq_right_right, exists_eq_right, exists_eq_left, exists_eq_left', rootL, sub_is S]
    first
      | exact ⟨_, Sub.refl _, Sub.del (sub_off hn S) h1'.1⟩
      | (refine ⟨?_, _, Sub.refl _, Sub.del (sub_off hn S) h1'.1⟩; rw [← sub_is S]; simp [Sim.del, Ne.symm h1'.2])
end
end Go.Proofs.K
end
