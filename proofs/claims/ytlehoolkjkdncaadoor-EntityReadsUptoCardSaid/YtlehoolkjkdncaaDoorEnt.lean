/- entity: signs of references. -/
import Derived.Test.YtlehoolkjkdncaaDoorCln
set_option linter.unusedSimpArgs false
set_option linter.unusedVariables false
namespace Go.Proofs.K
open Go Go.Sim Go.Proofs
variable {G : Glob}

def low (b : Int) : Int := bitF .or .u8 b 32
theorem byte_all {p : Int → Prop} [DecidablePred p] (h : ((List.range 256).all fun n => decide (p n)) = true) (b : Int) (h0 : 0 ≤ b) (h1 : b < 256) : p b := by
  have := List.all_eq_true.1 h b.toNat (List.mem_range.2 (by omega))
  have e : ((b.toNat : Nat) : Int) = b := by omega
  rw [e] at this
  exact of_decide_eq_true this
theorem low_r (b : Int) (h0 : 0 ≤ b) (h1 : b < 256) : 0 ≤ low b ∧ low b < 256 := byte_all (p := fun b => 0 ≤ low b ∧ low b < 256) (by decide +kernel) b h0 h1
def dig0 (b : Int) : Int := if 48 ≤ b ∧ b ≤ 57 then b - 48 else if 97 ≤ low b ∧ low b ≤ 102 then low b - 97 + 10 else -1
def digM (b base : Int) : Int := if base ≤ dig0 b then -1 else dig0 b
def c47 : SFun := ⟨(.seq (.reg [⟨(some 4), (.mv (.c (.int .i64 (0)))), none⟩]) (.seq (.reg [⟨(some 5), (.mv (.c (.int .i64 (-1)))), none⟩]) (.seq (.block 0 (.seq (.reg [⟨(some 7), (.mv (.t 0)), none⟩, ⟨(some 8), (.bin .geq (.t 7) (.c (.int .u8 (48)))), none⟩, ⟨(some 9), (.mv (.t 8)), none⟩, ⟨(some 10), (.mv (.t 0)), (some (9, true))⟩, ⟨(some 11), (.bin .leq (.t 10) (.c (.int .u8 (57)))), (some (9, true))⟩, ⟨(some 12), (.pick (.t 9) (.t 11) (.c (.bool false))), none⟩, ⟨(some 6), (.mv (.t 12)), none⟩]) (.cond (.t 6) (.reg [⟨(some 13), (.mv (.t 0)), none⟩, ⟨(some 14), (.bin .sub (.t 13) (.c (.int .u8 (48)))), none⟩, ⟨(some 15), (.cvi .i64 (.t 14)), none⟩, ⟨(some 5), (.mv (.t 15)), none⟩]) (.seq (.reg [⟨(some 17), (.mv (.t 0)), none⟩, ⟨(some 18), (.bin .or (.t 17) (.c (.int .u8 (32)))), none⟩, ⟨(some 19), (.bin .geq (.t 18) (.c (.int .u8 (97)))), none⟩, ⟨(some 20), (.mv (.t 19)), none⟩, ⟨(some 21), (.mv (.t 0)), (some (20, true))⟩, ⟨(some 22), (.bin .or (.t 21) (.c (.int .u8 (32)))), (some (20, true))⟩, ⟨(some 23), (.bin .leq (.t 22) (.c (.int .u8 (102)))), (some (20, true))⟩, ⟨(some 24), (.pick (.t 20) (.t 23) (.c (.bool false))), none⟩, ⟨(some 16), (.mv (.t 24)), none⟩]) (.cond (.t 16) (.reg [⟨(some 25), (.mv (.t 0)), none⟩, ⟨(some 26), (.bin .or (.t 25) (.c (.int .u8 (32)))), none⟩, ⟨(some 27), (.bin .sub (.t 26) (.c (.int .u8 (97)))), none⟩, ⟨(some 28), (.cvi .i64 (.t 27)), none⟩, ⟨(some 29), (.bin .add (.t 28) (.c (.int .i64 (10)))), none⟩, ⟨(some 5), (.mv (.t 29)), none⟩]) .skip))))) (.seq (.seq (.reg [⟨(some 30), (.mv (.t 5)), none⟩, ⟨(some 31), (.mv (.t 1)), none⟩, ⟨(some 32), (.bin .geq (.t 30) (.t 31)), none⟩]) (.cond (.t 32) (.seq (.reg [⟨(some 4), (.mv (.c (.int .i64 (-1)))), none⟩]) .ret) .skip)) (.seq (.reg [⟨(some 33), (.mv (.t 5)), none⟩, ⟨(some 4), (.mv (.t 33)), none⟩]) .ret))))), [(.tmp 4)]⟩
theorem hc47 : toSF Tryd.prog {} Tryd.f47 = some c47 := by kernel_rfl
theorem hn47 : (Tryd.f47.name == "runtime.NumGoroutine") = false := by kernel_rfl
theorem digit_ok (b base : Int) (h0 : 0 ≤ b) (h1 : b < 256) : PCalls (Pg G) 47 [.int .u8 b, aInt base] (aInt (digM b base)) := fun h => by
  have hl := low_r b h0 h1
  have el : bitF .or .u8 b 32 = low b := rfl
  have e1 : 48 ≤ b → IntKind.u8.wrap (b - 48) = b - 48 := fun h => by rw [IntKind.wrap_u8]; omega
  have e2 : 97 ≤ low b → IntKind.u8.wrap (low b - 97) = low b - 97 := fun h => by rw [IntKind.wrap_u8]; omega
  by_cases c1 : 48 ≤ b ∧ b ≤ 57
  · have e1 := e1 c1.1
    have ed : dig0 b = b - 48 := if_pos c1
    unfold digM
    rw [ed]
    refine dcalls_of_vc Tryd.func47 hn47 hc47 (by rw [Tryd.ntmps47]; simp) (by rw [Tryd.ntmps47]; decide) ?_
    simp -dsimp -implicitDefEqProofs (disch := omega) only [↓vcOps_sp 9, ↓vcD_sp 9, ↓vcOps_sp 20, ↓vcD_sp 20, VCA, pg_gl, ↓upd_none, Nat.reduceEqDiff, Nat.reduceBEq, Nat.reduceAdd, Nat.reduceSub, Nat.reduceMul, Nat.reduceLT, Nat.reduceLeDiff, ↓reduceIte, reduceCtorEq, rsOf, rootsOf, SOp.rd, SI.rd, SX.rd, rdL, rdO, rdP, okParts, eqCells, okEqCells, fillA, okFill, setAt, implies_true, forall_const, forall_eq, ne_eq, exists_eq_right_right, exists_eq_right, exists_eq_left, exists_eq_left', eRune, c47, el, e1]
    repeat' (first | ((with_reducible refine Br.dec (fun _ => ?_) (fun _ => ?_)) <;> try (exfalso; omega)) | ((with_reducible refine Br.eq (fun _ => ?_) (fun _ => ?_)) <;> try (exfalso; omega)) | ((with_reducible refine Br.ne (fun _ => ?_) (fun _ => ?_)) <;> try (exfalso; omega)) | with_reducible refine Br.intro (fun _ => ?_) (fun _ => ?_) | (with_reducible refine And.intro ?_ ?_; · omega) | simp -dsimp -implicitDefEqProofs (disch := omega) only [↓vcOps_sp 9, ↓vcD_sp 9, ↓vcOps_sp 20, ↓vcD_sp 20, VCA, pg_gl, ↓upd_none, Nat.reduceEqDiff, Nat.reduceBEq, Nat.reduceAdd, Nat.reduceSub, Nat.reduceMul, Nat.reduceLT, Nat.reduceLeDiff, ↓reduceIte, reduceCtorEq, rsOf, rootsOf, SOp.rd, SI.rd, SX.rd, rdL, rdO, rdP, okParts, eqCells, okEqCells, fillA, okFill, setAt, implies_true, forall_const, forall_eq, ne_eq, exists_eq_right_right, exists_eq_right, exists_eq_left, exists_eq_left', eRune, el, e1])
    all_goals first | (rw [if_pos (by omega)]; exact ⟨Sub.refl _, rfl⟩) | (rw [if_neg (by omega)]; exact ⟨Sub.refl _, rfl⟩) | (rw [if_pos (by omega)]; exact Sub.refl _) | (rw [if_neg (by omega)]; exact Sub.refl _)
  · by_cases c2 : 97 ≤ low b ∧ low b ≤ 102
    · have e2 := e2 c2.1
      have ed : dig0 b = low b - 97 + 10 := by unfold dig0; rw [if_neg c1, if_pos c2]
      unfold digM
      rw [ed]
      refine dcalls_of_vc Tryd.func47 hn47 hc47 (by rw [Tryd.ntmps47]; simp) (by rw [Tryd.ntmps47]; decide) ?_
      simp -dsimp -implicitDefEqProofs (disch := omega) only [↓vcOps_sp 9, ↓vcD_sp 9, ↓vcOps_sp 20, ↓vcD_sp 20, VCA, pg_gl, ↓upd_none, Nat.reduceEqDiff, Nat.reduceBEq, Nat.reduceAdd, Nat.reduceSub, Nat.reduceMul, Nat.reduceLT, Nat.reduceLeDiff, ↓reduceIte, reduceCtorEq, rsOf, rootsOf, SOp.rd, SI.rd, SX.rd, rdL, rdO, rdP, okParts, eqCells, okEqCells, fillA, okFill, setAt, implies_true, forall_const, forall_eq, ne_eq, exists_eq_right_right, exists_eq_right, exists_eq_left, exists_eq_left', eRune, c47, el, e2]
      repeat' (first | ((with_reducible refine Br.dec (fun _ => ?_) (fun _ => ?_)) <;> try (exfalso; omega)) | ((with_reducible refine Br.eq (fun _ => ?_) (fun _ => ?_)) <;> try (exfalso; omega)) | ((with_reducible refine Br.ne (fun _ => ?_) (fun _ => ?_)) <;> try (exfalso; omega)) | with_reducible refine Br.intro (fun _ => ?_) (fun _ => ?_) | (with_reducible refine And.intro ?_ ?_; · omega) | simp -dsimp -implicitDefEqProofs (disch := omega) only [↓vcOps_sp 9, ↓vcD_sp 9, ↓vcOps_sp 20, ↓vcD_sp 20, VCA, pg_gl, ↓upd_none, Nat.reduceEqDiff, Nat.reduceBEq, Nat.reduceAdd, Nat.reduceSub, Nat.reduceMul, Nat.reduceLT, Nat.reduceLeDiff, ↓reduceIte, reduceCtorEq, rsOf, rootsOf, SOp.rd, SI.rd, SX.rd, rdL, rdO, rdP, okParts, eqCells, okEqCells, fillA, okFill, setAt, implies_true, forall_const, forall_eq, ne_eq, exists_eq_right_right, exists_eq_right, exists_eq_left, exists_eq_left', eRune, el, e2])
      all_goals first | (rw [if_pos (by omega)]; exact ⟨Sub.refl _, rfl⟩) | (rw [if_neg (by omega)]; exact ⟨Sub.refl _, rfl⟩)
    · have ed : dig0 b = -1 := by unfold dig0; rw [if_neg c1, if_neg c2]
      unfold digM
      rw [ed]
      refine dcalls_of_vc Tryd.func47 hn47 hc47 (by rw [Tryd.ntmps47]; simp) (by rw [Tryd.ntmps47]; decide) ?_
      simp -dsimp -implicitDefEqProofs (disch := omega) only [↓vcOps_sp 9, ↓vcD_sp 9, ↓vcOps_sp 20, ↓vcD_sp 20, VCA, pg_gl, ↓upd_none, Nat.reduceEqDiff, Nat.reduceBEq, Nat.reduceAdd, Nat.reduceSub, Nat.reduceMul, Nat.reduceLT, Nat.reduceLeDiff, ↓reduceIte, reduceCtorEq, rsOf, rootsOf, SOp.rd, SI.rd, SX.rd, rdL, rdO, rdP, okParts, eqCells, okEqCells, fillA, okFill, setAt, implies_true, forall_const, forall_eq, ne_eq, exists_eq_right_right, exists_eq_right, exists_eq_left, exists_eq_left', eRune, c47, el]
      repeat' (first | ((with_reducible refine Br.dec (fun _ => ?_) (fun _ => ?_)) <;> try (exfalso; omega)) | ((with_reducible refine Br.eq (fun _ => ?_) (fun _ => ?_)) <;> try (exfalso; omega)) | ((with_reducible refine Br.ne (fun _ => ?_) (fun _ => ?_)) <;> try (exfalso; omega)) | with_reducible refine Br.intro (fun _ => ?_) (fun _ => ?_) | (with_reducible refine And.intro ?_ ?_; · omega) | simp -dsimp -implicitDefEqProofs (disch := omega) only [↓vcOps_sp 9, ↓vcD_sp 9, ↓vcOps_sp 20, ↓vcD_sp 20, VCA, pg_gl, ↓upd_none, Nat.reduceEqDiff, Nat.reduceBEq, Nat.reduceAdd, Nat.reduceSub, Nat.reduceMul, Nat.reduceLT, Nat.reduceLeDiff, ↓reduceIte, reduceCtorEq, rsOf, rootsOf, SOp.rd, SI.rd, SX.rd, rdL, rdO, rdP, okParts, eqCells, okEqCells, fillA, okFill, setAt, implies_true, forall_const, forall_eq, ne_eq, exists_eq_right_right, exists_eq_right, exists_eq_left, exists_eq_left', eRune, el])
      all_goals first | (rw [if_pos (by omega)]; exact ⟨Sub.refl _, rfl⟩) | (rw [if_neg (by omega)]; exact ⟨Sub.refl _, rfl⟩)
def hexM (b : Int) : Int := if 48 ≤ b ∧ b ≤ 57 then b - 48 else if 97 ≤ b ∧ b ≤ 102 then b - 97 + 10 else if 65 ≤ b ∧ b ≤ 70 then b - 65 + 10 else 99
def c40 : SFun := ⟨(.seq (.reg [⟨(some 2), (.mv (.c (.int .i64 (0)))), none⟩]) (.seq (.seq (.reg [⟨(some 3), (.mv (.t 0)), none⟩, ⟨(some 4), (.bin .geq (.t 3) (.c (.int .u8 (48)))), none⟩, ⟨(some 5), (.mv (.t 4)), none⟩, ⟨(some 6), (.mv (.t 0)), (some (5, true))⟩, ⟨(some 7), (.bin .leq (.t 6) (.c (.int .u8 (57)))), (some (5, true))⟩, ⟨(some 8), (.pick (.t 5) (.t 7) (.c (.bool false))), none⟩]) (.cond (.t 8) (.seq (.reg [⟨(some 9), (.mv (.t 0)), none⟩, ⟨(some 10), (.cvi .i64 (.t 9)), none⟩, ⟨(some 11), (.bin .sub (.t 10) (.c (.int .i64 (48)))), none⟩, ⟨(some 2), (.mv (.t 11)), none⟩]) .ret) .skip)) (.seq (.seq (.reg [⟨(some 12), (.mv (.t 0)), none⟩, ⟨(some 13), (.bin .geq (.t 12) (.c (.int .u8 (97)))), none⟩, ⟨(some 14), (.mv (.t 13)), none⟩, ⟨(some 15), (.mv (.t 0)), (some (14, true))⟩, ⟨(some 16), (.bin .leq (.t 15) (.c (.int .u8 (102)))), (some (14, true))⟩, ⟨(some 17), (.pick (.t 14) (.t 16) (.c (.bool false))), none⟩]) (.cond (.t 17) (.seq (.reg [⟨(some 18), (.mv (.t 0)), none⟩, ⟨(some 19), (.cvi .i64 (.t 18)), none⟩, ⟨(some 20), (.bin .sub (.t 19) (.c (.int .i64 (97)))), none⟩, ⟨(some 21), (.bin .add (.t 20) (.c (.int .i64 (10)))), none⟩, ⟨(some 2), (.mv (.t 21)), none⟩]) .ret) .skip)) (.seq (.seq (.reg [⟨(some 22), (.mv (.t 0)), none⟩, ⟨(some 23), (.bin .geq (.t 22) (.c (.int .u8 (65)))), none⟩, ⟨(some 24), (.mv (.t 23)), none⟩, ⟨(some 25), (.mv (.t 0)), (some (24, true))⟩, ⟨(some 26), (.bin .leq (.t 25) (.c (.int .u8 (70)))), (some (24, true))⟩, ⟨(some 27), (.pick (.t 24) (.t 26) (.c (.bool false))), none⟩]) (.cond (.t 27) (.seq (.reg [⟨(some 28), (.mv (.t 0)), none⟩, ⟨(some 29), (.cvi .i64 (.t 28)), none⟩, ⟨(some 30), (.bin .sub (.t 29) (.c (.int .i64 (65)))), none⟩, ⟨(some 31), (.bin .add (.t 30) (.c (.int .i64 (10)))), none⟩, ⟨(some 2), (.mv (.t 31)), none⟩]) .ret) .skip)) (.seq (.reg [⟨(some 2), (.mv (.c (.int .i64 (99)))), none⟩]) .ret))))), [(.tmp 2)]⟩
theorem hc40 : toSF Tryd.prog {} Tryd.f40 = some c40 := by kernel_rfl
theorem hn40 : (Tryd.f40.name == "runtime.NumGoroutine") = false := by kernel_rfl
theorem hexOf_ok (b : Int) (h0 : 0 ≤ b) (h1 : b < 256) : PCalls (Pg G) 40 [.int .u8 b] (aInt (hexM b)) := fun h => by
  refine dcalls_of_vc Tryd.func40 hn40 hc40 (by rw [Tryd.ntmps40]; simp) (by rw [Tryd.ntmps40]; decide) ?_
  simp -dsimp -implicitDefEqProofs (disch := omega) only [↓vcOps_sp 5, ↓vcD_sp 5, ↓vcOps_sp 14, ↓vcD_sp 14, ↓vcOps_sp 24, ↓vcD_sp 24, VCA, pg_gl, ↓upd_none, Nat.reduceEqDiff, Nat.reduceBEq, Nat.reduceAdd, Nat.reduceSub, Nat.reduceMul, Nat.reduceLT, Nat.reduceLeDiff, ↓reduceIte, reduceCtorEq, rsOf, rootsOf, SOp.rd, SI.rd, SX.rd, rdL, rdO, rdP, okParts, eqCells, okEqCells, fillA, okFill, setAt, implies_true, forall_const, forall_eq, ne_eq, exists_eq_right_right, exists_eq_right, exists_eq_left, exists_eq_left', eRune, c40]
  repeat' (first | ((with_reducible refine Br.dec (fun _ => ?_) (fun _ => ?_)) <;> try (exfalso; omega)) | ((with_reducible refine Br.eq (fun _ => ?_) (fun _ => ?_)) <;> try (exfalso; omega)) | ((with_reducible refine Br.ne (fun _ => ?_) (fun _ => ?_)) <;> try (exfalso; omega)) | with_reducible refine Br.intro (fun _ => ?_) (fun _ => ?_) | (with_reducible refine And.intro ?_ ?_; · omega) | simp -dsimp -implicitDefEqProofs (disch := omega) only [↓vcOps_sp 5, ↓vcD_sp 5, ↓vcOps_sp 14, ↓vcD_sp 14, ↓vcOps_sp 24, ↓vcD_sp 24, VCA, pg_gl, ↓upd_none, Nat.reduceEqDiff, Nat.reduceBEq, Nat.reduceAdd, Nat.reduceSub, Nat.reduceMul, Nat.reduceLT, Nat.reduceLeDiff, ↓reduceIte, reduceCtorEq, rsOf, rootsOf, SOp.rd, SI.rd, SX.rd, rdL, rdO, rdP, okParts, eqCells, okEqCells, fillA, okFill, setAt, implies_true, forall_const, forall_eq, ne_eq, exists_eq_right_right, exists_eq_right, exists_eq_left, exists_eq_left', eRune])
  all_goals (refine ⟨Sub.refl _, ?_⟩; unfold hexM; repeat' split)
  all_goals first | rfl | omega
theorem hex_dig (b : Int) (h0 : 0 ≤ b) (h1 : b < 256) : (0 ≤ digM b 10 ↔ hexM b < 10) ∧ (0 ≤ digM b 10 → digM b 10 = hexM b) ∧ (0 ≤ digM b 16 ↔ hexM b < 16) ∧ (0 ≤ digM b 16 → digM b 16 = hexM b) ∧ digM b 10 < 10 ∧ digM b 16 < 16 :=
  byte_all (p := fun b => (0 ≤ digM b 10 ↔ hexM b < 10) ∧ (0 ≤ digM b 10 → digM b 10 = hexM b) ∧ (0 ≤ digM b 16 ↔ hexM b < 16) ∧ (0 ≤ digM b 16 → digM b 16 = hexM b) ∧ digM b 10 < 10 ∧ digM b 16 < 16) (by decide +kernel) b h0 h1
def semiM (s : List UInt8) (n : Nat) : Nat := if n < s.length ∧ bt s n = 59 then n + 1 else n
def c49 : SFun := ⟨(.seq (.reg [⟨(some 4), (.mv (.c (.int .i64 (0)))), none⟩]) (.seq (.seq (.reg [⟨(some 5), (.mv (.t 1)), none⟩, ⟨(some 6), (.mv (.t 0)), none⟩, ⟨(some 7), (.lenS (.t 6)), none⟩, ⟨(some 8), (.bin .lss (.t 5) (.t 7)), none⟩, ⟨(some 9), (.mv (.t 8)), none⟩, ⟨(some 10), (.mv (.t 0)), (some (9, true))⟩, ⟨(some 11), (.mv (.t 1)), (some (9, true))⟩, ⟨(some 12), (.idxS (.t 10) (.t 11)), (some (9, true))⟩, ⟨(some 13), (.bin .eql (.t 12) (.c (.int .u8 (59)))), (some (9, true))⟩, ⟨(some 14), (.pick (.t 9) (.t 13) (.c (.bool false))), none⟩]) (.cond (.t 14) (.reg [⟨(some 15), (.mv (.t 1)), none⟩, ⟨(some 16), (.bin .add (.t 15) (.c (.int .i64 (1)))), none⟩, ⟨(some 1), (.mv (.t 16)), none⟩]) .skip)) (.seq (.reg [⟨(some 17), (.mv (.t 1)), none⟩, ⟨(some 4), (.mv (.t 17)), none⟩]) .ret))), [(.tmp 4)]⟩
theorem hc49 : toSF Tryd.prog {} Tryd.f49 = some c49 := by kernel_rfl
theorem hn49 : (Tryd.f49.name == "runtime.NumGoroutine") = false := by kernel_rfl
theorem semi_ok (s : List UInt8) (n : Nat) (hs : s.length ≤ 1073741824) (hn : n ≤ 1073741824) : PCalls (Pg G) 49 [.str s, aInt n] (aInt (semiM s n)) := fun h => by
  have eb : ((s.getD n 0).toNat : Int) = bt s n := rfl
  refine dcalls_of_vc Tryd.func49 hn49 hc49 (by rw [Tryd.ntmps49]; simp) (by rw [Tryd.ntmps49]; decide) ?_
  simp -dsimp -implicitDefEqProofs (disch := omega) only [↓vcOps_sp 9, ↓vcD_sp 9, VCA, pg_gl, ↓upd_none, Nat.reduceEqDiff, Nat.reduceBEq, Nat.reduceAdd, Nat.reduceSub, Nat.reduceMul, Nat.reduceLT, Nat.reduceLeDiff, ↓reduceIte, reduceCtorEq, rsOf, rootsOf, SOp.rd, SI.rd, SX.rd, rdL, rdO, rdP, okParts, eqCells, okEqCells, fillA, okFill, setAt, implies_true, forall_const, forall_eq, ne_eq, exists_eq_right_right, exists_eq_right, exists_eq_left, exists_eq_left', eRune, c49, eb]
  repeat' (first | ((with_reducible refine Br.dec (fun _ => ?_) (fun _ => ?_)) <;> try (exfalso; omega)) | ((with_reducible refine Br.eq (fun _ => ?_) (fun _ => ?_)) <;> try (exfalso; omega)) | ((with_reducible refine Br.ne (fun _ => ?_) (fun _ => ?_)) <;> try (exfalso; omega)) | with_reducible refine Br.intro (fun _ => ?_) (fun _ => ?_) | (with_reducible refine And.intro ?_ ?_; · omega) | simp -dsimp -implicitDefEqProofs (disch := omega) only [↓vcOps_sp 9, ↓vcD_sp 9, VCA, pg_gl, ↓upd_none, Nat.reduceEqDiff, Nat.reduceBEq, Nat.reduceAdd, Nat.reduceSub, Nat.reduceMul, Nat.reduceLT, Nat.reduceLeDiff, ↓reduceIte, reduceCtorEq, rsOf, rootsOf, SOp.rd, SI.rd, SX.rd, rdL, rdO, rdP, okParts, eqCells, okEqCells, fillA, okFill, setAt, implies_true, forall_const, forall_eq, ne_eq, exists_eq_right_right, exists_eq_right, exists_eq_left, exists_eq_left', eRune, eb])
  all_goals (refine ⟨Sub.refl _, ?_⟩; unfold semiM; split)
  all_goals first | rfl | omega
def ldM (b : Int) : Bool := (decide (48 ≤ b) && decide (b ≤ 57)) || (decide (97 ≤ b) && decide (b ≤ 122)) || (decide (65 ≤ b) && decide (b ≤ 90))
def c42 : SFun := ⟨(.seq (.reg [⟨(some 2), (.mv (.c (.bool false))), none⟩]) (.seq (.reg [⟨(some 3), (.mv (.t 0)), none⟩, ⟨(some 4), (.bin .geq (.t 3) (.c (.int .u8 (48)))), none⟩, ⟨(some 5), (.mv (.t 4)), none⟩, ⟨(some 6), (.mv (.t 0)), (some (5, true))⟩, ⟨(some 7), (.bin .leq (.t 6) (.c (.int .u8 (57)))), (some (5, true))⟩, ⟨(some 8), (.pick (.t 5) (.t 7) (.c (.bool false))), none⟩, ⟨(some 9), (.mv (.t 8)), none⟩, ⟨(some 10), (.mv (.t 0)), (some (9, false))⟩, ⟨(some 11), (.bin .geq (.t 10) (.c (.int .u8 (97)))), (some (9, false))⟩, ⟨(some 12), (.mv (.t 11)), (some (9, false))⟩, ⟨(some 13), (.mv (.t 0)), (some (12, true))⟩, ⟨(some 14), (.bin .leq (.t 13) (.c (.int .u8 (122)))), (some (12, true))⟩, ⟨(some 15), (.pick (.t 12) (.t 14) (.c (.bool false))), (some (9, false))⟩, ⟨(some 16), (.pick (.t 9) (.c (.bool true)) (.t 15)), none⟩, ⟨(some 17), (.mv (.t 16)), none⟩, ⟨(some 18), (.mv (.t 0)), (some (17, false))⟩, ⟨(some 19), (.bin .geq (.t 18) (.c (.int .u8 (65)))), (some (17, false))⟩, ⟨(some 20), (.mv (.t 19)), (some (17, false))⟩, ⟨(some 21), (.mv (.t 0)), (some (20, true))⟩, ⟨(some 22), (.bin .leq (.t 21) (.c (.int .u8 (90)))), (some (20, true))⟩, ⟨(some 23), (.pick (.t 20) (.t 22) (.c (.bool false))), (some (17, false))⟩, ⟨(some 24), (.pick (.t 17) (.c (.bool true)) (.t 23)), none⟩, ⟨(some 2), (.mv (.t 24)), none⟩]) .ret)), [(.tmp 2)]⟩
theorem hc42 : toSF Tryd.prog {} Tryd.f42 = some c42 := by kernel_rfl
theorem hn42 : (Tryd.f42.name == "runtime.NumGoroutine") = false := by kernel_rfl
theorem ld_ok (b : Int) : PCalls (Pg G) 42 [.int .u8 b] (.bool (ldM b)) := fun h => by
  refine dcalls_of_vc Tryd.func42 hn42 hc42 (by rw [Tryd.ntmps42]; simp) (by rw [Tryd.ntmps42]; decide) ?_
  simp -dsimp -implicitDefEqProofs (disch := omega) only [↓vcOps_sp 5, ↓vcD_sp 5, ↓vcOps_sp 9, ↓vcD_sp 9, ↓vcOps_sp 12, ↓vcD_sp 12, ↓vcOps_sp 17, ↓vcD_sp 17, ↓vcOps_sp 20, ↓vcD_sp 20, VCA, pg_gl, ↓upd_none, Nat.reduceEqDiff, Nat.reduceBEq, Nat.reduceAdd, Nat.reduceSub, Nat.reduceMul, Nat.reduceLT, Nat.reduceLeDiff, ↓reduceIte, reduceCtorEq, rsOf, rootsOf, SOp.rd, SI.rd, SX.rd, rdL, rdO, rdP, okParts, eqCells, okEqCells, fillA, okFill, setAt, implies_true, forall_const, forall_eq, ne_eq, exists_eq_right_right, exists_eq_right, exists_eq_left, exists_eq_left', eRune, c42]
  repeat' (first | ((with_reducible refine Br.dec (fun _ => ?_) (fun _ => ?_)) <;> try (exfalso; omega)) | ((with_reducible refine Br.eq (fun _ => ?_) (fun _ => ?_)) <;> try (exfalso; omega)) | ((with_reducible refine Br.ne (fun _ => ?_) (fun _ => ?_)) <;> try (exfalso; omega)) | with_reducible refine Br.intro (fun _ => ?_) (fun _ => ?_) | (with_reducible refine And.intro ?_ ?_; · omega) | simp -dsimp -implicitDefEqProofs (disch := omega) only [↓vcOps_sp 5, ↓vcD_sp 5, ↓vcOps_sp 9, ↓vcD_sp 9, ↓vcOps_sp 12, ↓vcD_sp 12, ↓vcOps_sp 17, ↓vcD_sp 17, ↓vcOps_sp 20, ↓vcD_sp 20, VCA, pg_gl, ↓upd_none, Nat.reduceEqDiff, Nat.reduceBEq, Nat.reduceAdd, Nat.reduceSub, Nat.reduceMul, Nat.reduceLT, Nat.reduceLeDiff, ↓reduceIte, reduceCtorEq, rsOf, rootsOf, SOp.rd, SI.rd, SX.rd, rdL, rdO, rdP, okParts, eqCells, okEqCells, fillA, okFill, setAt, implies_true, forall_const, forall_eq, ne_eq, exists_eq_right_right, exists_eq_right, exists_eq_left, exists_eq_left', eRune])
  all_goals (refine ⟨Sub.refl _, ?_⟩; simp_all [ldM])
  all_goals omega
def c52 : SFun := ⟨(.seq (.reg [⟨(some 2), (.mv (.c (.bool false))), none⟩]) (.seq (.reg [⟨(some 3), (.mv (.t 0)), none⟩, ⟨(some 4), (.bin .eql (.t 3) (.c (.int .u8 (61)))), none⟩, ⟨(some 5), (.mv (.t 4)), none⟩, ⟨(some 6), (.mv (.t 0)), (some (5, false))⟩, ⟨(some 7), (.bin .geq (.t 6) (.c (.int .u8 (48)))), (some (5, false))⟩, ⟨(some 8), (.mv (.t 7)), (some (5, false))⟩, ⟨(some 9), (.mv (.t 0)), (some (8, true))⟩, ⟨(some 10), (.bin .leq (.t 9) (.c (.int .u8 (57)))), (some (8, true))⟩, ⟨(some 11), (.pick (.t 8) (.t 10) (.c (.bool false))), (some (5, false))⟩, ⟨(some 12), (.pick (.t 5) (.c (.bool true)) (.t 11)), none⟩, ⟨(some 13), (.mv (.t 12)), none⟩, ⟨(some 14), (.mv (.t 0)), (some (13, false))⟩, ⟨(some 15), (.bin .or (.t 14) (.c (.int .u8 (32)))), (some (13, false))⟩, ⟨(some 16), (.bin .geq (.t 15) (.c (.int .u8 (97)))), (some (13, false))⟩, ⟨(some 17), (.mv (.t 16)), (some (13, false))⟩, ⟨(some 18), (.mv (.t 0)), (some (17, true))⟩, ⟨(some 19), (.bin .or (.t 18) (.c (.int .u8 (32)))), (some (17, true))⟩, ⟨(some 20), (.bin .leq (.t 19) (.c (.int .u8 (122)))), (some (17, true))⟩, ⟨(some 21), (.pick (.t 17) (.t 20) (.c (.bool false))), (some (13, false))⟩, ⟨(some 22), (.pick (.t 13) (.c (.bool true)) (.t 21)), none⟩, ⟨(some 2), (.mv (.t 22)), none⟩]) .ret)), [(.tmp 2)]⟩
theorem hc52 : toSF Tryd.prog {} Tryd.f52 = some c52 := by kernel_rfl
theorem hn52 : (Tryd.f52.name == "runtime.NumGoroutine") = false := by kernel_rfl
theorem word_ok (b : Int) (h0 : 0 ≤ b) (h1 : b < 256) : PCalls (Pg G) 52 [.int .u8 b] (.bool (b == 61 || ldM b)) := fun h => by
  have el : bitF .or .u8 b 32 = low b := rfl
  have hw : ldM b = ((decide (48 ≤ b) && decide (b ≤ 57)) || (decide (97 ≤ low b) && decide (low b ≤ 122))) := byte_all (p := fun b => ldM b = ((decide (48 ≤ b) && decide (b ≤ 57)) || (decide (97 ≤ low b) && decide (low b ≤ 122)))) (by decide +kernel) b h0 h1
  rw [hw]
  refine dcalls_of_vc Tryd.func52 hn52 hc52 (by rw [Tryd.ntmps52]; simp) (by rw [Tryd.ntmps52]; decide) ?_
  simp -dsimp -implicitDefEqProofs (disch := omega) only [↓vcOps_sp 5, ↓vcD_sp 5, ↓vcOps_sp 8, ↓vcD_sp 8, ↓vcOps_sp 13, ↓vcD_sp 13, ↓vcOps_sp 17, ↓vcD_sp 17, VCA, pg_gl, ↓upd_none, Nat.reduceEqDiff, Nat.reduceBEq, Nat.reduceAdd, Nat.reduceSub, Nat.reduceMul, Nat.reduceLT, Nat.reduceLeDiff, ↓reduceIte, reduceCtorEq, rsOf, rootsOf, SOp.rd, SI.rd, SX.rd, rdL, rdO, rdP, okParts, eqCells, okEqCells, fillA, okFill, setAt, implies_true, forall_const, forall_eq, ne_eq, exists_eq_right_right, exists_eq_right, exists_eq_left, exists_eq_left', eRune, c52, el]
  repeat' (first | ((with_reducible refine Br.dec (fun _ => ?_) (fun _ => ?_)) <;> try (exfalso; omega)) | ((with_reducible refine Br.eq (fun _ => ?_) (fun _ => ?_)) <;> try (exfalso; omega)) | ((with_reducible refine Br.ne (fun _ => ?_) (fun _ => ?_)) <;> try (exfalso; omega)) | with_reducible refine Br.intro (fun _ => ?_) (fun _ => ?_) | (with_reducible refine And.intro ?_ ?_; · omega) | simp -dsimp -implicitDefEqProofs (disch := omega) only [↓vcOps_sp 5, ↓vcD_sp 5, ↓vcOps_sp 8, ↓vcD_sp 8, ↓vcOps_sp 13, ↓vcD_sp 13, ↓vcOps_sp 17, ↓vcD_sp 17, VCA, pg_gl, ↓upd_none, Nat.reduceEqDiff, Nat.reduceBEq, Nat.reduceAdd, Nat.reduceSub, Nat.reduceMul, Nat.reduceLT, Nat.reduceLeDiff, ↓reduceIte, reduceCtorEq, rsOf, rootsOf, SOp.rd, SI.rd, SX.rd, rdL, rdO, rdP, okParts, eqCells, okEqCells, fillA, okFill, setAt, implies_true, forall_const, forall_eq, ne_eq, exists_eq_right_right, exists_eq_right, exists_eq_left, exists_eq_left', eRune, el])
  all_goals refine ⟨Sub.refl _, ?_⟩
  all_goals (rw [Bool.eq_iff_iff]; simp only [Bool.or_eq_true, Bool.and_eq_true, decide_eq_true_eq, beq_iff_eq, true_iff, Bool.false_eq_true, false_iff]; omega)
def signM (n : Int) : List UInt8 := Lib.encodeRune (if n = 0 ∨ n = 13 then 65533 else n)
def c48 : SFun := ⟨(.seq (.reg [⟨(some 2), (.mv (.c (.str []))), none⟩]) (.seq (.seq (.reg [⟨(some 3), (.mv (.t 0)), none⟩, ⟨(some 4), (.bin .eql (.t 3) (.c (.int .i64 (0)))), none⟩, ⟨(some 5), (.mv (.t 4)), none⟩, ⟨(some 6), (.mv (.t 0)), (some (5, false))⟩, ⟨(some 7), (.bin .eql (.t 6) (.c (.int .i64 (13)))), (some (5, false))⟩, ⟨(some 8), (.pick (.t 5) (.c (.bool true)) (.t 7)), none⟩]) (.cond (.t 8) (.reg [⟨(some 0), (.mv (.c (.int .i64 (65533)))), none⟩]) .skip)) (.seq (.reg [⟨(some 9), (.mv (.t 0)), none⟩, ⟨(some 10), (.cvi .i32 (.t 9)), none⟩, ⟨(some 11), (.bldF 21 1 [(.t 10)]), none⟩, ⟨(some 12), (.pcall 7 [(.t 11)]), none⟩, ⟨(some 2), (.mv (.t 12)), none⟩]) .ret))), [(.tmp 2)]⟩
theorem hc48 : toSF Tryd.prog {pure := [7]} Tryd.f48 = some c48 := by kernel_rfl
theorem hn48 : (Tryd.f48.name == "runtime.NumGoroutine") = false := by kernel_rfl
theorem sign_ok (n : Int) (h0 : 0 ≤ n) (h1 : n ≤ 2147483647) : PCalls (Pg G) 48 [aInt n] (.str (signM n)) := fun h => by
  have e1 : ∀ r : Int, -2147483648 ≤ r → r ≤ 2147483647 → PCalls (Pg G) 7 [.slc [[.int .i32 r]]] (.str (encM [r])) := fun r h1 h2 => encode_ok [r] (fun x hx => by simp at hx; subst hx; exact ⟨h1, h2⟩) (by simp)
  have hw : IntKind.i32.wrap n = n := by rw [IntKind.wrap_i32]; omega
  have hw2 : IntKind.i32.wrap 65533 = 65533 := by decide
  refine dcalls_of_vc Tryd.func48 hn48 hc48 (by rw [Tryd.ntmps48]; simp) (by rw [Tryd.ntmps48]; decide) ?_
  simp -dsimp -implicitDefEqProofs (disch := omega) only [↓vcOps_sp 5, ↓vcD_sp 5, VCA, pg_gl, ↓upd_none, Nat.reduceEqDiff, Nat.reduceBEq, Nat.reduceAdd, Nat.reduceSub, Nat.reduceMul, Nat.reduceLT, Nat.reduceLeDiff, ↓reduceIte, reduceCtorEq, rsOf, rootsOf, SOp.rd, SI.rd, SX.rd, rdL, rdO, rdP, okParts, eqCells, okEqCells, fillA, okFill, setAt, implies_true, forall_const, forall_eq, ne_eq, exists_eq_right_right, exists_eq_right, exists_eq_left, exists_eq_left', eRune, c48]
  repeat' (first | ((with_reducible refine Br.dec (fun _ => ?_) (fun _ => ?_)) <;> try (exfalso; omega)) | ((with_reducible refine Br.eq (fun _ => ?_) (fun _ => ?_)) <;> try (exfalso; omega)) | ((with_reducible refine Br.ne (fun _ => ?_) (fun _ => ?_)) <;> try (exfalso; omega)) | with_reducible refine Br.intro (fun _ => ?_) (fun _ => ?_) | (with_reducible apply pcallE.of; · exact e1 _ (by omega) (by omega)) | (with_reducible refine And.intro ?_ ?_; · omega) | simp -dsimp -implicitDefEqProofs (disch := omega) only [↓vcOps_sp 5, ↓vcD_sp 5, VCA, pg_gl, ↓upd_none, Nat.reduceEqDiff, Nat.reduceBEq, Nat.reduceAdd, Nat.reduceSub, Nat.reduceMul, Nat.reduceLT, Nat.reduceLeDiff, ↓reduceIte, reduceCtorEq, rsOf, rootsOf, SOp.rd, SI.rd, SX.rd, rdL, rdO, rdP, okParts, eqCells, okEqCells, fillA, okFill, setAt, implies_true, forall_const, forall_eq, ne_eq, exists_eq_right_right, exists_eq_right, exists_eq_left, exists_eq_left', eRune, hw, hw2])
  all_goals refine ⟨Sub.refl _, ?_⟩
  all_goals (rw [encM_one]; unfold signM)
  · rw [if_pos (by omega)]
  · rw [if_pos (by omega)]
  · rw [if_neg (by omega)]
/-! ## numbers -/
def isD (s : List UInt8) (base at_ : Nat) : Bool := decide (at_ < s.length) && decide (0 ≤ digM (bt s at_) base)
/-- the program's number: value, place -/
def runP (s : List UInt8) (base : Nat) : Nat → Nat → Int → Int × Nat
  | 0, a, n => (n, a)
  | f + 1, a, n => if isD s base a = true then runP s base f (a + 1) (min (base * n + digM (bt s a) base) 2097152) else (n, a)
def runR (s : List UInt8) (base : Nat) : Nat → Nat → Int → Int × Nat
  | 0, a, n => (n, a)
  | f + 1, a, n => if isD s base a = true then runR s base f (a + 1) (min (base * n + digM (bt s a) base) 2000000) else (n, a)
theorem run_eq (s : List UInt8) (base : Nat) (hb : base = 10 ∨ base = 16) : ∀ f a n m, 0 ≤ n → n ≤ 2097152 → 0 ≤ m → m ≤ 2000000 → (n = m ∨ 1114111 < n ∧ 1114111 < m) →
    (runP s base f a n).2 = (runR s base f a m).2 ∧ 0 ≤ (runP s base f a n).1 ∧ (runP s base f a n).1 ≤ 2097152 ∧ 0 ≤ (runR s base f a m).1 ∧ (runR s base f a m).1 ≤ 2000000 ∧ ((runP s base f a n).1 = (runR s base f a m).1 ∨ 1114111 < (runP s base f a n).1 ∧ 1114111 < (runR s base f a m).1)
  | 0, a, n, m, h1, h2, h3, h4, h => ⟨rfl, h1, h2, h3, h4, h⟩
  | f + 1, a, n, m, h1, h2, h3, h4, h => by
    unfold runP runR
    by_cases hd : isD s base a = true
    · rw [if_pos hd, if_pos hd]
      have hb0 := bt_byte s a
      have hx := hex_dig (bt s a) hb0.1 hb0.2
      unfold isD at hd
      simp only [Bool.and_eq_true, decide_eq_true_eq] at hd
      rcases hb with rfl | rfl
      · exact run_eq s 10 (.inl rfl) f (a + 1) _ _ (by omega) (by omega) (by omega) (by omega) (by omega)
      · exact run_eq s 16 (.inr rfl) f (a + 1) _ _ (by omega) (by omega) (by omega) (by omega) (by omega)
    · rw [if_neg hd, if_neg hd]
      exact ⟨rfl, h1, h2, h3, h4, h⟩
theorem runP_at (s : List UInt8) (base : Nat) : ∀ f a n, a ≤ (runP s base f a n).2 ∧ (runP s base f a n).2 ≤ max a s.length
  | 0, a, n => by simp [runP]; omega
  | f + 1, a, n => by
    unfold runP
    split
    · rename_i h
      unfold isD at h
      simp only [Bool.and_eq_true, decide_eq_true_eq] at h
      have := runP_at s base f (a + 1) (min (base * n + digM (bt s a) base) 2097152)
      omega
    · simp; omega
/-- base and place of the first digit -/
def numB (s : List UInt8) : Nat × Nat := if 2 < s.length ∧ (bt s 2 = 120 ∨ bt s 2 = 88) then (16, 3) else (10, 2)
def numM (s : List UInt8) : List UInt8 × Nat :=
  let r := runP s (numB s).1 (s.length - (numB s).2) (numB s).2 0
  if r.2 = (numB s).2 then ([], 0) else (signM r.1, semiM s r.2)
theorem low120 (b : Int) (h0 : 0 ≤ b) (h1 : b < 256) : low b = 120 ↔ (b = 120 ∨ b = 88) := byte_all (p := fun b => low b = 120 ↔ (b = 120 ∨ b = 88)) (by decide +kernel) b h0 h1
theorem runP_on {s : List UInt8} {base a : Nat} {n : Int} (h : isD s base a = true) : runP s base (s.length - a) a n = runP s base (s.length - (a + 1)) (a + 1) (min (base * n + digM (bt s a) base) 2097152) := by
  have h' := h
  unfold isD at h'
  simp only [Bool.and_eq_true, decide_eq_true_eq] at h'
  have : s.length - a = (s.length - (a + 1)) + 1 := by omega
  rw [this, runP, if_pos h]
theorem runP_off {s : List UInt8} {base a : Nat} {n : Int} (h : isD s base a = false) : runP s base (s.length - a) a n = (n, a) := by
  cases s.length - a with
  | zero => rfl
  | succ f => rw [runP, if_neg (by rw [h]; simp)]
def c37 : SFun := ⟨(.seq (.reg [⟨(some 2), (.mv (.c (.str []))), none⟩, ⟨(some 3), (.mv (.c (.int .i64 (0)))), none⟩]) (.seq (.reg [⟨(some 4), (.mv (.c (.int .i64 (10)))), none⟩, ⟨(some 5), (.mv (.c (.int .i64 (2)))), none⟩]) (.seq (.seq (.reg [⟨(some 8), (.mv (.t 0)), none⟩, ⟨(some 9), (.lenS (.t 8)), none⟩, ⟨(some 10), (.bin .gtr (.t 9) (.c (.int .i64 (2)))), none⟩, ⟨(some 11), (.mv (.t 10)), none⟩, ⟨(some 12), (.mv (.t 0)), (some (11, true))⟩, ⟨(some 13), (.idxS (.t 12) (.c (.int .i64 (2)))), (some (11, true))⟩, ⟨(some 14), (.bin .or (.t 13) (.c (.int .u8 (32)))), (some (11, true))⟩, ⟨(some 15), (.bin .eql (.t 14) (.c (.int .u8 (120)))), (some (11, true))⟩, ⟨(some 16), (.pick (.t 11) (.t 15) (.c (.bool false))), none⟩]) (.cond (.t 16) (.reg [⟨(some 4), (.mv (.c (.int .i64 (16)))), none⟩, ⟨(some 5), (.mv (.c (.int .i64 (3)))), none⟩]) .skip)) (.seq (.reg [⟨(some 17), (.mv (.t 5)), none⟩, ⟨(some 6), (.mv (.c (.int .i64 (0)))), none⟩, ⟨(some 7), (.mv (.t 17)), none⟩]) (.seq (.block 0 (.loop (.seq (.seq (.reg [⟨(some 18), (.mv (.t 5)), none⟩, ⟨(some 19), (.mv (.t 0)), none⟩, ⟨(some 20), (.lenS (.t 19)), none⟩, ⟨(some 21), (.bin .lss (.t 18) (.t 20)), none⟩, ⟨(some 22), (.mv (.t 21)), none⟩, ⟨(some 23), (.mv (.t 0)), (some (22, true))⟩, ⟨(some 24), (.mv (.t 5)), (some (22, true))⟩, ⟨(some 25), (.idxS (.t 23) (.t 24)), (some (22, true))⟩, ⟨(some 26), (.mv (.t 4)), (some (22, true))⟩, ⟨(some 27), (.pcall 47 [(.t 25), (.t 26)]), (some (22, true))⟩, ⟨(some 28), (.bin .geq (.t 27) (.c (.int .i64 (0)))), (some (22, true))⟩, ⟨(some 29), (.pick (.t 22) (.t 28) (.c (.bool false))), none⟩]) (.cond (.t 29) .skip (.exit 0))) (.seq (.block 1 (.reg [⟨(some 32), (.mv (.t 4)), none⟩, ⟨(some 33), (.mv (.t 6)), none⟩, ⟨(some 34), (.bin .mul (.t 32) (.t 33)), none⟩, ⟨(some 35), (.mv (.t 0)), none⟩, ⟨(some 36), (.mv (.t 5)), none⟩, ⟨(some 37), (.idxS (.t 35) (.t 36)), none⟩, ⟨(some 38), (.mv (.t 4)), none⟩, ⟨(some 39), (.pcall 47 [(.t 37), (.t 38)]), none⟩, ⟨(some 40), (.bin .add (.t 34) (.t 39)), none⟩, ⟨(some 41), (.min2 (.t 40) (.c (.int .i64 (2097152)))), none⟩, ⟨(some 6), (.mv (.t 41)), none⟩])) (.reg [⟨(some 30), (.mv (.t 5)), none⟩, ⟨(some 31), (.bin .add (.t 30) (.c (.int .i64 (1)))), none⟩, ⟨(some 5), (.mv (.t 31)), none⟩]))))) (.seq (.seq (.reg [⟨(some 42), (.mv (.t 5)), none⟩, ⟨(some 43), (.mv (.t 7)), none⟩, ⟨(some 44), (.bin .eql (.t 42) (.t 43)), none⟩]) (.cond (.t 44) (.seq (.reg [⟨(some 2), (.mv (.c (.str []))), none⟩, ⟨(some 3), (.mv (.c (.int .i64 (0)))), none⟩]) .ret) .skip)) (.seq (.reg [⟨(some 45), (.mv (.t 6)), none⟩, ⟨(some 46), (.pcall 48 [(.t 45)]), none⟩, ⟨(some 47), (.mv (.t 0)), none⟩, ⟨(some 48), (.mv (.t 5)), none⟩, ⟨(some 49), (.pcall 49 [(.t 47), (.t 48)]), none⟩, ⟨(some 2), (.mv (.t 46)), none⟩, ⟨(some 3), (.mv (.t 49)), none⟩]) .ret))))))), [(.tmp 2), (.tmp 3)]⟩
theorem hc37 : toSF Tryd.prog {pure := [47, 48, 49]} Tryd.f37 = some c37 := by kernel_rfl
theorem hn37 : (Tryd.f37.name == "runtime.NumGoroutine") = false := by kernel_rfl
theorem number_ok (s : List UInt8) (hs : s.length ≤ 1073741823) : PCalls (Pg G) 37 [.str s] (.tup [.str (numM s).1, aInt (numM s).2]) := fun h => by
  have hb2 := bt_byte s 2
  have e2 : ((s.getD (Int.toNat 2) 0).toNat : Int) = bt s 2 := rfl
  have el : bitF .or .u8 (bt s 2) 32 = low (bt s 2) := rfl
  have hl120 := low120 (bt s 2) hb2.1 hb2.2
  obtain ⟨B, A, hB, hBA⟩ : ∃ B A : Nat, numB s = (B, A) ∧ (B = 16 ∧ A = 3 ∧ 2 < s.length ∧ low (bt s 2) = 120 ∨ B = 10 ∧ A = 2 ∧ ¬ (2 < s.length ∧ low (bt s 2) = 120)) := by
    unfold numB
    by_cases hc : 2 < s.length ∧ (bt s 2 = 120 ∨ bt s 2 = 88)
    · exact ⟨16, 3, if_pos hc, .inl ⟨rfl, rfl, hc.1, hl120.2 hc.2⟩⟩
    · exact ⟨10, 2, if_neg hc, .inr ⟨rfl, rfl, fun h => hc ⟨h.1, hl120.1 h.2⟩⟩⟩
  have hM : numM s = if (runP s B (s.length - A) A 0).2 = A then ([], 0) else (signM (runP s B (s.length - A) A 0).1, semiM s (runP s B (s.length - A) A 0).2) := by
    unfold numM; rw [hB]
  refine dcalls_of_vc Tryd.func37 hn37 hc37 (by rw [Tryd.ntmps37]; simp) (by rw [Tryd.ntmps37]; decide) ?_
  simp -dsimp -implicitDefEqProofs (disch := omega) only [↓vcOps_sp 11, ↓vcD_sp 11, ↓vcOps_sp 22, ↓vcD_sp 22, VCA, pg_gl, ↓upd_none, Nat.reduceEqDiff, Nat.reduceBEq, Nat.reduceAdd, Nat.reduceSub, Nat.reduceMul, Nat.reduceLT, Nat.reduceLeDiff, ↓reduceIte, reduceCtorEq, rsOf, rootsOf, SOp.rd, SI.rd, SX.rd, rdL, rdO, rdP, okParts, eqCells, okEqCells, fillA, okFill, setAt, implies_true, forall_const, forall_eq, ne_eq, exists_eq_right_right, exists_eq_right, exists_eq_left, exists_eq_left', eRune, c37, e2, el]
  repeat' (first | ((with_reducible refine Br.dec (fun _ => ?_) (fun _ => ?_)) <;> try (exfalso; omega)) | ((with_reducible refine Br.eq (fun _ => ?_) (fun _ => ?_)) <;> try (exfalso; omega)) | ((with_reducible refine Br.ne (fun _ => ?_) (fun _ => ?_)) <;> try (exfalso; omega)) | with_reducible refine Br.intro (fun _ => ?_) (fun _ => ?_) | (with_reducible refine And.intro ?_ ?_; · omega) | simp -dsimp -implicitDefEqProofs (disch := omega) only [↓vcOps_sp 11, ↓vcD_sp 11, ↓vcOps_sp 22, ↓vcD_sp 22, VCA, pg_gl, ↓upd_none, Nat.reduceEqDiff, Nat.reduceBEq, Nat.reduceAdd, Nat.reduceSub, Nat.reduceMul, Nat.reduceLT, Nat.reduceLeDiff, ↓reduceIte, reduceCtorEq, rsOf, rootsOf, SOp.rd, SI.rd, SX.rd, rdL, rdO, rdP, okParts, eqCells, okEqCells, fillA, okFill, setAt, implies_true, forall_const, forall_eq, ne_eq, exists_eq_right_right, exists_eq_right, exists_eq_left, exists_eq_left', eRune, e2, el])
  all_goals (
    refine LoopVC.intro (fun m e h' => ∃ (a : Nat) (n : Int), m = s.length - a ∧ A ≤ a ∧ a ≤ max A s.length ∧ 0 ≤ n ∧ n ≤ 2097152 ∧ e 0 = .str s ∧ e 4 = aInt B ∧ e 5 = aInt a ∧ e 6 = aInt n ∧ e 7 = aInt A ∧ h' = h ∧ runP s B (s.length - a) a n = runP s B (s.length - A) A 0) _
      ⟨A, 0, rfl, by omega, by omega, by omega, by omega, rfl, congrArg aInt (by omega), congrArg aInt (by omega), rfl, congrArg aInt (by omega), rfl, rfl⟩ ?_
    rintro m e h' ⟨a, n, rfl, ha, ha2, hn0, hn1, he0, he4, he5, he6, he7, rfl, hR⟩
    have hba := bt_byte s a
    have eba : ((s.getD a 0).toNat : Int) = bt s a := rfl
    have hdl : digM (bt s a) B < 16 := by
      have := hex_dig (bt s a) hba.1 hba.2
      rcases hBA with ⟨h, _⟩ | ⟨h, _⟩
      · subst h; exact this.2.2.2.2.2
      · subst h; have := this.2.2.2.2.1; show digM (bt s a) 10 < 16; omega
    have hx : 0 ≤ (B : Int) * n ∧ (B : Int) * n ≤ 16 * 2097152 := by
      rcases hBA with ⟨h, _⟩ | ⟨h, _⟩ <;> (subst h; omega)
    simp -dsimp -implicitDefEqProofs (disch := omega) only [↓vcOps_sp 11, ↓vcD_sp 11, ↓vcOps_sp 22, ↓vcD_sp 22, VCA, pg_gl, ↓upd_none, Nat.reduceEqDiff, Nat.reduceBEq, Nat.reduceAdd, Nat.reduceSub, Nat.reduceMul, Nat.reduceLT, Nat.reduceLeDiff, ↓reduceIte, reduceCtorEq, rsOf, rootsOf, SOp.rd, SI.rd, SX.rd, rdL, rdO, rdP, okParts, eqCells, okEqCells, fillA, okFill, setAt, implies_true, forall_const, forall_eq, ne_eq, exists_eq_right_right, exists_eq_right, exists_eq_left, exists_eq_left', eRune, he0, he4, he5, he6, he7, eba]
    repeat' (first | ((with_reducible refine Br.dec (fun _ => ?_) (fun _ => ?_)) <;> try (exfalso; omega)) | ((with_reducible refine Br.eq (fun _ => ?_) (fun _ => ?_)) <;> try (exfalso; omega)) | ((with_reducible refine Br.ne (fun _ => ?_) (fun _ => ?_)) <;> try (exfalso; omega)) | with_reducible refine Br.intro (fun _ => ?_) (fun _ => ?_) | (with_reducible apply pcallE.of; · exact digit_ok _ _ (by omega) (by omega)) | (with_reducible apply pcallE.of; · exact sign_ok _ (by omega) (by omega)) | (with_reducible apply pcallE.of; · exact semi_ok _ _ (by omega) (by omega)) | (with_reducible refine And.intro ?_ ?_; · omega) | simp -dsimp -implicitDefEqProofs (disch := omega) only [↓vcOps_sp 11, ↓vcD_sp 11, ↓vcOps_sp 22, ↓vcD_sp 22, VCA, pg_gl, ↓upd_none, Nat.reduceEqDiff, Nat.reduceBEq, Nat.reduceAdd, Nat.reduceSub, Nat.reduceMul, Nat.reduceLT, Nat.reduceLeDiff, ↓reduceIte, reduceCtorEq, rsOf, rootsOf, SOp.rd, SI.rd, SX.rd, rdL, rdO, rdP, okParts, eqCells, okEqCells, fillA, okFill, setAt, implies_true, forall_const, forall_eq, ne_eq, exists_eq_right_right, exists_eq_right, exists_eq_left, exists_eq_left', eRune, he0, he4, he5, he6, he7, eba])
    all_goals first
      | (have hoff : isD s B a = false := by unfold isD; simp; omega
         rw [runP_off hoff] at hR
         rw [hM, ← hR]
         first | (rw [if_pos (by omega)]; exact ⟨Sub.refl _, rfl⟩) | (rw [if_neg (by omega)]; exact ⟨Sub.refl _, rfl⟩))
      | (have hon : isD s B a = true := by unfold isD; simp; omega
         rw [runP_on hon] at hR
         exact ⟨_, by omega, a + 1, _, rfl, by omega, by omega, by omega, by omega, by omega, rfl, hR⟩))
end Go.Proofs.K
