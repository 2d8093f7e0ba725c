/- chars: signs to bytes. -/
import Derived.Test.YtlehoolkjkdncaaDoorBld
set_option linter.unusedSimpArgs false
set_option linter.unusedVariables false
namespace Go.Proofs.K
open Go Go.Sim Go.Proofs
variable {G : Glob}

def eRune (r : Int) : List AVal := [.int .i32 r]
instance : LenE eRune 1 := ⟨fun _ => rfl⟩
def I32 (l : List Int) : Prop := ∀ r ∈ l, -2147483648 ≤ r ∧ r ≤ 2147483647
def validR (r : Int) : Bool := (decide (0 ≤ r) && decide (r < 55296)) || (decide (57343 < r) && decide (r ≤ 1114111))
def c33 : SFun := ⟨(.seq (.reg [⟨(some 2), (.mv (.c (.bool false))), none⟩]) (.seq (.block 0 (.seq (.reg [⟨(some 4), (.mv (.t 0)), none⟩, ⟨(some 5), (.bin .leq (.c (.int .i32 (0))) (.t 4)), none⟩, ⟨(some 6), (.mv (.t 5)), none⟩, ⟨(some 7), (.mv (.t 0)), (some (6, true))⟩, ⟨(some 8), (.bin .lss (.t 7) (.c (.int .i32 (55296)))), (some (6, true))⟩, ⟨(some 9), (.pick (.t 6) (.t 8) (.c (.bool false))), none⟩, ⟨(some 3), (.mv (.t 9)), none⟩]) (.cond (.t 3) (.seq (.reg [⟨(some 2), (.mv (.c (.bool true))), none⟩]) .ret) (.seq (.reg [⟨(some 11), (.mv (.t 0)), none⟩, ⟨(some 12), (.bin .lss (.c (.int .i32 (57343))) (.t 11)), none⟩, ⟨(some 13), (.mv (.t 12)), none⟩, ⟨(some 14), (.mv (.t 0)), (some (13, true))⟩, ⟨(some 15), (.bin .leq (.t 14) (.c (.int .i32 (1114111)))), (some (13, true))⟩, ⟨(some 16), (.pick (.t 13) (.t 15) (.c (.bool false))), none⟩, ⟨(some 10), (.mv (.t 16)), none⟩]) (.cond (.t 10) (.seq (.reg [⟨(some 2), (.mv (.c (.bool true))), none⟩]) .ret) .skip))))) (.seq (.reg [⟨(some 2), (.mv (.c (.bool false))), none⟩]) .ret))), [(.tmp 2)]⟩
theorem hc33 : toSF Tryd.prog {} Tryd.f33 = some c33 := by kernel_rfl
theorem hn33 : (Tryd.f33.name == "runtime.NumGoroutine") = false := by kernel_rfl
theorem validRune_ok (r : Int) : PCalls (Pg G) 33 [.int .i32 r] (.bool (validR r)) := fun h => by
  refine dcalls_of_vc Tryd.func33 hn33 hc33 (by rw [Tryd.ntmps33]; simp) (by rw [Tryd.ntmps33]; decide) ?_
  unfold validR
  by_cases h1 : 0 ≤ r <;> by_cases h2 : r < 55296 <;> by_cases h3 : 57343 < r <;> by_cases h4 : r ≤ 1114111
  all_goals simp only [h1, h2, h3, h4, decide_true, decide_false, Bool.and_true, Bool.and_false, Bool.true_and, Bool.false_and, Bool.or_true, Bool.or_false, Bool.true_or, Bool.false_or]
  all_goals first | omega | skip
  all_goals (
    simp -dsimp -implicitDefEqProofs (disch := omega) only [↓vcOps_sp 6, ↓vcD_sp 6, ↓vcOps_sp 13, ↓vcD_sp 13, VCA, pg_gl, ↓upd_none, Nat.reduceEqDiff, Nat.reduceBEq, Nat.reduceAdd, Nat.reduceSub, Nat.reduceMul, Nat.reduceLT, Nat.reduceLeDiff, ↓reduceIte, reduceCtorEq, rsOf, rootsOf, SOp.rd, SI.rd, SX.rd, rdL, rdO, rdP, okParts, eqCells, okEqCells, fillA, okFill, setAt, implies_true, forall_const, forall_eq, ne_eq, exists_eq_right_right, exists_eq_right, exists_eq_left, exists_eq_left', eRune, c33, h1, h2, h3, h4, decide_true, decide_false]
    exact Sub.refl _)
theorem encode_valid (r : Int) : Lib.encodeRune (if validR r = true then r else 65533) = Lib.encodeRune r := by
  split
  · rfl
  · rename_i h
    have h : r < 0 ∨ (55296 ≤ r ∧ r ≤ 57343) ∨ 1114111 < r := by
      simp [validR] at h; omega
    simp only [Lib.encodeRune]
    rw [Lib.encodeRuneZ_bad h, Lib.encodeRuneZ_three (by omega)]
    rfl
theorem encode_len (r : Int) : (Lib.encodeRune r).length ≤ 4 := by
  unfold Lib.encodeRune Lib.encodeRuneZ; repeat' split
  all_goals simp
def c20 : SFun := ⟨(.seq (.seq (.reg [⟨(some 4), (.mv (.t 1)), none⟩, ⟨(some 5), (.pcall 33 [(.t 4)]), none⟩, ⟨(some 6), (.un .not (.t 5)), none⟩]) (.cond (.t 6) (.reg [⟨(some 1), (.mv (.c (.int .i32 (65533)))), none⟩]) .skip)) (.reg [⟨(some 7), (.mv (.t 0)), none⟩, ⟨(some 8), (.mv (.t 1)), none⟩, ⟨(some 9), (.call (.c (.fn 34 [] [])) [(.t 7), (.t 8)]), none⟩])), []⟩
theorem hc20 : toSF Tryd.prog {pure := [33]} Tryd.f20 = some c20 := by kernel_rfl
theorem hn20 : (Tryd.f20.name == "runtime.NumGoroutine") = false := by kernel_rfl
theorem write_ok {h0 h : Heap} {rb : Nat} {s : List UInt8} (r : Int) (B : Bl h0 rb s h) (h1 : -2147483648 ≤ r) (h2 : r ≤ 2147483647) (hs : s.length + 4 ≤ 140737488355328) :
    DCalls (Pg G) 20 [.vp rb 0, .int .i32 r] h fun a h' => a = .tup [] ∧ Bl h0 rb (s ++ Lib.encodeRune r) h' := by
  have hv := encode_valid r
  refine dcalls_of_vc Tryd.func20 hn20 hc20 (by rw [Tryd.ntmps20]; simp) (by rw [Tryd.ntmps20]; decide) ?_
  simp -dsimp -implicitDefEqProofs (disch := omega) only [VCA, pg_gl, ↓upd_none, Nat.reduceEqDiff, Nat.reduceBEq, Nat.reduceAdd, Nat.reduceSub, Nat.reduceMul, Nat.reduceLT, Nat.reduceLeDiff, ↓reduceIte, reduceCtorEq, rsOf, rootsOf, SOp.rd, SI.rd, SX.rd, rdL, rdO, rdP, okParts, eqCells, okEqCells, fillA, okFill, setAt, implies_true, forall_const, forall_eq, ne_eq, exists_eq_right_right, exists_eq_right, exists_eq_left, exists_eq_left', eRune, c20]
  refine pcallE.of (validRune_ok r) ?_; simp -dsimp -implicitDefEqProofs (disch := omega) only [VCA, pg_gl, ↓upd_none, Nat.reduceEqDiff, Nat.reduceBEq, Nat.reduceAdd, Nat.reduceSub, Nat.reduceMul, Nat.reduceLT, Nat.reduceLeDiff, ↓reduceIte, reduceCtorEq, rsOf, rootsOf, SOp.rd, SI.rd, SX.rd, rdL, rdO, rdP, okParts, eqCells, okEqCells, fillA, okFill, setAt, implies_true, forall_const, forall_eq, ne_eq, exists_eq_right_right, exists_eq_right, exists_eq_left, exists_eq_left', eRune]
  cases hb : validR r
  · simp -dsimp -implicitDefEqProofs (disch := omega) only [VCA, pg_gl, ↓upd_none, Nat.reduceEqDiff, Nat.reduceBEq, Nat.reduceAdd, Nat.reduceSub, Nat.reduceMul, Nat.reduceLT, Nat.reduceLeDiff, ↓reduceIte, reduceCtorEq, rsOf, rootsOf, SOp.rd, SI.rd, SX.rd, rdL, rdO, rdP, okParts, eqCells, okEqCells, fillA, okFill, setAt, implies_true, forall_const, forall_eq, ne_eq, exists_eq_right_right, exists_eq_right, exists_eq_left, exists_eq_left', eRune]
    rw [hb] at hv
    refine DCalls.of (writeRune_ok 65533 B (by omega) (by omega) hs) ?_
    rintro a h' ⟨⟨n, rfl⟩, B'⟩
    simp -dsimp -implicitDefEqProofs (disch := omega) only [VCA, pg_gl, ↓upd_none, Nat.reduceEqDiff, Nat.reduceBEq, Nat.reduceAdd, Nat.reduceSub, Nat.reduceMul, Nat.reduceLT, Nat.reduceLeDiff, ↓reduceIte, reduceCtorEq, rsOf, rootsOf, SOp.rd, SI.rd, SX.rd, rdL, rdO, rdP, okParts, eqCells, okEqCells, fillA, okFill, setAt, implies_true, forall_const, forall_eq, ne_eq, exists_eq_right_right, exists_eq_right, exists_eq_left, exists_eq_left', eRune]
    refine ⟨_, Sub.refl _, ?_⟩
    simpa [← hv] using B'
  · simp -dsimp -implicitDefEqProofs (disch := omega) only [VCA, pg_gl, ↓upd_none, Nat.reduceEqDiff, Nat.reduceBEq, Nat.reduceAdd, Nat.reduceSub, Nat.reduceMul, Nat.reduceLT, Nat.reduceLeDiff, ↓reduceIte, reduceCtorEq, rsOf, rootsOf, SOp.rd, SI.rd, SX.rd, rdL, rdO, rdP, okParts, eqCells, okEqCells, fillA, okFill, setAt, implies_true, forall_const, forall_eq, ne_eq, exists_eq_right_right, exists_eq_right, exists_eq_left, exists_eq_left', eRune]
    refine DCalls.of (writeRune_ok r B h1 h2 hs) ?_
    rintro a h' ⟨⟨n, rfl⟩, B'⟩
    simp -dsimp -implicitDefEqProofs (disch := omega) only [VCA, pg_gl, ↓upd_none, Nat.reduceEqDiff, Nat.reduceBEq, Nat.reduceAdd, Nat.reduceSub, Nat.reduceMul, Nat.reduceLT, Nat.reduceLeDiff, ↓reduceIte, reduceCtorEq, rsOf, rootsOf, SOp.rd, SI.rd, SX.rd, rdL, rdO, rdP, okParts, eqCells, okEqCells, fillA, okFill, setAt, implies_true, forall_const, forall_eq, ne_eq, exists_eq_right_right, exists_eq_right, exists_eq_left, exists_eq_left', eRune]
    exact ⟨_, Sub.refl _, B'⟩
def encM (l : List Int) : List UInt8 := (l.map Lib.encodeRune).flatten
theorem encM_app (l : List Int) (r : Int) : encM (l ++ [r]) = encM l ++ Lib.encodeRune r := by simp [encM]
theorem encM_len (l : List Int) : (encM l).length ≤ 4 * l.length := by
  induction l with
  | nil => simp [encM]
  | cons a r ih => have := encode_len a; simp [encM] at ih ⊢; omega
def c7 : SFun := ⟨(.seq (.reg [⟨(some 2), (.mv (.c (.str []))), none⟩]) (.seq (.reg [⟨(some 3), (.new 38 2 [(.prim (Value.pointer none)), .emp]), none⟩]) (.seq (.seq (.reg [⟨(some 6), (.mv (.t 0)), none⟩, ⟨(some 7), (.len (.t 6)), none⟩, ⟨(some 8), (.mv (.c (.int .i64 (0)))), none⟩]) (.block 0 (.loop (.seq (.reg [⟨(some 9), (.bin .lss (.t 8) (.t 7)), none⟩]) (.seq (.cond (.t 9) .skip (.exit 0)) (.seq (.block 1 (.seq (.reg [⟨(some 10), (.idxA 1 (.t 6) (.t 8)), none⟩, ⟨(some 11), (.ld 1 false (.t 10)), none⟩, ⟨(some 5), (.mv (.t 11)), none⟩]) (.reg [⟨(some 12), (.mv (.t 5)), none⟩, ⟨(some 13), (.call (.c (.fn 20 [] [])) [(.t 3), (.t 12)]), none⟩]))) (.reg [⟨(some 14), (.bin .add (.t 8) (.c (.int .i64 (1)))), none⟩, ⟨(some 8), (.mv (.t 14)), none⟩]))))))) (.seq (.reg [⟨(some 15), (.call (.c (.fn 21 [] [])) [(.t 3)]), none⟩, ⟨(some 2), (.mv (.t 15)), none⟩]) .ret)))), [(.tmp 2)]⟩
theorem hc7 : toSF Tryd.prog {} Tryd.f7 = some c7 := by kernel_rfl
theorem hn7 : (Tryd.f7.name == "runtime.NumGoroutine") = false := by kernel_rfl
theorem encode_ok (l : List Int) (hr : I32 l) (hl : l.length ≤ 1073741824) : PCalls (Pg G) 7 [sl eRune l] (.str (encM l)) := fun h => by
  refine dcalls_of_vc Tryd.func7 hn7 hc7 (by rw [Tryd.ntmps7]; simp) (by rw [Tryd.ntmps7]; decide) ?_
  simp -dsimp -implicitDefEqProofs (disch := omega) only [VCA, pg_gl, ↓upd_none, Nat.reduceEqDiff, Nat.reduceBEq, Nat.reduceAdd, Nat.reduceSub, Nat.reduceMul, Nat.reduceLT, Nat.reduceLeDiff, ↓reduceIte, reduceCtorEq, rsOf, rootsOf, SOp.rd, SI.rd, SX.rd, rdL, rdO, rdP, okParts, eqCells, okEqCells, fillA, okFill, setAt, implies_true, forall_const, forall_eq, ne_eq, exists_eq_right_right, exists_eq_right, exists_eq_left, exists_eq_left', eRune, c7]
  intro rb h0
  refine LoopVC.intro (fun m e h' => ∃ k : Nat, k ≤ l.length ∧ m = l.length - k ∧ e 3 = .vp rb 0 ∧ e 6 = sl eRune l ∧ e 7 = aInt l.length ∧ e 8 = aInt k ∧ Bl h rb (encM (l.take k)) h') l.length ⟨0, by omega, by omega, rfl, rfl, rfl, rfl, Bl.new h rb h0⟩ ?_
  rintro m e h' ⟨k, hk, rfl, he3, he6, he7, he8, B⟩
  simp -dsimp -implicitDefEqProofs (disch := omega) only [VCA, pg_gl, ↓upd_none, Nat.reduceEqDiff, Nat.reduceBEq, Nat.reduceAdd, Nat.reduceSub, Nat.reduceMul, Nat.reduceLT, Nat.reduceLeDiff, ↓reduceIte, reduceCtorEq, rsOf, rootsOf, SOp.rd, SI.rd, SX.rd, rdL, rdO, rdP, okParts, eqCells, okEqCells, fillA, okFill, setAt, implies_true, forall_const, forall_eq, ne_eq, exists_eq_right_right, exists_eq_right, exists_eq_left, exists_eq_left', eRune, he3, he6, he7, he8]
  refine Br.dec (fun hlt => ?_) (fun hge => ?_)
  · simp -dsimp -implicitDefEqProofs (disch := omega) only [VCA, pg_gl, ↓upd_none, Nat.reduceEqDiff, Nat.reduceBEq, Nat.reduceAdd, Nat.reduceSub, Nat.reduceMul, Nat.reduceLT, Nat.reduceLeDiff, ↓reduceIte, reduceCtorEq, rsOf, rootsOf, SOp.rd, SI.rd, SX.rd, rdL, rdO, rdP, okParts, eqCells, okEqCells, fillA, okFill, setAt, implies_true, forall_const, forall_eq, ne_eq, exists_eq_right_right, exists_eq_right, exists_eq_left, exists_eq_left', eRune, he3, he6, he7, he8]
    refine ⟨by omega, ?_⟩
    have hm := hr (nth l k) (nth_mem' (by omega))
    have hle := encM_len (l.take k)
    rw [List.length_take] at hle
    refine DCalls.of (write_ok (nth l k) B hm.1 hm.2 (by omega)) ?_
    rintro a h2 ⟨rfl, B'⟩
    simp -dsimp -implicitDefEqProofs (disch := omega) only [VCA, pg_gl, ↓upd_none, Nat.reduceEqDiff, Nat.reduceBEq, Nat.reduceAdd, Nat.reduceSub, Nat.reduceMul, Nat.reduceLT, Nat.reduceLeDiff, ↓reduceIte, reduceCtorEq, rsOf, rootsOf, SOp.rd, SI.rd, SX.rd, rdL, rdO, rdP, okParts, eqCells, okEqCells, fillA, okFill, setAt, implies_true, forall_const, forall_eq, ne_eq, exists_eq_right_right, exists_eq_right, exists_eq_left, exists_eq_left', eRune, he3, he6, he7, he8]
    refine ⟨_, ?_, k + 1, by omega, rfl, by omega, ?_⟩
    · omega
    · rw [← encM_app] at B'
      rwa [← take_snoc (by omega)] at B'
  · simp -dsimp -implicitDefEqProofs (disch := omega) only [VCA, pg_gl, ↓upd_none, Nat.reduceEqDiff, Nat.reduceBEq, Nat.reduceAdd, Nat.reduceSub, Nat.reduceMul, Nat.reduceLT, Nat.reduceLeDiff, ↓reduceIte, reduceCtorEq, rsOf, rootsOf, SOp.rd, SI.rd, SX.rd, rdL, rdO, rdP, okParts, eqCells, okEqCells, fillA, okFill, setAt, implies_true, forall_const, forall_eq, ne_eq, exists_eq_right_right, exists_eq_right, exists_eq_left, exists_eq_left', eRune, he3, he6, he7, he8]
    have hkl : k = l.length := by omega
    subst hkl
    rw [List.take_length] at B
    have hle := encM_len l
    refine DCalls.of (string_ok B (by omega)) ?_
    rintro a h2 ⟨rfl, S⟩
    simp -dsimp -implicitDefEqProofs (disch := omega) only [VCA, pg_gl, ↓upd_none, Nat.reduceEqDiff, Nat.reduceBEq, Nat.reduceAdd, Nat.reduceSub, Nat.reduceMul, Nat.reduceLT, Nat.reduceLeDiff, ↓reduceIte, reduceCtorEq, rsOf, rootsOf, SOp.rd, SI.rd, SX.rd, rdL, rdO, rdP, okParts, eqCells, okEqCells, fillA, okFill, setAt, implies_true, forall_const, forall_eq, ne_eq, exists_eq_right_right, exists_eq_right, exists_eq_left, exists_eq_left', eRune]
    exact S

def c25 : SFun := ⟨(.seq (.reg [⟨(some 6), (.mv (.c (.bool false))), none⟩]) (.seq (.reg [⟨(some 7), (.mv (.t 0)), none⟩, ⟨(some 8), (.mv (.t 1)), none⟩, ⟨(some 9), (.bin .geq (.t 7) (.t 8)), none⟩, ⟨(some 10), (.mv (.t 9)), none⟩, ⟨(some 11), (.mv (.t 0)), (some (10, true))⟩, ⟨(some 12), (.mv (.t 2)), (some (10, true))⟩, ⟨(some 13), (.bin .leq (.t 11) (.t 12)), (some (10, true))⟩, ⟨(some 14), (.pick (.t 10) (.t 13) (.c (.bool false))), none⟩, ⟨(some 6), (.mv (.t 14)), none⟩]) .ret)), [(.tmp 6)]⟩
theorem hc25 : toSF Tryd.prog {} Tryd.f25 = some c25 := by kernel_rfl
theorem hn25 : (Tryd.f25.name == "runtime.NumGoroutine") = false := by kernel_rfl
theorem between_ok (n a b : Int) : PCalls (Pg G) 25 [aInt n, aInt a, aInt b] (.bool (decide (a ≤ n) && decide (n ≤ b))) := fun h => by
  refine dcalls_of_vc Tryd.func25 hn25 hc25 (by rw [Tryd.ntmps25]; simp) (by rw [Tryd.ntmps25]; decide) ?_
  by_cases h1 : a ≤ n <;> by_cases h2 : n ≤ b <;> (
    simp -dsimp -implicitDefEqProofs (disch := omega) only [↓vcOps_sp 10, ↓vcD_sp 10, VCA, pg_gl, ↓upd_none, Nat.reduceEqDiff, Nat.reduceBEq, Nat.reduceAdd, Nat.reduceSub, Nat.reduceMul, Nat.reduceLT, Nat.reduceLeDiff, ↓reduceIte, reduceCtorEq, rsOf, rootsOf, SOp.rd, SI.rd, SX.rd, rdL, rdO, rdP, okParts, eqCells, okEqCells, fillA, okFill, setAt, implies_true, forall_const, forall_eq, ne_eq, exists_eq_right_right, exists_eq_right, exists_eq_left, exists_eq_left', eRune, c25, h1, h2, decide_true, decide_false, Bool.true_and, Bool.false_and]
    exact Sub.refl _)
theorem strEs_append (a b : List UInt8) : strEs (a ++ b) = strEs a ++ strEs b := by simp [strEs]
def c11 : SFun := ⟨(.seq (.reg [⟨(some 2), (.mv (.c (.str []))), none⟩]) (.seq (.reg [⟨(some 3), (.mv (.c .emp)), none⟩]) (.seq (.seq (.reg [⟨(some 4), (.mv (.c (.int .i64 (0)))), none⟩]) (.block 0 (.loop (.seq (.seq (.reg [⟨(some 6), (.mv (.t 4)), none⟩, ⟨(some 7), (.mv (.t 0)), none⟩, ⟨(some 8), (.len (.t 7)), none⟩, ⟨(some 9), (.bin .lss (.t 6) (.t 8)), none⟩]) (.cond (.t 9) .skip (.exit 0))) (.seq (.block 1 (.seq (.reg [⟨(some 12), (.mv (.t 0)), none⟩, ⟨(some 13), (.mv (.t 4)), none⟩, ⟨(some 14), (.idxA 1 (.t 12) (.t 13)), none⟩, ⟨(some 15), (.ld 1 false (.t 14)), none⟩, ⟨(some 16), (.cvi .i64 (.t 15)), none⟩, ⟨(some 5), (.mv (.t 16)), none⟩]) (.seq (.seq (.reg [⟨(some 17), (.mv (.t 5)), none⟩, ⟨(some 18), (.bin .lss (.t 17) (.c (.int .i64 (0)))), none⟩, ⟨(some 19), (.mv (.t 18)), none⟩, ⟨(some 20), (.mv (.t 5)), (some (19, false))⟩, ⟨(some 21), (.pcall 25 [(.t 20), (.c (.int .i64 (55296))), (.c (.int .i64 (57343)))]), (some (19, false))⟩, ⟨(some 22), (.pick (.t 19) (.c (.bool true)) (.t 21)), none⟩, ⟨(some 23), (.mv (.t 22)), none⟩, ⟨(some 24), (.mv (.t 5)), (some (23, false))⟩, ⟨(some 25), (.bin .gtr (.t 24) (.c (.int .i64 (1114111)))), (some (23, false))⟩, ⟨(some 26), (.pick (.t 23) (.c (.bool true)) (.t 25)), none⟩]) (.cond (.t 26) (.reg [⟨(some 5), (.mv (.c (.int .i64 (65533)))), none⟩]) .skip)) (.seq (.reg [⟨(some 27), (.mv (.t 5)), none⟩, ⟨(some 28), (.bin .lss (.t 27) (.c (.int .i64 (128)))), none⟩]) (.cond (.t 28) (.reg [⟨(some 29), (.mv (.t 3)), none⟩, ⟨(some 30), (.mv (.t 5)), none⟩, ⟨(some 31), (.cvi .u8 (.t 30)), none⟩, ⟨(some 32), (.bldF 5 1 [(.t 31)]), none⟩, ⟨(some 33), (.app 5 1 1 (.t 29) (.t 32)), none⟩, ⟨(some 3), (.mv (.t 33)), none⟩]) (.seq (.reg [⟨(some 34), (.mv (.t 5)), none⟩, ⟨(some 35), (.bin .lss (.t 34) (.c (.int .i64 (2048)))), none⟩]) (.cond (.t 35) (.reg [⟨(some 36), (.mv (.t 3)), none⟩, ⟨(some 37), (.mv (.t 5)), none⟩, ⟨(some 38), (.bin .quo (.t 37) (.c (.int .i64 (64)))), none⟩, ⟨(some 39), (.bin .add (.c (.int .i64 (192))) (.t 38)), none⟩, ⟨(some 40), (.cvi .u8 (.t 39)), none⟩, ⟨(some 41), (.mv (.t 5)), none⟩, ⟨(some 42), (.bin .rem (.t 41) (.c (.int .i64 (64)))), none⟩, ⟨(some 43), (.bin .add (.c (.int .i64 (128))) (.t 42)), none⟩, ⟨(some 44), (.cvi .u8 (.t 43)), none⟩, ⟨(some 45), (.bldF 5 1 [(.t 40), (.t 44)]), none⟩, ⟨(some 46), (.app 5 1 1 (.t 36) (.t 45)), none⟩, ⟨(some 3), (.mv (.t 46)), none⟩]) (.seq (.reg [⟨(some 47), (.mv (.t 5)), none⟩, ⟨(some 48), (.bin .lss (.t 47) (.c (.int .i64 (65536)))), none⟩]) (.cond (.t 48) (.reg [⟨(some 49), (.mv (.t 3)), none⟩, ⟨(some 50), (.mv (.t 5)), none⟩, ⟨(some 51), (.bin .quo (.t 50) (.c (.int .i64 (4096)))), none⟩, ⟨(some 52), (.bin .add (.c (.int .i64 (224))) (.t 51)), none⟩, ⟨(some 53), (.cvi .u8 (.t 52)), none⟩, ⟨(some 54), (.mv (.t 5)), none⟩, ⟨(some 55), (.bin .quo (.t 54) (.c (.int .i64 (64)))), none⟩, ⟨(some 56), (.bin .rem (.t 55) (.c (.int .i64 (64)))), none⟩, ⟨(some 57), (.bin .add (.c (.int .i64 (128))) (.t 56)), none⟩, ⟨(some 58), (.cvi .u8 (.t 57)), none⟩, ⟨(some 59), (.mv (.t 5)), none⟩, ⟨(some 60), (.bin .rem (.t 59) (.c (.int .i64 (64)))), none⟩, ⟨(some 61), (.bin .add (.c (.int .i64 (128))) (.t 60)), none⟩, ⟨(some 62), (.cvi .u8 (.t 61)), none⟩, ⟨(some 63), (.bldF 5 1 [(.t 53), (.t 58), (.t 62)]), none⟩, ⟨(some 64), (.app 5 1 1 (.t 49) (.t 63)), none⟩, ⟨(some 3), (.mv (.t 64)), none⟩]) (.reg [⟨(some 65), (.mv (.t 3)), none⟩, ⟨(some 66), (.mv (.t 5)), none⟩, ⟨(some 67), (.bin .quo (.t 66) (.c (.int .i64 (262144)))), none⟩, ⟨(some 68), (.bin .add (.c (.int .i64 (240))) (.t 67)), none⟩, ⟨(some 69), (.cvi .u8 (.t 68)), none⟩, ⟨(some 70), (.mv (.t 5)), none⟩, ⟨(some 71), (.bin .quo (.t 70) (.c (.int .i64 (4096)))), none⟩, ⟨(some 72), (.bin .rem (.t 71) (.c (.int .i64 (64)))), none⟩, ⟨(some 73), (.bin .add (.c (.int .i64 (128))) (.t 72)), none⟩, ⟨(some 74), (.cvi .u8 (.t 73)), none⟩, ⟨(some 75), (.mv (.t 5)), none⟩, ⟨(some 76), (.bin .quo (.t 75) (.c (.int .i64 (64)))), none⟩, ⟨(some 77), (.bin .rem (.t 76) (.c (.int .i64 (64)))), none⟩, ⟨(some 78), (.bin .add (.c (.int .i64 (128))) (.t 77)), none⟩, ⟨(some 79), (.cvi .u8 (.t 78)), none⟩, ⟨(some 80), (.mv (.t 5)), none⟩, ⟨(some 81), (.bin .rem (.t 80) (.c (.int .i64 (64)))), none⟩, ⟨(some 82), (.bin .add (.c (.int .i64 (128))) (.t 81)), none⟩, ⟨(some 83), (.cvi .u8 (.t 82)), none⟩, ⟨(some 84), (.bldF 5 1 [(.t 69), (.t 74), (.t 79), (.t 83)]), none⟩, ⟨(some 85), (.app 5 1 1 (.t 65) (.t 84)), none⟩, ⟨(some 3), (.mv (.t 85)), none⟩])))))))))) (.reg [⟨(some 10), (.mv (.t 4)), none⟩, ⟨(some 11), (.bin .add (.t 10) (.c (.int .i64 (1)))), none⟩, ⟨(some 4), (.mv (.t 11)), none⟩])))))) (.seq (.reg [⟨(some 86), (.mv (.t 3)), none⟩, ⟨(some 87), (.b2s (.t 86)), none⟩, ⟨(some 2), (.mv (.t 87)), none⟩]) .ret)))), [(.tmp 2)]⟩
theorem hc11 : toSF Tryd.prog {pure := [25]} Tryd.f11 = some c11 := by kernel_rfl
theorem hn11 : (Tryd.f11.name == "runtime.NumGoroutine") = false := by kernel_rfl
theorem refEncode_ok (l : List Int) (hr : I32 l) (hl : l.length ≤ 1073741824) : PCalls (Pg G) 11 [sl eRune l] (.str (encM l)) := fun h => by
  refine dcalls_of_vc Tryd.func11 hn11 hc11 (by rw [Tryd.ntmps11]; simp) (by rw [Tryd.ntmps11]; decide) ?_
  simp -dsimp -implicitDefEqProofs (disch := omega) only [↓vcOps_sp 19, ↓vcD_sp 19, ↓vcOps_sp 23, ↓vcD_sp 23, VCA, pg_gl, ↓upd_none, Nat.reduceEqDiff, Nat.reduceBEq, Nat.reduceAdd, Nat.reduceSub, Nat.reduceMul, Nat.reduceLT, Nat.reduceLeDiff, ↓reduceIte, reduceCtorEq, rsOf, rootsOf, SOp.rd, SI.rd, SX.rd, rdL, rdO, rdP, okParts, eqCells, okEqCells, fillA, okFill, setAt, implies_true, forall_const, forall_eq, ne_eq, exists_eq_right_right, exists_eq_right, exists_eq_left, exists_eq_left', eRune, c11]
  refine LoopVC.intro (fun m e h' => ∃ k : Nat, k ≤ l.length ∧ m = l.length - k ∧ e 0 = sl eRune l ∧ e 4 = aInt k ∧ Acc h Tu 1 (strEs (encM (l.take k))) (e 3) h' ∧ Sub h h') l.length ⟨0, by omega, by omega, rfl, rfl, Acc.nil, Sub.refl _⟩ ?_
  rintro m e h' ⟨k, hk, rfl, he0, he4, A, S⟩
  simp -dsimp -implicitDefEqProofs (disch := omega) only [↓vcOps_sp 19, ↓vcD_sp 19, ↓vcOps_sp 23, ↓vcD_sp 23, VCA, pg_gl, ↓upd_none, Nat.reduceEqDiff, Nat.reduceBEq, Nat.reduceAdd, Nat.reduceSub, Nat.reduceMul, Nat.reduceLT, Nat.reduceLeDiff, ↓reduceIte, reduceCtorEq, rsOf, rootsOf, SOp.rd, SI.rd, SX.rd, rdL, rdO, rdP, okParts, eqCells, okEqCells, fillA, okFill, setAt, implies_true, forall_const, forall_eq, ne_eq, exists_eq_right_right, exists_eq_right, exists_eq_left, exists_eq_left', eRune, he0, he4]
  refine Br.dec (fun hlt => ?_) (fun hge => ?_)
  · simp -dsimp -implicitDefEqProofs (disch := omega) only [↓vcOps_sp 19, ↓vcD_sp 19, ↓vcOps_sp 23, ↓vcD_sp 23, VCA, pg_gl, ↓upd_none, Nat.reduceEqDiff, Nat.reduceBEq, Nat.reduceAdd, Nat.reduceSub, Nat.reduceMul, Nat.reduceLT, Nat.reduceLeDiff, ↓reduceIte, reduceCtorEq, rsOf, rootsOf, SOp.rd, SI.rd, SX.rd, rdL, rdO, rdP, okParts, eqCells, okEqCells, fillA, okFill, setAt, implies_true, forall_const, forall_eq, ne_eq, exists_eq_right_right, exists_eq_right, exists_eq_left, exists_eq_left', eRune, he0, he4]
    refine ⟨by omega, ?_⟩
    have hm := hr (nth l k) (nth_mem' (by omega))
    have hle := encM_len (l.take k)
    rw [List.length_take] at hle
    have hw : IntKind.i64.wrap (nth l k) = nth l k := by rw [IntKind.wrap_i64]; omega
    have hN : encM (l.take (k + 1)) = encM (l.take k) ++ Lib.encodeRune (nth l k) := by rw [take_snoc (by omega), encM_app]
    have hgo : ∀ (a' : AVal) (h2 : Heap), Acc h Tu 1 (strEs (encM (l.take k)) ++ (Lib.encodeRuneZ (nth l k)).map fun x => [.int .u8 x]) a' h2 → Acc h Tu 1 (strEs (encM (l.take (k + 1)))) a' h2 := by
      intro a' h2 h3
      rw [hN, strEs_append, str_rune]; exact h3
    generalize nth l k = x at hm hw hgo
    have k1 : decide ((65533 : Int) < 128) = false := rfl
    have k2 : decide ((65533 : Int) < 2048) = false := rfl
    have k3 : decide ((65533 : Int) < 65536) = true := rfl
    have q : 0 ≤ x → x.tdiv 64 = x / 64 ∧ x.tdiv 4096 = x / 4096 ∧ x.tdiv 262144 = x / 262144 ∧ x.tmod 64 = x % 64 ∧ (x / 64).tmod 64 = x / 64 % 64 ∧ (x / 4096).tmod 64 = x / 4096 % 64 := fun h =>
      ⟨Int.tdiv_eq_ediv_of_nonneg h, Int.tdiv_eq_ediv_of_nonneg h, Int.tdiv_eq_ediv_of_nonneg h, Int.tmod_eq_emod_of_nonneg h, Int.tmod_eq_emod_of_nonneg (by omega), Int.tmod_eq_emod_of_nonneg (by omega)⟩
    have ww : 0 ≤ x → IntKind.i64.wrap (x / 64) = x / 64 ∧ IntKind.i64.wrap (x / 4096) = x / 4096 ∧ IntKind.i64.wrap (x / 262144) = x / 262144 := fun h => by
      simp only [IntKind.wrap_i64]; omega
    rcases (by omega : x < 0 ∨ (0 ≤ x ∧ x ≤ 127) ∨ (128 ≤ x ∧ x ≤ 2047) ∨ (2048 ≤ x ∧ x < 55296) ∨ (55296 ≤ x ∧ x ≤ 57343) ∨ (57343 < x ∧ x ≤ 65535) ∨ (65536 ≤ x ∧ x ≤ 1114111) ∨ 1114111 < x) with hc | hc | hc | hc | hc | hc | hc | hc
    · have d0 : decide (x < 0) = true := by simp; omega
      simp -dsimp -implicitDefEqProofs (disch := omega) only [↓vcOps_sp 19, ↓vcD_sp 19, ↓vcOps_sp 23, ↓vcD_sp 23, VCA, pg_gl, ↓upd_none, Nat.reduceEqDiff, Nat.reduceBEq, Nat.reduceAdd, Nat.reduceSub, Nat.reduceMul, Nat.reduceLT, Nat.reduceLeDiff, ↓reduceIte, reduceCtorEq, rsOf, rootsOf, SOp.rd, SI.rd, SX.rd, rdL, rdO, rdP, okParts, eqCells, okEqCells, fillA, okFill, setAt, implies_true, forall_const, forall_eq, ne_eq, exists_eq_right_right, exists_eq_right, exists_eq_left, exists_eq_left', eRune, hw, he0, he4, d0, k1, k2, k3]
      refine ⟨by decide, by decide, by decide, by decide, _, ⟨rfl, by intro e he; rcases he with rfl | rfl | rfl <;> rfl⟩, ?_⟩
      refine A.app S (by simp [strEs]; omega) (by simp [strEs]; omega) fun a' h3 A' S' => ?_
      simp -dsimp -implicitDefEqProofs (disch := omega) only [↓vcOps_sp 19, ↓vcD_sp 19, ↓vcOps_sp 23, ↓vcD_sp 23, VCA, pg_gl, ↓upd_none, Nat.reduceEqDiff, Nat.reduceBEq, Nat.reduceAdd, Nat.reduceSub, Nat.reduceMul, Nat.reduceLT, Nat.reduceLeDiff, ↓reduceIte, reduceCtorEq, rsOf, rootsOf, SOp.rd, SI.rd, SX.rd, rdL, rdO, rdP, okParts, eqCells, okEqCells, fillA, okFill, setAt, implies_true, forall_const, forall_eq, ne_eq, exists_eq_right_right, exists_eq_right, exists_eq_left, exists_eq_left', eRune, hw, he0, he4, d0, k1, k2, k3]
      refine ⟨_, ?_, k + 1, by omega, rfl, by omega, hgo _ _ ?_, S'⟩
      · omega
      · rw [Lib.encodeRuneZ_bad (.inl hc)]
        refine Eq.mp (congrArg (fun z => Acc h Tu 1 (strEs (encM (l.take k)) ++ z) a' h3) ?_) A'
        rfl
    · have d0 : decide (x < 0) = false := by simp; omega
      have d1 : decide (x < 128) = true := by simp; omega
      have d4 : decide (1114111 < x) = false := by simp; omega
      have db : (decide (55296 ≤ x) && decide (x ≤ 57343)) = false := by simp; omega
      simp -dsimp -implicitDefEqProofs (disch := omega) only [↓vcOps_sp 19, ↓vcD_sp 19, ↓vcOps_sp 23, ↓vcD_sp 23, VCA, pg_gl, ↓upd_none, Nat.reduceEqDiff, Nat.reduceBEq, Nat.reduceAdd, Nat.reduceSub, Nat.reduceMul, Nat.reduceLT, Nat.reduceLeDiff, ↓reduceIte, reduceCtorEq, rsOf, rootsOf, SOp.rd, SI.rd, SX.rd, rdL, rdO, rdP, okParts, eqCells, okEqCells, fillA, okFill, setAt, implies_true, forall_const, forall_eq, ne_eq, exists_eq_right_right, exists_eq_right, exists_eq_left, exists_eq_left', eRune, hw, he0, he4, d0, d1, d4]
      refine pcallE.of (between_ok x 55296 57343) ?_; simp -dsimp -implicitDefEqProofs (disch := omega) only [↓vcOps_sp 19, ↓vcD_sp 19, ↓vcOps_sp 23, ↓vcD_sp 23, VCA, pg_gl, ↓upd_none, Nat.reduceEqDiff, Nat.reduceBEq, Nat.reduceAdd, Nat.reduceSub, Nat.reduceMul, Nat.reduceLT, Nat.reduceLeDiff, ↓reduceIte, reduceCtorEq, rsOf, rootsOf, SOp.rd, SI.rd, SX.rd, rdL, rdO, rdP, okParts, eqCells, okEqCells, fillA, okFill, setAt, implies_true, forall_const, forall_eq, ne_eq, exists_eq_right_right, exists_eq_right, exists_eq_left, exists_eq_left', eRune, db, hw, he0, he4, d0, d1, d4]
      refine A.app S (by simp [strEs]; omega) (by simp [strEs]; omega) fun a' h3 A' S' => ?_
      simp -dsimp -implicitDefEqProofs (disch := omega) only [↓vcOps_sp 19, ↓vcD_sp 19, ↓vcOps_sp 23, ↓vcD_sp 23, VCA, pg_gl, ↓upd_none, Nat.reduceEqDiff, Nat.reduceBEq, Nat.reduceAdd, Nat.reduceSub, Nat.reduceMul, Nat.reduceLT, Nat.reduceLeDiff, ↓reduceIte, reduceCtorEq, rsOf, rootsOf, SOp.rd, SI.rd, SX.rd, rdL, rdO, rdP, okParts, eqCells, okEqCells, fillA, okFill, setAt, implies_true, forall_const, forall_eq, ne_eq, exists_eq_right_right, exists_eq_right, exists_eq_left, exists_eq_left', eRune, hw, he0, he4, d0, d1, d4]
      refine ⟨_, ?_, k + 1, by omega, rfl, by omega, hgo _ _ ?_, S'⟩
      · omega
      · rw [Lib.encodeRuneZ_one hc.1 hc.2]
        refine Eq.mp (congrArg (fun z => Acc h Tu 1 (strEs (encM (l.take k)) ++ z) a' h3) ?_) A'
        obtain ⟨q1, q2, q3, q4, q5, q6⟩ := q (by omega)
        obtain ⟨w1, w2, w3⟩ := ww (by omega)
        simp only [List.map_cons, List.map_nil, List.cons.injEq, AVal.int.injEq, and_true, true_and, q1, q2, q3, w1, w2, w3, q4, q5, q6, IntKind.wrap_u8, IntKind.wrap_i64]
        omega
    · have d0 : decide (x < 0) = false := by simp; omega
      have d1 : decide (x < 128) = false := by simp; omega
      have d2 : decide (x < 2048) = true := by simp; omega
      have d4 : decide (1114111 < x) = false := by simp; omega
      have db : (decide (55296 ≤ x) && decide (x ≤ 57343)) = false := by simp; omega
      simp -dsimp -implicitDefEqProofs (disch := omega) only [↓vcOps_sp 19, ↓vcD_sp 19, ↓vcOps_sp 23, ↓vcD_sp 23, VCA, pg_gl, ↓upd_none, Nat.reduceEqDiff, Nat.reduceBEq, Nat.reduceAdd, Nat.reduceSub, Nat.reduceMul, Nat.reduceLT, Nat.reduceLeDiff, ↓reduceIte, reduceCtorEq, rsOf, rootsOf, SOp.rd, SI.rd, SX.rd, rdL, rdO, rdP, okParts, eqCells, okEqCells, fillA, okFill, setAt, implies_true, forall_const, forall_eq, ne_eq, exists_eq_right_right, exists_eq_right, exists_eq_left, exists_eq_left', eRune, hw, he0, he4, d0, d1, d2, d4]
      refine pcallE.of (between_ok x 55296 57343) ?_; simp -dsimp -implicitDefEqProofs (disch := omega) only [↓vcOps_sp 19, ↓vcD_sp 19, ↓vcOps_sp 23, ↓vcD_sp 23, VCA, pg_gl, ↓upd_none, Nat.reduceEqDiff, Nat.reduceBEq, Nat.reduceAdd, Nat.reduceSub, Nat.reduceMul, Nat.reduceLT, Nat.reduceLeDiff, ↓reduceIte, reduceCtorEq, rsOf, rootsOf, SOp.rd, SI.rd, SX.rd, rdL, rdO, rdP, okParts, eqCells, okEqCells, fillA, okFill, setAt, implies_true, forall_const, forall_eq, ne_eq, exists_eq_right_right, exists_eq_right, exists_eq_left, exists_eq_left', eRune, db, hw, he0, he4, d0, d1, d2, d4]
      refine ⟨by decide, by decide, _, ⟨rfl, by intro e he; rcases he with rfl | rfl <;> rfl⟩, ?_⟩
      refine A.app S (by simp [strEs]; omega) (by simp [strEs]; omega) fun a' h3 A' S' => ?_
      simp -dsimp -implicitDefEqProofs (disch := omega) only [↓vcOps_sp 19, ↓vcD_sp 19, ↓vcOps_sp 23, ↓vcD_sp 23, VCA, pg_gl, ↓upd_none, Nat.reduceEqDiff, Nat.reduceBEq, Nat.reduceAdd, Nat.reduceSub, Nat.reduceMul, Nat.reduceLT, Nat.reduceLeDiff, ↓reduceIte, reduceCtorEq, rsOf, rootsOf, SOp.rd, SI.rd, SX.rd, rdL, rdO, rdP, okParts, eqCells, okEqCells, fillA, okFill, setAt, implies_true, forall_const, forall_eq, ne_eq, exists_eq_right_right, exists_eq_right, exists_eq_left, exists_eq_left', eRune, hw, he0, he4, d0, d1, d2, d4]
      refine ⟨_, ?_, k + 1, by omega, rfl, by omega, hgo _ _ ?_, S'⟩
      · omega
      · rw [Lib.encodeRuneZ_two hc.1 hc.2]
        refine Eq.mp (congrArg (fun z => Acc h Tu 1 (strEs (encM (l.take k)) ++ z) a' h3) ?_) A'
        obtain ⟨q1, q2, q3, q4, q5, q6⟩ := q (by omega)
        obtain ⟨w1, w2, w3⟩ := ww (by omega)
        simp only [List.map_cons, List.map_nil, List.cons.injEq, AVal.int.injEq, and_true, true_and, q1, q2, q3, w1, w2, w3, q4, q5, q6, IntKind.wrap_u8, IntKind.wrap_i64]
        omega
    · have d0 : decide (x < 0) = false := by simp; omega
      have d1 : decide (x < 128) = false := by simp; omega
      have d2 : decide (x < 2048) = false := by simp; omega
      have d3 : decide (x < 65536) = true := by simp; omega
      have d4 : decide (1114111 < x) = false := by simp; omega
      have db : (decide (55296 ≤ x) && decide (x ≤ 57343)) = false := by simp; omega
      simp -dsimp -implicitDefEqProofs (disch := omega) only [↓vcOps_sp 19, ↓vcD_sp 19, ↓vcOps_sp 23, ↓vcD_sp 23, VCA, pg_gl, ↓upd_none, Nat.reduceEqDiff, Nat.reduceBEq, Nat.reduceAdd, Nat.reduceSub, Nat.reduceMul, Nat.reduceLT, Nat.reduceLeDiff, ↓reduceIte, reduceCtorEq, rsOf, rootsOf, SOp.rd, SI.rd, SX.rd, rdL, rdO, rdP, okParts, eqCells, okEqCells, fillA, okFill, setAt, implies_true, forall_const, forall_eq, ne_eq, exists_eq_right_right, exists_eq_right, exists_eq_left, exists_eq_left', eRune, hw, he0, he4, d0, d1, d2, d3, d4]
      refine pcallE.of (between_ok x 55296 57343) ?_; simp -dsimp -implicitDefEqProofs (disch := omega) only [↓vcOps_sp 19, ↓vcD_sp 19, ↓vcOps_sp 23, ↓vcD_sp 23, VCA, pg_gl, ↓upd_none, Nat.reduceEqDiff, Nat.reduceBEq, Nat.reduceAdd, Nat.reduceSub, Nat.reduceMul, Nat.reduceLT, Nat.reduceLeDiff, ↓reduceIte, reduceCtorEq, rsOf, rootsOf, SOp.rd, SI.rd, SX.rd, rdL, rdO, rdP, okParts, eqCells, okEqCells, fillA, okFill, setAt, implies_true, forall_const, forall_eq, ne_eq, exists_eq_right_right, exists_eq_right, exists_eq_left, exists_eq_left', eRune, db, hw, he0, he4, d0, d1, d2, d3, d4]
      refine ⟨by decide, by decide, by decide, by decide, _, ⟨rfl, by intro e he; rcases he with rfl | rfl | rfl <;> rfl⟩, ?_⟩
      refine A.app S (by simp [strEs]; omega) (by simp [strEs]; omega) fun a' h3 A' S' => ?_
      simp -dsimp -implicitDefEqProofs (disch := omega) only [↓vcOps_sp 19, ↓vcD_sp 19, ↓vcOps_sp 23, ↓vcD_sp 23, VCA, pg_gl, ↓upd_none, Nat.reduceEqDiff, Nat.reduceBEq, Nat.reduceAdd, Nat.reduceSub, Nat.reduceMul, Nat.reduceLT, Nat.reduceLeDiff, ↓reduceIte, reduceCtorEq, rsOf, rootsOf, SOp.rd, SI.rd, SX.rd, rdL, rdO, rdP, okParts, eqCells, okEqCells, fillA, okFill, setAt, implies_true, forall_const, forall_eq, ne_eq, exists_eq_right_right, exists_eq_right, exists_eq_left, exists_eq_left', eRune, hw, he0, he4, d0, d1, d2, d3, d4]
      refine ⟨_, ?_, k + 1, by omega, rfl, by omega, hgo _ _ ?_, S'⟩
      · omega
      · rw [Lib.encodeRuneZ_three (.inl hc)]
        refine Eq.mp (congrArg (fun z => Acc h Tu 1 (strEs (encM (l.take k)) ++ z) a' h3) ?_) A'
        obtain ⟨q1, q2, q3, q4, q5, q6⟩ := q (by omega)
        obtain ⟨w1, w2, w3⟩ := ww (by omega)
        simp only [List.map_cons, List.map_nil, List.cons.injEq, AVal.int.injEq, and_true, true_and, q1, q2, q3, w1, w2, w3, q4, q5, q6, IntKind.wrap_u8, IntKind.wrap_i64]
        omega
    · have d0 : decide (x < 0) = false := by simp; omega
      have db : (decide (55296 ≤ x) && decide (x ≤ 57343)) = true := by simp; omega
      simp -dsimp -implicitDefEqProofs (disch := omega) only [↓vcOps_sp 19, ↓vcD_sp 19, ↓vcOps_sp 23, ↓vcD_sp 23, VCA, pg_gl, ↓upd_none, Nat.reduceEqDiff, Nat.reduceBEq, Nat.reduceAdd, Nat.reduceSub, Nat.reduceMul, Nat.reduceLT, Nat.reduceLeDiff, ↓reduceIte, reduceCtorEq, rsOf, rootsOf, SOp.rd, SI.rd, SX.rd, rdL, rdO, rdP, okParts, eqCells, okEqCells, fillA, okFill, setAt, implies_true, forall_const, forall_eq, ne_eq, exists_eq_right_right, exists_eq_right, exists_eq_left, exists_eq_left', eRune, hw, he0, he4, d0, k1, k2, k3]
      refine pcallE.of (between_ok x 55296 57343) ?_; simp -dsimp -implicitDefEqProofs (disch := omega) only [↓vcOps_sp 19, ↓vcD_sp 19, ↓vcOps_sp 23, ↓vcD_sp 23, VCA, pg_gl, ↓upd_none, Nat.reduceEqDiff, Nat.reduceBEq, Nat.reduceAdd, Nat.reduceSub, Nat.reduceMul, Nat.reduceLT, Nat.reduceLeDiff, ↓reduceIte, reduceCtorEq, rsOf, rootsOf, SOp.rd, SI.rd, SX.rd, rdL, rdO, rdP, okParts, eqCells, okEqCells, fillA, okFill, setAt, implies_true, forall_const, forall_eq, ne_eq, exists_eq_right_right, exists_eq_right, exists_eq_left, exists_eq_left', eRune, db, hw, he0, he4, d0, k1, k2, k3]
      refine ⟨by decide, by decide, by decide, by decide, _, ⟨rfl, by intro e he; rcases he with rfl | rfl | rfl <;> rfl⟩, ?_⟩
      refine A.app S (by simp [strEs]; omega) (by simp [strEs]; omega) fun a' h3 A' S' => ?_
      simp -dsimp -implicitDefEqProofs (disch := omega) only [↓vcOps_sp 19, ↓vcD_sp 19, ↓vcOps_sp 23, ↓vcD_sp 23, VCA, pg_gl, ↓upd_none, Nat.reduceEqDiff, Nat.reduceBEq, Nat.reduceAdd, Nat.reduceSub, Nat.reduceMul, Nat.reduceLT, Nat.reduceLeDiff, ↓reduceIte, reduceCtorEq, rsOf, rootsOf, SOp.rd, SI.rd, SX.rd, rdL, rdO, rdP, okParts, eqCells, okEqCells, fillA, okFill, setAt, implies_true, forall_const, forall_eq, ne_eq, exists_eq_right_right, exists_eq_right, exists_eq_left, exists_eq_left', eRune, hw, he0, he4, d0, k1, k2, k3]
      refine ⟨_, ?_, k + 1, by omega, rfl, by omega, hgo _ _ ?_, S'⟩
      · omega
      · rw [Lib.encodeRuneZ_bad (.inr (.inl hc))]
        refine Eq.mp (congrArg (fun z => Acc h Tu 1 (strEs (encM (l.take k)) ++ z) a' h3) ?_) A'
        rfl
    · have d0 : decide (x < 0) = false := by simp; omega
      have d1 : decide (x < 128) = false := by simp; omega
      have d2 : decide (x < 2048) = false := by simp; omega
      have d3 : decide (x < 65536) = true := by simp; omega
      have d4 : decide (1114111 < x) = false := by simp; omega
      have db : (decide (55296 ≤ x) && decide (x ≤ 57343)) = false := by simp; omega
      simp -dsimp -implicitDefEqProofs (disch := omega) only [↓vcOps_sp 19, ↓vcD_sp 19, ↓vcOps_sp 23, ↓vcD_sp 23, VCA, pg_gl, ↓upd_none, Nat.reduceEqDiff, Nat.reduceBEq, Nat.reduceAdd, Nat.reduceSub, Nat.reduceMul, Nat.reduceLT, Nat.reduceLeDiff, ↓reduceIte, reduceCtorEq, rsOf, rootsOf, SOp.rd, SI.rd, SX.rd, rdL, rdO, rdP, okParts, eqCells, okEqCells, fillA, okFill, setAt, implies_true, forall_const, forall_eq, ne_eq, exists_eq_right_right, exists_eq_right, exists_eq_left, exists_eq_left', eRune, hw, he0, he4, d0, d1, d2, d3, d4]
      refine pcallE.of (between_ok x 55296 57343) ?_; simp -dsimp -implicitDefEqProofs (disch := omega) only [↓vcOps_sp 19, ↓vcD_sp 19, ↓vcOps_sp 23, ↓vcD_sp 23, VCA, pg_gl, ↓upd_none, Nat.reduceEqDiff, Nat.reduceBEq, Nat.reduceAdd, Nat.reduceSub, Nat.reduceMul, Nat.reduceLT, Nat.reduceLeDiff, ↓reduceIte, reduceCtorEq, rsOf, rootsOf, SOp.rd, SI.rd, SX.rd, rdL, rdO, rdP, okParts, eqCells, okEqCells, fillA, okFill, setAt, implies_true, forall_const, forall_eq, ne_eq, exists_eq_right_right, exists_eq_right, exists_eq_left, exists_eq_left', eRune, db, hw, he0, he4, d0, d1, d2, d3, d4]
      refine ⟨by decide, by decide, by decide, by decide, _, ⟨rfl, by intro e he; rcases he with rfl | rfl | rfl <;> rfl⟩, ?_⟩
      refine A.app S (by simp [strEs]; omega) (by simp [strEs]; omega) fun a' h3 A' S' => ?_
      simp -dsimp -implicitDefEqProofs (disch := omega) only [↓vcOps_sp 19, ↓vcD_sp 19, ↓vcOps_sp 23, ↓vcD_sp 23, VCA, pg_gl, ↓upd_none, Nat.reduceEqDiff, Nat.reduceBEq, Nat.reduceAdd, Nat.reduceSub, Nat.reduceMul, Nat.reduceLT, Nat.reduceLeDiff, ↓reduceIte, reduceCtorEq, rsOf, rootsOf, SOp.rd, SI.rd, SX.rd, rdL, rdO, rdP, okParts, eqCells, okEqCells, fillA, okFill, setAt, implies_true, forall_const, forall_eq, ne_eq, exists_eq_right_right, exists_eq_right, exists_eq_left, exists_eq_left', eRune, hw, he0, he4, d0, d1, d2, d3, d4]
      refine ⟨_, ?_, k + 1, by omega, rfl, by omega, hgo _ _ ?_, S'⟩
      · omega
      · rw [Lib.encodeRuneZ_three (.inr hc)]
        refine Eq.mp (congrArg (fun z => Acc h Tu 1 (strEs (encM (l.take k)) ++ z) a' h3) ?_) A'
        obtain ⟨q1, q2, q3, q4, q5, q6⟩ := q (by omega)
        obtain ⟨w1, w2, w3⟩ := ww (by omega)
        simp only [List.map_cons, List.map_nil, List.cons.injEq, AVal.int.injEq, and_true, true_and, q1, q2, q3, w1, w2, w3, q4, q5, q6, IntKind.wrap_u8, IntKind.wrap_i64]
        omega
    · have d0 : decide (x < 0) = false := by simp; omega
      have d1 : decide (x < 128) = false := by simp; omega
      have d2 : decide (x < 2048) = false := by simp; omega
      have d3 : decide (x < 65536) = false := by simp; omega
      have d4 : decide (1114111 < x) = false := by simp; omega
      have db : (decide (55296 ≤ x) && decide (x ≤ 57343)) = false := by simp; omega
      simp -dsimp -implicitDefEqProofs (disch := omega) only [↓vcOps_sp 19, ↓vcD_sp 19, ↓vcOps_sp 23, ↓vcD_sp 23, VCA, pg_gl, ↓upd_none, Nat.reduceEqDiff, Nat.reduceBEq, Nat.reduceAdd, Nat.reduceSub, Nat.reduceMul, Nat.reduceLT, Nat.reduceLeDiff, ↓reduceIte, reduceCtorEq, rsOf, rootsOf, SOp.rd, SI.rd, SX.rd, rdL, rdO, rdP, okParts, eqCells, okEqCells, fillA, okFill, setAt, implies_true, forall_const, forall_eq, ne_eq, exists_eq_right_right, exists_eq_right, exists_eq_left, exists_eq_left', eRune, hw, he0, he4, d0, d1, d2, d3, d4]
      refine pcallE.of (between_ok x 55296 57343) ?_; simp -dsimp -implicitDefEqProofs (disch := omega) only [↓vcOps_sp 19, ↓vcD_sp 19, ↓vcOps_sp 23, ↓vcD_sp 23, VCA, pg_gl, ↓upd_none, Nat.reduceEqDiff, Nat.reduceBEq, Nat.reduceAdd, Nat.reduceSub, Nat.reduceMul, Nat.reduceLT, Nat.reduceLeDiff, ↓reduceIte, reduceCtorEq, rsOf, rootsOf, SOp.rd, SI.rd, SX.rd, rdL, rdO, rdP, okParts, eqCells, okEqCells, fillA, okFill, setAt, implies_true, forall_const, forall_eq, ne_eq, exists_eq_right_right, exists_eq_right, exists_eq_left, exists_eq_left', eRune, db, hw, he0, he4, d0, d1, d2, d3, d4]
      refine ⟨by decide, by decide, by decide, by decide, by decide, by decide, _, ⟨rfl, by intro e he; rcases he with rfl | rfl | rfl | rfl <;> rfl⟩, ?_⟩
      refine A.app S (by simp [strEs]; omega) (by simp [strEs]; omega) fun a' h3 A' S' => ?_
      simp -dsimp -implicitDefEqProofs (disch := omega) only [↓vcOps_sp 19, ↓vcD_sp 19, ↓vcOps_sp 23, ↓vcD_sp 23, VCA, pg_gl, ↓upd_none, Nat.reduceEqDiff, Nat.reduceBEq, Nat.reduceAdd, Nat.reduceSub, Nat.reduceMul, Nat.reduceLT, Nat.reduceLeDiff, ↓reduceIte, reduceCtorEq, rsOf, rootsOf, SOp.rd, SI.rd, SX.rd, rdL, rdO, rdP, okParts, eqCells, okEqCells, fillA, okFill, setAt, implies_true, forall_const, forall_eq, ne_eq, exists_eq_right_right, exists_eq_right, exists_eq_left, exists_eq_left', eRune, hw, he0, he4, d0, d1, d2, d3, d4]
      refine ⟨_, ?_, k + 1, by omega, rfl, by omega, hgo _ _ ?_, S'⟩
      · omega
      · rw [Lib.encodeRuneZ_four hc.1 hc.2]
        refine Eq.mp (congrArg (fun z => Acc h Tu 1 (strEs (encM (l.take k)) ++ z) a' h3) ?_) A'
        obtain ⟨q1, q2, q3, q4, q5, q6⟩ := q (by omega)
        obtain ⟨w1, w2, w3⟩ := ww (by omega)
        simp only [List.map_cons, List.map_nil, List.cons.injEq, AVal.int.injEq, and_true, true_and, q1, q2, q3, w1, w2, w3, q4, q5, q6, IntKind.wrap_u8, IntKind.wrap_i64]
        omega
    · have d0 : decide (x < 0) = false := by simp; omega
      have d4 : decide (1114111 < x) = true := by simp; omega
      have db : (decide (55296 ≤ x) && decide (x ≤ 57343)) = false := by simp; omega
      simp -dsimp -implicitDefEqProofs (disch := omega) only [↓vcOps_sp 19, ↓vcD_sp 19, ↓vcOps_sp 23, ↓vcD_sp 23, VCA, pg_gl, ↓upd_none, Nat.reduceEqDiff, Nat.reduceBEq, Nat.reduceAdd, Nat.reduceSub, Nat.reduceMul, Nat.reduceLT, Nat.reduceLeDiff, ↓reduceIte, reduceCtorEq, rsOf, rootsOf, SOp.rd, SI.rd, SX.rd, rdL, rdO, rdP, okParts, eqCells, okEqCells, fillA, okFill, setAt, implies_true, forall_const, forall_eq, ne_eq, exists_eq_right_right, exists_eq_right, exists_eq_left, exists_eq_left', eRune, hw, he0, he4, d0, d4, k1, k2, k3]
      refine pcallE.of (between_ok x 55296 57343) ?_; simp -dsimp -implicitDefEqProofs (disch := omega) only [↓vcOps_sp 19, ↓vcD_sp 19, ↓vcOps_sp 23, ↓vcD_sp 23, VCA, pg_gl, ↓upd_none, Nat.reduceEqDiff, Nat.reduceBEq, Nat.reduceAdd, Nat.reduceSub, Nat.reduceMul, Nat.reduceLT, Nat.reduceLeDiff, ↓reduceIte, reduceCtorEq, rsOf, rootsOf, SOp.rd, SI.rd, SX.rd, rdL, rdO, rdP, okParts, eqCells, okEqCells, fillA, okFill, setAt, implies_true, forall_const, forall_eq, ne_eq, exists_eq_right_right, exists_eq_right, exists_eq_left, exists_eq_left', eRune, db, hw, he0, he4, d0, d4, k1, k2, k3]
      refine ⟨by decide, by decide, by decide, by decide, _, ⟨rfl, by intro e he; rcases he with rfl | rfl | rfl <;> rfl⟩, ?_⟩
      refine A.app S (by simp [strEs]; omega) (by simp [strEs]; omega) fun a' h3 A' S' => ?_
      simp -dsimp -implicitDefEqProofs (disch := omega) only [↓vcOps_sp 19, ↓vcD_sp 19, ↓vcOps_sp 23, ↓vcD_sp 23, VCA, pg_gl, ↓upd_none, Nat.reduceEqDiff, Nat.reduceBEq, Nat.reduceAdd, Nat.reduceSub, Nat.reduceMul, Nat.reduceLT, Nat.reduceLeDiff, ↓reduceIte, reduceCtorEq, rsOf, rootsOf, SOp.rd, SI.rd, SX.rd, rdL, rdO, rdP, okParts, eqCells, okEqCells, fillA, okFill, setAt, implies_true, forall_const, forall_eq, ne_eq, exists_eq_right_right, exists_eq_right, exists_eq_left, exists_eq_left', eRune, hw, he0, he4, d0, d4, k1, k2, k3]
      refine ⟨_, ?_, k + 1, by omega, rfl, by omega, hgo _ _ ?_, S'⟩
      · omega
      · rw [Lib.encodeRuneZ_bad (.inr (.inr hc))]
        refine Eq.mp (congrArg (fun z => Acc h Tu 1 (strEs (encM (l.take k)) ++ z) a' h3) ?_) A'
        rfl
  · simp -dsimp -implicitDefEqProofs (disch := omega) only [↓vcOps_sp 19, ↓vcD_sp 19, ↓vcOps_sp 23, ↓vcD_sp 23, VCA, pg_gl, ↓upd_none, Nat.reduceEqDiff, Nat.reduceBEq, Nat.reduceAdd, Nat.reduceSub, Nat.reduceMul, Nat.reduceLT, Nat.reduceLeDiff, ↓reduceIte, reduceCtorEq, rsOf, rootsOf, SOp.rd, SI.rd, SX.rd, rdL, rdO, rdP, okParts, eqCells, okEqCells, fillA, okFill, setAt, implies_true, forall_const, forall_eq, ne_eq, exists_eq_right_right, exists_eq_right, exists_eq_left, exists_eq_left', eRune, he0, he4]
    have hkl : k = l.length := by omega
    subst hkl
    rw [List.take_length] at A
    have hR : Rd h' 1 (e 3) (strEs (encM l)) := by
      rcases A with ⟨h1, h2⟩ | ⟨r, h1, h2, h3⟩
      · rw [h2, h1]; rfl
      · rw [h3]; exact ⟨rfl, _, h2, by simp, by simp⟩
    exact ⟨hR, S⟩
end Go.Proofs.K
