/- The document's Find. -/
import Derived.Test.YtlehoolkjkdncaaDoorEng
set_option linter.unusedSimpArgs false
set_option linter.unusedVariables false
namespace Go.Proofs.K
open Go Go.Sim Go.Proofs
variable {G : Glob}

theorem runR_on {s : List UInt8} {base a : Nat} {n : Int} (h : isD s base a = true) : runR s base (s.length - a) a n = runR s base (s.length - (a + 1)) (a + 1) (min (base * n + digM (bt s a) base) 2000000) := by
  have h' := h
  unfold isD at h'
  simp only [Bool.and_eq_true, decide_eq_true_eq] at h'
  have : s.length - a = (s.length - (a + 1)) + 1 := by omega
  rw [this, runR, if_pos h]
theorem runR_off {s : List UInt8} {base a : Nat} {n : Int} (h : isD s base a = false) : runR s base (s.length - a) a n = (n, a) := by
  cases s.length - a with
  | zero => rfl
  | succ f => rw [runR, if_neg (by rw [h]; simp)]
theorem enc_big {n : Int} (h : 1114111 < n) : Lib.encodeRune n = [239, 191, 189] := by
  unfold Lib.encodeRune; rw [Lib.encodeRuneZ_bad (.inr (.inr h))]; rfl
theorem sign_eq {n m : Int} (h : n = m ∨ 1114111 < n ∧ 1114111 < m) : signM n = signM m := by
  rcases h with rfl | ⟨h1, h2⟩
  · rfl
  · unfold signM
    rw [if_neg (by omega), if_neg (by omega), enc_big h1, enc_big h2]
theorem isD_hex {s : List UInt8} {base a : Nat} (hb : base = 10 ∨ base = 16) (ha : a < s.length) : (isD s base a = true ↔ hexM (bt s a) < base) ∧ (isD s base a = true → digM (bt s a) base = hexM (bt s a)) := by
  have hba := bt_byte s a
  have := hex_dig (bt s a) hba.1 hba.2
  obtain ⟨q1, q2, q3, q4, _, _⟩ := this
  unfold isD
  simp only [Bool.and_eq_true, decide_eq_true_eq, ha, true_and]
  rcases hb with rfl | rfl
  · exact ⟨q1, q2⟩
  · exact ⟨q3, q4⟩
theorem best_short {s : List UInt8} (h : s.length < 2) : bestE s entT = ([], 0) := by
  rcases best_down s with ⟨_, h1⟩ | ⟨k, x, _, _, h2, h3, _⟩
  · exact h1
  · omega
def c29 : SFun := ⟨(.seq (.reg [⟨(some 4), (.mv (.c (.str []))), none⟩, ⟨(some 5), (.mv (.c (.int .i64 (0)))), none⟩]) (.seq (.seq (.reg [⟨(some 15), (.mv (.t 0)), none⟩, ⟨(some 16), (.lenS (.t 15)), none⟩, ⟨(some 17), (.bin .lss (.t 16) (.c (.int .i64 (2)))), none⟩, ⟨(some 18), (.mv (.t 17)), none⟩, ⟨(some 19), (.mv (.t 0)), (some (18, false))⟩, ⟨(some 20), (.idxS (.t 19) (.c (.int .i64 (0)))), (some (18, false))⟩, ⟨(some 21), (.bin .neq (.t 20) (.c (.int .u8 (38)))), (some (18, false))⟩, ⟨(some 22), (.pick (.t 18) (.c (.bool true)) (.t 21)), none⟩]) (.cond (.t 22) (.seq (.reg [⟨(some 4), (.mv (.c (.str []))), none⟩, ⟨(some 5), (.mv (.c (.int .i64 (0)))), none⟩]) .ret) .skip)) (.seq (.seq (.reg [⟨(some 23), (.mv (.t 0)), none⟩, ⟨(some 24), (.idxS (.t 23) (.c (.int .i64 (1)))), none⟩, ⟨(some 25), (.bin .eql (.t 24) (.c (.int .u8 (35)))), none⟩]) (.cond (.t 25) (.seq (.reg [⟨(some 6), (.mv (.c (.int .i64 (10)))), none⟩, ⟨(some 7), (.mv (.c (.int .i64 (2)))), none⟩]) (.seq (.seq (.reg [⟨(some 26), (.mv (.t 0)), none⟩, ⟨(some 27), (.lenS (.t 26)), none⟩, ⟨(some 28), (.bin .gtr (.t 27) (.c (.int .i64 (2)))), none⟩, ⟨(some 29), (.mv (.t 28)), none⟩, ⟨(some 30), (.mv (.t 0)), (some (29, true))⟩, ⟨(some 31), (.idxS (.t 30) (.c (.int .i64 (2)))), (some (29, true))⟩, ⟨(some 32), (.bin .eql (.t 31) (.c (.int .u8 (120)))), (some (29, true))⟩, ⟨(some 33), (.mv (.t 32)), (some (29, true))⟩, ⟨(some 34), (.mv (.t 0)), (some (33, false))⟩, ⟨(some 35), (.idxS (.t 34) (.c (.int .i64 (2)))), (some (33, false))⟩, ⟨(some 36), (.bin .eql (.t 35) (.c (.int .u8 (88)))), (some (33, false))⟩, ⟨(some 37), (.pick (.t 33) (.c (.bool true)) (.t 36)), (some (29, true))⟩, ⟨(some 38), (.pick (.t 29) (.t 37) (.c (.bool false))), none⟩]) (.cond (.t 38) (.reg [⟨(some 6), (.mv (.c (.int .i64 (16)))), none⟩, ⟨(some 7), (.mv (.c (.int .i64 (3)))), none⟩]) .skip)) (.seq (.reg [⟨(some 39), (.mv (.t 7)), none⟩, ⟨(some 8), (.mv (.t 39)), none⟩, ⟨(some 9), (.mv (.c (.int .i64 (0)))), none⟩]) (.seq (.block 0 (.loop (.seq (.seq (.reg [⟨(some 40), (.mv (.t 7)), none⟩, ⟨(some 41), (.mv (.t 0)), none⟩, ⟨(some 42), (.lenS (.t 41)), none⟩, ⟨(some 43), (.bin .lss (.t 40) (.t 42)), none⟩, ⟨(some 44), (.mv (.t 43)), none⟩, ⟨(some 45), (.mv (.t 0)), (some (44, true))⟩, ⟨(some 46), (.mv (.t 7)), (some (44, true))⟩, ⟨(some 47), (.idxS (.t 45) (.t 46)), (some (44, true))⟩, ⟨(some 48), (.pcall 40 [(.t 47)]), (some (44, true))⟩, ⟨(some 49), (.mv (.t 6)), (some (44, true))⟩, ⟨(some 50), (.bin .lss (.t 48) (.t 49)), (some (44, true))⟩, ⟨(some 51), (.pick (.t 44) (.t 50) (.c (.bool false))), none⟩]) (.cond (.t 51) .skip (.exit 0))) (.block 1 (.seq (.reg [⟨(some 52), (.mv (.t 6)), none⟩, ⟨(some 53), (.mv (.t 9)), none⟩, ⟨(some 54), (.bin .mul (.t 52) (.t 53)), none⟩, ⟨(some 55), (.mv (.t 0)), none⟩, ⟨(some 56), (.mv (.t 7)), none⟩, ⟨(some 57), (.idxS (.t 55) (.t 56)), none⟩, ⟨(some 58), (.pcall 40 [(.t 57)]), none⟩, ⟨(some 59), (.bin .add (.t 54) (.t 58)), none⟩, ⟨(some 9), (.mv (.t 59)), none⟩]) (.seq (.seq (.reg [⟨(some 60), (.mv (.t 9)), none⟩, ⟨(some 61), (.bin .gtr (.t 60) (.c (.int .i64 (2000000)))), none⟩]) (.cond (.t 61) (.reg [⟨(some 9), (.mv (.c (.int .i64 (2000000)))), none⟩]) .skip)) (.reg [⟨(some 62), (.mv (.t 7)), none⟩, ⟨(some 63), (.bin .add (.t 62) (.c (.int .i64 (1)))), none⟩, ⟨(some 7), (.mv (.t 63)), none⟩]))))))) (.seq (.seq (.reg [⟨(some 64), (.mv (.t 7)), none⟩, ⟨(some 65), (.mv (.t 8)), none⟩, ⟨(some 66), (.bin .eql (.t 64) (.t 65)), none⟩]) (.cond (.t 66) (.seq (.reg [⟨(some 4), (.mv (.c (.str []))), none⟩, ⟨(some 5), (.mv (.c (.int .i64 (0)))), none⟩]) .ret) .skip)) (.seq (.seq (.reg [⟨(some 67), (.mv (.t 7)), none⟩, ⟨(some 68), (.mv (.t 0)), none⟩, ⟨(some 69), (.lenS (.t 68)), none⟩, ⟨(some 70), (.bin .lss (.t 67) (.t 69)), none⟩, ⟨(some 71), (.mv (.t 70)), none⟩, ⟨(some 72), (.mv (.t 0)), (some (71, true))⟩, ⟨(some 73), (.mv (.t 7)), (some (71, true))⟩, ⟨(some 74), (.idxS (.t 72) (.t 73)), (some (71, true))⟩, ⟨(some 75), (.bin .eql (.t 74) (.c (.int .u8 (59)))), (some (71, true))⟩, ⟨(some 76), (.pick (.t 71) (.t 75) (.c (.bool false))), none⟩]) (.cond (.t 76) (.reg [⟨(some 77), (.mv (.t 7)), none⟩, ⟨(some 78), (.bin .add (.t 77) (.c (.int .i64 (1)))), none⟩, ⟨(some 7), (.mv (.t 78)), none⟩]) .skip)) (.seq (.seq (.reg [⟨(some 79), (.mv (.t 9)), none⟩, ⟨(some 80), (.bin .eql (.t 79) (.c (.int .i64 (0)))), none⟩, ⟨(some 81), (.mv (.t 80)), none⟩, ⟨(some 82), (.mv (.t 9)), (some (81, false))⟩, ⟨(some 83), (.bin .eql (.t 82) (.c (.int .i64 (13)))), (some (81, false))⟩, ⟨(some 84), (.pick (.t 81) (.c (.bool true)) (.t 83)), none⟩]) (.cond (.t 84) (.reg [⟨(some 9), (.mv (.c (.int .i64 (65533)))), none⟩]) .skip)) (.seq (.reg [⟨(some 85), (.mv (.t 9)), none⟩, ⟨(some 86), (.cvi .i32 (.t 85)), none⟩, ⟨(some 87), (.bldF 21 1 [(.t 86)]), none⟩, ⟨(some 88), (.pcall 11 [(.t 87)]), none⟩, ⟨(some 89), (.mv (.t 7)), none⟩, ⟨(some 4), (.mv (.t 88)), none⟩, ⟨(some 5), (.mv (.t 89)), none⟩]) .ret)))))))) .skip)) (.seq (.seq (.reg [⟨(some 10), (.mv (.c (.int .i64 (10)))), none⟩]) (.block 2 (.loop (.seq (.seq (.reg [⟨(some 90), (.mv (.t 10)), none⟩, ⟨(some 91), (.bin .geq (.t 90) (.c (.int .i64 (2)))), none⟩]) (.cond (.t 91) .skip (.exit 2))) (.seq (.block 3 (.seq (.seq (.reg [⟨(some 94), (.mv (.t 10)), none⟩, ⟨(some 95), (.mv (.t 0)), none⟩, ⟨(some 96), (.lenS (.t 95)), none⟩, ⟨(some 97), (.bin .gtr (.t 94) (.t 96)), none⟩]) (.cond (.t 97) (.exit 3) .skip)) (.seq (.reg [⟨(some 98), (.mv (.t 0)), none⟩, ⟨(some 99), (.mv (.t 10)), none⟩, ⟨(some 100), (.slS (.t 98) (some (.c (.int .i64 (1)))) (some (.t 99))), none⟩, ⟨(some 11), (.mv (.t 100)), none⟩]) (.seq (.reg [⟨(some 101), (.mv (.t 11)), none⟩, ⟨(some 102), (.mv (.t 11)), none⟩, ⟨(some 103), (.lenS (.t 102)), none⟩, ⟨(some 104), (.bin .sub (.t 103) (.c (.int .i64 (1)))), none⟩, ⟨(some 105), (.idxS (.t 101) (.t 104)), none⟩, ⟨(some 106), (.bin .eql (.t 105) (.c (.int .u8 (59)))), none⟩, ⟨(some 12), (.mv (.t 106)), none⟩]) (.seq (.seq (.reg [⟨(some 107), (.mv (.t 12)), none⟩]) (.cond (.t 107) (.reg [⟨(some 108), (.mv (.t 11)), none⟩, ⟨(some 109), (.mv (.t 11)), none⟩, ⟨(some 110), (.lenS (.t 109)), none⟩, ⟨(some 111), (.bin .sub (.t 110) (.c (.int .i64 (1)))), none⟩, ⟨(some 112), (.slS (.t 108) none (some (.t 111))), none⟩, ⟨(some 11), (.mv (.t 112)), none⟩]) .skip)) (.seq (.reg [⟨(some 114), (.mv (.t 11)), none⟩, ⟨(some 115), (.pcall 41 [(.t 114)]), none⟩, ⟨(some 113), (.mv (.t 115)), none⟩, ⟨(some 116), (.ext (.t 113) 0), none⟩, ⟨(some 117), (.ext (.t 113) 1), none⟩, ⟨(some 13), (.mv (.t 116)), none⟩, ⟨(some 14), (.mv (.t 117)), none⟩]) (.seq (.seq (.reg [⟨(some 118), (.mv (.t 13)), none⟩, ⟨(some 119), (.bin .lss (.t 118) (.c (.int .i64 (0)))), none⟩, ⟨(some 120), (.mv (.t 119)), none⟩, ⟨(some 121), (.mv (.t 12)), (some (120, false))⟩, ⟨(some 122), (.un .not (.t 121)), (some (120, false))⟩, ⟨(some 123), (.mv (.t 122)), (some (120, false))⟩, ⟨(some 124), (.mv (.t 14)), (some (123, true))⟩, ⟨(some 125), (.un .not (.t 124)), (some (123, true))⟩, ⟨(some 126), (.pick (.t 123) (.t 125) (.c (.bool false))), (some (120, false))⟩, ⟨(some 127), (.pick (.t 120) (.c (.bool true)) (.t 126)), none⟩]) (.cond (.t 127) (.exit 3) .skip)) (.seq (.seq (.reg [⟨(some 128), (.mv (.t 12)), none⟩, ⟨(some 129), (.un .not (.t 128)), none⟩, ⟨(some 130), (.mv (.t 129)), none⟩, ⟨(some 131), (.mv (.t 1)), (some (130, true))⟩, ⟨(some 132), (.pick (.t 130) (.t 131) (.c (.bool false))), none⟩, ⟨(some 133), (.mv (.t 132)), none⟩, ⟨(some 134), (.mv (.t 10)), (some (133, true))⟩, ⟨(some 135), (.mv (.t 0)), (some (133, true))⟩, ⟨(some 136), (.lenS (.t 135)), (some (133, true))⟩, ⟨(some 137), (.bin .lss (.t 134) (.t 136)), (some (133, true))⟩, ⟨(some 138), (.pick (.t 133) (.t 137) (.c (.bool false))), none⟩, ⟨(some 139), (.mv (.t 138)), none⟩, ⟨(some 140), (.mv (.t 0)), (some (139, true))⟩, ⟨(some 141), (.mv (.t 10)), (some (139, true))⟩, ⟨(some 142), (.idxS (.t 140) (.t 141)), (some (139, true))⟩, ⟨(some 143), (.bin .eql (.t 142) (.c (.int .u8 (61)))), (some (139, true))⟩, ⟨(some 144), (.mv (.t 143)), (some (139, true))⟩, ⟨(some 145), (.mv (.t 0)), (some (144, false))⟩, ⟨(some 146), (.mv (.t 10)), (some (144, false))⟩, ⟨(some 147), (.idxS (.t 145) (.t 146)), (some (144, false))⟩, ⟨(some 148), (.pcall 42 [(.t 147)]), (some (144, false))⟩, ⟨(some 149), (.pick (.t 144) (.c (.bool true)) (.t 148)), (some (139, true))⟩, ⟨(some 150), (.pick (.t 139) (.t 149) (.c (.bool false))), none⟩]) (.cond (.t 150) (.seq (.reg [⟨(some 4), (.mv (.c (.str []))), none⟩, ⟨(some 5), (.mv (.c (.int .i64 (0)))), none⟩]) .ret) .skip)) (.seq (.reg [⟨(some 151), (.mv (.t 13)), none⟩, ⟨(some 152), (.cvi .i32 (.t 151)), none⟩, ⟨(some 153), (.bldF 21 1 [(.t 152)]), none⟩, ⟨(some 154), (.pcall 11 [(.t 153)]), none⟩, ⟨(some 155), (.mv (.t 10)), none⟩, ⟨(some 4), (.mv (.t 154)), none⟩, ⟨(some 5), (.mv (.t 155)), none⟩]) .ret))))))))) (.reg [⟨(some 92), (.mv (.t 10)), none⟩, ⟨(some 93), (.bin .sub (.t 92) (.c (.int .i64 (1)))), none⟩, ⟨(some 10), (.mv (.t 93)), none⟩])))))) (.seq (.reg [⟨(some 4), (.mv (.c (.str []))), none⟩, ⟨(some 5), (.mv (.c (.int .i64 (0)))), none⟩]) .ret))))), [(.tmp 4), (.tmp 5)]⟩
theorem hc29 : toSF Tryd.prog {pure := [40, 41, 42, 11]} Tryd.f29 = some c29 := by kernel_rfl
theorem hn29 : (Tryd.f29.name == "runtime.NumGoroutine") = false := by kernel_rfl
set_option maxHeartbeats 4000000 in
theorem refFind1_ok (s : List UInt8) (attr : Bool) (hs : s.length ≤ 1073741823) (hcase : s.length < 2 ∨ bt s 0 ≠ 38 ∨ bt s 1 = 35) : PCalls (Pg G) 29 [.str s, .bool attr] (.tup [.str (findM s attr).1, aInt (findM s attr).2]) := fun h => by
  have eEnc : ∀ r : Int, -2147483648 ≤ r → r ≤ 2147483647 → PCalls (Pg G) 11 [.slc [[.int .i32 r]]] (.str (Lib.encodeRune r)) := fun r h1 h2 => by
    rw [← encM_one]
    exact refEncode_ok [r] (fun x hx => by simp at hx; subst hx; exact ⟨h1, h2⟩) (by simp)
  have e0 : ((s.getD 0 0).toNat : Int) = bt s 0 := rfl
  have e1 : ((s.getD (Int.toNat 1) 0).toNat : Int) = bt s 1 := rfl
  have e2 : ((s.getD (Int.toNat 2) 0).toNat : Int) = bt s 2 := rfl
  by_cases hl2 : s.length < 2
  · have hF : findM s attr = ([], 0) := by
      unfold findM
      split
      · rfl
      · rw [if_neg (by omega)]; unfold namedM; rw [best_short hl2]
        have : cutE s attr 0 = false := by simp [cutE]
        simp [this]
    rw [hF]
    refine dcalls_of_vc Tryd.func29 hn29 hc29 (by rw [Tryd.ntmps29]; simp) (by rw [Tryd.ntmps29]; decide) ?_
    simp -dsimp -implicitDefEqProofs (disch := omega) only [↓vcOps_sp 18, ↓vcD_sp 18, ↓vcOps_sp 29, ↓vcD_sp 29, ↓vcOps_sp 33, ↓vcD_sp 33, ↓vcOps_sp 44, ↓vcD_sp 44, ↓vcOps_sp 71, ↓vcD_sp 71, ↓vcOps_sp 81, ↓vcD_sp 81, ↓vcOps_sp 120, ↓vcD_sp 120, ↓vcOps_sp 123, ↓vcD_sp 123, ↓vcOps_sp 130, ↓vcD_sp 130, ↓vcOps_sp 133, ↓vcD_sp 133, ↓vcOps_sp 139, ↓vcD_sp 139, ↓vcOps_sp 144, ↓vcD_sp 144, VCA, pg_gl, ↓upd_none, Nat.reduceEqDiff, Nat.reduceBEq, Nat.reduceAdd, Nat.reduceSub, Nat.reduceMul, Nat.reduceLT, Nat.reduceLeDiff, ↓reduceIte, reduceCtorEq, rsOf, rootsOf, SOp.rd, SI.rd, SX.rd, rdL, rdO, rdP, okParts, eqCells, okEqCells, fillA, okFill, setAt, implies_true, forall_const, forall_eq, ne_eq, exists_eq_right_right, exists_eq_right, exists_eq_left, exists_eq_left', eRune, eName, c29, e0, e1, e2]
    repeat' (first | ((with_reducible refine Br.dec (fun _ => ?_) (fun _ => ?_)) <;> try (exfalso; omega)) | ((with_reducible refine Br.eq (fun _ => ?_) (fun _ => ?_)) <;> try (exfalso; omega)) | ((with_reducible refine Br.ne (fun _ => ?_) (fun _ => ?_)) <;> try (exfalso; omega)) | with_reducible refine Br.intro (fun _ => ?_) (fun _ => ?_) | (with_reducible refine And.intro ?_ ?_; · omega) | simp -dsimp -implicitDefEqProofs (disch := omega) only [↓vcOps_sp 18, ↓vcD_sp 18, ↓vcOps_sp 29, ↓vcD_sp 29, ↓vcOps_sp 33, ↓vcD_sp 33, ↓vcOps_sp 44, ↓vcD_sp 44, ↓vcOps_sp 71, ↓vcD_sp 71, ↓vcOps_sp 81, ↓vcD_sp 81, ↓vcOps_sp 120, ↓vcD_sp 120, ↓vcOps_sp 123, ↓vcD_sp 123, ↓vcOps_sp 130, ↓vcD_sp 130, ↓vcOps_sp 133, ↓vcD_sp 133, ↓vcOps_sp 139, ↓vcD_sp 139, ↓vcOps_sp 144, ↓vcD_sp 144, VCA, pg_gl, ↓upd_none, Nat.reduceEqDiff, Nat.reduceBEq, Nat.reduceAdd, Nat.reduceSub, Nat.reduceMul, Nat.reduceLT, Nat.reduceLeDiff, ↓reduceIte, reduceCtorEq, rsOf, rootsOf, SOp.rd, SI.rd, SX.rd, rdL, rdO, rdP, okParts, eqCells, okEqCells, fillA, okFill, setAt, implies_true, forall_const, forall_eq, ne_eq, exists_eq_right_right, exists_eq_right, exists_eq_left, exists_eq_left', eRune, eName, e0, e1, e2])
    all_goals first | exact ⟨Sub.refl _, rfl⟩ | exact Sub.refl _
  have hne : s ≠ [] := by rintro rfl; simp at hl2
  by_cases h38 : bt s 0 = 38
  case neg =>
    have hF : findM s attr = ([], 0) := if_pos (.inr h38)
    rw [hF]
    refine dcalls_of_vc Tryd.func29 hn29 hc29 (by rw [Tryd.ntmps29]; simp) (by rw [Tryd.ntmps29]; decide) ?_
    simp -dsimp -implicitDefEqProofs (disch := omega) only [↓vcOps_sp 18, ↓vcD_sp 18, ↓vcOps_sp 29, ↓vcD_sp 29, ↓vcOps_sp 33, ↓vcD_sp 33, ↓vcOps_sp 44, ↓vcD_sp 44, ↓vcOps_sp 71, ↓vcD_sp 71, ↓vcOps_sp 81, ↓vcD_sp 81, ↓vcOps_sp 120, ↓vcD_sp 120, ↓vcOps_sp 123, ↓vcD_sp 123, ↓vcOps_sp 130, ↓vcD_sp 130, ↓vcOps_sp 133, ↓vcD_sp 133, ↓vcOps_sp 139, ↓vcD_sp 139, ↓vcOps_sp 144, ↓vcD_sp 144, VCA, pg_gl, ↓upd_none, Nat.reduceEqDiff, Nat.reduceBEq, Nat.reduceAdd, Nat.reduceSub, Nat.reduceMul, Nat.reduceLT, Nat.reduceLeDiff, ↓reduceIte, reduceCtorEq, rsOf, rootsOf, SOp.rd, SI.rd, SX.rd, rdL, rdO, rdP, okParts, eqCells, okEqCells, fillA, okFill, setAt, implies_true, forall_const, forall_eq, ne_eq, exists_eq_right_right, exists_eq_right, exists_eq_left, exists_eq_left', eRune, eName, c29, e0, e1, e2]
    repeat' (first | ((with_reducible refine Br.dec (fun _ => ?_) (fun _ => ?_)) <;> try (exfalso; omega)) | ((with_reducible refine Br.eq (fun _ => ?_) (fun _ => ?_)) <;> try (exfalso; omega)) | ((with_reducible refine Br.ne (fun _ => ?_) (fun _ => ?_)) <;> try (exfalso; omega)) | with_reducible refine Br.intro (fun _ => ?_) (fun _ => ?_) | (with_reducible refine And.intro ?_ ?_; · omega) | simp -dsimp -implicitDefEqProofs (disch := omega) only [↓vcOps_sp 18, ↓vcD_sp 18, ↓vcOps_sp 29, ↓vcD_sp 29, ↓vcOps_sp 33, ↓vcD_sp 33, ↓vcOps_sp 44, ↓vcD_sp 44, ↓vcOps_sp 71, ↓vcD_sp 71, ↓vcOps_sp 81, ↓vcD_sp 81, ↓vcOps_sp 120, ↓vcD_sp 120, ↓vcOps_sp 123, ↓vcD_sp 123, ↓vcOps_sp 130, ↓vcD_sp 130, ↓vcOps_sp 133, ↓vcD_sp 133, ↓vcOps_sp 139, ↓vcD_sp 139, ↓vcOps_sp 144, ↓vcD_sp 144, VCA, pg_gl, ↓upd_none, Nat.reduceEqDiff, Nat.reduceBEq, Nat.reduceAdd, Nat.reduceSub, Nat.reduceMul, Nat.reduceLT, Nat.reduceLeDiff, ↓reduceIte, reduceCtorEq, rsOf, rootsOf, SOp.rd, SI.rd, SX.rd, rdL, rdO, rdP, okParts, eqCells, okEqCells, fillA, okFill, setAt, implies_true, forall_const, forall_eq, ne_eq, exists_eq_right_right, exists_eq_right, exists_eq_left, exists_eq_left', eRune, eName, e0, e1, e2])
    all_goals first | exact ⟨Sub.refl _, rfl⟩ | exact Sub.refl _
  by_cases h35 : bt s 1 = 35
  · have hF : findM s attr = numM s := by
      unfold findM
      rw [if_neg (by rintro (h | h); exact hne h; exact h h38), if_pos ⟨by omega, h35⟩]
    rw [hF]
    obtain ⟨B, A, hB, hBA⟩ : ∃ B A : Nat, numB s = (B, A) ∧ (B = 16 ∧ A = 3 ∧ 2 < s.length ∧ (bt s 2 = 120 ∨ bt s 2 = 88) ∨ B = 10 ∧ A = 2 ∧ ¬ (2 < s.length ∧ (bt s 2 = 120 ∨ bt s 2 = 88))) := by
      unfold numB
      by_cases hc : 2 < s.length ∧ (bt s 2 = 120 ∨ bt s 2 = 88)
      · exact ⟨16, 3, if_pos hc, .inl ⟨rfl, rfl, hc⟩⟩
      · exact ⟨10, 2, if_neg hc, .inr ⟨rfl, rfl, hc⟩⟩
    have hB10 : B = 10 ∨ B = 16 := by omega
    have hre := run_eq s B hB10 (s.length - A) A 0 0 (by omega) (by omega) (by omega) (by omega) (.inl rfl)
    have hM : numM s = if (runR s B (s.length - A) A 0).2 = A then ([], 0) else (signM (runR s B (s.length - A) A 0).1, semiM s (runR s B (s.length - A) A 0).2) := by
      unfold numM
      simp only [hB, hre.1, sign_eq hre.2.2.2.2.2]
    rw [hM]
    refine dcalls_of_vc Tryd.func29 hn29 hc29 (by rw [Tryd.ntmps29]; simp) (by rw [Tryd.ntmps29]; decide) ?_
    simp -dsimp -implicitDefEqProofs (disch := omega) only [↓vcOps_sp 18, ↓vcD_sp 18, ↓vcOps_sp 29, ↓vcD_sp 29, ↓vcOps_sp 33, ↓vcD_sp 33, ↓vcOps_sp 44, ↓vcD_sp 44, ↓vcOps_sp 71, ↓vcD_sp 71, ↓vcOps_sp 81, ↓vcD_sp 81, ↓vcOps_sp 120, ↓vcD_sp 120, ↓vcOps_sp 123, ↓vcD_sp 123, ↓vcOps_sp 130, ↓vcD_sp 130, ↓vcOps_sp 133, ↓vcD_sp 133, ↓vcOps_sp 139, ↓vcD_sp 139, ↓vcOps_sp 144, ↓vcD_sp 144, VCA, pg_gl, ↓upd_none, Nat.reduceEqDiff, Nat.reduceBEq, Nat.reduceAdd, Nat.reduceSub, Nat.reduceMul, Nat.reduceLT, Nat.reduceLeDiff, ↓reduceIte, reduceCtorEq, rsOf, rootsOf, SOp.rd, SI.rd, SX.rd, rdL, rdO, rdP, okParts, eqCells, okEqCells, fillA, okFill, setAt, implies_true, forall_const, forall_eq, ne_eq, exists_eq_right_right, exists_eq_right, exists_eq_left, exists_eq_left', eRune, eName, c29, e0, e1, e2]
    repeat' (first | ((with_reducible refine Br.dec (fun _ => ?_) (fun _ => ?_)) <;> try (exfalso; omega)) | ((with_reducible refine Br.eq (fun _ => ?_) (fun _ => ?_)) <;> try (exfalso; omega)) | ((with_reducible refine Br.ne (fun _ => ?_) (fun _ => ?_)) <;> try (exfalso; omega)) | with_reducible refine Br.intro (fun _ => ?_) (fun _ => ?_) | (with_reducible refine And.intro ?_ ?_; · omega) | simp -dsimp -implicitDefEqProofs (disch := omega) only [↓vcOps_sp 18, ↓vcD_sp 18, ↓vcOps_sp 29, ↓vcD_sp 29, ↓vcOps_sp 33, ↓vcD_sp 33, ↓vcOps_sp 44, ↓vcD_sp 44, ↓vcOps_sp 71, ↓vcD_sp 71, ↓vcOps_sp 81, ↓vcD_sp 81, ↓vcOps_sp 120, ↓vcD_sp 120, ↓vcOps_sp 123, ↓vcD_sp 123, ↓vcOps_sp 130, ↓vcD_sp 130, ↓vcOps_sp 133, ↓vcD_sp 133, ↓vcOps_sp 139, ↓vcD_sp 139, ↓vcOps_sp 144, ↓vcD_sp 144, VCA, pg_gl, ↓upd_none, Nat.reduceEqDiff, Nat.reduceBEq, Nat.reduceAdd, Nat.reduceSub, Nat.reduceMul, Nat.reduceLT, Nat.reduceLeDiff, ↓reduceIte, reduceCtorEq, rsOf, rootsOf, SOp.rd, SI.rd, SX.rd, rdL, rdO, rdP, okParts, eqCells, okEqCells, fillA, okFill, setAt, implies_true, forall_const, forall_eq, ne_eq, exists_eq_right_right, exists_eq_right, exists_eq_left, exists_eq_left', eRune, eName, e0, e1, e2])
    all_goals (
      refine LoopVC.intro (fun m e h' => ∃ (a : Nat) (n : Int), m = s.length - a ∧ A ≤ a ∧ a ≤ max A s.length ∧ 0 ≤ n ∧ n ≤ 2000000 ∧ e 0 = .str s ∧ e 6 = aInt B ∧ e 7 = aInt a ∧ e 9 = aInt n ∧ e 8 = aInt A ∧ h' = h ∧ runR s B (s.length - a) a n = runR s B (s.length - A) A 0) _
        ⟨A, 0, rfl, by omega, by omega, by omega, by omega, rfl, congrArg aInt (by omega), congrArg aInt (by omega), rfl, congrArg aInt (by omega), rfl, rfl⟩ ?_
      rintro m e h' ⟨a, n, rfl, ha, ha2, hn0, hn1, he0, he6, he7, he9, he8, rfl, hR⟩
      have hba := bt_byte s a
      have eba : ((s.getD a 0).toNat : Int) = bt s a := rfl
      have hH := hexOf_ok (G := G) (bt s a) hba.1 hba.2
      have hx : 0 ≤ (B : Int) * n ∧ (B : Int) * n ≤ 16 * 2000000 := by
        rcases hB10 with h | h <;> (subst h; omega)
      have hhx : 0 ≤ hexM (bt s a) ∧ hexM (bt s a) < 100 := by unfold hexM; repeat' split
                                                               all_goals omega
      have hD := isD_hex (s := s) (a := a) hB10
      have hn32 : IntKind.i32.wrap n = n := by rw [IntKind.wrap_i32]; omega
      have hw2 : IntKind.i32.wrap 65533 = 65533 := by decide
      simp -dsimp -implicitDefEqProofs (disch := omega) only [↓vcOps_sp 18, ↓vcD_sp 18, ↓vcOps_sp 29, ↓vcD_sp 29, ↓vcOps_sp 33, ↓vcD_sp 33, ↓vcOps_sp 44, ↓vcD_sp 44, ↓vcOps_sp 71, ↓vcD_sp 71, ↓vcOps_sp 81, ↓vcD_sp 81, ↓vcOps_sp 120, ↓vcD_sp 120, ↓vcOps_sp 123, ↓vcD_sp 123, ↓vcOps_sp 130, ↓vcD_sp 130, ↓vcOps_sp 133, ↓vcD_sp 133, ↓vcOps_sp 139, ↓vcD_sp 139, ↓vcOps_sp 144, ↓vcD_sp 144, VCA, pg_gl, ↓upd_none, Nat.reduceEqDiff, Nat.reduceBEq, Nat.reduceAdd, Nat.reduceSub, Nat.reduceMul, Nat.reduceLT, Nat.reduceLeDiff, ↓reduceIte, reduceCtorEq, rsOf, rootsOf, SOp.rd, SI.rd, SX.rd, rdL, rdO, rdP, okParts, eqCells, okEqCells, fillA, okFill, setAt, implies_true, forall_const, forall_eq, ne_eq, exists_eq_right_right, exists_eq_right, exists_eq_left, exists_eq_left', eRune, eName, he0, he6, he7, he9, he8, eba]
      repeat' (first | ((with_reducible refine Br.dec (fun _ => ?_) (fun _ => ?_)) <;> try (exfalso; omega)) | ((with_reducible refine Br.eq (fun _ => ?_) (fun _ => ?_)) <;> try (exfalso; omega)) | ((with_reducible refine Br.ne (fun _ => ?_) (fun _ => ?_)) <;> try (exfalso; omega)) | with_reducible refine Br.intro (fun _ => ?_) (fun _ => ?_) | (with_reducible apply pcallE.of; · exact hH) | (with_reducible apply pcallE.of; · exact eEnc _ (by omega) (by omega)) | (with_reducible refine And.intro ?_ ?_; · omega) | simp -dsimp -implicitDefEqProofs (disch := omega) only [↓vcOps_sp 18, ↓vcD_sp 18, ↓vcOps_sp 29, ↓vcD_sp 29, ↓vcOps_sp 33, ↓vcD_sp 33, ↓vcOps_sp 44, ↓vcD_sp 44, ↓vcOps_sp 71, ↓vcD_sp 71, ↓vcOps_sp 81, ↓vcD_sp 81, ↓vcOps_sp 120, ↓vcD_sp 120, ↓vcOps_sp 123, ↓vcD_sp 123, ↓vcOps_sp 130, ↓vcD_sp 130, ↓vcOps_sp 133, ↓vcD_sp 133, ↓vcOps_sp 139, ↓vcD_sp 139, ↓vcOps_sp 144, ↓vcD_sp 144, VCA, pg_gl, ↓upd_none, Nat.reduceEqDiff, Nat.reduceBEq, Nat.reduceAdd, Nat.reduceSub, Nat.reduceMul, Nat.reduceLT, Nat.reduceLeDiff, ↓reduceIte, reduceCtorEq, rsOf, rootsOf, SOp.rd, SI.rd, SX.rd, rdL, rdO, rdP, okParts, eqCells, okEqCells, fillA, okFill, setAt, implies_true, forall_const, forall_eq, ne_eq, exists_eq_right_right, exists_eq_right, exists_eq_left, exists_eq_left', eRune, eName, he0, he6, he7, he9, he8, eba, hn32, hw2])
      all_goals first
        | (have hon : isD s B a = true := (hD (by omega)).1.2 (by assumption)
           rw [runR_on hon, (hD (by omega)).2 hon] at hR
           exact ⟨_, by omega, a + 1, _, rfl, by omega, by omega, by omega, by omega, by omega, rfl, by rw [← hR]; congr 1; omega⟩)
        | (have hoff : isD s B a = false := by
             by_cases hal : a < s.length
             · have := (hD hal).1
               cases hq : isD s B a with
               | false => rfl
               | true => exact absurd (this.1 hq) (by first | assumption | omega)
             · unfold isD; rw [decide_eq_false hal]; rfl
           rw [runR_off hoff] at hR
           rw [← hR]
           first
             | (rw [if_pos (show a = A by omega)]; first | exact ⟨Sub.refl _, rfl⟩ | exact Sub.refl _)
             | (rw [if_neg (show ¬ a = A by omega)]
                refine ⟨Sub.refl _, ?_⟩
                show AVal.tup [_, _] = AVal.tup [.str (signM n), aInt (semiM s a)]
                unfold signM semiM
                first
                  | (rw [if_pos (show n = 0 ∨ n = 13 by omega), if_pos (show a < s.length ∧ bt s a = 59 by omega)]; first | done | rfl)
                  | (rw [if_pos (show n = 0 ∨ n = 13 by omega), if_neg (show ¬ (a < s.length ∧ bt s a = 59) by omega)]; first | done | rfl)
                  | (rw [if_neg (show ¬ (n = 0 ∨ n = 13) by omega), if_pos (show a < s.length ∧ bt s a = 59 by omega)]; first | done | rfl)
                  | (rw [if_neg (show ¬ (n = 0 ∨ n = 13) by omega), if_neg (show ¬ (a < s.length ∧ bt s a = 59) by omega)]; first | done | rfl))))
  · rcases hcase with h | h | h
    · exact absurd h hl2
    · exact absurd h38 h
    · exact absurd h h35
end Go.Proofs.K
