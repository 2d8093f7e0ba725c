/- Texts of this claim, one behind the other. -/
import Derived.Test.YtkpaokgikhnpgaaGreatDoorM4
import Derived.Test.YtkpaokgikhnpgaaGreatDoorM3
import Derived.Lib.MapLaws
import Derived.Lib.Join
section
/- Codes of forms: the reference's. -/
set_option linter.unusedSimpArgs false
set_option linter.unusedVariables false
namespace Go.Proofs.K
open Go Go.Sim Go.Proofs Go.Shelf
variable {G : Glob}
def c31 : SFun := ⟨(.seq (.reg [⟨(some 2), (.mv (.c (.str []))), none⟩]) (.seq (.reg [⟨(some 3), (.mv (.c (.str []))), none⟩]) (.seq (.seq (.reg [⟨(some 4), (.mv (.c (.int .i64 (0)))), none⟩]) (.block 0 (.loop (.seq (.seq (.reg [⟨(some 5), (.mv (.t 4)), none⟩, ⟨(some 6), (.mv (.t 0)), none⟩, ⟨(some 7), (.lenS (.t 6)), none⟩, ⟨(some 8), (.bin .lss (.t 5) (.t 7)), none⟩]) (.cond (.t 8) .skip (.exit 0))) (.seq (.block 1 (.seq (.reg [⟨(some 11), (.mv (.t 0)), none⟩, ⟨(some 12), (.mv (.t 4)), none⟩, ⟨(some 13), (.idxS (.t 11) (.t 12)), none⟩, ⟨(some 14), (.bin .eql (.t 13) (.c (.int .u8 (43)))), none⟩]) (.cond (.t 14) (.reg [⟨(some 15), (.mv (.t 3)), none⟩, ⟨(some 16), (.bin .add (.t 15) (.c (.str [32]))), none⟩, ⟨(some 3), (.mv (.t 16)), none⟩]) (.seq (.reg [⟨(some 17), (.mv (.t 0)), none⟩, ⟨(some 18), (.mv (.t 4)), none⟩, ⟨(some 19), (.idxS (.t 17) (.t 18)), none⟩, ⟨(some 20), (.bin .eql (.t 19) (.c (.int .u8 (37)))), none⟩, ⟨(some 21), (.mv (.t 20)), none⟩, ⟨(some 22), (.mv (.t 4)), (some (21, true))⟩, ⟨(some 23), (.bin .add (.t 22) (.c (.int .i64 (2)))), (some (21, true))⟩, ⟨(some 24), (.mv (.t 0)), (some (21, true))⟩, ⟨(some 25), (.lenS (.t 24)), (some (21, true))⟩, ⟨(some 26), (.bin .lss (.t 23) (.t 25)), (some (21, true))⟩, ⟨(some 27), (.pick (.t 21) (.t 26) (.c (.bool false))), none⟩, ⟨(some 28), (.mv (.t 27)), none⟩, ⟨(some 29), (.mv (.t 0)), (some (28, true))⟩, ⟨(some 30), (.mv (.t 4)), (some (28, true))⟩, ⟨(some 31), (.bin .add (.t 30) (.c (.int .i64 (1)))), (some (28, true))⟩, ⟨(some 32), (.idxS (.t 29) (.t 31)), (some (28, true))⟩, ⟨(some 33), (.pcall 73 [(.t 32)]), (some (28, true))⟩, ⟨(some 34), (.bin .lss (.t 33) (.c (.int .i64 (16)))), (some (28, true))⟩, ⟨(some 35), (.pick (.t 28) (.t 34) (.c (.bool false))), none⟩, ⟨(some 36), (.mv (.t 35)), none⟩, ⟨(some 37), (.mv (.t 0)), (some (36, true))⟩, ⟨(some 38), (.mv (.t 4)), (some (36, true))⟩, ⟨(some 39), (.bin .add (.t 38) (.c (.int .i64 (2)))), (some (36, true))⟩, ⟨(some 40), (.idxS (.t 37) (.t 39)), (some (36, true))⟩, ⟨(some 41), (.pcall 73 [(.t 40)]), (some (36, true))⟩, ⟨(some 42), (.bin .lss (.t 41) (.c (.int .i64 (16)))), (some (36, true))⟩, ⟨(some 43), (.pick (.t 36) (.t 42) (.c (.bool false))), none⟩]) (.cond (.t 43) (.seq (.dreg [(⟨(some 44), (.mv (.t 3)), none⟩, none), (⟨(some 45), (.mv (.t 0)), none⟩, none), (⟨(some 46), (.mv (.t 4)), none⟩, none), (⟨(some 47), (.bin .add (.t 46) (.c (.int .i64 (1)))), none⟩, none), (⟨(some 48), (.idxS (.t 45) (.t 47)), none⟩, none), (⟨(some 49), (.pcall 73 [(.t 48)]), none⟩, none), (⟨(some 50), (.bin .mul (.c (.int .i64 (16))) (.t 49)), none⟩, none), (⟨(some 51), (.mv (.t 0)), none⟩, none), (⟨(some 52), (.mv (.t 4)), none⟩, none), (⟨(some 53), (.bin .add (.t 52) (.c (.int .i64 (2)))), none⟩, none), (⟨(some 54), (.idxS (.t 51) (.t 53)), none⟩, none), (⟨(some 55), (.pcall 73 [(.t 54)]), none⟩, none), (⟨(some 56), (.bin .add (.t 50) (.t 55)), none⟩, none), (⟨(some 57), (.cvi .u8 (.t 56)), none⟩, none), (⟨(some 58), (.bldF 5 1 [(.t 57)]), none⟩, none), (⟨(some 59), (.b2s (.t 58)), none⟩, (some [])), (⟨(some 60), (.bin .add (.t 44) (.t 59)), none⟩, none), (⟨(some 3), (.mv (.t 60)), none⟩, (some []))]) (.reg [⟨(some 61), (.mv (.t 4)), none⟩, ⟨(some 62), (.bin .add (.t 61) (.c (.int .i64 (2)))), none⟩, ⟨(some 4), (.mv (.t 62)), none⟩])) (.reg [⟨(some 63), (.mv (.t 3)), none⟩, ⟨(some 64), (.mv (.t 0)), none⟩, ⟨(some 65), (.mv (.t 4)), none⟩, ⟨(some 66), (.mv (.t 4)), none⟩, ⟨(some 67), (.bin .add (.t 66) (.c (.int .i64 (1)))), none⟩, ⟨(some 68), (.slS (.t 64) (some (.t 65)) (some (.t 67))), none⟩, ⟨(some 69), (.bin .add (.t 63) (.t 68)), none⟩, ⟨(some 3), (.mv (.t 69)), none⟩])))))) (.reg [⟨(some 9), (.mv (.t 4)), none⟩, ⟨(some 10), (.bin .add (.t 9) (.c (.int .i64 (1)))), none⟩, ⟨(some 4), (.mv (.t 10)), none⟩])))))) (.seq (.reg [⟨(some 70), (.mv (.t 3)), none⟩, ⟨(some 2), (.mv (.t 70)), none⟩]) .ret)))), [(.tmp 2)]⟩
theorem hc31 : toSF Tryz.prog {pure := [73]} Tryz.f31 = some c31 := by kernel_rfl
theorem hn31 : (Tryz.f31.name == "runtime.NumGoroutine") = false := by kernel_rfl
set_option maxHeartbeats 2000000 in
theorem refDecoded_ok (s : List UInt8) (hs : s.length ≤ 1000000) : PCalls (Pg G) 31 [.str s] (.str (decF s 0)) := fun h => by
  refine dcalls_of_vc Tryz.func31 hn31 hc31 (by rw [Tryz.ntmps31]; simp) (by rw [Tryz.ntmps31]; decide) ?_
  simp -dsimp -implicitDefEqProofs (disch := omega) only [VCA, c31]
  refine LoopVC.intro (fun m e h' => ∃ (i : Nat) (o : List UInt8), m = s.length - i ∧ i ≤ s.length + 3 ∧ o.length ≤ i ∧ e 0 = .str s ∧ e 3 = .str o ∧ e 4 = aInt i ∧ o ++ decF s i = decF s 0 ∧ h' = h) s.length
    (by exact ⟨0, [], by omega, by omega, Nat.le_refl _, rfl, rfl, rfl, rfl, rfl⟩) ?_
  rintro m e h' ⟨i, o, rfl, hi3, hol, e0, e3, e4, ho, rfl⟩
  simp -dsimp -implicitDefEqProofs (disch := omega) only [VCA, Nat.reduceEqDiff, ↓reduceIte, reduceCtorEq, e0, e4]
  refine Br.dec (fun hlt => ?_) (fun hge => ?_)
  · have hi' : i < s.length := by omega
    have hde := decF_is hi'
    obtain ⟨b, hb⟩ : ∃ b, s.getD i 0 = b := ⟨_, rfl⟩
    have ebt : bt s i = (b.toNat : Int) := by unfold bt; rw [hb]
    have hsg : List.drop i (s.take (i + 1)) = [b] := by
      rw [List.take_add_one, ← hb, List.getD_eq_getElem?_getD, List.getElem?_eq_getElem hi', List.drop_append_of_le_length (by rw [List.length_take]; omega), List.drop_eq_nil_of_le (by rw [List.length_take]; omega)]; rfl
    by_cases h43 : b.toNat = 43
    · have d1 : ((b.toNat : Int) == 43) = true := by rw [beq_iff_eq]; omega
      rw [ebt, if_pos (by omega)] at hde
      repeat' (first | ((with_reducible refine Br.dec (fun _ => ?_) (fun _ => ?_)) <;> try (exfalso; omega)) | ((with_reducible refine Br.eq (fun _ => ?_) (fun _ => ?_)) <;> try (exfalso; omega)) | ((with_reducible refine Br.ne (fun _ => ?_) (fun _ => ?_)) <;> try (exfalso; omega)) | ((with_reducible refine brNdec (fun _ => ?_) (fun _ => ?_)) <;> try (exfalso; omega)) | ((with_reducible refine brNeq (fun _ => ?_) (fun _ => ?_)) <;> try (exfalso; omega)) | with_reducible refine Br.intro (fun _ => ?_) (fun _ => ?_) | (with_reducible refine And.intro ?_ ?_; · omega) | simp -dsimp -implicitDefEqProofs (disch := omega) only [VCA, Nat.reduceEqDiff, Nat.reduceLeDiff, ↓reduceIte, reduceCtorEq, e0, e3, e4, hb, d1])
      all_goals exact ⟨_, by omega, i + 1, o ++ [32], rfl, by omega, by simp; omega, rfl, by omega, by rw [← ho, hde]; simp⟩
    · have d1 : ((b.toNat : Int) == 43) = false := by rw [beq_eq_false_iff_ne]; omega
      rw [ebt, if_neg (by omega)] at hde
      by_cases h37 : b.toNat = 37
      · have d2 : ((b.toNat : Int) == 37) = true := by rw [beq_iff_eq]; omega
        by_cases h2 : i + 2 < s.length
        · have d3 : decide ((i : Int) + 2 < (s.length : Int)) = true := decide_eq_true (by omega)
          obtain ⟨x, hx⟩ : ∃ x, s.getD (i + 1) 0 = x := ⟨_, rfl⟩
          obtain ⟨y, hy⟩ : ∃ y, s.getD (i + 2) 0 = y := ⟨_, rfl⟩
          have ex : bt s (i + 1) = (x.toNat : Int) := by unfold bt; rw [hx]
          have ey : bt s (i + 2) = (y.toNat : Int) := by unfold bt; rw [hy]
          have t1 : ((i : Int) + 1).toNat = i + 1 := by omega
          have t2 : ((i : Int) + 2).toNat = i + 2 := by omega
          have cX := hexV_ok (G := G) x.toNat (by omega) (by have := x.toNat_lt; omega)
          have cY := hexV_ok (G := G) y.toNat (by omega) (by have := y.toNat_lt; omega)
          have hpct : pct s i = (decide (hexV x.toNat < 16) && decide (hexV y.toNat < 16)) := by
            unfold pct; rw [ebt, ex, ey, decide_eq_true (by omega : (b.toNat : Int) = 37), decide_eq_true h2]; rfl
          cases qx : decide (hexV x.toNat < 16)
          · rw [qx] at hpct
            rw [hpct, Bool.false_and, if_neg (by decide)] at hde
            repeat' (first | ((with_reducible refine Br.dec (fun _ => ?_) (fun _ => ?_)) <;> try (exfalso; omega)) | ((with_reducible refine Br.eq (fun _ => ?_) (fun _ => ?_)) <;> try (exfalso; omega)) | ((with_reducible refine Br.ne (fun _ => ?_) (fun _ => ?_)) <;> try (exfalso; omega)) | ((with_reducible refine brNdec (fun _ => ?_) (fun _ => ?_)) <;> try (exfalso; omega)) | ((with_reducible refine brNeq (fun _ => ?_) (fun _ => ?_)) <;> try (exfalso; omega)) | with_reducible refine Br.intro (fun _ => ?_) (fun _ => ?_) | (with_reducible apply pcallE.of; · exact cX) | (with_reducible apply pcallE.of; · exact cY) | (with_reducible refine And.intro ?_ ?_; · omega) | simp -dsimp -implicitDefEqProofs (disch := omega) only [↓vcOps_sp 21, ↓vcOps_sp 28, ↓vcOps_sp 36, VCA, Nat.reduceEqDiff, Nat.reduceLeDiff, ↓reduceIte, reduceCtorEq, e0, e3, e4, hb, d1, d2, d3, hx, t1, qx, hsg])
            all_goals exact ⟨_, by omega, i + 1, o ++ [b], rfl, by omega, by simp; omega, rfl, by omega, by rw [← ho, hde, hb]; simp⟩
          · cases qy : decide (hexV y.toNat < 16)
            · rw [qx, qy] at hpct
              rw [hpct, Bool.true_and, if_neg (by decide)] at hde
              repeat' (first | ((with_reducible refine Br.dec (fun _ => ?_) (fun _ => ?_)) <;> try (exfalso; omega)) | ((with_reducible refine Br.eq (fun _ => ?_) (fun _ => ?_)) <;> try (exfalso; omega)) | ((with_reducible refine Br.ne (fun _ => ?_) (fun _ => ?_)) <;> try (exfalso; omega)) | ((with_reducible refine brNdec (fun _ => ?_) (fun _ => ?_)) <;> try (exfalso; omega)) | ((with_reducible refine brNeq (fun _ => ?_) (fun _ => ?_)) <;> try (exfalso; omega)) | with_reducible refine Br.intro (fun _ => ?_) (fun _ => ?_) | (with_reducible apply pcallE.of; · exact cX) | (with_reducible apply pcallE.of; · exact cY) | (with_reducible refine And.intro ?_ ?_; · omega) | simp -dsimp -implicitDefEqProofs (disch := omega) only [↓vcOps_sp 21, ↓vcOps_sp 28, ↓vcOps_sp 36, VCA, Nat.reduceEqDiff, Nat.reduceLeDiff, ↓reduceIte, reduceCtorEq, e0, e3, e4, hb, d1, d2, d3, hx, hy, t1, t2, qx, qy, hsg])
              all_goals exact ⟨_, by omega, i + 1, o ++ [b], rfl, by omega, by simp; omega, rfl, by omega, by rw [← ho, hde, hb]; simp⟩
            · rw [qx, qy] at hpct
              rw [hpct, Bool.true_and, if_pos rfl, ex, ey] at hde
              obtain ⟨m, hm, em⟩ := hexV_cases x (of_decide_eq_true qx)
              obtain ⟨n, hn, en⟩ := hexV_cases y (of_decide_eq_true qy)
              rw [em] at cX qx
              rw [en] at cY qy
              rw [em, en] at hde
              have hc : (UInt8.ofNat ((16 : Int) * (m : Int) + (n : Int)).toNat).toNat = 16 * m + n := by
                rw [show ((16 : Int) * (m : Int) + (n : Int)).toNat = 16 * m + n by omega]
                simp; omega
              repeat' (first | ((with_reducible refine Br.dec (fun _ => ?_) (fun _ => ?_)) <;> try (exfalso; omega)) | ((with_reducible refine Br.eq (fun _ => ?_) (fun _ => ?_)) <;> try (exfalso; omega)) | ((with_reducible refine Br.ne (fun _ => ?_) (fun _ => ?_)) <;> try (exfalso; omega)) | ((with_reducible refine brNdec (fun _ => ?_) (fun _ => ?_)) <;> try (exfalso; omega)) | ((with_reducible refine brNeq (fun _ => ?_) (fun _ => ?_)) <;> try (exfalso; omega)) | with_reducible refine Br.intro (fun _ => ?_) (fun _ => ?_) | (with_reducible apply pcallE.of; · exact cX) | (with_reducible apply pcallE.of; · exact cY) | (with_reducible refine And.intro ?_ ?_; · omega) | simp -dsimp -implicitDefEqProofs (disch := omega) only [↓vcOps_sp 21, ↓vcOps_sp 28, ↓vcOps_sp 36, VCA, Nat.reduceEqDiff, ↓reduceIte, reduceCtorEq, rsOf, rootsOf, SOp.rd, SI.rd, SX.rd, okParts, forall_eq, rootL, e0, e3, e4, hb, d1, d2, d3, hx, hy, t1, t2, qx, qy])
              refine ⟨[UInt8.ofNat ((16 : Int) * (m : Int) + (n : Int)).toNat], ?_, by simp; omega, _, ?_, i + 3, o ++ [UInt8.ofNat ((16 : Int) * (m : Int) + (n : Int)).toNat], rfl, by omega, by simp; omega, rfl, by omega, by rw [← ho, hde]; simp⟩
              · show [[AVal.int .u8 _]] = _
                rw [hc, IntKind.wrap_u8, Int.emod_eq_of_lt (by omega) (by omega)]; rfl
              · omega
        · have d3 : decide ((i : Int) + 2 < (s.length : Int)) = false := decide_eq_false (by omega)
          have hpct : pct s i = false := by unfold pct; rw [decide_eq_false h2]; simp
          rw [hpct, if_neg (by decide)] at hde
          repeat' (first | ((with_reducible refine Br.dec (fun _ => ?_) (fun _ => ?_)) <;> try (exfalso; omega)) | ((with_reducible refine Br.eq (fun _ => ?_) (fun _ => ?_)) <;> try (exfalso; omega)) | ((with_reducible refine Br.ne (fun _ => ?_) (fun _ => ?_)) <;> try (exfalso; omega)) | ((with_reducible refine brNdec (fun _ => ?_) (fun _ => ?_)) <;> try (exfalso; omega)) | ((with_reducible refine brNeq (fun _ => ?_) (fun _ => ?_)) <;> try (exfalso; omega)) | with_reducible refine Br.intro (fun _ => ?_) (fun _ => ?_) | (with_reducible refine And.intro ?_ ?_; · omega) | simp -dsimp -implicitDefEqProofs (disch := omega) only [↓vcOps_sp 21, ↓vcOps_sp 28, ↓vcOps_sp 36, VCA, Nat.reduceEqDiff, Nat.reduceLeDiff, ↓reduceIte, reduceCtorEq, e0, e3, e4, hb, d1, d2, d3, hsg])
          all_goals exact ⟨_, by omega, i + 1, o ++ [b], rfl, by omega, by simp; omega, rfl, by omega, by rw [← ho, hde, hb]; simp⟩
      · have d2 : ((b.toNat : Int) == 37) = false := by rw [beq_eq_false_iff_ne]; omega
        have hpct : pct s i = false := by unfold pct; rw [ebt, decide_eq_false (by omega : ¬ (b.toNat : Int) = 37)]; rfl
        rw [hpct, if_neg (by decide)] at hde
        repeat' (first | ((with_reducible refine Br.dec (fun _ => ?_) (fun _ => ?_)) <;> try (exfalso; omega)) | ((with_reducible refine Br.eq (fun _ => ?_) (fun _ => ?_)) <;> try (exfalso; omega)) | ((with_reducible refine Br.ne (fun _ => ?_) (fun _ => ?_)) <;> try (exfalso; omega)) | ((with_reducible refine brNdec (fun _ => ?_) (fun _ => ?_)) <;> try (exfalso; omega)) | ((with_reducible refine brNeq (fun _ => ?_) (fun _ => ?_)) <;> try (exfalso; omega)) | with_reducible refine Br.intro (fun _ => ?_) (fun _ => ?_) | (with_reducible refine And.intro ?_ ?_; · omega) | simp -dsimp -implicitDefEqProofs (disch := omega) only [↓vcOps_sp 21, ↓vcOps_sp 28, ↓vcOps_sp 36, VCA, Nat.reduceEqDiff, Nat.reduceLeDiff, ↓reduceIte, reduceCtorEq, e0, e3, e4, hb, d1, d2, hsg])
        all_goals exact ⟨_, by omega, i + 1, o ++ [b], rfl, by omega, by simp; omega, rfl, by omega, by rw [← ho, hde, hb]; simp⟩
  · have hn := decF_end (s := s) (i := i) (by omega)
    rw [hn, List.append_nil] at ho
    simp -dsimp -implicitDefEqProofs (disch := omega) only [VCA, Nat.reduceEqDiff, ↓reduceIte, exists_eq_right_right, e3]
    exact ⟨Sub.refl _, by rw [ho]⟩
def c71 : SFun := ⟨(.seq (.reg [⟨(some 2), (.mv (.c (.bool false))), none⟩]) (.seq (.reg [⟨(some 3), (.mv (.t 0)), none⟩, ⟨(some 4), (.bin .geq (.t 3) (.c (.int .u8 (48)))), none⟩, ⟨(some 5), (.mv (.t 4)), none⟩, ⟨(some 6), (.mv (.t 0)), (some (5, true))⟩, ⟨(some 7), (.bin .leq (.t 6) (.c (.int .u8 (57)))), (some (5, true))⟩, ⟨(some 8), (.pick (.t 5) (.t 7) (.c (.bool false))), none⟩, ⟨(some 9), (.mv (.t 8)), none⟩, ⟨(some 10), (.mv (.t 0)), (some (9, false))⟩, ⟨(some 11), (.bin .geq (.t 10) (.c (.int .u8 (97)))), (some (9, false))⟩, ⟨(some 12), (.mv (.t 11)), (some (9, false))⟩, ⟨(some 13), (.mv (.t 0)), (some (12, true))⟩, ⟨(some 14), (.bin .leq (.t 13) (.c (.int .u8 (122)))), (some (12, true))⟩, ⟨(some 15), (.pick (.t 12) (.t 14) (.c (.bool false))), (some (9, false))⟩, ⟨(some 16), (.pick (.t 9) (.c (.bool true)) (.t 15)), none⟩, ⟨(some 17), (.mv (.t 16)), none⟩, ⟨(some 18), (.mv (.t 0)), (some (17, false))⟩, ⟨(some 19), (.bin .geq (.t 18) (.c (.int .u8 (65)))), (some (17, false))⟩, ⟨(some 20), (.mv (.t 19)), (some (17, false))⟩, ⟨(some 21), (.mv (.t 0)), (some (20, true))⟩, ⟨(some 22), (.bin .leq (.t 21) (.c (.int .u8 (90)))), (some (20, true))⟩, ⟨(some 23), (.pick (.t 20) (.t 22) (.c (.bool false))), (some (17, false))⟩, ⟨(some 24), (.pick (.t 17) (.c (.bool true)) (.t 23)), none⟩, ⟨(some 2), (.mv (.t 24)), none⟩]) .ret)), [(.tmp 2)]⟩
theorem hc71 : toSF Tryz.prog {} Tryz.f71 = some c71 := by kernel_rfl
theorem hn71 : (Tryz.f71.name == "runtime.NumGoroutine") = false := by kernel_rfl
def ldI (b : Int) : Bool := (decide (48 ≤ b) && decide (b ≤ 57)) || (decide (97 ≤ b) && decide (b ≤ 122)) || (decide (65 ≤ b) && decide (b ≤ 90))
theorem ldI_ok (b : Int) : PCalls (Pg G) 71 [.int .u8 b] (.bool (ldI b)) := fun h => by
  refine dcalls_of_vc Tryz.func71 hn71 hc71 (by rw [Tryz.ntmps71]; simp) (by rw [Tryz.ntmps71]; decide) ?_
  simp -dsimp -implicitDefEqProofs (disch := omega) only [↓vcOps_sp 5, VCA, ↓reduceIte, reduceCtorEq, c71]
  repeat' (first | ((with_reducible refine Br.dec (fun _ => ?_) (fun _ => ?_)) <;> try (exfalso; omega)) | ((with_reducible refine Br.eq (fun _ => ?_) (fun _ => ?_)) <;> try (exfalso; omega)) | ((with_reducible refine Br.ne (fun _ => ?_) (fun _ => ?_)) <;> try (exfalso; omega)) | ((with_reducible refine brNdec (fun _ => ?_) (fun _ => ?_)) <;> try (exfalso; omega)) | ((with_reducible refine brNeq (fun _ => ?_) (fun _ => ?_)) <;> try (exfalso; omega)) | with_reducible refine Br.intro (fun _ => ?_) (fun _ => ?_) | (with_reducible refine And.intro ?_ ?_; · omega) | simp -dsimp -implicitDefEqProofs (disch := omega) only [↓vcOps_sp 9, ↓vcOps_sp 12, ↓vcOps_sp 17, ↓vcOps_sp 20, VCA, Nat.reduceEqDiff, ↓reduceIte, reduceCtorEq, exists_eq_right_right])
  all_goals (refine ⟨Sub.refl _, ?_⟩; simp_all [ldI])
  all_goals omega
theorem hexU_sl (n : Nat) (h : n < 16) : List.drop n (hexU.take (n + 1)) = [hexC n] := by
  have : ∀ n : Fin 16, List.drop n.val (hexU.take (n.val + 1)) = [hexC n.val] := by decide +kernel
  exact this ⟨n, h⟩
def c28 : SFun := ⟨(.seq (.reg [⟨(some 2), (.mv (.c (.str []))), none⟩]) (.seq (.reg [⟨(some 3), (.mv (.c (.str []))), none⟩]) (.seq (.seq (.reg [⟨(some 4), (.mv (.c (.int .i64 (0)))), none⟩]) (.block 0 (.loop (.seq (.seq (.reg [⟨(some 7), (.mv (.t 4)), none⟩, ⟨(some 8), (.mv (.t 0)), none⟩, ⟨(some 9), (.lenS (.t 8)), none⟩, ⟨(some 10), (.bin .lss (.t 7) (.t 9)), none⟩]) (.cond (.t 10) .skip (.exit 0))) (.seq (.block 1 (.seq (.reg [⟨(some 13), (.mv (.t 0)), none⟩, ⟨(some 14), (.mv (.t 4)), none⟩, ⟨(some 15), (.idxS (.t 13) (.t 14)), none⟩, ⟨(some 5), (.mv (.t 15)), none⟩]) (.seq (.reg [⟨(some 16), (.mv (.t 5)), none⟩, ⟨(some 17), (.pcall 71 [(.t 16)]), none⟩, ⟨(some 18), (.mv (.t 17)), none⟩, ⟨(some 19), (.mv (.t 5)), (some (18, false))⟩, ⟨(some 20), (.bin .eql (.t 19) (.c (.int .u8 (42)))), (some (18, false))⟩, ⟨(some 21), (.pick (.t 18) (.c (.bool true)) (.t 20)), none⟩, ⟨(some 22), (.mv (.t 21)), none⟩, ⟨(some 23), (.mv (.t 5)), (some (22, false))⟩, ⟨(some 24), (.bin .eql (.t 23) (.c (.int .u8 (45)))), (some (22, false))⟩, ⟨(some 25), (.pick (.t 22) (.c (.bool true)) (.t 24)), none⟩, ⟨(some 26), (.mv (.t 25)), none⟩, ⟨(some 27), (.mv (.t 5)), (some (26, false))⟩, ⟨(some 28), (.bin .eql (.t 27) (.c (.int .u8 (46)))), (some (26, false))⟩, ⟨(some 29), (.pick (.t 26) (.c (.bool true)) (.t 28)), none⟩, ⟨(some 30), (.mv (.t 29)), none⟩, ⟨(some 31), (.mv (.t 5)), (some (30, false))⟩, ⟨(some 32), (.bin .eql (.t 31) (.c (.int .u8 (95)))), (some (30, false))⟩, ⟨(some 33), (.pick (.t 30) (.c (.bool true)) (.t 32)), none⟩]) (.cond (.t 33) (.reg [⟨(some 34), (.mv (.t 3)), none⟩, ⟨(some 35), (.mv (.t 0)), none⟩, ⟨(some 36), (.mv (.t 4)), none⟩, ⟨(some 37), (.mv (.t 4)), none⟩, ⟨(some 38), (.bin .add (.t 37) (.c (.int .i64 (1)))), none⟩, ⟨(some 39), (.slS (.t 35) (some (.t 36)) (some (.t 38))), none⟩, ⟨(some 40), (.bin .add (.t 34) (.t 39)), none⟩, ⟨(some 3), (.mv (.t 40)), none⟩]) (.seq (.reg [⟨(some 41), (.mv (.t 5)), none⟩, ⟨(some 42), (.bin .eql (.t 41) (.c (.int .u8 (32)))), none⟩]) (.cond (.t 42) (.reg [⟨(some 43), (.mv (.t 3)), none⟩, ⟨(some 44), (.bin .add (.t 43) (.c (.str [43]))), none⟩, ⟨(some 3), (.mv (.t 44)), none⟩]) (.seq (.reg [⟨(some 6), (.mv (.c (.str [48, 49, 50, 51, 52, 53, 54, 55, 56, 57, 65, 66, 67, 68, 69, 70]))), none⟩]) (.dreg [(⟨(some 45), (.mv (.t 3)), none⟩, none), (⟨(some 46), (.mv (.t 6)), none⟩, none), (⟨(some 47), (.mv (.t 5)), none⟩, none), (⟨(some 48), (.bin .quo (.t 47) (.c (.int .u8 (16)))), none⟩, none), (⟨(some 49), (.mv (.t 5)), none⟩, none), (⟨(some 50), (.bin .quo (.t 49) (.c (.int .u8 (16)))), none⟩, none), (⟨(some 51), (.bin .add (.t 50) (.c (.int .u8 (1)))), none⟩, none), (⟨(some 52), (.slS (.t 46) (some (.t 48)) (some (.t 51))), none⟩, none), (⟨(some 53), (.bin .add (.c (.str [37])) (.t 52)), none⟩, none), (⟨(some 54), (.mv (.t 6)), none⟩, none), (⟨(some 55), (.mv (.t 5)), none⟩, none), (⟨(some 56), (.bin .rem (.t 55) (.c (.int .u8 (16)))), none⟩, none), (⟨(some 57), (.mv (.t 5)), none⟩, none), (⟨(some 58), (.bin .rem (.t 57) (.c (.int .u8 (16)))), none⟩, none), (⟨(some 59), (.bin .add (.t 58) (.c (.int .u8 (1)))), none⟩, none), (⟨(some 60), (.slS (.t 54) (some (.t 56)) (some (.t 59))), none⟩, none), (⟨(some 61), (.bin .add (.t 53) (.t 60)), none⟩, none), (⟨(some 62), (.bin .add (.t 45) (.t 61)), none⟩, none), (⟨(some 3), (.mv (.t 62)), none⟩, (some []))])))))))) (.reg [⟨(some 11), (.mv (.t 4)), none⟩, ⟨(some 12), (.bin .add (.t 11) (.c (.int .i64 (1)))), none⟩, ⟨(some 4), (.mv (.t 12)), none⟩])))))) (.seq (.reg [⟨(some 63), (.mv (.t 3)), none⟩, ⟨(some 2), (.mv (.t 63)), none⟩]) .ret)))), [(.tmp 2)]⟩
theorem hc28 : toSF Tryz.prog {pure := [71]} Tryz.f28 = some c28 := by kernel_rfl
theorem hn28 : (Tryz.f28.name == "runtime.NumGoroutine") = false := by kernel_rfl
set_option maxHeartbeats 2000000 in
theorem refEncoded_ok (s : List UInt8) (hs : s.length ≤ 1000000) : PCalls (Pg G) 28 [.str s] (.str (encF s)) := fun h => by
  refine dcalls_of_vc Tryz.func28 hn28 hc28 (by rw [Tryz.ntmps28]; simp) (by rw [Tryz.ntmps28]; decide) ?_
  simp -dsimp -implicitDefEqProofs (disch := omega) only [VCA, c28]
  refine LoopVC.intro (fun m e h' => ∃ i : Nat, i ≤ s.length ∧ m = s.length - i ∧ e 0 = .str s ∧ e 3 = .str (encF (s.take i)) ∧ e 4 = aInt i ∧ h' = h) s.length
    (by exact ⟨0, by omega, by omega, rfl, rfl, rfl, rfl⟩) ?_
  rintro m e h' ⟨i, hi, rfl, e0, e3, e4, rfl⟩
  simp -dsimp -implicitDefEqProofs (disch := omega) only [VCA, Nat.reduceEqDiff, ↓reduceIte, reduceCtorEq, e0, e4]
  refine Br.dec (fun hlt => ?_) (fun hge => ?_)
  · have hi' : i < s.length := by omega
    obtain ⟨b, hb⟩ : ∃ b, s.getD i 0 = b := ⟨_, rfl⟩
    have tk : s.take (i + 1) = s.take i ++ [b] := by
      rw [List.take_add_one, ← hb, List.getD_eq_getElem?_getD, List.getElem?_eq_getElem hi']; rfl
    have hsg : List.drop i (s.take (i + 1)) = [b] := by
      rw [tk, List.drop_append_of_le_length (by rw [List.length_take]; omega), List.drop_eq_nil_of_le (by rw [List.length_take]; omega)]; rfl
    have hen := encF_snoc (s.take i) b
    rw [← tk] at hen
    have hl := encF_len (s.take i)
    rw [List.length_take] at hl
    have cL := ldI_ok (G := G) (b.toNat : Int)
    have hpl : plainI b.toNat = (ldI b.toNat || ((b.toNat : Int) == 42) || ((b.toNat : Int) == 45) || ((b.toNat : Int) == 46) || ((b.toNat : Int) == 95)) := rfl
    obtain ⟨o, hoo⟩ : ∃ o, encF (s.take i) = o := ⟨_, rfl⟩
    rw [hoo] at e3 hen hl
    have plain : plainI b.toNat = true → encB b = [b] := fun h => by unfold encB; rw [h, if_pos rfl]
    cases p1 : ldI b.toNat
    · rw [p1] at cL hpl
      cases p2 : ((b.toNat : Int) == 42)
      · rw [p2] at hpl
        cases p3 : ((b.toNat : Int) == 45)
        · rw [p3] at hpl
          cases p4 : ((b.toNat : Int) == 46)
          · rw [p4] at hpl
            cases p5 : ((b.toNat : Int) == 95)
            · rw [p5] at hpl
              have hq : plainI b.toNat = false := hpl
              by_cases h32 : b.toNat = 32
              · have eb : encB b = [43] := by unfold encB; rw [hq, if_neg (by decide), if_pos h32]
                have d1 : ((b.toNat : Int) == 32) = true := by rw [beq_iff_eq]; omega
                rw [eb] at hen
                repeat' (first | ((with_reducible refine Br.dec (fun _ => ?_) (fun _ => ?_)) <;> try (exfalso; omega)) | ((with_reducible refine Br.eq (fun _ => ?_) (fun _ => ?_)) <;> try (exfalso; omega)) | ((with_reducible refine Br.ne (fun _ => ?_) (fun _ => ?_)) <;> try (exfalso; omega)) | ((with_reducible refine brNdec (fun _ => ?_) (fun _ => ?_)) <;> try (exfalso; omega)) | ((with_reducible refine brNeq (fun _ => ?_) (fun _ => ?_)) <;> try (exfalso; omega)) | with_reducible refine Br.intro (fun _ => ?_) (fun _ => ?_) | (with_reducible apply pcallE.of; · exact cL) | (with_reducible refine And.intro ?_ ?_; · omega) | simp -dsimp -implicitDefEqProofs (disch := omega) only [↓vcOps_sp 18, ↓vcOps_sp 22, ↓vcOps_sp 26, ↓vcOps_sp 30, VCA, Nat.reduceEqDiff, Nat.reduceLeDiff, ↓reduceIte, reduceCtorEq, e0, e3, e4, hb, p2, p3, p4, p5, d1])
                all_goals exact ⟨_, by omega, i + 1, by omega, rfl, by rw [hen], by omega⟩
              · have eb : encB b = [37, hexC (b.toNat / 16), hexC (b.toNat % 16)] := by unfold encB; rw [hq, if_neg (by decide), if_neg h32]
                have d1 : ((b.toNat : Int) == 32) = false := by rw [beq_eq_false_iff_ne]; omega
                rw [eb] at hen
                have hb256 := b.toNat_lt
                have w1 : IntKind.u8.wrap ((b.toNat : Int).tdiv 16) = ((b.toNat / 16 : Nat) : Int) := of_decide_eq_true (u8_all (p := fun b => decide (IntKind.u8.wrap ((b.toNat : Int).tdiv 16) = ((b.toNat / 16 : Nat) : Int))) (by decide +kernel) b)
                have w3 : (b.toNat : Int).tmod 16 = ((b.toNat % 16 : Nat) : Int) := of_decide_eq_true (u8_all (p := fun b => decide ((b.toNat : Int).tmod 16 = ((b.toNat % 16 : Nat) : Int))) (by decide +kernel) b)
                have x1 := hexU_sl (b.toNat / 16) (by omega)
                have x2 := hexU_sl (b.toNat % 16) (by omega)
                obtain ⟨u, hu⟩ : ∃ u, b.toNat / 16 = u := ⟨_, rfl⟩
                obtain ⟨v, hv⟩ : ∃ v, b.toNat % 16 = v := ⟨_, rfl⟩
                have hu16 : u < 16 := by omega
                have hv16 : v < 16 := by omega
                rw [hu] at w1 x1 hen
                rw [hv] at w3 x2 hen
                have w2 : IntKind.u8.wrap ((u : Int) + 1) = ((u + 1 : Nat) : Int) := by rw [IntKind.wrap_u8]; omega
                have w4 : IntKind.u8.wrap ((v : Int) + 1) = ((v + 1 : Nat) : Int) := by rw [IntKind.wrap_u8]; omega
                have x1' : List.drop u ((48 : UInt8) :: List.take u [49, 50, 51, 52, 53, 54, 55, 56, 57, 65, 66, 67, 68, 69, 70]) = [hexC u] := x1
                have x2' : List.drop v ((48 : UInt8) :: List.take v [49, 50, 51, 52, 53, 54, 55, 56, 57, 65, 66, 67, 68, 69, 70]) = [hexC v] := x2
                repeat' (first | ((with_reducible refine Br.dec (fun _ => ?_) (fun _ => ?_)) <;> try (exfalso; omega)) | ((with_reducible refine Br.eq (fun _ => ?_) (fun _ => ?_)) <;> try (exfalso; omega)) | ((with_reducible refine Br.ne (fun _ => ?_) (fun _ => ?_)) <;> try (exfalso; omega)) | ((with_reducible refine brNdec (fun _ => ?_) (fun _ => ?_)) <;> try (exfalso; omega)) | ((with_reducible refine brNeq (fun _ => ?_) (fun _ => ?_)) <;> try (exfalso; omega)) | with_reducible refine Br.intro (fun _ => ?_) (fun _ => ?_) | (with_reducible apply pcallE.of; · exact cL) | (with_reducible refine And.intro ?_ ?_; · omega) | simp -dsimp -implicitDefEqProofs (disch := omega) only [↓vcOps_sp 18, ↓vcOps_sp 22, ↓vcOps_sp 26, ↓vcOps_sp 30, VCA, Nat.reduceEqDiff, Nat.reduceAdd, Nat.reduceLeDiff, ↓reduceIte, reduceCtorEq, rsOf, rootsOf, SOp.rd, SI.rd, SX.rd, ne_eq, rootL, e0, e3, e4, hb, p2, p3, p4, p5, d1, w1, w2, w3, w4, x1', x2'])
                all_goals exact ⟨_, by omega, i + 1, by omega, rfl, by rw [hen], by omega⟩
            · rw [p5] at hpl
              rw [plain (by rw [hpl]; rfl)] at hen
              repeat' (first | ((with_reducible refine Br.dec (fun _ => ?_) (fun _ => ?_)) <;> try (exfalso; omega)) | ((with_reducible refine Br.eq (fun _ => ?_) (fun _ => ?_)) <;> try (exfalso; omega)) | ((with_reducible refine Br.ne (fun _ => ?_) (fun _ => ?_)) <;> try (exfalso; omega)) | ((with_reducible refine brNdec (fun _ => ?_) (fun _ => ?_)) <;> try (exfalso; omega)) | ((with_reducible refine brNeq (fun _ => ?_) (fun _ => ?_)) <;> try (exfalso; omega)) | with_reducible refine Br.intro (fun _ => ?_) (fun _ => ?_) | (with_reducible apply pcallE.of; · exact cL) | (with_reducible refine And.intro ?_ ?_; · omega) | simp -dsimp -implicitDefEqProofs (disch := omega) only [↓vcOps_sp 18, ↓vcOps_sp 22, ↓vcOps_sp 26, ↓vcOps_sp 30, VCA, Nat.reduceEqDiff, Nat.reduceLeDiff, ↓reduceIte, reduceCtorEq, e0, e3, e4, hb, p2, p3, p4, p5, hsg])
              all_goals exact ⟨_, by omega, i + 1, by omega, rfl, by rw [hen], by omega⟩
          · rw [p4] at hpl
            rw [plain (by rw [hpl]; rfl)] at hen
            repeat' (first | ((with_reducible refine Br.dec (fun _ => ?_) (fun _ => ?_)) <;> try (exfalso; omega)) | ((with_reducible refine Br.eq (fun _ => ?_) (fun _ => ?_)) <;> try (exfalso; omega)) | ((with_reducible refine Br.ne (fun _ => ?_) (fun _ => ?_)) <;> try (exfalso; omega)) | ((with_reducible refine brNdec (fun _ => ?_) (fun _ => ?_)) <;> try (exfalso; omega)) | ((with_reducible refine brNeq (fun _ => ?_) (fun _ => ?_)) <;> try (exfalso; omega)) | with_reducible refine Br.intro (fun _ => ?_) (fun _ => ?_) | (with_reducible apply pcallE.of; · exact cL) | (with_reducible refine And.intro ?_ ?_; · omega) | simp -dsimp -implicitDefEqProofs (disch := omega) only [↓vcOps_sp 18, ↓vcOps_sp 22, ↓vcOps_sp 26, ↓vcOps_sp 30, VCA, Nat.reduceEqDiff, Nat.reduceLeDiff, ↓reduceIte, reduceCtorEq, e0, e3, e4, hb, p2, p3, p4, hsg])
            all_goals exact ⟨_, by omega, i + 1, by omega, rfl, by rw [hen], by omega⟩
        · rw [p3] at hpl
          rw [plain (by rw [hpl]; rfl)] at hen
          repeat' (first | ((with_reducible refine Br.dec (fun _ => ?_) (fun _ => ?_)) <;> try (exfalso; omega)) | ((with_reducible refine Br.eq (fun _ => ?_) (fun _ => ?_)) <;> try (exfalso; omega)) | ((with_reducible refine Br.ne (fun _ => ?_) (fun _ => ?_)) <;> try (exfalso; omega)) | ((with_reducible refine brNdec (fun _ => ?_) (fun _ => ?_)) <;> try (exfalso; omega)) | ((with_reducible refine brNeq (fun _ => ?_) (fun _ => ?_)) <;> try (exfalso; omega)) | with_reducible refine Br.intro (fun _ => ?_) (fun _ => ?_) | (with_reducible apply pcallE.of; · exact cL) | (with_reducible refine And.intro ?_ ?_; · omega) | simp -dsimp -implicitDefEqProofs (disch := omega) only [↓vcOps_sp 18, ↓vcOps_sp 22, ↓vcOps_sp 26, ↓vcOps_sp 30, VCA, Nat.reduceEqDiff, Nat.reduceLeDiff, ↓reduceIte, reduceCtorEq, e0, e3, e4, hb, p2, p3, hsg])
          all_goals exact ⟨_, by omega, i + 1, by omega, rfl, by rw [hen], by omega⟩
      · rw [p2] at hpl
        rw [plain (by rw [hpl]; rfl)] at hen
        repeat' (first | ((with_reducible refine Br.dec (fun _ => ?_) (fun _ => ?_)) <;> try (exfalso; omega)) | ((with_reducible refine Br.eq (fun _ => ?_) (fun _ => ?_)) <;> try (exfalso; omega)) | ((with_reducible refine Br.ne (fun _ => ?_) (fun _ => ?_)) <;> try (exfalso; omega)) | ((with_reducible refine brNdec (fun _ => ?_) (fun _ => ?_)) <;> try (exfalso; omega)) | ((with_reducible refine brNeq (fun _ => ?_) (fun _ => ?_)) <;> try (exfalso; omega)) | with_reducible refine Br.intro (fun _ => ?_) (fun _ => ?_) | (with_reducible apply pcallE.of; · exact cL) | (with_reducible refine And.intro ?_ ?_; · omega) | simp -dsimp -implicitDefEqProofs (disch := omega) only [↓vcOps_sp 18, ↓vcOps_sp 22, ↓vcOps_sp 26, ↓vcOps_sp 30, VCA, Nat.reduceEqDiff, Nat.reduceLeDiff, ↓reduceIte, reduceCtorEq, e0, e3, e4, hb, p2, hsg])
        all_goals exact ⟨_, by omega, i + 1, by omega, rfl, by rw [hen], by omega⟩
    · rw [p1] at cL hpl
      rw [plain (by rw [hpl]; rfl)] at hen
      repeat' (first | ((with_reducible refine Br.dec (fun _ => ?_) (fun _ => ?_)) <;> try (exfalso; omega)) | ((with_reducible refine Br.eq (fun _ => ?_) (fun _ => ?_)) <;> try (exfalso; omega)) | ((with_reducible refine Br.ne (fun _ => ?_) (fun _ => ?_)) <;> try (exfalso; omega)) | ((with_reducible refine brNdec (fun _ => ?_) (fun _ => ?_)) <;> try (exfalso; omega)) | ((with_reducible refine brNeq (fun _ => ?_) (fun _ => ?_)) <;> try (exfalso; omega)) | with_reducible refine Br.intro (fun _ => ?_) (fun _ => ?_) | (with_reducible apply pcallE.of; · exact cL) | (with_reducible refine And.intro ?_ ?_; · omega) | simp -dsimp -implicitDefEqProofs (disch := omega) only [↓vcOps_sp 18, ↓vcOps_sp 22, ↓vcOps_sp 26, ↓vcOps_sp 30, VCA, Nat.reduceEqDiff, Nat.reduceLeDiff, ↓reduceIte, reduceCtorEq, e0, e3, e4, hb, hsg])
      all_goals exact ⟨_, by omega, i + 1, by omega, rfl, by rw [hen], by omega⟩
  · obtain rfl : i = s.length := by omega
    rw [List.take_length] at e3
    simp -dsimp -implicitDefEqProofs (disch := omega) only [VCA, Nat.reduceEqDiff, ↓reduceIte, exists_eq_right, e3]
    exact Sub.refl _
end Go.Proofs.K
end
section
/- Parts of a code. -/
set_option linter.unusedVariables false
namespace Go.Proofs.K
open Go Go.Sim
def pL : SCode → SCode
  | .seq a _ => a
  | c => c
def pR : SCode → SCode
  | .seq _ b => b
  | c => c
def pB : SCode → SCode
  | .block _ c => c
  | .range _ _ _ c => c
  | c => c
def pA : SCode → SCode
  | .range _ _ a _ => a
  | c => c
end Go.Proofs.K
end
section
/- Library functions on strings: Cut. -/
set_option linter.unusedSimpArgs false
set_option linter.unusedVariables false
namespace Go.Proofs.K
open Go Go.Sim Go.Proofs
variable {G : Glob}
theorem cut_ok (hG : MaxLenOK G) (s t : List UInt8) (hs : s.length < 4294967281) : PCalls (Pg G) 26 [.str s, .str t] (.tup [.str (Lib.cut s t).1, .str (Lib.cut s t).2.1, .bool (Lib.cut s t).2.2]) := by
  obtain ⟨m, hG⟩ := hG
  refine ofBelow ⟨_, Tryz.func26, by kernel_rfl, by kernel_rfl⟩ fun g w vs GR V => ?_
  obtain ⟨u, v, rfl, hu, hv⟩ := V.two_inv
  rw [hu.str_inv', hv.str_inv']
  refine (Tryz.strings_Cut ⟨⟨s⟩⟩ ⟨⟨t⟩⟩ m w hs (GR.int hG)).mono fun e w' ⟨he, n, hw⟩ => ⟨_, he, ?_, fun g w => ?_⟩
  · rw [hw]; exact ⟨rfl, rfl, rfl, Nat.le_refl _, fun _ _ => rfl⟩
  · refine .tup _ _ rfl fun j u a hu ha => ?_
    match j with
    | 0 => simp at hu ha; subst hu ha; exact VRel.str_mk g w _
    | 1 => simp at hu ha; subst hu ha; exact VRel.str_mk g w _
    | 2 => simp at hu ha; subst hu ha; exact .bool _
    | j + 3 => simp at hu
end Go.Proofs.K
end
section
/- Edits of documents: what becomes of a document; whether it is still right. Plain law. -/
set_option linter.unusedSimpArgs false
set_option linter.unusedVariables false
namespace Go.Proofs.K
open Go Go.Sim Go.Proofs
/-! ## a node set -/
def setN (d : HDoc) (n : Int) (x : HNode) : HDoc := ⟨d.nodes.set n.toNat x, d.quirks⟩
section
variable {d : HDoc}
theorem setN_len (n : Int) (x : HNode) : (setN d n x).nodes.length = d.nodes.length := by simp [setN]
theorem inD_setN {n m : Int} {x : HNode} : inD (setN d n x) m ↔ inD d m := by unfold inD; rw [setN_len]
theorem nd_setN {n m : Int} {x : HNode} (hn : inD d n) (hm : inD d m) : nd (setN d n x) m = if m = n then x else nd d m := by
  have h1 := hn.nat
  have h2 := hm.nat
  unfold nd setN
  rw [nth_set _ _ _ _ h1.1]
  by_cases h : m = n
  · subst h; rw [if_pos rfl, if_pos rfl]
  · rw [if_neg h, if_neg (by omega)]
/-! ## how deep, by parents alone -/
theorem upF_congr {d' : HDoc} (V : DV d) (h : ∀ m, inD d m → (nd d' m).parent = (nd d m).parent) : ∀ (f : Nat) (n : Int), inD d n → upF f d' n = upF f d n
  | 0, _, _ => rfl
  | f + 1, n, hn => by
    unfold upF
    rw [h n hn]
    by_cases hp : 0 ≤ (nd d n).parent
    · rw [if_pos hp, if_pos hp, upF_congr V h f _ (V.par_in hn hp).1]
    · rw [if_neg hp, if_neg hp]
/-! ## a node more -/
def addN (d : HDoc) (x : HNode) : HDoc := ⟨d.nodes ++ [x], d.quirks⟩
theorem addN_len (x : HNode) : (addN d x).nodes.length = d.nodes.length + 1 := by simp [addN]
theorem nd_addN {x : HNode} {m : Int} (hm : inD d m) : nd (addN d x) m = nd d m := by
  have h := hm.nat
  unfold nd addN nth
  rw [List.getD_eq_getElem?_getD, List.getD_eq_getElem?_getD, List.getElem?_append_left h.1]
theorem nd_addN_new (x : HNode) : nd (addN d x) (d.nodes.length : Int) = x := by
  unfold nd addN nth
  rw [List.getD_eq_getElem?_getD]; simp
theorem inD_addN {x : HNode} {m : Int} : inD (addN d x) m ↔ inD d m ∨ m = d.nodes.length := by unfold inD; rw [addN_len]; omega
theorem up_addN (V : DV d) {x : HNode} {m : Int} (hm : inD d m) : up (addN d x) m = up d m := by
  have h1 : upF (d.nodes.length + 1 + 1) (addN d x) m = upF (d.nodes.length + 1 + 1) d m := upF_congr V (fun k hk => by rw [nd_addN hk]) _ m hm
  have h2 : up (addN d x) m = upF (d.nodes.length + 1 + 1) (addN d x) m := by unfold up; rw [addN_len]
  rw [h2, h1]
  have h3 := V.fin m hm
  exact upF_mono (f := d.nodes.length + 1) (by unfold up at h3; omega) (by omega)
theorem DV.add (V : DV d) {x : HNode} (hp : x.parent = -1) (hc : x.kids = []) (h1 : x.kind ≠ 1) : DV (addN d x) ↔ nodeE x = 0 ∧ d.nodes.length < 200 := by
  have new := nd_addN_new (d := d) x
  have inew : inD (addN d x) (d.nodes.length : Int) := inD_addN.2 (.inr rfl)
  constructor
  · intro W
    have h2 := W.node _ inew
    have h3 := W.len
    rw [new] at h2
    rw [addN_len] at h3
    exact ⟨h2, by omega⟩
  · rintro ⟨hx, hl⟩
    have z := V.pos
    have upn : up (addN d x) (d.nodes.length : Int) = 0 := by
      unfold up upF
      rw [new, if_neg (by omega)]
    refine ⟨by rw [addN_len]; omega, by rw [addN_len]; omega, fun m hm => ?_, fun m hm => ?_, fun m hm k hk' => ?_, fun m hm => ?_, fun k hk' => ?_, fun m hm => ?_, ?_, fun m hm => ?_, fun m hm => ?_⟩
    · rcases inD_addN.1 hm with hm | rfl
      · rw [nd_addN hm]; exact V.kind m hm
      · rw [new]; constructor
        · intro h; exact absurd h h1
        · intro h; omega
    · rcases inD_addN.1 hm with hm | rfl
      · rw [nd_addN hm]; exact V.node m hm
      · rw [new]; exact hx
    · rcases inD_addN.1 hm with hm | rfl
      · rw [nd_addN hm] at hk'
        obtain ⟨g1, g2⟩ := V.kid m hm k hk'
        exact ⟨inD_addN.2 (.inl g1), by rw [nd_addN g1]; exact g2⟩
      · rw [new, hc] at hk'; cases hk'
    · rcases inD_addN.1 hm with hm | rfl
      · rw [nd_addN hm]; exact V.nodup m hm
      · rw [new, hc]; exact .nil
    · rw [nd_addN V.zero] at hk'
      rw [nd_addN (V.kid 0 V.zero k hk').1]; exact V.top k hk'
    · rcases inD_addN.1 hm with hm | rfl
      · rw [nd_addN hm]
        rcases V.par m hm with h | ⟨g1, g2⟩
        · exact .inl h
        · exact .inr ⟨inD_addN.2 (.inl g1), by rw [nd_addN g1]; exact g2⟩
      · rw [new]; exact .inl hp
    · rw [nd_addN V.zero]; exact V.root
    · rcases inD_addN.1 hm with hm | rfl
      · rw [up_addN V hm, addN_len]; have := V.fin m hm; omega
      · rw [upn]; omega
    · rcases inD_addN.1 hm with hm | rfl
      · rw [up_addN V hm]; exact V.deep m hm
      · rw [upn]; omega
/-! ## a node hung up -/
theorem bareM_kids {x : HNode} {l : List Int} (h : x.kind = 1 ∨ x.kind = 2) : nodeE { x with kids := l } = nodeE x := by
  have : bareM { x with kids := l } = bareM x := by
    unfold bareM
    rcases h with h | h <;> simp [h]
  unfold nodeE
  rw [this]
section
variable {a t : Int} {i : Nat}
end
/-! ## a node taken away -/
theorem split_nthK {l : List Int} {k : Nat} (hk : k < l.length) : l = l.take k ++ nth l k :: l.drop (k + 1) := by
  have : nth l k = l[k] := by unfold nth; rw [List.getD_eq_getElem?_getD, List.getElem?_eq_getElem hk]; rfl
  rw [this, List.getElem_cons_drop, List.take_append_drop]
theorem nodup_del {l : List Int} (hn : l.Nodup) {i : Nat} (hi : i < l.length) : (l.take i ++ l.drop (i + 1)).Nodup ∧ ∀ x, x ∈ l.take i ++ l.drop (i + 1) ↔ x ∈ l ∧ x ≠ nth l i := by
  have e := split_nthK hi
  generalize nth l i = y at *
  have h := hn
  rw [e, List.nodup_append, List.nodup_cons] at h
  obtain ⟨h1, ⟨h2, h3⟩, h4⟩ := h
  constructor
  · rw [List.nodup_append]
    exact ⟨h1, h3, fun x hx z hz => h4 x hx z (List.mem_cons_of_mem _ hz)⟩
  · intro x
    have hm : x ∈ l ↔ x ∈ l.take i ∨ x = y ∨ x ∈ l.drop (i + 1) := by
      conv => lhs; rw [e]
      rw [List.mem_append, List.mem_cons]
    rw [hm, List.mem_append]
    constructor
    · rintro (hx | hx)
      · exact ⟨.inl hx, fun e => h4 x hx y List.mem_cons_self e⟩
      · exact ⟨.inr (.inr hx), fun e => h2 (e ▸ hx)⟩
    · rintro ⟨hx | hx | hx, hne⟩
      · exact .inl hx
      · exact absurd hx hne
      · exact .inr hx
def cutN (d : HDoc) (n : Int) (i : Nat) : HDoc := setN (setN d (nd d n).parent { nd d (nd d n).parent with kids := (nd d (nd d n).parent).kids.take i ++ (nd d (nd d n).parent).kids.drop (i + 1) }) n { nd d n with parent := -1 }
section
variable {n : Int} {i : Nat}
theorem cutN_len : (cutN d n i).nodes.length = d.nodes.length := by unfold cutN; rw [setN_len, setN_len]
theorem inD_cutN {m : Int} : inD (cutN d n i) m ↔ inD d m := by unfold cutN; rw [inD_setN, inD_setN]
theorem nd_cutN (hn : inD d n) (hp : inD d (nd d n).parent) {m : Int} (hm : inD d m) : nd (cutN d n i) m = if m = n then { nd d n with parent := -1 } else if m = (nd d n).parent then { nd d (nd d n).parent with kids := (nd d (nd d n).parent).kids.take i ++ (nd d (nd d n).parent).kids.drop (i + 1) } else nd d m := by
  unfold cutN
  rw [nd_setN (inD_setN.2 hn) (inD_setN.2 hm), nd_setN hp hm]
theorem upF_cutN (V : DV d) (hn : inD d n) (hp : 0 ≤ (nd d n).parent) : ∀ (f : Nat) (m : Int), inD d m → upF f (cutN d n i) m ≤ upF f d m
  | 0, _, _ => Nat.le_refl _
  | f + 1, m, hm => by
    have hpi := (V.par_in hn hp).1
    unfold upF
    rw [nd_cutN hn hpi hm]
    by_cases h1 : m = n
    · rw [if_pos h1, if_neg (by show ¬ (0 : Int) ≤ -1; omega)]; omega
    · rw [if_neg h1]
      have e : (if m = (nd d n).parent then { nd d (nd d n).parent with kids := (nd d (nd d n).parent).kids.take i ++ (nd d (nd d n).parent).kids.drop (i + 1) } else nd d m).parent = (nd d m).parent := by
        split
        · rename_i h2; rw [h2]
        · rfl
      rw [e]
      by_cases h3 : 0 ≤ (nd d m).parent
      · rw [if_pos h3, if_pos h3]
        have := upF_cutN V hn hp f _ (V.par_in hm h3).1
        omega
      · rw [if_neg h3, if_neg h3]; omega
theorem DV.cut (V : DV d) (hn : inD d n) (hp : 0 ≤ (nd d n).parent) (hi : i < (nd d (nd d n).parent).kids.length) (hk : nth (nd d (nd d n).parent).kids i = n) : DV (cutN d n i) := by
  obtain ⟨hpi, hnk⟩ := V.par_in hn hp
  have hne : (nd d n).parent ≠ n := fun e => by have := V.up_par hn hp; rw [e] at this; omega
  have at' : ∀ m, inD d m → nd (cutN d n i) m = _ := fun m hm => nd_cutN hn hpi hm
  obtain ⟨nd1, nd2⟩ := nodup_del (V.nodup _ hpi) hi
  rw [hk] at nd2
  have pk : (nd d (nd d n).parent).kind = 1 ∨ (nd d (nd d n).parent).kind = 2 := by
    have h := V.node _ hpi
    unfold nodeE at h
    split at h
    · omega
    · rename_i hb
      have hb : bareM (nd d (nd d n).parent) = true := by
        cases hb2 : bareM (nd d (nd d n).parent) with
        | true => rfl
        | false => exact absurd (.inr (.inr hb2)) hb
      unfold bareM at hb
      simp only [Bool.and_eq_true, Bool.or_eq_true, decide_eq_true_eq] at hb
      rcases hb.2 with (h | h) | h
      · exact .inl h
      · exact .inr h
      · rw [h] at hnk; cases hnk
  have kind' : ∀ m, inD d m → (nd (cutN d n i) m).kind = (nd d m).kind := fun m hm => by
    rw [at' m hm]
    by_cases h1 : m = n
    · rw [if_pos h1, h1]
    · rw [if_neg h1]
      split
      · rename_i h2; rw [h2]
      · rfl
  have par' : ∀ m, inD d m → (nd (cutN d n i) m).parent = if m = n then -1 else (nd d m).parent := fun m hm => by
    rw [at' m hm]
    by_cases h1 : m = n
    · rw [if_pos h1, if_pos h1]
    · rw [if_neg h1, if_neg h1]
      split
      · rename_i h2; rw [h2]
      · rfl
  have kids' : ∀ m, inD d m → (nd (cutN d n i) m).kids = if m = (nd d n).parent then (nd d (nd d n).parent).kids.take i ++ (nd d (nd d n).parent).kids.drop (i + 1) else (nd d m).kids := fun m hm => by
    rw [at' m hm]
    by_cases h1 : m = n
    · rw [if_pos h1, h1, if_neg (fun e => hne e.symm)]
    · rw [if_neg h1]
      split <;> rfl
  refine ⟨by rw [cutN_len]; exact V.pos, by rw [cutN_len]; exact V.len, fun m hm => ?_, fun m hm => ?_, fun m hm k hk' => ?_, fun m hm => ?_, fun k hk' => ?_, fun m hm => ?_, ?_, fun m hm => ?_, fun m hm => ?_⟩
  · rw [inD_cutN] at hm; rw [kind' m hm]; exact V.kind m hm
  · rw [inD_cutN] at hm
    rw [at' m hm]
    by_cases h1 : m = n
    · rw [if_pos h1]; exact V.node n hn
    · rw [if_neg h1]
      by_cases h2 : m = (nd d n).parent
      · rw [if_pos h2, bareM_kids pk]; exact V.node _ hpi
      · rw [if_neg h2]; exact V.node m hm
  · rw [inD_cutN] at hm
    rw [kids' m hm] at hk'
    by_cases h2 : m = (nd d n).parent
    · rw [if_pos h2, nd2] at hk'
      obtain ⟨g1, g2⟩ := V.kid _ hpi k hk'.1
      exact ⟨inD_cutN.2 g1, by rw [par' k g1, if_neg hk'.2, h2]; exact g2⟩
    · rw [if_neg h2] at hk'
      obtain ⟨g1, g2⟩ := V.kid m hm k hk'
      refine ⟨inD_cutN.2 g1, ?_⟩
      rw [par' k g1, if_neg (fun e => h2 (by rw [← g2, e]))]; exact g2
  · rw [inD_cutN] at hm
    rw [kids' m hm]
    split
    · exact nd1
    · exact V.nodup m hm
  · rw [kids' 0 V.zero] at hk'
    have hk2 : k ∈ (nd d 0).kids := by
      split at hk'
      · rename_i h2; rw [nd2] at hk'; rw [h2]; exact hk'.1
      · exact hk'
    rw [kind' k (V.kid 0 V.zero k hk2).1]; exact V.top k hk2
  · rw [inD_cutN] at hm
    rw [par' m hm]
    by_cases h1 : m = n
    · exact .inl (if_pos h1)
    · rw [if_neg h1]
      rcases V.par m hm with h | ⟨g1, g2⟩
      · exact .inl h
      · refine .inr ⟨inD_cutN.2 g1, ?_⟩
        rw [kids' _ g1]
        split
        · rename_i h2; rw [nd2, ← h2]; exact ⟨g2, h1⟩
        · exact g2
  · rw [par' 0 V.zero]
    split
    · rfl
    · exact V.root
  · rw [inD_cutN] at hm
    have h1 : up (cutN d n i) m ≤ up d m := by unfold up; rw [cutN_len]; exact upF_cutN V hn hp _ m hm
    have := V.fin m hm
    rw [cutN_len]; omega
  · rw [inD_cutN] at hm
    have h1 : up (cutN d n i) m ≤ up d m := by unfold up; rw [cutN_len]; exact upF_cutN V hn hp _ m hm
    have := V.deep m hm
    omega
end
end
end Go.Proofs.K
end
section
/- Edits of documents: what they do, and what is wrong with them: plain law. -/
set_option linter.unusedSimpArgs false
set_option linter.unusedVariables false
namespace Go.Proofs.K
open Go Go.Sim Go.Proofs
structure HEdit where
  do' : Int
  at' : Int
  into : Int
  before : Int
  name : List UInt8
  value : List UInt8
  node : HNode
deriving DecidableEq, Inhabited
def eEdit (e : HEdit) : List AVal := [aInt e.do', aInt e.at', aInt e.into, aInt e.before, .str e.name, .str e.value, aInt e.node.kind, .str e.node.name, sl eAttr e.node.attrs, .str e.node.text, aInt e.node.parent, sl eInt e.node.kids]
instance : LenE eEdit 12 := ⟨fun _ => rfl⟩
structure EditSm (e : HEdit) : Prop where
  name : e.name.length ≤ 1073741824
  value : e.value.length ≤ 1073741824
  node : NodeSm e.node
/-! ## attributes -/
theorem attrAt_spec (l : List HAttr) (name : List UInt8) (h : 0 ≤ attrAt l name) : (attrAt l name).toNat < l.length ∧ (nth l (attrAt l name).toNat).name = name ∧ ((attrAt l name).toNat : Int) = attrAt l name := by
  unfold attrAt idxM at *
  cases hf : l.findIdx? (fun a : HAttr => a.name == name) with
  | none => rw [hf] at h; simp at h
  | some i =>
    simp only [hf] at h ⊢
    rw [List.findIdx?_eq_some_iff_getElem] at hf
    obtain ⟨h1, h2, _⟩ := hf
    refine ⟨by simpa using h1, ?_, by simp⟩
    have : nth l i = l[i] := by unfold nth; rw [List.getD_eq_getElem?_getD, List.getElem?_eq_getElem h1]; rfl
    show (nth l ((i : Int)).toNat).name = name
    rw [show ((i : Int)).toNat = i by simp, this]
    simpa using h2
theorem nodeE_iff (x : HNode) : nodeE x = 0 ↔ (1 ≤ x.kind ∧ x.kind ≤ 5) ∧ bareM x = true ∧ (x.kind = 2 → nameOK true x.name = true) ∧ attrsE x.attrs = 0 ∧ x.text.length ≤ 400 ∧ x.name.length ≤ 400 := by
  unfold nodeE
  constructor
  · intro h
    split at h
    · omega
    · rename_i h1
      simp only [not_or] at h1
      split at h
      · omega
      · rename_i h2
        split at h
        · rename_i h3; exact absurd h h3
        · rename_i h3
          split at h
          · omega
          · rename_i h4
            refine ⟨by omega, by simpa using h1.2.2, fun h5 => ?_, by simpa using h3, by omega, by omega⟩
            cases hn : nameOK true x.name with
            | true => rfl
            | false => exact absurd ⟨h5, hn⟩ h2
  · rintro ⟨h1, h2, h3, h4, h5, h6⟩
    rw [if_neg (by rw [h2]; simp; omega), if_neg (by rintro ⟨h7, h8⟩; rw [h3 h7] at h8; cases h8), if_neg (by simpa using h4), if_neg (by omega)]
/-! ## how far what lies below a node goes -/
section
variable {d : HDoc}
end
/-! ## the edits -/
section
variable {d : HDoc}
end
end Go.Proofs.K
end
section
/- Documents of one's own: nodes in a root, lists of each node in roots of their own. -/
set_option linter.unusedSimpArgs false
set_option linter.unusedVariables false
namespace Go.Proofs.K
open Go Go.Sim Go.Proofs
variable {G : Glob}
def rootOf : AVal → Option Nat
  | .osl r _ _ _ => some r
  | _ => none
/-- a list of one's own; or data -/
def OwnS (h : Heap) (ty sz : Nat) (cells : List (List AVal)) (a : AVal) : Prop :=
  (cells = [] ∧ a = .emp) ∨ (a = .slc cells ∧ ∀ e ∈ cells, e.length = sz) ∨ ∃ r es, a = .osl r sz 0 cells.length ∧ h r = some ⟨ty, sz, es⟩ ∧ cells.length ≤ es.length ∧ es.take cells.length = cells
def Mut (a : AVal) : Prop := ∀ es, a ≠ .slc es
theorem OwnS.keep {h h2 : Heap} {ty sz : Nat} {cells : List (List AVal)} {a : AVal} (O : OwnS h ty sz cells a) (hk : ∀ r o, rootOf a = some r → h r = some o → h2 r = some o) : OwnS h2 ty sz cells a := by
  rcases O with O | O | ⟨r, es, ha, hr, h1, h2⟩
  · exact .inl O
  · exact .inr (.inl O)
  · exact .inr (.inr ⟨r, es, ha, hk r _ (by rw [ha]; rfl) hr, h1, h2⟩)
theorem OwnS.of_acc {h h' : Heap} {ty sz : Nat} {cells : List (List AVal)} {a : AVal} (A : Acc h ty sz cells a h') : OwnS h' ty sz cells a ∧ (∀ r, rootOf a = some r → h r = none) ∧ Mut a := by
  rcases A with ⟨h1, h2⟩ | ⟨r, h0, h1, h2⟩
  · exact ⟨.inl ⟨h1, h2⟩, fun r hr => by (rw [h2] at hr; cases hr), fun es e => by rw [h2] at e; cases e⟩
  · exact ⟨.inr (.inr ⟨r, _, h2, h1, Nat.le_refl _, by rw [List.take_length]⟩), fun r' hr => by (rw [h2] at hr; cases hr; exact h0), fun es e => by rw [h2] at e; cases e⟩
theorem OwnS.len {h : Heap} {ty sz : Nat} {cells : List (List AVal)} {a : AVal} (O : OwnS h ty sz cells a) : aLen a = aInt cells.length ∧ okLen a = True := by
  rcases O with ⟨h1, h2⟩ | ⟨h2, _⟩ | ⟨r, es, ha, _⟩
  · subst h1; subst h2; exact ⟨rfl, rfl⟩
  · subst h2; exact ⟨rfl, rfl⟩
  · subst ha; exact ⟨rfl, rfl⟩
theorem OwnS.isV {h : Heap} {ty sz : Nat} {cells : List (List AVal)} {a : AVal} (O : OwnS h ty sz cells a) : isV a = true ∧ cellsOf a = [a] := by
  rcases O with ⟨h1, h2⟩ | ⟨h2, _⟩ | ⟨r, es, ha, _⟩
  · subst h2; exact ⟨rfl, rfl⟩
  · subst h2; exact ⟨rfl, rfl⟩
  · subst ha; exact ⟨rfl, rfl⟩
theorem OwnS.root {h : Heap} {ty sz : Nat} {cells : List (List AVal)} {a : AVal} (O : OwnS h ty sz cells a) {r : Nat} (hr : rootOf a = some r) : ∃ o, h r = some o := by
  rcases O with ⟨h1, h2⟩ | ⟨h2, _⟩ | ⟨r', es, ha, h1, _⟩
  · subst h2; cases hr
  · subst h2; cases hr
  · subst ha; cases hr; exact ⟨_, h1⟩
/-- .. lent to a reader -/
theorem OwnS.vw {α : Type} [Inhabited α] {enc : α → List AVal} {h : Heap} {ty sz : Nat} [LenE enc sz] {l : List α} {a : AVal} (O : OwnS h ty sz (l.map enc) a) : Vw h a (sl enc l) := by
  rcases O with ⟨h1, h2⟩ | ⟨h2, _⟩ | ⟨r, es, ha, hr, h1, h2⟩
  · have : l = [] := by simpa using h1
    subst this; subst h2; exact .emp
  · subst h2; exact .refl _
  · subst ha
    refine .osl r sz 0 _ ⟨ty, sz, es⟩ (l.map enc) hr (by simpa using h1) rfl (fun f hf => by obtain ⟨x, _, rfl⟩ := List.mem_map.1 hf; exact LenE.len x) fun k j e f x y he hf hx hy => ?_
    have hk : k < (l.map enc).length := (List.getElem?_eq_some_iff.1 hf).1
    simp only [Nat.zero_add] at he
    have he' : (es.take (l.map enc).length)[k]? = some e := by rw [List.getElem?_take, if_pos hk]; exact he
    rw [h2] at he'
    rw [he'] at hf
    cases hf
    rw [hx] at hy; cases hy; exact .refl _
def rowA (x : HNode) (a k : AVal) : List AVal := [aInt x.kind, .str x.name, a, .str x.text, aInt x.parent, k]
def rowsA (d : HDoc) (sl : Nat → AVal) : List (List AVal) := (List.range d.nodes.length).map fun i => rowA (nth d.nodes i) (sl (2 * i)) (sl (2 * i + 1))
theorem rowsA_len (d : HDoc) (sl : Nat → AVal) : (rowsA d sl).length = d.nodes.length := by simp [rowsA]
structure Dw (X : List Nat) (h0 h : Heap) (rN : Nat) (d : HDoc) (sl : Nat → AVal) : Prop where
  sub : Sim.Sub h0 h
  nodes : h rN = some ⟨.t 73, 6, rowsA d sl⟩
  new : h0 rN = none ∧ rN ∉ X
  own : ∀ i, i < d.nodes.length → OwnS h 108 2 ((nth d.nodes i).attrs.map eAttr) (sl (2 * i)) ∧ OwnS h 3 1 ((nth d.nodes i).kids.map eInt) (sl (2 * i + 1))
  fresh : ∀ k, k < 2 * d.nodes.length → ∀ r, rootOf (sl k) = some r → h0 r = none ∧ r ≠ rN ∧ r ∉ X
  sep : ∀ j k, j < 2 * d.nodes.length → k < 2 * d.nodes.length → j ≠ k → ∀ r, rootOf (sl j) = some r → rootOf (sl k) ≠ some r
  keep : ∀ r ∈ X, ∃ o, h r = some o
theorem Dw.slot {X : List Nat} {h0 h : Heap} {rN : Nat} {d : HDoc} {sl : Nat → AVal} (E : Dw X h0 h rN d sl) {k : Nat} (hk : k < 2 * d.nodes.length) {r : Nat} (hr : rootOf (sl k) = some r) : ∃ o, h r = some o := by
  have hi : k / 2 < d.nodes.length := by omega
  obtain ⟨h1, h2⟩ := E.own _ hi
  rcases (by omega : k = 2 * (k / 2) ∨ k = 2 * (k / 2) + 1) with h | h
  · rw [h] at hr; exact h1.root hr
  · rw [h] at hr; exact h2.root hr
/-- A node is changed: its row, its lists. -/
theorem Dw.put {X : List Nat} {h0 h h2 : Heap} {rN : Nat} {d : HDoc} {sl sl' : Nat → AVal} (E : Dw X h0 h rN d sl) {i : Nat} (hi : i < d.nodes.length) {x' : HNode}
    (hs : ∀ j, j ≠ 2 * i → j ≠ 2 * i + 1 → sl' j = sl j)
    (hN : h2 rN = some ⟨.t 73, 6, (rowsA d sl).set i (rowA x' (sl' (2 * i)) (sl' (2 * i + 1)))⟩)
    (hk : ∀ r o, h r = some o → r ≠ rN → rootOf (sl (2 * i)) ≠ some r → rootOf (sl (2 * i + 1)) ≠ some r → h2 r = some o)
    (hA : OwnS h2 108 2 (x'.attrs.map eAttr) (sl' (2 * i))) (hK : OwnS h2 3 1 (x'.kids.map eInt) (sl' (2 * i + 1)))
    (hf : ∀ r, rootOf (sl' (2 * i)) = some r ∨ rootOf (sl' (2 * i + 1)) = some r → rootOf (sl (2 * i)) = some r ∨ rootOf (sl (2 * i + 1)) = some r ∨ h r = none)
    (hd : ∀ r, rootOf (sl' (2 * i)) = some r → rootOf (sl' (2 * i + 1)) ≠ some r) : Dw X h0 h2 rN ⟨d.nodes.set i x', d.quirks⟩ sl' := by
  have hl : (d.nodes.set i x').length = d.nodes.length := by simp
  have fr : ∀ r, rootOf (sl' (2 * i)) = some r ∨ rootOf (sl' (2 * i + 1)) = some r → h0 r = none ∧ r ≠ rN ∧ r ∉ X := fun r hr => by
    rcases hf r hr with h | h | h
    · exact E.fresh _ (by omega) r h
    · exact E.fresh _ (by omega) r h
    · refine ⟨E.sub.none h, fun e => ?_, fun hx => ?_⟩
      · rw [e, E.nodes] at h; cases h
      · obtain ⟨o, ho⟩ := E.keep r hx; rw [h] at ho; cases ho
  have oth : ∀ j, j < 2 * d.nodes.length → j ≠ 2 * i → j ≠ 2 * i + 1 → ∀ r, rootOf (sl j) = some r → rootOf (sl' (2 * i)) ≠ some r ∧ rootOf (sl' (2 * i + 1)) ≠ some r := fun j hj h1 h2 r hr => by
    have key : ¬ (rootOf (sl (2 * i)) = some r ∨ rootOf (sl (2 * i + 1)) = some r ∨ h r = none) := by
      rintro (h | h | h)
      · exact E.sep j (2 * i) hj (by omega) h1 r hr h
      · exact E.sep j (2 * i + 1) hj (by omega) h2 r hr h
      · obtain ⟨o, ho⟩ := E.slot hj hr; rw [h] at ho; cases ho
    exact ⟨fun h => key (hf r (.inl h)), fun h => key (hf r (.inr h))⟩
  refine ⟨fun t o ht => ?_, ?_, E.new, fun j hj => ?_, fun k hk' r hr => ?_, fun j k hj hk' hne r hr => ?_, fun r hr => ?_⟩
  · have hne : t ≠ rN := fun e => by rw [e, E.new.1] at ht; cases ht
    refine hk t o (E.sub t o ht) hne (fun h => ?_) (fun h => ?_)
    · have := (E.fresh _ (by omega) t h).1; rw [this] at ht; cases ht
    · have := (E.fresh _ (by omega) t h).1; rw [this] at ht; cases ht
  · rw [hN]
    congr 2
    apply List.ext_getElem?
    intro j
    rw [List.getElem?_set]
    show _ = (rowsA ⟨d.nodes.set i x', d.quirks⟩ sl')[j]?
    unfold rowsA
    simp only [hl]
    by_cases hij : i = j
    · subst hij
      rw [if_pos rfl, if_pos (by simpa using hi), List.getElem?_map, List.getElem?_range hi, Option.map_some, nth_set _ _ _ _ hi, if_pos rfl]
    · rw [if_neg hij]
      by_cases hj : j < d.nodes.length
      · rw [List.getElem?_map, List.getElem?_map, List.getElem?_range hj, Option.map_some, Option.map_some, nth_set _ _ _ _ hi, if_neg (fun e => hij e.symm), hs (2 * j) (by omega) (by omega), hs (2 * j + 1) (by omega) (by omega)]
      · rw [List.getElem?_eq_none (by simp; omega), List.getElem?_eq_none (by simp; omega)]
  · simp only [hl] at hj
    show OwnS h2 _ _ ((nth (d.nodes.set i x') j).attrs.map eAttr) _ ∧ OwnS h2 _ _ ((nth (d.nodes.set i x') j).kids.map eInt) _
    rw [nth_set _ _ _ _ hi]
    by_cases hij : j = i
    · subst hij; rw [if_pos rfl]; exact ⟨hA, hK⟩
    · rw [if_neg hij, hs (2 * j) (by omega) (by omega), hs (2 * j + 1) (by omega) (by omega)]
      obtain ⟨g1, g2⟩ := E.own j hj
      exact ⟨g1.keep fun r o hr ho => hk r o ho (E.fresh _ (by omega) r hr).2.1 (fun h => E.sep (2 * j) (2 * i) (by omega) (by omega) (by omega) r hr h) (fun h => E.sep (2 * j) (2 * i + 1) (by omega) (by omega) (by omega) r hr h),
        g2.keep fun r o hr ho => hk r o ho (E.fresh _ (by omega) r hr).2.1 (fun h => E.sep (2 * j + 1) (2 * i) (by omega) (by omega) (by omega) r hr h) (fun h => E.sep (2 * j + 1) (2 * i + 1) (by omega) (by omega) (by omega) r hr h)⟩
  · simp only [hl] at hk'
    by_cases e1 : k = 2 * i
    · subst e1; exact fr r (.inl hr)
    · by_cases e2 : k = 2 * i + 1
      · subst e2; exact fr r (.inr hr)
      · rw [hs k e1 e2] at hr; exact E.fresh k hk' r hr
  · simp only [hl] at hj hk'
    by_cases j1 : j = 2 * i <;> by_cases j2 : j = 2 * i + 1 <;> by_cases k1 : k = 2 * i <;> by_cases k2 : k = 2 * i + 1
    all_goals first
      | (exfalso; omega)
      | (subst j1; subst k2; exact hd r hr)
      | (subst j2; subst k1; exact fun h => hd r h hr)
      | (subst j1; rw [hs k k1 k2]; exact fun h => (oth k hk' k1 k2 r h).1 hr)
      | (subst j2; rw [hs k k1 k2]; exact fun h => (oth k hk' k1 k2 r h).2 hr)
      | (subst k1; rw [hs j j1 j2] at hr; exact (oth j hj j1 j2 r hr).1)
      | (subst k2; rw [hs j j1 j2] at hr; exact (oth j hj j1 j2 r hr).2)
      | (rw [hs j j1 j2] at hr; rw [hs k k1 k2]; exact E.sep j k hj hk' hne r hr)
  · obtain ⟨o, ho⟩ := E.keep r hr
    refine ⟨o, hk r o ho (fun e => E.new.2 (e ▸ hr)) (fun h => ?_) (fun h => ?_)⟩
    · exact (E.fresh _ (by omega) r h).2.2 hr
    · exact (E.fresh _ (by omega) r h).2.2 hr
/-- a document lent to a reader -/
theorem Dw.vw {X : List Nat} {h0 h : Heap} {rN : Nat} {d : HDoc} {sl' : Nat → AVal} (E : Dw X h0 h rN d sl') : Vw h (.osl rN 6 0 d.nodes.length) (sl eNode d.nodes) := by
  refine Vw.osl0 E.nodes (by simp) (by rw [rowsA_len]; exact Nat.le_refl _) (fun f hf => by obtain ⟨x, _, rfl⟩ := List.mem_map.1 hf; rfl) ?_
  show F2 (F2 (Vw h)) ((rowsA d sl').take d.nodes.length) (d.nodes.map eNode)
  rw [List.take_of_length_le (by rw [rowsA_len]; exact Nat.le_refl _)]
  have key : ∀ (i : Nat), i < d.nodes.length → F2 (Vw h) (rowA (nth d.nodes i) (sl' (2 * i)) (sl' (2 * i + 1))) (eNode (nth d.nodes i)) := fun i hi => by
    obtain ⟨g1, g2⟩ := E.own i hi
    exact .cons (.refl _) (.cons (.refl _) (.cons g1.vw (.cons (.refl _) (.cons (.refl _) (.cons g2.vw .nil)))))
  have e : d.nodes.map eNode = (List.range d.nodes.length).map fun i => eNode (nth d.nodes i) := by
    apply List.ext_getElem?
    intro j
    by_cases hj : j < d.nodes.length
    · rw [List.getElem?_map, List.getElem?_map, List.getElem?_range hj, nth_some hj]; rfl
    · rw [List.getElem?_eq_none (by simp; omega), List.getElem?_eq_none (by simp; omega)]
  rw [e]
  unfold rowsA
  have gen : ∀ l : List Nat, (∀ i ∈ l, i < d.nodes.length) → F2 (F2 (Vw h)) (l.map fun i => rowA (nth d.nodes i) (sl' (2 * i)) (sl' (2 * i + 1))) (l.map fun i => eNode (nth d.nodes i)) := fun l => by
    induction l with
    | nil => intro _; exact .nil
    | cons i l ih => intro hl; exact .cons (key i (hl i List.mem_cons_self)) (ih fun j hj => hl j (List.mem_cons_of_mem _ hj))
  exact gen _ fun i hi => List.mem_range.1 hi
end Go.Proofs.K
end
section
/- Lists that are being built, beside other roots. -/
set_option linter.unusedSimpArgs false
set_option linter.unusedVariables false
namespace Go.Proofs.K
open Go Go.Sim Go.Proofs
variable {G : Glob}
theorem _root_.Go.Sim.Acc.re {h1 h2 h1' h2' : Heap} {ty : TypeId} {sz : Nat} {cells : List (List AVal)} {a : AVal} (A : Acc h1 ty sz cells a h2) (hd : ∀ r o, h1 r = none → h2 r = some o → h1' r = none ∧ h2' r = some o) : Acc h1' ty sz cells a h2' := by
  rcases A with h | ⟨r, h0, h1, h2⟩
  · exact .inl h
  · exact .inr ⟨r, (hd r _ h0 h1).1, (hd r _ h0 h1).2, h2⟩
theorem _root_.Go.Sim.Acc.keepA {h h1 : Heap} {ty : TypeId} {sz : Nat} {cells : List (List AVal)} {a : AVal} (A : Acc h ty sz cells a h1) {r2 : Nat} (hn : rootOf a ≠ some r2) (o : Option AObj) : Acc h ty sz cells a (upd h1 r2 o) := by
  rcases A with q | ⟨r, q0, q1, q2⟩
  · exact .inl q
  · have : r ≠ r2 := fun e => hn (by rw [q2, e]; rfl)
    exact .inr ⟨r, q0, by rw [upd_ne _ _ this]; exact q1, q2⟩
theorem _root_.Go.Sim.Acc.vw {h h' : Heap} {ty : TypeId} {sz : Nat} {cells : List (List AVal)} {a : AVal} (A : Acc h ty sz cells a h') (hl : ∀ f ∈ cells, f.length = sz) : Vw (newH h h') a (.slc cells) := by
  rcases A with ⟨rfl, rfl⟩ | ⟨r, h0, h1, rfl⟩
  · exact .emp
  · exact Vw.osl0 (by rw [newH_none h0]; exact h1) rfl (Nat.le_refl _) hl (by rw [List.take_length]; exact F2.refl (F2.refl .refl) _)
theorem _root_.Go.Sim.Acc.appW {h h' : Heap} {ty : TypeId} {sz b : Nat} {cells es2 : List (List AVal)} {a : AVal} {K : AVal → Heap → Prop} (A : Acc h ty sz cells a h') (S : Sub h h')
    (h1 : (cells.length + es2.length) * b ≤ 140737488355328) (h2 : cells.length + es2.length ≤ 140737488355328)
    (hk : ∀ a' h'', Acc h ty sz (cells ++ es2) a' h'' → Sub h h'' → (∀ r o, h' r = some o → rootOf a ≠ some r → h'' r = some o ∧ rootOf a' ≠ some r) → K a' h'') : Hd (appE ty sz b a es2 h') K .mk := by
  rcases A with ⟨rfl, rfl⟩ | ⟨r, h0, hr, rfl⟩
  · refine ⟨by simpa using h1, by simpa using h2, fun r hr => hk _ _ ?_ (S.upd (S.none hr)) fun x o hx _ => ?_⟩
    · exact .inr ⟨r, S.none hr, by simp, rfl⟩
    · have : x ≠ r := fun e => by rw [e, hr] at hx; cases hx
      exact ⟨by rw [upd_ne _ _ this]; exact hx, fun e => this (by cases e; rfl)⟩
  · refine ⟨rfl, _, hr, rfl, by simp, h1, h2, fun r' hr' => hk _ _ ?_ ?_ fun x o hx hn => ?_⟩
    · have hn : h r' = none := (S.del h0).none hr'
      refine .inr ⟨r', hn, by simp, by simp⟩
    · exact (S.del h0).upd ((S.del h0).none hr')
    · have hxr : x ≠ r := fun e => hn (by rw [e]; rfl)
      have hd : del h' r x = some o := by unfold del; rw [if_neg hxr]; exact hx
      have : x ≠ r' := fun e => by rw [e, hr'] at hd; cases hd
      exact ⟨by rw [upd_ne _ _ this]; exact hd, fun e => this (by cases e; rfl)⟩
end Go.Proofs.K
end
section
/- Codes of forms: entries decoded. -/
set_option linter.unusedSimpArgs false
set_option linter.unusedVariables false
namespace Go.Proofs.K
open Go Go.Sim Go.Proofs Go.Shelf
variable {G : Glob}
def c68 : SFun := ⟨(.seq (.reg [⟨(some 3), (.box 9 1 (.t 0)), none⟩, ⟨(some 4), (.boxF 9 1 (.t 1)), none⟩, ⟨(some 5), (.boxF 3 1 (.t 2)), none⟩, ⟨(some 6), (.mv (.c (.prim .nilFunc))), none⟩]) (.seq (.reg [⟨(some 7), (.mkf 105 [] [(.t 4), (.t 3), (.t 5)]), none⟩, ⟨(some 6), (.mv (.t 7)), none⟩]) .ret)), [(.tmp 6)]⟩
theorem hc68 : toSF Tryz.prog {how := [(3, 6)]} Tryz.f68 = some c68 := by kernel_rfl
theorem hn68 : (Tryz.f68.name == "runtime.NumGoroutine") = false := by kernel_rfl
theorem splitSeq0_ok {h : Heap} (s t : List UInt8) (n : Int) : DCalls (Pg G) 68 [.str s, .str t, aInt n] h fun r h' => ∃ rb, h rb = none ∧ r = .fn 105 [] [.pin [.str t], .vp rb 0, .pin [aInt n]] ∧ h' = upd h rb (some ⟨.t 9, 1, [[.str s]]⟩) := by
  refine dcalls_of_vc Tryz.func68 hn68 hc68 (by rw [Tryz.ntmps68]; simp) (by rw [Tryz.ntmps68]; decide) ?_
  simp -dsimp -implicitDefEqProofs (disch := omega) only [VCA, Nat.reduceEqDiff, ↓reduceIte, c68]
  intro rb hrb
  exact ⟨_, Sub.refl _, rb, hrb, rfl, rfl⟩
def c25 : SFun := ⟨(.seq (.reg [⟨(some 4), (.mv (.c (.prim .nilFunc))), none⟩]) (.seq (.reg [⟨(some 5), (.mv (.t 0)), none⟩, ⟨(some 6), (.mv (.t 1)), none⟩, ⟨(some 7), (.call (.c (.fn 68 [] [])) [(.t 5), (.t 6), (.c (.int .i64 (0)))]), none⟩, ⟨(some 4), (.mv (.t 7)), none⟩]) .ret)), [(.tmp 4)]⟩
theorem hc25 : toSF Tryz.prog {} Tryz.f25 = some c25 := by kernel_rfl
theorem hn25 : (Tryz.f25.name == "runtime.NumGoroutine") = false := by kernel_rfl
theorem splitSeq_ok {h : Heap} (s t : List UInt8) : DCalls (Pg G) 25 [.str s, .str t] h fun r h' => ∃ rb, h rb = none ∧ r = .fn 105 [] [.pin [.str t], .vp rb 0, .pin [aInt 0]] ∧ h' = upd h rb (some ⟨.t 9, 1, [[.str s]]⟩) := by
  refine dcalls_of_vc Tryz.func25 hn25 hc25 (by rw [Tryz.ntmps25]; simp) (by rw [Tryz.ntmps25]; decide) ?_
  simp -dsimp -implicitDefEqProofs (disch := omega) only [VCA, Nat.reduceEqDiff, ↓reduceIte, reduceCtorEq, c25]
  refine DCalls.of (splitSeq0_ok s t 0) ?_
  rintro r h1 ⟨rb, hb, rfl, rfl⟩
  simp -dsimp -implicitDefEqProofs (disch := omega) only [VCA, ↓reduceIte]
  exact ⟨_, Sub.refl _, rb, hb, rfl, rfl⟩
/-- entries of pieces -/
def EM (l : List (List UInt8)) : List HEnt := (l.filter (fun p => p != [])).map entM
theorem EM_cons (p : List UInt8) (l : List (List UInt8)) : EM (p :: l) = EM [p] ++ EM l := by
  unfold EM
  by_cases h : p = []
  · subst h; rfl
  · have : (p != []) = true := by simpa using h
    rw [List.filter_cons, if_pos this, List.filter_cons, if_pos this]; rfl
theorem OwnS.vwN {α : Type} [Inhabited α] {enc : α → List AVal} {h0 h : Heap} {ty sz : Nat} [LenE enc sz] {l : List α} {a : AVal} (O : OwnS h ty sz (l.map enc) a) (hf : ∀ r, rootOf a = some r → h0 r = none) : Vw (newH h0 h) a (sl enc l) :=
  OwnS.vw (O.keep fun r o hr ho => by rw [newH_none (hf r hr)]; exact ho)
structure SD (h0 h : Heap) (r4 rb : Nat) (L : List HEnt) (cur : List UInt8) (ao : AVal) : Prop where
  c4 : h r4 = some ⟨.t 22, 1, [[ao]]⟩
  cb : h rb = some ⟨.t 9, 1, [[.str cur]]⟩
  acc : Acc h0 25 2 (L.map eEnt) ao h
  sub : Sim.Sub h0 h
  f4 : h0 r4 = none
  fb : h0 rb = none
  ne : r4 ≠ rb
  n4 : rootOf ao ≠ some r4
  nb : rootOf ao ≠ some rb
theorem SD.cut {h0 h : Heap} {r4 rb : Nat} {L : List HEnt} {cur : List UInt8} {ao : AVal} (S : SD h0 h r4 rb L cur ao) (c2 : List UInt8) : SD h0 (upd h rb (some ⟨.t 9, 1, [[.str c2]]⟩)) r4 rb L c2 ao :=
  ⟨by rw [upd_ne _ _ S.ne]; exact S.c4, upd_same _ _ _, S.acc.keepA S.nb _, S.sub.upd S.fb, S.f4, S.fb, S.ne, S.n4, S.nb⟩
theorem SD.add {h0 h h2 : Heap} {r4 rb : Nat} {L : List HEnt} {cur : List UInt8} {ao a2 : AVal} {x : HEnt} (S : SD h0 h r4 rb L cur ao) (A2 : Acc h0 25 2 (L.map eEnt ++ [eEnt x]) a2 h2) (S2 : Sim.Sub h0 h2) (kp : ∀ r o, h r = some o → rootOf ao ≠ some r → h2 r = some o ∧ rootOf a2 ≠ some r) :
    SD h0 (upd h2 r4 (some ⟨.t 22, 1, [[a2]]⟩)) r4 rb (L ++ [x]) cur a2 := by
  have p4 := kp _ _ S.c4 S.n4
  have pb := kp _ _ S.cb S.nb
  refine ⟨upd_same _ _ _, by rw [upd_ne _ _ (fun e => S.ne e.symm)]; exact pb.1, ?_, S2.upd S.f4, S.f4, S.fb, S.ne, p4.2, pb.2⟩
  rw [List.map_append]
  exact A2.keepA p4.2 _
def c8 : SFun := ⟨(.seq (.reg [⟨(some 2), (.mv (.c .emp)), none⟩, ⟨(some 3), (.mv (.c (.int .i64 (0)))), none⟩]) (.seq (.seq (.reg [⟨(some 9), (.mv (.t 0)), none⟩, ⟨(some 10), (.lenS (.t 9)), none⟩, ⟨(some 11), (.bin .gtr (.t 10) (.c (.int .i64 (4000)))), none⟩]) (.cond (.t 11) (.seq (.reg [⟨(some 2), (.mv (.c .emp)), none⟩, ⟨(some 3), (.mv (.c (.int .i64 (2)))), none⟩]) .ret) .skip)) (.seq (.reg [⟨(some 4), (.new 22 1 [.emp]), none⟩]) (.seq (.seq (.reg [⟨(some 12), (.mv (.t 0)), none⟩, ⟨(some 13), (.call (.c (.fn 25 [] [])) [(.t 12), (.c (.str [38]))]), none⟩]) (.block 0 (.range (.t 13) [14] (.reg [⟨(some 5), (.mv (.t 14)), none⟩]) (.block 1 (.seq (.seq (.reg [⟨(some 15), (.mv (.t 5)), none⟩, ⟨(some 16), (.bin .eql (.t 15) (.c (.str []))), none⟩]) (.cond (.t 16) (.exit 1) .skip)) (.seq (.reg [⟨(some 18), (.mv (.t 5)), none⟩, ⟨(some 19), (.pcall 26 [(.t 18), (.c (.str [61]))]), none⟩, ⟨(some 17), (.mv (.t 19)), none⟩, ⟨(some 20), (.ext (.t 17) 0), none⟩, ⟨(some 21), (.ext (.t 17) 1), none⟩, ⟨(some 22), (.ext (.t 17) 2), none⟩, ⟨(some 6), (.mv (.t 20)), none⟩, ⟨(some 7), (.mv (.t 21)), none⟩, ⟨(some 8), (.mv (.t 22)), none⟩]) (.dreg [(⟨(some 23), (.ld 1 false (.t 4)), none⟩, none), (⟨(some 24), (.mv (.t 6)), none⟩, none), (⟨(some 25), (.pcall 27 [(.t 24)]), none⟩, none), (⟨(some 26), (.mv (.t 7)), none⟩, none), (⟨(some 27), (.pcall 27 [(.t 26)]), none⟩, none), (⟨(some 28), (.bld [(.str []), (.str [])] [(0, (1, (.t 25))), (1, (1, (.t 27)))]), none⟩, none), (⟨(some 29), (.bldF 25 2 [(.t 28)]), none⟩, none), (⟨(some 30), (.app 25 2 32 (.t 23) (.t 29)), none⟩, (some [23])), (⟨none, (.st 1 (.t 4) (.t 30)), none⟩, (some [23]))]))))))) (.seq (.seq (.reg [⟨(some 31), (.ld 1 false (.t 4)), none⟩, ⟨(some 32), (.len (.t 31)), none⟩, ⟨(some 33), (.bin .gtr (.t 32) (.c (.int .i64 (100)))), none⟩]) (.cond (.t 33) (.seq (.reg [⟨(some 2), (.mv (.c .emp)), none⟩, ⟨(some 3), (.mv (.c (.int .i64 (2)))), none⟩]) .ret) .skip)) (.seq (.reg [⟨(some 34), (.ld 1 false (.t 4)), none⟩, ⟨(some 2), (.mv (.t 34)), none⟩, ⟨(some 3), (.mv (.c (.int .i64 (0)))), none⟩]) .ret)))))), [(.tmp 2), (.tmp 3)]⟩
theorem hc8 : toSF Tryz.prog {pure := [27, 26]} Tryz.f8 = some c8 := by kernel_rfl
theorem hn8 : (Tryz.f8.name == "runtime.NumGoroutine") = false := by kernel_rfl
def rngD : SCode := pB (pR (pL (pR (pR (pR c8.code)))))
theorem takeW_le (q : UInt8 → Bool) (p : List UInt8) : (p.takeWhile q).length ≤ p.length := (List.takeWhile_sublist _).length_le
theorem dropW_le (q : UInt8 → Bool) (p : List UInt8) : ((p.dropWhile q).drop 1).length ≤ p.length := by
  rw [List.length_drop]; have := (List.dropWhile_sublist q (l := p)).length_le; omega
set_option maxHeartbeats 1000000 in
theorem dbdy_ok (hG : MaxLenOK G) {h0 h : Heap} {r4 rb : Nat} {L : List HEnt} {cur p : List UInt8} {ao : AVal} {e : Env} {R : SExit → Heap → Prop} (S : SD h0 h r4 rb L cur ao) (e4 : e 4 = .vp r4 0) (hp : p.length ≤ 5000) (hL : L.length ≤ 100000)
    (hR : ∀ h' ao', SD h0 h' r4 rb (L ++ EM [p]) cur ao' → R .normal h') : bdy [14] (vc (Pg G) (pA rngD)) (vc (Pg G) (pB rngD)) e [.str p] h R := by
  have g4 := S.c4
  skip
  by_cases h0 : p = []
  · subst h0
    have e0 : EM [([] : List UInt8)] = [] := rfl
    have d0 : (([] : List UInt8) == []) = true := rfl
    rw [e0] at hR
    simp -dsimp -implicitDefEqProofs (disch := omega) only [VCA, ↓reduceIte, MT3, bdy_is, rngD, pA, pB, pL, pR, c8, d0]
    refine hR h ao ?_
    rw [List.append_nil]; exact S
  · have d0 : (p == []) = false := by simpa using h0
    have cC := cut_ok (G := G) hG p [61] (by omega)
    have hc := cut1 61 p
    rw [hc.1, hc.2] at cC
    have t1 := takeW_le (· != 61) p
    have t2 := dropW_le (· != 61) p
    have em : EM [p] = [entM p] := by unfold EM; rw [List.filter_cons, if_pos (by simpa using h0)]; rfl
    rw [em] at hR
    unfold entM at hR
    obtain ⟨u, hu⟩ : ∃ u, p.takeWhile (· != 61) = u := ⟨_, rfl⟩
    obtain ⟨v, hv⟩ : ∃ v, (p.dropWhile (· != 61)).drop 1 = v := ⟨_, rfl⟩
    rw [hu] at cC t1 hR
    rw [hv] at cC t2 hR
    have c1 := fdecode_ok (G := G) u (by omega)
    have c2 := fdecode_ok (G := G) v (by omega)
    simp -dsimp -implicitDefEqProofs (disch := omega) only [VCA, Nat.reduceEqDiff, ↓reduceIte, bdy_is, rngD, pA, pB, pL, pR, c8, d0]
    repeat' (first | ((with_reducible refine Br.dec (fun _ => ?_) (fun _ => ?_)) <;> try (exfalso; omega)) | ((with_reducible refine Br.eq (fun _ => ?_) (fun _ => ?_)) <;> try (exfalso; omega)) | ((with_reducible refine Br.ne (fun _ => ?_) (fun _ => ?_)) <;> try (exfalso; omega)) | ((with_reducible refine brNdec (fun _ => ?_) (fun _ => ?_)) <;> try (exfalso; omega)) | ((with_reducible refine brNeq (fun _ => ?_) (fun _ => ?_)) <;> try (exfalso; omega)) | with_reducible refine Br.intro (fun _ => ?_) (fun _ => ?_) | (with_reducible apply pcallE.of; · exact cC) | (with_reducible apply pcallE.of; · exact c1) | (with_reducible apply pcallE.of; · exact c2) | (with_reducible refine And.intro ?_ ?_; · omega) | simp -dsimp -implicitDefEqProofs (disch := omega) only [VCA, Nat.reduceEqDiff, Nat.reduceAdd, Nat.reduceLT, Nat.reduceLeDiff, ↓reduceIte, rsOf, rootsOf, okParts, fillA, okFill, forall_eq, exists_eq_left, exists_eq_left', rootL, e4, g4])
    refine S.acc.appW S.sub (by simp only [List.length_map, List.length_cons, List.length_nil]; omega) (by simp only [List.length_map, List.length_cons, List.length_nil]; omega) fun a2 h4 A4 S4 kp => ?_
    refine ⟨fun q hq hc => ?_, ?_⟩
    · rw [List.mem_singleton] at hq; subst hq; simp at hc
    have g4' := (kp _ _ g4 S.n4).1
    have iv := (OwnS.of_acc A4).1.isV
    simp -dsimp -implicitDefEqProofs (disch := omega) only [VCA, Nat.reduceEqDiff, Nat.reduceBEq, Nat.reduceLT, ↓reduceIte, SOp.rd, SI.rd, SX.rd, setAt, exists_eq_left', MT3, e4, g4']
    refine ⟨iv.1, by rw [iv.2]; rfl, ?_⟩
    rw [iv.2]
    exact hR _ _ (S.add (x := ⟨decF u 0, decF v 0⟩) A4 S4 kp)
def c105 : MCode := (.seq (.seq (.reg [(.op ⟨(some 9), (.ld 1 false (.t 1)), none⟩), (.op ⟨(some 10), (.lenS (.t 9)), none⟩), (.op ⟨(some 11), (.bin .eql (.t 10) (.c (.int .i64 (0)))), none⟩)]) (.cond (.t 11) (.seq (.block 0 (.loop (.seq (.seq (.reg [(.op ⟨(some 12), (.ld 1 false (.t 2)), none⟩), (.op ⟨(some 13), (.lenS (.t 12)), none⟩), (.op ⟨(some 14), (.bin .gtr (.t 13) (.c (.int .i64 (0)))), none⟩)]) (.cond (.t 14) .skip (.exit 0))) (.block 1 (.seq (.reg [(.op ⟨(some 16), (.ld 1 false (.t 2)), none⟩), (.op ⟨(some 17), (.pcall 106 [(.t 16)]), none⟩), (.op ⟨(some 15), (.mv (.t 17)), none⟩), (.op ⟨(some 18), (.ext (.t 15) 0), none⟩), (.op ⟨(some 19), (.ext (.t 15) 1), none⟩), (.op ⟨(some 5), (.mv (.t 18)), none⟩), (.op ⟨(some 6), (.mv (.t 19)), none⟩)]) (.seq (.seq (.reg [(.op ⟨(some 20), (.mv (.t 0)), none⟩), (.op ⟨(some 21), (.ld 1 false (.t 2)), none⟩), (.op ⟨(some 22), (.mv (.t 6)), none⟩), (.op ⟨(some 23), (.slS (.t 21) none (some (.t 22))), none⟩), (.yld (some 24) (.t 20) [(.t 23)]), (.op ⟨(some 25), (.un .not (.t 24)), none⟩)]) (.cond (.t 25) .ret .skip)) (.reg [(.op ⟨(some 26), (.ld 1 false (.t 2)), none⟩), (.op ⟨(some 27), (.mv (.t 6)), none⟩), (.op ⟨(some 28), (.slS (.t 26) (some (.t 27)) none), none⟩), (.op ⟨none, (.st 1 (.t 2) (.t 28)), none⟩)]))))))) .ret) .skip)) (.seq (.block 2 (.loop (.block 3 (.seq (.reg [(.op ⟨(some 29), (.ld 1 false (.t 2)), none⟩), (.op ⟨(some 30), (.ld 1 false (.t 1)), none⟩), (.op ⟨(some 31), (.pcall 107 [(.t 29), (.t 30)]), none⟩), (.op ⟨(some 7), (.mv (.t 31)), none⟩)]) (.seq (.seq (.reg [(.op ⟨(some 32), (.mv (.t 7)), none⟩), (.op ⟨(some 33), (.bin .lss (.t 32) (.c (.int .i64 (0)))), none⟩)]) (.cond (.t 33) (.exit 2) .skip)) (.seq (.reg [(.op ⟨(some 34), (.ld 1 false (.t 2)), none⟩), (.op ⟨(some 35), (.mv (.t 7)), none⟩), (.op ⟨(some 36), (.ld 1 false (.t 3)), none⟩), (.op ⟨(some 37), (.bin .add (.t 35) (.t 36)), none⟩), (.op ⟨(some 38), (.slS (.t 34) none (some (.t 37))), none⟩), (.op ⟨(some 8), (.mv (.t 38)), none⟩)]) (.seq (.seq (.reg [(.op ⟨(some 39), (.mv (.t 0)), none⟩), (.op ⟨(some 40), (.mv (.t 8)), none⟩), (.yld (some 41) (.t 39) [(.t 40)]), (.op ⟨(some 42), (.un .not (.t 41)), none⟩)]) (.cond (.t 42) .ret .skip)) (.reg [(.op ⟨(some 43), (.ld 1 false (.t 2)), none⟩), (.op ⟨(some 44), (.mv (.t 7)), none⟩), (.op ⟨(some 45), (.ld 1 false (.t 1)), none⟩), (.op ⟨(some 46), (.lenS (.t 45)), none⟩), (.op ⟨(some 47), (.bin .add (.t 44) (.t 46)), none⟩), (.op ⟨(some 48), (.slS (.t 43) (some (.t 47)) none), none⟩), (.op ⟨none, (.st 1 (.t 2) (.t 48)), none⟩)])))))))) (.reg [(.op ⟨(some 49), (.mv (.t 0)), none⟩), (.op ⟨(some 50), (.ld 1 false (.t 2)), none⟩), (.yld (some 51) (.t 49) [(.t 50)])])))
theorem hc105 : toMF Tryz.prog {pure := [107, 106]} Tryz.f105 = some c105 := by kernel_rfl
theorem hn105 : (Tryz.f105.name == "runtime.NumGoroutine") = false := by kernel_rfl
theorem pcs_len (c : UInt8) : ∀ s : List UInt8, (pcs c s).length ≤ s.length + 1
  | [] => Nat.le_refl _
  | b :: r => by
    have h := pcs_len c r
    rw [pcs]
    split
    · simp only [List.length_cons]; omega
    · split
      · simp
      · rename_i p q hq
        rw [hq] at h
        simp only [List.length_cons] at h ⊢; omega
theorem entsM_len (s : List UInt8) : (entsM s).length ≤ s.length + 1 := by
  unfold entsM; rw [List.length_map]; exact Nat.le_trans (List.length_filter_le _ _) (pcs_len 38 s)
theorem decoded_long {s : List UInt8} (h : 4000 < s.length) : Go.Proofs.K.decoded s = ([], 2) := if_pos h
set_option maxHeartbeats 2000000 in
theorem fDecode_ok (hG : MaxLenOK G) (s : List UInt8) (hs : s.length ≤ 1073741824) : PCalls (Pg G) 8 [.str s] (.tup [sl eEnt (decoded s).1, aInt (decoded s).2]) := PCalls.outV fun h => by
  by_cases h4 : 4000 < s.length
  · have d0 : decide ((4000 : Int) < (s.length : Int)) = true := decide_eq_true (by omega)
    rw [decoded_long h4]
    refine dcalls_of_vc Tryz.func8 hn8 hc8 (by rw [Tryz.ntmps8]; simp) (by rw [Tryz.ntmps8]; decide) ?_
    simp -dsimp -implicitDefEqProofs (disch := omega) only [VCA, Nat.reduceEqDiff, ↓reduceIte, reduceCtorEq, c8, d0]
    repeat' (first | ((with_reducible refine Br.dec (fun _ => ?_) (fun _ => ?_)) <;> try (exfalso; omega)) | ((with_reducible refine Br.eq (fun _ => ?_) (fun _ => ?_)) <;> try (exfalso; omega)) | ((with_reducible refine Br.ne (fun _ => ?_) (fun _ => ?_)) <;> try (exfalso; omega)) | ((with_reducible refine brNdec (fun _ => ?_) (fun _ => ?_)) <;> try (exfalso; omega)) | ((with_reducible refine brNeq (fun _ => ?_) (fun _ => ?_)) <;> try (exfalso; omega)) | with_reducible refine Br.intro (fun _ => ?_) (fun _ => ?_) | (with_reducible refine And.intro ?_ ?_; · omega) | simp -dsimp -implicitDefEqProofs (disch := omega) only [VCA, pg_gl, ↓upd_none, Nat.reduceEqDiff, Nat.reduceBEq, Nat.reduceAdd, Nat.reduceSub, Nat.reduceMul, Nat.reduceLT, Nat.reduceLeDiff, ↓reduceIte, reduceCtorEq, rsOf, rootsOf, SOp.rd, SI.rd, SX.rd, rdL, rdO, rdP, okParts, eqCells, okEqCells, fillA, okFill, setAt, implies_true, forall_const, forall_eq, ne_eq, exists_eq_right_right, exists_eq_right, exists_eq_left, exists_eq_left', rootL, eInt, eStr, eEnt, lit_eq, MT1, MT2, MT3, d0])
    all_goals exact ⟨_, Sub.refl _, Sub.refl _, .tup' (.cons .emp (.cons (.refl _) .nil))⟩
  · have d0 : decide ((4000 : Int) < (s.length : Int)) = false := decide_eq_false (by omega)
    refine dcalls_of_vc Tryz.func8 hn8 hc8 (by rw [Tryz.ntmps8]; simp) (by rw [Tryz.ntmps8]; decide) ?_
    simp -dsimp -implicitDefEqProofs (disch := omega) only [VCA, ↓reduceIte, reduceCtorEq, c8, d0]
    repeat' (first | ((with_reducible refine Br.dec (fun _ => ?_) (fun _ => ?_)) <;> try (exfalso; omega)) | ((with_reducible refine Br.eq (fun _ => ?_) (fun _ => ?_)) <;> try (exfalso; omega)) | ((with_reducible refine Br.ne (fun _ => ?_) (fun _ => ?_)) <;> try (exfalso; omega)) | ((with_reducible refine brNdec (fun _ => ?_) (fun _ => ?_)) <;> try (exfalso; omega)) | ((with_reducible refine brNeq (fun _ => ?_) (fun _ => ?_)) <;> try (exfalso; omega)) | with_reducible refine Br.intro (fun _ => ?_) (fun _ => ?_) | (with_reducible refine And.intro ?_ ?_; · omega) | simp -dsimp -implicitDefEqProofs (disch := omega) only [VCA, pg_gl, ↓upd_none, Nat.reduceEqDiff, Nat.reduceBEq, Nat.reduceAdd, Nat.reduceSub, Nat.reduceMul, Nat.reduceLT, Nat.reduceLeDiff, ↓reduceIte, reduceCtorEq, rsOf, rootsOf, SOp.rd, SI.rd, SX.rd, rdL, rdO, rdP, okParts, eqCells, okEqCells, fillA, okFill, setAt, implies_true, forall_const, forall_eq, ne_eq, exists_eq_right_right, exists_eq_right, exists_eq_left, exists_eq_left', rootL, eInt, eStr, eEnt, lit_eq, MT1, MT2, MT3, d0])
    intro r4 hr4
    refine DCalls.of (splitSeq_ok s [38]) ?_
    rintro v h1 ⟨rb, hrb, rfl, rfl⟩
    have hne : rb ≠ r4 := fun e => by rw [e, upd_same] at hrb; cases hrb
    have hbn : h rb = none := by rw [upd_ne _ _ hne] at hrb; exact hrb
    have S0 : SD h (upd (upd h r4 (some ⟨.t 22, 1, [[.emp]]⟩)) rb (some ⟨.t 9, 1, [[.str s]]⟩)) r4 rb [] s .emp :=
      ⟨by rw [upd_ne _ _ hne.symm]; exact upd_same _ _ _, upd_same _ _ _, .nil, ((Sub.refl h).upd hr4).upd hbn, hr4, hbn, hne.symm, (fun e => by cases e), (fun e => by cases e)⟩
    simp -dsimp -implicitDefEqProofs (disch := omega) only [VCA]
    refine RangeVC.introI (iterS_of_mtv Tryz.func105 hn105 hc105 (by rw [Tryz.ntmps105]; simp) (by rw [Tryz.ntmps105]; decide)) rfl (fun lY => ?_)
    have l1 : (([38] : List UInt8).length : Int) = 1 := rfl
    simp -dsimp -implicitDefEqProofs (disch := omega) only [VCA, ↓reduceIte, MT1, MT2, c105]
    repeat' (first | ((with_reducible refine Br.dec (fun _ => ?_) (fun _ => ?_)) <;> try (exfalso; omega)) | ((with_reducible refine Br.eq (fun _ => ?_) (fun _ => ?_)) <;> try (exfalso; omega)) | ((with_reducible refine Br.ne (fun _ => ?_) (fun _ => ?_)) <;> try (exfalso; omega)) | ((with_reducible refine brNdec (fun _ => ?_) (fun _ => ?_)) <;> try (exfalso; omega)) | ((with_reducible refine brNeq (fun _ => ?_) (fun _ => ?_)) <;> try (exfalso; omega)) | with_reducible refine Br.intro (fun _ => ?_) (fun _ => ?_) | (with_reducible refine And.intro ?_ ?_; · omega) | simp -dsimp -implicitDefEqProofs (disch := omega) only [MT1, MT2])
    refine mtLoop.intro (fun m st e h' => ∃ (L : List HEnt) (cur : List UInt8) (ao : AVal), st = none ∧ e 0 = .prim (.func (.yield lY) #[] #[]) ∧ e 1 = .pin [.str [38]] ∧ e 2 = .vp rb 0 ∧ e 3 = .pin [aInt 0] ∧ SD h h' r4 rb L cur ao ∧ L ++ EM (pcs 38 cur) = entsM s ∧ cur.length ≤ s.length ∧ m = cur.length) s.length
      (by exact ⟨[], s, .emp, rfl, rfl, rfl, rfl, rfl, S0, rfl, Nat.le_refl _, rfl⟩) ?_
    clear S0
    rintro m st e h' ⟨L, cur, ao, rfl, e0, e1, e2, e3, S, hL, hcl, rfl⟩
    have gb := S.cb
    have cI := index_ok (G := G) hG cur [38] (by omega)
    have hLl : L.length ≤ s.length + 1 := by
      have h1 := entsM_len s
      rw [← hL, List.length_append] at h1; omega
    rcases index1 38 cur with ⟨i1, i2⟩ | ⟨p, r, i1, i2, i3⟩
    · rw [i2] at cI
      have dn : decide ((-1 : Int) < 0) = true := rfl
      have hp1 := pcs_none 38 cur i1
      rw [hp1] at hL
      repeat' (first | ((with_reducible refine Br.dec (fun _ => ?_) (fun _ => ?_)) <;> try (exfalso; omega)) | ((with_reducible refine Br.eq (fun _ => ?_) (fun _ => ?_)) <;> try (exfalso; omega)) | ((with_reducible refine Br.ne (fun _ => ?_) (fun _ => ?_)) <;> try (exfalso; omega)) | ((with_reducible refine brNdec (fun _ => ?_) (fun _ => ?_)) <;> try (exfalso; omega)) | ((with_reducible refine brNeq (fun _ => ?_) (fun _ => ?_)) <;> try (exfalso; omega)) | with_reducible refine Br.intro (fun _ => ?_) (fun _ => ?_) | (with_reducible apply pcallE.of; · exact cI) | (with_reducible refine And.intro ?_ ?_; · omega) | simp -dsimp -implicitDefEqProofs (disch := omega) only [VCA, Nat.reduceEqDiff, Nat.reduceLT, ↓reduceIte, reduceCtorEq, exists_eq_left', MT1, MT2, MT3, e0, e1, e2, gb, dn])
      refine dbdy_ok (G := G) hG S rfl (by omega) (by omega) fun h5 ao5 S5 => ?_
      rw [hL] at S5
      have g5 := S5.c4
      have hel := entsM_len s
      have lenA := S5.acc.len
      have hv := (OwnS.of_acc S5.acc).1.vwN fun r hr => (OwnS.of_acc S5.acc).2.1 r hr
      simp only [List.length_map] at lenA
      by_cases h100 : 100 < (entsM s).length
      · have d1 : decide ((100 : Int) < ((entsM s).length : Int)) = true := decide_eq_true (by omega)
        have hdec : Go.Proofs.K.decoded s = ([], 2) := by unfold Go.Proofs.K.decoded; rw [if_neg h4, if_pos h100]
        rw [hdec]
        repeat' (first | ((with_reducible refine Br.dec (fun _ => ?_) (fun _ => ?_)) <;> try (exfalso; omega)) | ((with_reducible refine Br.eq (fun _ => ?_) (fun _ => ?_)) <;> try (exfalso; omega)) | ((with_reducible refine Br.ne (fun _ => ?_) (fun _ => ?_)) <;> try (exfalso; omega)) | ((with_reducible refine brNdec (fun _ => ?_) (fun _ => ?_)) <;> try (exfalso; omega)) | ((with_reducible refine brNeq (fun _ => ?_) (fun _ => ?_)) <;> try (exfalso; omega)) | with_reducible refine Br.intro (fun _ => ?_) (fun _ => ?_) | (with_reducible refine And.intro ?_ ?_; · omega) | simp -dsimp -implicitDefEqProofs (disch := omega) only [VCA, Nat.reduceEqDiff, Nat.reduceLT, ↓reduceIte, exists_eq_left', MT3, g5, lenA.1, lenA.2, d1])
        all_goals exact ⟨_, Sub.refl _, S5.sub, .tup' (.cons .emp (.cons (.refl _) .nil))⟩
      · have d1 : decide ((100 : Int) < ((entsM s).length : Int)) = false := decide_eq_false (by omega)
        have hdec : Go.Proofs.K.decoded s = (entsM s, 0) := by unfold Go.Proofs.K.decoded; rw [if_neg h4, if_neg h100]
        rw [hdec]
        repeat' (first | ((with_reducible refine Br.dec (fun _ => ?_) (fun _ => ?_)) <;> try (exfalso; omega)) | ((with_reducible refine Br.eq (fun _ => ?_) (fun _ => ?_)) <;> try (exfalso; omega)) | ((with_reducible refine Br.ne (fun _ => ?_) (fun _ => ?_)) <;> try (exfalso; omega)) | ((with_reducible refine brNdec (fun _ => ?_) (fun _ => ?_)) <;> try (exfalso; omega)) | ((with_reducible refine brNeq (fun _ => ?_) (fun _ => ?_)) <;> try (exfalso; omega)) | with_reducible refine Br.intro (fun _ => ?_) (fun _ => ?_) | (with_reducible refine And.intro ?_ ?_; · omega) | simp -dsimp -implicitDefEqProofs (disch := omega) only [VCA, Nat.reduceEqDiff, Nat.reduceLT, ↓reduceIte, exists_eq_left', MT3, g5, lenA.1, lenA.2, d1])
        all_goals exact ⟨_, Sub.refl _, S5.sub, .tup' (.cons hv (.cons (.refl _) .nil))⟩
    · rw [i3] at cI
      have dn : decide ((p.length : Int) < 0) = false := decide_eq_false (by omega)
      have hp1 := pcs_cut 38 p r i2
      rw [← i1] at hp1
      rw [hp1, EM_cons] at hL
      have htk : cur.take p.length = p := by rw [i1]; simp
      have hdr : cur.drop (p.length + 1) = r := by rw [i1]; simp
      have hln : cur.length = p.length + r.length + 1 := by rw [i1]; simp; omega
      repeat' (first | ((with_reducible refine Br.dec (fun _ => ?_) (fun _ => ?_)) <;> try (exfalso; omega)) | ((with_reducible refine Br.eq (fun _ => ?_) (fun _ => ?_)) <;> try (exfalso; omega)) | ((with_reducible refine Br.ne (fun _ => ?_) (fun _ => ?_)) <;> try (exfalso; omega)) | ((with_reducible refine brNdec (fun _ => ?_) (fun _ => ?_)) <;> try (exfalso; omega)) | ((with_reducible refine brNeq (fun _ => ?_) (fun _ => ?_)) <;> try (exfalso; omega)) | with_reducible refine Br.intro (fun _ => ?_) (fun _ => ?_) | (with_reducible apply pcallE.of; · exact cI) | (with_reducible refine And.intro ?_ ?_; · omega) | simp -dsimp -implicitDefEqProofs (disch := omega) only [VCA, Nat.reduceEqDiff, Nat.reduceLT, ↓reduceIte, reduceCtorEq, exists_eq_left', MT1, MT2, e0, e1, e2, e3, gb, dn])
      rw [show ((p.length : Int) + 0).toNat = p.length by omega, htk]
      refine dbdy_ok (G := G) hG S rfl (by omega) (by omega) fun h5 ao5 S5 => ?_
      have gb5 := S5.cb
      have l1 : (([38] : List UInt8).length : Int) = 1 := rfl
      have hdr2 : cur.drop ((p.length : Int) + 1).toNat = r := by rw [show ((p.length : Int) + 1).toNat = p.length + 1 by omega, hdr]
      repeat' (first | ((with_reducible refine Br.dec (fun _ => ?_) (fun _ => ?_)) <;> try (exfalso; omega)) | ((with_reducible refine Br.eq (fun _ => ?_) (fun _ => ?_)) <;> try (exfalso; omega)) | ((with_reducible refine Br.ne (fun _ => ?_) (fun _ => ?_)) <;> try (exfalso; omega)) | ((with_reducible refine brNdec (fun _ => ?_) (fun _ => ?_)) <;> try (exfalso; omega)) | ((with_reducible refine brNeq (fun _ => ?_) (fun _ => ?_)) <;> try (exfalso; omega)) | with_reducible refine Br.intro (fun _ => ?_) (fun _ => ?_) | (with_reducible refine And.intro ?_ ?_; · omega) | simp -dsimp -implicitDefEqProofs (disch := omega) only [VCA, Nat.reduceEqDiff, Nat.reduceLT, ↓reduceIte, reduceCtorEq, setAt, exists_eq_left', MT1, MT2, MT3, e0, e1, e2, e3, gb5])
      have hdr3 : ∀ k : Int, k = (p.length : Int) + 1 → cur.drop k.toNat = r := fun k hk => by rw [hk]; exact hdr2
      refine ⟨_, ?_, L ++ EM [p], _, ao5, S5.cut _, ?_, ?_, rfl⟩
      · rw [hdr3 _ (by omega)]; omega
      · rw [hdr3 _ (by omega), List.append_assoc]; exact hL
      · rw [hdr3 _ (by omega)]; omega
end Go.Proofs.K
end
section
/- Codes of forms: the reference's entries decoded. -/
set_option linter.unusedSimpArgs false
set_option linter.unusedVariables false
namespace Go.Proofs.K
open Go Go.Sim Go.Proofs Go.Shelf
variable {G : Glob}
def lwB (b : UInt8) : UInt8 := if 65 ≤ b.toNat ∧ b.toNat ≤ 90 then b + 32 else b
def c91 : SFun := ⟨(.seq (.reg [⟨(some 2), (.mv (.c (.int .u8 (0)))), none⟩]) (.seq (.seq (.reg [⟨(some 3), (.mv (.t 0)), none⟩, ⟨(some 4), (.bin .geq (.t 3) (.c (.int .u8 (65)))), none⟩, ⟨(some 5), (.mv (.t 4)), none⟩, ⟨(some 6), (.mv (.t 0)), (some (5, true))⟩, ⟨(some 7), (.bin .leq (.t 6) (.c (.int .u8 (90)))), (some (5, true))⟩, ⟨(some 8), (.pick (.t 5) (.t 7) (.c (.bool false))), none⟩]) (.cond (.t 8) (.seq (.reg [⟨(some 9), (.mv (.t 0)), none⟩, ⟨(some 10), (.bin .sub (.t 9) (.c (.int .u8 (65)))), none⟩, ⟨(some 11), (.bin .add (.t 10) (.c (.int .u8 (97)))), none⟩, ⟨(some 2), (.mv (.t 11)), none⟩]) .ret) .skip)) (.seq (.reg [⟨(some 12), (.mv (.t 0)), none⟩, ⟨(some 2), (.mv (.t 12)), none⟩]) .ret))), [(.tmp 2)]⟩
theorem hc91 : toSF Tryz.prog {} Tryz.f91 = some c91 := by kernel_rfl
theorem hn91 : (Tryz.f91.name == "runtime.NumGoroutine") = false := by kernel_rfl
theorem lwB_ok (b : UInt8) : PCalls (Pg G) 91 [.int .u8 b.toNat] (.int .u8 (lwB b).toNat) := fun h => by
  by_cases hb : 65 ≤ b.toNat ∧ b.toNat ≤ 90
  · have e1 : lwB b = b + 32 := if_pos hb
    have w1 : IntKind.u8.wrap ((b.toNat : Int) - 65) = (b.toNat : Int) - 65 := by rw [IntKind.wrap_u8]; omega
    have w2 : IntKind.u8.wrap ((b.toNat : Int) - 65 + 97) = ((b + 32).toNat : Int) := by
      rw [IntKind.wrap_u8, UInt8.toNat_add]; simp; omega
    rw [e1]
    refine dcalls_of_vc Tryz.func91 hn91 hc91 (by rw [Tryz.ntmps91]; simp) (by rw [Tryz.ntmps91]; decide) ?_
    simp -dsimp -implicitDefEqProofs (disch := omega) only [↓vcOps_sp 5, VCA, ↓reduceIte, reduceCtorEq, c91]
    repeat' (first | ((with_reducible refine Br.dec (fun _ => ?_) (fun _ => ?_)) <;> try (exfalso; omega)) | ((with_reducible refine Br.eq (fun _ => ?_) (fun _ => ?_)) <;> try (exfalso; omega)) | ((with_reducible refine Br.ne (fun _ => ?_) (fun _ => ?_)) <;> try (exfalso; omega)) | ((with_reducible refine brNdec (fun _ => ?_) (fun _ => ?_)) <;> try (exfalso; omega)) | ((with_reducible refine brNeq (fun _ => ?_) (fun _ => ?_)) <;> try (exfalso; omega)) | with_reducible refine Br.intro (fun _ => ?_) (fun _ => ?_) | (with_reducible refine And.intro ?_ ?_; · omega) | simp -dsimp -implicitDefEqProofs (disch := omega) only [VCA, Nat.reduceEqDiff, ↓reduceIte, reduceCtorEq, exists_eq_right, w1, w2])
    all_goals first | exact Sub.refl _ | exact ⟨Sub.refl _, rfl⟩ | (exfalso; omega)
  · have e1 : lwB b = b := if_neg hb
    rw [e1]
    refine dcalls_of_vc Tryz.func91 hn91 hc91 (by rw [Tryz.ntmps91]; simp) (by rw [Tryz.ntmps91]; decide) ?_
    simp -dsimp -implicitDefEqProofs (disch := omega) only [↓vcOps_sp 5, VCA, ↓reduceIte, reduceCtorEq, c91]
    repeat' (first | ((with_reducible refine Br.dec (fun _ => ?_) (fun _ => ?_)) <;> try (exfalso; omega)) | ((with_reducible refine Br.eq (fun _ => ?_) (fun _ => ?_)) <;> try (exfalso; omega)) | ((with_reducible refine Br.ne (fun _ => ?_) (fun _ => ?_)) <;> try (exfalso; omega)) | ((with_reducible refine brNdec (fun _ => ?_) (fun _ => ?_)) <;> try (exfalso; omega)) | ((with_reducible refine brNeq (fun _ => ?_) (fun _ => ?_)) <;> try (exfalso; omega)) | with_reducible refine Br.intro (fun _ => ?_) (fun _ => ?_) | (with_reducible refine And.intro ?_ ?_; · omega) | simp -dsimp -implicitDefEqProofs (disch := omega) only [VCA, Nat.reduceEqDiff, ↓reduceIte, reduceCtorEq, exists_eq_right])
    all_goals first | exact Sub.refl _ | exact ⟨Sub.refl _, rfl⟩ | (exfalso; omega)
theorem lwB_is (c : UInt8) (hc : c = 38 ∨ c = 61) (b : UInt8) : (((lwB b).toNat : Int) == c.toNat) = (b == c) := by
  have h := u8_all (p := fun b => decide ((((lwB b).toNat : Int) == 38) = (b == 38)) && decide ((((lwB b).toNat : Int) == 61) = (b == 61))) (by decide +kernel) b
  simp only [Bool.and_eq_true, decide_eq_true_eq] at h
  rcases hc with rfl | rfl
  · exact h.1
  · exact h.2
def c72 : SFun := ⟨(.seq (.reg [⟨(some 6), (.mv (.c (.bool false))), none⟩]) (.seq (.seq (.reg [⟨(some 8), (.mv (.t 1)), none⟩, ⟨(some 9), (.mv (.t 2)), none⟩, ⟨(some 10), (.lenS (.t 9)), none⟩, ⟨(some 11), (.bin .add (.t 8) (.t 10)), none⟩, ⟨(some 12), (.mv (.t 0)), none⟩, ⟨(some 13), (.lenS (.t 12)), none⟩, ⟨(some 14), (.bin .gtr (.t 11) (.t 13)), none⟩]) (.cond (.t 14) (.seq (.reg [⟨(some 6), (.mv (.c (.bool false))), none⟩]) .ret) .skip)) (.seq (.seq (.reg [⟨(some 7), (.mv (.c (.int .i64 (0)))), none⟩]) (.block 0 (.loop (.seq (.seq (.reg [⟨(some 15), (.mv (.t 7)), none⟩, ⟨(some 16), (.mv (.t 2)), none⟩, ⟨(some 17), (.lenS (.t 16)), none⟩, ⟨(some 18), (.bin .lss (.t 15) (.t 17)), none⟩]) (.cond (.t 18) .skip (.exit 0))) (.seq (.block 1 (.seq (.dreg [(⟨(some 21), (.mv (.t 0)), none⟩, none), (⟨(some 22), (.mv (.t 1)), none⟩, none), (⟨(some 23), (.mv (.t 7)), none⟩, none), (⟨(some 24), (.bin .add (.t 22) (.t 23)), none⟩, none), (⟨(some 25), (.idxS (.t 21) (.t 24)), none⟩, none), (⟨(some 26), (.pcall 91 [(.t 25)]), none⟩, none), (⟨(some 27), (.mv (.t 2)), none⟩, none), (⟨(some 28), (.mv (.t 7)), none⟩, none), (⟨(some 29), (.idxS (.t 27) (.t 28)), none⟩, none), (⟨(some 30), (.bin .neq (.t 26) (.t 29)), none⟩, none)]) (.cond (.t 30) (.seq (.reg [⟨(some 6), (.mv (.c (.bool false))), none⟩]) .ret) .skip))) (.reg [⟨(some 19), (.mv (.t 7)), none⟩, ⟨(some 20), (.bin .add (.t 19) (.c (.int .i64 (1)))), none⟩, ⟨(some 7), (.mv (.t 20)), none⟩])))))) (.seq (.reg [⟨(some 6), (.mv (.c (.bool true))), none⟩]) .ret)))), [(.tmp 6)]⟩
theorem hc72 : toSF Tryz.prog {pure := [91]} Tryz.f72 = some c72 := by kernel_rfl
theorem hn72 : (Tryz.f72.name == "runtime.NumGoroutine") = false := by kernel_rfl
theorem stand1_ok (s : List UInt8) (c : UInt8) (hc : c = 38 ∨ c = 61) (a : Nat) (ha : a < s.length) (hs : s.length ≤ 1000000) : PCalls (Pg G) 72 [.str s, aInt a, .str [c]] (.bool (s.getD a 0 == c)) := fun h => by
  obtain ⟨b, hb⟩ : ∃ b, s.getD a 0 = b := ⟨_, rfl⟩
  have cL := lwB_ok (G := G) b
  have hl := lwB_is c hc b
  rw [hb, ← hl]
  have l1 : (([c] : List UInt8).length : Int) = 1 := rfl
  have d1 : decide ((s.length : Int) < (a : Int) + 1) = false := decide_eq_false (by omega)
  refine dcalls_of_vc Tryz.func72 hn72 hc72 (by rw [Tryz.ntmps72]; simp) (by rw [Tryz.ntmps72]; decide) ?_
  simp -dsimp -implicitDefEqProofs (disch := omega) only [VCA, Nat.reduceEqDiff, ↓reduceIte, reduceCtorEq, c72]
  repeat' (first | ((with_reducible refine Br.dec (fun _ => ?_) (fun _ => ?_)) <;> try (exfalso; omega)) | ((with_reducible refine Br.eq (fun _ => ?_) (fun _ => ?_)) <;> try (exfalso; omega)) | ((with_reducible refine Br.ne (fun _ => ?_) (fun _ => ?_)) <;> try (exfalso; omega)) | ((with_reducible refine brNdec (fun _ => ?_) (fun _ => ?_)) <;> try (exfalso; omega)) | ((with_reducible refine brNeq (fun _ => ?_) (fun _ => ?_)) <;> try (exfalso; omega)) | with_reducible refine Br.intro (fun _ => ?_) (fun _ => ?_) | (with_reducible refine And.intro ?_ ?_; · omega) | simp -dsimp -implicitDefEqProofs (disch := omega) only [VCA])
  refine LoopVC.intro (fun m e h' => ∃ j : Nat, j ≤ 1 ∧ m = 1 - j ∧ e 0 = .str s ∧ e 1 = aInt a ∧ e 2 = .str [c] ∧ e 7 = aInt j ∧ h' = h ∧ (j = 1 → (((lwB b).toNat : Int) == c.toNat) = true)) 1
    (by exact ⟨0, by omega, by omega, rfl, rfl, rfl, rfl, rfl, fun h => by cases h⟩) ?_
  rintro m e h' ⟨j, hj, rfl, e0, e1, e2, e7, rfl, hy⟩
  rcases (show j = 0 ∨ j = 1 by omega) with rfl | rfl
  · have d2 : decide (((0 : Nat) : Int) < 1) = true := rfl
    have ta : ((a : Int) + ((0 : Nat) : Int)).toNat = a := by omega
    have gc : ([c] : List UInt8).getD 0 0 = c := rfl
    cases hq : (((lwB b).toNat : Int) == c.toNat)
    · have hq2 : (((lwB b).toNat : Int) != c.toNat) = true := by unfold bne; rw [hq]; rfl
      repeat' (first | ((with_reducible refine Br.dec (fun _ => ?_) (fun _ => ?_)) <;> try (exfalso; omega)) | ((with_reducible refine Br.eq (fun _ => ?_) (fun _ => ?_)) <;> try (exfalso; omega)) | ((with_reducible refine Br.ne (fun _ => ?_) (fun _ => ?_)) <;> try (exfalso; omega)) | ((with_reducible refine brNdec (fun _ => ?_) (fun _ => ?_)) <;> try (exfalso; omega)) | ((with_reducible refine brNeq (fun _ => ?_) (fun _ => ?_)) <;> try (exfalso; omega)) | with_reducible refine Br.intro (fun _ => ?_) (fun _ => ?_) | (with_reducible apply pcallE.of; · exact cL) | (with_reducible refine And.intro ?_ ?_; · omega) | simp -dsimp -implicitDefEqProofs (disch := omega) only [VCA, Nat.reduceEqDiff, ↓reduceIte, reduceCtorEq, rsOf, rootsOf, exists_eq_right, rootL, e0, e1, e2, e7, ta, hb, gc, hq2])
      all_goals exact Sub.refl _
    · have hq2 : (((lwB b).toNat : Int) != c.toNat) = false := by unfold bne; rw [hq]; rfl
      repeat' (first | ((with_reducible refine Br.dec (fun _ => ?_) (fun _ => ?_)) <;> try (exfalso; omega)) | ((with_reducible refine Br.eq (fun _ => ?_) (fun _ => ?_)) <;> try (exfalso; omega)) | ((with_reducible refine Br.ne (fun _ => ?_) (fun _ => ?_)) <;> try (exfalso; omega)) | ((with_reducible refine brNdec (fun _ => ?_) (fun _ => ?_)) <;> try (exfalso; omega)) | ((with_reducible refine brNeq (fun _ => ?_) (fun _ => ?_)) <;> try (exfalso; omega)) | with_reducible refine Br.intro (fun _ => ?_) (fun _ => ?_) | (with_reducible apply pcallE.of; · exact cL) | (with_reducible refine And.intro ?_ ?_; · omega) | simp -dsimp -implicitDefEqProofs (disch := omega) only [VCA, Nat.reduceEqDiff, ↓reduceIte, reduceCtorEq, rsOf, rootsOf, implies_true, rootL, e0, e1, e2, e7, ta, hb, gc, hq2])
      all_goals exact ⟨_, by omega, 1, by omega, rfl, by omega⟩
  · have d2 : decide (((1 : Nat) : Int) < 1) = false := rfl
    rw [hy rfl]
    repeat' (first | ((with_reducible refine Br.dec (fun _ => ?_) (fun _ => ?_)) <;> try (exfalso; omega)) | ((with_reducible refine Br.eq (fun _ => ?_) (fun _ => ?_)) <;> try (exfalso; omega)) | ((with_reducible refine Br.ne (fun _ => ?_) (fun _ => ?_)) <;> try (exfalso; omega)) | ((with_reducible refine brNdec (fun _ => ?_) (fun _ => ?_)) <;> try (exfalso; omega)) | ((with_reducible refine brNeq (fun _ => ?_) (fun _ => ?_)) <;> try (exfalso; omega)) | with_reducible refine Br.intro (fun _ => ?_) (fun _ => ?_) | (with_reducible refine And.intro ?_ ?_; · omega) | simp -dsimp -implicitDefEqProofs (disch := omega) only [VCA, Nat.reduceEqDiff, Nat.reduceSub, ↓reduceIte, implies_true, exists_eq_right, e2, e7])
    all_goals exact Sub.refl _
def c30 : SFun := ⟨(.seq (.reg [⟨(some 6), (.mv (.c (.int .i64 (0)))), none⟩, ⟨(some 7), (.mv (.c (.bool false))), none⟩]) (.seq (.seq (.reg [⟨(some 9), (.mv (.t 1)), none⟩, ⟨(some 8), (.mv (.t 9)), none⟩]) (.block 0 (.loop (.seq (.seq (.reg [⟨(some 10), (.mv (.t 8)), none⟩, ⟨(some 11), (.mv (.t 0)), none⟩, ⟨(some 12), (.lenS (.t 11)), none⟩, ⟨(some 13), (.bin .lss (.t 10) (.t 12)), none⟩]) (.cond (.t 13) .skip (.exit 0))) (.seq (.block 1 (.seq (.reg [⟨(some 16), (.mv (.t 0)), none⟩, ⟨(some 17), (.mv (.t 8)), none⟩, ⟨(some 18), (.mv (.t 2)), none⟩, ⟨(some 19), (.pcall 72 [(.t 16), (.t 17), (.t 18)]), none⟩]) (.cond (.t 19) (.seq (.reg [⟨(some 20), (.mv (.t 8)), none⟩, ⟨(some 6), (.mv (.t 20)), none⟩, ⟨(some 7), (.mv (.c (.bool true))), none⟩]) .ret) .skip))) (.reg [⟨(some 14), (.mv (.t 8)), none⟩, ⟨(some 15), (.bin .add (.t 14) (.c (.int .i64 (1)))), none⟩, ⟨(some 8), (.mv (.t 15)), none⟩])))))) (.seq (.reg [⟨(some 21), (.mv (.t 0)), none⟩, ⟨(some 22), (.lenS (.t 21)), none⟩, ⟨(some 6), (.mv (.t 22)), none⟩, ⟨(some 7), (.mv (.c (.bool false))), none⟩]) .ret))), [(.tmp 6), (.tmp 7)]⟩
theorem hc30 : toSF Tryz.prog {pure := [72]} Tryz.f30 = some c30 := by kernel_rfl
theorem hn30 : (Tryz.f30.name == "runtime.NumGoroutine") = false := by kernel_rfl
theorem upTo1_ok (s : List UInt8) (c : UInt8) (hc : c = 38 ∨ c = 61) (a : Nat) (ha : a ≤ s.length) (hs : s.length ≤ 1000000) : PCalls (Pg G) 30 [.str s, aInt a, .str [c]] (.tup [aInt (fstC s c a), .bool (decide (fstC s c a < s.length))]) := fun h => by
  have F := fstI (q := fun i => s.getD i 0 == c) ha
  obtain ⟨u, hu⟩ : ∃ u, fstC s c a = u := ⟨_, rfl⟩
  rw [show firstM (fun i => s.getD i 0 == c) s.length a = fstC s c a from rfl, hu] at F
  rw [hu]
  have hul := F.le
  refine dcalls_of_vc Tryz.func30 hn30 hc30 (by rw [Tryz.ntmps30]; simp) (by rw [Tryz.ntmps30]; decide) ?_
  simp -dsimp -implicitDefEqProofs (disch := omega) only [VCA, Nat.reduceEqDiff, ↓reduceIte, c30]
  refine LoopVC.intro (fun m e h' => ∃ j : Nat, a ≤ j ∧ j ≤ u ∧ m = s.length - j ∧ e 0 = .str s ∧ e 2 = .str [c] ∧ e 8 = aInt j ∧ h' = h) (s.length - a)
    (by exact ⟨a, by omega, F.ge, by omega, rfl, rfl, rfl, rfl⟩) ?_
  rintro m e h' ⟨j, hj0, hj, rfl, e0, e2, e8, rfl⟩
  by_cases hlt : j < s.length
  · have d1 : decide ((j : Int) < (s.length : Int)) = true := decide_eq_true (by omega)
    have cS := stand1_ok (G := G) s c hc j hlt hs
    by_cases hju : j < u
    · have hn := F.no j hj0 hju
      rw [hn] at cS
      repeat' (first | ((with_reducible refine Br.dec (fun _ => ?_) (fun _ => ?_)) <;> try (exfalso; omega)) | ((with_reducible refine Br.eq (fun _ => ?_) (fun _ => ?_)) <;> try (exfalso; omega)) | ((with_reducible refine Br.ne (fun _ => ?_) (fun _ => ?_)) <;> try (exfalso; omega)) | ((with_reducible refine brNdec (fun _ => ?_) (fun _ => ?_)) <;> try (exfalso; omega)) | ((with_reducible refine brNeq (fun _ => ?_) (fun _ => ?_)) <;> try (exfalso; omega)) | with_reducible refine Br.intro (fun _ => ?_) (fun _ => ?_) | (with_reducible apply pcallE.of; · exact cS) | (with_reducible refine And.intro ?_ ?_; · omega) | simp -dsimp -implicitDefEqProofs (disch := omega) only [VCA, Nat.reduceEqDiff, ↓reduceIte, reduceCtorEq, e0, e2, e8, d1])
      all_goals exact ⟨_, by omega, j + 1, by omega, by omega, rfl, by omega⟩
    · obtain rfl : j = u := by omega
      have hy := F.hit hlt
      rw [hy] at cS
      have d2 : decide (j < s.length) = true := decide_eq_true hlt
      rw [d2]
      repeat' (first | ((with_reducible refine Br.dec (fun _ => ?_) (fun _ => ?_)) <;> try (exfalso; omega)) | ((with_reducible refine Br.eq (fun _ => ?_) (fun _ => ?_)) <;> try (exfalso; omega)) | ((with_reducible refine Br.ne (fun _ => ?_) (fun _ => ?_)) <;> try (exfalso; omega)) | ((with_reducible refine brNdec (fun _ => ?_) (fun _ => ?_)) <;> try (exfalso; omega)) | ((with_reducible refine brNeq (fun _ => ?_) (fun _ => ?_)) <;> try (exfalso; omega)) | with_reducible refine Br.intro (fun _ => ?_) (fun _ => ?_) | (with_reducible apply pcallE.of; · exact cS) | (with_reducible refine And.intro ?_ ?_; · omega) | simp -dsimp -implicitDefEqProofs (disch := omega) only [VCA, Nat.reduceEqDiff, ↓reduceIte, reduceCtorEq, exists_eq_right, e0, e2, e8, d1])
      all_goals exact Sub.refl _
  · obtain rfl : j = u := by omega
    have d1 : decide ((j : Int) < (s.length : Int)) = false := decide_eq_false (by omega)
    have d2 : decide (j < s.length) = false := decide_eq_false hlt
    have ej : j = s.length := by omega
    rw [d2]
    repeat' (first | ((with_reducible refine Br.dec (fun _ => ?_) (fun _ => ?_)) <;> try (exfalso; omega)) | ((with_reducible refine Br.eq (fun _ => ?_) (fun _ => ?_)) <;> try (exfalso; omega)) | ((with_reducible refine Br.ne (fun _ => ?_) (fun _ => ?_)) <;> try (exfalso; omega)) | ((with_reducible refine brNdec (fun _ => ?_) (fun _ => ?_)) <;> try (exfalso; omega)) | ((with_reducible refine brNeq (fun _ => ?_) (fun _ => ?_)) <;> try (exfalso; omega)) | with_reducible refine Br.intro (fun _ => ?_) (fun _ => ?_) | (with_reducible refine And.intro ?_ ?_; · omega) | simp -dsimp -implicitDefEqProofs (disch := omega) only [VCA, Nat.reduceEqDiff, ↓reduceIte, reduceCtorEq, exists_eq_right_right, e0, e8, d1])
    all_goals exact ⟨Sub.refl _, by rw [ej]⟩
def c11 : SFun := ⟨(.seq (.reg [⟨(some 2), (.mv (.c .emp)), none⟩, ⟨(some 3), (.mv (.c (.int .i64 (0)))), none⟩]) (.seq (.seq (.reg [⟨(some 11), (.mv (.t 0)), none⟩, ⟨(some 12), (.lenS (.t 11)), none⟩, ⟨(some 13), (.bin .gtr (.t 12) (.c (.int .i64 (4000)))), none⟩]) (.cond (.t 13) (.seq (.reg [⟨(some 2), (.mv (.c .emp)), none⟩, ⟨(some 3), (.mv (.c (.int .i64 (2)))), none⟩]) .ret) .skip)) (.seq (.reg [⟨(some 4), (.mv (.c .emp)), none⟩]) (.seq (.seq (.reg [⟨(some 5), (.mv (.c (.int .i64 (0)))), none⟩]) (.block 0 (.loop (.seq (.seq (.reg [⟨(some 14), (.mv (.t 5)), none⟩, ⟨(some 15), (.mv (.t 0)), none⟩, ⟨(some 16), (.lenS (.t 15)), none⟩, ⟨(some 17), (.bin .lss (.t 14) (.t 16)), none⟩]) (.cond (.t 17) .skip (.exit 0))) (.block 1 (.seq (.reg [⟨(some 19), (.mv (.t 0)), none⟩, ⟨(some 20), (.mv (.t 5)), none⟩, ⟨(some 21), (.pcall 30 [(.t 19), (.t 20), (.c (.str [38]))]), none⟩, ⟨(some 18), (.mv (.t 21)), none⟩, ⟨(some 22), (.ext (.t 18) 0), none⟩, ⟨(some 23), (.ext (.t 18) 1), none⟩, ⟨(some 6), (.mv (.t 22)), none⟩, ⟨(some 7), (.mv (.t 23)), none⟩]) (.seq (.seq (.reg [⟨(some 24), (.mv (.t 6)), none⟩, ⟨(some 25), (.mv (.t 5)), none⟩, ⟨(some 26), (.bin .gtr (.t 24) (.t 25)), none⟩]) (.cond (.t 26) (.seq (.reg [⟨(some 28), (.mv (.t 0)), none⟩, ⟨(some 29), (.mv (.t 6)), none⟩, ⟨(some 30), (.slS (.t 28) none (some (.t 29))), none⟩, ⟨(some 31), (.mv (.t 5)), none⟩, ⟨(some 32), (.pcall 30 [(.t 30), (.t 31), (.c (.str [61]))]), none⟩, ⟨(some 27), (.mv (.t 32)), none⟩, ⟨(some 33), (.ext (.t 27) 0), none⟩, ⟨(some 34), (.ext (.t 27) 1), none⟩, ⟨(some 8), (.mv (.t 33)), none⟩, ⟨(some 9), (.mv (.t 34)), none⟩]) (.seq (.reg [⟨(some 10), (.mv (.c (.str []))), none⟩]) (.seq (.seq (.reg [⟨(some 35), (.mv (.t 8)), none⟩, ⟨(some 36), (.mv (.t 6)), none⟩, ⟨(some 37), (.bin .lss (.t 35) (.t 36)), none⟩]) (.cond (.t 37) (.reg [⟨(some 38), (.mv (.t 0)), none⟩, ⟨(some 39), (.mv (.t 8)), none⟩, ⟨(some 40), (.bin .add (.t 39) (.c (.int .i64 (1)))), none⟩, ⟨(some 41), (.mv (.t 6)), none⟩, ⟨(some 42), (.slS (.t 38) (some (.t 40)) (some (.t 41))), none⟩, ⟨(some 10), (.mv (.t 42)), none⟩]) .skip)) (.reg [⟨(some 43), (.mv (.t 4)), none⟩, ⟨(some 44), (.mv (.t 0)), none⟩, ⟨(some 45), (.mv (.t 5)), none⟩, ⟨(some 46), (.mv (.t 8)), none⟩, ⟨(some 47), (.slS (.t 44) (some (.t 45)) (some (.t 46))), none⟩, ⟨(some 48), (.pcall 31 [(.t 47)]), none⟩, ⟨(some 49), (.mv (.t 10)), none⟩, ⟨(some 50), (.pcall 31 [(.t 49)]), none⟩, ⟨(some 51), (.bld [(.str []), (.str [])] [(0, (1, (.t 48))), (1, (1, (.t 50)))]), none⟩, ⟨(some 52), (.bldF 25 2 [(.t 51)]), none⟩, ⟨(some 53), (.app 25 2 32 (.t 43) (.t 52)), none⟩, ⟨(some 4), (.mv (.t 53)), none⟩])))) .skip)) (.reg [⟨(some 54), (.mv (.t 6)), none⟩, ⟨(some 55), (.bin .add (.t 54) (.c (.int .i64 (1)))), none⟩, ⟨(some 5), (.mv (.t 55)), none⟩])))))))) (.seq (.seq (.reg [⟨(some 56), (.mv (.t 4)), none⟩, ⟨(some 57), (.len (.t 56)), none⟩, ⟨(some 58), (.bin .gtr (.t 57) (.c (.int .i64 (100)))), none⟩]) (.cond (.t 58) (.seq (.reg [⟨(some 2), (.mv (.c .emp)), none⟩, ⟨(some 3), (.mv (.c (.int .i64 (2)))), none⟩]) .ret) .skip)) (.seq (.reg [⟨(some 59), (.mv (.t 4)), none⟩, ⟨(some 2), (.mv (.t 59)), none⟩, ⟨(some 3), (.mv (.c (.int .i64 (0)))), none⟩]) .ret)))))), [(.tmp 2), (.tmp 3)]⟩
theorem hc11 : toSF Tryz.prog {pure := [30, 31]} Tryz.f11 = some c11 := by kernel_rfl
theorem hn11 : (Tryz.f11.name == "runtime.NumGoroutine") = false := by kernel_rfl
set_option maxHeartbeats 2000000 in
theorem refFormDecode_ok (s : List UInt8) (hs : s.length ≤ 1073741824) : PCalls (Pg G) 11 [.str s] (.tup [sl eEnt (decoded s).1, aInt (decoded s).2]) := PCalls.outV fun h => by
  by_cases h4 : 4000 < s.length
  · have d0 : decide ((4000 : Int) < (s.length : Int)) = true := decide_eq_true (by omega)
    rw [decoded_long h4]
    refine dcalls_of_vc Tryz.func11 hn11 hc11 (by rw [Tryz.ntmps11]; simp) (by rw [Tryz.ntmps11]; decide) ?_
    simp -dsimp -implicitDefEqProofs (disch := omega) only [VCA, Nat.reduceEqDiff, ↓reduceIte, reduceCtorEq, c11, d0]
    repeat' (first | ((with_reducible refine Br.dec (fun _ => ?_) (fun _ => ?_)) <;> try (exfalso; omega)) | ((with_reducible refine Br.eq (fun _ => ?_) (fun _ => ?_)) <;> try (exfalso; omega)) | ((with_reducible refine Br.ne (fun _ => ?_) (fun _ => ?_)) <;> try (exfalso; omega)) | ((with_reducible refine brNdec (fun _ => ?_) (fun _ => ?_)) <;> try (exfalso; omega)) | ((with_reducible refine brNeq (fun _ => ?_) (fun _ => ?_)) <;> try (exfalso; omega)) | with_reducible refine Br.intro (fun _ => ?_) (fun _ => ?_) | (with_reducible refine And.intro ?_ ?_; · omega) | simp -dsimp -implicitDefEqProofs (disch := omega) only [VCA, pg_gl, ↓upd_none, Nat.reduceEqDiff, Nat.reduceBEq, Nat.reduceAdd, Nat.reduceSub, Nat.reduceMul, Nat.reduceLT, Nat.reduceLeDiff, ↓reduceIte, reduceCtorEq, rsOf, rootsOf, SOp.rd, SI.rd, SX.rd, rdL, rdO, rdP, okParts, eqCells, okEqCells, fillA, okFill, setAt, implies_true, forall_const, forall_eq, ne_eq, exists_eq_right_right, exists_eq_right, exists_eq_left, exists_eq_left', rootL, eInt, eStr, eEnt, lit_eq, d0])
    all_goals exact ⟨_, Sub.refl _, Sub.refl _, .tup' (.cons .emp (.cons (.refl _) .nil))⟩
  · have d0 : decide ((4000 : Int) < (s.length : Int)) = false := decide_eq_false (by omega)
    have hel := entsM_len s
    refine dcalls_of_vc Tryz.func11 hn11 hc11 (by rw [Tryz.ntmps11]; simp) (by rw [Tryz.ntmps11]; decide) ?_
    simp -dsimp -implicitDefEqProofs (disch := omega) only [VCA, ↓reduceIte, reduceCtorEq, c11, d0]
    repeat' (first | ((with_reducible refine Br.dec (fun _ => ?_) (fun _ => ?_)) <;> try (exfalso; omega)) | ((with_reducible refine Br.eq (fun _ => ?_) (fun _ => ?_)) <;> try (exfalso; omega)) | ((with_reducible refine Br.ne (fun _ => ?_) (fun _ => ?_)) <;> try (exfalso; omega)) | ((with_reducible refine brNdec (fun _ => ?_) (fun _ => ?_)) <;> try (exfalso; omega)) | ((with_reducible refine brNeq (fun _ => ?_) (fun _ => ?_)) <;> try (exfalso; omega)) | with_reducible refine Br.intro (fun _ => ?_) (fun _ => ?_) | (with_reducible refine And.intro ?_ ?_; · omega) | simp -dsimp -implicitDefEqProofs (disch := omega) only [VCA, pg_gl, ↓upd_none, Nat.reduceEqDiff, Nat.reduceBEq, Nat.reduceAdd, Nat.reduceSub, Nat.reduceMul, Nat.reduceLT, Nat.reduceLeDiff, ↓reduceIte, reduceCtorEq, rsOf, rootsOf, SOp.rd, SI.rd, SX.rd, rdL, rdO, rdP, okParts, eqCells, okEqCells, fillA, okFill, setAt, implies_true, forall_const, forall_eq, ne_eq, exists_eq_right_right, exists_eq_right, exists_eq_left, exists_eq_left', rootL, eInt, eStr, eEnt, lit_eq, d0])
    refine LoopVC.intro (fun m e h' => ∃ (a : Nat) (L : List HEnt), a ≤ s.length + 1 ∧ m = s.length + 1 - a ∧ e 0 = .str s ∧ e 5 = aInt a ∧ L ++ entsF s a = entsM s ∧ Acc h 25 2 (L.map eEnt) (e 4) h' ∧ Sim.Sub h h') (s.length + 1)
      (by exact ⟨0, [], by omega, by omega, rfl, rfl, by rw [entsF_0]; rfl, .nil, Sub.refl _⟩) ?_
    rintro m e h' ⟨a, L, ha, rfl, e0, e5, hL, A, S⟩
    have hLl : L.length ≤ s.length + 1 := by
      have h1 := hel
      rw [← hL, List.length_append] at h1; omega
    by_cases hlt : a < s.length
    · have d1 : decide ((a : Int) < (s.length : Int)) = true := decide_eq_true (by omega)
      have F := fstI (q := fun i => s.getD i 0 == (38 : UInt8)) (show a ≤ s.length by omega)
      rw [show firstM (fun i => s.getD i 0 == (38 : UInt8)) s.length a = fstC s 38 a from rfl] at F
      have c1 := upTo1_ok (G := G) s 38 (.inl rfl) a (by omega) (by omega)
      have hi := entsF_is (s := s) (a := a) (by omega)
      obtain ⟨u, hu⟩ : ∃ u, fstC s 38 a = u := ⟨_, rfl⟩
      rw [hu] at F c1 hi
      have u1 := F.ge
      have u2 := F.le
      by_cases hau : a < u
      · have d2 : decide ((a : Int) < (u : Int)) = true := decide_eq_true (by omega)
        rw [if_pos hau] at hi
        have htl : (s.take u).length = u := by rw [List.length_take]; omega
        have c2 := upTo1_ok (G := G) (s.take u) 61 (.inr rfl) a (by omega) (by omega)
        rw [htl] at c2
        have F2 := fstI (q := fun i => (s.take u).getD i 0 == (61 : UInt8)) (show a ≤ (s.take u).length by omega)
        rw [show firstM (fun i => (s.take u).getD i 0 == (61 : UInt8)) (s.take u).length a = fstC (s.take u) 61 a from rfl] at F2
        have hn61 := fstC_seg (s := s.take u) (c := 61) (a := a) (by omega)
        have hit61 := fun h => fstC_hit (s := s.take u) (c := 61) (a := a) (by omega) h
        obtain ⟨v, hv⟩ : ∃ v, fstC (s.take u) 61 a = v := ⟨_, rfl⟩
        rw [hv] at F2 c2 hn61 hit61
        have v1 := F2.ge
        have v2 := F2.le
        rw [htl] at v2 hit61
        have hsg : seg s a u = seg (s.take u) a v ++ (s.take u).drop v := seg_split v1 (by omega)
        have hnm : seg (s.take u) a v = List.drop a (s.take v) := by unfold seg; rw [List.take_take, Nat.min_eq_left v2]
        rw [hnm] at hsg hn61
        have hln : (List.drop a (s.take v)).length ≤ s.length := by rw [List.length_drop, List.length_take]; omega
        have c3 := refDecoded_ok (G := G) (List.drop a (s.take v)) (by omega)
        have gt0 : decide ((u : Int) > (a : Int)) = true := d2
        by_cases hvu : v < u
        · have d3 : decide ((v : Int) < (u : Int)) = true := decide_eq_true (by omega)
          have hd := hit61 hvu
          rw [hd] at hsg
          have tk := tk_while (r := (s.take u).drop (v + 1)) hn61
          rw [← hsg] at tk
          have em : entM (seg s a u) = ⟨decF (List.drop a (s.take v)) 0, decF ((s.take u).drop (v + 1)) 0⟩ := by unfold entM; rw [tk.1, tk.2]; rfl
          have hl2 : ((s.take u).drop (v + 1)).length ≤ s.length := by rw [List.length_drop, List.length_take]; omega
          have c4 := refDecoded_ok (G := G) ((s.take u).drop (v + 1)) (by omega)
          rw [em] at hi
          repeat' (first | ((with_reducible refine Br.dec (fun _ => ?_) (fun _ => ?_)) <;> try (exfalso; omega)) | ((with_reducible refine Br.eq (fun _ => ?_) (fun _ => ?_)) <;> try (exfalso; omega)) | ((with_reducible refine Br.ne (fun _ => ?_) (fun _ => ?_)) <;> try (exfalso; omega)) | ((with_reducible refine brNdec (fun _ => ?_) (fun _ => ?_)) <;> try (exfalso; omega)) | ((with_reducible refine brNeq (fun _ => ?_) (fun _ => ?_)) <;> try (exfalso; omega)) | with_reducible refine Br.intro (fun _ => ?_) (fun _ => ?_) | (with_reducible apply pcallE.of; · exact c1) | (with_reducible apply pcallE.of; · exact c2) | (with_reducible apply pcallE.of; · exact c3) | (with_reducible apply pcallE.of; · exact c4) | (with_reducible refine And.intro ?_ ?_; · omega) | simp -dsimp -implicitDefEqProofs (disch := omega) only [VCA, Nat.reduceEqDiff, Nat.reduceAdd, Nat.reduceLT, Nat.reduceLeDiff, ↓reduceIte, reduceCtorEq, okParts, fillA, okFill, forall_eq, exists_eq_left, e0, e5, d1, d2, d3])
          refine A.app S (by simp only [List.length_map, List.length_cons, List.length_nil]; omega) (by simp only [List.length_map, List.length_cons, List.length_nil]; omega) fun a2 h3 A2 S2 => ?_
          simp -dsimp -implicitDefEqProofs (disch := omega) only [VCA, Nat.reduceEqDiff, ↓reduceIte, reduceCtorEq, e0]
          exact ⟨_, by omega, u + 1, L ++ [⟨decF (List.drop a (s.take v)) 0, decF ((s.take u).drop (v + 1)) 0⟩], by omega, rfl, by omega, by rw [List.append_assoc, ← hi]; exact hL, by rw [List.map_append]; exact A2, S2⟩
        · have d3 : decide ((v : Int) < (u : Int)) = false := decide_eq_false (by omega)
          have ev : v = u := by omega
          have tk := tk_none hn61
          have hsg2 : seg s a u = List.drop a (s.take v) := by rw [hsg, show (s.take u).drop v = [] from List.drop_eq_nil_of_le (by omega), List.append_nil]
          rw [← hsg2] at tk
          have em : entM (seg s a u) = ⟨decF (List.drop a (s.take v)) 0, decF [] 0⟩ := by unfold entM; rw [tk.1, tk.2, hsg2]; rfl
          have c4 := refDecoded_ok (G := G) [] (by simp)
          rw [em] at hi
          repeat' (first | ((with_reducible refine Br.dec (fun _ => ?_) (fun _ => ?_)) <;> try (exfalso; omega)) | ((with_reducible refine Br.eq (fun _ => ?_) (fun _ => ?_)) <;> try (exfalso; omega)) | ((with_reducible refine Br.ne (fun _ => ?_) (fun _ => ?_)) <;> try (exfalso; omega)) | ((with_reducible refine brNdec (fun _ => ?_) (fun _ => ?_)) <;> try (exfalso; omega)) | ((with_reducible refine brNeq (fun _ => ?_) (fun _ => ?_)) <;> try (exfalso; omega)) | with_reducible refine Br.intro (fun _ => ?_) (fun _ => ?_) | (with_reducible apply pcallE.of; · exact c1) | (with_reducible apply pcallE.of; · exact c2) | (with_reducible apply pcallE.of; · exact c3) | (with_reducible apply pcallE.of; · exact c4) | (with_reducible refine And.intro ?_ ?_; · omega) | simp -dsimp -implicitDefEqProofs (disch := omega) only [VCA, Nat.reduceEqDiff, Nat.reduceAdd, Nat.reduceLT, Nat.reduceLeDiff, ↓reduceIte, reduceCtorEq, okParts, fillA, okFill, forall_eq, exists_eq_left, e0, e5, d1, d2, d3])
          refine A.app S (by simp only [List.length_map, List.length_cons, List.length_nil]; omega) (by simp only [List.length_map, List.length_cons, List.length_nil]; omega) fun a2 h3 A2 S2 => ?_
          simp -dsimp -implicitDefEqProofs (disch := omega) only [VCA, Nat.reduceEqDiff, ↓reduceIte, reduceCtorEq, e0]
          exact ⟨_, by omega, u + 1, L ++ [⟨decF (List.drop a (s.take v)) 0, decF [] 0⟩], by omega, rfl, by omega, by rw [List.append_assoc, ← hi]; exact hL, by rw [List.map_append]; exact A2, S2⟩
      · have d2 : decide ((a : Int) < (u : Int)) = false := decide_eq_false (by omega)
        rw [if_neg hau, List.nil_append] at hi
        repeat' (first | ((with_reducible refine Br.dec (fun _ => ?_) (fun _ => ?_)) <;> try (exfalso; omega)) | ((with_reducible refine Br.eq (fun _ => ?_) (fun _ => ?_)) <;> try (exfalso; omega)) | ((with_reducible refine Br.ne (fun _ => ?_) (fun _ => ?_)) <;> try (exfalso; omega)) | ((with_reducible refine brNdec (fun _ => ?_) (fun _ => ?_)) <;> try (exfalso; omega)) | ((with_reducible refine brNeq (fun _ => ?_) (fun _ => ?_)) <;> try (exfalso; omega)) | with_reducible refine Br.intro (fun _ => ?_) (fun _ => ?_) | (with_reducible apply pcallE.of; · exact c1) | (with_reducible refine And.intro ?_ ?_; · omega) | simp -dsimp -implicitDefEqProofs (disch := omega) only [VCA, Nat.reduceEqDiff, Nat.reduceAdd, Nat.reduceLT, ↓reduceIte, reduceCtorEq, e0, e5, d1, d2])
        all_goals exact ⟨_, by omega, u + 1, L, by omega, rfl, by omega, by rw [← hi]; exact hL, A, S⟩
    · have d1 : decide ((a : Int) < (s.length : Int)) = false := decide_eq_false (by omega)
      rw [entsF_end (by omega), List.append_nil] at hL
      subst hL
      have lenA := A.len
      have hv := (OwnS.of_acc A).1.vwN fun r hr => (OwnS.of_acc A).2.1 r hr
      simp only [List.length_map] at lenA
      by_cases h100 : 100 < (entsM s).length
      · have d2 : decide ((100 : Int) < ((entsM s).length : Int)) = true := decide_eq_true (by omega)
        have hdec : Go.Proofs.K.decoded s = ([], 2) := by unfold Go.Proofs.K.decoded; rw [if_neg h4, if_pos h100]
        rw [hdec]
        repeat' (first | ((with_reducible refine Br.dec (fun _ => ?_) (fun _ => ?_)) <;> try (exfalso; omega)) | ((with_reducible refine Br.eq (fun _ => ?_) (fun _ => ?_)) <;> try (exfalso; omega)) | ((with_reducible refine Br.ne (fun _ => ?_) (fun _ => ?_)) <;> try (exfalso; omega)) | ((with_reducible refine brNdec (fun _ => ?_) (fun _ => ?_)) <;> try (exfalso; omega)) | ((with_reducible refine brNeq (fun _ => ?_) (fun _ => ?_)) <;> try (exfalso; omega)) | with_reducible refine Br.intro (fun _ => ?_) (fun _ => ?_) | (with_reducible refine And.intro ?_ ?_; · omega) | simp -dsimp -implicitDefEqProofs (disch := omega) only [VCA, Nat.reduceEqDiff, ↓reduceIte, reduceCtorEq, e0, e5, d1, lenA.1, lenA.2, d2])
        all_goals exact ⟨_, Sub.refl _, S, .tup' (.cons .emp (.cons (.refl _) .nil))⟩
      · have d2 : decide ((100 : Int) < ((entsM s).length : Int)) = false := decide_eq_false (by omega)
        have hdec : Go.Proofs.K.decoded s = (entsM s, 0) := by unfold Go.Proofs.K.decoded; rw [if_neg h4, if_neg h100]
        rw [hdec]
        repeat' (first | ((with_reducible refine Br.dec (fun _ => ?_) (fun _ => ?_)) <;> try (exfalso; omega)) | ((with_reducible refine Br.eq (fun _ => ?_) (fun _ => ?_)) <;> try (exfalso; omega)) | ((with_reducible refine Br.ne (fun _ => ?_) (fun _ => ?_)) <;> try (exfalso; omega)) | ((with_reducible refine brNdec (fun _ => ?_) (fun _ => ?_)) <;> try (exfalso; omega)) | ((with_reducible refine brNeq (fun _ => ?_) (fun _ => ?_)) <;> try (exfalso; omega)) | with_reducible refine Br.intro (fun _ => ?_) (fun _ => ?_) | (with_reducible refine And.intro ?_ ?_; · omega) | simp -dsimp -implicitDefEqProofs (disch := omega) only [VCA, Nat.reduceEqDiff, ↓reduceIte, reduceCtorEq, e0, e5, d1, lenA.1, lenA.2, d2])
        all_goals exact ⟨_, Sub.refl _, S, .tup' (.cons hv (.cons (.refl _) .nil))⟩
end Go.Proofs.K
end
section
set_option linter.unusedSimpArgs false
set_option linter.unusedVariables false
namespace Go.Proofs.K
open Go Go.Sim Go.Proofs
variable {G : Glob}
def inW (nm s : List UInt8) : Bool := (splitB 32 [] s).any (· == nm)
theorem one_in (hG : MaxLenOK G) (nm s : List UInt8) (hs : ((splitB 32 [] s).any (· == [])) = false) (hn : nm.length < 4294967281) (hl : s.length < 4294967200) : PCalls (Pg G) 34 [.str nm, .str (32 :: (s ++ [32]))] (.bool (inW nm s)) := by
  have h := oneW_ok hG nm (32 :: (s ++ [32])) hn (by simp; omega)
  rw [oneM_split s nm (fun h => by rw [List.any_eq_false] at hs; exact hs _ h rfl)] at h
  exact h
/-! ## Bars and scopes -/
end Go.Proofs.K
end
section
/- forms: types of inputs, in small letters (plain). -/
set_option linter.unusedSimpArgs false
set_option linter.unusedVariables false
namespace Go.Proofs.K
open Go Go.Sim Go.Proofs Go.Lib
theorem enc_hi (x : Int) (hx : 128 ≤ x) : ∃ c ∈ encodeRune x, 128 ≤ c.toNat := by
  have h : ∃ z ∈ encodeRuneZ x, 128 ≤ z := by
    by_cases h2 : x ≤ 2047
    · rw [encodeRuneZ_two hx h2]; exact ⟨_, List.mem_cons_self, by omega⟩
    · by_cases h3 : (2048 ≤ x ∧ x < 55296) ∨ (57343 < x ∧ x ≤ 65535)
      · rw [encodeRuneZ_three h3]; exact ⟨_, List.mem_cons_self, by omega⟩
      · by_cases h4 : 65536 ≤ x ∧ x ≤ 1114111
        · rw [encodeRuneZ_four h4.1 h4.2]; exact ⟨_, List.mem_cons_self, by omega⟩
        · rw [encodeRuneZ_bad (by omega)]; exact ⟨_, List.mem_cons_self, by omega⟩
  obtain ⟨z, hz, h1⟩ := h
  have hb := encodeRuneZ_byte x z hz
  refine ⟨z.toNat.toUInt8, List.mem_map.2 ⟨z, hz, rfl⟩, ?_⟩
  have : z.toNat.toUInt8.toNat = z.toNat := by
    show (UInt8.ofNat z.toNat).toNat = _
    rw [UInt8.toNat_ofNat']; omega
  omega
theorem dec_lo (b : UInt8) (r : List UInt8) (hb : b.toNat < 128) : decodeL (b :: r) = (b.toNat, 1) := by
  rw [decodeL_N]
  show decodeN _ b.toNat _ _ _ = _
  unfold decodeN
  rw [if_pos hb]
theorem low_lo (b : UInt8) (hb : b.toNat < 128) : (if 0 ≤ lowR (b.toNat : Int) then encodeRune (lowR (b.toNat : Int)) else []) = [lwB b] := by
  have h := u8_all (p := fun b => decide (b.toNat < 128 → (if 0 ≤ lowR (b.toNat : Int) then encodeRune (lowR (b.toNat : Int)) else []) = [lwB b])) (by decide +kernel) b
  exact of_decide_eq_true h hb
theorem lowU_cons (b : UInt8) (r : List UInt8) (hb : b.toNat < 128) : lowU (b :: r) = lwB b :: lowU r := by
  unfold lowU
  rw [mapD_step _ _ (by simp), dec_lo b r hb]
  show (if 0 ≤ lowR (b.toNat : Int) then encodeRune (lowR (b.toNat : Int)) else []) ++ _ = _
  rw [low_lo b hb]
  rfl
theorem lowU_lo : ∀ v : List UInt8, (∀ b ∈ v, b.toNat < 128) → lowU v = v.map lwB
  | [], _ => rfl
  | b :: r, h => by rw [lowU_cons b r (h b List.mem_cons_self), lowU_lo r fun c hc => h c (List.mem_cons_of_mem _ hc)]; rfl
theorem lowU_hi : ∀ v : List UInt8, (∃ b ∈ v, 128 ≤ b.toNat) → ∃ c ∈ lowU v, 128 ≤ c.toNat
  | [], h => by obtain ⟨b, hb, _⟩ := h; cases hb
  | b :: r, h => by
    by_cases hb : b.toNat < 128
    · have h2 : ∃ c ∈ r, 128 ≤ c.toNat := by
        obtain ⟨c, hc, h1⟩ := h
        rcases List.mem_cons.1 hc with rfl | hc
        · omega
        · exact ⟨c, hc, h1⟩
      obtain ⟨c, hc, h1⟩ := lowU_hi r h2
      rw [lowU_cons b r hb]
      exact ⟨c, List.mem_cons_of_mem _ hc, h1⟩
    · have hx : 128 ≤ (decodeL (b :: r)).1 := by
        have g : ((b :: r).getD 0 0).toNat = b.toNat := rfl
        rw [decodeL_N]
        rcases decodeN_shape (b :: r).length ((b :: r).getD 0 0).toNat ((b :: r).getD 1 0).toNat ((b :: r).getD 2 0).toNat ((b :: r).getD 3 0).toNat with ⟨c, e⟩ | ⟨c1, c2, c3, cv, e⟩ | ⟨c1, c2, c3, c4, cv, cs, e⟩ | ⟨c1, c2, c3, c4, c5, cv, cw, e⟩ | e
        · rw [g] at c; omega
        all_goals rw [e]; simp only; omega
      have hl : lowR ((decodeL (b :: r)).1 : Int) = ((decodeL (b :: r)).1 : Int) := if_neg (by omega)
      obtain ⟨c, hc, h1⟩ := enc_hi ((decodeL (b :: r)).1 : Int) (by omega)
      unfold lowU
      rw [mapD_step _ _ (by simp), hl, if_pos (by omega)]
      exact ⟨c, List.mem_append_left _ hc, h1⟩
def ctlS : List UInt8 := [105, 110, 112, 117, 116, 32, 116, 101, 120, 116, 97, 114, 101, 97, 32, 115, 101, 108, 101, 99, 116, 32, 98, 117, 116, 116, 111, 110]
def typS : List UInt8 := [104, 105, 100, 100, 101, 110, 32, 116, 101, 120, 116, 32, 110, 117, 109, 98, 101, 114, 32, 99, 104, 101, 99, 107, 98, 111, 120, 32, 114, 97, 100, 105, 111, 32, 115, 117, 98, 109, 105, 116, 32, 114, 101, 115, 101, 116, 32, 98, 117, 116, 116, 111, 110, 32, 105, 109, 97, 103, 101, 32, 102, 105, 108, 101]
def subS : List UInt8 := [115, 117, 98, 109, 105, 116, 32, 114, 101, 115, 101, 116, 32, 98, 117, 116, 116, 111, 110, 32, 105, 109, 97, 103, 101, 32, 102, 105, 108, 101]
theorem typ_word {x : List UInt8} (h : inW x typS = true) : x.length ≤ 8 ∧ ∀ c ∈ x, c.toNat < 128 := by
  unfold inW at h
  obtain ⟨w, hw, he⟩ := List.any_eq_true.1 h
  have he : w = x := by simpa using he
  subst he
  have ha : (splitB 32 [] typS).all (fun w => decide (w.length ≤ 8) && w.all fun c => decide (c.toNat < 128)) = true := by decide +kernel
  have := List.all_eq_true.1 ha w hw
  simp only [Bool.and_eq_true, decide_eq_true_eq, List.all_eq_true] at this
  exact this
/-- an input's type -/
def typM (v : List UInt8) : List UInt8 := if inW (v.map lwB) typS = true then v.map lwB else [116, 101, 120, 116]
theorem typ_is (v : List UInt8) : (if v.length ≤ 8 ∧ inW (lowU v) typS = true then lowU v else [116, 101, 120, 116]) = typM v := by
  unfold typM
  by_cases h : ∀ b ∈ v, b.toNat < 128
  · rw [lowU_lo v h]
    by_cases h1 : inW (v.map lwB) typS = true
    · have := (typ_word h1).1
      rw [List.length_map] at this
      rw [if_pos ⟨this, h1⟩, if_pos h1]
    · rw [if_neg (fun q => h1 q.2), if_neg h1]
  · have h2 : ∃ b ∈ v, 128 ≤ b.toNat := by
      simp only [Classical.not_forall] at h
      obtain ⟨b, hb, h3⟩ := h
      exact ⟨b, hb, by omega⟩
    obtain ⟨c, hc, h3⟩ := lowU_hi v h2
    have n1 : ¬ inW (lowU v) typS = true := fun q => by have := (typ_word q).2 c hc; omega
    obtain ⟨b, hb, h4⟩ := h2
    have h5 : lwB b = b := if_neg (by omega)
    have n2 : ¬ inW (v.map lwB) typS = true := fun q => by
      have := (typ_word q).2 b (List.mem_map.2 ⟨b, hb, h5⟩); omega
    rw [if_neg (fun q => n1 q.2), if_neg n2]
theorem lowU_len (v : List UInt8) : (lowU v).length ≤ 4 * v.length := by
  have : ∀ n (l : List UInt8), l.length ≤ n → (mapD lowR l).length ≤ 4 * l.length := by
    intro n
    induction n with
    | zero => intro l hl; obtain rfl : l = [] := List.eq_nil_of_length_eq_zero (by omega); exact Nat.le_refl _
    | succ n ih =>
      intro l hl
      by_cases hne : l = []
      · subst hne; exact Nat.le_refl _
      · have hw := decodeL_width l
        have h0 : 0 < l.length := List.length_pos_iff.2 hne
        rw [mapD_step _ _ hne, List.length_append]
        have h1 := ih (l.drop (decodeL l).2) (by rw [List.length_drop]; omega)
        rw [List.length_drop] at h1
        have h2 : (if 0 ≤ lowR ((decodeL l).1 : Int) then encodeRune (lowR ((decodeL l).1 : Int)) else []).length ≤ 4 := by
          split
          · unfold encodeRune; rw [List.length_map]; exact (encodeRuneZ_length _).2
          · simp
        omega
  exact this _ v (Nat.le_refl _)
end Go.Proofs.K
end
section
/- Ways through a tree: the plain law. -/
set_option linter.unusedSimpArgs false
set_option linter.unusedVariables false
namespace Go.Proofs.K
open Go Go.Sim Go.Proofs

section
variable {d : HDoc}
end
end Go.Proofs.K
end
section
/- Ways through a tree: contracts. -/
set_option linter.unusedSimpArgs false
set_option linter.unusedVariables false
namespace Go.Proofs.K
open Go Go.Sim Go.Proofs
variable {G : Glob}

section
variable {d : HDoc}
end
def c111 : SFun := ⟨(.seq (.reg [⟨(some 4), (.mv (.c (.int .i64 (0)))), none⟩]) (.seq (.seq (.reg [⟨(some 6), (.mv (.t 0)), none⟩, ⟨(some 7), (.len (.t 6)), none⟩, ⟨(some 8), (.mv (.c (.int .i64 (0)))), none⟩]) (.block 0 (.loop (.seq (.reg [⟨(some 9), (.bin .lss (.t 8) (.t 7)), none⟩]) (.seq (.cond (.t 9) .skip (.exit 0)) (.seq (.block 1 (.seq (.reg [⟨(some 10), (.mv (.t 8)), none⟩, ⟨(some 5), (.mv (.t 10)), none⟩]) (.seq (.reg [⟨(some 11), (.mv (.t 1)), none⟩, ⟨(some 12), (.mv (.t 0)), none⟩, ⟨(some 13), (.mv (.t 5)), none⟩, ⟨(some 14), (.idxA 1 (.t 12) (.t 13)), none⟩, ⟨(some 15), (.ld 1 false (.t 14)), none⟩, ⟨(some 16), (.bin .eql (.t 11) (.t 15)), none⟩]) (.cond (.t 16) (.seq (.reg [⟨(some 17), (.mv (.t 5)), none⟩, ⟨(some 4), (.mv (.t 17)), none⟩]) .ret) .skip)))) (.reg [⟨(some 18), (.bin .add (.t 8) (.c (.int .i64 (1)))), none⟩, ⟨(some 8), (.mv (.t 18)), none⟩]))))))) (.seq (.reg [⟨(some 4), (.mv (.c (.int .i64 (-1)))), none⟩]) .ret))), [(.tmp 4)]⟩
theorem hc111 : toSF Tryz.prog {} Tryz.f111 = some c111 := by kernel_rfl
theorem hn111 : (Tryz.f111.name == "runtime.NumGoroutine") = false := by kernel_rfl
theorem hasII_ok (l : List Int) (x : Int) (hl : l.length ≤ 1073741824) : PCalls (Pg G) 111 [sl eInt l, aInt x] (aInt (idxM (· == x) l)) := by
  intro h
  refine dcalls_of_vc Tryz.func111 hn111 hc111 (by rw [Tryz.ntmps111]; simp) (by rw [Tryz.ntmps111]; decide) ?_
  simp -dsimp -implicitDefEqProofs (disch := omega) only [VCA, ↓reduceIte, reduceCtorEq, c111]
  refine LoopVC.intro (fun m e h' => ∃ k : Nat, k ≤ l.length ∧ m = l.length - k ∧ e 0 = sl eInt l ∧ e 1 = aInt x ∧ e 7 = aInt l.length ∧ e 8 = aInt k ∧ h' = h ∧ ∀ j, j < k → (nth l j == x) = false) l.length ⟨0, by omega, by omega, rfl, rfl, rfl, rfl, rfl, fun j hj => absurd hj (Nat.not_lt_zero j)⟩ ?_
  rintro m e h' ⟨k, hk, rfl, he0, he1, he7, he8, rfl, hj⟩
  simp -dsimp -implicitDefEqProofs (disch := omega) only [VCA, ↓reduceIte, he7, he8]
  refine Br.dec (fun hlt => ?_) (fun hge => ?_)
  · simp -dsimp -implicitDefEqProofs (disch := omega) only [VCA, Nat.reduceEqDiff, ↓reduceIte, reduceCtorEq, eInt, he0, he1, he8]
    refine ⟨by omega, Br.eq (fun ht => ?_) (fun hf => ?_)⟩
    · simp -dsimp -implicitDefEqProofs (disch := omega) only [VCA, Nat.reduceEqDiff, ↓reduceIte, exists_eq_right_right]
      rw [idxM_some (k := k) (by omega) hj (by simp [ht])]; exact ⟨Sub.refl _, rfl⟩
    · simp -dsimp -implicitDefEqProofs (disch := omega) only [VCA, Nat.reduceEqDiff, ↓reduceIte, reduceCtorEq, he0, he1, he7, he8]
      refine ⟨_, ?_, k + 1, by omega, rfl, by omega, fun j hj' => ?_⟩
      · omega
      · by_cases h1 : j = k
        · subst h1; simpa using fun e => hf e.symm
        · exact hj j (by omega)
  · simp -dsimp -implicitDefEqProofs (disch := omega) only [VCA, ↓reduceIte, exists_eq_right_right]
    rw [idxM_none (fun j hj' => hj j (by omega))]; exact ⟨Sub.refl _, rfl⟩
def c75 : SFun := ⟨(.seq (.reg [⟨(some 4), (.mv (.c (.bool false))), none⟩]) (.seq (.reg [⟨(some 5), (.mv (.t 0)), none⟩, ⟨(some 6), (.mv (.t 1)), none⟩, ⟨(some 7), (.pcall 111 [(.t 5), (.t 6)]), none⟩, ⟨(some 8), (.bin .geq (.t 7) (.c (.int .i64 (0)))), none⟩, ⟨(some 4), (.mv (.t 8)), none⟩]) .ret)), [(.tmp 4)]⟩
theorem hc75 : toSF Tryz.prog {pure := [111]} Tryz.f75 = some c75 := by kernel_rfl
theorem hn75 : (Tryz.f75.name == "runtime.NumGoroutine") = false := by kernel_rfl
theorem hasI_ok (l : List Int) (x : Int) (hl : l.length ≤ 1073741824) : PCalls (Pg G) 75 [sl eInt l, aInt x] (.bool (l.any (· == x))) := by
  intro h
  refine dcalls_of_vc Tryz.func75 hn75 hc75 (by rw [Tryz.ntmps75]; simp) (by rw [Tryz.ntmps75]; decide) ?_
  simp -dsimp -implicitDefEqProofs (disch := omega) only [VCA, Nat.reduceEqDiff, ↓reduceIte, reduceCtorEq, c75]
  refine pcallE.of (hasII_ok l x hl) ?_; simp -dsimp -implicitDefEqProofs (disch := omega) only [VCA, ↓reduceIte, exists_eq_right_right]
  exact ⟨Sub.refl _, idxM_any _ l⟩
end Go.Proofs.K
end
section
/- Ways through a tree: check, Step; the reference. -/
set_option linter.unusedSimpArgs false
set_option linter.unusedVariables false
namespace Go.Proofs.K
open Go Go.Sim Go.Proofs
variable {G : Glob}
theorem eDoc_len (d : HDoc) : (eDoc d).length = 2 := rfl
theorem eDoc_take (d : HDoc) : (eDoc d).take 2 = eDoc d := rfl
theorem docE_DV {d : HDoc} (h : docE d = 0) : DV d := (docE_iff d).1 h
end Go.Proofs.K
end
section
/- Ways through a tree: the reference's WalkStep; Common; what must be in any case. -/
set_option linter.unusedSimpArgs false
set_option linter.unusedVariables false
namespace Go.Proofs.K
open Go Go.Sim Go.Proofs
variable {G : Glob}
section
variable {d : HDoc} {n : Int} {A B : List Int}
end
/-! ## the common node -/
/-- a result's weaker reading -/
theorem DCalls.res {P : PG} {f : Nat} {args : List AVal} {h : Heap} {K K' : AVal → Heap → Prop} (hd : DCalls P f args h K) (hk : ∀ a h', K a h' → ∃ b, Wk a b ∧ K' b h') : DCalls P f args h K' :=
  ⟨hd.1, fun g w vs H GR V => (hd.2 g w vs H GR V).mono fun e w' ⟨v', a, h', g', he, k0, H', Va, S⟩ => by
    obtain ⟨b, hb, k1⟩ := hk a h' k0
    exact ⟨v', b, h', g', he, k1, H', hb.rel Va, S⟩⟩
end Go.Proofs.K
end
section
/- Ways through a tree: the law of Step. -/
set_option linter.unusedSimpArgs false
set_option linter.unusedVariables false
namespace Go.Proofs.K
open Go Go.Sim Go.Proofs
variable {G : Glob}
end Go.Proofs.K
end
section
/- Ways through a tree: pairs of nodes, plain law. -/
set_option linter.unusedSimpArgs false
set_option linter.unusedVariables false
namespace Go.Proofs.K
open Go Go.Sim Go.Proofs
section
variable {d : HDoc}
def path (d : HDoc) (n : Int) : List Int := (chain d n).reverse
theorem path_len (V : DV d) {n : Int} (hn : inD d n) : (path d n).length = up d n + 1 := by unfold path; rw [List.length_reverse, chain_len V n hn]
theorem path_up (V : DV d) {n : Int} (hn : inD d n) (hp : 0 ≤ (nd d n).parent) : path d n = path d (nd d n).parent ++ [n] := by unfold path; rw [chain_up V hn hp, List.reverse_cons]
theorem path_top (V : DV d) {n : Int} (hp : ¬ 0 ≤ (nd d n).parent) : path d n = [n] := by unfold path; rw [chain_top V hp]; rfl
theorem nth_snoc_lt {l : List Int} {x : Int} {j : Nat} (h : j < l.length) : nth (l ++ [x]) j = nth l j := by
  unfold nth; rw [List.getD_eq_getElem?_getD, List.getElem?_append_left h, ← List.getD_eq_getElem?_getD]
theorem nth_snoc_eq {l : List Int} {x : Int} : nth (l ++ [x]) l.length = x := by simp [nth, List.getD_eq_getElem?_getD]
theorem path_at (V : DV d) : ∀ n, inD d n → ∀ j, j ≤ up d n → nth (path d n) j ∈ chain d n ∧ up d (nth (path d n) j) = j := V.rise fun n hn ih j hj => by
  by_cases hp : 0 ≤ (nd d n).parent
  · have hu := V.up_par hn hp
    have hl := path_len V (V.par_in hn hp).1
    rw [path_up V hn hp]
    by_cases h1 : j = up d n
    · have : j = (path d (nd d n).parent).length := by omega
      rw [this, nth_snoc_eq]; exact ⟨chain_self _ _, by omega⟩
    · obtain ⟨h2, h3⟩ := ih hp j (by omega)
      rw [nth_snoc_lt (by omega)]
      exact ⟨by rw [chain_up V hn hp]; exact List.mem_cons_of_mem _ h2, h3⟩
  · have hu := V.up_top hp
    obtain rfl : j = 0 := by omega
    rw [path_top V hp]; exact ⟨chain_self _ _, hu⟩
/-- where the ways down to two nodes part -/
structure Part (d : HDoc) (a b : Int) (i : Nat) : Prop where
  pos : 1 ≤ i
  la : i ≤ (path d a).length
  lb : i ≤ (path d b).length
  eq : ∀ j, j < i → nth (path d a) j = nth (path d b) j
  ne : ¬ (i < (path d a).length ∧ i < (path d b).length ∧ nth (path d a) i = nth (path d b) i)
variable {a b : Int} {i : Nat}
theorem Part.node (V : DV d) (ha : inD d a) (hb : inD d b) (p : Part d a b i) : nth (path d a) (i - 1) ∈ chain d a ∧ nth (path d a) (i - 1) ∈ chain d b ∧ up d (nth (path d a) (i - 1)) = i - 1 := by
  have h1 := path_at V a ha (i - 1) (by have := p.la; rw [path_len V ha] at this; omega)
  have h2 := path_at V b hb (i - 1) (by have := p.lb; rw [path_len V hb] at this; omega)
  exact ⟨h1.1, by rw [p.eq _ (by have := p.pos; omega)]; exact h2.1, h1.2⟩
end
end Go.Proofs.K
end
section
/- Ways through a tree: Before, Within, Common, Place. -/
set_option linter.unusedSimpArgs false
set_option linter.unusedVariables false
namespace Go.Proofs.K
open Go Go.Sim Go.Proofs
variable {G : Glob}
end Go.Proofs.K
end
section
/- Ways through a tree: the law of pairs. -/
set_option linter.unusedSimpArgs false
set_option linter.unusedVariables false
namespace Go.Proofs.K
open Go Go.Sim Go.Proofs
variable {G : Glob}
end Go.Proofs.K
end
section
/- Numbers compared: cmp.Compare. -/
set_option linter.unusedSimpArgs false
set_option linter.unusedVariables false
namespace Go.Proofs.K
open Go Go.Sim Go.Proofs
variable {G : Glob}
end Go.Proofs.K
end
section
/- Ranges: paths of points, their order. -/
set_option linter.unusedSimpArgs false
set_option linter.unusedVariables false
namespace Go.Proofs.K
open Go Go.Sim Go.Proofs
variable {G : Glob}
structure HPoint where
  node : Int
  at' : Int
deriving DecidableEq, Inhabited
def eP (p : HPoint) : List AVal := [aInt p.node, aInt p.at']
instance : LenE eP 2 := ⟨fun _ => rfl⟩
structure HSpan where
  a : HPoint
  b : HPoint
deriving DecidableEq, Inhabited
def eS (s : HSpan) : List AVal := [aInt s.a.node, aInt s.a.at', aInt s.b.node, aInt s.b.at']
instance : LenE eS 4 := ⟨fun _ => rfl⟩
theorem drop_cons' {l : List Int} {i : Nat} (h : i < l.length) : l.drop i = nth l i :: l.drop (i + 1) := by
  have : nth l i = l[i] := by unfold nth; rw [List.getD_eq_getElem?_getD, List.getElem?_eq_getElem h]; rfl
  rw [this, List.getElem_cons_drop]
end Go.Proofs.K
end
section
/- Ranges: points, spans: contracts. -/
set_option linter.unusedSimpArgs false
set_option linter.unusedVariables false
namespace Go.Proofs.K
open Go Go.Sim Go.Proofs
variable {G : Glob}
/-- the way down to a node, from below: which kid each one is -/
def rkey (d : HDoc) (n : Int) : List Int := ((chain d n).filter (fun m => decide (0 < m))).map fun m => 2 * idxM (· == m) (nd d (nd d m).parent).kids + 1
section
variable {d : HDoc}
end
end Go.Proofs.K
end
section
/- Ranges: the order of points, plain law. -/
set_option linter.unusedSimpArgs false
set_option linter.unusedVariables false
namespace Go.Proofs.K
open Go Go.Sim Go.Proofs
/-! ## lists by their order -/
/-! ## all points of a tree, in their order -/
section
variable {d : HDoc}
def pre (d : HDoc) (n : Int) : List Int := (rkey d n).reverse
end
end Go.Proofs.K
end
section
/- Ranges: order, points, span, Check, Less; the reference's errors. -/
set_option linter.unusedSimpArgs false
set_option linter.unusedVariables false
namespace Go.Proofs.K
open Go Go.Sim Go.Proofs
variable {G : Glob}
end Go.Proofs.K
end
section
/- Ranges: the reference's marks, SpanErr. -/
set_option linter.unusedSimpArgs false
set_option linter.unusedVariables false
namespace Go.Proofs.K
open Go Go.Sim Go.Proofs
variable {G : Glob}
end Go.Proofs.K
end
section
/- Ranges: the tree's order, as a list. -/
set_option linter.unusedSimpArgs false
set_option linter.unusedVariables false
namespace Go.Proofs.K
open Go Go.Sim Go.Proofs
variable {G : Glob}
def c110 : SFun := ⟨(.seq (.reg [⟨(some 3), (.boxF 36 2 (.t 0)), none⟩, ⟨(some 6), (.mv (.c .emp)), none⟩]) (.seq (.reg [⟨(some 9), (.mv (.t 2)), none⟩, ⟨(some 10), (.mv (.t 1)), none⟩, ⟨(some 11), (.bldF 3 1 [(.t 10)]), none⟩, ⟨(some 12), (.app 3 1 8 (.t 9) (.t 11)), none⟩, ⟨(some 2), (.mv (.t 12)), none⟩]) (.seq (.seq (.reg [⟨(some 13), (.fldA 0 (.t 3)), none⟩, ⟨(some 14), (.ld 1 false (.t 13)), none⟩, ⟨(some 15), (.mv (.t 1)), none⟩, ⟨(some 16), (.idxA 6 (.t 14) (.t 15)), none⟩, ⟨(some 17), (.fldA 5 (.t 16)), none⟩, ⟨(some 18), (.ld 1 false (.t 17)), none⟩, ⟨(some 19), (.len (.t 18)), none⟩, ⟨(some 20), (.mv (.c (.int .i64 (0)))), none⟩]) (.block 0 (.loop (.seq (.reg [⟨(some 21), (.bin .lss (.t 20) (.t 19)), none⟩]) (.seq (.cond (.t 21) .skip (.exit 0)) (.seq (.block 1 (.seq (.reg [⟨(some 22), (.idxA 1 (.t 18) (.t 20)), none⟩, ⟨(some 23), (.ld 1 false (.t 22)), none⟩, ⟨(some 8), (.mv (.t 23)), none⟩]) (.reg [⟨(some 24), (.ld 2 true (.t 3)), none⟩, ⟨(some 25), (.mv (.t 8)), none⟩, ⟨(some 26), (.mv (.t 2)), none⟩, ⟨(some 27), (.call (.c (.fn 110 [] [])) [(.t 24), (.t 25), (.t 26)]), none⟩, ⟨(some 2), (.mv (.t 27)), none⟩]))) (.reg [⟨(some 28), (.bin .add (.t 20) (.c (.int .i64 (1)))), none⟩, ⟨(some 20), (.mv (.t 28)), none⟩]))))))) (.seq (.reg [⟨(some 29), (.mv (.t 2)), none⟩, ⟨(some 6), (.mv (.t 29)), none⟩]) .ret)))), [(.tmp 6)]⟩
theorem hc110 : toSF Tryz.prog {} Tryz.f110 = some c110 := by kernel_rfl
theorem hn110 : (Tryz.f110.name == "runtime.NumGoroutine") = false := by kernel_rfl
theorem walk_ok (d : HDoc) (V : DV d) (sm : DocSm d) : ∀ n, inD d n → ∀ (h h1 : Heap) (L : List Int) (a : AVal), Acc h 3 1 (L.map eInt) a h1 → Sim.Sub h h1 → L.length + (below d n).length ≤ 1000000 →
    DCalls (Pg G) 110 [.agg (eDoc d), aInt n, a] h1 fun r h2 => Acc h 3 1 ((L ++ below d n).map eInt) r h2 ∧ Sim.Sub h h2 := V.down fun n hn ih h h1 L a A S hL => by
  have hl := V.len
  have n0 := hn.1
  have n1 := hn.2
  have e0 : nth d.nodes n.toNat = nd d n := rfl
  have kl := (sm.nd n).kids
  have bl := below_len V hn
  have be := below_eq V hn
  refine dcalls_of_vc Tryz.func110 hn110 hc110 (by rw [Tryz.ntmps110]; simp) (by rw [Tryz.ntmps110]; decide) ?_
  simp -dsimp -implicitDefEqProofs (disch := omega) only [VCA, Nat.reduceEqDiff, Nat.reduceAdd, ↓reduceIte, okParts, forall_eq, exists_eq_left, c110, eDoc]
  refine A.app S (by simp only [List.length_map, List.length_cons, List.length_nil]; omega) (by simp only [List.length_map, List.length_cons, List.length_nil]; omega) fun a2 h2 A2 S2 => ?_
  simp -dsimp -implicitDefEqProofs (disch := omega) only [VCA, Nat.reduceEqDiff, Nat.reduceAdd, Nat.reduceLeDiff, ↓reduceIte, eNode, e0]
  refine ⟨by omega, ?_⟩
  have A0 : Acc h 3 1 ((L ++ n :: ((nd d n).kids.take 0).flatMap (below d)).map eInt) a2 h2 := by simpa [eInt] using A2
  have bel : (below d n).length = 1 + ((nd d n).kids.flatMap (below d)).length := by rw [be, List.length_cons]; omega
  refine LoopVC.intro (fun m e h' => ∃ k : Nat, k ≤ (nd d n).kids.length ∧ m = (nd d n).kids.length - k ∧ e 3 = .pin (eDoc d) ∧ e 18 = sl eInt (nd d n).kids ∧ e 19 = aInt (nd d n).kids.length ∧ e 20 = aInt k ∧ Acc h 3 1 ((L ++ n :: ((nd d n).kids.take k).flatMap (below d)).map eInt) (e 2) h' ∧ Sim.Sub h h') _ ⟨0, by omega, rfl, rfl, rfl, rfl, rfl, A0, S2⟩ ?_
  clear A0 A2 S2 A S
  rintro m e h' ⟨k, hk, rfl, he3, he18, he19, he20, A, S⟩
  simp -dsimp -implicitDefEqProofs (disch := omega) only [VCA, ↓reduceIte, he19, he20]
  refine Br.dec (fun hlt => ?_) (fun hge => ?_)
  · have hk' : k < (nd d n).kids.length := by omega
    have hfl : (((nd d n).kids.take (k + 1)).flatMap (below d)).length ≤ ((nd d n).kids.flatMap (below d)).length := by
      conv => rhs; rw [← List.take_append_drop (k + 1) (nd d n).kids, List.flatMap_append, List.length_append]
      omega
    rw [take_snoc hk', List.flatMap_append, List.length_append] at hfl
    simp only [List.flatMap_cons, List.flatMap_nil, List.append_nil] at hfl
    have hI := ih _ (nth_mem' hk') h h' (L ++ n :: ((nd d n).kids.take k).flatMap (below d)) (e 2) A S (by rw [List.length_append, List.length_cons]; omega)
    simp -dsimp -implicitDefEqProofs (disch := omega) only [VCA, Nat.reduceEqDiff, ↓reduceIte, eInt, he3, he18, he20, eDoc_len, eDoc_take]
    refine ⟨by omega, ?_⟩
    refine DCalls.of hI ?_
    rintro r h3 ⟨A3, S3⟩
    have A4 : Acc h 3 1 ((L ++ n :: ((nd d n).kids.take (k + 1)).flatMap (below d)).map eInt) r h3 := by
      rw [take_snoc hk', List.flatMap_append]
      simpa using A3
    simp -dsimp -implicitDefEqProofs (disch := omega) only [VCA, Nat.reduceEqDiff, ↓reduceIte, he3, he18, he19, he20]
    exact ⟨_, by omega, k + 1, by omega, rfl, by omega, A4, S3⟩
  · obtain rfl : k = (nd d n).kids.length := by omega
    rw [List.take_length, ← be] at A
    simp -dsimp -implicitDefEqProofs (disch := omega) only [VCA, Nat.reduceEqDiff, ↓reduceIte]
    exact ⟨_, Sub.refl _, A, S⟩
theorem walk0_ok (d : HDoc) (V : DV d) (sm : DocSm d) (n : Int) (hn : inD d n) : PCalls (Pg G) 110 [.agg (eDoc d), aInt n, .emp] (sl eInt (below d n)) := PCalls.acc (ty := 3) (sz := 1) fun h =>
  (walk_ok (G := G) d V sm n hn h h [] .emp .nil (Sub.refl _) (by have := below_len V hn; have := V.len; simp; omega)).mono fun r h' hh => by rw [List.nil_append] at hh; exact hh
def c74 : SFun := ⟨(.seq (.reg [⟨(some 1), (.boxF 36 2 (.t 0)), none⟩, ⟨(some 2), (.mv (.c .emp)), none⟩, ⟨(some 3), (.mv (.c (.int .i64 (0)))), none⟩]) (.seq (.seq (.reg [⟨(some 5), (.ld 2 true (.t 1)), none⟩, ⟨(some 6), (.pcall 109 [(.t 5)]), none⟩, ⟨(some 4), (.mv (.t 6)), none⟩]) (.seq (.reg [⟨(some 7), (.mv (.t 4)), none⟩, ⟨(some 8), (.bin .neq (.t 7) (.c (.int .i64 (0)))), none⟩]) (.cond (.t 8) (.seq (.reg [⟨(some 9), (.mv (.t 4)), none⟩, ⟨(some 2), (.mv (.c .emp)), none⟩, ⟨(some 3), (.mv (.t 9)), none⟩]) .ret) .skip))) (.seq (.reg [⟨(some 10), (.ld 2 true (.t 1)), none⟩, ⟨(some 11), (.pcall 110 [(.t 10), (.c (.int .i64 (0))), (.c .emp)]), none⟩, ⟨(some 2), (.mv (.t 11)), none⟩, ⟨(some 3), (.mv (.c (.int .i64 (0)))), none⟩]) .ret))), [(.tmp 2), (.tmp 3)]⟩
theorem hc74 : toSF Tryz.prog {pure := [109, 110]} Tryz.f74 = some c74 := by kernel_rfl
theorem hn74 : (Tryz.f74.name == "runtime.NumGoroutine") = false := by kernel_rfl
theorem domOrder_ok (d : HDoc) (V : DV d) (h0 : docE d = 0) (sm : DocSm d) : PCalls (Pg G) 74 [.agg (eDoc d)] (.tup [sl eInt (below d 0), aInt 0]) := fun h => by
  have hC := check_ok (G := G) d sm
  have hW := walk0_ok (G := G) d V sm 0 V.zero
  rw [h0] at hC
  refine dcalls_of_vc Tryz.func74 hn74 hc74 (by rw [Tryz.ntmps74]; simp) (by rw [Tryz.ntmps74]; decide) ?_
  simp -dsimp -implicitDefEqProofs (disch := omega) only [VCA, Nat.reduceEqDiff, ↓reduceIte, c74, eDoc_len, eDoc_take]
  repeat' (first | ((with_reducible refine Br.dec (fun _ => ?_) (fun _ => ?_)) <;> try (exfalso; omega)) | ((with_reducible refine Br.eq (fun _ => ?_) (fun _ => ?_)) <;> try (exfalso; omega)) | ((with_reducible refine Br.ne (fun _ => ?_) (fun _ => ?_)) <;> try (exfalso; omega)) | ((with_reducible refine brNdec (fun _ => ?_) (fun _ => ?_)) <;> try (exfalso; omega)) | ((with_reducible refine brNeq (fun _ => ?_) (fun _ => ?_)) <;> try (exfalso; omega)) | with_reducible refine Br.intro (fun _ => ?_) (fun _ => ?_) | (with_reducible apply pcallE.of; · exact hC) | (with_reducible apply pcallE.of; · exact hW) | (with_reducible refine And.intro ?_ ?_; · omega) | simp -dsimp -implicitDefEqProofs (disch := omega) only [VCA, Nat.reduceEqDiff, ↓reduceIte, exists_eq_right, eDoc_len, eDoc_take])
  all_goals exact Sub.refl _
end Go.Proofs.K
end
section
/- Asking a document: order, way, attributes. -/
set_option linter.unusedSimpArgs false
set_option linter.unusedVariables false
namespace Go.Proofs.K
open Go Go.Sim Go.Proofs
variable {G : Glob}
def orderD (d : HDoc) : List Int := if docE d = 0 then below d 0 else []
theorem order2_ok (d : HDoc) (sm : DocSm d) : PCalls (Pg G) 74 [.agg (eDoc d)] (.tup [sl eInt (orderD d), aInt (docE d)]) := by
  by_cases h1 : docE d = 0
  · have h := domOrder_ok (G := G) d (docE_DV h1) h1 sm
    unfold orderD
    rw [if_pos h1, h1]
    exact h
  · intro h
    have hC := check_ok (G := G) d sm
    refine DCalls.res (K := fun a h' => a = .tup [.emp, aInt (docE d)] ∧ h' = h) ?_ ?_
    · refine dcalls_of_vc Tryz.func74 hn74 hc74 (by rw [Tryz.ntmps74]; simp) (by rw [Tryz.ntmps74]; decide) ?_
      simp -dsimp -implicitDefEqProofs (disch := omega) only [VCA, Nat.reduceEqDiff, ↓reduceIte, c74, eDoc_len, eDoc_take]
      repeat' (first | ((with_reducible refine Br.dec (fun _ => ?_) (fun _ => ?_)) <;> try (exfalso; omega)) | ((with_reducible refine Br.eq (fun _ => ?_) (fun _ => ?_)) <;> try (exfalso; omega)) | ((with_reducible refine Br.ne (fun _ => ?_) (fun _ => ?_)) <;> try (exfalso; omega)) | ((with_reducible refine brNdec (fun _ => ?_) (fun _ => ?_)) <;> try (exfalso; omega)) | ((with_reducible refine brNeq (fun _ => ?_) (fun _ => ?_)) <;> try (exfalso; omega)) | with_reducible refine Br.intro (fun _ => ?_) (fun _ => ?_) | (with_reducible apply pcallE.of; · exact hC) | (with_reducible refine And.intro ?_ ?_; · omega) | simp -dsimp -implicitDefEqProofs (disch := omega) only [VCA, Nat.reduceEqDiff, ↓reduceIte, exists_eq_right])
      all_goals exact Sub.refl _
    · rintro a h' ⟨rfl, rfl⟩
      exact ⟨_, Wk.tup' (.cons (by unfold orderD; rw [if_neg h1]; exact .emp) (.cons (.refl _) .nil)), rfl, rfl⟩
/-! ## text -/
/-- the letters of texts among nodes -/
def lettersM (d : HDoc) (l : List Int) : List UInt8 := l.flatMap fun k => if (nd d k).kind = 3 then (nd d k).text else []
theorem letters_len {d : HDoc} (V : DV d) : ∀ l : List Int, (∀ k ∈ l, inD d k) → (lettersM d l).length ≤ 400 * l.length
  | [], _ => by simp [lettersM]
  | n :: l, h => by
    have ih := letters_len V l fun k hk => h k (List.mem_cons_of_mem _ hk)
    have h1 := ((nodeE_iff _).1 (V.node n (h n List.mem_cons_self))).2.2.2.2.1
    have h2 : (if (nd d n).kind = 3 then (nd d n).text else []).length ≤ 400 := by split; exact h1; simp
    unfold lettersM at *
    rw [List.flatMap_cons, List.length_append, List.length_cons]
    omega
theorem bare_kids {d : HDoc} (V : DV d) {n : Int} (hn : inD d n) (hk : 2 < (nd d n).kind) : (nd d n).kids = [] := by
  have hb := ((nodeE_iff _).1 (V.node n hn)).2.1
  unfold bareM at hb
  apply Classical.byContradiction
  intro h
  simp only [Bool.and_eq_true, Bool.or_eq_true, decide_eq_true_eq] at hb
  revert hb
  simp [h]
  omega
theorem letters_app (d : HDoc) (l m : List Int) : lettersM d (l ++ m) = lettersM d l ++ lettersM d m := by unfold lettersM; rw [List.flatMap_append]
theorem letters_one {d : HDoc} (V : DV d) {n : Int} (hn : inD d n) (hk : 2 < (nd d n).kind) : lettersM d (below d n) = if (nd d n).kind = 3 then (nd d n).text else [] := by
  rw [below_eq V hn, bare_kids V hn hk]
  simp [lettersM]
end Go.Proofs.K
end
section
/- Library functions on strings: Join. -/
set_option linter.unusedSimpArgs false
set_option linter.unusedVariables false
namespace Go.Proofs.K
open Go Go.Sim Go.Proofs
variable {G : Glob}
theorem strBA_map (xs : List (List UInt8)) : (xs.map fun x => (⟨⟨x⟩⟩ : ByteArray)).map (·.data.toList) = xs := by
  rw [List.map_map]; exact List.map_id' _
theorem libJoin_ok (xs : List (List UInt8)) (sep : List UInt8) (hN : xs.length ≤ 100000) (hl : (Lib.join xs sep).length ≤ 100000000) : PCalls (Pg G) 24 [sl eStr xs, .str sep] (.str (Lib.join xs sep)) := by
  refine ofBelow ⟨_, Tryz.func24, by kernel_rfl, by kernel_rfl⟩ fun g w vs GR V => ?_
  obtain ⟨u, v, rfl, hu, hv⟩ := V.two_inv
  rw [hv.str_inv']
  obtain ⟨A, c, rfl, hin⟩ := VRel.slc_inv (es := xs.map eStr) hu
  by_cases h0 : xs = []
  · subst h0
    exact (Tryz.strings_Join_none A c ⟨⟨sep⟩⟩ w).mono fun e w' ⟨he, hw⟩ => ⟨_, he, by rw [hw]; exact RowKit.Below.refl _ _, fun g w => VRel.str_mk g w _⟩
  · have hp : 0 < (xs.map eStr).length := by rw [List.length_map]; exact List.length_pos_iff.2 h0
    obtain ⟨hc, ad, sz, rfl, hs, hf, hsz, hcell⟩ := hin hp
    obtain ⟨bk, o, sp⟩ := ad
    have hs : sp = none := hs
    subst hs
    have h1 : sz = 1 := by
      have := hsz ((xs.map eStr)[0]) (List.getElem_mem hp)
      rw [← this, List.getElem_map]; rfl
    subst h1
    have cells : ∀ (j : Nat) (x : ByteArray), (xs.map fun x => (⟨⟨x⟩⟩ : ByteArray))[j]? = some x → w.cell? ⟨bk, o + j, none⟩ = some (.string x) := fun j x hx => by
      rw [List.getElem?_map, Option.map_eq_some_iff] at hx
      obtain ⟨y, hy, rfl⟩ := hx
      obtain ⟨u, q1, q2, q3⟩ := hcell j 0 (eStr y) (.str y) (by rw [List.getElem?_map, hy]; rfl) rfl
      rw [q3.str_inv', Addr.add_lit] at q1
      rw [← q1]; congr 2; omega
    have hbk : bk < w.heap.size := by
      obtain ⟨u, q1, _⟩ := hcell 0 0 (eStr (nth xs 0)) (.str (nth xs 0)) (by rw [List.getElem?_map, nth_some (List.length_pos_iff.2 h0)]; rfl) rfl
      rw [Addr.add_lit] at q1
      refine Classical.byContradiction fun hc => ?_
      have hn : w.heap[bk]? = none := Array.getElem?_eq_none (by omega)
      simp [World.cell?, hn] at q1
    have hj := Tryz.strings_Join bk o c (xs.map fun x => (⟨⟨x⟩⟩ : ByteArray)) ⟨⟨sep⟩⟩ w cells hbk (by rw [List.length_map]; omega) (by rw [List.length_map]; rw [List.length_map] at hc; exact hc) (by rw [strBA_map]; show (Lib.join xs sep).length ≤ _; omega)
    rw [strBA_map, List.length_map] at hj
    rw [List.length_map]
    exact hj.mono fun e w' ⟨he, hw⟩ => ⟨_, he, hw, fun g w => VRel.str_mk g w _⟩
theorem join_is : ∀ xs : List (List UInt8), Lib.join xs [38] = joinM xs
  | [] => rfl
  | [x] => Lib.join_one x [38]
  | x :: y :: r => by
    have h := join_is (y :: r)
    unfold Lib.join at h ⊢
    rw [joinM, ← h]
    simp [List.intercalate, List.intersperse]
end Go.Proofs.K
end
section
/- Codes of forms: entries encoded. -/
set_option linter.unusedSimpArgs false
set_option linter.unusedVariables false
namespace Go.Proofs.K
open Go Go.Sim Go.Proofs Go.Shelf
variable {G : Glob}
structure EntSm (x : HEnt) : Prop where
  name : x.name.length ≤ 1000
  value : x.value.length ≤ 1000
theorem pairM_len {x : HEnt} (h : EntSm x) : (pairM x).length ≤ 6001 := by
  have h1 := encF_len x.name
  have h2 := encF_len x.value
  have h3 := h.name
  have h4 := h.value
  unfold pairM
  rw [List.length_append, List.length_cons]; omega
theorem joinM_len : ∀ l : List (List UInt8), (∀ x ∈ l, x.length ≤ 6001) → (joinM l).length ≤ 6002 * l.length
  | [], _ => Nat.le_refl _
  | [x], h => by have := h x List.mem_cons_self; simp only [joinM, List.length_cons, List.length_nil]; omega
  | x :: y :: r, h => by
    have h1 := h x List.mem_cons_self
    have h2 := joinM_len (y :: r) fun z hz => h z (List.mem_cons_of_mem _ hz)
    rw [joinM, List.length_append]
    simp only [List.length_cons] at h2 ⊢
    omega
theorem joinM_snoc (x : List UInt8) : ∀ l : List (List UInt8), joinM (l ++ [x]) = if l = [] then x else joinM l ++ 38 :: x
  | [] => rfl
  | [y] => rfl
  | y :: z :: r => by
    have h := joinM_snoc x (z :: r)
    rw [if_neg (by simp)] at h
    rw [if_neg (by simp)]
    show joinM (y :: z :: (r ++ [x])) = _
    rw [joinM, show z :: (r ++ [x]) = (z :: r) ++ [x] from rfl, h, joinM, List.append_assoc]; rfl
def c7 : SFun := ⟨(.seq (.reg [⟨(some 2), (.mv (.c (.str []))), none⟩, ⟨(some 3), (.mv (.c (.int .i64 (0)))), none⟩]) (.seq (.seq (.reg [⟨(some 8), (.mv (.t 0)), none⟩, ⟨(some 9), (.len (.t 8)), none⟩, ⟨(some 10), (.bin .gtr (.t 9) (.c (.int .i64 (100)))), none⟩]) (.cond (.t 10) (.seq (.reg [⟨(some 2), (.mv (.c (.str []))), none⟩, ⟨(some 3), (.mv (.c (.int .i64 (2)))), none⟩]) .ret) .skip)) (.seq (.reg [⟨(some 4), (.mv (.c .emp)), none⟩]) (.seq (.seq (.reg [⟨(some 11), (.mv (.t 0)), none⟩, ⟨(some 12), (.len (.t 11)), none⟩, ⟨(some 13), (.mv (.c (.int .i64 (0)))), none⟩]) (.block 0 (.loop (.seq (.reg [⟨(some 14), (.bin .lss (.t 13) (.t 12)), none⟩]) (.seq (.cond (.t 14) .skip (.exit 0)) (.seq (.block 1 (.seq (.reg [⟨(some 15), (.idxA 2 (.t 11) (.t 13)), none⟩, ⟨(some 16), (.ld 2 true (.t 15)), none⟩, ⟨(some 6), (.new 25 2 [(.str []), (.str [])]), none⟩, ⟨none, (.st 2 (.t 6) (.t 16)), none⟩]) (.dreg [(⟨(some 17), (.mv (.t 4)), none⟩, none), (⟨(some 18), (.fldA 0 (.t 6)), none⟩, none), (⟨(some 19), (.ld 1 false (.t 18)), none⟩, none), (⟨(some 20), (.pcall 23 [(.t 19)]), none⟩, none), (⟨(some 21), (.bin .add (.t 20) (.c (.str [61]))), none⟩, none), (⟨(some 22), (.fldA 1 (.t 6)), none⟩, none), (⟨(some 23), (.ld 1 false (.t 22)), none⟩, none), (⟨(some 24), (.pcall 23 [(.t 23)]), none⟩, none), (⟨(some 25), (.bin .add (.t 21) (.t 24)), none⟩, none), (⟨(some 26), (.bldF 9 1 [(.t 25)]), none⟩, none), (⟨(some 27), (.app 9 1 16 (.t 17) (.t 26)), none⟩, (some [23, 19])), (⟨(some 4), (.mv (.t 27)), none⟩, (some [23, 19]))]))) (.reg [⟨(some 28), (.bin .add (.t 13) (.c (.int .i64 (1)))), none⟩, ⟨(some 13), (.mv (.t 28)), none⟩]))))))) (.seq (.reg [⟨(some 29), (.frz (.t 4)), none⟩, ⟨(some 30), (.pcall 24 [(.t 29), (.c (.str [38]))]), none⟩, ⟨(some 7), (.mv (.t 30)), none⟩]) (.seq (.seq (.reg [⟨(some 31), (.mv (.t 7)), none⟩, ⟨(some 32), (.lenS (.t 31)), none⟩, ⟨(some 33), (.bin .gtr (.t 32) (.c (.int .i64 (4000)))), none⟩]) (.cond (.t 33) (.seq (.reg [⟨(some 2), (.mv (.c (.str []))), none⟩, ⟨(some 3), (.mv (.c (.int .i64 (2)))), none⟩]) .ret) .skip)) (.seq (.reg [⟨(some 34), (.mv (.t 7)), none⟩, ⟨(some 2), (.mv (.t 34)), none⟩, ⟨(some 3), (.mv (.c (.int .i64 (0)))), none⟩]) .ret))))))), [(.tmp 2), (.tmp 3)]⟩
theorem hc7 : toSF Tryz.prog {pure := [23, 24], how := [(29, 8)]} Tryz.f7 = some c7 := by kernel_rfl
theorem hn7 : (Tryz.f7.name == "runtime.NumGoroutine") = false := by kernel_rfl
theorem _root_.Go.Sim.Acc.frz {h0 h' : Heap} {ty : TypeId} {sz : Nat} {cells : List (List AVal)} {a : AVal} {K : AVal → Heap → Prop} (A : Acc h0 ty sz cells a h') (S : Sim.Sub h0 h') (hk : ∀ h'', Sim.Sub h0 h'' → K (.slc cells) h'') : Hd (frzE a h') K .mk := by
  rcases A with ⟨rfl, rfl⟩ | ⟨r, q0, q1, rfl⟩
  · exact hk _ S
  · refine ⟨_, q1, by simp, ?_⟩
    have e : ((cells.drop 0).take cells.length) = cells := by simp
    show K (.slc ((cells.drop 0).take cells.length)) (del h' r)
    rw [e]
    exact hk _ (S.del q0)
set_option maxHeartbeats 2000000 in
theorem fEncode_ok (l : List HEnt) (hl : l.length ≤ 1000) (hs : ∀ x ∈ l, EntSm x) : PCalls (Pg G) 7 [sl eEnt l] (.tup [.str (coded l).1, aInt (coded l).2]) := fun h => by
  unfold coded
  by_cases h1 : 100 < l.length
  · have d1 : decide ((100 : Int) < (l.length : Int)) = true := decide_eq_true (by omega)
    rw [if_pos h1]
    refine dcalls_of_vc Tryz.func7 hn7 hc7 (by rw [Tryz.ntmps7]; simp) (by rw [Tryz.ntmps7]; decide) ?_
    simp -dsimp -implicitDefEqProofs (disch := omega) only [VCA, ↓reduceIte, reduceCtorEq, c7]
    repeat' (first | ((with_reducible refine Br.dec (fun _ => ?_) (fun _ => ?_)) <;> try (exfalso; omega)) | ((with_reducible refine Br.eq (fun _ => ?_) (fun _ => ?_)) <;> try (exfalso; omega)) | ((with_reducible refine Br.ne (fun _ => ?_) (fun _ => ?_)) <;> try (exfalso; omega)) | ((with_reducible refine brNdec (fun _ => ?_) (fun _ => ?_)) <;> try (exfalso; omega)) | ((with_reducible refine brNeq (fun _ => ?_) (fun _ => ?_)) <;> try (exfalso; omega)) | with_reducible refine Br.intro (fun _ => ?_) (fun _ => ?_) | (with_reducible refine And.intro ?_ ?_; · omega) | simp -dsimp -implicitDefEqProofs (disch := omega) only [VCA, Nat.reduceEqDiff, ↓reduceIte, exists_eq_right, d1])
    all_goals exact Sub.refl _
  · have d1 : decide ((100 : Int) < (l.length : Int)) = false := decide_eq_false (by omega)
    rw [if_neg h1]
    have hjl := joinM_len (l.map pairM) fun x hx => by
      obtain ⟨y, hy, rfl⟩ := List.mem_map.1 hx
      exact pairM_len (hs y hy)
    rw [List.length_map] at hjl
    have hji := join_is (l.map pairM)
    have cJ := libJoin_ok (G := G) (l.map pairM) [38] (by rw [List.length_map]; omega) (by rw [hji]; omega)
    rw [hji] at cJ
    refine dcalls_of_vc Tryz.func7 hn7 hc7 (by rw [Tryz.ntmps7]; simp) (by rw [Tryz.ntmps7]; decide) ?_
    simp -dsimp -implicitDefEqProofs (disch := omega) only [VCA, ↓reduceIte, reduceCtorEq, c7]
    repeat' (first | ((with_reducible refine Br.dec (fun _ => ?_) (fun _ => ?_)) <;> try (exfalso; omega)) | ((with_reducible refine Br.eq (fun _ => ?_) (fun _ => ?_)) <;> try (exfalso; omega)) | ((with_reducible refine Br.ne (fun _ => ?_) (fun _ => ?_)) <;> try (exfalso; omega)) | ((with_reducible refine brNdec (fun _ => ?_) (fun _ => ?_)) <;> try (exfalso; omega)) | ((with_reducible refine brNeq (fun _ => ?_) (fun _ => ?_)) <;> try (exfalso; omega)) | with_reducible refine Br.intro (fun _ => ?_) (fun _ => ?_) | (with_reducible refine And.intro ?_ ?_; · omega) | simp -dsimp -implicitDefEqProofs (disch := omega) only [VCA, ↓reduceIte, reduceCtorEq, d1])
    refine LoopVC.intro (fun m e h' => ∃ i : Nat, i ≤ l.length ∧ m = l.length - i ∧ e 11 = sl eEnt l ∧ e 12 = aInt l.length ∧ e 13 = aInt i ∧ Acc h 9 1 (((l.take i).map pairM).map eStr) (e 4) h' ∧ Sim.Sub h h') l.length
      (by exact ⟨0, by omega, by omega, rfl, rfl, rfl, .nil, Sub.refl _⟩) ?_
    rintro m e h' ⟨i, hi, rfl, e11, e12, e13, A, S⟩
    simp -dsimp -implicitDefEqProofs (disch := omega) only [VCA, ↓reduceIte, e12, e13]
    refine Br.dec (fun hlt => ?_) (fun hge => ?_)
    · have hi' : i < l.length := by omega
      have hsx := hs _ (nth_mem' hi')
      have n1 := hsx.name
      have n2 := hsx.value
      have c1 := fencode_ok (G := G) (nth l i).name (by omega)
      have c2 := fencode_ok (G := G) (nth l i).value (by omega)
      have l1 := encF_len (nth l i).name
      have l2 := encF_len (nth l i).value
      have hll : ((l.take i).map pairM).length = i := by rw [List.length_map, List.length_take]; omega
      repeat' (first | ((with_reducible refine Br.dec (fun _ => ?_) (fun _ => ?_)) <;> try (exfalso; omega)) | ((with_reducible refine Br.eq (fun _ => ?_) (fun _ => ?_)) <;> try (exfalso; omega)) | ((with_reducible refine Br.ne (fun _ => ?_) (fun _ => ?_)) <;> try (exfalso; omega)) | ((with_reducible refine brNdec (fun _ => ?_) (fun _ => ?_)) <;> try (exfalso; omega)) | ((with_reducible refine brNeq (fun _ => ?_) (fun _ => ?_)) <;> try (exfalso; omega)) | with_reducible refine Br.intro (fun _ => ?_) (fun _ => ?_) | (with_reducible apply pcallE.of; · exact c1) | (with_reducible apply pcallE.of; · exact c2) | (with_reducible refine And.intro ?_ ?_; · omega) | simp -dsimp -implicitDefEqProofs (disch := omega) only [VCA, Nat.reduceEqDiff, Nat.reduceAdd, Nat.reduceLT, Nat.reduceLeDiff, ↓reduceIte, rsOf, rootsOf, setAt, exists_eq_left', rootL, eEnt, e11, e13, eEnt])
      intro r6 hr6
      have pm : pairM (nth l i) = (encF (nth l i).name ++ [61]) ++ encF (nth l i).value := by unfold pairM; rw [List.append_assoc]; rfl
      repeat' (first | ((with_reducible refine Br.dec (fun _ => ?_) (fun _ => ?_)) <;> try (exfalso; omega)) | ((with_reducible refine Br.eq (fun _ => ?_) (fun _ => ?_)) <;> try (exfalso; omega)) | ((with_reducible refine Br.ne (fun _ => ?_) (fun _ => ?_)) <;> try (exfalso; omega)) | ((with_reducible refine brNdec (fun _ => ?_) (fun _ => ?_)) <;> try (exfalso; omega)) | ((with_reducible refine brNeq (fun _ => ?_) (fun _ => ?_)) <;> try (exfalso; omega)) | with_reducible refine Br.intro (fun _ => ?_) (fun _ => ?_) | (with_reducible apply pcallE.of; · exact c1) | (with_reducible apply pcallE.of; · exact c2) | (with_reducible refine And.intro ?_ ?_; · omega) | simp -dsimp -implicitDefEqProofs (disch := omega) only [VCA, Nat.reduceEqDiff, Nat.reduceAdd, Nat.reduceLT, Nat.reduceLeDiff, ↓reduceIte, rsOf, rootsOf, okParts, forall_eq, exists_eq_left, exists_eq_left', rootL])
      have A1 := fun o => A.re (h1' := h) (h2' := upd h' r6 (some o)) fun r ob q1 q2 => ⟨q1, by rw [upd_ne _ _ (fun e => by rw [e, hr6] at q2; cases q2)]; exact q2⟩
      refine ⟨by rw [List.length_append]; simp only [List.length_cons, List.length_nil]; omega, ?_⟩
      refine (A1 _).appW (b := 16) (S.upd (S.none hr6)) (by simp only [List.length_map, List.length_cons, List.length_nil] at hll ⊢; omega) (by simp only [List.length_map, List.length_cons, List.length_nil] at hll ⊢; omega) fun a2 h3 A2 S2 kp => ?_
      refine ⟨fun q hq hc => ?_, ?_⟩
      · rcases List.mem_cons.1 hq with rfl | hq
        · simp at hc
        · rw [List.mem_singleton] at hq; subst hq; simp at hc
      simp -dsimp -implicitDefEqProofs (disch := omega) only [VCA, Nat.reduceEqDiff, Nat.reduceBEq, ↓reduceIte, SOp.rd, SI.rd, SX.rd, e11, e12, e13]
      refine ⟨_, by omega, i + 1, by omega, rfl, by omega, ?_, S2⟩
      rw [take_snoc hi', List.map_append, List.map_append]
      show Acc h _ 1 (((l.take i).map pairM).map eStr ++ [[.str (pairM (nth l i))]]) _ _
      rw [pm]
      exact A2
    · obtain rfl : i = l.length := by omega
      rw [List.take_length] at A
      by_cases h4 : 4000 < (joinM (l.map pairM)).length
      · have d4 : decide ((4000 : Int) < ((joinM (l.map pairM)).length : Int)) = true := decide_eq_true (by omega)
        rw [if_pos h4]
        generalize joinM (l.map pairM) = J at *
        repeat' (first | ((with_reducible refine Br.dec (fun _ => ?_) (fun _ => ?_)) <;> try (exfalso; omega)) | ((with_reducible refine Br.eq (fun _ => ?_) (fun _ => ?_)) <;> try (exfalso; omega)) | ((with_reducible refine Br.ne (fun _ => ?_) (fun _ => ?_)) <;> try (exfalso; omega)) | ((with_reducible refine brNdec (fun _ => ?_) (fun _ => ?_)) <;> try (exfalso; omega)) | ((with_reducible refine brNeq (fun _ => ?_) (fun _ => ?_)) <;> try (exfalso; omega)) | with_reducible refine Br.intro (fun _ => ?_) (fun _ => ?_) | ((refine A.frz S (fun h5 S5 => ?_))) | (with_reducible refine And.intro ?_ ?_; · omega) | simp -dsimp -implicitDefEqProofs (disch := omega) only [VCA, Nat.reduceEqDiff, ↓reduceIte])
        rw [show AVal.slc (List.map eStr (List.map pairM l)) = sl eStr (l.map pairM) from rfl]
        repeat' (first | ((with_reducible refine Br.dec (fun _ => ?_) (fun _ => ?_)) <;> try (exfalso; omega)) | ((with_reducible refine Br.eq (fun _ => ?_) (fun _ => ?_)) <;> try (exfalso; omega)) | ((with_reducible refine Br.ne (fun _ => ?_) (fun _ => ?_)) <;> try (exfalso; omega)) | ((with_reducible refine brNdec (fun _ => ?_) (fun _ => ?_)) <;> try (exfalso; omega)) | ((with_reducible refine brNeq (fun _ => ?_) (fun _ => ?_)) <;> try (exfalso; omega)) | with_reducible refine Br.intro (fun _ => ?_) (fun _ => ?_) | (with_reducible apply pcallE.of; · exact cJ) | (with_reducible refine And.intro ?_ ?_; · omega) | simp -dsimp -implicitDefEqProofs (disch := omega) only [VCA, Nat.reduceEqDiff, ↓reduceIte, exists_eq_right, d4])
        all_goals exact S5
      · have d4 : decide ((4000 : Int) < ((joinM (l.map pairM)).length : Int)) = false := decide_eq_false (by omega)
        rw [if_neg h4]
        generalize joinM (l.map pairM) = J at *
        repeat' (first | ((with_reducible refine Br.dec (fun _ => ?_) (fun _ => ?_)) <;> try (exfalso; omega)) | ((with_reducible refine Br.eq (fun _ => ?_) (fun _ => ?_)) <;> try (exfalso; omega)) | ((with_reducible refine Br.ne (fun _ => ?_) (fun _ => ?_)) <;> try (exfalso; omega)) | ((with_reducible refine brNdec (fun _ => ?_) (fun _ => ?_)) <;> try (exfalso; omega)) | ((with_reducible refine brNeq (fun _ => ?_) (fun _ => ?_)) <;> try (exfalso; omega)) | with_reducible refine Br.intro (fun _ => ?_) (fun _ => ?_) | ((refine A.frz S (fun h5 S5 => ?_))) | (with_reducible refine And.intro ?_ ?_; · omega) | simp -dsimp -implicitDefEqProofs (disch := omega) only [VCA, Nat.reduceEqDiff, ↓reduceIte])
        rw [show AVal.slc (List.map eStr (List.map pairM l)) = sl eStr (l.map pairM) from rfl]
        repeat' (first | ((with_reducible refine Br.dec (fun _ => ?_) (fun _ => ?_)) <;> try (exfalso; omega)) | ((with_reducible refine Br.eq (fun _ => ?_) (fun _ => ?_)) <;> try (exfalso; omega)) | ((with_reducible refine Br.ne (fun _ => ?_) (fun _ => ?_)) <;> try (exfalso; omega)) | ((with_reducible refine brNdec (fun _ => ?_) (fun _ => ?_)) <;> try (exfalso; omega)) | ((with_reducible refine brNeq (fun _ => ?_) (fun _ => ?_)) <;> try (exfalso; omega)) | with_reducible refine Br.intro (fun _ => ?_) (fun _ => ?_) | (with_reducible apply pcallE.of; · exact cJ) | (with_reducible refine And.intro ?_ ?_; · omega) | simp -dsimp -implicitDefEqProofs (disch := omega) only [VCA, Nat.reduceEqDiff, ↓reduceIte, exists_eq_right, d4])
        all_goals exact S5
theorem joinM_take (l : List HEnt) (i : Nat) (h : i < l.length) : joinM ((l.take (i + 1)).map pairM) = (if 0 < i then joinM ((l.take i).map pairM) ++ [38] else []) ++ pairM (nth l i) := by
  rw [take_snoc h, List.map_append, List.map_cons, List.map_nil, joinM_snoc]
  by_cases h0 : 0 < i
  · have hne : (l.take i).map pairM ≠ [] := fun e => by
      have := congrArg List.length e
      rw [List.length_map, List.length_take] at this; simp only [List.length_nil] at this; omega
    rw [if_neg hne, if_pos h0, List.append_assoc]; rfl
  · obtain rfl : i = 0 := by omega
    rw [if_pos (show List.map pairM (List.take 0 l) = [] from rfl), if_neg (by omega)]; rfl
def c9 : SFun := ⟨(.seq (.reg [⟨(some 2), (.mv (.c (.str []))), none⟩, ⟨(some 3), (.mv (.c (.int .i64 (0)))), none⟩]) (.seq (.reg [⟨(some 4), (.mv (.c (.str []))), none⟩]) (.seq (.seq (.reg [⟨(some 5), (.mv (.c (.int .i64 (0)))), none⟩]) (.block 0 (.loop (.seq (.seq (.reg [⟨(some 6), (.mv (.t 5)), none⟩, ⟨(some 7), (.mv (.t 0)), none⟩, ⟨(some 8), (.len (.t 7)), none⟩, ⟨(some 9), (.bin .lss (.t 6) (.t 8)), none⟩]) (.cond (.t 9) .skip (.exit 0))) (.seq (.block 1 (.seq (.seq (.reg [⟨(some 12), (.mv (.t 5)), none⟩, ⟨(some 13), (.bin .gtr (.t 12) (.c (.int .i64 (0)))), none⟩]) (.cond (.t 13) (.reg [⟨(some 14), (.mv (.t 4)), none⟩, ⟨(some 15), (.bin .add (.t 14) (.c (.str [38]))), none⟩, ⟨(some 4), (.mv (.t 15)), none⟩]) .skip)) (.dreg [(⟨(some 16), (.mv (.t 4)), none⟩, none), (⟨(some 17), (.mv (.t 0)), none⟩, none), (⟨(some 18), (.mv (.t 5)), none⟩, none), (⟨(some 19), (.idxA 2 (.t 17) (.t 18)), none⟩, none), (⟨(some 20), (.fldA 0 (.t 19)), none⟩, none), (⟨(some 21), (.ld 1 false (.t 20)), none⟩, none), (⟨(some 22), (.pcall 28 [(.t 21)]), none⟩, none), (⟨(some 23), (.bin .add (.t 22) (.c (.str [61]))), none⟩, none), (⟨(some 24), (.mv (.t 0)), none⟩, none), (⟨(some 25), (.mv (.t 5)), none⟩, none), (⟨(some 26), (.idxA 2 (.t 24) (.t 25)), none⟩, none), (⟨(some 27), (.fldA 1 (.t 26)), none⟩, none), (⟨(some 28), (.ld 1 false (.t 27)), none⟩, none), (⟨(some 29), (.pcall 28 [(.t 28)]), none⟩, none), (⟨(some 30), (.bin .add (.t 23) (.t 29)), none⟩, none), (⟨(some 31), (.bin .add (.t 16) (.t 30)), none⟩, none), (⟨(some 4), (.mv (.t 31)), none⟩, (some [28, 21]))]))) (.reg [⟨(some 10), (.mv (.t 5)), none⟩, ⟨(some 11), (.bin .add (.t 10) (.c (.int .i64 (1)))), none⟩, ⟨(some 5), (.mv (.t 11)), none⟩])))))) (.seq (.seq (.reg [⟨(some 32), (.mv (.t 0)), none⟩, ⟨(some 33), (.len (.t 32)), none⟩, ⟨(some 34), (.bin .gtr (.t 33) (.c (.int .i64 (100)))), none⟩, ⟨(some 35), (.mv (.t 34)), none⟩, ⟨(some 36), (.mv (.t 4)), (some (35, false))⟩, ⟨(some 37), (.lenS (.t 36)), (some (35, false))⟩, ⟨(some 38), (.bin .gtr (.t 37) (.c (.int .i64 (4000)))), (some (35, false))⟩, ⟨(some 39), (.pick (.t 35) (.c (.bool true)) (.t 38)), none⟩]) (.cond (.t 39) (.seq (.reg [⟨(some 2), (.mv (.c (.str []))), none⟩, ⟨(some 3), (.mv (.c (.int .i64 (2)))), none⟩]) .ret) .skip)) (.seq (.reg [⟨(some 40), (.mv (.t 4)), none⟩, ⟨(some 2), (.mv (.t 40)), none⟩, ⟨(some 3), (.mv (.c (.int .i64 (0)))), none⟩]) .ret))))), [(.tmp 2), (.tmp 3)]⟩
theorem hc9 : toSF Tryz.prog {pure := [28]} Tryz.f9 = some c9 := by kernel_rfl
theorem hn9 : (Tryz.f9.name == "runtime.NumGoroutine") = false := by kernel_rfl
set_option maxHeartbeats 2000000 in
theorem refFormEncode_ok (l : List HEnt) (hl : l.length ≤ 1000) (hs : ∀ x ∈ l, EntSm x) : PCalls (Pg G) 9 [sl eEnt l] (.tup [.str (coded l).1, aInt (coded l).2]) := fun h => by
  have hjl : ∀ i, (joinM ((l.take i).map pairM)).length ≤ 6002 * l.length := fun i => by
    have h1 := joinM_len ((l.take i).map pairM) fun x hx => by
      obtain ⟨y, hy, rfl⟩ := List.mem_map.1 hx
      exact pairM_len (hs y (List.mem_of_mem_take hy))
    rw [List.length_map, List.length_take] at h1
    omega
  refine dcalls_of_vc Tryz.func9 hn9 hc9 (by rw [Tryz.ntmps9]; simp) (by rw [Tryz.ntmps9]; decide) ?_
  simp -dsimp -implicitDefEqProofs (disch := omega) only [VCA, c9]
  refine LoopVC.intro (fun m e h' => ∃ i : Nat, i ≤ l.length ∧ m = l.length - i ∧ e 0 = sl eEnt l ∧ e 4 = .str (joinM ((l.take i).map pairM)) ∧ e 5 = aInt i ∧ h' = h) l.length
    (by exact ⟨0, by omega, by omega, rfl, rfl, rfl, rfl⟩) ?_
  rintro m e h' ⟨i, hi, rfl, e0, e4, e5, rfl⟩
  by_cases hlt : i < l.length
  · have d1 : decide ((i : Int) < (l.length : Int)) = true := decide_eq_true (by omega)
    have hsx := hs _ (nth_mem' hlt)
    have n1 := hsx.name
    have n2 := hsx.value
    have c1 := refEncoded_ok (G := G) (nth l i).name (by omega)
    have c2 := refEncoded_ok (G := G) (nth l i).value (by omega)
    have l1 := encF_len (nth l i).name
    have l2 := encF_len (nth l i).value
    have hj := hjl i
    have jt := joinM_take l i hlt
    have pm : pairM (nth l i) = (encF (nth l i).name ++ [61]) ++ encF (nth l i).value := by unfold pairM; rw [List.append_assoc]; rfl
    rw [pm] at jt
    obtain ⟨J, hJ⟩ : ∃ J, joinM ((l.take i).map pairM) = J := ⟨_, rfl⟩
    rw [hJ] at e4 hj jt
    by_cases h0 : 0 < i
    · have d2 : decide ((0 : Int) < (i : Int)) = true := decide_eq_true (by omega)
      rw [if_pos h0] at jt
      repeat' (first | ((with_reducible refine Br.dec (fun _ => ?_) (fun _ => ?_)) <;> try (exfalso; omega)) | ((with_reducible refine Br.eq (fun _ => ?_) (fun _ => ?_)) <;> try (exfalso; omega)) | ((with_reducible refine Br.ne (fun _ => ?_) (fun _ => ?_)) <;> try (exfalso; omega)) | ((with_reducible refine brNdec (fun _ => ?_) (fun _ => ?_)) <;> try (exfalso; omega)) | ((with_reducible refine brNeq (fun _ => ?_) (fun _ => ?_)) <;> try (exfalso; omega)) | with_reducible refine Br.intro (fun _ => ?_) (fun _ => ?_) | (with_reducible apply pcallE.of; · exact c1) | (with_reducible apply pcallE.of; · exact c2) | (with_reducible refine And.intro ?_ ?_; · omega) | simp -dsimp -implicitDefEqProofs (disch := omega) only [VCA, Nat.reduceEqDiff, Nat.reduceAdd, Nat.reduceLeDiff, ↓reduceIte, reduceCtorEq, rsOf, rootsOf, SOp.rd, SI.rd, SX.rd, rootL, eEnt, e0, e4, e5, d1, d2, eEnt])
      refine ⟨by rw [List.length_append]; simp only [List.length_cons, List.length_nil]; omega, by simp only [List.length_append, List.length_cons, List.length_nil]; omega, _, by omega, i + 1, by omega, rfl, ?_, by omega⟩
      rw [jt]
    · have d2 : decide ((0 : Int) < (i : Int)) = false := decide_eq_false (by omega)
      rw [if_neg h0, List.nil_append] at jt
      have hJ0 : J = [] := by rw [← hJ, show i = 0 by omega]; rfl
      repeat' (first | ((with_reducible refine Br.dec (fun _ => ?_) (fun _ => ?_)) <;> try (exfalso; omega)) | ((with_reducible refine Br.eq (fun _ => ?_) (fun _ => ?_)) <;> try (exfalso; omega)) | ((with_reducible refine Br.ne (fun _ => ?_) (fun _ => ?_)) <;> try (exfalso; omega)) | ((with_reducible refine brNdec (fun _ => ?_) (fun _ => ?_)) <;> try (exfalso; omega)) | ((with_reducible refine brNeq (fun _ => ?_) (fun _ => ?_)) <;> try (exfalso; omega)) | with_reducible refine Br.intro (fun _ => ?_) (fun _ => ?_) | (with_reducible apply pcallE.of; · exact c1) | (with_reducible apply pcallE.of; · exact c2) | (with_reducible refine And.intro ?_ ?_; · omega) | simp -dsimp -implicitDefEqProofs (disch := omega) only [VCA, Nat.reduceEqDiff, Nat.reduceAdd, Nat.reduceLeDiff, ↓reduceIte, reduceCtorEq, rsOf, rootsOf, SOp.rd, SI.rd, SX.rd, rootL, eEnt, e0, e4, e5, d1, d2, eEnt])
      refine ⟨by rw [List.length_append]; simp only [List.length_cons, List.length_nil]; omega, by simp only [List.length_append, List.length_cons, List.length_nil]; omega, _, by omega, i + 1, by omega, rfl, ?_, by omega⟩
      rw [jt, hJ0]; rfl
  · obtain rfl : i = l.length := by omega
    have d1 : decide ((l.length : Int) < (l.length : Int)) = false := decide_eq_false (by omega)
    rw [List.take_length] at e4
    unfold coded
    by_cases h1 : 100 < l.length
    · have d2 : decide ((100 : Int) < (l.length : Int)) = true := decide_eq_true (by omega)
      rw [if_pos h1]
      repeat' (first | ((with_reducible refine Br.dec (fun _ => ?_) (fun _ => ?_)) <;> try (exfalso; omega)) | ((with_reducible refine Br.eq (fun _ => ?_) (fun _ => ?_)) <;> try (exfalso; omega)) | ((with_reducible refine Br.ne (fun _ => ?_) (fun _ => ?_)) <;> try (exfalso; omega)) | ((with_reducible refine brNdec (fun _ => ?_) (fun _ => ?_)) <;> try (exfalso; omega)) | ((with_reducible refine brNeq (fun _ => ?_) (fun _ => ?_)) <;> try (exfalso; omega)) | with_reducible refine Br.intro (fun _ => ?_) (fun _ => ?_) | (with_reducible refine And.intro ?_ ?_; · omega) | simp -dsimp -implicitDefEqProofs (disch := omega) only [↓vcOps_sp 35, VCA, Nat.reduceEqDiff, ↓reduceIte, reduceCtorEq, exists_eq_right, e0, e5, d1, d2])
      all_goals exact Sub.refl _
    · have d2 : decide ((100 : Int) < (l.length : Int)) = false := decide_eq_false (by omega)
      rw [if_neg h1]
      by_cases h4 : 4000 < (joinM (l.map pairM)).length
      · have d4 : decide ((4000 : Int) < ((joinM (l.map pairM)).length : Int)) = true := decide_eq_true (by omega)
        rw [if_pos h4]
        repeat' (first | ((with_reducible refine Br.dec (fun _ => ?_) (fun _ => ?_)) <;> try (exfalso; omega)) | ((with_reducible refine Br.eq (fun _ => ?_) (fun _ => ?_)) <;> try (exfalso; omega)) | ((with_reducible refine Br.ne (fun _ => ?_) (fun _ => ?_)) <;> try (exfalso; omega)) | ((with_reducible refine brNdec (fun _ => ?_) (fun _ => ?_)) <;> try (exfalso; omega)) | ((with_reducible refine brNeq (fun _ => ?_) (fun _ => ?_)) <;> try (exfalso; omega)) | with_reducible refine Br.intro (fun _ => ?_) (fun _ => ?_) | (with_reducible refine And.intro ?_ ?_; · omega) | simp -dsimp -implicitDefEqProofs (disch := omega) only [↓vcOps_sp 35, VCA, Nat.reduceEqDiff, ↓reduceIte, reduceCtorEq, exists_eq_right, e0, e4, e5, d1, d2, d4])
        all_goals exact Sub.refl _
      · have d4 : decide ((4000 : Int) < ((joinM (l.map pairM)).length : Int)) = false := decide_eq_false (by omega)
        rw [if_neg h4]
        repeat' (first | ((with_reducible refine Br.dec (fun _ => ?_) (fun _ => ?_)) <;> try (exfalso; omega)) | ((with_reducible refine Br.eq (fun _ => ?_) (fun _ => ?_)) <;> try (exfalso; omega)) | ((with_reducible refine Br.ne (fun _ => ?_) (fun _ => ?_)) <;> try (exfalso; omega)) | ((with_reducible refine brNdec (fun _ => ?_) (fun _ => ?_)) <;> try (exfalso; omega)) | ((with_reducible refine brNeq (fun _ => ?_) (fun _ => ?_)) <;> try (exfalso; omega)) | with_reducible refine Br.intro (fun _ => ?_) (fun _ => ?_) | (with_reducible refine And.intro ?_ ?_; · omega) | simp -dsimp -implicitDefEqProofs (disch := omega) only [↓vcOps_sp 35, VCA, Nat.reduceEqDiff, ↓reduceIte, reduceCtorEq, exists_eq_right, e0, e4, e5, d1, d2, d4])
        all_goals exact Sub.refl _
end Go.Proofs.K
end
section
/- A text's first bytes. -/
set_option linter.unusedSimpArgs false
set_option linter.unusedVariables false
namespace Go.Proofs.K
open Go Go.Sim Go.Proofs
variable {G : Glob}
def c6 : SFun := ⟨(.seq (.reg [⟨(some 4), (.mv (.c (.str []))), none⟩]) (.seq (.reg [⟨(some 5), (.mv (.t 0)), none⟩, ⟨(some 6), (.mv (.t 0)), none⟩, ⟨(some 7), (.lenS (.t 6)), none⟩, ⟨(some 8), (.mv (.t 1)), none⟩, ⟨(some 9), (.min2 (.t 7) (.t 8)), none⟩, ⟨(some 10), (.slS (.t 5) none (some (.t 9))), none⟩, ⟨(some 4), (.mv (.t 10)), none⟩]) .ret)), [(.tmp 4)]⟩
theorem hc6 : toSF Tryz.prog {} Tryz.f6 = some c6 := by kernel_rfl
theorem hn6 : (Tryz.f6.name == "runtime.NumGoroutine") = false := by kernel_rfl
theorem some_ok (s : List UInt8) (n : Nat) (hs : s.length ≤ 1073741824) : PCalls (Pg G) 6 [.str s, aInt n] (.str (s.take n)) := fun h => by
  refine dcalls_of_vc Tryz.func6 hn6 hc6 (by rw [Tryz.ntmps6]; simp) (by rw [Tryz.ntmps6]; decide) ?_
  simp -dsimp -implicitDefEqProofs (disch := omega) only [VCA, Nat.reduceEqDiff, ↓reduceIte, reduceCtorEq, exists_eq_right_right, c6]
  refine ⟨by omega, Sub.refl _, ?_⟩
  have : (min (s.length : Int) n).toNat = min s.length n := by omega
  have e : s.take (min s.length n) = s.take n := by rw [List.take_eq_take_iff]; omega
  rw [this, e]
end Go.Proofs.K
end
section
/- Codes of forms: the law. -/
set_option linter.unusedSimpArgs false
set_option linter.unusedVariables false
namespace Go.Proofs.K
open Go Go.Sim Go.Proofs Go.Shelf
variable {G : Glob}
def c12 : SFun := ⟨(.seq (.reg [⟨(some 4), (.mv (.c (.bool false))), none⟩]) (.seq (.seq (.reg [⟨(some 6), (.mv (.t 0)), none⟩, ⟨(some 7), (.len (.t 6)), none⟩, ⟨(some 8), (.mv (.t 1)), none⟩, ⟨(some 9), (.len (.t 8)), none⟩, ⟨(some 10), (.bin .neq (.t 7) (.t 9)), none⟩]) (.cond (.t 10) (.seq (.reg [⟨(some 4), (.mv (.c (.bool false))), none⟩]) .ret) .skip)) (.seq (.seq (.reg [⟨(some 5), (.mv (.c (.int .i64 (0)))), none⟩]) (.block 0 (.loop (.seq (.seq (.reg [⟨(some 11), (.mv (.t 5)), none⟩, ⟨(some 12), (.mv (.t 0)), none⟩, ⟨(some 13), (.len (.t 12)), none⟩, ⟨(some 14), (.bin .lss (.t 11) (.t 13)), none⟩]) (.cond (.t 14) .skip (.exit 0))) (.seq (.block 1 (.seq (.dreg [(⟨(some 17), (.mv (.t 0)), none⟩, none), (⟨(some 18), (.mv (.t 5)), none⟩, none), (⟨(some 19), (.idxA 2 (.t 17) (.t 18)), none⟩, none), (⟨(some 20), (.ld 2 true (.t 19)), none⟩, none), (⟨(some 21), (.mv (.t 1)), none⟩, none), (⟨(some 22), (.mv (.t 5)), none⟩, none), (⟨(some 23), (.idxA 2 (.t 21) (.t 22)), none⟩, none), (⟨(some 24), (.ld 2 true (.t 23)), none⟩, none), (⟨(some 25), (.eqs true [1, 1] (.t 20) (.t 24)), none⟩, none)]) (.cond (.t 25) (.seq (.reg [⟨(some 4), (.mv (.c (.bool false))), none⟩]) .ret) .skip))) (.reg [⟨(some 15), (.mv (.t 5)), none⟩, ⟨(some 16), (.bin .add (.t 15) (.c (.int .i64 (1)))), none⟩, ⟨(some 5), (.mv (.t 16)), none⟩])))))) (.seq (.reg [⟨(some 4), (.mv (.c (.bool true))), none⟩]) .ret)))), [(.tmp 4)]⟩
theorem hc12 : toSF Tryz.prog {} Tryz.f12 = some c12 := by kernel_rfl
theorem hn12 : (Tryz.f12.name == "runtime.NumGoroutine") = false := by kernel_rfl
theorem sameEnt_ok (a : List HEnt) (ha : a.length ≤ 1073741824) : PCalls (Pg G) 12 [sl eEnt a, sl eEnt a] (.bool true) := fun h => by
  refine dcalls_of_vc Tryz.func12 hn12 hc12 (by rw [Tryz.ntmps12]; simp) (by rw [Tryz.ntmps12]; decide) ?_
  have hne : ((a.length : Int) != (a.length : Int)) = false := by simp
  simp -dsimp -implicitDefEqProofs (disch := omega) only [VCA, Nat.reduceEqDiff, ↓reduceIte, reduceCtorEq, c12, hne]
  repeat' (first | ((with_reducible refine Br.dec (fun _ => ?_) (fun _ => ?_)) <;> try (exfalso; omega)) | ((with_reducible refine Br.eq (fun _ => ?_) (fun _ => ?_)) <;> try (exfalso; omega)) | ((with_reducible refine Br.ne (fun _ => ?_) (fun _ => ?_)) <;> try (exfalso; omega)) | ((with_reducible refine brNdec (fun _ => ?_) (fun _ => ?_)) <;> try (exfalso; omega)) | ((with_reducible refine brNeq (fun _ => ?_) (fun _ => ?_)) <;> try (exfalso; omega)) | with_reducible refine Br.intro (fun _ => ?_) (fun _ => ?_) | (with_reducible refine And.intro ?_ ?_; · omega) | simp -dsimp -implicitDefEqProofs (disch := omega) only [VCA, pg_gl, ↓upd_none, Nat.reduceEqDiff, Nat.reduceBEq, Nat.reduceAdd, Nat.reduceSub, Nat.reduceMul, Nat.reduceLT, Nat.reduceLeDiff, ↓reduceIte, reduceCtorEq, rsOf, rootsOf, SOp.rd, SI.rd, SX.rd, rdL, rdO, rdP, okParts, eqCells, okEqCells, fillA, okFill, setAt, implies_true, forall_const, forall_eq, ne_eq, exists_eq_right_right, exists_eq_right, exists_eq_left, exists_eq_left', rootL, eInt, eStr, lit_eq, hne])
  refine LoopVC.intro (fun m e h' => ∃ k : Nat, k ≤ a.length ∧ m = a.length - k ∧ e 0 = sl eEnt a ∧ e 1 = sl eEnt a ∧ e 5 = aInt k ∧ h' = h) a.length
    (by exact ⟨0, by omega, by omega, rfl, rfl, rfl, rfl⟩) ?_
  rintro m e h' ⟨k, hk, rfl, e0, e1, e5, rfl⟩
  by_cases hlt : k < a.length
  · have d1 : decide ((k : Int) < (a.length : Int)) = true := decide_eq_true (by omega)
    repeat' (first | ((with_reducible refine Br.dec (fun _ => ?_) (fun _ => ?_)) <;> try (exfalso; omega)) | ((with_reducible refine Br.eq (fun _ => ?_) (fun _ => ?_)) <;> try (exfalso; omega)) | ((with_reducible refine Br.ne (fun _ => ?_) (fun _ => ?_)) <;> try (exfalso; omega)) | ((with_reducible refine brNdec (fun _ => ?_) (fun _ => ?_)) <;> try (exfalso; omega)) | ((with_reducible refine brNeq (fun _ => ?_) (fun _ => ?_)) <;> try (exfalso; omega)) | with_reducible refine Br.intro (fun _ => ?_) (fun _ => ?_) | (with_reducible refine And.intro ?_ ?_; · omega) | simp -dsimp -implicitDefEqProofs (disch := omega) only [VCA, Nat.reduceEqDiff, Nat.reduceAdd, ↓reduceIte, reduceCtorEq, rsOf, rootsOf, eqCells, okEqCells, exists_eq_right_right, rootL, e0, e1, e5, d1, eEnt])
    all_goals first
      | exact ⟨_, by omega, k + 1, by omega, rfl, by omega⟩
      | (rename_i q; simp at q)
  · have d1 : decide ((k : Int) < (a.length : Int)) = false := decide_eq_false (by omega)
    repeat' (first | ((with_reducible refine Br.dec (fun _ => ?_) (fun _ => ?_)) <;> try (exfalso; omega)) | ((with_reducible refine Br.eq (fun _ => ?_) (fun _ => ?_)) <;> try (exfalso; omega)) | ((with_reducible refine Br.ne (fun _ => ?_) (fun _ => ?_)) <;> try (exfalso; omega)) | ((with_reducible refine brNdec (fun _ => ?_) (fun _ => ?_)) <;> try (exfalso; omega)) | ((with_reducible refine brNeq (fun _ => ?_) (fun _ => ?_)) <;> try (exfalso; omega)) | with_reducible refine Br.intro (fun _ => ?_) (fun _ => ?_) | (with_reducible refine And.intro ?_ ?_; · omega) | simp -dsimp -implicitDefEqProofs (disch := omega) only [VCA, Nat.reduceEqDiff, ↓reduceIte, reduceCtorEq, exists_eq_right, e0, e5, d1])
    all_goals exact Sub.refl _
def trimE (x : HEnt) : HEnt := ⟨x.name.take 60, x.value.take 60⟩
def c3 : SFun := ⟨(.seq (.reg [⟨(some 4), (.mv (.c (.bool false))), none⟩]) (.seq (.reg [⟨(some 14), (.mv (.t 0)), none⟩, ⟨(some 15), (.mv (.t 0)), none⟩, ⟨(some 16), (.len (.t 15)), none⟩, ⟨(some 17), (.min2 (.t 16) (.c (.int .i64 (110)))), none⟩, ⟨(some 18), (.slA 2 (.t 14) none (some (.t 17))), none⟩, ⟨(some 0), (.mv (.t 18)), none⟩]) (.seq (.seq (.reg [⟨(some 5), (.mv (.c (.int .i64 (0)))), none⟩]) (.block 0 (.loop (.seq (.seq (.reg [⟨(some 19), (.mv (.t 5)), none⟩, ⟨(some 20), (.mv (.t 0)), none⟩, ⟨(some 21), (.len (.t 20)), none⟩, ⟨(some 22), (.bin .lss (.t 19) (.t 21)), none⟩]) (.cond (.t 22) .skip (.exit 0))) (.seq (.block 1 (.dreg [(⟨(some 25), (.bldF 25 2 []), none⟩, none), (⟨(some 26), (.mv (.t 0)), none⟩, none), (⟨(some 27), (.mv (.t 5)), none⟩, none), (⟨(some 28), (.slA 2 (.t 26) none (some (.t 27))), none⟩, none), (⟨(some 30), (.mv (.t 0)), none⟩, none), (⟨(some 31), (.mv (.t 5)), none⟩, none), (⟨(some 32), (.idxA 2 (.t 30) (.t 31)), none⟩, none), (⟨(some 33), (.fldA 0 (.t 32)), none⟩, none), (⟨(some 34), (.ld 1 false (.t 33)), none⟩, none), (⟨(some 36), (.mv (.t 0)), none⟩, none), (⟨(some 37), (.mv (.t 5)), none⟩, none), (⟨(some 38), (.idxA 2 (.t 36) (.t 37)), none⟩, none), (⟨(some 39), (.fldA 1 (.t 38)), none⟩, none), (⟨(some 40), (.ld 1 false (.t 39)), none⟩, none), (⟨(some 45), (.mv (.t 0)), none⟩, none), (⟨(some 46), (.mv (.t 5)), none⟩, none), (⟨(some 47), (.bin .add (.t 46) (.c (.int .i64 (1)))), none⟩, none), (⟨(some 48), (.slA 2 (.t 45) (some (.t 47)) none), none⟩, none), (⟨(some 29), (.app 25 2 32 (.t 25) (.t 28)), none⟩, (some [])), (⟨(some 35), (.pcall 6 [(.t 34), (.c (.int .i64 (60)))]), none⟩, none), (⟨(some 41), (.pcall 6 [(.t 40), (.c (.int .i64 (60)))]), none⟩, none), (⟨(some 42), (.bld [(.str []), (.str [])] [(0, (1, (.t 35))), (1, (1, (.t 41)))]), none⟩, none), (⟨(some 43), (.bldF 25 2 [(.t 42)]), none⟩, none), (⟨(some 44), (.app 25 2 32 (.t 29) (.t 43)), none⟩, (some [40, 34])), (⟨(some 49), (.appF 25 2 32 (.t 44) (.t 48)), none⟩, (some [40, 34])), (⟨(some 0), (.mv (.t 49)), none⟩, (some [40, 34]))])) (.reg [⟨(some 23), (.mv (.t 5)), none⟩, ⟨(some 24), (.bin .add (.t 23) (.c (.int .i64 (1)))), none⟩, ⟨(some 5), (.mv (.t 24)), none⟩])))))) (.seq (.reg [⟨(some 51), (.mv (.t 0)), none⟩, ⟨(some 52), (.pcall 7 [(.t 51)]), none⟩, ⟨(some 50), (.mv (.t 52)), none⟩, ⟨(some 53), (.ext (.t 50) 0), none⟩, ⟨(some 54), (.ext (.t 50) 1), none⟩, ⟨(some 6), (.mv (.t 53)), none⟩, ⟨(some 7), (.mv (.t 54)), none⟩]) (.seq (.reg [⟨(some 56), (.mv (.t 1)), none⟩, ⟨(some 57), (.pcall 8 [(.t 56)]), none⟩, ⟨(some 55), (.mv (.t 57)), none⟩, ⟨(some 58), (.ext (.t 55) 0), none⟩, ⟨(some 59), (.ext (.t 55) 1), none⟩, ⟨(some 8), (.mv (.t 58)), none⟩, ⟨(some 9), (.mv (.t 59)), none⟩]) (.seq (.reg [⟨(some 61), (.mv (.t 0)), none⟩, ⟨(some 62), (.pcall 9 [(.t 61)]), none⟩, ⟨(some 60), (.mv (.t 62)), none⟩, ⟨(some 63), (.ext (.t 60) 0), none⟩, ⟨(some 64), (.ext (.t 60) 1), none⟩, ⟨(some 10), (.mv (.t 63)), none⟩, ⟨(some 11), (.mv (.t 64)), none⟩]) (.seq (.seq (.reg [⟨(some 65), (.mv (.t 1)), none⟩, ⟨(some 66), (.lenS (.t 65)), none⟩, ⟨(some 67), (.bin .gtr (.t 66) (.c (.int .i64 (4000)))), none⟩]) (.cond (.t 67) (.seq (.reg [⟨(some 68), (.pcall 10 []), none⟩, ⟨(some 69), (.mv (.t 68)), none⟩, ⟨(some 70), (.mv (.t 6)), (some (69, true))⟩, ⟨(some 71), (.mv (.t 10)), (some (69, true))⟩, ⟨(some 72), (.bin .eql (.t 70) (.t 71)), (some (69, true))⟩, ⟨(some 73), (.pick (.t 69) (.t 72) (.c (.bool false))), none⟩, ⟨(some 74), (.mv (.t 73)), none⟩, ⟨(some 75), (.mv (.t 7)), (some (74, true))⟩, ⟨(some 76), (.mv (.t 11)), (some (74, true))⟩, ⟨(some 77), (.bin .eql (.t 75) (.t 76)), (some (74, true))⟩, ⟨(some 78), (.pick (.t 74) (.t 77) (.c (.bool false))), none⟩, ⟨(some 79), (.mv (.t 78)), none⟩, ⟨(some 80), (.mv (.t 9)), (some (79, true))⟩, ⟨(some 81), (.bin .eql (.t 80) (.c (.int .i64 (2)))), (some (79, true))⟩, ⟨(some 82), (.pick (.t 79) (.t 81) (.c (.bool false))), none⟩, ⟨(some 83), (.mv (.t 82)), none⟩, ⟨(some 84), (.mv (.t 8)), (some (83, true))⟩, ⟨(some 85), (.len (.t 84)), (some (83, true))⟩, ⟨(some 86), (.bin .eql (.t 85) (.c (.int .i64 (0)))), (some (83, true))⟩, ⟨(some 87), (.pick (.t 83) (.t 86) (.c (.bool false))), none⟩, ⟨(some 4), (.mv (.t 87)), none⟩]) .ret) .skip)) (.seq (.reg [⟨(some 88), (.mv (.t 1)), none⟩, ⟨(some 89), (.pcall 6 [(.t 88), (.c (.int .i64 (600)))]), none⟩, ⟨(some 1), (.mv (.t 89)), none⟩]) (.seq (.reg [⟨(some 91), (.mv (.t 1)), none⟩, ⟨(some 92), (.pcall 8 [(.t 91)]), none⟩, ⟨(some 90), (.mv (.t 92)), none⟩, ⟨(some 93), (.ext (.t 90) 0), none⟩, ⟨(some 94), (.ext (.t 90) 1), none⟩, ⟨(some 8), (.mv (.t 93)), none⟩, ⟨(some 9), (.mv (.t 94)), none⟩]) (.seq (.reg [⟨(some 96), (.mv (.t 1)), none⟩, ⟨(some 97), (.pcall 11 [(.t 96)]), none⟩, ⟨(some 95), (.mv (.t 97)), none⟩, ⟨(some 98), (.ext (.t 95) 0), none⟩, ⟨(some 99), (.ext (.t 95) 1), none⟩, ⟨(some 12), (.mv (.t 98)), none⟩, ⟨(some 13), (.mv (.t 99)), none⟩]) (.seq (.reg [⟨(some 100), (.pcall 10 []), none⟩, ⟨(some 101), (.mv (.t 100)), none⟩, ⟨(some 102), (.mv (.t 6)), (some (101, true))⟩, ⟨(some 103), (.mv (.t 10)), (some (101, true))⟩, ⟨(some 104), (.bin .eql (.t 102) (.t 103)), (some (101, true))⟩, ⟨(some 105), (.pick (.t 101) (.t 104) (.c (.bool false))), none⟩, ⟨(some 106), (.mv (.t 105)), none⟩, ⟨(some 107), (.mv (.t 7)), (some (106, true))⟩, ⟨(some 108), (.mv (.t 11)), (some (106, true))⟩, ⟨(some 109), (.bin .eql (.t 107) (.t 108)), (some (106, true))⟩, ⟨(some 110), (.pick (.t 106) (.t 109) (.c (.bool false))), none⟩, ⟨(some 111), (.mv (.t 110)), none⟩, ⟨(some 112), (.mv (.t 8)), (some (111, true))⟩, ⟨(some 113), (.mv (.t 12)), (some (111, true))⟩, ⟨(some 114), (.pcall 12 [(.t 112), (.t 113)]), (some (111, true))⟩, ⟨(some 115), (.pick (.t 111) (.t 114) (.c (.bool false))), none⟩, ⟨(some 116), (.mv (.t 115)), none⟩, ⟨(some 117), (.mv (.t 9)), (some (116, true))⟩, ⟨(some 118), (.mv (.t 13)), (some (116, true))⟩, ⟨(some 119), (.bin .eql (.t 117) (.t 118)), (some (116, true))⟩, ⟨(some 120), (.pick (.t 116) (.t 119) (.c (.bool false))), none⟩, ⟨(some 4), (.mv (.t 120)), none⟩]) .ret))))))))))), [(.tmp 4)]⟩
theorem hc3 : toSF Tryz.prog {pure := [6, 7, 8, 9, 11, 12, 10], how := [(49, 8)]} Tryz.f3 = some c3 := by kernel_rfl
theorem hn3 : (Tryz.f3.name == "runtime.NumGoroutine") = false := by kernel_rfl
set_option maxHeartbeats 4000000 in
theorem formCodes_ok (hG : MaxLenOK G) (hB : PCalls (Pg G) 10 [] (.bool true)) (l0 : List HEnt) (hl0 : l0.length ≤ 1073741824) (hs0 : ∀ x ∈ l0, x.name.length ≤ 1073741824 ∧ x.value.length ≤ 1073741824) (s : List UInt8) (hs : s.length ≤ 1073741824) :
    PCalls (Pg G) 3 [sl eEnt l0, .str s] (.bool true) := fun h => by
  have h110 : (l0.take 110).length = min l0.length 110 := by rw [List.length_take]; omega
  have hln : (min (l0.length : Int) 110) = ((l0.take 110).length : Int) := by rw [h110]; omega
  have hsm : ∀ x ∈ l0.take 110, x.name.length ≤ 1073741824 ∧ x.value.length ≤ 1073741824 := fun x hx => hs0 x (List.mem_of_mem_take hx)
  obtain ⟨l, hl⟩ : ∃ l, l0.take 110 = l := ⟨_, rfl⟩
  rw [hl] at h110 hln hsm
  have htk : List.take l.length l0 = l := by rw [← hl, List.length_take, List.take_eq_take_iff]; omega
  refine dcalls_of_vc Tryz.func3 hn3 hc3 (by rw [Tryz.ntmps3]; simp) (by rw [Tryz.ntmps3]; decide) ?_
  simp -dsimp -implicitDefEqProofs (disch := omega) only [VCA, Nat.reduceEqDiff, ↓reduceIte, reduceCtorEq, c3, hln, htk]
  refine ⟨by omega, ?_⟩
  refine LoopVC.intro (fun m e h' => ∃ i : Nat, i ≤ l.length ∧ m = l.length - i ∧ e 0 = sl eEnt ((l.take i).map trimE ++ l.drop i) ∧ e 1 = .str s ∧ e 5 = aInt i ∧ Sim.Sub h h') l.length
    (by exact ⟨0, by omega, by omega, rfl, rfl, rfl, Sub.refl _⟩) ?_
  rintro m e h' ⟨i, hi, rfl, e0, e1, e5, S⟩
  have hLl : ((l.take i).map trimE ++ l.drop i).length = l.length := by rw [List.length_append, List.length_map, List.length_take, List.length_drop]; omega
  by_cases hlt : i < l.length
  · have d1 : decide ((i : Int) < (l.length : Int)) = true := decide_eq_true (by omega)
    have hx := hsm _ (nth_mem' hlt)
    have c1 : PCalls (Pg G) 6 [.str (nth l i).name, .int .i64 60] (.str ((nth l i).name.take 60)) := some_ok _ 60 hx.1
    have c2 : PCalls (Pg G) 6 [.str (nth l i).value, .int .i64 60] (.str ((nth l i).value.take 60)) := some_ok _ 60 hx.2
    have hnth : nth ((l.take i).map trimE ++ l.drop i) i = nth l i := by
      unfold nth
      rw [List.getD_eq_getElem?_getD, List.getD_eq_getElem?_getD, List.getElem?_append_right (by rw [List.length_map, List.length_take]; omega), List.getElem?_drop, List.length_map, List.length_take]
      congr 2; omega
    have htk : ((l.take i).map trimE ++ l.drop i).take i = (l.take i).map trimE := by
      rw [List.take_append_of_le_length (by rw [List.length_map, List.length_take]; omega), List.take_of_length_le (by rw [List.length_map, List.length_take]; omega)]
    have hdr : ((l.take i).map trimE ++ l.drop i).drop (i + 1) = l.drop (i + 1) := by
      rw [List.drop_append, List.length_map, List.length_take, List.drop_eq_nil_of_le (by rw [List.length_map, List.length_take]; omega), List.nil_append, List.drop_drop]
      congr 1; omega
    have hnx : (l.take (i + 1)).map trimE ++ l.drop (i + 1) = (l.take i).map trimE ++ trimE (nth l i) :: l.drop (i + 1) := by
      rw [take_snoc hlt, List.map_append, List.append_assoc]; rfl
    obtain ⟨W, hW⟩ : ∃ W, (l.take i).map trimE ++ l.drop i = W := ⟨_, rfl⟩
    rw [hW] at e0 hLl hnth htk hdr
    rw [← hLl] at d1
    repeat' (first | ((with_reducible refine Br.dec (fun _ => ?_) (fun _ => ?_)) <;> try (exfalso; omega)) | ((with_reducible refine Br.eq (fun _ => ?_) (fun _ => ?_)) <;> try (exfalso; omega)) | ((with_reducible refine Br.ne (fun _ => ?_) (fun _ => ?_)) <;> try (exfalso; omega)) | ((with_reducible refine brNdec (fun _ => ?_) (fun _ => ?_)) <;> try (exfalso; omega)) | ((with_reducible refine brNeq (fun _ => ?_) (fun _ => ?_)) <;> try (exfalso; omega)) | with_reducible refine Br.intro (fun _ => ?_) (fun _ => ?_) | (with_reducible apply pcallE.of; · exact c1) | (with_reducible apply pcallE.of; · exact c2) | (with_reducible refine And.intro ?_ ?_; · omega) | simp -dsimp -implicitDefEqProofs (disch := omega) only [VCA, Nat.reduceEqDiff, Nat.reduceAdd, Nat.reduceLeDiff, ↓reduceIte, reduceCtorEq, rsOf, rootsOf, SOp.rd, SI.rd, SX.rd, okParts, exists_eq_left, rootL, e0, e5, d1, hnth, eEnt, htk, hdr])
    have hti : (l.take i).length = i := by rw [List.length_take]; omega
    refine ⟨by omega, by omega, ?_⟩
    intro r hr
    repeat' (first | ((with_reducible refine Br.dec (fun _ => ?_) (fun _ => ?_)) <;> try (exfalso; omega)) | ((with_reducible refine Br.eq (fun _ => ?_) (fun _ => ?_)) <;> try (exfalso; omega)) | ((with_reducible refine Br.ne (fun _ => ?_) (fun _ => ?_)) <;> try (exfalso; omega)) | ((with_reducible refine brNdec (fun _ => ?_) (fun _ => ?_)) <;> try (exfalso; omega)) | ((with_reducible refine brNeq (fun _ => ?_) (fun _ => ?_)) <;> try (exfalso; omega)) | with_reducible refine Br.intro (fun _ => ?_) (fun _ => ?_) | (with_reducible apply pcallE.of; · exact c1) | (with_reducible apply pcallE.of; · exact c2) | (with_reducible refine And.intro ?_ ?_; · omega) | simp -dsimp -implicitDefEqProofs (disch := omega) only [VCA, Nat.reduceEqDiff, Nat.reduceAdd, Nat.reduceLeDiff, ↓reduceIte, reduceCtorEq, rsOf, rootsOf, SOp.rd, SI.rd, SX.rd, okParts, fillA, okFill, forall_eq, exists_eq_left, exists_eq_left', rootL, hti])
    intro r' hr'
    have hlm : (List.map eEnt (List.map trimE (l.take i))).length = i := by rw [List.length_map, List.length_map, hti]
    have htf : List.take i (List.map eEnt (List.map trimE (l.take i))) = List.map eEnt (List.map trimE (l.take i)) := List.take_of_length_le (by omega)
    have hd : (l.drop (i + 1)).length + (i + 1) = l.length := by rw [List.length_drop]; omega
    have f1 := S.none hr
    have f2 : h r' = none := by
      by_cases e : r' = r
      · rw [e]; exact f1
      · unfold del at hr'; rw [if_neg e, upd_ne _ _ e] at hr'; exact S.none hr'
    rw [htf]
    refine ⟨by rw [List.length_append, hlm]; simp, by omega, by omega, ?_⟩
    simp -dsimp -implicitDefEqProofs (disch := omega) only [VCA, e5]
    refine ⟨_, by omega, i + 1, by omega, rfl, ?_, e1, by omega, (((S.upd f1).del f1).upd f2).del f2⟩
    show AVal.slc _ = AVal.slc (((l.take (i + 1)).map trimE ++ l.drop (i + 1)).map eEnt)
    rw [hnx, List.map_append, List.map_cons, List.take_of_length_le (by rw [List.length_append, hlm]; simp), List.append_assoc]
    rfl
  · obtain rfl : i = l.length := by omega
    rw [List.take_length, List.drop_length, List.append_nil] at e0 hLl
    have hLs : ∀ x ∈ l.map trimE, EntSm x := fun x hx => by
      obtain ⟨y, _, rfl⟩ := List.mem_map.1 hx
      exact ⟨by show (y.name.take 60).length ≤ 1000; rw [List.length_take]; omega, by show (y.value.take 60).length ≤ 1000; rw [List.length_take]; omega⟩
    obtain ⟨L, hLe⟩ : ∃ L, l.map trimE = L := ⟨_, rfl⟩
    rw [hLe] at e0 hLl hLs
    have d1 : decide ((l.length : Int) < (L.length : Int)) = false := decide_eq_false (by omega)
    have cE := fEncode_ok (G := G) L (by omega) hLs
    have cR := refFormEncode_ok (G := G) L (by omega) hLs
    have cD := fDecode_ok (G := G) hG s hs
    generalize coded L = C at *
    obtain ⟨C1, C2⟩ := C
    have e11 : (C1 == C1) = true := by simp
    have e22 : (C2 == C2) = true := by simp
    by_cases h4 : 4000 < s.length
    · have d4 : decide ((4000 : Int) < (s.length : Int)) = true := decide_eq_true (by omega)
      rw [decoded_long h4] at cD
      have z2 : ((2 : Int) == 2) = true := rfl
      have z0 : ((0 : Int) == 0) = true := rfl
      repeat' (first | ((with_reducible refine Br.dec (fun _ => ?_) (fun _ => ?_)) <;> try (exfalso; omega)) | ((with_reducible refine Br.eq (fun _ => ?_) (fun _ => ?_)) <;> try (exfalso; omega)) | ((with_reducible refine Br.ne (fun _ => ?_) (fun _ => ?_)) <;> try (exfalso; omega)) | ((with_reducible refine brNdec (fun _ => ?_) (fun _ => ?_)) <;> try (exfalso; omega)) | ((with_reducible refine brNeq (fun _ => ?_) (fun _ => ?_)) <;> try (exfalso; omega)) | with_reducible refine Br.intro (fun _ => ?_) (fun _ => ?_) | (with_reducible apply pcallE.of; · exact cE) | (with_reducible apply pcallE.of; · exact cR) | (with_reducible apply pcallE.of; · exact cD) | (with_reducible apply pcallE.of; · exact hB) | (with_reducible refine And.intro ?_ ?_; · omega) | simp -dsimp -implicitDefEqProofs (disch := omega) only [↓vcOps_sp 69, ↓vcOps_sp 74, ↓vcOps_sp 79, ↓vcOps_sp 83, VCA, Nat.reduceEqDiff, Nat.reduceAdd, Nat.reduceLT, ↓reduceIte, reduceCtorEq, exists_eq_right_right, e0, e1, e5, d1, d4, e11, e22, z2])
      all_goals first | exact S | rfl | exact ⟨S, rfl⟩
    · have d4 : decide ((4000 : Int) < (s.length : Int)) = false := decide_eq_false (by omega)
      have hSo : PCalls (Pg G) 6 [.str s, .int .i64 600] (.str (s.take 600)) := some_ok s 600 hs
      have h6 : (s.take 600).length ≤ 600 := by rw [List.length_take]; omega
      generalize s.take 600 = s6 at *
      have cD6 := fDecode_ok (G := G) hG s6 (by omega)
      have cR6 := refFormDecode_ok (G := G) s6 (by omega)
      have hle : (decoded s6).1.length ≤ 1073741824 := by
        have := entsM_len s6
        unfold Go.Proofs.K.decoded
        (repeat' split) <;> simp <;> omega
      have cS := sameEnt_ok (G := G) (decoded s6).1 hle
      generalize decoded s6 = D at *
      obtain ⟨D1, D2⟩ := D
      generalize decoded s = D' at *
      obtain ⟨D3, D4⟩ := D'
      have e33 : (D2 == D2) = true := by simp
      repeat' (first | ((with_reducible refine Br.dec (fun _ => ?_) (fun _ => ?_)) <;> try (exfalso; omega)) | ((with_reducible refine Br.eq (fun _ => ?_) (fun _ => ?_)) <;> try (exfalso; omega)) | ((with_reducible refine Br.ne (fun _ => ?_) (fun _ => ?_)) <;> try (exfalso; omega)) | ((with_reducible refine brNdec (fun _ => ?_) (fun _ => ?_)) <;> try (exfalso; omega)) | ((with_reducible refine brNeq (fun _ => ?_) (fun _ => ?_)) <;> try (exfalso; omega)) | with_reducible refine Br.intro (fun _ => ?_) (fun _ => ?_) | (with_reducible apply pcallE.of; · exact cE) | (with_reducible apply pcallE.of; · exact cR) | (with_reducible apply pcallE.of; · exact cD) | (with_reducible apply pcallE.of; · exact cD6) | (with_reducible apply pcallE.of; · exact cR6) | (with_reducible apply pcallE.of; · exact cS) | (with_reducible apply pcallE.of; · exact hSo) | (with_reducible apply pcallE.of; · exact hB) | (with_reducible refine And.intro ?_ ?_; · omega) | simp -dsimp -implicitDefEqProofs (disch := omega) only [↓vcOps_sp 101, ↓vcOps_sp 106, ↓vcOps_sp 111, ↓vcOps_sp 116, VCA, Nat.reduceEqDiff, Nat.reduceAdd, Nat.reduceLT, ↓reduceIte, reduceCtorEq, exists_eq_right, e0, e1, e5, d1, d4, e11, e22, e33])
      all_goals first | exact S | rfl | exact ⟨S, rfl⟩
end Go.Proofs.K
end
section
/- forms: what a control's value is, and what of a form is told (plain). -/
set_option linter.unusedSimpArgs false
set_option linter.unusedVariables false
namespace Go.Proofs.K
open Go Go.Sim Go.Proofs
variable {d : HDoc}
/-- a form's control, or a form -/
def ctlE (d : HDoc) (n : Int) (nm : List UInt8) : Int := if docE d ≠ 0 then docE d else if ¬ inD d n then 1 else if (nd d n).kind ≠ 2 ∨ inW (nd d n).name nm = false then 7 else if 0 ∈ chain d n then 0 else 5
def ownM (d : HDoc) (o : List Int) (n : Int) : Int :=
  if hasA d n [102, 111, 114, 109] = false then abM d (isN d [102, 111, 114, 109]) n
  else match o.find? (fun k => hasA d k [105, 100] && attD d k [105, 100] == attD d n [102, 111, 114, 109]) with
  | some k => if isN d [102, 111, 114, 109] k = true then k else -1
  | none => -1
def tickM (k : List UInt8) : Bool := k == [99, 104, 101, 99, 107, 98, 111, 120] || k == [114, 97, 100, 105, 111]
def kindM (d : HDoc) (n : Int) : List UInt8 := if (nd d n).name = [105, 110, 112, 117, 116] then typM (attD d n [116, 121, 112, 101]) else (nd d n).name
def optV (d : HDoc) (k : Int) : List UInt8 := if hasA d k [118, 97, 108, 117, 101] = true then attD d k [118, 97, 108, 117, 101] else lettersM d (below d k)
/-- those below a node, of a name -/
def belO (d : HDoc) (nm : List UInt8) (n : Int) : List Int := ((below d n).drop 1).filter (isN d nm)
def chosM (d : HDoc) (n : Int) : List Int :=
  if (belO d [111, 112, 116, 105, 111, 110] n).filter (fun k => hasA d k [115, 101, 108, 101, 99, 116, 101, 100]) ≠ [] ∨ hasA d n [109, 117, 108, 116, 105, 112, 108, 101] = true then (belO d [111, 112, 116, 105, 111, 110] n).filter (fun k => hasA d k [115, 101, 108, 101, 99, 116, 101, 100])
  else ((belO d [111, 112, 116, 105, 111, 110] n).filter fun k => !hasA d k [100, 105, 115, 97, 98, 108, 101, 100]).take 1
def valM (d : HDoc) (n : Int) : List UInt8 :=
  if (nd d n).name = [116, 101, 120, 116, 97, 114, 101, 97] then lettersM d (below d n)
  else if (nd d n).name = [115, 101, 108, 101, 99, 116] then (if chosM d n = [] then [] else optV d (nth (chosM d n) ((chosM d n).length - 1)))
  else if tickM (kindM d n) = true ∧ hasA d n [118, 97, 108, 117, 101] = false then [111, 110] else attD d n [118, 97, 108, 117, 101]
def offM (d : HDoc) (k : Int) : Bool := isN d [102, 105, 101, 108, 100, 115, 101, 116] k && hasA d k [100, 105, 115, 97, 98, 108, 101, 100]
def toldM (d : HDoc) (n : Int) : Bool :=
  !(attD d n [110, 97, 109, 101] == [] || (hasA d n [100, 105, 115, 97, 98, 108, 101, 100] || decide (0 ≤ abM d (offM d) n))) && (!(inW (kindM d n) subS) && (!tickM (kindM d n) || hasA d n [99, 104, 101, 99, 107, 101, 100]))
def entsOf (d : HDoc) (n : Int) : List HEnt :=
  if (nd d n).name = [115, 101, 108, 101, 99, 116] then ((if hasA d n [109, 117, 108, 116, 105, 112, 108, 101] = true then chosM d n else (chosM d n).drop ((chosM d n).length - 1)).map fun k => ⟨attD d n [110, 97, 109, 101], optV d k⟩)
  else [⟨attD d n [110, 97, 109, 101], valM d n⟩]
def tellM (d : HDoc) (f n : Int) : Bool := inW (nd d n).name ctlS && (ownM d (below d 0) n == f && toldM d n)
def radM (d : HDoc) (n : Int) : Bool := kindM d n == [114, 97, 100, 105, 111]
/-- one is behind that is told in this one's place -/
def lateM (d : HDoc) (f : Int) (r : List Int) (n : Int) : Bool := radM d n && r.any fun k => tellM d f k && (radM d k && attD d k [110, 97, 109, 101] == attD d n [110, 97, 109, 101])
def entL (d : HDoc) (f : Int) : List Int → List HEnt
  | [] => []
  | n :: r => (if tellM d f n = true ∧ lateM d f r n = false then entsOf d n else []) ++ entL d f r
theorem attD_len (V : DV d) {n : Int} (hn : inD d n) (nm : List UInt8) : (attD d n nm).length ≤ 400 := by
  have h := V.node n hn
  unfold nodeE at h
  have ha : attrsE (nd d n).attrs = 0 := by
    by_cases h1 : (nd d n).kind < 1 ∨ 5 < (nd d n).kind ∨ bareM (nd d n) = false
    · rw [if_pos h1] at h; omega
    · rw [if_neg h1] at h
      by_cases h2 : (nd d n).kind = 2 ∧ nameOK true (nd d n).name = false
      · rw [if_pos h2] at h; omega
      · rw [if_neg h2] at h
        by_cases h3 : attrsE (nd d n).attrs = 0
        · exact h3
        · rw [if_pos h3] at h; exact absurd h h3
  unfold attD attV
  split
  · rename_i h0
    have hb := (attrAt_spec (nd d n).attrs nm h0).1
    unfold attrsE at ha
    split at ha
    · omega
    have hE := fe_zero ha _ hb
    unfold attrE at hE
    split at hE
    · omega
    split at hE
    · omega
    · omega
  · simp
theorem name_len (V : DV d) {n : Int} (hn : inD d n) : (nd d n).name.length ≤ 400 := by
  have h := V.node n hn
  unfold nodeE at h
  repeat' split at h
  all_goals omega
theorem lett_len (V : DV d) {n : Int} (hn : inD d n) : (lettersM d (below d n)).length ≤ 80000 := by
  have h1 := letters_len V (below d n) (below_in V n hn)
  have h2 := below_len V hn
  have h3 := V.len
  have : 400 * (below d n).length ≤ 400 * 200 := Nat.mul_le_mul_left _ (by omega)
  omega
theorem belO_in (V : DV d) {n : Int} (hn : inD d n) {nm : List UInt8} : ∀ k ∈ belO d nm n, inD d k := fun k hk =>
  below_in V n hn k (List.mem_of_mem_drop (List.mem_filter.1 hk).1)
theorem belO_len (V : DV d) {n : Int} (hn : inD d n) {nm : List UInt8} : (belO d nm n).length ≤ 200 := by
  have h1 := below_len V hn
  have h2 := V.len
  have h3 := List.length_filter_le (isN d nm) ((below d n).drop 1)
  rw [List.length_drop] at h3
  unfold belO; omega
theorem chosM_in (V : DV d) {n : Int} (hn : inD d n) : ∀ k ∈ chosM d n, inD d k := fun k hk => by
  unfold chosM at hk
  split at hk
  · exact belO_in V hn k (List.mem_filter.1 hk).1
  · exact belO_in V hn k (List.mem_filter.1 (List.mem_of_mem_take hk)).1
theorem chosM_len (V : DV d) {n : Int} (hn : inD d n) : (chosM d n).length ≤ 200 := by
  have h := belO_len V hn (nm := [111, 112, 116, 105, 111, 110])
  unfold chosM
  split
  · exact Nat.le_trans (List.length_filter_le _ _) h
  · rw [List.length_take]; have := List.length_filter_le (fun k => !hasA d k [100, 105, 115, 97, 98, 108, 101, 100]) (belO d [111, 112, 116, 105, 111, 110] n); omega
theorem entsOf_len (V : DV d) {n : Int} (hn : inD d n) : (entsOf d n).length ≤ 200 := by
  have h := chosM_len V hn
  unfold entsOf
  split
  · rw [List.length_map]
    split
    · exact h
    · rw [List.length_drop]; omega
  · simp
theorem entL_len (V : DV d) (f : Int) : ∀ l : List Int, (∀ k ∈ l, inD d k) → (entL d f l).length ≤ 200 * l.length
  | [], _ => by simp [entL]
  | n :: r, h => by
    have h1 := entL_len V f r fun k hk => h k (List.mem_cons_of_mem _ hk)
    have h2 := entsOf_len V (h n List.mem_cons_self)
    rw [entL, List.length_append, List.length_cons]
    split <;> simp <;> omega
end Go.Proofs.K
end
section
/- forms: a control; its owner; what lies below it. -/
set_option linter.unusedSimpArgs false
set_option linter.unusedVariables false
namespace Go.Proofs.K
open Go Go.Sim Go.Proofs
variable {G : Glob}
def c32 : SFun := ⟨(.seq (.reg [⟨(some 3), (.boxF 36 2 (.t 0)), none⟩, ⟨(some 6), (.mv (.c (.prim (Value.pointer none)))), none⟩, ⟨(some 7), (.mv (.c (.int .i64 (0)))), none⟩]) (.seq (.reg [⟨(some 11), (.ld 2 true (.t 3)), none⟩, ⟨(some 12), (.pcall 74 [(.t 11)]), none⟩, ⟨(some 10), (.mv (.t 12)), none⟩, ⟨(some 13), (.ext (.t 10) 0), none⟩, ⟨(some 14), (.ext (.t 10) 1), none⟩, ⟨(some 8), (.mv (.t 13)), none⟩, ⟨(some 9), (.mv (.t 14)), none⟩]) (.seq (.block 0 (.seq (.reg [⟨(some 16), (.mv (.t 9)), none⟩, ⟨(some 17), (.bin .neq (.t 16) (.c (.int .i64 (0)))), none⟩, ⟨(some 15), (.mv (.t 17)), none⟩]) (.cond (.t 15) .skip (.seq (.reg [⟨(some 19), (.mv (.t 1)), none⟩, ⟨(some 20), (.bin .lss (.t 19) (.c (.int .i64 (0)))), none⟩, ⟨(some 21), (.mv (.t 20)), none⟩, ⟨(some 22), (.mv (.t 1)), (some (21, false))⟩, ⟨(some 23), (.fldA 0 (.t 3)), (some (21, false))⟩, ⟨(some 24), (.ld 1 false (.t 23)), (some (21, false))⟩, ⟨(some 25), (.len (.t 24)), (some (21, false))⟩, ⟨(some 26), (.bin .geq (.t 22) (.t 25)), (some (21, false))⟩, ⟨(some 27), (.pick (.t 21) (.c (.bool true)) (.t 26)), none⟩, ⟨(some 18), (.mv (.t 27)), none⟩]) (.cond (.t 18) (.reg [⟨(some 9), (.mv (.c (.int .i64 (1)))), none⟩]) (.seq (.reg [⟨(some 29), (.fldA 0 (.t 3)), none⟩, ⟨(some 30), (.ld 1 false (.t 29)), none⟩, ⟨(some 31), (.mv (.t 1)), none⟩, ⟨(some 32), (.idxA 6 (.t 30) (.t 31)), none⟩, ⟨(some 33), (.fldA 0 (.t 32)), none⟩, ⟨(some 34), (.ld 1 false (.t 33)), none⟩, ⟨(some 35), (.bin .neq (.t 34) (.c (.int .i64 (2)))), none⟩, ⟨(some 36), (.mv (.t 35)), none⟩, ⟨(some 37), (.fldA 0 (.t 3)), (some (36, false))⟩, ⟨(some 38), (.ld 1 false (.t 37)), (some (36, false))⟩, ⟨(some 39), (.mv (.t 1)), (some (36, false))⟩, ⟨(some 40), (.idxA 6 (.t 38) (.t 39)), (some (36, false))⟩, ⟨(some 41), (.fldA 1 (.t 40)), (some (36, false))⟩, ⟨(some 42), (.ld 1 false (.t 41)), (some (36, false))⟩, ⟨(some 43), (.mv (.t 2)), (some (36, false))⟩, ⟨(some 44), (.pcall 34 [(.t 42), (.t 43)]), (some (36, false))⟩, ⟨(some 45), (.un .not (.t 44)), (some (36, false))⟩, ⟨(some 46), (.pick (.t 36) (.c (.bool true)) (.t 45)), none⟩, ⟨(some 28), (.mv (.t 46)), none⟩]) (.cond (.t 28) (.reg [⟨(some 9), (.mv (.c (.int .i64 (7)))), none⟩]) (.seq (.reg [⟨(some 48), (.mv (.t 8)), none⟩, ⟨(some 49), (.mv (.t 1)), none⟩, ⟨(some 50), (.pcall 75 [(.t 48), (.t 49)]), none⟩, ⟨(some 51), (.un .not (.t 50)), none⟩, ⟨(some 47), (.mv (.t 51)), none⟩]) (.cond (.t 47) (.reg [⟨(some 9), (.mv (.c (.int .i64 (5)))), none⟩]) .skip))))))))) (.seq (.reg [⟨(some 52), (.ld 2 true (.t 3)), none⟩, ⟨(some 53), (.mv (.t 8)), none⟩, ⟨(some 54), (.bld [.emp, (.bool false), .emp] [(0, (2, (.t 52))), (2, (1, (.t 53)))]), none⟩, ⟨(some 55), (.boxF 69 3 (.t 54)), none⟩, ⟨(some 56), (.mv (.t 9)), none⟩, ⟨(some 6), (.mv (.t 55)), none⟩, ⟨(some 7), (.mv (.t 56)), none⟩]) .ret)))), [(.tmp 6), (.tmp 7)]⟩
theorem hc32 : toSF Tryz.prog {pure := [74, 34, 75]} Tryz.f32 = some c32 := by kernel_rfl
theorem hn32 : (Tryz.f32.name == "runtime.NumGoroutine") = false := by kernel_rfl
theorem control_ok (hG : MaxLenOK G) (d : HDoc) (sm : DocSm d) (n : Int) (nm : List UInt8) (hs : ((splitB 32 [] nm).any (· == [])) = false) (hnl : nm.length < 4294967200) :
    PCalls (Pg G) 32 [.agg (eDoc d), aInt n, .str (32 :: (nm ++ [32]))] (.tup [fA d (orderD d), aInt (ctlE d n nm)]) := fun h => by
  have hl := sm.len
  have cO := order2_ok (G := G) d sm
  unfold eDoc at cO
  by_cases h0 : docE d = 0
  · have V := docE_DV h0
    have oD : orderD d = below d 0 := if_pos h0
    have bl := below_len V V.zero
    rw [oD, h0] at cO
    rw [oD]
    by_cases hn : inD d n
    · have n0 := hn.1
      have n1 := hn.2
      have e0 : nth d.nodes n.toNat = nd d n := rfl
      have b1 : decide (n < 0) = false := decide_eq_false (by omega)
      have b2 : decide ((d.nodes.length : Int) ≤ n) = false := decide_eq_false (by omega)
      have cC := hasI_ok (G := G) (below d 0) n (by omega)
      rw [show (below d 0).any (· == n) = decide (n ∈ below d 0) by rw [Bool.eq_iff_iff]; simp] at cC
      have nl := name_len V hn
      have cW := one_in (G := G) hG (nd d n).name nm hs (by omega) hnl
      have hE : ctlE d n nm = if (nd d n).kind ≠ 2 ∨ inW (nd d n).name nm = false then 7 else if 0 ∈ chain d n then 0 else 5 := by
        unfold ctlE; rw [if_neg (by simpa using h0), if_neg (by simpa using hn)]
      have hm := mem_below V hn V.zero
      by_cases hk : (nd d n).kind = 2
      · have bk : ((nd d n).kind != 2) = false := by simpa using hk
        cases hw : inW (nd d n).name nm
        · rw [hw] at cW
          rw [hE, if_pos (.inr hw)]
          refine dcalls_of_vc Tryz.func32 hn32 hc32 (by rw [Tryz.ntmps32]; simp) (by rw [Tryz.ntmps32]; decide) ?_
          simp -dsimp -implicitDefEqProofs (disch := omega) only [VCA, Nat.reduceEqDiff, Nat.reduceAdd, ↓reduceIte, c32, eDoc]
          repeat' (first | ((with_reducible refine Br.dec (fun _ => ?_) (fun _ => ?_)) <;> try (exfalso; omega)) | ((with_reducible refine Br.eq (fun _ => ?_) (fun _ => ?_)) <;> try (exfalso; omega)) | ((with_reducible refine Br.ne (fun _ => ?_) (fun _ => ?_)) <;> try (exfalso; omega)) | ((with_reducible refine brNdec (fun _ => ?_) (fun _ => ?_)) <;> try (exfalso; omega)) | ((with_reducible refine brNeq (fun _ => ?_) (fun _ => ?_)) <;> try (exfalso; omega)) | with_reducible refine Br.intro (fun _ => ?_) (fun _ => ?_) | (with_reducible apply pcallE.of; · exact cO) | (with_reducible apply pcallE.of; · exact cC) | (with_reducible apply pcallE.of; · exact cW) | (with_reducible refine And.intro ?_ ?_; · omega) | simp -dsimp -implicitDefEqProofs (disch := omega) only [↓vcOps_sp 21, ↓vcOps_sp 36, VCA, Nat.reduceEqDiff, Nat.reduceAdd, Nat.reduceLT, Nat.reduceLeDiff, ↓reduceIte, fillA, okFill, exists_eq_right_right, b1, b2, bk, eNode, e0])
          all_goals first | exact Sub.refl _ | exact ⟨Sub.refl _, rfl⟩ | trace_state
        · rw [hw] at cW
          by_cases hc : 0 ∈ chain d n
          · rw [decide_eq_true (hm.2 hc)] at cC
            rw [hE, if_neg (by simp [hk, hw]), if_pos hc]
            refine dcalls_of_vc Tryz.func32 hn32 hc32 (by rw [Tryz.ntmps32]; simp) (by rw [Tryz.ntmps32]; decide) ?_
            simp -dsimp -implicitDefEqProofs (disch := omega) only [VCA, Nat.reduceEqDiff, Nat.reduceAdd, ↓reduceIte, c32, eDoc]
            repeat' (first | ((with_reducible refine Br.dec (fun _ => ?_) (fun _ => ?_)) <;> try (exfalso; omega)) | ((with_reducible refine Br.eq (fun _ => ?_) (fun _ => ?_)) <;> try (exfalso; omega)) | ((with_reducible refine Br.ne (fun _ => ?_) (fun _ => ?_)) <;> try (exfalso; omega)) | ((with_reducible refine brNdec (fun _ => ?_) (fun _ => ?_)) <;> try (exfalso; omega)) | ((with_reducible refine brNeq (fun _ => ?_) (fun _ => ?_)) <;> try (exfalso; omega)) | with_reducible refine Br.intro (fun _ => ?_) (fun _ => ?_) | (with_reducible apply pcallE.of; · exact cO) | (with_reducible apply pcallE.of; · exact cC) | (with_reducible apply pcallE.of; · exact cW) | (with_reducible refine And.intro ?_ ?_; · omega) | simp -dsimp -implicitDefEqProofs (disch := omega) only [↓vcOps_sp 21, ↓vcOps_sp 36, VCA, Nat.reduceEqDiff, Nat.reduceAdd, Nat.reduceLT, Nat.reduceLeDiff, ↓reduceIte, fillA, okFill, exists_eq_right_right, b1, b2, bk, eNode, e0])
            all_goals first | exact Sub.refl _ | exact ⟨Sub.refl _, rfl⟩ | trace_state
          · rw [decide_eq_false (fun q => hc (hm.1 q))] at cC
            rw [hE, if_neg (by simp [hk, hw]), if_neg hc]
            refine dcalls_of_vc Tryz.func32 hn32 hc32 (by rw [Tryz.ntmps32]; simp) (by rw [Tryz.ntmps32]; decide) ?_
            simp -dsimp -implicitDefEqProofs (disch := omega) only [VCA, Nat.reduceEqDiff, Nat.reduceAdd, ↓reduceIte, c32, eDoc]
            repeat' (first | ((with_reducible refine Br.dec (fun _ => ?_) (fun _ => ?_)) <;> try (exfalso; omega)) | ((with_reducible refine Br.eq (fun _ => ?_) (fun _ => ?_)) <;> try (exfalso; omega)) | ((with_reducible refine Br.ne (fun _ => ?_) (fun _ => ?_)) <;> try (exfalso; omega)) | ((with_reducible refine brNdec (fun _ => ?_) (fun _ => ?_)) <;> try (exfalso; omega)) | ((with_reducible refine brNeq (fun _ => ?_) (fun _ => ?_)) <;> try (exfalso; omega)) | with_reducible refine Br.intro (fun _ => ?_) (fun _ => ?_) | (with_reducible apply pcallE.of; · exact cO) | (with_reducible apply pcallE.of; · exact cC) | (with_reducible apply pcallE.of; · exact cW) | (with_reducible refine And.intro ?_ ?_; · omega) | simp -dsimp -implicitDefEqProofs (disch := omega) only [↓vcOps_sp 21, ↓vcOps_sp 36, VCA, Nat.reduceEqDiff, Nat.reduceAdd, Nat.reduceLT, Nat.reduceLeDiff, ↓reduceIte, fillA, okFill, exists_eq_right_right, b1, b2, bk, eNode, e0])
            all_goals first | exact Sub.refl _ | exact ⟨Sub.refl _, rfl⟩ | trace_state
      · have bk : ((nd d n).kind != 2) = true := by simpa using hk
        rw [hE, if_pos (.inl hk)]
        refine dcalls_of_vc Tryz.func32 hn32 hc32 (by rw [Tryz.ntmps32]; simp) (by rw [Tryz.ntmps32]; decide) ?_
        simp -dsimp -implicitDefEqProofs (disch := omega) only [VCA, Nat.reduceEqDiff, Nat.reduceAdd, ↓reduceIte, c32, eDoc]
        repeat' (first | ((with_reducible refine Br.dec (fun _ => ?_) (fun _ => ?_)) <;> try (exfalso; omega)) | ((with_reducible refine Br.eq (fun _ => ?_) (fun _ => ?_)) <;> try (exfalso; omega)) | ((with_reducible refine Br.ne (fun _ => ?_) (fun _ => ?_)) <;> try (exfalso; omega)) | ((with_reducible refine brNdec (fun _ => ?_) (fun _ => ?_)) <;> try (exfalso; omega)) | ((with_reducible refine brNeq (fun _ => ?_) (fun _ => ?_)) <;> try (exfalso; omega)) | with_reducible refine Br.intro (fun _ => ?_) (fun _ => ?_) | (with_reducible apply pcallE.of; · exact cO) | (with_reducible apply pcallE.of; · exact cC) | (with_reducible apply pcallE.of; · exact cW) | (with_reducible refine And.intro ?_ ?_; · omega) | simp -dsimp -implicitDefEqProofs (disch := omega) only [↓vcOps_sp 21, ↓vcOps_sp 36, VCA, Nat.reduceEqDiff, Nat.reduceAdd, Nat.reduceLT, Nat.reduceLeDiff, ↓reduceIte, fillA, okFill, exists_eq_right_right, b1, b2, bk, eNode, e0])
        all_goals first | exact Sub.refl _ | exact ⟨Sub.refl _, rfl⟩ | trace_state
    · have hE : ctlE d n nm = 1 := by unfold ctlE; rw [if_neg (by simpa using h0), if_pos hn]
      rw [hE]
      by_cases hneg : n < 0
      · have b1 : decide (n < 0) = true := decide_eq_true hneg
        refine dcalls_of_vc Tryz.func32 hn32 hc32 (by rw [Tryz.ntmps32]; simp) (by rw [Tryz.ntmps32]; decide) ?_
        simp -dsimp -implicitDefEqProofs (disch := omega) only [VCA, Nat.reduceEqDiff, Nat.reduceAdd, ↓reduceIte, c32, eDoc]
        repeat' (first | ((with_reducible refine Br.dec (fun _ => ?_) (fun _ => ?_)) <;> try (exfalso; omega)) | ((with_reducible refine Br.eq (fun _ => ?_) (fun _ => ?_)) <;> try (exfalso; omega)) | ((with_reducible refine Br.ne (fun _ => ?_) (fun _ => ?_)) <;> try (exfalso; omega)) | ((with_reducible refine brNdec (fun _ => ?_) (fun _ => ?_)) <;> try (exfalso; omega)) | ((with_reducible refine brNeq (fun _ => ?_) (fun _ => ?_)) <;> try (exfalso; omega)) | with_reducible refine Br.intro (fun _ => ?_) (fun _ => ?_) | (with_reducible apply pcallE.of; · exact cO) | (with_reducible refine And.intro ?_ ?_; · omega) | simp -dsimp -implicitDefEqProofs (disch := omega) only [↓vcOps_sp 21, VCA, Nat.reduceEqDiff, Nat.reduceAdd, Nat.reduceLT, Nat.reduceLeDiff, ↓reduceIte, fillA, okFill, exists_eq_right_right, b1])
        all_goals first | exact Sub.refl _ | exact ⟨Sub.refl _, rfl⟩ | trace_state
      · have b1 : decide (n < 0) = false := decide_eq_false hneg
        have b2 : decide ((d.nodes.length : Int) ≤ n) = true := decide_eq_true (by unfold inD at hn; omega)
        refine dcalls_of_vc Tryz.func32 hn32 hc32 (by rw [Tryz.ntmps32]; simp) (by rw [Tryz.ntmps32]; decide) ?_
        simp -dsimp -implicitDefEqProofs (disch := omega) only [VCA, Nat.reduceEqDiff, Nat.reduceAdd, ↓reduceIte, c32, eDoc]
        repeat' (first | ((with_reducible refine Br.dec (fun _ => ?_) (fun _ => ?_)) <;> try (exfalso; omega)) | ((with_reducible refine Br.eq (fun _ => ?_) (fun _ => ?_)) <;> try (exfalso; omega)) | ((with_reducible refine Br.ne (fun _ => ?_) (fun _ => ?_)) <;> try (exfalso; omega)) | ((with_reducible refine brNdec (fun _ => ?_) (fun _ => ?_)) <;> try (exfalso; omega)) | ((with_reducible refine brNeq (fun _ => ?_) (fun _ => ?_)) <;> try (exfalso; omega)) | with_reducible refine Br.intro (fun _ => ?_) (fun _ => ?_) | (with_reducible apply pcallE.of; · exact cO) | (with_reducible refine And.intro ?_ ?_; · omega) | simp -dsimp -implicitDefEqProofs (disch := omega) only [↓vcOps_sp 21, VCA, Nat.reduceEqDiff, Nat.reduceAdd, Nat.reduceLT, Nat.reduceLeDiff, ↓reduceIte, fillA, okFill, exists_eq_right_right, b1, b2])
        all_goals first | exact Sub.refl _ | exact ⟨Sub.refl _, rfl⟩ | trace_state
  · have hE : ctlE d n nm = docE d := if_pos h0
    rw [hE]
    obtain ⟨x, hx⟩ : ∃ x, docE d = x := ⟨_, rfl⟩
    rw [hx] at cO h0 ⊢
    have bx : (x != 0) = true := by simpa using h0
    generalize orderD d = o at *
    refine dcalls_of_vc Tryz.func32 hn32 hc32 (by rw [Tryz.ntmps32]; simp) (by rw [Tryz.ntmps32]; decide) ?_
    simp -dsimp -implicitDefEqProofs (disch := omega) only [VCA, Nat.reduceEqDiff, Nat.reduceAdd, ↓reduceIte, c32, eDoc]
    repeat' (first | ((with_reducible refine Br.dec (fun _ => ?_) (fun _ => ?_)) <;> try (exfalso; omega)) | ((with_reducible refine Br.eq (fun _ => ?_) (fun _ => ?_)) <;> try (exfalso; omega)) | ((with_reducible refine Br.ne (fun _ => ?_) (fun _ => ?_)) <;> try (exfalso; omega)) | ((with_reducible refine brNdec (fun _ => ?_) (fun _ => ?_)) <;> try (exfalso; omega)) | ((with_reducible refine brNeq (fun _ => ?_) (fun _ => ?_)) <;> try (exfalso; omega)) | with_reducible refine Br.intro (fun _ => ?_) (fun _ => ?_) | (with_reducible apply pcallE.of; · exact cO) | (with_reducible refine And.intro ?_ ?_; · omega) | simp -dsimp -implicitDefEqProofs (disch := omega) only [VCA, Nat.reduceEqDiff, Nat.reduceAdd, Nat.reduceLT, Nat.reduceLeDiff, ↓reduceIte, fillA, okFill, exists_eq_right_right, bx])
    all_goals first | exact Sub.refl _ | exact ⟨Sub.refl _, rfl⟩ | trace_state
def c35 : SFun := ⟨(.seq (.reg [⟨(some 4), (.mv (.c (.int .i64 (0)))), none⟩]) (.seq (.seq (.reg [⟨(some 8), (.mv (.t 0)), none⟩, ⟨(some 9), (.mv (.t 1)), none⟩, ⟨(some 10), (.pcall 78 [(.t 8), (.t 9), (.c (.str [102, 111, 114, 109]))]), none⟩, ⟨(some 11), (.un .not (.t 10)), none⟩]) (.cond (.t 11) (.seq (.reg [⟨(some 12), (.mv (.t 0)), none⟩, ⟨(some 13), (.mv (.t 1)), none⟩, ⟨(some 14), (.mv (.t 0)), none⟩, ⟨(some 15), (.pcall 80 [(.t 14), (.c (.str [102, 111, 114, 109]))]), none⟩, ⟨(some 16), (.pcall 79 [(.t 12), (.t 13), (.t 15)]), none⟩, ⟨(some 4), (.mv (.t 16)), none⟩]) .ret) .skip)) (.seq (.reg [⟨(some 17), (.mv (.t 0)), none⟩, ⟨(some 18), (.mv (.t 1)), none⟩, ⟨(some 19), (.pcall 38 [(.t 17), (.t 18), (.c (.str [102, 111, 114, 109]))]), none⟩, ⟨(some 5), (.mv (.t 19)), none⟩]) (.seq (.seq (.reg [⟨(some 20), (.mv (.t 0)), none⟩, ⟨(some 21), (.fldA 0 (.t 20)), none⟩, ⟨(some 22), (.fldA 2 (.t 21)), none⟩, ⟨(some 23), (.ld 1 false (.t 22)), none⟩, ⟨(some 24), (.len (.t 23)), none⟩, ⟨(some 25), (.mv (.c (.int .i64 (0)))), none⟩]) (.block 0 (.loop (.seq (.reg [⟨(some 26), (.bin .lss (.t 25) (.t 24)), none⟩]) (.seq (.cond (.t 26) .skip (.exit 0)) (.seq (.block 1 (.seq (.reg [⟨(some 27), (.idxA 1 (.t 23) (.t 25)), none⟩, ⟨(some 28), (.ld 1 false (.t 27)), none⟩, ⟨(some 7), (.mv (.t 28)), none⟩]) (.seq (.reg [⟨(some 29), (.mv (.t 0)), none⟩, ⟨(some 30), (.mv (.t 7)), none⟩, ⟨(some 31), (.pcall 78 [(.t 29), (.t 30), (.c (.str [105, 100]))]), none⟩, ⟨(some 32), (.mv (.t 31)), none⟩, ⟨(some 33), (.mv (.t 0)), (some (32, true))⟩, ⟨(some 34), (.mv (.t 7)), (some (32, true))⟩, ⟨(some 35), (.pcall 38 [(.t 33), (.t 34), (.c (.str [105, 100]))]), (some (32, true))⟩, ⟨(some 36), (.mv (.t 5)), (some (32, true))⟩, ⟨(some 37), (.bin .eql (.t 35) (.t 36)), (some (32, true))⟩, ⟨(some 38), (.pick (.t 32) (.t 37) (.c (.bool false))), none⟩]) (.cond (.t 38) (.seq (.seq (.reg [⟨(some 39), (.mv (.t 0)), none⟩, ⟨(some 40), (.pcall 80 [(.t 39), (.c (.str [102, 111, 114, 109]))]), none⟩, ⟨(some 41), (.mv (.t 7)), none⟩, ⟨(some 42), (.call (.t 40) [(.t 41)]), none⟩]) (.cond (.t 42) (.seq (.reg [⟨(some 43), (.mv (.t 7)), none⟩, ⟨(some 4), (.mv (.t 43)), none⟩]) .ret) .skip)) (.seq (.reg [⟨(some 4), (.mv (.c (.int .i64 (-1)))), none⟩]) .ret)) .skip)))) (.reg [⟨(some 44), (.bin .add (.t 25) (.c (.int .i64 (1)))), none⟩, ⟨(some 25), (.mv (.t 44)), none⟩]))))))) (.seq (.reg [⟨(some 4), (.mv (.c (.int .i64 (-1)))), none⟩]) .ret))))), [(.tmp 4)]⟩
theorem hc35 : toSF Tryz.prog {pure := [78, 38, 79, 80]} Tryz.f35 = some c35 := by kernel_rfl
theorem hn35 : (Tryz.f35.name == "runtime.NumGoroutine") = false := by kernel_rfl
theorem owner_ok (d : HDoc) (V : DV d) (sm : DocSm d) (o : List Int) (ho : ∀ k ∈ o, inD d k) (hol : o.length ≤ 1000) (n : Int) (hn : inD d n) : PCalls (Pg G) 35 [fA d o, aInt n] (aInt (ownM d o n)) := fun h => by
  have c1 := fhas_ok (G := G) d sm o n hn [102, 111, 114, 109]
  have c2 := fattr_ok (G := G) d sm o n hn [102, 111, 114, 109]
  have c3 := fnamed_ok (G := G) d o [102, 111, 114, 109]
  have c4 := fabove_ok (G := G) d V sm o n hn 113 [] [.pin [fA d o], .pin [.str [102, 111, 114, 109]]] (isN d [102, 111, 114, 109]) fun k hk => fnamed1_ok d sm o k hk [102, 111, 114, 109]
  have al := attD_len V hn [102, 111, 114, 109]
  have fE : fA d o = .pin [sl eNode d.nodes, .bool d.quirks, sl eInt o] := rfl
  obtain ⟨F, hF⟩ : ∃ F, fA d o = F := ⟨_, rfl⟩
  rw [hF] at c1 c2 c3 c4 fE
  unfold ownM
  cases hh : hasA d n [102, 111, 114, 109]
  · rw [hh] at c1
    refine dcalls_of_vc Tryz.func35 hn35 hc35 (by rw [Tryz.ntmps35]; simp) (by rw [Tryz.ntmps35]; decide) ?_
    simp -dsimp -implicitDefEqProofs (disch := omega) only [VCA, Nat.reduceEqDiff, ↓reduceIte, reduceCtorEq, c35, hF]
    repeat' (first | ((with_reducible refine Br.dec (fun _ => ?_) (fun _ => ?_)) <;> try (exfalso; omega)) | ((with_reducible refine Br.eq (fun _ => ?_) (fun _ => ?_)) <;> try (exfalso; omega)) | ((with_reducible refine Br.ne (fun _ => ?_) (fun _ => ?_)) <;> try (exfalso; omega)) | ((with_reducible refine brNdec (fun _ => ?_) (fun _ => ?_)) <;> try (exfalso; omega)) | ((with_reducible refine brNeq (fun _ => ?_) (fun _ => ?_)) <;> try (exfalso; omega)) | with_reducible refine Br.intro (fun _ => ?_) (fun _ => ?_) | (with_reducible apply pcallE.of; · exact c1) | (with_reducible apply pcallE.of; · exact c2) | (with_reducible apply pcallE.of; · exact c3) | (with_reducible apply pcallE.of; · exact c4) | (with_reducible refine And.intro ?_ ?_; · omega) | simp -dsimp -implicitDefEqProofs (disch := omega) only [VCA, Nat.reduceEqDiff, ↓reduceIte, reduceCtorEq, exists_eq_right])
    all_goals first | exact Sub.refl _ | trace_state
  · rw [hh] at c1
    rw [if_neg (by simp)]
    generalize attD d n [102, 111, 114, 109] = id at *
    refine dcalls_of_vc Tryz.func35 hn35 hc35 (by rw [Tryz.ntmps35]; simp) (by rw [Tryz.ntmps35]; decide) ?_
    simp -dsimp -implicitDefEqProofs (disch := omega) only [VCA, Nat.reduceEqDiff, ↓reduceIte, reduceCtorEq, c35, hF]
    repeat' (first | ((with_reducible refine Br.dec (fun _ => ?_) (fun _ => ?_)) <;> try (exfalso; omega)) | ((with_reducible refine Br.eq (fun _ => ?_) (fun _ => ?_)) <;> try (exfalso; omega)) | ((with_reducible refine Br.ne (fun _ => ?_) (fun _ => ?_)) <;> try (exfalso; omega)) | ((with_reducible refine brNdec (fun _ => ?_) (fun _ => ?_)) <;> try (exfalso; omega)) | ((with_reducible refine brNeq (fun _ => ?_) (fun _ => ?_)) <;> try (exfalso; omega)) | with_reducible refine Br.intro (fun _ => ?_) (fun _ => ?_) | (with_reducible apply pcallE.of; · exact c1) | (with_reducible apply pcallE.of; · exact c2) | (with_reducible refine And.intro ?_ ?_; · omega) | simp -dsimp -implicitDefEqProofs (disch := omega) only [VCA, Nat.reduceEqDiff, ↓reduceIte, reduceCtorEq])
    repeat' (first | ((with_reducible refine Br.dec (fun _ => ?_) (fun _ => ?_)) <;> try (exfalso; omega)) | ((with_reducible refine Br.eq (fun _ => ?_) (fun _ => ?_)) <;> try (exfalso; omega)) | ((with_reducible refine Br.ne (fun _ => ?_) (fun _ => ?_)) <;> try (exfalso; omega)) | ((with_reducible refine brNdec (fun _ => ?_) (fun _ => ?_)) <;> try (exfalso; omega)) | ((with_reducible refine brNeq (fun _ => ?_) (fun _ => ?_)) <;> try (exfalso; omega)) | with_reducible refine Br.intro (fun _ => ?_) (fun _ => ?_) | (with_reducible refine And.intro ?_ ?_; · omega) | simp -dsimp -implicitDefEqProofs (disch := omega) only [VCA, fE])
    refine LoopVC.intro (fun m e h' => ∃ k : Nat, k ≤ o.length ∧ m = o.length - k ∧ e 0 = F ∧ e 5 = .str id ∧ e 23 = sl eInt o ∧ e 24 = aInt o.length ∧ e 25 = aInt k ∧ h' = h ∧ o.find? (fun k => hasA d k [105, 100] && attD d k [105, 100] == id) = (o.drop k).find? (fun k => hasA d k [105, 100] && attD d k [105, 100] == id)) o.length
      (by exact ⟨0, by omega, by omega, fE.symm, rfl, rfl, rfl, rfl, rfl, rfl⟩) ?_
    rintro m e h' ⟨k, hk, rfl, e0, e5, e23, e24, e25, rfl, hf⟩
    by_cases hlt : k < o.length
    · have d1 : decide ((k : Int) < (o.length : Int)) = true := decide_eq_true (by omega)
      rw [drop_cons' hlt, List.find?_cons] at hf
      obtain ⟨x, hx⟩ : ∃ x, nth o k = x := ⟨_, rfl⟩
      have hxo : inD d x := by rw [← hx]; exact ho _ (nth_mem' hlt)
      rw [hx] at hf
      have g1 := fhas_ok (G := G) d sm o x hxo [105, 100]
      have g2 := fattr_ok (G := G) d sm o x hxo [105, 100]
      have g3 := fnamed1_ok (G := G) d sm o x hxo [102, 111, 114, 109]
      rw [hF] at g1 g2 g3
      cases hb : hasA d x [105, 100]
      · rw [hb] at g1
        rw [hb] at hf
        repeat' (first | ((with_reducible refine Br.dec (fun _ => ?_) (fun _ => ?_)) <;> try (exfalso; omega)) | ((with_reducible refine Br.eq (fun _ => ?_) (fun _ => ?_)) <;> try (exfalso; omega)) | ((with_reducible refine Br.ne (fun _ => ?_) (fun _ => ?_)) <;> try (exfalso; omega)) | ((with_reducible refine brNdec (fun _ => ?_) (fun _ => ?_)) <;> try (exfalso; omega)) | ((with_reducible refine brNeq (fun _ => ?_) (fun _ => ?_)) <;> try (exfalso; omega)) | with_reducible refine Br.intro (fun _ => ?_) (fun _ => ?_) | (with_reducible apply pcallE.of; · exact g1) | (with_reducible refine And.intro ?_ ?_; · omega) | simp -dsimp -implicitDefEqProofs (disch := omega) only [↓vcOps_sp 32, VCA, Nat.reduceEqDiff, ↓reduceIte, reduceCtorEq, eInt, e0, e5, e23, e24, e25, d1, hx])
        all_goals first
          | exact ⟨_, by omega, k + 1, by omega, rfl, by omega, hf⟩
          | trace_state
      · rw [hb] at g1
        rw [hb] at hf
        cases hc : (attD d x [105, 100] == id)
        · rw [hc] at hf
          repeat' (first | ((with_reducible refine Br.dec (fun _ => ?_) (fun _ => ?_)) <;> try (exfalso; omega)) | ((with_reducible refine Br.eq (fun _ => ?_) (fun _ => ?_)) <;> try (exfalso; omega)) | ((with_reducible refine Br.ne (fun _ => ?_) (fun _ => ?_)) <;> try (exfalso; omega)) | ((with_reducible refine brNdec (fun _ => ?_) (fun _ => ?_)) <;> try (exfalso; omega)) | ((with_reducible refine brNeq (fun _ => ?_) (fun _ => ?_)) <;> try (exfalso; omega)) | with_reducible refine Br.intro (fun _ => ?_) (fun _ => ?_) | (with_reducible apply pcallE.of; · exact g1) | (with_reducible apply pcallE.of; · exact g2) | (with_reducible refine And.intro ?_ ?_; · omega) | simp -dsimp -implicitDefEqProofs (disch := omega) only [↓vcOps_sp 32, VCA, Nat.reduceEqDiff, ↓reduceIte, reduceCtorEq, eInt, e0, e5, e23, e24, e25, d1, hx, hc])
          all_goals first
            | exact ⟨_, by omega, k + 1, by omega, rfl, by omega, hf⟩
            | trace_state
        · rw [hc] at hf
          simp only [Bool.and_self] at hf
          rw [hf]
          cases hz : isN d [102, 111, 114, 109] x
          · rw [hz] at g3
            repeat' (first | ((with_reducible refine Br.dec (fun _ => ?_) (fun _ => ?_)) <;> try (exfalso; omega)) | ((with_reducible refine Br.eq (fun _ => ?_) (fun _ => ?_)) <;> try (exfalso; omega)) | ((with_reducible refine Br.ne (fun _ => ?_) (fun _ => ?_)) <;> try (exfalso; omega)) | ((with_reducible refine brNdec (fun _ => ?_) (fun _ => ?_)) <;> try (exfalso; omega)) | ((with_reducible refine brNeq (fun _ => ?_) (fun _ => ?_)) <;> try (exfalso; omega)) | with_reducible refine Br.intro (fun _ => ?_) (fun _ => ?_) | (with_reducible apply pcallE.of; · exact g1) | (with_reducible apply pcallE.of; · exact g2) | (with_reducible apply pcallE.of; · exact c3) | (with_reducible refine PCalls.of g3 ?_) | (with_reducible refine And.intro ?_ ?_; · omega) | simp -dsimp -implicitDefEqProofs (disch := omega) only [↓vcOps_sp 32, VCA, Nat.reduceEqDiff, ↓reduceIte, reduceCtorEq, exists_eq_right, eInt, e0, e5, e23, e24, e25, d1, hx, hc, hz])
            all_goals first | exact Sub.refl _ | exact ⟨Sub.refl _, rfl⟩ | trace_state
          · rw [hz] at g3
            repeat' (first | ((with_reducible refine Br.dec (fun _ => ?_) (fun _ => ?_)) <;> try (exfalso; omega)) | ((with_reducible refine Br.eq (fun _ => ?_) (fun _ => ?_)) <;> try (exfalso; omega)) | ((with_reducible refine Br.ne (fun _ => ?_) (fun _ => ?_)) <;> try (exfalso; omega)) | ((with_reducible refine brNdec (fun _ => ?_) (fun _ => ?_)) <;> try (exfalso; omega)) | ((with_reducible refine brNeq (fun _ => ?_) (fun _ => ?_)) <;> try (exfalso; omega)) | with_reducible refine Br.intro (fun _ => ?_) (fun _ => ?_) | (with_reducible apply pcallE.of; · exact g1) | (with_reducible apply pcallE.of; · exact g2) | (with_reducible apply pcallE.of; · exact c3) | (with_reducible refine PCalls.of g3 ?_) | (with_reducible refine And.intro ?_ ?_; · omega) | simp -dsimp -implicitDefEqProofs (disch := omega) only [↓vcOps_sp 32, VCA, Nat.reduceEqDiff, ↓reduceIte, reduceCtorEq, exists_eq_right, eInt, e0, e5, e23, e24, e25, d1, hx, hc, hz])
            all_goals first | exact Sub.refl _ | exact ⟨Sub.refl _, rfl⟩ | trace_state
    · obtain rfl : k = o.length := by omega
      have d1 : decide ((o.length : Int) < (o.length : Int)) = false := decide_eq_false (by omega)
      rw [List.drop_length] at hf
      rw [hf]
      repeat' (first | ((with_reducible refine Br.dec (fun _ => ?_) (fun _ => ?_)) <;> try (exfalso; omega)) | ((with_reducible refine Br.eq (fun _ => ?_) (fun _ => ?_)) <;> try (exfalso; omega)) | ((with_reducible refine Br.ne (fun _ => ?_) (fun _ => ?_)) <;> try (exfalso; omega)) | ((with_reducible refine brNdec (fun _ => ?_) (fun _ => ?_)) <;> try (exfalso; omega)) | ((with_reducible refine brNeq (fun _ => ?_) (fun _ => ?_)) <;> try (exfalso; omega)) | with_reducible refine Br.intro (fun _ => ?_) (fun _ => ?_) | (with_reducible refine And.intro ?_ ?_; · omega) | simp -dsimp -implicitDefEqProofs (disch := omega) only [VCA, ↓reduceIte, exists_eq_right_right, e24, e25, d1])
      all_goals first | exact Sub.refl _ | exact ⟨Sub.refl _, rfl⟩ | trace_state
end Go.Proofs.K
end
section
/- forms: text, options, kinds, values. -/
set_option linter.unusedSimpArgs false
set_option linter.unusedVariables false
namespace Go.Proofs.K
open Go Go.Sim Go.Proofs
variable {G : Glob}
theorem lett_one {d : HDoc} (V : DV d) {n : Int} (hn : inD d n) (h3 : (nd d n).kind = 3) : lettersM d (below d n) = (nd d n).text := by
  rw [letters_one V hn (by omega), if_pos h3]
theorem lett_kids {d : HDoc} (V : DV d) {n : Int} (hn : inD d n) (h3 : ¬ (nd d n).kind = 3) : lettersM d (below d n) = (nd d n).kids.flatMap fun k => lettersM d (below d k) := by
  have h : ∀ l : List Int, lettersM d (l.flatMap (below d)) = l.flatMap fun k => lettersM d (below d k) := fun l => by
    induction l with
    | nil => rfl
    | cons x r ih => rw [List.flatMap_cons, letters_app, List.flatMap_cons, ih]
  rw [below_eq V hn]
  have : lettersM d (n :: (nd d n).kids.flatMap (below d)) = lettersM d ([n] ++ (nd d n).kids.flatMap (below d)) := rfl
  rw [this, letters_app, h]
  have : lettersM d [n] = [] := by unfold lettersM; simp [h3]
  rw [this, List.nil_append]
def c92 : SFun := ⟨(.seq (.reg [⟨(some 4), (.mv (.c (.str []))), none⟩]) (.seq (.seq (.reg [⟨(some 8), (.mv (.t 0)), none⟩, ⟨(some 9), (.fldA 0 (.t 8)), none⟩, ⟨(some 10), (.fldA 0 (.t 9)), none⟩, ⟨(some 11), (.fldA 0 (.t 10)), none⟩, ⟨(some 12), (.ld 1 false (.t 11)), none⟩, ⟨(some 13), (.mv (.t 1)), none⟩, ⟨(some 14), (.idxA 6 (.t 12) (.t 13)), none⟩, ⟨(some 15), (.fldA 0 (.t 14)), none⟩, ⟨(some 16), (.ld 1 false (.t 15)), none⟩, ⟨(some 17), (.bin .eql (.t 16) (.c (.int .i64 (3)))), none⟩]) (.cond (.t 17) (.seq (.reg [⟨(some 18), (.mv (.t 0)), none⟩, ⟨(some 19), (.fldA 0 (.t 18)), none⟩, ⟨(some 20), (.fldA 0 (.t 19)), none⟩, ⟨(some 21), (.fldA 0 (.t 20)), none⟩, ⟨(some 22), (.ld 1 false (.t 21)), none⟩, ⟨(some 23), (.mv (.t 1)), none⟩, ⟨(some 24), (.idxA 6 (.t 22) (.t 23)), none⟩, ⟨(some 25), (.fldA 3 (.t 24)), none⟩, ⟨(some 26), (.ld 1 false (.t 25)), none⟩, ⟨(some 4), (.mv (.t 26)), none⟩]) .ret) .skip)) (.seq (.reg [⟨(some 5), (.mv (.c (.str []))), none⟩]) (.seq (.seq (.reg [⟨(some 27), (.mv (.t 0)), none⟩, ⟨(some 28), (.fldA 0 (.t 27)), none⟩, ⟨(some 29), (.fldA 0 (.t 28)), none⟩, ⟨(some 30), (.fldA 0 (.t 29)), none⟩, ⟨(some 31), (.ld 1 false (.t 30)), none⟩, ⟨(some 32), (.mv (.t 1)), none⟩, ⟨(some 33), (.idxA 6 (.t 31) (.t 32)), none⟩, ⟨(some 34), (.fldA 5 (.t 33)), none⟩, ⟨(some 35), (.ld 1 false (.t 34)), none⟩, ⟨(some 36), (.len (.t 35)), none⟩, ⟨(some 37), (.mv (.c (.int .i64 (0)))), none⟩]) (.block 0 (.loop (.seq (.reg [⟨(some 38), (.bin .lss (.t 37) (.t 36)), none⟩]) (.seq (.cond (.t 38) .skip (.exit 0)) (.seq (.block 1 (.seq (.reg [⟨(some 39), (.idxA 1 (.t 35) (.t 37)), none⟩, ⟨(some 40), (.ld 1 false (.t 39)), none⟩, ⟨(some 7), (.mv (.t 40)), none⟩]) (.reg [⟨(some 41), (.mv (.t 5)), none⟩, ⟨(some 42), (.mv (.t 0)), none⟩, ⟨(some 43), (.mv (.t 7)), none⟩, ⟨(some 44), (.pcall 92 [(.t 42), (.t 43)]), none⟩, ⟨(some 45), (.bin .add (.t 41) (.t 44)), none⟩, ⟨(some 5), (.mv (.t 45)), none⟩]))) (.reg [⟨(some 46), (.bin .add (.t 37) (.c (.int .i64 (1)))), none⟩, ⟨(some 37), (.mv (.t 46)), none⟩]))))))) (.seq (.reg [⟨(some 47), (.mv (.t 5)), none⟩, ⟨(some 4), (.mv (.t 47)), none⟩]) .ret))))), [(.tmp 4)]⟩
theorem hc92 : toSF Tryz.prog {pure := [92]} Tryz.f92 = some c92 := by kernel_rfl
theorem hn92 : (Tryz.f92.name == "runtime.NumGoroutine") = false := by kernel_rfl
theorem ftext_ok (d : HDoc) (V : DV d) (sm : DocSm d) (o : List Int) : ∀ n, inD d n → PCalls (Pg G) 92 [fA d o, aInt n] (.str (lettersM d (below d n))) := V.down fun n hn ih h => by
  have hl := V.len
  have n0 := hn.1
  have n1 := hn.2
  have e0 : nth d.nodes n.toNat = nd d n := rfl
  have kl := (sm.nd n).kids
  have tl := lett_len V hn
  have fE : fA d o = .pin [sl eNode d.nodes, .bool d.quirks, sl eInt o] := rfl
  obtain ⟨F, hF⟩ : ∃ F, fA d o = F := ⟨_, rfl⟩
  rw [hF] at fE ih
  by_cases h3 : (nd d n).kind = 3
  · have b3 : ((nd d n).kind == 3) = true := by simpa using h3
    have eT := lett_one V hn h3
    rw [eT]
    refine dcalls_of_vc Tryz.func92 hn92 hc92 (by rw [Tryz.ntmps92]; simp) (by rw [Tryz.ntmps92]; decide) ?_
    simp -dsimp -implicitDefEqProofs (disch := omega) only [VCA, Nat.reduceEqDiff, Nat.reduceAdd, Nat.reduceLeDiff, ↓reduceIte, reduceCtorEq, exists_eq_right, c92, hF, fE, eNode, e0, b3]
    exact ⟨by omega, by omega, Sub.refl _⟩
  · have b3 : ((nd d n).kind == 3) = false := by simpa using h3
    have eT := lett_kids V hn h3
    have fl : ∀ k, k ≤ (nd d n).kids.length → (((nd d n).kids.take k).flatMap fun k => lettersM d (below d k)).length ≤ 80000 := fun k hk => by
      have : (((nd d n).kids.take k).flatMap fun k => lettersM d (below d k)).length ≤ ((nd d n).kids.flatMap fun k => lettersM d (below d k)).length := by
        conv => rhs; rw [← List.take_append_drop k (nd d n).kids, List.flatMap_append, List.length_append]
        omega
      rw [← eT] at this; omega
    rw [eT]
    refine dcalls_of_vc Tryz.func92 hn92 hc92 (by rw [Tryz.ntmps92]; simp) (by rw [Tryz.ntmps92]; decide) ?_
    simp -dsimp -implicitDefEqProofs (disch := omega) only [VCA, Nat.reduceEqDiff, Nat.reduceAdd, Nat.reduceLeDiff, ↓reduceIte, reduceCtorEq, c92, hF, fE, eNode, e0, b3]
    refine ⟨by omega, by omega, ?_⟩
    refine LoopVC.intro (fun m e h' => ∃ k : Nat, k ≤ (nd d n).kids.length ∧ m = (nd d n).kids.length - k ∧ e 0 = F ∧ e 5 = .str (((nd d n).kids.take k).flatMap fun k => lettersM d (below d k)) ∧ e 35 = sl eInt (nd d n).kids ∧ e 36 = aInt (nd d n).kids.length ∧ e 37 = aInt k ∧ h' = h) (nd d n).kids.length
      (by exact ⟨0, by omega, by omega, fE.symm, rfl, rfl, rfl, rfl, rfl⟩) ?_
    rintro m e h' ⟨k, hk, rfl, e0', e5, e35, e36, e37, rfl⟩
    by_cases hlt : k < (nd d n).kids.length
    · have d1 : decide ((k : Int) < ((nd d n).kids.length : Int)) = true := decide_eq_true (by omega)
      have ihk := ih _ (nth_mem' hlt)
      have f1 := fl (k + 1) (by omega)
      have tk : ((nd d n).kids.take (k + 1)).flatMap (fun k => lettersM d (below d k)) = (((nd d n).kids.take k).flatMap fun k => lettersM d (below d k)) ++ lettersM d (below d (nth (nd d n).kids k)) := by rw [take_snoc hlt, List.flatMap_append]; simp
      rw [tk, List.length_append] at f1
      repeat' (first | ((with_reducible refine Br.dec (fun _ => ?_) (fun _ => ?_)) <;> try (exfalso; omega)) | ((with_reducible refine Br.eq (fun _ => ?_) (fun _ => ?_)) <;> try (exfalso; omega)) | ((with_reducible refine Br.ne (fun _ => ?_) (fun _ => ?_)) <;> try (exfalso; omega)) | ((with_reducible refine brNdec (fun _ => ?_) (fun _ => ?_)) <;> try (exfalso; omega)) | ((with_reducible refine brNeq (fun _ => ?_) (fun _ => ?_)) <;> try (exfalso; omega)) | with_reducible refine Br.intro (fun _ => ?_) (fun _ => ?_) | (with_reducible apply pcallE.of; · exact ihk) | (with_reducible refine And.intro ?_ ?_; · omega) | simp -dsimp -implicitDefEqProofs (disch := omega) only [VCA, Nat.reduceEqDiff, ↓reduceIte, reduceCtorEq, eInt, e0', e5, e35, e36, e37, d1])
      all_goals first | exact ⟨_, by omega, k + 1, by omega, rfl, by rw [tk], by omega⟩ | trace_state
    · obtain rfl : k = (nd d n).kids.length := by omega
      have d1 : decide (((nd d n).kids.length : Int) < ((nd d n).kids.length : Int)) = false := decide_eq_false (by omega)
      rw [List.take_length] at e5
      repeat' (first | ((with_reducible refine Br.dec (fun _ => ?_) (fun _ => ?_)) <;> try (exfalso; omega)) | ((with_reducible refine Br.eq (fun _ => ?_) (fun _ => ?_)) <;> try (exfalso; omega)) | ((with_reducible refine Br.ne (fun _ => ?_) (fun _ => ?_)) <;> try (exfalso; omega)) | ((with_reducible refine brNdec (fun _ => ?_) (fun _ => ?_)) <;> try (exfalso; omega)) | ((with_reducible refine brNeq (fun _ => ?_) (fun _ => ?_)) <;> try (exfalso; omega)) | with_reducible refine Br.intro (fun _ => ?_) (fun _ => ?_) | (with_reducible refine And.intro ?_ ?_; · omega) | simp -dsimp -implicitDefEqProofs (disch := omega) only [VCA, Nat.reduceEqDiff, ↓reduceIte, exists_eq_right, e5, e36, e37, d1])
      all_goals first | exact Sub.refl _ | trace_state
theorem belO_eq {d : HDoc} (V : DV d) {n : Int} (hn : inD d n) (nm : List UInt8) : belO d nm n = (nd d n).kids.flatMap fun k => (if isN d nm k = true then [k] else []) ++ belO d nm k := by
  have h : ∀ l : List Int, (∀ k ∈ l, inD d k) → (l.flatMap (below d)).filter (isN d nm) = l.flatMap fun k => (if isN d nm k = true then [k] else []) ++ belO d nm k := fun l => by
    induction l with
    | nil => intro _; rfl
    | cons x r ih =>
      intro hl
      have hx := hl x List.mem_cons_self
      rw [List.flatMap_cons, List.filter_append, List.flatMap_cons, ih fun k hk => hl k (List.mem_cons_of_mem _ hk)]
      congr 1
      unfold belO
      rw [below_eq V hx, List.filter_cons]
      cases isN d nm x <;> rfl
  unfold belO
  rw [below_eq V hn]
  exact h _ fun k hk => (V.kid n hn k hk).1
def c117 : SFun := ⟨(.seq (.reg [⟨(some 6), (.mv (.c .emp)), none⟩]) (.seq (.seq (.reg [⟨(some 9), (.mv (.t 0)), none⟩, ⟨(some 10), (.fldA 0 (.t 9)), none⟩, ⟨(some 11), (.fldA 0 (.t 10)), none⟩, ⟨(some 12), (.fldA 0 (.t 11)), none⟩, ⟨(some 13), (.ld 1 false (.t 12)), none⟩, ⟨(some 14), (.mv (.t 1)), none⟩, ⟨(some 15), (.idxA 6 (.t 13) (.t 14)), none⟩, ⟨(some 16), (.fldA 5 (.t 15)), none⟩, ⟨(some 17), (.ld 1 false (.t 16)), none⟩, ⟨(some 18), (.len (.t 17)), none⟩, ⟨(some 19), (.mv (.c (.int .i64 (0)))), none⟩]) (.block 0 (.loop (.seq (.reg [⟨(some 20), (.bin .lss (.t 19) (.t 18)), none⟩]) (.seq (.cond (.t 20) .skip (.exit 0)) (.seq (.block 1 (.seq (.reg [⟨(some 21), (.idxA 1 (.t 17) (.t 19)), none⟩, ⟨(some 22), (.ld 1 false (.t 21)), none⟩, ⟨(some 8), (.mv (.t 22)), none⟩]) (.seq (.seq (.reg [⟨(some 23), (.mv (.t 0)), none⟩, ⟨(some 24), (.mv (.t 2)), none⟩, ⟨(some 25), (.pcall 80 [(.t 23), (.t 24)]), none⟩, ⟨(some 26), (.mv (.t 8)), none⟩, ⟨(some 27), (.call (.t 25) [(.t 26)]), none⟩]) (.cond (.t 27) (.reg [⟨(some 28), (.mv (.t 6)), none⟩, ⟨(some 29), (.mv (.t 8)), none⟩, ⟨(some 30), (.bldF 3 1 [(.t 29)]), none⟩, ⟨(some 31), (.app 3 1 8 (.t 28) (.t 30)), none⟩, ⟨(some 6), (.mv (.t 31)), none⟩]) .skip)) (.reg [⟨(some 32), (.mv (.t 6)), none⟩, ⟨(some 33), (.mv (.t 0)), none⟩, ⟨(some 34), (.mv (.t 8)), none⟩, ⟨(some 35), (.mv (.t 2)), none⟩, ⟨(some 36), (.pcall 117 [(.t 33), (.t 34), (.t 35)]), none⟩, ⟨(some 37), (.app 3 1 8 (.t 32) (.t 36)), none⟩, ⟨(some 6), (.mv (.t 37)), none⟩])))) (.reg [⟨(some 38), (.bin .add (.t 19) (.c (.int .i64 (1)))), none⟩, ⟨(some 19), (.mv (.t 38)), none⟩]))))))) (.seq (.reg [⟨(some 39), (.mv (.t 6)), none⟩, ⟨(some 6), (.mv (.t 39)), none⟩]) .ret))), [(.tmp 6)]⟩
theorem hc117 : toSF Tryz.prog {pure := [117, 80]} Tryz.f117 = some c117 := by kernel_rfl
theorem hn117 : (Tryz.f117.name == "runtime.NumGoroutine") = false := by kernel_rfl
theorem fbelow_ok (d : HDoc) (V : DV d) (sm : DocSm d) (o : List Int) (nm : List UInt8) : ∀ n, inD d n → PCalls (Pg G) 117 [fA d o, aInt n, .str nm] (sl eInt (belO d nm n)) := V.down fun n hn ih => PCalls.acc (ty := 3) (sz := 1) fun h => by
  have hl := V.len
  have n0 := hn.1
  have n1 := hn.2
  have e0 : nth d.nodes n.toNat = nd d n := rfl
  have kl := (sm.nd n).kids
  have bl := belO_len V hn (nm := nm)
  have c3 := fnamed_ok (G := G) d o nm
  have g3 := fun x hx => fnamed1_ok (G := G) d sm o x hx nm
  have fE : fA d o = .pin [sl eNode d.nodes, .bool d.quirks, sl eInt o] := rfl
  obtain ⟨F, hF⟩ : ∃ F, fA d o = F := ⟨_, rfl⟩
  rw [hF] at fE ih c3 g3
  have eB := belO_eq V hn nm
  rw [eB] at bl ⊢
  obtain ⟨f, hf⟩ : ∃ f : Int → List Int, (fun k => (if isN d nm k = true then [k] else []) ++ belO d nm k) = f := ⟨_, rfl⟩
  rw [hf] at bl ⊢
  have fl : ∀ k, k ≤ (nd d n).kids.length → (((nd d n).kids.take k).flatMap f).length ≤ 200 := fun k hk => by
    have : (((nd d n).kids.take k).flatMap f).length ≤ ((nd d n).kids.flatMap f).length := by
      conv => rhs; rw [← List.take_append_drop k (nd d n).kids, List.flatMap_append, List.length_append]
      omega
    omega
  refine dcalls_of_vc Tryz.func117 hn117 hc117 (by rw [Tryz.ntmps117]; simp) (by rw [Tryz.ntmps117]; decide) ?_
  simp -dsimp -implicitDefEqProofs (disch := omega) only [VCA, Nat.reduceEqDiff, Nat.reduceAdd, Nat.reduceLeDiff, ↓reduceIte, reduceCtorEq, c117, hF, fE, eNode, e0]
  refine ⟨by omega, ?_⟩
  refine LoopVC.intro (fun m e h' => ∃ k : Nat, k ≤ (nd d n).kids.length ∧ m = (nd d n).kids.length - k ∧ e 0 = F ∧ e 2 = .str nm ∧ e 17 = sl eInt (nd d n).kids ∧ e 18 = aInt (nd d n).kids.length ∧ e 19 = aInt k ∧ Acc h 3 1 ((((nd d n).kids.take k).flatMap f).map eInt) (e 6) h' ∧ Sim.Sub h h') (nd d n).kids.length
    (by exact ⟨0, by omega, by omega, fE.symm, rfl, rfl, rfl, rfl, Acc.nil, Sub.refl _⟩) ?_
  rintro m e h' ⟨k, hk, rfl, e0', e2, e17, e18, e19, A, S⟩
  by_cases hlt : k < (nd d n).kids.length
  · have d1 : decide ((k : Int) < ((nd d n).kids.length : Int)) = true := decide_eq_true (by omega)
    have ihk := ih _ (nth_mem' hlt)
    have hx := (V.kid n hn _ (nth_mem' hlt)).1
    have f1 := fl (k + 1) (by omega)
    have g := g3 _ hx
    rw [take_snoc hlt, List.flatMap_append, List.length_append] at f1
    obtain ⟨x, hxx⟩ : ∃ x, nth (nd d n).kids k = x := ⟨_, rfl⟩
    have tk : ((nd d n).kids.take (k + 1)).flatMap f = ((nd d n).kids.take k).flatMap f ++ f x := by rw [take_snoc hlt, List.flatMap_append, hxx]; simp
    rw [hxx] at ihk g f1
    simp only [List.flatMap_cons, List.flatMap_nil, List.append_nil] at f1
    have fx : f x = (if isN d nm x = true then [x] else []) ++ belO d nm x := by rw [← hf]
    cases hz : isN d nm x
    · rw [hz] at g
      rw [hz] at fx
      rw [fx] at f1
      simp only [Bool.false_eq_true, if_false, List.nil_append] at f1 fx
      repeat' (first | ((with_reducible refine Br.dec (fun _ => ?_) (fun _ => ?_)) <;> try (exfalso; omega)) | ((with_reducible refine Br.eq (fun _ => ?_) (fun _ => ?_)) <;> try (exfalso; omega)) | ((with_reducible refine Br.ne (fun _ => ?_) (fun _ => ?_)) <;> try (exfalso; omega)) | ((with_reducible refine brNdec (fun _ => ?_) (fun _ => ?_)) <;> try (exfalso; omega)) | ((with_reducible refine brNeq (fun _ => ?_) (fun _ => ?_)) <;> try (exfalso; omega)) | with_reducible refine Br.intro (fun _ => ?_) (fun _ => ?_) | (with_reducible apply pcallE.of; · exact c3) | (with_reducible refine PCalls.of g ?_) | (with_reducible apply pcallE.of; · exact ihk) | (with_reducible refine And.intro ?_ ?_; · omega) | simp -dsimp -implicitDefEqProofs (disch := omega) only [VCA, Nat.reduceEqDiff, ↓reduceIte, reduceCtorEq, exists_eq_left, eInt, e0', e2, e17, e18, e19, d1, hxx])
      refine A.app S (by simp only [List.length_map]; omega) (by simp only [List.length_map]; omega) fun a' h'' A' S' => ?_
      simp -dsimp -implicitDefEqProofs (disch := omega) only [VCA, Nat.reduceEqDiff, ↓reduceIte, reduceCtorEq, e0', e2, e17, e18, e19]
      refine ⟨_, by omega, k + 1, by omega, rfl, by omega, ?_, S'⟩
      rw [tk, fx]
      simpa [eInt] using A'
    · rw [hz] at g
      rw [hz] at fx
      rw [fx] at f1
      simp only [if_true, List.cons_append, List.nil_append, List.length_cons] at f1 fx
      repeat' (first | ((with_reducible refine Br.dec (fun _ => ?_) (fun _ => ?_)) <;> try (exfalso; omega)) | ((with_reducible refine Br.eq (fun _ => ?_) (fun _ => ?_)) <;> try (exfalso; omega)) | ((with_reducible refine Br.ne (fun _ => ?_) (fun _ => ?_)) <;> try (exfalso; omega)) | ((with_reducible refine brNdec (fun _ => ?_) (fun _ => ?_)) <;> try (exfalso; omega)) | ((with_reducible refine brNeq (fun _ => ?_) (fun _ => ?_)) <;> try (exfalso; omega)) | with_reducible refine Br.intro (fun _ => ?_) (fun _ => ?_) | (with_reducible apply pcallE.of; · exact c3) | (with_reducible refine PCalls.of g ?_) | (with_reducible apply pcallE.of; · exact ihk) | (with_reducible refine And.intro ?_ ?_; · omega) | simp -dsimp -implicitDefEqProofs (disch := omega) only [VCA, Nat.reduceEqDiff, ↓reduceIte, reduceCtorEq, okParts, forall_eq, exists_eq_left, eInt, e0', e2, e17, e18, e19, d1, hxx])
      refine A.app S (by simp only [List.length_map, List.length_cons, List.length_nil]; omega) (by simp only [List.length_map, List.length_cons, List.length_nil]; omega) fun a' h'' A' S' => ?_
      repeat' (first | ((with_reducible refine Br.dec (fun _ => ?_) (fun _ => ?_)) <;> try (exfalso; omega)) | ((with_reducible refine Br.eq (fun _ => ?_) (fun _ => ?_)) <;> try (exfalso; omega)) | ((with_reducible refine Br.ne (fun _ => ?_) (fun _ => ?_)) <;> try (exfalso; omega)) | ((with_reducible refine brNdec (fun _ => ?_) (fun _ => ?_)) <;> try (exfalso; omega)) | ((with_reducible refine brNeq (fun _ => ?_) (fun _ => ?_)) <;> try (exfalso; omega)) | with_reducible refine Br.intro (fun _ => ?_) (fun _ => ?_) | (with_reducible apply pcallE.of; · exact ihk) | (with_reducible refine And.intro ?_ ?_; · omega) | simp -dsimp -implicitDefEqProofs (disch := omega) only [VCA, Nat.reduceEqDiff, ↓reduceIte, reduceCtorEq, exists_eq_left, e0', e2])
      refine A'.app S' (by simp only [List.length_append, List.length_map, List.length_cons, List.length_nil]; omega) (by simp only [List.length_append, List.length_map, List.length_cons, List.length_nil]; omega) fun a2 h2 A2 S2 => ?_
      simp -dsimp -implicitDefEqProofs (disch := omega) only [VCA, Nat.reduceEqDiff, ↓reduceIte, reduceCtorEq, e0', e2, e17, e18, e19]
      refine ⟨_, by omega, k + 1, by omega, rfl, by omega, ?_, S2⟩
      rw [tk, fx]
      simpa [eInt] using A2
  · obtain rfl : k = (nd d n).kids.length := by omega
    have d1 : decide (((nd d n).kids.length : Int) < ((nd d n).kids.length : Int)) = false := decide_eq_false (by omega)
    rw [List.take_length] at A
    repeat' (first | ((with_reducible refine Br.dec (fun _ => ?_) (fun _ => ?_)) <;> try (exfalso; omega)) | ((with_reducible refine Br.eq (fun _ => ?_) (fun _ => ?_)) <;> try (exfalso; omega)) | ((with_reducible refine Br.ne (fun _ => ?_) (fun _ => ?_)) <;> try (exfalso; omega)) | ((with_reducible refine brNdec (fun _ => ?_) (fun _ => ?_)) <;> try (exfalso; omega)) | ((with_reducible refine brNeq (fun _ => ?_) (fun _ => ?_)) <;> try (exfalso; omega)) | with_reducible refine Br.intro (fun _ => ?_) (fun _ => ?_) | (with_reducible refine And.intro ?_ ?_; · omega) | simp -dsimp -implicitDefEqProofs (disch := omega) only [VCA, Nat.reduceEqDiff, ↓reduceIte, e18, e19, d1])
    all_goals first | exact ⟨_, Sub.refl _, A, S⟩ | trace_state
end Go.Proofs.K
end
