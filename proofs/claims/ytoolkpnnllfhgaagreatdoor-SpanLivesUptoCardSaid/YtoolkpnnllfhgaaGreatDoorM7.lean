/- Texts of this claim, one behind the other. -/
import Derived.Test.YtoolkpnnllfhgaaGreatDoorM6
section
/- Ranges after an edit: After, the reference, the law of SpanLives. -/
set_option linter.unusedSimpArgs false
set_option linter.unusedVariables false
namespace Go.Proofs.K
open Go Go.Sim Go.Proofs
variable {G : Glob}
def afterE (d : HDoc) (e : HEdit) (s : HSpan) : Int := if spanE d s ≠ 0 then spanE d s else applyE d e
def afterS (d : HDoc) (e : HEdit) (s : HSpan) : HSpan := if afterE d e s = 0 then ⟨afterP d e s.a, afterP d e s.b⟩ else ⟨⟨0, 0⟩, ⟨0, 0⟩⟩
theorem applyE_errR' {d : HDoc} (V : DV d) {e : HEdit} (h : applyE d e = 0) : errR d e = 0 := by
  apply Classical.byContradiction; intro h1
  rw [apply_err V h1] at h; exact h1 h
def c24 : SFun := ⟨(.seq (.reg [⟨(some 3), (.boxF 24 2 (.t 0)), none⟩, ⟨(some 4), (.boxF 42 12 (.t 1)), none⟩, ⟨(some 5), (.boxF 52 4 (.t 2)), none⟩, ⟨(some 6), (.new 52 4 [(.int .i64 (0)), (.int .i64 (0)), (.int .i64 (0)), (.int .i64 (0))]), none⟩, ⟨(some 7), (.mv (.c (.int .i64 (0)))), none⟩]) (.seq (.reg [⟨(some 11), (.ld 2 true (.t 3)), none⟩, ⟨(some 12), (.ld 4 true (.t 5)), none⟩, ⟨(some 13), (.pcall 54 [(.t 11), (.t 12)]), none⟩, ⟨(some 10), (.mv (.t 13)), none⟩, ⟨(some 14), (.ext (.t 10) 0), none⟩, ⟨(some 15), (.ext (.t 10) 1), none⟩, ⟨(some 8), (.new 89 2 [.emp, (.bool false)]), none⟩, ⟨none, (.st 2 (.t 8) (.t 14)), none⟩, ⟨(some 9), (.mv (.t 15)), none⟩]) (.seq (.seq (.reg [⟨(some 16), (.mv (.t 9)), none⟩, ⟨(some 17), (.bin .eql (.t 16) (.c (.int .i64 (0)))), none⟩]) (.cond (.t 17) (.reg [⟨(some 19), (.ld 2 true (.t 3)), none⟩, ⟨(some 20), (.ld 12 true (.t 4)), none⟩, ⟨(some 21), (.pcall 39 [(.t 19), (.t 20)]), none⟩, ⟨(some 18), (.mv (.t 21)), none⟩, ⟨(some 22), (.ext (.t 18) 0), none⟩, ⟨(some 23), (.ext (.t 18) 1), none⟩, ⟨(some 24), (.ext (.t 18) 2), none⟩, ⟨(some 9), (.mv (.t 24)), none⟩]) .skip)) (.seq (.seq (.reg [⟨(some 25), (.mv (.t 9)), none⟩, ⟨(some 26), (.bin .neq (.t 25) (.c (.int .i64 (0)))), none⟩]) (.cond (.t 26) (.seq (.reg [⟨(some 27), (.bld [(.int .i64 (0)), (.int .i64 (0)), (.int .i64 (0)), (.int .i64 (0))] []), none⟩, ⟨(some 28), (.mv (.t 9)), none⟩, ⟨none, (.st 4 (.t 6) (.t 27)), none⟩, ⟨(some 7), (.mv (.t 28)), none⟩]) .ret) .skip)) (.seq (.dreg [(⟨(some 29), (.ld 2 true (.t 8)), none⟩, none), (⟨(some 30), (.fldA 0 (.t 5)), none⟩, none), (⟨(some 31), (.ld 2 true (.t 30)), none⟩, none), (⟨(some 32), (.ld 12 true (.t 4)), none⟩, none), (⟨(some 33), (.pcall 55 [(.t 29), (.t 31), (.t 32)]), none⟩, none), (⟨(some 34), (.ld 2 true (.t 8)), none⟩, none), (⟨(some 35), (.fldA 2 (.t 5)), none⟩, none), (⟨(some 36), (.ld 2 true (.t 35)), none⟩, none), (⟨(some 37), (.ld 12 true (.t 4)), none⟩, none), (⟨(some 38), (.pcall 55 [(.t 34), (.t 36), (.t 37)]), none⟩, none), (⟨(some 39), (.bld [(.int .i64 (0)), (.int .i64 (0)), (.int .i64 (0)), (.int .i64 (0))] [(0, (2, (.t 33))), (2, (2, (.t 38)))]), none⟩, none), (⟨none, (.st 4 (.t 6) (.t 39)), none⟩, (some [34, 36, 37, 29, 31, 32])), (⟨(some 7), (.mv (.c (.int .i64 (0)))), none⟩, none)]) .ret))))), [(.cell 6 4 true), (.tmp 7)]⟩
theorem hc24 : toSF Tryz.prog {pure := [54, 39, 55]} Tryz.f24 = some c24 := by kernel_rfl
theorem hn24 : (Tryz.f24.name == "runtime.NumGoroutine") = false := by kernel_rfl
set_option maxHeartbeats 1000000 in
theorem after_ok (d : HDoc) (sm : DocSm d) (e : HEdit) (he : EditSm e) (s : HSpan) : PCalls (Pg G) 24 [.agg (eDoc d), .agg (eEdit e), .agg (eS s)] (.tup [.agg (eS (afterS d e s)), aInt (afterE d e s)]) := fun h => by
  have hC := span_ok (G := G) d sm s
  have hA := apply_ok (G := G) d sm e he
  unfold afterS
  by_cases h1 : spanE d s = 0
  · obtain ⟨hz, ho⟩ := spanE_zero h1
    obtain ⟨hd, hp, hq⟩ := pointsE_zero hz
    have V := docE_DV hd
    have aE : afterE d e s = applyE d e := by unfold afterE; rw [if_neg (by simpa using h1)]
    rw [aE]
    rw [h1] at hC
    by_cases h2 : applyE d e = 0
    · have h0 := applyE_errR' V h2
      have hM := moved_ok (G := G) d V sm e he h0 s.a hp
      have hN := moved_ok (G := G) d V sm e he h0 s.b hq
      rw [h2] at hA ⊢
      rw [if_pos rfl]
      unfold eS eP at *
      refine dcalls_of_vc Tryz.func24 hn24 hc24 (by rw [Tryz.ntmps24]; simp) (by rw [Tryz.ntmps24]; decide) ?_
      simp -dsimp -implicitDefEqProofs (disch := omega) only [VCA, Nat.reduceEqDiff, Nat.reduceAdd, ↓reduceIte, c24, eDoc_len, eDoc_take, eEdit_len]
      intro r6 hr6
      repeat' (first | ((with_reducible refine Br.dec (fun _ => ?_) (fun _ => ?_)) <;> try (exfalso; omega)) | ((with_reducible refine Br.eq (fun _ => ?_) (fun _ => ?_)) <;> try (exfalso; omega)) | ((with_reducible refine Br.ne (fun _ => ?_) (fun _ => ?_)) <;> try (exfalso; omega)) | ((with_reducible refine brNdec (fun _ => ?_) (fun _ => ?_)) <;> try (exfalso; omega)) | ((with_reducible refine brNeq (fun _ => ?_) (fun _ => ?_)) <;> try (exfalso; omega)) | with_reducible refine Br.intro (fun _ => ?_) (fun _ => ?_) | (with_reducible apply pcallE.of; · exact hC) | (with_reducible refine And.intro ?_ ?_; · omega) | simp -dsimp -implicitDefEqProofs (disch := omega) only [VCA, ↓upd_none, Nat.reduceEqDiff, Nat.reduceAdd, Nat.reduceLT, ↓reduceIte, setAt, ne_eq, exists_eq_left', eDoc_len])
      intro r8 hr8
      have n1 : ¬ r6 = r8 := fun q => hr8.1 q.symm
      have n2 : ¬ r8 = r6 := hr8.1
      repeat' (first | ((with_reducible refine Br.dec (fun _ => ?_) (fun _ => ?_)) <;> try (exfalso; omega)) | ((with_reducible refine Br.eq (fun _ => ?_) (fun _ => ?_)) <;> try (exfalso; omega)) | ((with_reducible refine Br.ne (fun _ => ?_) (fun _ => ?_)) <;> try (exfalso; omega)) | ((with_reducible refine brNdec (fun _ => ?_) (fun _ => ?_)) <;> try (exfalso; omega)) | ((with_reducible refine brNeq (fun _ => ?_) (fun _ => ?_)) <;> try (exfalso; omega)) | with_reducible refine Br.intro (fun _ => ?_) (fun _ => ?_) | (with_reducible apply pcallE.of; · exact hA) | (with_reducible apply pcallE.of; · exact hM) | (with_reducible apply pcallE.of; · exact hN) | (with_reducible refine And.intro ?_ ?_; · omega) | simp -dsimp -implicitDefEqProofs (disch := omega) only [VCA, Nat.reduceEqDiff, Nat.reduceBEq, Nat.reduceAdd, Nat.reduceLT, Nat.reduceLeDiff, ↓reduceIte, rsOf, rootsOf, SOp.rd, SI.rd, SX.rd, fillA, okFill, setAt, implies_true, exists_eq_right_right, exists_eq_left', rootL, n1, n2, eDoc_len, eDoc_take, eEdit_len, eEdit_take])
      all_goals exact (((Sub.refl h).upd hr6).upd hr8.2).upd hr6
    · have hE2 : (applyE d e != 0) = true := by simpa using h2
      rw [if_neg h2]
      unfold eS at *
      refine dcalls_of_vc Tryz.func24 hn24 hc24 (by rw [Tryz.ntmps24]; simp) (by rw [Tryz.ntmps24]; decide) ?_
      simp -dsimp -implicitDefEqProofs (disch := omega) only [VCA, Nat.reduceEqDiff, Nat.reduceAdd, ↓reduceIte, c24, eDoc_len, eDoc_take, eEdit_len]
      intro r6 hr6
      repeat' (first | ((with_reducible refine Br.dec (fun _ => ?_) (fun _ => ?_)) <;> try (exfalso; omega)) | ((with_reducible refine Br.eq (fun _ => ?_) (fun _ => ?_)) <;> try (exfalso; omega)) | ((with_reducible refine Br.ne (fun _ => ?_) (fun _ => ?_)) <;> try (exfalso; omega)) | ((with_reducible refine brNdec (fun _ => ?_) (fun _ => ?_)) <;> try (exfalso; omega)) | ((with_reducible refine brNeq (fun _ => ?_) (fun _ => ?_)) <;> try (exfalso; omega)) | with_reducible refine Br.intro (fun _ => ?_) (fun _ => ?_) | (with_reducible apply pcallE.of; · exact hC) | (with_reducible refine And.intro ?_ ?_; · omega) | simp -dsimp -implicitDefEqProofs (disch := omega) only [VCA, ↓upd_none, Nat.reduceEqDiff, Nat.reduceAdd, Nat.reduceLT, ↓reduceIte, setAt, ne_eq, exists_eq_left', eDoc_len])
      intro r8 hr8
      have n1 : ¬ r6 = r8 := fun q => hr8.1 q.symm
      have n2 : ¬ r8 = r6 := hr8.1
      repeat' (first | ((with_reducible refine Br.dec (fun _ => ?_) (fun _ => ?_)) <;> try (exfalso; omega)) | ((with_reducible refine Br.eq (fun _ => ?_) (fun _ => ?_)) <;> try (exfalso; omega)) | ((with_reducible refine Br.ne (fun _ => ?_) (fun _ => ?_)) <;> try (exfalso; omega)) | ((with_reducible refine brNdec (fun _ => ?_) (fun _ => ?_)) <;> try (exfalso; omega)) | ((with_reducible refine brNeq (fun _ => ?_) (fun _ => ?_)) <;> try (exfalso; omega)) | with_reducible refine Br.intro (fun _ => ?_) (fun _ => ?_) | (with_reducible apply pcallE.of; · exact hA) | (with_reducible refine And.intro ?_ ?_; · omega) | simp -dsimp -implicitDefEqProofs (disch := omega) only [VCA, Nat.reduceEqDiff, Nat.reduceAdd, Nat.reduceLT, ↓reduceIte, fillA, okFill, setAt, exists_eq_right_right, exists_eq_left', hE2, n1, eDoc_len, eDoc_take, eEdit_len, eEdit_take])
      all_goals exact (((Sub.refl h).upd hr6).upd hr8.2).upd hr6
  · have aE : afterE d e s = spanE d s := by unfold afterE; rw [if_pos h1]
    rw [aE, if_neg h1]
    have hE1 : (spanE d s == 0) = false := by simpa using h1
    have hE2 : (spanE d s != 0) = true := by simpa using h1
    unfold eS at *
    refine dcalls_of_vc Tryz.func24 hn24 hc24 (by rw [Tryz.ntmps24]; simp) (by rw [Tryz.ntmps24]; decide) ?_
    simp -dsimp -implicitDefEqProofs (disch := omega) only [VCA, Nat.reduceEqDiff, Nat.reduceAdd, ↓reduceIte, c24, eDoc_len, eDoc_take, eEdit_len]
    intro r6 hr6
    repeat' (first | ((with_reducible refine Br.dec (fun _ => ?_) (fun _ => ?_)) <;> try (exfalso; omega)) | ((with_reducible refine Br.eq (fun _ => ?_) (fun _ => ?_)) <;> try (exfalso; omega)) | ((with_reducible refine Br.ne (fun _ => ?_) (fun _ => ?_)) <;> try (exfalso; omega)) | ((with_reducible refine brNdec (fun _ => ?_) (fun _ => ?_)) <;> try (exfalso; omega)) | ((with_reducible refine brNeq (fun _ => ?_) (fun _ => ?_)) <;> try (exfalso; omega)) | with_reducible refine Br.intro (fun _ => ?_) (fun _ => ?_) | (with_reducible apply pcallE.of; · exact hC) | (with_reducible refine And.intro ?_ ?_; · omega) | simp -dsimp -implicitDefEqProofs (disch := omega) only [VCA, ↓upd_none, Nat.reduceEqDiff, Nat.reduceAdd, Nat.reduceLT, ↓reduceIte, fillA, okFill, setAt, ne_eq, exists_eq_right_right, exists_eq_left', hE1, hE2, eDoc_len])
    intro r8 hr8
    have n1 : ¬ r6 = r8 := fun q => hr8.1 q.symm
    have n2 : ¬ r8 = r6 := hr8.1
    repeat' (first | ((with_reducible refine Br.dec (fun _ => ?_) (fun _ => ?_)) <;> try (exfalso; omega)) | ((with_reducible refine Br.eq (fun _ => ?_) (fun _ => ?_)) <;> try (exfalso; omega)) | ((with_reducible refine Br.ne (fun _ => ?_) (fun _ => ?_)) <;> try (exfalso; omega)) | ((with_reducible refine brNdec (fun _ => ?_) (fun _ => ?_)) <;> try (exfalso; omega)) | ((with_reducible refine brNeq (fun _ => ?_) (fun _ => ?_)) <;> try (exfalso; omega)) | with_reducible refine Br.intro (fun _ => ?_) (fun _ => ?_) | (with_reducible refine And.intro ?_ ?_; · omega) | simp -dsimp -implicitDefEqProofs (disch := omega) only [VCA, Nat.reduceAdd, Nat.reduceLT, ↓reduceIte, exists_eq_left', n1])
    all_goals exact (((Sub.refl h).upd hr6).upd hr8.2).upd hr6
def c27 : SFun := ⟨(.seq (.reg [⟨(some 3), (.boxF 24 2 (.t 0)), none⟩, ⟨(some 4), (.boxF 42 12 (.t 1)), none⟩, ⟨(some 5), (.box 50 2 (.t 2)), none⟩, ⟨(some 6), (.new 50 2 [(.int .i64 (0)), (.int .i64 (0))]), none⟩]) (.seq (.seq (.reg [⟨(some 10), (.fldA 0 (.t 4)), none⟩, ⟨(some 11), (.ld 1 false (.t 10)), none⟩, ⟨(some 12), (.bin .eql (.t 11) (.c (.int .i64 (3)))), none⟩, ⟨(some 13), (.mv (.t 12)), none⟩, ⟨(some 14), (.fldA 0 (.t 5)), (some (13, true))⟩, ⟨(some 15), (.ld 1 false (.t 14)), (some (13, true))⟩, ⟨(some 16), (.fldA 1 (.t 4)), (some (13, true))⟩, ⟨(some 17), (.ld 1 false (.t 16)), (some (13, true))⟩, ⟨(some 18), (.bin .eql (.t 15) (.t 17)), (some (13, true))⟩, ⟨(some 19), (.pick (.t 13) (.t 18) (.c (.bool false))), none⟩, ⟨(some 20), (.mv (.t 19)), none⟩, ⟨(some 21), (.fldA 1 (.t 5)), (some (20, true))⟩, ⟨(some 22), (.ld 1 false (.t 21)), (some (20, true))⟩, ⟨(some 23), (.fldA 5 (.t 4)), (some (20, true))⟩, ⟨(some 24), (.ld 1 false (.t 23)), (some (20, true))⟩, ⟨(some 25), (.lenS (.t 24)), (some (20, true))⟩, ⟨(some 26), (.bin .gtr (.t 22) (.t 25)), (some (20, true))⟩, ⟨(some 27), (.pick (.t 20) (.t 26) (.c (.bool false))), none⟩]) (.cond (.t 27) (.reg [⟨(some 28), (.fldA 5 (.t 4)), none⟩, ⟨(some 29), (.ld 1 false (.t 28)), none⟩, ⟨(some 30), (.lenS (.t 29)), none⟩, ⟨(some 31), (.fldA 1 (.t 5)), none⟩, ⟨none, (.st 1 (.t 31) (.t 30)), none⟩]) .skip)) (.seq (.seq (.reg [⟨(some 32), (.fldA 0 (.t 4)), none⟩, ⟨(some 33), (.ld 1 false (.t 32)), none⟩, ⟨(some 34), (.bin .eql (.t 33) (.c (.int .i64 (5)))), none⟩, ⟨(some 35), (.mv (.t 34)), none⟩, ⟨(some 36), (.fldA 0 (.t 5)), (some (35, true))⟩, ⟨(some 37), (.ld 1 false (.t 36)), (some (35, true))⟩, ⟨(some 38), (.fldA 1 (.t 4)), (some (35, true))⟩, ⟨(some 39), (.ld 1 false (.t 38)), (some (35, true))⟩, ⟨(some 40), (.bin .eql (.t 37) (.t 39)), (some (35, true))⟩, ⟨(some 41), (.pick (.t 35) (.t 40) (.c (.bool false))), none⟩]) (.cond (.t 41) (.seq (.reg [⟨(some 42), (.fldA 0 (.t 3)), none⟩, ⟨(some 43), (.ld 1 false (.t 42)), none⟩, ⟨(some 44), (.fldA 1 (.t 4)), none⟩, ⟨(some 45), (.ld 1 false (.t 44)), none⟩, ⟨(some 46), (.idxA 6 (.t 43) (.t 45)), none⟩, ⟨(some 47), (.fldA 5 (.t 46)), none⟩, ⟨(some 48), (.ld 1 false (.t 47)), none⟩, ⟨(some 49), (.len (.t 48)), none⟩, ⟨(some 7), (.mv (.t 49)), none⟩]) (.seq (.seq (.reg [⟨(some 50), (.fldA 3 (.t 4)), none⟩, ⟨(some 51), (.ld 1 false (.t 50)), none⟩, ⟨(some 52), (.bin .neq (.t 51) (.c (.int .i64 (-1)))), none⟩]) (.cond (.t 52) (.dreg [(⟨(some 53), (.fldA 0 (.t 3)), none⟩, none), (⟨(some 54), (.ld 1 false (.t 53)), none⟩, none), (⟨(some 55), (.fldA 1 (.t 4)), none⟩, none), (⟨(some 56), (.ld 1 false (.t 55)), none⟩, none), (⟨(some 57), (.idxA 6 (.t 54) (.t 56)), none⟩, none), (⟨(some 58), (.fldA 5 (.t 57)), none⟩, none), (⟨(some 59), (.ld 1 false (.t 58)), none⟩, none), (⟨(some 60), (.fldA 3 (.t 4)), none⟩, none), (⟨(some 61), (.ld 1 false (.t 60)), none⟩, none), (⟨(some 62), (.pcall 60 [(.t 59), (.t 61)]), none⟩, none), (⟨(some 7), (.mv (.t 62)), none⟩, none)]) .skip)) (.seq (.reg [⟨(some 63), (.fldA 1 (.t 5)), none⟩, ⟨(some 64), (.ld 1 false (.t 63)), none⟩, ⟨(some 65), (.mv (.t 7)), none⟩, ⟨(some 66), (.bin .gtr (.t 64) (.t 65)), none⟩]) (.cond (.t 66) (.reg [⟨(some 67), (.fldA 1 (.t 5)), none⟩, ⟨(some 68), (.ld 1 false (.t 67)), none⟩, ⟨(some 69), (.bin .add (.t 68) (.c (.int .i64 (1)))), none⟩, ⟨(some 70), (.fldA 1 (.t 5)), none⟩, ⟨none, (.st 1 (.t 70) (.t 69)), none⟩]) .skip)))) .skip)) (.seq (.seq (.reg [⟨(some 71), (.fldA 0 (.t 4)), none⟩, ⟨(some 72), (.ld 1 false (.t 71)), none⟩, ⟨(some 73), (.bin .eql (.t 72) (.c (.int .i64 (6)))), none⟩]) (.cond (.t 73) (.seq (.reg [⟨(some 74), (.fldA 0 (.t 3)), none⟩, ⟨(some 75), (.ld 1 false (.t 74)), none⟩, ⟨(some 76), (.fldA 1 (.t 4)), none⟩, ⟨(some 77), (.ld 1 false (.t 76)), none⟩, ⟨(some 78), (.idxA 6 (.t 75) (.t 77)), none⟩, ⟨(some 79), (.fldA 4 (.t 78)), none⟩, ⟨(some 80), (.ld 1 false (.t 79)), none⟩, ⟨(some 8), (.mv (.t 80)), none⟩]) (.seq (.dreg [(⟨(some 81), (.fldA 0 (.t 3)), none⟩, none), (⟨(some 82), (.ld 1 false (.t 81)), none⟩, none), (⟨(some 83), (.mv (.t 8)), none⟩, none), (⟨(some 84), (.idxA 6 (.t 82) (.t 83)), none⟩, none), (⟨(some 85), (.fldA 5 (.t 84)), none⟩, none), (⟨(some 86), (.ld 1 false (.t 85)), none⟩, none), (⟨(some 87), (.fldA 1 (.t 4)), none⟩, none), (⟨(some 88), (.ld 1 false (.t 87)), none⟩, none), (⟨(some 89), (.pcall 60 [(.t 86), (.t 88)]), none⟩, none), (⟨(some 9), (.mv (.t 89)), none⟩, none)]) (.seq (.seq (.reg [⟨(some 90), (.ld 2 true (.t 3)), none⟩, ⟨(some 91), (.fldA 0 (.t 5)), none⟩, ⟨(some 92), (.ld 1 false (.t 91)), none⟩, ⟨(some 93), (.fldA 1 (.t 4)), none⟩, ⟨(some 94), (.ld 1 false (.t 93)), none⟩, ⟨(some 95), (.pcall 62 [(.t 90), (.t 92), (.t 94)]), none⟩]) (.cond (.t 95) (.seq (.reg [⟨(some 96), (.mv (.t 8)), none⟩, ⟨(some 97), (.mv (.t 9)), none⟩, ⟨(some 98), (.bld [(.int .i64 (0)), (.int .i64 (0))] [(0, (1, (.t 96))), (1, (1, (.t 97)))]), none⟩, ⟨none, (.st 2 (.t 6) (.t 98)), none⟩]) .ret) .skip)) (.seq (.reg [⟨(some 99), (.fldA 0 (.t 5)), none⟩, ⟨(some 100), (.ld 1 false (.t 99)), none⟩, ⟨(some 101), (.mv (.t 8)), none⟩, ⟨(some 102), (.bin .eql (.t 100) (.t 101)), none⟩, ⟨(some 103), (.mv (.t 102)), none⟩, ⟨(some 104), (.fldA 1 (.t 5)), (some (103, true))⟩, ⟨(some 105), (.ld 1 false (.t 104)), (some (103, true))⟩, ⟨(some 106), (.mv (.t 9)), (some (103, true))⟩, ⟨(some 107), (.bin .gtr (.t 105) (.t 106)), (some (103, true))⟩, ⟨(some 108), (.pick (.t 103) (.t 107) (.c (.bool false))), none⟩]) (.cond (.t 108) (.reg [⟨(some 109), (.fldA 1 (.t 5)), none⟩, ⟨(some 110), (.ld 1 false (.t 109)), none⟩, ⟨(some 111), (.bin .sub (.t 110) (.c (.int .i64 (1)))), none⟩, ⟨(some 112), (.fldA 1 (.t 5)), none⟩, ⟨none, (.st 1 (.t 112) (.t 111)), none⟩]) .skip))))) .skip)) (.seq (.reg [⟨(some 113), (.ld 2 true (.t 5)), none⟩, ⟨none, (.st 2 (.t 6) (.t 113)), none⟩]) .ret))))), [(.cell 6 2 true)]⟩
theorem hc27 : toSF Tryz.prog {pure := [60, 62], how := [(5, 6)]} Tryz.f27 = some c27 := by kernel_rfl
theorem hn27 : (Tryz.f27.name == "runtime.NumGoroutine") = false := by kernel_rfl
set_option maxHeartbeats 2000000 in
theorem pointAfter_ok (d : HDoc) (V : DV d) (sm : DocSm d) (e : HEdit) (he : EditSm e) (h0 : errR d e = 0) (p : HPoint) (hp : pointE d p = 0) : PCalls (Pg G) 27 [.agg (eDoc d), .agg (eEdit e), .agg (eP p)] (.agg (eP (afterP d e p))) := fun h => by
  obtain ⟨hn, ha0, ha1⟩ := pointE_bd hp
  have hrm := room_le sm p.node
  have pn0 := hn.1
  have pn1 := hn.2
  have vl := V.len
  unfold afterP
  refine dcalls_of_vc Tryz.func27 hn27 hc27 (by rw [Tryz.ntmps27]; simp) (by rw [Tryz.ntmps27]; decide) ?_
  by_cases h3 : e.do' = 3
  · rw [if_pos h3]
    have vle := he.value
    have b3 := bI_t h3
    have b5 : (e.do' == 5) = false := bI_f (by omega)
    have b6 : (e.do' == 6) = false := bI_f (by omega)
    by_cases c1 : p.node = e.at'
    · have d1 := bI_t c1
      by_cases c2 : (e.value.length : Int) < p.at'
      · rw [if_pos ⟨c1, c2⟩]
        have d2 : decide ((e.value.length : Int) < p.at') = true := decide_eq_true c2
        simp -dsimp -implicitDefEqProofs (disch := omega) only [↓vcOps_sp 13, ↓vcOps_sp 20, VCA, ↓upd_none, Nat.reduceEqDiff, Nat.reduceAdd, Nat.reduceLeDiff, ↓reduceIte, ne_eq, c27, eDoc, eP, eEdit, b3]
        intro r5 hr5 r6 hr6
        have n1 : ¬ r5 = r6 := fun q => hr6.1 q.symm
        have n2 : ¬ r6 = r5 := hr6.1
        repeat' (first | ((with_reducible refine Br.dec (fun _ => ?_) (fun _ => ?_)) <;> try (exfalso; omega)) | ((with_reducible refine Br.eq (fun _ => ?_) (fun _ => ?_)) <;> try (exfalso; omega)) | ((with_reducible refine Br.ne (fun _ => ?_) (fun _ => ?_)) <;> try (exfalso; omega)) | ((with_reducible refine brNdec (fun _ => ?_) (fun _ => ?_)) <;> try (exfalso; omega)) | ((with_reducible refine brNeq (fun _ => ?_) (fun _ => ?_)) <;> try (exfalso; omega)) | with_reducible refine Br.intro (fun _ => ?_) (fun _ => ?_) | (with_reducible refine And.intro ?_ ?_; · omega) | simp -dsimp -implicitDefEqProofs (disch := omega) only [↓vcOps_sp 35, VCA, Nat.reduceEqDiff, Nat.reduceAdd, Nat.reduceLT, Nat.reduceLeDiff, ↓reduceIte, setAt, exists_eq_right_right, exists_eq_left', b5, b6, d1, d2, n1, n2])
        all_goals first
          | exact ((((Sub.refl h).upd hr5).upd hr6.2).upd hr5).upd hr6.2
          | exact ((Sub.refl h).upd hr5).upd hr6.2
          | (exfalso; omega)
          | trace_state
      · rw [if_neg (fun q => c2 q.2)]
        have d2 : decide ((e.value.length : Int) < p.at') = false := decide_eq_false c2
        simp -dsimp -implicitDefEqProofs (disch := omega) only [↓vcOps_sp 13, ↓vcOps_sp 20, VCA, ↓upd_none, Nat.reduceEqDiff, Nat.reduceAdd, Nat.reduceLeDiff, ↓reduceIte, ne_eq, c27, eDoc, eP, eEdit, b3]
        intro r5 hr5 r6 hr6
        have n1 : ¬ r5 = r6 := fun q => hr6.1 q.symm
        have n2 : ¬ r6 = r5 := hr6.1
        repeat' (first | ((with_reducible refine Br.dec (fun _ => ?_) (fun _ => ?_)) <;> try (exfalso; omega)) | ((with_reducible refine Br.eq (fun _ => ?_) (fun _ => ?_)) <;> try (exfalso; omega)) | ((with_reducible refine Br.ne (fun _ => ?_) (fun _ => ?_)) <;> try (exfalso; omega)) | ((with_reducible refine brNdec (fun _ => ?_) (fun _ => ?_)) <;> try (exfalso; omega)) | ((with_reducible refine brNeq (fun _ => ?_) (fun _ => ?_)) <;> try (exfalso; omega)) | with_reducible refine Br.intro (fun _ => ?_) (fun _ => ?_) | (with_reducible refine And.intro ?_ ?_; · omega) | simp -dsimp -implicitDefEqProofs (disch := omega) only [↓vcOps_sp 35, VCA, Nat.reduceEqDiff, Nat.reduceAdd, Nat.reduceLT, Nat.reduceLeDiff, ↓reduceIte, setAt, exists_eq_right_right, exists_eq_left', b5, b6, d1, d2, n1])
        all_goals first
          | exact ((((Sub.refl h).upd hr5).upd hr6.2).upd hr5).upd hr6.2
          | exact ((Sub.refl h).upd hr5).upd hr6.2
          | (exfalso; omega)
          | trace_state
    · rw [if_neg (fun q => c1 q.1)]
      have d1 := bI_f c1
      simp -dsimp -implicitDefEqProofs (disch := omega) only [↓vcOps_sp 13, ↓vcOps_sp 20, VCA, ↓upd_none, Nat.reduceEqDiff, Nat.reduceAdd, Nat.reduceLeDiff, ↓reduceIte, ne_eq, c27, eDoc, eP, eEdit, b3]
      intro r5 hr5 r6 hr6
      have n1 : ¬ r5 = r6 := fun q => hr6.1 q.symm
      have n2 : ¬ r6 = r5 := hr6.1
      repeat' (first | ((with_reducible refine Br.dec (fun _ => ?_) (fun _ => ?_)) <;> try (exfalso; omega)) | ((with_reducible refine Br.eq (fun _ => ?_) (fun _ => ?_)) <;> try (exfalso; omega)) | ((with_reducible refine Br.ne (fun _ => ?_) (fun _ => ?_)) <;> try (exfalso; omega)) | ((with_reducible refine brNdec (fun _ => ?_) (fun _ => ?_)) <;> try (exfalso; omega)) | ((with_reducible refine brNeq (fun _ => ?_) (fun _ => ?_)) <;> try (exfalso; omega)) | with_reducible refine Br.intro (fun _ => ?_) (fun _ => ?_) | (with_reducible refine And.intro ?_ ?_; · omega) | simp -dsimp -implicitDefEqProofs (disch := omega) only [↓vcOps_sp 35, VCA, Nat.reduceEqDiff, Nat.reduceAdd, Nat.reduceLT, Nat.reduceLeDiff, ↓reduceIte, setAt, exists_eq_right_right, exists_eq_left', b5, b6, d1, n1])
      all_goals first
        | exact ((((Sub.refl h).upd hr5).upd hr6.2).upd hr5).upd hr6.2
        | exact ((Sub.refl h).upd hr5).upd hr6.2
        | (exfalso; omega)
        | trace_state
  rw [if_neg h3]
  have b3 := bI_f h3
  by_cases h5 : e.do' = 5
  · rw [if_pos h5]
    have b5 := bI_t h5
    have b6 : (e.do' == 6) = false := bI_f (by omega)
    obtain ⟨_, _, hA, hT⟩ := errR_at h0 (by omega)
    have hA0 := hA.1
    have hA1 := hA.2
    have hT := hT h5
    obtain ⟨i1, i2, i3⟩ := ins_room V h5 h0
    have kl := (sm.nd e.at').kids
    have hI := placeIn_ok (G := G) (nd d e.at').kids e.before kl
    have e0 : nth d.nodes e.at'.toNat = nd d e.at' := rfl
    by_cases c1 : p.node = e.at'
    · have d1 := bI_t c1
      by_cases c3 : e.before = -1
      · have d3 : (e.before != -1) = false := bN_f c3
        have i2 := i2 c3
        by_cases c2 : (insAt d e : Int) < p.at'
        · rw [if_pos ⟨c1, c2⟩]
          have d2 : decide (((nd d e.at').kids.length : Int) < p.at') = true := decide_eq_true (by omega)
          simp -dsimp -implicitDefEqProofs (disch := omega) only [↓vcOps_sp 13, ↓vcOps_sp 20, ↓vcOps_sp 35, VCA, ↓upd_none, Nat.reduceEqDiff, Nat.reduceAdd, Nat.reduceLeDiff, ↓reduceIte, ne_eq, c27, eDoc, eP, eEdit, b3, b5]
          intro r5 hr5 r6 hr6
          have n1 : ¬ r5 = r6 := fun q => hr6.1 q.symm
          have n2 : ¬ r6 = r5 := hr6.1
          repeat' (first | ((with_reducible refine Br.dec (fun _ => ?_) (fun _ => ?_)) <;> try (exfalso; omega)) | ((with_reducible refine Br.eq (fun _ => ?_) (fun _ => ?_)) <;> try (exfalso; omega)) | ((with_reducible refine Br.ne (fun _ => ?_) (fun _ => ?_)) <;> try (exfalso; omega)) | ((with_reducible refine brNdec (fun _ => ?_) (fun _ => ?_)) <;> try (exfalso; omega)) | ((with_reducible refine brNeq (fun _ => ?_) (fun _ => ?_)) <;> try (exfalso; omega)) | with_reducible refine Br.intro (fun _ => ?_) (fun _ => ?_) | (with_reducible apply pcallE.of; · exact hI) | (with_reducible refine And.intro ?_ ?_; · omega) | simp -dsimp -implicitDefEqProofs (disch := omega) only [VCA, Nat.reduceEqDiff, Nat.reduceAdd, Nat.reduceLT, Nat.reduceLeDiff, ↓reduceIte, setAt, exists_eq_right_right, exists_eq_left', eNode, e0, b6, d1, d2, d3, n1, n2])
          all_goals first
            | exact ((((Sub.refl h).upd hr5).upd hr6.2).upd hr5).upd hr6.2
            | exact ((Sub.refl h).upd hr5).upd hr6.2
            | (exfalso; omega)
            | trace_state
        · rw [if_neg (fun q => c2 q.2)]
          have d2 : decide (((nd d e.at').kids.length : Int) < p.at') = false := decide_eq_false (by omega)
          simp -dsimp -implicitDefEqProofs (disch := omega) only [↓vcOps_sp 13, ↓vcOps_sp 20, ↓vcOps_sp 35, VCA, ↓upd_none, Nat.reduceEqDiff, Nat.reduceAdd, Nat.reduceLeDiff, ↓reduceIte, ne_eq, c27, eDoc, eP, eEdit, b3, b5]
          intro r5 hr5 r6 hr6
          have n1 : ¬ r5 = r6 := fun q => hr6.1 q.symm
          have n2 : ¬ r6 = r5 := hr6.1
          repeat' (first | ((with_reducible refine Br.dec (fun _ => ?_) (fun _ => ?_)) <;> try (exfalso; omega)) | ((with_reducible refine Br.eq (fun _ => ?_) (fun _ => ?_)) <;> try (exfalso; omega)) | ((with_reducible refine Br.ne (fun _ => ?_) (fun _ => ?_)) <;> try (exfalso; omega)) | ((with_reducible refine brNdec (fun _ => ?_) (fun _ => ?_)) <;> try (exfalso; omega)) | ((with_reducible refine brNeq (fun _ => ?_) (fun _ => ?_)) <;> try (exfalso; omega)) | with_reducible refine Br.intro (fun _ => ?_) (fun _ => ?_) | (with_reducible apply pcallE.of; · exact hI) | (with_reducible refine And.intro ?_ ?_; · omega) | simp -dsimp -implicitDefEqProofs (disch := omega) only [VCA, Nat.reduceEqDiff, Nat.reduceAdd, Nat.reduceLT, Nat.reduceLeDiff, ↓reduceIte, setAt, exists_eq_right_right, exists_eq_left', eNode, e0, b6, d1, d2, d3, n1])
          all_goals first
            | exact ((((Sub.refl h).upd hr5).upd hr6.2).upd hr5).upd hr6.2
            | exact ((Sub.refl h).upd hr5).upd hr6.2
            | (exfalso; omega)
            | trace_state
      · have d3 : (e.before != -1) = true := bN_t c3
        have i3 := i3 c3
        generalize idxM (· == e.before) (nd d e.at').kids = q at *
        by_cases c2 : (insAt d e : Int) < p.at'
        · rw [if_pos ⟨c1, c2⟩]
          have d2 : decide (q < p.at') = true := decide_eq_true (by omega)
          simp -dsimp -implicitDefEqProofs (disch := omega) only [↓vcOps_sp 13, ↓vcOps_sp 20, ↓vcOps_sp 35, VCA, ↓upd_none, Nat.reduceEqDiff, Nat.reduceAdd, Nat.reduceLeDiff, ↓reduceIte, ne_eq, c27, eDoc, eP, eEdit, b3, b5]
          intro r5 hr5 r6 hr6
          have n1 : ¬ r5 = r6 := fun q => hr6.1 q.symm
          have n2 : ¬ r6 = r5 := hr6.1
          repeat' (first | ((with_reducible refine Br.dec (fun _ => ?_) (fun _ => ?_)) <;> try (exfalso; omega)) | ((with_reducible refine Br.eq (fun _ => ?_) (fun _ => ?_)) <;> try (exfalso; omega)) | ((with_reducible refine Br.ne (fun _ => ?_) (fun _ => ?_)) <;> try (exfalso; omega)) | ((with_reducible refine brNdec (fun _ => ?_) (fun _ => ?_)) <;> try (exfalso; omega)) | ((with_reducible refine brNeq (fun _ => ?_) (fun _ => ?_)) <;> try (exfalso; omega)) | with_reducible refine Br.intro (fun _ => ?_) (fun _ => ?_) | (with_reducible apply pcallE.of; · exact hI) | (with_reducible refine And.intro ?_ ?_; · omega) | simp -dsimp -implicitDefEqProofs (disch := omega) only [VCA, Nat.reduceEqDiff, Nat.reduceAdd, Nat.reduceLT, Nat.reduceLeDiff, ↓reduceIte, rsOf, rootsOf, setAt, exists_eq_right_right, exists_eq_left', rootL, eNode, e0, b6, d1, d2, d3, n1, n2])
          all_goals first
            | exact ((((Sub.refl h).upd hr5).upd hr6.2).upd hr5).upd hr6.2
            | exact ((Sub.refl h).upd hr5).upd hr6.2
            | (exfalso; omega)
            | trace_state
        · rw [if_neg (fun q => c2 q.2)]
          have d2 : decide (q < p.at') = false := decide_eq_false (by omega)
          simp -dsimp -implicitDefEqProofs (disch := omega) only [↓vcOps_sp 13, ↓vcOps_sp 20, ↓vcOps_sp 35, VCA, ↓upd_none, Nat.reduceEqDiff, Nat.reduceAdd, Nat.reduceLeDiff, ↓reduceIte, ne_eq, c27, eDoc, eP, eEdit, b3, b5]
          intro r5 hr5 r6 hr6
          have n1 : ¬ r5 = r6 := fun q => hr6.1 q.symm
          have n2 : ¬ r6 = r5 := hr6.1
          repeat' (first | ((with_reducible refine Br.dec (fun _ => ?_) (fun _ => ?_)) <;> try (exfalso; omega)) | ((with_reducible refine Br.eq (fun _ => ?_) (fun _ => ?_)) <;> try (exfalso; omega)) | ((with_reducible refine Br.ne (fun _ => ?_) (fun _ => ?_)) <;> try (exfalso; omega)) | ((with_reducible refine brNdec (fun _ => ?_) (fun _ => ?_)) <;> try (exfalso; omega)) | ((with_reducible refine brNeq (fun _ => ?_) (fun _ => ?_)) <;> try (exfalso; omega)) | with_reducible refine Br.intro (fun _ => ?_) (fun _ => ?_) | (with_reducible apply pcallE.of; · exact hI) | (with_reducible refine And.intro ?_ ?_; · omega) | simp -dsimp -implicitDefEqProofs (disch := omega) only [VCA, Nat.reduceEqDiff, Nat.reduceAdd, Nat.reduceLT, Nat.reduceLeDiff, ↓reduceIte, rsOf, rootsOf, setAt, exists_eq_right_right, exists_eq_left', rootL, eNode, e0, b6, d1, d2, d3, n1])
          all_goals first
            | exact ((((Sub.refl h).upd hr5).upd hr6.2).upd hr5).upd hr6.2
            | exact ((Sub.refl h).upd hr5).upd hr6.2
            | (exfalso; omega)
            | trace_state
    · rw [if_neg (fun q => c1 q.1)]
      have d1 := bI_f c1
      simp -dsimp -implicitDefEqProofs (disch := omega) only [↓vcOps_sp 13, ↓vcOps_sp 20, ↓vcOps_sp 35, VCA, ↓upd_none, Nat.reduceEqDiff, Nat.reduceAdd, Nat.reduceLeDiff, ↓reduceIte, ne_eq, c27, eDoc, eP, eEdit, b3, b5]
      intro r5 hr5 r6 hr6
      have n1 : ¬ r5 = r6 := fun q => hr6.1 q.symm
      have n2 : ¬ r6 = r5 := hr6.1
      repeat' (first | ((with_reducible refine Br.dec (fun _ => ?_) (fun _ => ?_)) <;> try (exfalso; omega)) | ((with_reducible refine Br.eq (fun _ => ?_) (fun _ => ?_)) <;> try (exfalso; omega)) | ((with_reducible refine Br.ne (fun _ => ?_) (fun _ => ?_)) <;> try (exfalso; omega)) | ((with_reducible refine brNdec (fun _ => ?_) (fun _ => ?_)) <;> try (exfalso; omega)) | ((with_reducible refine brNeq (fun _ => ?_) (fun _ => ?_)) <;> try (exfalso; omega)) | with_reducible refine Br.intro (fun _ => ?_) (fun _ => ?_) | (with_reducible apply pcallE.of; · exact hI) | (with_reducible refine And.intro ?_ ?_; · omega) | simp -dsimp -implicitDefEqProofs (disch := omega) only [VCA, Nat.reduceEqDiff, Nat.reduceAdd, Nat.reduceLT, Nat.reduceLeDiff, ↓reduceIte, setAt, exists_eq_right_right, exists_eq_left', b6, d1, n1])
      all_goals first
        | exact ((((Sub.refl h).upd hr5).upd hr6.2).upd hr5).upd hr6.2
        | exact ((Sub.refl h).upd hr5).upd hr6.2
        | (exfalso; omega)
        | trace_state
  rw [if_neg h5]
  have b5 := bI_f h5
  by_cases h6 : e.do' = 6
  · rw [if_pos h6]
    have b6 := bI_t h6
    obtain ⟨_, _, hA, _⟩ := errR_at h0 (by omega)
    have hA0 := hA.1
    have hA1 := hA.2
    have hpp : 0 ≤ (nd d e.at').parent := by
      rw [errR_6 h6 hA] at h0
      split at h0
      · omega
      · split at h0 <;> omega
    have hP := (V.par_in hA hpp).1
    have hP0 := hP.1
    have hP1 := hP.2
    have kl := (sm.nd (nd d e.at').parent).kids
    have hI := placeIn_ok (G := G) (nd d (nd d e.at').parent).kids e.at' kl
    have hU := under_ok (G := G) d V p.node e.at' hn hA0
    unfold eDoc at hU
    have e0 : nth d.nodes e.at'.toNat = nd d e.at' := rfl
    have e1 : nth d.nodes (nd d e.at').parent.toNat = nd d (nd d e.at').parent := rfl
    generalize idxM (· == e.at') (nd d (nd d e.at').parent).kids = q at *
    generalize hUU : (nd d e.at').parent = u at *
    by_cases c1 : e.at' ∈ chain d p.node
    · rw [if_pos c1]
      have d1 : decide (e.at' ∈ chain d p.node) = true := decide_eq_true c1
      simp -dsimp -implicitDefEqProofs (disch := omega) only [↓vcOps_sp 13, ↓vcOps_sp 20, ↓vcOps_sp 35, VCA, ↓upd_none, Nat.reduceEqDiff, Nat.reduceAdd, Nat.reduceLeDiff, ↓reduceIte, rsOf, rootsOf, ne_eq, rootL, c27, eDoc, eP, eEdit, b3, b5, b6]
      intro r5 hr5 r6 hr6
      have n1 : ¬ r5 = r6 := fun q => hr6.1 q.symm
      have n2 : ¬ r6 = r5 := hr6.1
      repeat' (first | ((with_reducible refine Br.dec (fun _ => ?_) (fun _ => ?_)) <;> try (exfalso; omega)) | ((with_reducible refine Br.eq (fun _ => ?_) (fun _ => ?_)) <;> try (exfalso; omega)) | ((with_reducible refine Br.ne (fun _ => ?_) (fun _ => ?_)) <;> try (exfalso; omega)) | ((with_reducible refine brNdec (fun _ => ?_) (fun _ => ?_)) <;> try (exfalso; omega)) | ((with_reducible refine brNeq (fun _ => ?_) (fun _ => ?_)) <;> try (exfalso; omega)) | with_reducible refine Br.intro (fun _ => ?_) (fun _ => ?_) | (with_reducible apply pcallE.of; · exact hI) | (with_reducible apply pcallE.of; · exact hU) | (with_reducible refine And.intro ?_ ?_; · omega) | simp -dsimp -implicitDefEqProofs (disch := omega) only [VCA, Nat.reduceEqDiff, Nat.reduceAdd, Nat.reduceLT, Nat.reduceLeDiff, ↓reduceIte, rsOf, rootsOf, fillA, okFill, setAt, exists_eq_right_right, exists_eq_left', rootL, eNode, e0, e1, hUU, d1, n1])
      all_goals first
        | exact ((((Sub.refl h).upd hr5).upd hr6.2).upd hr5).upd hr6.2
        | exact ((Sub.refl h).upd hr5).upd hr6.2
        | (exfalso; omega)
        | trace_state
    · rw [if_neg c1]
      have d1 : decide (e.at' ∈ chain d p.node) = false := decide_eq_false c1
      by_cases c2 : p.node = u
      · have d2 := bI_t c2
        by_cases c3 : q < p.at'
        · rw [if_pos ⟨c2, c3⟩]
          have d3 : decide (q < p.at') = true := decide_eq_true c3
          simp -dsimp -implicitDefEqProofs (disch := omega) only [↓vcOps_sp 13, ↓vcOps_sp 20, ↓vcOps_sp 35, VCA, ↓upd_none, Nat.reduceEqDiff, Nat.reduceAdd, Nat.reduceLeDiff, ↓reduceIte, rsOf, rootsOf, ne_eq, rootL, c27, eDoc, eP, eEdit, b3, b5, b6]
          intro r5 hr5 r6 hr6
          have n1 : ¬ r5 = r6 := fun q => hr6.1 q.symm
          have n2 : ¬ r6 = r5 := hr6.1
          repeat' (first | ((with_reducible refine Br.dec (fun _ => ?_) (fun _ => ?_)) <;> try (exfalso; omega)) | ((with_reducible refine Br.eq (fun _ => ?_) (fun _ => ?_)) <;> try (exfalso; omega)) | ((with_reducible refine Br.ne (fun _ => ?_) (fun _ => ?_)) <;> try (exfalso; omega)) | ((with_reducible refine brNdec (fun _ => ?_) (fun _ => ?_)) <;> try (exfalso; omega)) | ((with_reducible refine brNeq (fun _ => ?_) (fun _ => ?_)) <;> try (exfalso; omega)) | with_reducible refine Br.intro (fun _ => ?_) (fun _ => ?_) | (with_reducible apply pcallE.of; · exact hI) | (with_reducible apply pcallE.of; · exact hU) | (with_reducible refine And.intro ?_ ?_; · omega) | simp -dsimp -implicitDefEqProofs (disch := omega) only [↓vcOps_sp 103, VCA, Nat.reduceEqDiff, Nat.reduceAdd, Nat.reduceLT, Nat.reduceLeDiff, ↓reduceIte, rsOf, rootsOf, setAt, exists_eq_right_right, exists_eq_left', rootL, eNode, e0, e1, hUU, d1, d2, d3, n1, n2])
          all_goals first
            | exact ((((Sub.refl h).upd hr5).upd hr6.2).upd hr5).upd hr6.2
            | exact ((Sub.refl h).upd hr5).upd hr6.2
            | (exfalso; omega)
            | trace_state
        · rw [if_neg (fun q => c3 q.2)]
          have d3 : decide (q < p.at') = false := decide_eq_false c3
          simp -dsimp -implicitDefEqProofs (disch := omega) only [↓vcOps_sp 13, ↓vcOps_sp 20, ↓vcOps_sp 35, VCA, ↓upd_none, Nat.reduceEqDiff, Nat.reduceAdd, Nat.reduceLeDiff, ↓reduceIte, rsOf, rootsOf, ne_eq, rootL, c27, eDoc, eP, eEdit, b3, b5, b6]
          intro r5 hr5 r6 hr6
          have n1 : ¬ r5 = r6 := fun q => hr6.1 q.symm
          have n2 : ¬ r6 = r5 := hr6.1
          repeat' (first | ((with_reducible refine Br.dec (fun _ => ?_) (fun _ => ?_)) <;> try (exfalso; omega)) | ((with_reducible refine Br.eq (fun _ => ?_) (fun _ => ?_)) <;> try (exfalso; omega)) | ((with_reducible refine Br.ne (fun _ => ?_) (fun _ => ?_)) <;> try (exfalso; omega)) | ((with_reducible refine brNdec (fun _ => ?_) (fun _ => ?_)) <;> try (exfalso; omega)) | ((with_reducible refine brNeq (fun _ => ?_) (fun _ => ?_)) <;> try (exfalso; omega)) | with_reducible refine Br.intro (fun _ => ?_) (fun _ => ?_) | (with_reducible apply pcallE.of; · exact hI) | (with_reducible apply pcallE.of; · exact hU) | (with_reducible refine And.intro ?_ ?_; · omega) | simp -dsimp -implicitDefEqProofs (disch := omega) only [↓vcOps_sp 103, VCA, Nat.reduceEqDiff, Nat.reduceAdd, Nat.reduceLT, Nat.reduceLeDiff, ↓reduceIte, rsOf, rootsOf, setAt, exists_eq_right_right, exists_eq_left', rootL, eNode, e0, e1, hUU, d1, d2, d3, n1])
          all_goals first
            | exact ((((Sub.refl h).upd hr5).upd hr6.2).upd hr5).upd hr6.2
            | exact ((Sub.refl h).upd hr5).upd hr6.2
            | (exfalso; omega)
            | trace_state
      · rw [if_neg (fun q => c2 q.1)]
        have d2 := bI_f c2
        simp -dsimp -implicitDefEqProofs (disch := omega) only [↓vcOps_sp 13, ↓vcOps_sp 20, ↓vcOps_sp 35, VCA, ↓upd_none, Nat.reduceEqDiff, Nat.reduceAdd, Nat.reduceLeDiff, ↓reduceIte, rsOf, rootsOf, ne_eq, rootL, c27, eDoc, eP, eEdit, b3, b5, b6]
        intro r5 hr5 r6 hr6
        have n1 : ¬ r5 = r6 := fun q => hr6.1 q.symm
        have n2 : ¬ r6 = r5 := hr6.1
        repeat' (first | ((with_reducible refine Br.dec (fun _ => ?_) (fun _ => ?_)) <;> try (exfalso; omega)) | ((with_reducible refine Br.eq (fun _ => ?_) (fun _ => ?_)) <;> try (exfalso; omega)) | ((with_reducible refine Br.ne (fun _ => ?_) (fun _ => ?_)) <;> try (exfalso; omega)) | ((with_reducible refine brNdec (fun _ => ?_) (fun _ => ?_)) <;> try (exfalso; omega)) | ((with_reducible refine brNeq (fun _ => ?_) (fun _ => ?_)) <;> try (exfalso; omega)) | with_reducible refine Br.intro (fun _ => ?_) (fun _ => ?_) | (with_reducible apply pcallE.of; · exact hI) | (with_reducible apply pcallE.of; · exact hU) | (with_reducible refine And.intro ?_ ?_; · omega) | simp -dsimp -implicitDefEqProofs (disch := omega) only [↓vcOps_sp 103, VCA, Nat.reduceEqDiff, Nat.reduceAdd, Nat.reduceLT, Nat.reduceLeDiff, ↓reduceIte, rsOf, rootsOf, setAt, exists_eq_right_right, exists_eq_left', rootL, eNode, e0, e1, hUU, d1, d2, n1])
        all_goals first
          | exact ((((Sub.refl h).upd hr5).upd hr6.2).upd hr5).upd hr6.2
          | exact ((Sub.refl h).upd hr5).upd hr6.2
          | (exfalso; omega)
          | trace_state
  · rw [if_neg h6]
    have b6 := bI_f h6
    simp -dsimp -implicitDefEqProofs (disch := omega) only [↓vcOps_sp 13, ↓vcOps_sp 20, ↓vcOps_sp 35, VCA, ↓upd_none, Nat.reduceEqDiff, Nat.reduceAdd, Nat.reduceLT, Nat.reduceLeDiff, ↓reduceIte, setAt, ne_eq, exists_eq_right_right, exists_eq_left', c27, eDoc, eP, eEdit, b3, b5, b6]
    intro r5 hr5 r6 hr6
    have n1 : ¬ r5 = r6 := fun q => hr6.1 q.symm
    have n2 : ¬ r6 = r5 := hr6.1
    repeat' (first | ((with_reducible refine Br.dec (fun _ => ?_) (fun _ => ?_)) <;> try (exfalso; omega)) | ((with_reducible refine Br.eq (fun _ => ?_) (fun _ => ?_)) <;> try (exfalso; omega)) | ((with_reducible refine Br.ne (fun _ => ?_) (fun _ => ?_)) <;> try (exfalso; omega)) | ((with_reducible refine brNdec (fun _ => ?_) (fun _ => ?_)) <;> try (exfalso; omega)) | ((with_reducible refine brNeq (fun _ => ?_) (fun _ => ?_)) <;> try (exfalso; omega)) | with_reducible refine Br.intro (fun _ => ?_) (fun _ => ?_) | (with_reducible refine And.intro ?_ ?_; · omega) | simp -dsimp -implicitDefEqProofs (disch := omega) only [VCA, Nat.reduceAdd, Nat.reduceLT, ↓reduceIte, exists_eq_left', n1])
    all_goals first
      | exact ((((Sub.refl h).upd hr5).upd hr6.2).upd hr5).upd hr6.2
      | exact ((Sub.refl h).upd hr5).upd hr6.2
      | (exfalso; omega)
      | trace_state
end Go.Proofs.K
end
section
/- Ranges after an edit: the law of SpanLives. -/
set_option linter.unusedSimpArgs false
set_option linter.unusedVariables false
namespace Go.Proofs.K
open Go Go.Sim Go.Proofs
variable {G : Glob}
def c6 : SFun := ⟨(.seq (.reg [⟨(some 3), (.box 24 2 (.t 0)), none⟩, ⟨(some 4), (.boxF 42 12 (.t 1)), none⟩, ⟨(some 5), (.boxF 52 4 (.t 2)), none⟩, ⟨(some 6), (.mv (.c (.bool false))), none⟩]) (.seq (.reg [⟨(some 11), (.ld 2 true (.t 3)), none⟩, ⟨(some 12), (.pcall 23 [(.t 11)]), none⟩, ⟨none, (.st 2 (.t 3) (.t 12)), none⟩]) (.seq (.reg [⟨(some 14), (.ld 2 true (.t 3)), none⟩, ⟨(some 15), (.ld 12 true (.t 4)), none⟩, ⟨(some 16), (.ld 4 true (.t 5)), none⟩, ⟨(some 17), (.pcall 24 [(.t 14), (.t 15), (.t 16)]), none⟩, ⟨(some 13), (.mv (.t 17)), none⟩, ⟨(some 18), (.ext (.t 13) 0), none⟩, ⟨(some 19), (.ext (.t 13) 1), none⟩, ⟨(some 7), (.new 52 4 [(.int .i64 (0)), (.int .i64 (0)), (.int .i64 (0)), (.int .i64 (0))]), none⟩, ⟨none, (.st 4 (.t 7) (.t 18)), none⟩, ⟨(some 8), (.mv (.t 19)), none⟩]) (.seq (.reg [⟨(some 20), (.ld 2 true (.t 3)), none⟩, ⟨(some 21), (.ld 4 true (.t 5)), none⟩, ⟨(some 22), (.pcall 25 [(.t 20), (.t 21)]), none⟩, ⟨(some 9), (.mv (.t 22)), none⟩]) (.seq (.reg [⟨(some 10), (.new 52 4 [(.int .i64 (0)), (.int .i64 (0)), (.int .i64 (0)), (.int .i64 (0))]), none⟩]) (.seq (.seq (.reg [⟨(some 23), (.mv (.t 9)), none⟩, ⟨(some 24), (.bin .eql (.t 23) (.c (.int .i64 (0)))), none⟩]) (.cond (.t 24) (.reg [⟨(some 26), (.ld 2 true (.t 3)), none⟩, ⟨(some 27), (.ld 12 true (.t 4)), none⟩, ⟨(some 28), (.pcall 26 [(.t 26), (.t 27)]), none⟩, ⟨(some 25), (.mv (.t 28)), none⟩, ⟨(some 29), (.ext (.t 25) 0), none⟩, ⟨(some 30), (.ext (.t 25) 1), none⟩, ⟨(some 31), (.ext (.t 25) 2), none⟩, ⟨(some 9), (.mv (.t 31)), none⟩]) .skip)) (.seq (.seq (.reg [⟨(some 32), (.mv (.t 9)), none⟩, ⟨(some 33), (.bin .eql (.t 32) (.c (.int .i64 (0)))), none⟩]) (.cond (.t 33) (.dreg [(⟨(some 34), (.ld 2 true (.t 3)), none⟩, none), (⟨(some 35), (.ld 12 true (.t 4)), none⟩, none), (⟨(some 36), (.fldA 0 (.t 5)), none⟩, none), (⟨(some 37), (.ld 2 true (.t 36)), none⟩, none), (⟨(some 38), (.pcall 27 [(.t 34), (.t 35), (.t 37)]), none⟩, none), (⟨(some 39), (.ld 2 true (.t 3)), none⟩, none), (⟨(some 40), (.ld 12 true (.t 4)), none⟩, none), (⟨(some 41), (.fldA 2 (.t 5)), none⟩, none), (⟨(some 42), (.ld 2 true (.t 41)), none⟩, none), (⟨(some 43), (.pcall 27 [(.t 39), (.t 40), (.t 42)]), none⟩, none), (⟨(some 44), (.bld [(.int .i64 (0)), (.int .i64 (0)), (.int .i64 (0)), (.int .i64 (0))] [(0, (2, (.t 38))), (2, (2, (.t 43)))]), none⟩, none), (⟨none, (.st 4 (.t 10) (.t 44)), none⟩, (some [39, 40, 42, 34, 35, 37]))]) .skip)) (.seq (.reg [⟨(some 45), (.pcall 28 []), none⟩, ⟨(some 46), (.mv (.t 45)), none⟩, ⟨(some 47), (.ld 4 true (.t 7)), (some (46, true))⟩, ⟨(some 48), (.ld 4 true (.t 10)), (some (46, true))⟩, ⟨(some 49), (.eqs false [0, 0, 0, 0] (.t 47) (.t 48)), (some (46, true))⟩, ⟨(some 50), (.pick (.t 46) (.t 49) (.c (.bool false))), none⟩, ⟨(some 51), (.mv (.t 50)), none⟩, ⟨(some 52), (.mv (.t 8)), (some (51, true))⟩, ⟨(some 53), (.mv (.t 9)), (some (51, true))⟩, ⟨(some 54), (.bin .eql (.t 52) (.t 53)), (some (51, true))⟩, ⟨(some 55), (.pick (.t 51) (.t 54) (.c (.bool false))), none⟩, ⟨(some 6), (.mv (.t 55)), none⟩]) .ret)))))))), [(.tmp 6)]⟩
theorem hc6 : toSF Tryz.prog {pure := [23, 24, 25, 26, 27, 28], how := [(3, 6)]} Tryz.f6 = some c6 := by kernel_rfl
theorem hn6 : (Tryz.f6.name == "runtime.NumGoroutine") = false := by kernel_rfl
set_option maxHeartbeats 1000000 in
theorem spanLives_ok (d : HDoc) (sm : DocSm d) (e : HEdit) (he : EditSm e) (s : HSpan) : PCalls (Pg G) 6 [.agg (eDoc d), .agg (eEdit e), .agg (eS s)] (.bool true) := fun h => by
  have hF := brief_ok (G := G) d sm
  have fs := briefM_sm sm
  generalize briefM d = f at *
  have hA := after_ok (G := G) f fs e he s
  have hE := spanErr_ok (G := G) f fs s
  have hB := spanBegun_ok (G := G)
  unfold afterS at hA
  by_cases h1 : spanE f s = 0
  · obtain ⟨hz, ho⟩ := spanE_zero h1
    obtain ⟨hd, hp, hq⟩ := pointsE_zero hz
    have V := docE_DV hd
    have aE : afterE f e s = applyE f e := by unfold afterE; rw [if_neg (by simpa using h1)]
    rw [aE] at hA
    rw [h1] at hE
    have hX := edited_ok (G := G) f V fs e he
    unfold edR at hX
    by_cases h2 : applyE f e = 0
    · have h0 := applyE_errR' V h2
      have hM := pointAfter_ok (G := G) f V fs e he h0 s.a hp
      have hN := pointAfter_ok (G := G) f V fs e he h0 s.b hq
      rw [if_pos h2, h2] at hA
      rw [h2] at hX
      generalize afterP f e s.a = pa at *
      generalize afterP f e s.b = pb at *
      unfold eS eP at *
      refine dcalls_of_vc Tryz.func6 hn6 hc6 (by rw [Tryz.ntmps6]; simp) (by rw [Tryz.ntmps6]; decide) ?_
      simp -dsimp -implicitDefEqProofs (disch := omega) only [VCA, Nat.reduceEqDiff, Nat.reduceAdd, Nat.reduceLT, ↓reduceIte, exists_eq_left', c6, eDoc_len, eDoc_take, eEdit_len]
      intro r3 hr3
      repeat' (first | ((with_reducible refine Br.dec (fun _ => ?_) (fun _ => ?_)) <;> try (exfalso; omega)) | ((with_reducible refine Br.eq (fun _ => ?_) (fun _ => ?_)) <;> try (exfalso; omega)) | ((with_reducible refine Br.ne (fun _ => ?_) (fun _ => ?_)) <;> try (exfalso; omega)) | ((with_reducible refine brNdec (fun _ => ?_) (fun _ => ?_)) <;> try (exfalso; omega)) | ((with_reducible refine brNeq (fun _ => ?_) (fun _ => ?_)) <;> try (exfalso; omega)) | with_reducible refine Br.intro (fun _ => ?_) (fun _ => ?_) | (with_reducible apply pcallE.of; · exact hF) | (with_reducible apply pcallE.of; · exact hA) | (with_reducible refine And.intro ?_ ?_; · omega) | simp -dsimp -implicitDefEqProofs (disch := omega) only [VCA, ↓upd_none, Nat.reduceEqDiff, Nat.reduceAdd, Nat.reduceLT, ↓reduceIte, setAt, ne_eq, exists_eq_left', eDoc_len, eDoc_take, eDoc_drop, eEdit_len, eEdit_take])
      intro r7 hr7
      have n1 : ¬ r7 = r3 := hr7.1
      have n2 : ¬ r3 = r7 := fun q => n1 q.symm
      repeat' (first | ((with_reducible refine Br.dec (fun _ => ?_) (fun _ => ?_)) <;> try (exfalso; omega)) | ((with_reducible refine Br.eq (fun _ => ?_) (fun _ => ?_)) <;> try (exfalso; omega)) | ((with_reducible refine Br.ne (fun _ => ?_) (fun _ => ?_)) <;> try (exfalso; omega)) | ((with_reducible refine brNdec (fun _ => ?_) (fun _ => ?_)) <;> try (exfalso; omega)) | ((with_reducible refine brNeq (fun _ => ?_) (fun _ => ?_)) <;> try (exfalso; omega)) | with_reducible refine Br.intro (fun _ => ?_) (fun _ => ?_) | (with_reducible apply pcallE.of; · exact hE) | (with_reducible refine And.intro ?_ ?_; · omega) | simp -dsimp -implicitDefEqProofs (disch := omega) only [VCA, ↓upd_none, Nat.reduceEqDiff, Nat.reduceLT, ↓reduceIte, ne_eq, exists_eq_left', n2, eDoc_len, eDoc_take])
      intro r10 hr10
      have k1 : ¬ r10 = r7 := hr10.1
      have k2 : ¬ r7 = r10 := fun q => k1 q.symm
      have k3 : ¬ r10 = r3 := hr10.2.1
      have k4 : ¬ r3 = r10 := fun q => k3 q.symm
      repeat' (first | ((with_reducible refine Br.dec (fun _ => ?_) (fun _ => ?_)) <;> try (exfalso; omega)) | ((with_reducible refine Br.eq (fun _ => ?_) (fun _ => ?_)) <;> try (exfalso; omega)) | ((with_reducible refine Br.ne (fun _ => ?_) (fun _ => ?_)) <;> try (exfalso; omega)) | ((with_reducible refine brNdec (fun _ => ?_) (fun _ => ?_)) <;> try (exfalso; omega)) | ((with_reducible refine brNeq (fun _ => ?_) (fun _ => ?_)) <;> try (exfalso; omega)) | with_reducible refine Br.intro (fun _ => ?_) (fun _ => ?_) | (with_reducible apply pcallE.of; · exact hX) | (with_reducible apply pcallE.of; · exact hM) | (with_reducible apply pcallE.of; · exact hN) | (with_reducible apply pcallE.of; · exact hB) | (with_reducible refine And.intro ?_ ?_; · omega) | simp -dsimp -implicitDefEqProofs (disch := omega) only [↓vcOps_sp 46, ↓vcOps_sp 51, VCA, Nat.reduceEqDiff, Nat.reduceBEq, Nat.reduceAdd, Nat.reduceLT, Nat.reduceLeDiff, ↓reduceIte, rsOf, rootsOf, SOp.rd, SI.rd, SX.rd, eqCells, okEqCells, fillA, okFill, setAt, implies_true, exists_eq_right_right, exists_eq_left', rootL, n2, k2, k4, eDoc_len, eDoc_take, eEdit_len, eEdit_take])
      all_goals first | exact ⟨(((Sub.refl h).upd hr3).upd hr7.2).upd hr10.2.2, by simp⟩ | (exfalso; rename_i q; exact q rfl) | (exfalso; rename_i q; revert q; simp; done)
    · have hE2 : (applyE f e == 0) = false := by simpa using h2
      rw [if_neg h2] at hA
      unfold eS at *
      refine dcalls_of_vc Tryz.func6 hn6 hc6 (by rw [Tryz.ntmps6]; simp) (by rw [Tryz.ntmps6]; decide) ?_
      simp -dsimp -implicitDefEqProofs (disch := omega) only [VCA, Nat.reduceEqDiff, Nat.reduceAdd, Nat.reduceLT, ↓reduceIte, exists_eq_left', c6, eDoc_len, eDoc_take, eEdit_len]
      intro r3 hr3
      repeat' (first | ((with_reducible refine Br.dec (fun _ => ?_) (fun _ => ?_)) <;> try (exfalso; omega)) | ((with_reducible refine Br.eq (fun _ => ?_) (fun _ => ?_)) <;> try (exfalso; omega)) | ((with_reducible refine Br.ne (fun _ => ?_) (fun _ => ?_)) <;> try (exfalso; omega)) | ((with_reducible refine brNdec (fun _ => ?_) (fun _ => ?_)) <;> try (exfalso; omega)) | ((with_reducible refine brNeq (fun _ => ?_) (fun _ => ?_)) <;> try (exfalso; omega)) | with_reducible refine Br.intro (fun _ => ?_) (fun _ => ?_) | (with_reducible apply pcallE.of; · exact hF) | (with_reducible apply pcallE.of; · exact hA) | (with_reducible refine And.intro ?_ ?_; · omega) | simp -dsimp -implicitDefEqProofs (disch := omega) only [VCA, ↓upd_none, Nat.reduceEqDiff, Nat.reduceAdd, Nat.reduceLT, ↓reduceIte, setAt, ne_eq, exists_eq_left', eDoc_len, eDoc_take, eDoc_drop, eEdit_len, eEdit_take])
      intro r7 hr7
      have n1 : ¬ r7 = r3 := hr7.1
      have n2 : ¬ r3 = r7 := fun q => n1 q.symm
      repeat' (first | ((with_reducible refine Br.dec (fun _ => ?_) (fun _ => ?_)) <;> try (exfalso; omega)) | ((with_reducible refine Br.eq (fun _ => ?_) (fun _ => ?_)) <;> try (exfalso; omega)) | ((with_reducible refine Br.ne (fun _ => ?_) (fun _ => ?_)) <;> try (exfalso; omega)) | ((with_reducible refine brNdec (fun _ => ?_) (fun _ => ?_)) <;> try (exfalso; omega)) | ((with_reducible refine brNeq (fun _ => ?_) (fun _ => ?_)) <;> try (exfalso; omega)) | with_reducible refine Br.intro (fun _ => ?_) (fun _ => ?_) | (with_reducible apply pcallE.of; · exact hE) | (with_reducible refine And.intro ?_ ?_; · omega) | simp -dsimp -implicitDefEqProofs (disch := omega) only [VCA, ↓upd_none, Nat.reduceEqDiff, Nat.reduceLT, ↓reduceIte, ne_eq, exists_eq_left', n2, eDoc_len, eDoc_take])
      intro r10 hr10
      have k1 : ¬ r10 = r7 := hr10.1
      have k2 : ¬ r7 = r10 := fun q => k1 q.symm
      have k3 : ¬ r10 = r3 := hr10.2.1
      have k4 : ¬ r3 = r10 := fun q => k3 q.symm
      repeat' (first | ((with_reducible refine Br.dec (fun _ => ?_) (fun _ => ?_)) <;> try (exfalso; omega)) | ((with_reducible refine Br.eq (fun _ => ?_) (fun _ => ?_)) <;> try (exfalso; omega)) | ((with_reducible refine Br.ne (fun _ => ?_) (fun _ => ?_)) <;> try (exfalso; omega)) | ((with_reducible refine brNdec (fun _ => ?_) (fun _ => ?_)) <;> try (exfalso; omega)) | ((with_reducible refine brNeq (fun _ => ?_) (fun _ => ?_)) <;> try (exfalso; omega)) | with_reducible refine Br.intro (fun _ => ?_) (fun _ => ?_) | (with_reducible apply pcallE.of; · exact hX) | (with_reducible apply pcallE.of; · exact hB) | (with_reducible refine And.intro ?_ ?_; · omega) | simp -dsimp -implicitDefEqProofs (disch := omega) only [↓vcOps_sp 46, ↓vcOps_sp 51, VCA, Nat.reduceEqDiff, Nat.reduceAdd, Nat.reduceLT, ↓reduceIte, eqCells, okEqCells, exists_eq_right_right, exists_eq_left', hE2, n2, k2, k4, eDoc_len, eDoc_take, eEdit_len, eEdit_take])
      all_goals first | exact ⟨(((Sub.refl h).upd hr3).upd hr7.2).upd hr10.2.2, by simp⟩ | (exfalso; rename_i q; exact q rfl) | (exfalso; rename_i q; revert q; simp; done)
  · have aE : afterE f e s = spanE f s := by unfold afterE; rw [if_pos h1]
    rw [aE, if_neg h1] at hA
    have hE2 : (spanE f s == 0) = false := by simpa using h1
    unfold eS at *
    refine dcalls_of_vc Tryz.func6 hn6 hc6 (by rw [Tryz.ntmps6]; simp) (by rw [Tryz.ntmps6]; decide) ?_
    simp -dsimp -implicitDefEqProofs (disch := omega) only [VCA, Nat.reduceEqDiff, Nat.reduceAdd, Nat.reduceLT, ↓reduceIte, exists_eq_left', c6, eDoc_len, eDoc_take, eEdit_len]
    intro r3 hr3
    repeat' (first | ((with_reducible refine Br.dec (fun _ => ?_) (fun _ => ?_)) <;> try (exfalso; omega)) | ((with_reducible refine Br.eq (fun _ => ?_) (fun _ => ?_)) <;> try (exfalso; omega)) | ((with_reducible refine Br.ne (fun _ => ?_) (fun _ => ?_)) <;> try (exfalso; omega)) | ((with_reducible refine brNdec (fun _ => ?_) (fun _ => ?_)) <;> try (exfalso; omega)) | ((with_reducible refine brNeq (fun _ => ?_) (fun _ => ?_)) <;> try (exfalso; omega)) | with_reducible refine Br.intro (fun _ => ?_) (fun _ => ?_) | (with_reducible apply pcallE.of; · exact hF) | (with_reducible apply pcallE.of; · exact hA) | (with_reducible refine And.intro ?_ ?_; · omega) | simp -dsimp -implicitDefEqProofs (disch := omega) only [VCA, ↓upd_none, Nat.reduceEqDiff, Nat.reduceAdd, Nat.reduceLT, ↓reduceIte, setAt, ne_eq, exists_eq_left', eDoc_len, eDoc_take, eDoc_drop, eEdit_len, eEdit_take])
    intro r7 hr7
    have n1 : ¬ r7 = r3 := hr7.1
    have n2 : ¬ r3 = r7 := fun q => n1 q.symm
    repeat' (first | ((with_reducible refine Br.dec (fun _ => ?_) (fun _ => ?_)) <;> try (exfalso; omega)) | ((with_reducible refine Br.eq (fun _ => ?_) (fun _ => ?_)) <;> try (exfalso; omega)) | ((with_reducible refine Br.ne (fun _ => ?_) (fun _ => ?_)) <;> try (exfalso; omega)) | ((with_reducible refine brNdec (fun _ => ?_) (fun _ => ?_)) <;> try (exfalso; omega)) | ((with_reducible refine brNeq (fun _ => ?_) (fun _ => ?_)) <;> try (exfalso; omega)) | with_reducible refine Br.intro (fun _ => ?_) (fun _ => ?_) | (with_reducible apply pcallE.of; · exact hE) | (with_reducible refine And.intro ?_ ?_; · omega) | simp -dsimp -implicitDefEqProofs (disch := omega) only [VCA, ↓upd_none, Nat.reduceEqDiff, Nat.reduceLT, ↓reduceIte, ne_eq, exists_eq_left', hE2, n2, eDoc_len, eDoc_take])
    intro r10 hr10
    have k1 : ¬ r10 = r7 := hr10.1
    have k2 : ¬ r7 = r10 := fun q => k1 q.symm
    have k3 : ¬ r10 = r3 := hr10.2.1
    have k4 : ¬ r3 = r10 := fun q => k3 q.symm
    repeat' (first | ((with_reducible refine Br.dec (fun _ => ?_) (fun _ => ?_)) <;> try (exfalso; omega)) | ((with_reducible refine Br.eq (fun _ => ?_) (fun _ => ?_)) <;> try (exfalso; omega)) | ((with_reducible refine Br.ne (fun _ => ?_) (fun _ => ?_)) <;> try (exfalso; omega)) | ((with_reducible refine brNdec (fun _ => ?_) (fun _ => ?_)) <;> try (exfalso; omega)) | ((with_reducible refine brNeq (fun _ => ?_) (fun _ => ?_)) <;> try (exfalso; omega)) | with_reducible refine Br.intro (fun _ => ?_) (fun _ => ?_) | (with_reducible apply pcallE.of; · exact hB) | (with_reducible refine And.intro ?_ ?_; · omega) | simp -dsimp -implicitDefEqProofs (disch := omega) only [↓vcOps_sp 46, ↓vcOps_sp 51, VCA, Nat.reduceEqDiff, Nat.reduceAdd, Nat.reduceLT, ↓reduceIte, eqCells, okEqCells, exists_eq_right_right, exists_eq_left', k2])
    all_goals first | exact ⟨(((Sub.refl h).upd hr3).upd hr7.2).upd hr10.2.2, by simp⟩ | (exfalso; rename_i q; exact q rfl) | (exfalso; rename_i q; revert q; simp; done)
end Go.Proofs.K
end
