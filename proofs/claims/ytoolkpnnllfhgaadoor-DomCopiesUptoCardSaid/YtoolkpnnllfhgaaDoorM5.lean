/- Texts of this claim, one behind the other. -/
import Derived.Test.YtoolkpnnllfhgaaDoorM4
import Derived.Test.YtoolkpnnllfhgaaDoorM3
import Derived.Shelf.Spec.SlicesInsert
import Derived.Shelf.Spec.SlicesInsertGrow
section
set_option linter.unusedSimpArgs false
set_option linter.unusedVariables false
namespace Go.Proofs.K
open Go Go.Sim Go.Proofs
variable {G : Glob}
def deepM (d : HDoc) (n : Int) : Int := if d.nodes.length < up d n then -1 else up d n
def c36 : SFun := ⟨.seq (.reg [⟨some 2, .boxF 24 2 (.t 0), none⟩, ⟨some 4, .mv (.c (.int .i64 0)), none⟩]) (.seq (.reg [⟨some 5, .mv (.c (.int .i64 0)), none⟩]) (.seq (.block 0 (.loop (.seq (.seq (.reg [⟨some 6, .fldA 0 (.t 2), none⟩, ⟨some 7, .ld 1 false (.t 6), none⟩, ⟨some 8, .mv (.t 1), none⟩, ⟨some 9, .idxA 6 (.t 7) (.t 8), none⟩, ⟨some 10, .fldA 4 (.t 9), none⟩, ⟨some 11, .ld 1 false (.t 10), none⟩, ⟨some 12, .bin .geq (.t 11) (.c (.int .i64 0)), none⟩]) (.cond (.t 12) .skip (.exit 0))) (.block 1 (.seq (.reg [⟨some 13, .fldA 0 (.t 2), none⟩, ⟨some 14, .ld 1 false (.t 13), none⟩, ⟨some 15, .mv (.t 1), none⟩, ⟨some 16, .idxA 6 (.t 14) (.t 15), none⟩, ⟨some 17, .fldA 4 (.t 16), none⟩, ⟨some 18, .ld 1 false (.t 17), none⟩, ⟨some 1, .mv (.t 18), none⟩]) (.seq (.reg [⟨some 19, .mv (.t 5), none⟩, ⟨some 20, .bin .add (.t 19) (.c (.int .i64 1)), none⟩, ⟨some 5, .mv (.t 20), none⟩]) (.seq (.reg [⟨some 21, .mv (.t 5), none⟩, ⟨some 22, .fldA 0 (.t 2), none⟩, ⟨some 23, .ld 1 false (.t 22), none⟩, ⟨some 24, .len (.t 23), none⟩, ⟨some 25, .bin .gtr (.t 21) (.t 24), none⟩]) (.cond (.t 25) (.seq (.reg [⟨some 4, .mv (.c (.int .i64 (-1))), none⟩]) .ret) .skip)))))))) (.seq (.reg [⟨some 26, .mv (.t 5), none⟩, ⟨some 4, .mv (.t 26), none⟩]) .ret))), [.tmp 4]⟩
theorem hc36 : toSF Tryd.prog {} Tryd.f36 = some c36 := by kernel_rfl
theorem hn36 : (Tryd.f36.name == "runtime.NumGoroutine") = false := by kernel_rfl
theorem deep_ok (d : HDoc) (sm : DocSm d) (hP : ∀ n, inD d n → 0 ≤ (nd d n).parent → inD d (nd d n).parent) (n : Int) (hn : inD d n) : PCalls (Pg G) 36 [.agg (eDoc d), aInt n] (aInt (deepM d n)) := fun h => by
  have hl := sm.len
  refine dcalls_of_vc Tryd.func36 hn36 hc36 (by rw [Tryd.ntmps36]; simp) (by rw [Tryd.ntmps36]; decide) ?_
  simp -dsimp -implicitDefEqProofs (disch := omega) only [VCA, pg_gl, ↓upd_none, Nat.reduceEqDiff, Nat.reduceBEq, Nat.reduceAdd, Nat.reduceSub, Nat.reduceMul, Nat.reduceLT, Nat.reduceLeDiff, ↓reduceIte, reduceCtorEq, rsOf, rootsOf, SOp.rd, SI.rd, SX.rd, rdL, rdO, rdP, okParts, eqCells, okEqCells, fillA, okFill, setAt, implies_true, forall_const, forall_eq, ne_eq, exists_eq_right_right, exists_eq_right, exists_eq_left, exists_eq_left', rootL, eAttr, eInt, eNode, eDoc, eBool, lit_eq, c36, eDoc]
  refine LoopVC.intro (fun m e h' => ∃ (c : Int) (k : Nat), k ≤ d.nodes.length ∧ m = d.nodes.length + 1 - k ∧ inD d c ∧ e 1 = aInt c ∧ e 2 = .pin (eDoc d) ∧ e 5 = aInt k ∧ h' = h ∧ k + upF (d.nodes.length + 1 - k) d c = up d n) (d.nodes.length + 1) ⟨n, 0, by omega, rfl, hn, rfl, rfl, rfl, rfl, by simp [up]⟩ ?_
  rintro m e h' ⟨c, k, hk, rfl, hc, he1, he2, he5, rfl, hu⟩
  have hc0 := hc.1
  have hc1 := hc.2
  simp -dsimp -implicitDefEqProofs (disch := omega) only [VCA, pg_gl, ↓upd_none, Nat.reduceEqDiff, Nat.reduceBEq, Nat.reduceAdd, Nat.reduceSub, Nat.reduceMul, Nat.reduceLT, Nat.reduceLeDiff, ↓reduceIte, reduceCtorEq, rsOf, rootsOf, SOp.rd, SI.rd, SX.rd, rdL, rdO, rdP, okParts, eqCells, okEqCells, fillA, okFill, setAt, implies_true, forall_const, forall_eq, ne_eq, exists_eq_right_right, exists_eq_right, exists_eq_left, exists_eq_left', rootL, eAttr, eInt, eNode, eDoc, eBool, lit_eq, he1, he2, he5, eDoc]
  refine ⟨by omega, ?_⟩
  have e0 : nth d.nodes c.toNat = nd d c := rfl
  rw [e0]
  refine Br.dec (fun h1 => ?_) (fun h1 => ?_)
  · obtain ⟨f, hf⟩ : ∃ f, d.nodes.length + 1 - k = f + 1 := ⟨d.nodes.length - k, by omega⟩
    rw [hf, upF, if_pos h1] at hu
    simp -dsimp -implicitDefEqProofs (disch := omega) only [VCA, pg_gl, ↓upd_none, Nat.reduceEqDiff, Nat.reduceBEq, Nat.reduceAdd, Nat.reduceSub, Nat.reduceMul, Nat.reduceLT, Nat.reduceLeDiff, ↓reduceIte, reduceCtorEq, rsOf, rootsOf, SOp.rd, SI.rd, SX.rd, rdL, rdO, rdP, okParts, eqCells, okEqCells, fillA, okFill, setAt, implies_true, forall_const, forall_eq, ne_eq, exists_eq_right_right, exists_eq_right, exists_eq_left, exists_eq_left', rootL, eAttr, eInt, eNode, eDoc, eBool, lit_eq, he1, he2, he5, eDoc]
    rw [e0]
    refine ⟨by omega, ?_⟩
    refine Br.dec (fun h2 => ?_) (fun h2 => ?_)
    · simp -dsimp -implicitDefEqProofs (disch := omega) only [VCA, pg_gl, ↓upd_none, Nat.reduceEqDiff, Nat.reduceBEq, Nat.reduceAdd, Nat.reduceSub, Nat.reduceMul, Nat.reduceLT, Nat.reduceLeDiff, ↓reduceIte, reduceCtorEq, rsOf, rootsOf, SOp.rd, SI.rd, SX.rd, rdL, rdO, rdP, okParts, eqCells, okEqCells, fillA, okFill, setAt, implies_true, forall_const, forall_eq, ne_eq, exists_eq_right_right, exists_eq_right, exists_eq_left, exists_eq_left', rootL, eAttr, eInt, eNode, eDoc, eBool, lit_eq]
      have : d.nodes.length < up d n := by omega
      exact ⟨Sub.refl _, by unfold deepM; rw [if_pos this]⟩
    · simp -dsimp -implicitDefEqProofs (disch := omega) only [VCA, pg_gl, ↓upd_none, Nat.reduceEqDiff, Nat.reduceBEq, Nat.reduceAdd, Nat.reduceSub, Nat.reduceMul, Nat.reduceLT, Nat.reduceLeDiff, ↓reduceIte, reduceCtorEq, rsOf, rootsOf, SOp.rd, SI.rd, SX.rd, rdL, rdO, rdP, okParts, eqCells, okEqCells, fillA, okFill, setAt, implies_true, forall_const, forall_eq, ne_eq, exists_eq_right_right, exists_eq_right, exists_eq_left, exists_eq_left', rootL, eAttr, eInt, eNode, eDoc, eBool, lit_eq, he2, he5]
      refine ⟨_, ?_, (nd d c).parent, k + 1, by omega, rfl, hP c hc h1, rfl, by omega, ?_⟩
      · omega
      · have e2 : d.nodes.length + 1 - (k + 1) = f := by omega
        rw [e2]; omega
  · simp -dsimp -implicitDefEqProofs (disch := omega) only [VCA, pg_gl, ↓upd_none, Nat.reduceEqDiff, Nat.reduceBEq, Nat.reduceAdd, Nat.reduceSub, Nat.reduceMul, Nat.reduceLT, Nat.reduceLeDiff, ↓reduceIte, reduceCtorEq, rsOf, rootsOf, SOp.rd, SI.rd, SX.rd, rdL, rdO, rdP, okParts, eqCells, okEqCells, fillA, okFill, setAt, implies_true, forall_const, forall_eq, ne_eq, exists_eq_right_right, exists_eq_right, exists_eq_left, exists_eq_left', rootL, eAttr, eInt, eNode, eDoc, eBool, lit_eq, he5]
    rw [upF_top h1] at hu
    exact ⟨Sub.refl _, by unfold deepM; rw [if_neg (by omega)]; omega⟩
def c10_s7 : SCode := (.seq (.seq (.reg [⟨some 153, .fldA 0 (.t 1), none⟩, ⟨some 154, .ld 1 false (.t 153), none⟩, ⟨some 155, .idxA 6 (.t 154) (.c (.int .i64 0)), none⟩, ⟨some 156, .fldA 4 (.t 155), none⟩, ⟨some 157, .ld 1 false (.t 156), none⟩, ⟨some 158, .bin .neq (.t 157) (.c (.int .i64 (-1))), none⟩]) (.cond (.t 158) (.seq (.reg [⟨some 2, .mv (.c (.int .i64 3)), none⟩]) .ret) .skip)) (.seq (.seq (.reg [⟨some 11, .mv (.c (.int .i64 0)), none⟩]) (.block 8 (.loop (.seq (.seq (.reg [⟨some 159, .mv (.t 11), none⟩, ⟨some 160, .mv (.t 3), none⟩, ⟨some 161, .bin .lss (.t 159) (.t 160), none⟩]) (.cond (.t 161) .skip (.exit 8))) (.seq (.block 9 (.seq (.reg [⟨some 164, .ld 2 true (.t 1), none⟩, ⟨some 165, .mv (.t 11), none⟩, ⟨some 166, .pcall 36 [.t 164, .t 165], none⟩, ⟨some 12, .mv (.t 166), none⟩]) (.seq (.seq (.reg [⟨some 167, .mv (.t 12), none⟩, ⟨some 168, .bin .lss (.t 167) (.c (.int .i64 0)), none⟩]) (.cond (.t 168) (.seq (.reg [⟨some 2, .mv (.c (.int .i64 8)), none⟩]) .ret) .skip)) (.seq (.reg [⟨some 169, .mv (.t 12), none⟩, ⟨some 170, .bin .gtr (.t 169) (.c (.int .i64 40)), none⟩]) (.cond (.t 170) (.seq (.reg [⟨some 2, .mv (.c (.int .i64 2)), none⟩]) .ret) .skip))))) (.reg [⟨some 162, .mv (.t 11), none⟩, ⟨some 163, .bin .add (.t 162) (.c (.int .i64 1)), none⟩, ⟨some 11, .mv (.t 163), none⟩])))))) (.seq (.reg [⟨some 2, .mv (.c (.int .i64 0)), none⟩]) .ret)))
def c10_s6 : SCode := (.seq (.seq (.reg [⟨some 9, .mv (.c (.int .i64 0)), none⟩]) (.block 6 (.loop (.seq (.seq (.reg [⟨some 122, .mv (.t 9), none⟩, ⟨some 123, .mv (.t 3), none⟩, ⟨some 124, .bin .lss (.t 122) (.t 123), none⟩]) (.cond (.t 124) .skip (.exit 6))) (.seq (.block 7 (.seq (.reg [⟨some 127, .fldA 0 (.t 1), none⟩, ⟨some 128, .ld 1 false (.t 127), none⟩, ⟨some 129, .mv (.t 9), none⟩, ⟨some 130, .idxA 6 (.t 128) (.t 129), none⟩, ⟨some 131, .fldA 4 (.t 130), none⟩, ⟨some 132, .ld 1 false (.t 131), none⟩, ⟨some 10, .mv (.t 132), none⟩]) (.seq (.reg [⟨some 133, .mv (.t 10), none⟩, ⟨some 134, .bin .neq (.t 133) (.c (.int .i64 (-1))), none⟩, ⟨some 135, .mv (.t 134), none⟩, ⟨some 136, .mv (.t 10), some (135, true)⟩, ⟨some 137, .mv (.t 3), some (135, true)⟩, ⟨some 138, .bin .sub (.t 137) (.c (.int .i64 1)), some (135, true)⟩, ⟨some 139, .pcall 34 [.t 136, .c (.int .i64 0), .t 138], some (135, true)⟩, ⟨some 140, .un .not (.t 139), some (135, true)⟩, ⟨some 141, .mv (.t 140), some (135, true)⟩, ⟨some 142, .fldA 0 (.t 1), some (141, false)⟩, ⟨some 143, .ld 1 false (.t 142), some (141, false)⟩, ⟨some 144, .mv (.t 10), some (141, false)⟩, ⟨some 145, .idxA 6 (.t 143) (.t 144), some (141, false)⟩, ⟨some 146, .fldA 5 (.t 145), some (141, false)⟩, ⟨some 147, .ld 1 false (.t 146), some (141, false)⟩, ⟨some 148, .mv (.t 9), some (141, false)⟩, ⟨some 149, .pcall 35 [.t 147, .t 148], some (141, false)⟩, ⟨some 150, .bin .lss (.t 149) (.c (.int .i64 0)), some (141, false)⟩, ⟨some 151, .pick (.t 141) (.c (.bool true)) (.t 150), some (135, true)⟩, ⟨some 152, .pick (.t 135) (.t 151) (.c (.bool false)), none⟩]) (.cond (.t 152) (.seq (.reg [⟨some 2, .mv (.c (.int .i64 3)), none⟩]) .ret) .skip)))) (.reg [⟨some 125, .mv (.t 9), none⟩, ⟨some 126, .bin .add (.t 125) (.c (.int .i64 1)), none⟩, ⟨some 9, .mv (.t 126), none⟩])))))) c10_s7)
def c10_s5 : SCode := (.seq (.seq (.reg [⟨some 6, .mv (.c (.int .i64 0)), none⟩]) (.block 2 (.loop (.seq (.seq (.reg [⟨some 58, .mv (.t 6), none⟩, ⟨some 59, .mv (.t 3), none⟩, ⟨some 60, .bin .lss (.t 58) (.t 59), none⟩]) (.cond (.t 60) .skip (.exit 2))) (.seq (.block 3 (.seq (.reg [⟨some 7, .mv (.c (.int .i64 0)), none⟩]) (.block 4 (.loop (.seq (.seq (.reg [⟨some 63, .mv (.t 7), none⟩, ⟨some 64, .fldA 0 (.t 1), none⟩, ⟨some 65, .ld 1 false (.t 64), none⟩, ⟨some 66, .mv (.t 6), none⟩, ⟨some 67, .idxA 6 (.t 65) (.t 66), none⟩, ⟨some 68, .fldA 5 (.t 67), none⟩, ⟨some 69, .ld 1 false (.t 68), none⟩, ⟨some 70, .len (.t 69), none⟩, ⟨some 71, .bin .lss (.t 63) (.t 70), none⟩]) (.cond (.t 71) .skip (.exit 4))) (.seq (.block 5 (.seq (.reg [⟨some 74, .fldA 0 (.t 1), none⟩, ⟨some 75, .ld 1 false (.t 74), none⟩, ⟨some 76, .mv (.t 6), none⟩, ⟨some 77, .idxA 6 (.t 75) (.t 76), none⟩, ⟨some 78, .fldA 5 (.t 77), none⟩, ⟨some 79, .ld 1 false (.t 78), none⟩, ⟨some 80, .mv (.t 7), none⟩, ⟨some 81, .idxA 1 (.t 79) (.t 80), none⟩, ⟨some 82, .ld 1 false (.t 81), none⟩, ⟨some 8, .mv (.t 82), none⟩]) (.seq (.seq (.reg [⟨some 83, .mv (.t 8), none⟩, ⟨some 84, .mv (.t 3), none⟩, ⟨some 85, .bin .sub (.t 84) (.c (.int .i64 1)), none⟩, ⟨some 86, .pcall 34 [.t 83, .c (.int .i64 0), .t 85], none⟩, ⟨some 87, .un .not (.t 86), none⟩, ⟨some 88, .mv (.t 87), none⟩, ⟨some 89, .fldA 0 (.t 1), some (88, false)⟩, ⟨some 90, .ld 1 false (.t 89), some (88, false)⟩, ⟨some 91, .mv (.t 8), some (88, false)⟩, ⟨some 92, .idxA 6 (.t 90) (.t 91), some (88, false)⟩, ⟨some 93, .fldA 4 (.t 92), some (88, false)⟩, ⟨some 94, .ld 1 false (.t 93), some (88, false)⟩, ⟨some 95, .mv (.t 6), some (88, false)⟩, ⟨some 96, .bin .neq (.t 94) (.t 95), some (88, false)⟩, ⟨some 97, .pick (.t 88) (.c (.bool true)) (.t 96), none⟩, ⟨some 98, .mv (.t 97), none⟩, ⟨some 99, .fldA 0 (.t 1), some (98, false)⟩, ⟨some 100, .ld 1 false (.t 99), some (98, false)⟩, ⟨some 101, .mv (.t 6), some (98, false)⟩, ⟨some 102, .idxA 6 (.t 100) (.t 101), some (98, false)⟩, ⟨some 103, .fldA 5 (.t 102), some (98, false)⟩, ⟨some 104, .ld 1 false (.t 103), some (98, false)⟩, ⟨some 105, .mv (.t 7), some (98, false)⟩, ⟨some 106, .slA 1 (.t 104) none (some (.t 105)), some (98, false)⟩, ⟨some 107, .mv (.t 8), some (98, false)⟩, ⟨some 108, .pcall 35 [.t 106, .t 107], some (98, false)⟩, ⟨some 109, .bin .geq (.t 108) (.c (.int .i64 0)), some (98, false)⟩, ⟨some 110, .pick (.t 98) (.c (.bool true)) (.t 109), none⟩]) (.cond (.t 110) (.seq (.reg [⟨some 2, .mv (.c (.int .i64 3)), none⟩]) .ret) .skip)) (.seq (.reg [⟨some 111, .mv (.t 6), none⟩, ⟨some 112, .bin .eql (.t 111) (.c (.int .i64 0)), none⟩, ⟨some 113, .mv (.t 112), none⟩, ⟨some 114, .fldA 0 (.t 1), some (113, true)⟩, ⟨some 115, .ld 1 false (.t 114), some (113, true)⟩, ⟨some 116, .mv (.t 8), some (113, true)⟩, ⟨some 117, .idxA 6 (.t 115) (.t 116), some (113, true)⟩, ⟨some 118, .fldA 0 (.t 117), some (113, true)⟩, ⟨some 119, .ld 1 false (.t 118), some (113, true)⟩, ⟨some 120, .bin .eql (.t 119) (.c (.int .i64 3)), some (113, true)⟩, ⟨some 121, .pick (.t 113) (.t 120) (.c (.bool false)), none⟩]) (.cond (.t 121) (.seq (.reg [⟨some 2, .mv (.c (.int .i64 7)), none⟩]) .ret) .skip))))) (.reg [⟨some 72, .mv (.t 7), none⟩, ⟨some 73, .bin .add (.t 72) (.c (.int .i64 1)), none⟩, ⟨some 7, .mv (.t 73), none⟩]))))))) (.reg [⟨some 61, .mv (.t 6), none⟩, ⟨some 62, .bin .add (.t 61) (.c (.int .i64 1)), none⟩, ⟨some 6, .mv (.t 62), none⟩])))))) c10_s6)
def c10_s4 : SCode := (.seq (.seq (.reg [⟨some 4, .mv (.c (.int .i64 0)), none⟩]) (.block 0 (.loop (.seq (.seq (.reg [⟨some 20, .mv (.t 4), none⟩, ⟨some 21, .mv (.t 3), none⟩, ⟨some 22, .bin .lss (.t 20) (.t 21), none⟩]) (.cond (.t 22) .skip (.exit 0))) (.seq (.block 1 (.seq (.seq (.reg [⟨some 25, .mv (.t 4), none⟩, ⟨some 26, .bin .eql (.t 25) (.c (.int .i64 0)), none⟩, ⟨some 27, .mv (.t 26), none⟩, ⟨some 28, .fldA 0 (.t 1), some (27, true)⟩, ⟨some 29, .ld 1 false (.t 28), some (27, true)⟩, ⟨some 30, .mv (.t 4), some (27, true)⟩, ⟨some 31, .idxA 6 (.t 29) (.t 30), some (27, true)⟩, ⟨some 32, .fldA 0 (.t 31), some (27, true)⟩, ⟨some 33, .ld 1 false (.t 32), some (27, true)⟩, ⟨some 34, .bin .neq (.t 33) (.c (.int .i64 1)), some (27, true)⟩, ⟨some 35, .pick (.t 27) (.t 34) (.c (.bool false)), none⟩, ⟨some 36, .mv (.t 35), none⟩, ⟨some 37, .mv (.t 4), some (36, false)⟩, ⟨some 38, .bin .gtr (.t 37) (.c (.int .i64 0)), some (36, false)⟩, ⟨some 39, .mv (.t 38), some (36, false)⟩, ⟨some 40, .fldA 0 (.t 1), some (39, true)⟩, ⟨some 41, .ld 1 false (.t 40), some (39, true)⟩, ⟨some 42, .mv (.t 4), some (39, true)⟩, ⟨some 43, .idxA 6 (.t 41) (.t 42), some (39, true)⟩, ⟨some 44, .fldA 0 (.t 43), some (39, true)⟩, ⟨some 45, .ld 1 false (.t 44), some (39, true)⟩, ⟨some 46, .bin .eql (.t 45) (.c (.int .i64 1)), some (39, true)⟩, ⟨some 47, .pick (.t 39) (.t 46) (.c (.bool false)), some (36, false)⟩, ⟨some 48, .pick (.t 36) (.c (.bool true)) (.t 47), none⟩]) (.cond (.t 48) (.seq (.reg [⟨some 2, .mv (.c (.int .i64 3)), none⟩]) .ret) .skip)) (.seq (.reg [⟨some 49, .fldA 0 (.t 1), none⟩, ⟨some 50, .ld 1 false (.t 49), none⟩, ⟨some 51, .mv (.t 4), none⟩, ⟨some 52, .idxA 6 (.t 50) (.t 51), none⟩, ⟨some 53, .ld 6 true (.t 52), none⟩, ⟨some 54, .pcall 33 [.t 53], none⟩, ⟨some 5, .mv (.t 54), none⟩]) (.seq (.reg [⟨some 55, .mv (.t 5), none⟩, ⟨some 56, .bin .neq (.t 55) (.c (.int .i64 0)), none⟩]) (.cond (.t 56) (.seq (.reg [⟨some 57, .mv (.t 5), none⟩, ⟨some 2, .mv (.t 57), none⟩]) .ret) .skip))))) (.reg [⟨some 23, .mv (.t 4), none⟩, ⟨some 24, .bin .add (.t 23) (.c (.int .i64 1)), none⟩, ⟨some 4, .mv (.t 24), none⟩])))))) c10_s5)
def c10 : SFun := ⟨.seq (.reg [⟨some 1, .boxF 24 2 (.t 0), none⟩, ⟨some 2, .mv (.c (.int .i64 0)), none⟩]) (.seq (.reg [⟨some 13, .fldA 0 (.t 1), none⟩, ⟨some 14, .ld 1 false (.t 13), none⟩, ⟨some 15, .len (.t 14), none⟩, ⟨some 3, .mv (.t 15), none⟩]) (.seq (.seq (.reg [⟨some 16, .mv (.t 3), none⟩, ⟨some 17, .bin .gtr (.t 16) (.c (.int .i64 200)), none⟩]) (.cond (.t 17) (.seq (.reg [⟨some 2, .mv (.c (.int .i64 2)), none⟩]) .ret) .skip)) (.seq (.seq (.reg [⟨some 18, .mv (.t 3), none⟩, ⟨some 19, .bin .eql (.t 18) (.c (.int .i64 0)), none⟩]) (.cond (.t 19) (.seq (.reg [⟨some 2, .mv (.c (.int .i64 3)), none⟩]) .ret) .skip)) c10_s4))), [.tmp 2]⟩
theorem hc10 : toSF Tryd.prog {pure := [34, 33, 35, 36]} Tryd.f10 = some c10 := by kernel_rfl
theorem hn10 : (Tryd.f10.name == "runtime.NumGoroutine") = false := by kernel_rfl
theorem docErr_ok (d : HDoc) (sm : DocSm d) : PCalls (Pg G) 10 [.agg (eDoc d)] (aInt (docE d)) := fun h => by
  have hl := sm.len
  have s7 : kidsAll d = 0 ∨ (fe d.nodes.length (kidsE d) = 0 ∧ fe d.nodes.length (parE d) = 0) → 0 < d.nodes.length → ∀ e : Env, e 1 = .pin (eDoc d) → e 3 = aInt d.nodes.length → vc (Pg G) c10_s7 (retK [.tmp 2] fun r h' => r = aInt (if kidsAll d ≠ 0 then kidsAll d else fe d.nodes.length (deepE d)) ∧ h' = h) e h := by
    intro hk hp e he1 he3
    have e0 : nth d.nodes 0 = nd d 0 := rfl
    unfold c10_s7
    skip
    simp -dsimp -implicitDefEqProofs (disch := omega) only [↓vcOps_sp 27, ↓vcD_sp 27, ↓vcOps_sp 36, ↓vcD_sp 36, ↓vcOps_sp 39, ↓vcD_sp 39, ↓vcOps_sp 88, ↓vcD_sp 88, ↓vcOps_sp 98, ↓vcD_sp 98, ↓vcOps_sp 113, ↓vcD_sp 113, ↓vcOps_sp 135, ↓vcD_sp 135, ↓vcOps_sp 141, ↓vcD_sp 141, VCA, pg_gl, ↓upd_none, Nat.reduceEqDiff, Nat.reduceBEq, Nat.reduceAdd, Nat.reduceSub, Nat.reduceMul, Nat.reduceLT, Nat.reduceLeDiff, ↓reduceIte, reduceCtorEq, rsOf, rootsOf, SOp.rd, SI.rd, SX.rd, rdL, rdO, rdP, okParts, eqCells, okEqCells, fillA, okFill, setAt, implies_true, forall_const, forall_eq, ne_eq, exists_eq_right_right, exists_eq_right, exists_eq_left, exists_eq_left', rootL, eAttr, eInt, eNode, eDoc, eBool, lit_eq, he1, he3, eDoc, eNode]
    rw [e0]
    refine ⟨by omega, Br.ne (fun h1 => ?_) (fun h1 => ?_)⟩
    · simp -dsimp -implicitDefEqProofs (disch := omega) only [↓vcOps_sp 27, ↓vcD_sp 27, ↓vcOps_sp 36, ↓vcD_sp 36, ↓vcOps_sp 39, ↓vcD_sp 39, ↓vcOps_sp 88, ↓vcD_sp 88, ↓vcOps_sp 98, ↓vcD_sp 98, ↓vcOps_sp 113, ↓vcD_sp 113, ↓vcOps_sp 135, ↓vcD_sp 135, ↓vcOps_sp 141, ↓vcD_sp 141, VCA, pg_gl, ↓upd_none, Nat.reduceEqDiff, Nat.reduceBEq, Nat.reduceAdd, Nat.reduceSub, Nat.reduceMul, Nat.reduceLT, Nat.reduceLeDiff, ↓reduceIte, reduceCtorEq, rsOf, rootsOf, SOp.rd, SI.rd, SX.rd, rdL, rdO, rdP, okParts, eqCells, okEqCells, fillA, okFill, setAt, implies_true, forall_const, forall_eq, ne_eq, exists_eq_right_right, exists_eq_right, exists_eq_left, exists_eq_left', rootL, eAttr, eInt, eNode, eDoc, eBool, lit_eq]
      have : kidsAll d = 3 := by
        rcases hk with hk | ⟨k1, k2⟩
        · unfold kidsAll at hk
          split at hk
          · contradiction
          · split at hk
            · contradiction
            · first | omega | (rw [if_pos h1] at hk; omega)
        · unfold kidsAll; rw [if_neg (by rw [k1]; simp), if_neg (by rw [k2]; simp), if_pos h1]
      exact ⟨Sub.refl _, by rw [this]; rfl⟩
    · have h0 : kidsAll d = 0 := by
        rcases hk with hk | ⟨k1, k2⟩
        · exact hk
        · unfold kidsAll; rw [if_neg (by rw [k1]; simp), if_neg (by rw [k2]; simp), if_neg (by simpa using h1)]
      rw [h0, if_neg (by simp)]
      have hP := kids_par h0
      simp -dsimp -implicitDefEqProofs (disch := omega) only [↓vcOps_sp 27, ↓vcD_sp 27, ↓vcOps_sp 36, ↓vcD_sp 36, ↓vcOps_sp 39, ↓vcD_sp 39, ↓vcOps_sp 88, ↓vcD_sp 88, ↓vcOps_sp 98, ↓vcD_sp 98, ↓vcOps_sp 113, ↓vcD_sp 113, ↓vcOps_sp 135, ↓vcD_sp 135, ↓vcOps_sp 141, ↓vcD_sp 141, VCA, pg_gl, ↓upd_none, Nat.reduceEqDiff, Nat.reduceBEq, Nat.reduceAdd, Nat.reduceSub, Nat.reduceMul, Nat.reduceLT, Nat.reduceLeDiff, ↓reduceIte, reduceCtorEq, rsOf, rootsOf, SOp.rd, SI.rd, SX.rd, rdL, rdO, rdP, okParts, eqCells, okEqCells, fillA, okFill, setAt, implies_true, forall_const, forall_eq, ne_eq, exists_eq_right_right, exists_eq_right, exists_eq_left, exists_eq_left', rootL, eAttr, eInt, eNode, eDoc, eBool, lit_eq, he1, he3, eDoc]
      refine LoopVC.intro (fun m e h' => ∃ i : Nat, i ≤ d.nodes.length ∧ m = d.nodes.length - i ∧ e 1 = .pin (eDoc d) ∧ e 3 = aInt d.nodes.length ∧ e 11 = aInt i ∧ h' = h ∧ ∀ j, j < i → deepE d j = 0) d.nodes.length ⟨0, by omega, by omega, he1, he3, rfl, rfl, by omega⟩ ?_
      rintro m e h' ⟨i, hi, rfl, he1, he3, he11, rfl, hj⟩
      simp -dsimp -implicitDefEqProofs (disch := omega) only [↓vcOps_sp 27, ↓vcD_sp 27, ↓vcOps_sp 36, ↓vcD_sp 36, ↓vcOps_sp 39, ↓vcD_sp 39, ↓vcOps_sp 88, ↓vcD_sp 88, ↓vcOps_sp 98, ↓vcD_sp 98, ↓vcOps_sp 113, ↓vcD_sp 113, ↓vcOps_sp 135, ↓vcD_sp 135, ↓vcOps_sp 141, ↓vcD_sp 141, VCA, pg_gl, ↓upd_none, Nat.reduceEqDiff, Nat.reduceBEq, Nat.reduceAdd, Nat.reduceSub, Nat.reduceMul, Nat.reduceLT, Nat.reduceLeDiff, ↓reduceIte, reduceCtorEq, rsOf, rootsOf, SOp.rd, SI.rd, SX.rd, rdL, rdO, rdP, okParts, eqCells, okEqCells, fillA, okFill, setAt, implies_true, forall_const, forall_eq, ne_eq, exists_eq_right_right, exists_eq_right, exists_eq_left, exists_eq_left', rootL, eAttr, eInt, eNode, eDoc, eBool, lit_eq, he1, he3, he11]
      refine Br.dec (fun hlt => ?_) (fun hge => ?_)
      · have hi' : i < d.nodes.length := by omega
        have hU : PCalls (Pg G) 36 [.agg [sl eNode d.nodes, .bool d.quirks], aInt i] (aInt (deepM d i)) := deep_ok d sm hP i (inD_nat.2 hi')
        have bad : ∀ x : Int, x ≠ 0 → deepE d i = x → fe d.nodes.length (deepE d) = x := fun x hx he => by rw [fe_some hi' hj (by rw [he]; exact hx), he]
        have ddef : deepE d i = if d.nodes.length < up d i then 8 else if 40 < up d i then 2 else 0 := rfl
        have dm : deepM d i = if d.nodes.length < up d i then -1 else (up d i : Int) := rfl
        simp -dsimp -implicitDefEqProofs (disch := omega) only [↓vcOps_sp 27, ↓vcD_sp 27, ↓vcOps_sp 36, ↓vcD_sp 36, ↓vcOps_sp 39, ↓vcD_sp 39, ↓vcOps_sp 88, ↓vcD_sp 88, ↓vcOps_sp 98, ↓vcD_sp 98, ↓vcOps_sp 113, ↓vcD_sp 113, ↓vcOps_sp 135, ↓vcD_sp 135, ↓vcOps_sp 141, ↓vcD_sp 141, VCA, pg_gl, ↓upd_none, Nat.reduceEqDiff, Nat.reduceBEq, Nat.reduceAdd, Nat.reduceSub, Nat.reduceMul, Nat.reduceLT, Nat.reduceLeDiff, ↓reduceIte, reduceCtorEq, rsOf, rootsOf, SOp.rd, SI.rd, SX.rd, rdL, rdO, rdP, okParts, eqCells, okEqCells, fillA, okFill, setAt, implies_true, forall_const, forall_eq, ne_eq, exists_eq_right_right, exists_eq_right, exists_eq_left, exists_eq_left', rootL, eAttr, eInt, eNode, eDoc, eBool, lit_eq, he1, he3, he11, eDoc]
        repeat' (first | ((with_reducible refine brC (fun _ => ?_) fun _ => ?_) <;> try (exfalso; omega)) | (with_reducible apply pcallE.of; · exact hU) | (with_reducible refine And.intro ?_ ?_; · omega) | simp -dsimp -implicitDefEqProofs (disch := omega) only [↓vcOps_sp 27, ↓vcD_sp 27, ↓vcOps_sp 36, ↓vcD_sp 36, ↓vcOps_sp 39, ↓vcD_sp 39, ↓vcOps_sp 88, ↓vcD_sp 88, ↓vcOps_sp 98, ↓vcD_sp 98, ↓vcOps_sp 113, ↓vcD_sp 113, ↓vcOps_sp 135, ↓vcD_sp 135, ↓vcOps_sp 141, ↓vcD_sp 141, VCA, pg_gl, ↓upd_none, Nat.reduceEqDiff, Nat.reduceBEq, Nat.reduceAdd, Nat.reduceSub, Nat.reduceMul, Nat.reduceLT, Nat.reduceLeDiff, ↓reduceIte, reduceCtorEq, rsOf, rootsOf, SOp.rd, SI.rd, SX.rd, rdL, rdO, rdP, okParts, eqCells, okEqCells, fillA, okFill, setAt, implies_true, forall_const, forall_eq, ne_eq, exists_eq_right_right, exists_eq_right, exists_eq_left, exists_eq_left', rootL, eAttr, eInt, eNode, eDoc, eBool, lit_eq, he1, he3, he11, eDoc])
        · rename_i q
          have : d.nodes.length < up d i := by rw [dm] at q; split at q <;> omega
          exact ⟨Sub.refl _, (bad 8 (by decide) (by rw [ddef, if_pos this])).symm⟩
        · rename_i q1 q
          have : ¬ d.nodes.length < up d i := by rw [dm] at q1; split at q1 <;> omega
          rw [dm, if_neg this] at q
          exact ⟨Sub.refl _, (bad 2 (by decide) (by rw [ddef, if_neg this, if_pos (by omega)])).symm⟩
        · rename_i q1 q
          have : ¬ d.nodes.length < up d i := by rw [dm] at q1; split at q1 <;> omega
          rw [dm, if_neg this] at q
          refine ⟨_, by omega, i + 1, by omega, rfl, by omega, fun j hj' => ?_⟩
          by_cases hji : j = i
          · subst hji; rw [ddef, if_neg this, if_neg (by omega)]
          · exact hj j (by omega)
      · obtain rfl : i = d.nodes.length := by omega
        simp -dsimp -implicitDefEqProofs (disch := omega) only [↓vcOps_sp 27, ↓vcD_sp 27, ↓vcOps_sp 36, ↓vcD_sp 36, ↓vcOps_sp 39, ↓vcD_sp 39, ↓vcOps_sp 88, ↓vcD_sp 88, ↓vcOps_sp 98, ↓vcD_sp 98, ↓vcOps_sp 113, ↓vcD_sp 113, ↓vcOps_sp 135, ↓vcD_sp 135, ↓vcOps_sp 141, ↓vcD_sp 141, VCA, pg_gl, ↓upd_none, Nat.reduceEqDiff, Nat.reduceBEq, Nat.reduceAdd, Nat.reduceSub, Nat.reduceMul, Nat.reduceLT, Nat.reduceLeDiff, ↓reduceIte, reduceCtorEq, rsOf, rootsOf, SOp.rd, SI.rd, SX.rd, rdL, rdO, rdP, okParts, eqCells, okEqCells, fillA, okFill, setAt, implies_true, forall_const, forall_eq, ne_eq, exists_eq_right_right, exists_eq_right, exists_eq_left, exists_eq_left', rootL, eAttr, eInt, eNode, eDoc, eBool, lit_eq]
        exact ⟨Sub.refl _, (fe_none hj).symm⟩
  have s6 : fe d.nodes.length (kidsE d) = 0 → 0 < d.nodes.length → ∀ e : Env, e 1 = .pin (eDoc d) → e 3 = aInt d.nodes.length → vc (Pg G) c10_s6 (retK [.tmp 2] fun r h' => r = aInt (if kidsAll d ≠ 0 then kidsAll d else fe d.nodes.length (deepE d)) ∧ h' = h) e h := by
    intro hk hp e he1 he3
    unfold c10_s6
    skip
    simp -dsimp -implicitDefEqProofs (disch := omega) only [↓vcOps_sp 27, ↓vcD_sp 27, ↓vcOps_sp 36, ↓vcD_sp 36, ↓vcOps_sp 39, ↓vcD_sp 39, ↓vcOps_sp 88, ↓vcD_sp 88, ↓vcOps_sp 98, ↓vcD_sp 98, ↓vcOps_sp 113, ↓vcD_sp 113, ↓vcOps_sp 135, ↓vcD_sp 135, ↓vcOps_sp 141, ↓vcD_sp 141, VCA, pg_gl, ↓upd_none, Nat.reduceEqDiff, Nat.reduceBEq, Nat.reduceAdd, Nat.reduceSub, Nat.reduceMul, Nat.reduceLT, Nat.reduceLeDiff, ↓reduceIte, reduceCtorEq, rsOf, rootsOf, SOp.rd, SI.rd, SX.rd, rdL, rdO, rdP, okParts, eqCells, okEqCells, fillA, okFill, setAt, implies_true, forall_const, forall_eq, ne_eq, exists_eq_right_right, exists_eq_right, exists_eq_left, exists_eq_left', rootL, eAttr, eInt, eNode, eDoc, eBool, lit_eq, he1, he3]
    refine LoopVC.intro (fun m e h' => ∃ i : Nat, i ≤ d.nodes.length ∧ m = d.nodes.length - i ∧ e 1 = .pin (eDoc d) ∧ e 3 = aInt d.nodes.length ∧ e 9 = aInt i ∧ h' = h ∧ ∀ j, j < i → parE d j = 0) d.nodes.length ⟨0, by omega, by omega, he1, he3, rfl, rfl, by omega⟩ ?_
    rintro m e h' ⟨i, hi, rfl, he1, he3, he9, rfl, hj⟩
    simp -dsimp -implicitDefEqProofs (disch := omega) only [↓vcOps_sp 27, ↓vcD_sp 27, ↓vcOps_sp 36, ↓vcD_sp 36, ↓vcOps_sp 39, ↓vcD_sp 39, ↓vcOps_sp 88, ↓vcD_sp 88, ↓vcOps_sp 98, ↓vcD_sp 98, ↓vcOps_sp 113, ↓vcD_sp 113, ↓vcOps_sp 135, ↓vcD_sp 135, ↓vcOps_sp 141, ↓vcD_sp 141, VCA, pg_gl, ↓upd_none, Nat.reduceEqDiff, Nat.reduceBEq, Nat.reduceAdd, Nat.reduceSub, Nat.reduceMul, Nat.reduceLT, Nat.reduceLeDiff, ↓reduceIte, reduceCtorEq, rsOf, rootsOf, SOp.rd, SI.rd, SX.rd, rdL, rdO, rdP, okParts, eqCells, okEqCells, fillA, okFill, setAt, implies_true, forall_const, forall_eq, ne_eq, exists_eq_right_right, exists_eq_right, exists_eq_left, exists_eq_left', rootL, eAttr, eInt, eNode, eDoc, eBool, lit_eq, he1, he3, he9]
    refine Br.dec (fun hlt => ?_) (fun hge => ?_)
    · have hi' : i < d.nodes.length := by omega
      have pdef : parE d i = if (nth d.nodes i).parent ≠ -1 ∧ (¬ inD d (nth d.nodes i).parent ∨ (i : Int) ∉ (nd d (nth d.nodes i).parent).kids) then 3 else 0 := rfl
      have bad : parE d i = 3 → 3 = (if kidsAll d ≠ 0 then kidsAll d else fe d.nodes.length (deepE d)) := fun h3 => by
        have h2 : fe d.nodes.length (parE d) = 3 := by rw [fe_some hi' hj (by rw [h3]; decide), h3]
        have : kidsAll d = 3 := by unfold kidsAll; rw [hk, if_neg (by simp), h2]; rfl
        rw [this]; rfl
      have ok0 : parE d i = 0 → ∀ j, j < i + 1 → parE d j = 0 := fun h0 j hj' => by
        by_cases hji : j = i
        · subst hji; exact h0
        · exact hj j (by omega)
      have hB := betw_ok (G := G) (nth d.nodes i).parent 0 ((d.nodes.length : Int) - 1)
      have inP : inD d (nth d.nodes i).parent ↔ (decide ((0 : Int) ≤ (nth d.nodes i).parent) && decide ((nth d.nodes i).parent ≤ (d.nodes.length : Int) - 1)) = true := by
        unfold inD; simp; omega
      have im := idx_mem (nd d (nth d.nodes i).parent).kids i
      have hPl := placeIn_ok (G := G) (nd d (nth d.nodes i).parent).kids i (sm.nd _).kids
      have en : nth d.nodes (nth d.nodes i).parent.toNat = nd d (nth d.nodes i).parent := rfl
      simp -dsimp -implicitDefEqProofs (disch := omega) only [↓vcOps_sp 27, ↓vcD_sp 27, ↓vcOps_sp 36, ↓vcD_sp 36, ↓vcOps_sp 39, ↓vcD_sp 39, ↓vcOps_sp 88, ↓vcD_sp 88, ↓vcOps_sp 98, ↓vcD_sp 98, ↓vcOps_sp 113, ↓vcD_sp 113, ↓vcOps_sp 135, ↓vcD_sp 135, ↓vcOps_sp 141, ↓vcD_sp 141, VCA, pg_gl, ↓upd_none, Nat.reduceEqDiff, Nat.reduceBEq, Nat.reduceAdd, Nat.reduceSub, Nat.reduceMul, Nat.reduceLT, Nat.reduceLeDiff, ↓reduceIte, reduceCtorEq, rsOf, rootsOf, SOp.rd, SI.rd, SX.rd, rdL, rdO, rdP, okParts, eqCells, okEqCells, fillA, okFill, setAt, implies_true, forall_const, forall_eq, ne_eq, exists_eq_right_right, exists_eq_right, exists_eq_left, exists_eq_left', rootL, eAttr, eInt, eNode, eDoc, eBool, lit_eq, he1, he3, he9, eDoc, eNode]
      refine ⟨by omega, Br.ne (fun h1 => ?_) (fun h1 => ?_)⟩
      · simp -dsimp -implicitDefEqProofs (disch := omega) only [↓vcOps_sp 27, ↓vcD_sp 27, ↓vcOps_sp 36, ↓vcD_sp 36, ↓vcOps_sp 39, ↓vcD_sp 39, ↓vcOps_sp 88, ↓vcD_sp 88, ↓vcOps_sp 98, ↓vcD_sp 98, ↓vcOps_sp 113, ↓vcD_sp 113, ↓vcOps_sp 135, ↓vcD_sp 135, ↓vcOps_sp 141, ↓vcD_sp 141, VCA, pg_gl, ↓upd_none, Nat.reduceEqDiff, Nat.reduceBEq, Nat.reduceAdd, Nat.reduceSub, Nat.reduceMul, Nat.reduceLT, Nat.reduceLeDiff, ↓reduceIte, reduceCtorEq, rsOf, rootsOf, SOp.rd, SI.rd, SX.rd, rdL, rdO, rdP, okParts, eqCells, okEqCells, fillA, okFill, setAt, implies_true, forall_const, forall_eq, ne_eq, exists_eq_right_right, exists_eq_right, exists_eq_left, exists_eq_left', rootL, eAttr, eInt, eNode, eDoc, eBool, lit_eq, he1, he3, he9, eDoc, eNode]
        refine pcallE.of (hB) ?_; simp -dsimp -implicitDefEqProofs (disch := omega) only [↓vcOps_sp 27, ↓vcD_sp 27, ↓vcOps_sp 36, ↓vcD_sp 36, ↓vcOps_sp 39, ↓vcD_sp 39, ↓vcOps_sp 88, ↓vcD_sp 88, ↓vcOps_sp 98, ↓vcD_sp 98, ↓vcOps_sp 113, ↓vcD_sp 113, ↓vcOps_sp 135, ↓vcD_sp 135, ↓vcOps_sp 141, ↓vcD_sp 141, VCA, pg_gl, ↓upd_none, Nat.reduceEqDiff, Nat.reduceBEq, Nat.reduceAdd, Nat.reduceSub, Nat.reduceMul, Nat.reduceLT, Nat.reduceLeDiff, ↓reduceIte, reduceCtorEq, rsOf, rootsOf, SOp.rd, SI.rd, SX.rd, rdL, rdO, rdP, okParts, eqCells, okEqCells, fillA, okFill, setAt, implies_true, forall_const, forall_eq, ne_eq, exists_eq_right_right, exists_eq_right, exists_eq_left, exists_eq_left', rootL, eAttr, eInt, eNode, eDoc, eBool, lit_eq, he1, he3, he9, eDoc, eNode]
        cases hb : (decide ((0 : Int) ≤ (nth d.nodes i).parent) && decide ((nth d.nodes i).parent ≤ (d.nodes.length : Int) - 1))
        · simp -dsimp -implicitDefEqProofs (disch := omega) only [↓vcOps_sp 27, ↓vcD_sp 27, ↓vcOps_sp 36, ↓vcD_sp 36, ↓vcOps_sp 39, ↓vcD_sp 39, ↓vcOps_sp 88, ↓vcD_sp 88, ↓vcOps_sp 98, ↓vcD_sp 98, ↓vcOps_sp 113, ↓vcD_sp 113, ↓vcOps_sp 135, ↓vcD_sp 135, ↓vcOps_sp 141, ↓vcD_sp 141, VCA, pg_gl, ↓upd_none, Nat.reduceEqDiff, Nat.reduceBEq, Nat.reduceAdd, Nat.reduceSub, Nat.reduceMul, Nat.reduceLT, Nat.reduceLeDiff, ↓reduceIte, reduceCtorEq, rsOf, rootsOf, SOp.rd, SI.rd, SX.rd, rdL, rdO, rdP, okParts, eqCells, okEqCells, fillA, okFill, setAt, implies_true, forall_const, forall_eq, ne_eq, exists_eq_right_right, exists_eq_right, exists_eq_left, exists_eq_left', rootL, eAttr, eInt, eNode, eDoc, eBool, lit_eq]
          exact ⟨Sub.refl _, bad (by rw [pdef, if_pos ⟨h1, .inl (by rw [inP, hb]; simp)⟩])⟩
        · have hin := inP.2 hb
          have q1 := hin.1
          have q2 := hin.2
          simp -dsimp -implicitDefEqProofs (disch := omega) only [↓vcOps_sp 27, ↓vcD_sp 27, ↓vcOps_sp 36, ↓vcD_sp 36, ↓vcOps_sp 39, ↓vcD_sp 39, ↓vcOps_sp 88, ↓vcD_sp 88, ↓vcOps_sp 98, ↓vcD_sp 98, ↓vcOps_sp 113, ↓vcD_sp 113, ↓vcOps_sp 135, ↓vcD_sp 135, ↓vcOps_sp 141, ↓vcD_sp 141, VCA, pg_gl, ↓upd_none, Nat.reduceEqDiff, Nat.reduceBEq, Nat.reduceAdd, Nat.reduceSub, Nat.reduceMul, Nat.reduceLT, Nat.reduceLeDiff, ↓reduceIte, reduceCtorEq, rsOf, rootsOf, SOp.rd, SI.rd, SX.rd, rdL, rdO, rdP, okParts, eqCells, okEqCells, fillA, okFill, setAt, implies_true, forall_const, forall_eq, ne_eq, exists_eq_right_right, exists_eq_right, exists_eq_left, exists_eq_left', rootL, eAttr, eInt, eNode, eDoc, eBool, lit_eq, he1, he3, he9, eDoc, eNode]
          refine ⟨by omega, ?_⟩
          rw [en]
          refine pcallE.of (hPl) ?_; simp -dsimp -implicitDefEqProofs (disch := omega) only [↓vcOps_sp 27, ↓vcD_sp 27, ↓vcOps_sp 36, ↓vcD_sp 36, ↓vcOps_sp 39, ↓vcD_sp 39, ↓vcOps_sp 88, ↓vcD_sp 88, ↓vcOps_sp 98, ↓vcD_sp 98, ↓vcOps_sp 113, ↓vcD_sp 113, ↓vcOps_sp 135, ↓vcD_sp 135, ↓vcOps_sp 141, ↓vcD_sp 141, VCA, pg_gl, ↓upd_none, Nat.reduceEqDiff, Nat.reduceBEq, Nat.reduceAdd, Nat.reduceSub, Nat.reduceMul, Nat.reduceLT, Nat.reduceLeDiff, ↓reduceIte, reduceCtorEq, rsOf, rootsOf, SOp.rd, SI.rd, SX.rd, rdL, rdO, rdP, okParts, eqCells, okEqCells, fillA, okFill, setAt, implies_true, forall_const, forall_eq, ne_eq, exists_eq_right_right, exists_eq_right, exists_eq_left, exists_eq_left', rootL, eAttr, eInt, eNode, eDoc, eBool, lit_eq, he1, he3, he9, eDoc, eNode]
          refine Br.dec (fun h2 => ?_) (fun h2 => ?_)
          · simp -dsimp -implicitDefEqProofs (disch := omega) only [↓vcOps_sp 27, ↓vcD_sp 27, ↓vcOps_sp 36, ↓vcD_sp 36, ↓vcOps_sp 39, ↓vcD_sp 39, ↓vcOps_sp 88, ↓vcD_sp 88, ↓vcOps_sp 98, ↓vcD_sp 98, ↓vcOps_sp 113, ↓vcD_sp 113, ↓vcOps_sp 135, ↓vcD_sp 135, ↓vcOps_sp 141, ↓vcD_sp 141, VCA, pg_gl, ↓upd_none, Nat.reduceEqDiff, Nat.reduceBEq, Nat.reduceAdd, Nat.reduceSub, Nat.reduceMul, Nat.reduceLT, Nat.reduceLeDiff, ↓reduceIte, reduceCtorEq, rsOf, rootsOf, SOp.rd, SI.rd, SX.rd, rdL, rdO, rdP, okParts, eqCells, okEqCells, fillA, okFill, setAt, implies_true, forall_const, forall_eq, ne_eq, exists_eq_right_right, exists_eq_right, exists_eq_left, exists_eq_left', rootL, eAttr, eInt, eNode, eDoc, eBool, lit_eq]
            exact ⟨Sub.refl _, bad (by rw [pdef, if_pos ⟨h1, .inr (fun hm => by have := im.2 hm; omega)⟩])⟩
          · simp -dsimp -implicitDefEqProofs (disch := omega) only [↓vcOps_sp 27, ↓vcD_sp 27, ↓vcOps_sp 36, ↓vcD_sp 36, ↓vcOps_sp 39, ↓vcD_sp 39, ↓vcOps_sp 88, ↓vcD_sp 88, ↓vcOps_sp 98, ↓vcD_sp 98, ↓vcOps_sp 113, ↓vcD_sp 113, ↓vcOps_sp 135, ↓vcD_sp 135, ↓vcOps_sp 141, ↓vcD_sp 141, VCA, pg_gl, ↓upd_none, Nat.reduceEqDiff, Nat.reduceBEq, Nat.reduceAdd, Nat.reduceSub, Nat.reduceMul, Nat.reduceLT, Nat.reduceLeDiff, ↓reduceIte, reduceCtorEq, rsOf, rootsOf, SOp.rd, SI.rd, SX.rd, rdL, rdO, rdP, okParts, eqCells, okEqCells, fillA, okFill, setAt, implies_true, forall_const, forall_eq, ne_eq, exists_eq_right_right, exists_eq_right, exists_eq_left, exists_eq_left', rootL, eAttr, eInt, eNode, eDoc, eBool, lit_eq, he1, he3, he9]
            refine ⟨_, by omega, i + 1, by omega, rfl, by omega, ok0 ?_⟩
            rw [pdef, if_neg]
            rintro ⟨_, hh | hh⟩
            · exact hh hin
            · exact hh (im.1 (by omega))
      · simp -dsimp -implicitDefEqProofs (disch := omega) only [↓vcOps_sp 27, ↓vcD_sp 27, ↓vcOps_sp 36, ↓vcD_sp 36, ↓vcOps_sp 39, ↓vcD_sp 39, ↓vcOps_sp 88, ↓vcD_sp 88, ↓vcOps_sp 98, ↓vcD_sp 98, ↓vcOps_sp 113, ↓vcD_sp 113, ↓vcOps_sp 135, ↓vcD_sp 135, ↓vcOps_sp 141, ↓vcD_sp 141, VCA, pg_gl, ↓upd_none, Nat.reduceEqDiff, Nat.reduceBEq, Nat.reduceAdd, Nat.reduceSub, Nat.reduceMul, Nat.reduceLT, Nat.reduceLeDiff, ↓reduceIte, reduceCtorEq, rsOf, rootsOf, SOp.rd, SI.rd, SX.rd, rdL, rdO, rdP, okParts, eqCells, okEqCells, fillA, okFill, setAt, implies_true, forall_const, forall_eq, ne_eq, exists_eq_right_right, exists_eq_right, exists_eq_left, exists_eq_left', rootL, eAttr, eInt, eNode, eDoc, eBool, lit_eq, he1, he3, he9]
        refine ⟨_, by omega, i + 1, by omega, rfl, by omega, ok0 ?_⟩
        rw [pdef, if_neg (fun hh => hh.1 h1)]
    · obtain rfl : i = d.nodes.length := by omega
      simp -dsimp -implicitDefEqProofs (disch := omega) only [↓vcOps_sp 27, ↓vcD_sp 27, ↓vcOps_sp 36, ↓vcD_sp 36, ↓vcOps_sp 39, ↓vcD_sp 39, ↓vcOps_sp 88, ↓vcD_sp 88, ↓vcOps_sp 98, ↓vcD_sp 98, ↓vcOps_sp 113, ↓vcD_sp 113, ↓vcOps_sp 135, ↓vcD_sp 135, ↓vcOps_sp 141, ↓vcD_sp 141, VCA, pg_gl, ↓upd_none, Nat.reduceEqDiff, Nat.reduceBEq, Nat.reduceAdd, Nat.reduceSub, Nat.reduceMul, Nat.reduceLT, Nat.reduceLeDiff, ↓reduceIte, reduceCtorEq, rsOf, rootsOf, SOp.rd, SI.rd, SX.rd, rdL, rdO, rdP, okParts, eqCells, okEqCells, fillA, okFill, setAt, implies_true, forall_const, forall_eq, ne_eq, exists_eq_right_right, exists_eq_right, exists_eq_left, exists_eq_left', rootL, eAttr, eInt, eNode, eDoc, eBool, lit_eq]
      exact s7 (.inr ⟨hk, fe_none hj⟩) hp _ he1 he3
  have s5 : 0 < d.nodes.length → ∀ e : Env, e 1 = .pin (eDoc d) → e 3 = aInt d.nodes.length → vc (Pg G) c10_s5 (retK [.tmp 2] fun r h' => r = aInt (if kidsAll d ≠ 0 then kidsAll d else fe d.nodes.length (deepE d)) ∧ h' = h) e h := by
    intro hp e he1 he3
    unfold c10_s5
    skip
    simp -dsimp -implicitDefEqProofs (disch := omega) only [↓vcOps_sp 27, ↓vcD_sp 27, ↓vcOps_sp 36, ↓vcD_sp 36, ↓vcOps_sp 39, ↓vcD_sp 39, ↓vcOps_sp 88, ↓vcD_sp 88, ↓vcOps_sp 98, ↓vcD_sp 98, ↓vcOps_sp 113, ↓vcD_sp 113, ↓vcOps_sp 135, ↓vcD_sp 135, ↓vcOps_sp 141, ↓vcD_sp 141, VCA, pg_gl, ↓upd_none, Nat.reduceEqDiff, Nat.reduceBEq, Nat.reduceAdd, Nat.reduceSub, Nat.reduceMul, Nat.reduceLT, Nat.reduceLeDiff, ↓reduceIte, reduceCtorEq, rsOf, rootsOf, SOp.rd, SI.rd, SX.rd, rdL, rdO, rdP, okParts, eqCells, okEqCells, fillA, okFill, setAt, implies_true, forall_const, forall_eq, ne_eq, exists_eq_right_right, exists_eq_right, exists_eq_left, exists_eq_left', rootL, eAttr, eInt, eNode, eDoc, eBool, lit_eq, he1, he3]
    refine LoopVC.intro (fun m e h' => ∃ i : Nat, i ≤ d.nodes.length ∧ m = d.nodes.length - i ∧ e 1 = .pin (eDoc d) ∧ e 3 = aInt d.nodes.length ∧ e 6 = aInt i ∧ h' = h ∧ ∀ j, j < i → kidsE d j = 0) d.nodes.length ⟨0, by omega, by omega, he1, he3, rfl, rfl, by omega⟩ ?_
    rintro m e h' ⟨i, hi, rfl, he1, he3, he6, rfl, hj⟩
    simp -dsimp -implicitDefEqProofs (disch := omega) only [↓vcOps_sp 27, ↓vcD_sp 27, ↓vcOps_sp 36, ↓vcD_sp 36, ↓vcOps_sp 39, ↓vcD_sp 39, ↓vcOps_sp 88, ↓vcD_sp 88, ↓vcOps_sp 98, ↓vcD_sp 98, ↓vcOps_sp 113, ↓vcD_sp 113, ↓vcOps_sp 135, ↓vcD_sp 135, ↓vcOps_sp 141, ↓vcD_sp 141, VCA, pg_gl, ↓upd_none, Nat.reduceEqDiff, Nat.reduceBEq, Nat.reduceAdd, Nat.reduceSub, Nat.reduceMul, Nat.reduceLT, Nat.reduceLeDiff, ↓reduceIte, reduceCtorEq, rsOf, rootsOf, SOp.rd, SI.rd, SX.rd, rdL, rdO, rdP, okParts, eqCells, okEqCells, fillA, okFill, setAt, implies_true, forall_const, forall_eq, ne_eq, exists_eq_right_right, exists_eq_right, exists_eq_left, exists_eq_left', rootL, eAttr, eInt, eNode, eDoc, eBool, lit_eq, he1, he3, he6]
    refine Br.dec (fun hlt => ?_) (fun hge => ?_)
    · have hi' : i < d.nodes.length := by omega
      have kl := (sm.nth i).kids
      simp -dsimp -implicitDefEqProofs (disch := omega) only [↓vcOps_sp 27, ↓vcD_sp 27, ↓vcOps_sp 36, ↓vcD_sp 36, ↓vcOps_sp 39, ↓vcD_sp 39, ↓vcOps_sp 88, ↓vcD_sp 88, ↓vcOps_sp 98, ↓vcD_sp 98, ↓vcOps_sp 113, ↓vcD_sp 113, ↓vcOps_sp 135, ↓vcD_sp 135, ↓vcOps_sp 141, ↓vcD_sp 141, VCA, pg_gl, ↓upd_none, Nat.reduceEqDiff, Nat.reduceBEq, Nat.reduceAdd, Nat.reduceSub, Nat.reduceMul, Nat.reduceLT, Nat.reduceLeDiff, ↓reduceIte, reduceCtorEq, rsOf, rootsOf, SOp.rd, SI.rd, SX.rd, rdL, rdO, rdP, okParts, eqCells, okEqCells, fillA, okFill, setAt, implies_true, forall_const, forall_eq, ne_eq, exists_eq_right_right, exists_eq_right, exists_eq_left, exists_eq_left', rootL, eAttr, eInt, eNode, eDoc, eBool, lit_eq, he1, he3, he6]
      refine LoopVC.intro (fun m e h2 => ∃ k : Nat, k ≤ (nth d.nodes i).kids.length ∧ m = (nth d.nodes i).kids.length - k ∧ e 1 = .pin (eDoc d) ∧ e 3 = aInt d.nodes.length ∧ e 6 = aInt i ∧ e 7 = aInt k ∧ h2 = h' ∧ ∀ j, j < k → kidE d i j = 0) (nth d.nodes i).kids.length ⟨0, by omega, by omega, he1, he3, he6, rfl, rfl, by omega⟩ ?_
      rintro m e h2 ⟨k, hk, rfl, he1, he3, he6, he7, rfl, hk0⟩
      simp -dsimp -implicitDefEqProofs (disch := omega) only [↓vcOps_sp 27, ↓vcD_sp 27, ↓vcOps_sp 36, ↓vcD_sp 36, ↓vcOps_sp 39, ↓vcD_sp 39, ↓vcOps_sp 88, ↓vcD_sp 88, ↓vcOps_sp 98, ↓vcD_sp 98, ↓vcOps_sp 113, ↓vcD_sp 113, ↓vcOps_sp 135, ↓vcD_sp 135, ↓vcOps_sp 141, ↓vcD_sp 141, VCA, pg_gl, ↓upd_none, Nat.reduceEqDiff, Nat.reduceBEq, Nat.reduceAdd, Nat.reduceSub, Nat.reduceMul, Nat.reduceLT, Nat.reduceLeDiff, ↓reduceIte, reduceCtorEq, rsOf, rootsOf, SOp.rd, SI.rd, SX.rd, rdL, rdO, rdP, okParts, eqCells, okEqCells, fillA, okFill, setAt, implies_true, forall_const, forall_eq, ne_eq, exists_eq_right_right, exists_eq_right, exists_eq_left, exists_eq_left', rootL, eAttr, eInt, eNode, eDoc, eBool, lit_eq, he1, he3, he6, he7, eDoc, eNode]
      refine ⟨by omega, ?_⟩
      refine Br.dec (fun hlt => ?_) (fun hge => ?_)
      · have hk' : k < (nth d.nodes i).kids.length := by omega
        have bad : ∀ x : Int, x ≠ 0 → kidE d i k = x → x = (if kidsAll d ≠ 0 then kidsAll d else fe d.nodes.length (deepE d)) := fun x hx he => by
          have h1 : kidsE d i = x := by unfold kidsE; rw [fe_some hk' hk0 (by rw [he]; exact hx), he]
          have h2 : fe d.nodes.length (kidsE d) = x := by rw [fe_some hi' hj (by rw [h1]; exact hx), h1]
          have h3 : kidsAll d = x := by unfold kidsAll; rw [h2, if_pos hx]
          rw [h3, if_pos hx]
        have kdef : kidE d i k = if ¬ inD d (nth (nth d.nodes i).kids k) ∨ (nd d (nth (nth d.nodes i).kids k)).parent ≠ i ∨ nth (nth d.nodes i).kids k ∈ (nth d.nodes i).kids.take k then 3 else if i = 0 ∧ (nd d (nth (nth d.nodes i).kids k)).kind = 3 then 7 else 0 := rfl
        have ok0 : ∀ j, kidE d i k = 0 → j < k + 1 → kidE d i j = 0 := fun j h0 hj' => by
          by_cases hjk : j = k
          · subst hjk; exact h0
          · exact hk0 j (by omega)
        have hB := betw_ok (G := G) (nth (nth d.nodes i).kids k) 0 ((d.nodes.length : Int) - 1)
        have inP : inD d (nth (nth d.nodes i).kids k) ↔ (decide ((0 : Int) ≤ nth (nth d.nodes i).kids k) && decide (nth (nth d.nodes i).kids k ≤ (d.nodes.length : Int) - 1)) = true := by
          unfold inD; simp; omega
        have im := idx_mem ((nth d.nodes i).kids.take k) (nth (nth d.nodes i).kids k)
        have e2 : (nth d.nodes i).kids.take (Int.toNat (k : Int)) = (nth d.nodes i).kids.take k := by simp
        have hPl := placeIn_ok (G := G) ((nth d.nodes i).kids.take k) (nth (nth d.nodes i).kids k) (by simp; omega)
        have en : nth d.nodes (nth (nth d.nodes i).kids k).toNat = nd d (nth (nth d.nodes i).kids k) := rfl
        simp -dsimp -implicitDefEqProofs (disch := omega) only [↓vcOps_sp 27, ↓vcD_sp 27, ↓vcOps_sp 36, ↓vcD_sp 36, ↓vcOps_sp 39, ↓vcD_sp 39, ↓vcOps_sp 88, ↓vcD_sp 88, ↓vcOps_sp 98, ↓vcD_sp 98, ↓vcOps_sp 113, ↓vcD_sp 113, ↓vcOps_sp 135, ↓vcD_sp 135, ↓vcOps_sp 141, ↓vcD_sp 141, VCA, pg_gl, ↓upd_none, Nat.reduceEqDiff, Nat.reduceBEq, Nat.reduceAdd, Nat.reduceSub, Nat.reduceMul, Nat.reduceLT, Nat.reduceLeDiff, ↓reduceIte, reduceCtorEq, rsOf, rootsOf, SOp.rd, SI.rd, SX.rd, rdL, rdO, rdP, okParts, eqCells, okEqCells, fillA, okFill, setAt, implies_true, forall_const, forall_eq, ne_eq, exists_eq_right_right, exists_eq_right, exists_eq_left, exists_eq_left', rootL, eAttr, eInt, eNode, eDoc, eBool, lit_eq, he1, he3, he6, he7, eDoc, eNode]
        refine ⟨by omega, by omega, ?_⟩
        refine pcallE.of (hB) ?_; simp -dsimp -implicitDefEqProofs (disch := omega) only [↓vcOps_sp 27, ↓vcD_sp 27, ↓vcOps_sp 36, ↓vcD_sp 36, ↓vcOps_sp 39, ↓vcD_sp 39, ↓vcOps_sp 88, ↓vcD_sp 88, ↓vcOps_sp 98, ↓vcD_sp 98, ↓vcOps_sp 113, ↓vcD_sp 113, ↓vcOps_sp 135, ↓vcD_sp 135, ↓vcOps_sp 141, ↓vcD_sp 141, VCA, pg_gl, ↓upd_none, Nat.reduceEqDiff, Nat.reduceBEq, Nat.reduceAdd, Nat.reduceSub, Nat.reduceMul, Nat.reduceLT, Nat.reduceLeDiff, ↓reduceIte, reduceCtorEq, rsOf, rootsOf, SOp.rd, SI.rd, SX.rd, rdL, rdO, rdP, okParts, eqCells, okEqCells, fillA, okFill, setAt, implies_true, forall_const, forall_eq, ne_eq, exists_eq_right_right, exists_eq_right, exists_eq_left, exists_eq_left', rootL, eAttr, eInt, eNode, eDoc, eBool, lit_eq, he1, he3, he6, he7, eDoc, eNode]
        cases hb : (decide ((0 : Int) ≤ nth (nth d.nodes i).kids k) && decide (nth (nth d.nodes i).kids k ≤ (d.nodes.length : Int) - 1))
        · simp -dsimp -implicitDefEqProofs (disch := omega) only [↓vcOps_sp 27, ↓vcD_sp 27, ↓vcOps_sp 36, ↓vcD_sp 36, ↓vcOps_sp 39, ↓vcD_sp 39, ↓vcOps_sp 88, ↓vcD_sp 88, ↓vcOps_sp 98, ↓vcD_sp 98, ↓vcOps_sp 113, ↓vcD_sp 113, ↓vcOps_sp 135, ↓vcD_sp 135, ↓vcOps_sp 141, ↓vcD_sp 141, VCA, pg_gl, ↓upd_none, Nat.reduceEqDiff, Nat.reduceBEq, Nat.reduceAdd, Nat.reduceSub, Nat.reduceMul, Nat.reduceLT, Nat.reduceLeDiff, ↓reduceIte, reduceCtorEq, rsOf, rootsOf, SOp.rd, SI.rd, SX.rd, rdL, rdO, rdP, okParts, eqCells, okEqCells, fillA, okFill, setAt, implies_true, forall_const, forall_eq, ne_eq, exists_eq_right_right, exists_eq_right, exists_eq_left, exists_eq_left', rootL, eAttr, eInt, eNode, eDoc, eBool, lit_eq]
          exact ⟨Sub.refl _, bad 3 (by decide) (by rw [kdef, if_pos (.inl (by rw [inP, hb]; simp))])⟩
        · have hin := inP.2 hb
          have q1 := hin.1
          have q2 := hin.2
          simp -dsimp -implicitDefEqProofs (disch := omega) only [↓vcOps_sp 27, ↓vcD_sp 27, ↓vcOps_sp 36, ↓vcD_sp 36, ↓vcOps_sp 39, ↓vcD_sp 39, ↓vcOps_sp 88, ↓vcD_sp 88, ↓vcOps_sp 98, ↓vcD_sp 98, ↓vcOps_sp 113, ↓vcD_sp 113, ↓vcOps_sp 135, ↓vcD_sp 135, ↓vcOps_sp 141, ↓vcD_sp 141, VCA, pg_gl, ↓upd_none, Nat.reduceEqDiff, Nat.reduceBEq, Nat.reduceAdd, Nat.reduceSub, Nat.reduceMul, Nat.reduceLT, Nat.reduceLeDiff, ↓reduceIte, reduceCtorEq, rsOf, rootsOf, SOp.rd, SI.rd, SX.rd, rdL, rdO, rdP, okParts, eqCells, okEqCells, fillA, okFill, setAt, implies_true, forall_const, forall_eq, ne_eq, exists_eq_right_right, exists_eq_right, exists_eq_left, exists_eq_left', rootL, eAttr, eInt, eNode, eDoc, eBool, lit_eq, he1, he3, he6, he7, eDoc, eNode]
          refine ⟨by omega, ?_⟩
          rw [en]
          refine Br.ne (fun h1 => ?_) (fun h1 => ?_)
          · simp -dsimp -implicitDefEqProofs (disch := omega) only [↓vcOps_sp 27, ↓vcD_sp 27, ↓vcOps_sp 36, ↓vcD_sp 36, ↓vcOps_sp 39, ↓vcD_sp 39, ↓vcOps_sp 88, ↓vcD_sp 88, ↓vcOps_sp 98, ↓vcD_sp 98, ↓vcOps_sp 113, ↓vcD_sp 113, ↓vcOps_sp 135, ↓vcD_sp 135, ↓vcOps_sp 141, ↓vcD_sp 141, VCA, pg_gl, ↓upd_none, Nat.reduceEqDiff, Nat.reduceBEq, Nat.reduceAdd, Nat.reduceSub, Nat.reduceMul, Nat.reduceLT, Nat.reduceLeDiff, ↓reduceIte, reduceCtorEq, rsOf, rootsOf, SOp.rd, SI.rd, SX.rd, rdL, rdO, rdP, okParts, eqCells, okEqCells, fillA, okFill, setAt, implies_true, forall_const, forall_eq, ne_eq, exists_eq_right_right, exists_eq_right, exists_eq_left, exists_eq_left', rootL, eAttr, eInt, eNode, eDoc, eBool, lit_eq]
            exact ⟨Sub.refl _, bad 3 (by decide) (by rw [kdef, if_pos (.inr (.inl h1))])⟩
          · simp -dsimp -implicitDefEqProofs (disch := omega) only [↓vcOps_sp 27, ↓vcD_sp 27, ↓vcOps_sp 36, ↓vcD_sp 36, ↓vcOps_sp 39, ↓vcD_sp 39, ↓vcOps_sp 88, ↓vcD_sp 88, ↓vcOps_sp 98, ↓vcD_sp 98, ↓vcOps_sp 113, ↓vcD_sp 113, ↓vcOps_sp 135, ↓vcD_sp 135, ↓vcOps_sp 141, ↓vcD_sp 141, VCA, pg_gl, ↓upd_none, Nat.reduceEqDiff, Nat.reduceBEq, Nat.reduceAdd, Nat.reduceSub, Nat.reduceMul, Nat.reduceLT, Nat.reduceLeDiff, ↓reduceIte, reduceCtorEq, rsOf, rootsOf, SOp.rd, SI.rd, SX.rd, rdL, rdO, rdP, okParts, eqCells, okEqCells, fillA, okFill, setAt, implies_true, forall_const, forall_eq, ne_eq, exists_eq_right_right, exists_eq_right, exists_eq_left, exists_eq_left', rootL, eAttr, eInt, eNode, eDoc, eBool, lit_eq, he1, he3, he6, he7, eDoc, eNode]
            refine ⟨by omega, by omega, ?_⟩
            refine pcallE.of (hPl) ?_; simp -dsimp -implicitDefEqProofs (disch := omega) only [↓vcOps_sp 27, ↓vcD_sp 27, ↓vcOps_sp 36, ↓vcD_sp 36, ↓vcOps_sp 39, ↓vcD_sp 39, ↓vcOps_sp 88, ↓vcD_sp 88, ↓vcOps_sp 98, ↓vcD_sp 98, ↓vcOps_sp 113, ↓vcD_sp 113, ↓vcOps_sp 135, ↓vcD_sp 135, ↓vcOps_sp 141, ↓vcD_sp 141, VCA, pg_gl, ↓upd_none, Nat.reduceEqDiff, Nat.reduceBEq, Nat.reduceAdd, Nat.reduceSub, Nat.reduceMul, Nat.reduceLT, Nat.reduceLeDiff, ↓reduceIte, reduceCtorEq, rsOf, rootsOf, SOp.rd, SI.rd, SX.rd, rdL, rdO, rdP, okParts, eqCells, okEqCells, fillA, okFill, setAt, implies_true, forall_const, forall_eq, ne_eq, exists_eq_right_right, exists_eq_right, exists_eq_left, exists_eq_left', rootL, eAttr, eInt, eNode, eDoc, eBool, lit_eq, he1, he3, he6, he7, eDoc, eNode]
            refine Br.dec (fun h2 => ?_) (fun h2 => ?_)
            · simp -dsimp -implicitDefEqProofs (disch := omega) only [↓vcOps_sp 27, ↓vcD_sp 27, ↓vcOps_sp 36, ↓vcD_sp 36, ↓vcOps_sp 39, ↓vcD_sp 39, ↓vcOps_sp 88, ↓vcD_sp 88, ↓vcOps_sp 98, ↓vcD_sp 98, ↓vcOps_sp 113, ↓vcD_sp 113, ↓vcOps_sp 135, ↓vcD_sp 135, ↓vcOps_sp 141, ↓vcD_sp 141, VCA, pg_gl, ↓upd_none, Nat.reduceEqDiff, Nat.reduceBEq, Nat.reduceAdd, Nat.reduceSub, Nat.reduceMul, Nat.reduceLT, Nat.reduceLeDiff, ↓reduceIte, reduceCtorEq, rsOf, rootsOf, SOp.rd, SI.rd, SX.rd, rdL, rdO, rdP, okParts, eqCells, okEqCells, fillA, okFill, setAt, implies_true, forall_const, forall_eq, ne_eq, exists_eq_right_right, exists_eq_right, exists_eq_left, exists_eq_left', rootL, eAttr, eInt, eNode, eDoc, eBool, lit_eq]
              exact ⟨Sub.refl _, bad 3 (by decide) (by rw [kdef, if_pos (.inr (.inr (im.1 h2)))])⟩
            · have hno : ¬ (¬ inD d (nth (nth d.nodes i).kids k) ∨ (nd d (nth (nth d.nodes i).kids k)).parent ≠ i ∨ nth (nth d.nodes i).kids k ∈ (nth d.nodes i).kids.take k) := by
                rintro (hh | hh | hh)
                · exact hh hin
                · exact hh h1
                · exact h2 (im.2 hh)
              have e0 : ∀ h0 : i = 0, nth d.nodes (nth (nth d.nodes i).kids k).toNat = nd d (nth (nth d.nodes i).kids k) := fun _ => rfl
              simp -dsimp -implicitDefEqProofs (disch := omega) only [↓vcOps_sp 27, ↓vcD_sp 27, ↓vcOps_sp 36, ↓vcD_sp 36, ↓vcOps_sp 39, ↓vcD_sp 39, ↓vcOps_sp 88, ↓vcD_sp 88, ↓vcOps_sp 98, ↓vcD_sp 98, ↓vcOps_sp 113, ↓vcD_sp 113, ↓vcOps_sp 135, ↓vcD_sp 135, ↓vcOps_sp 141, ↓vcD_sp 141, VCA, pg_gl, ↓upd_none, Nat.reduceEqDiff, Nat.reduceBEq, Nat.reduceAdd, Nat.reduceSub, Nat.reduceMul, Nat.reduceLT, Nat.reduceLeDiff, ↓reduceIte, reduceCtorEq, rsOf, rootsOf, SOp.rd, SI.rd, SX.rd, rdL, rdO, rdP, okParts, eqCells, okEqCells, fillA, okFill, setAt, implies_true, forall_const, forall_eq, ne_eq, exists_eq_right_right, exists_eq_right, exists_eq_left, exists_eq_left', rootL, eAttr, eInt, eNode, eDoc, eBool, lit_eq, he1, he3, he6, he7, eDoc, eNode]
              repeat' (first | ((with_reducible refine brC (fun _ => ?_) fun _ => ?_) <;> try (exfalso; omega)) | (with_reducible refine And.intro ?_ ?_; · omega) | simp -dsimp -implicitDefEqProofs (disch := omega) only [↓vcOps_sp 27, ↓vcD_sp 27, ↓vcOps_sp 36, ↓vcD_sp 36, ↓vcOps_sp 39, ↓vcD_sp 39, ↓vcOps_sp 88, ↓vcD_sp 88, ↓vcOps_sp 98, ↓vcD_sp 98, ↓vcOps_sp 113, ↓vcD_sp 113, ↓vcOps_sp 135, ↓vcD_sp 135, ↓vcOps_sp 141, ↓vcD_sp 141, VCA, pg_gl, ↓upd_none, Nat.reduceEqDiff, Nat.reduceBEq, Nat.reduceAdd, Nat.reduceSub, Nat.reduceMul, Nat.reduceLT, Nat.reduceLeDiff, ↓reduceIte, reduceCtorEq, rsOf, rootsOf, SOp.rd, SI.rd, SX.rd, rdL, rdO, rdP, okParts, eqCells, okEqCells, fillA, okFill, setAt, implies_true, forall_const, forall_eq, ne_eq, exists_eq_right_right, exists_eq_right, exists_eq_left, exists_eq_left', rootL, eAttr, eInt, eNode, eDoc, eBool, lit_eq, he1, he3, he6, he7, eDoc, eNode])
              · rename_i g1 g2
                exact ⟨Sub.refl _, bad 7 (by decide) (by rw [kdef, if_neg hno, if_pos ⟨by omega, g2⟩])⟩
              · rename_i g1 g2
                exact ⟨_, by omega, k + 1, by omega, rfl, by omega, fun j => ok0 j (by rw [kdef, if_neg hno, if_neg (fun hh => g2 hh.2)])⟩
              · rename_i g1
                exact ⟨_, by omega, k + 1, by omega, rfl, by omega, fun j => ok0 j (by rw [kdef, if_neg hno, if_neg (fun hh => g1 (by omega))])⟩
      · obtain rfl : k = (nth d.nodes i).kids.length := by omega
        simp -dsimp -implicitDefEqProofs (disch := omega) only [↓vcOps_sp 27, ↓vcD_sp 27, ↓vcOps_sp 36, ↓vcD_sp 36, ↓vcOps_sp 39, ↓vcD_sp 39, ↓vcOps_sp 88, ↓vcD_sp 88, ↓vcOps_sp 98, ↓vcD_sp 98, ↓vcOps_sp 113, ↓vcD_sp 113, ↓vcOps_sp 135, ↓vcD_sp 135, ↓vcOps_sp 141, ↓vcD_sp 141, VCA, pg_gl, ↓upd_none, Nat.reduceEqDiff, Nat.reduceBEq, Nat.reduceAdd, Nat.reduceSub, Nat.reduceMul, Nat.reduceLT, Nat.reduceLeDiff, ↓reduceIte, reduceCtorEq, rsOf, rootsOf, SOp.rd, SI.rd, SX.rd, rdL, rdO, rdP, okParts, eqCells, okEqCells, fillA, okFill, setAt, implies_true, forall_const, forall_eq, ne_eq, exists_eq_right_right, exists_eq_right, exists_eq_left, exists_eq_left', rootL, eAttr, eInt, eNode, eDoc, eBool, lit_eq, he1, he3, he6]
        refine ⟨_, by omega, i + 1, by omega, rfl, by omega, fun j hj' => ?_⟩
        by_cases hji : j = i
        · subst hji; exact fe_none hk0
        · exact hj j (by omega)
    · obtain rfl : i = d.nodes.length := by omega
      simp -dsimp -implicitDefEqProofs (disch := omega) only [↓vcOps_sp 27, ↓vcD_sp 27, ↓vcOps_sp 36, ↓vcD_sp 36, ↓vcOps_sp 39, ↓vcD_sp 39, ↓vcOps_sp 88, ↓vcD_sp 88, ↓vcOps_sp 98, ↓vcD_sp 98, ↓vcOps_sp 113, ↓vcD_sp 113, ↓vcOps_sp 135, ↓vcD_sp 135, ↓vcOps_sp 141, ↓vcD_sp 141, VCA, pg_gl, ↓upd_none, Nat.reduceEqDiff, Nat.reduceBEq, Nat.reduceAdd, Nat.reduceSub, Nat.reduceMul, Nat.reduceLT, Nat.reduceLeDiff, ↓reduceIte, reduceCtorEq, rsOf, rootsOf, SOp.rd, SI.rd, SX.rd, rdL, rdO, rdP, okParts, eqCells, okEqCells, fillA, okFill, setAt, implies_true, forall_const, forall_eq, ne_eq, exists_eq_right_right, exists_eq_right, exists_eq_left, exists_eq_left', rootL, eAttr, eInt, eNode, eDoc, eBool, lit_eq]
      exact s6 (fe_none hj) hp _ he1 he3
  have s4 : 0 < d.nodes.length → ∀ e : Env, e 1 = .pin (eDoc d) → e 3 = aInt d.nodes.length → vc (Pg G) c10_s4 (retK [.tmp 2] fun r h' => r = aInt (if fe d.nodes.length (headE d) ≠ 0 then fe d.nodes.length (headE d) else if kidsAll d ≠ 0 then kidsAll d else fe d.nodes.length (deepE d)) ∧ h' = h) e h := by
    intro hp e he1 he3
    unfold c10_s4
    skip
    simp -dsimp -implicitDefEqProofs (disch := omega) only [↓vcOps_sp 27, ↓vcD_sp 27, ↓vcOps_sp 36, ↓vcD_sp 36, ↓vcOps_sp 39, ↓vcD_sp 39, ↓vcOps_sp 88, ↓vcD_sp 88, ↓vcOps_sp 98, ↓vcD_sp 98, ↓vcOps_sp 113, ↓vcD_sp 113, ↓vcOps_sp 135, ↓vcD_sp 135, ↓vcOps_sp 141, ↓vcD_sp 141, VCA, pg_gl, ↓upd_none, Nat.reduceEqDiff, Nat.reduceBEq, Nat.reduceAdd, Nat.reduceSub, Nat.reduceMul, Nat.reduceLT, Nat.reduceLeDiff, ↓reduceIte, reduceCtorEq, rsOf, rootsOf, SOp.rd, SI.rd, SX.rd, rdL, rdO, rdP, okParts, eqCells, okEqCells, fillA, okFill, setAt, implies_true, forall_const, forall_eq, ne_eq, exists_eq_right_right, exists_eq_right, exists_eq_left, exists_eq_left', rootL, eAttr, eInt, eNode, eDoc, eBool, lit_eq, he1, he3]
    refine LoopVC.intro (fun m e h' => ∃ i : Nat, i ≤ d.nodes.length ∧ m = d.nodes.length - i ∧ e 1 = .pin (eDoc d) ∧ e 3 = aInt d.nodes.length ∧ e 4 = aInt i ∧ h' = h ∧ ∀ j, j < i → headE d j = 0) d.nodes.length ⟨0, by omega, by omega, he1, he3, rfl, rfl, by omega⟩ ?_
    rintro m e h' ⟨i, hi, rfl, he1, he3, he4, rfl, hj⟩
    simp -dsimp -implicitDefEqProofs (disch := omega) only [↓vcOps_sp 27, ↓vcD_sp 27, ↓vcOps_sp 36, ↓vcD_sp 36, ↓vcOps_sp 39, ↓vcD_sp 39, ↓vcOps_sp 88, ↓vcD_sp 88, ↓vcOps_sp 98, ↓vcD_sp 98, ↓vcOps_sp 113, ↓vcD_sp 113, ↓vcOps_sp 135, ↓vcD_sp 135, ↓vcOps_sp 141, ↓vcD_sp 141, VCA, pg_gl, ↓upd_none, Nat.reduceEqDiff, Nat.reduceBEq, Nat.reduceAdd, Nat.reduceSub, Nat.reduceMul, Nat.reduceLT, Nat.reduceLeDiff, ↓reduceIte, reduceCtorEq, rsOf, rootsOf, SOp.rd, SI.rd, SX.rd, rdL, rdO, rdP, okParts, eqCells, okEqCells, fillA, okFill, setAt, implies_true, forall_const, forall_eq, ne_eq, exists_eq_right_right, exists_eq_right, exists_eq_left, exists_eq_left', rootL, eAttr, eInt, eNode, eDoc, eBool, lit_eq, he1, he3, he4]
    refine Br.dec (fun hlt => ?_) (fun hge => ?_)
    · have hi' : i < d.nodes.length := by omega
      have hdef : headE d i = if ¬ ((nth d.nodes i).kind = 1 ↔ i = 0) then 3 else nodeE (nth d.nodes i) := rfl
      have bad : ∀ x : Int, x ≠ 0 → headE d i = x → x = (if fe d.nodes.length (headE d) ≠ 0 then fe d.nodes.length (headE d) else if kidsAll d ≠ 0 then kidsAll d else fe d.nodes.length (deepE d)) := fun x hx he => by
        have : fe d.nodes.length (headE d) = x := by rw [fe_some hi' hj (by rw [he]; exact hx), he]
        rw [this, if_pos hx]
      have ok0 : headE d i = 0 → ∀ j, j < i + 1 → headE d j = 0 := fun h0 j hj' => by
        by_cases hji : j = i
        · subst hji; exact h0
        · exact hj j (by omega)
      have hO : PCalls (Pg G) 33 [.agg [aInt (nth d.nodes i).kind, .str (nth d.nodes i).name, sl eAttr (nth d.nodes i).attrs, .str (nth d.nodes i).text, aInt (nth d.nodes i).parent, sl eInt (nth d.nodes i).kids]] (aInt (nodeE (nth d.nodes i))) := nodeErr_ok _ (sm.nth i)
      simp -dsimp -implicitDefEqProofs (disch := omega) only [↓vcOps_sp 27, ↓vcD_sp 27, ↓vcOps_sp 36, ↓vcD_sp 36, ↓vcOps_sp 39, ↓vcD_sp 39, ↓vcOps_sp 88, ↓vcD_sp 88, ↓vcOps_sp 98, ↓vcD_sp 98, ↓vcOps_sp 113, ↓vcD_sp 113, ↓vcOps_sp 135, ↓vcD_sp 135, ↓vcOps_sp 141, ↓vcD_sp 141, VCA, pg_gl, ↓upd_none, Nat.reduceEqDiff, Nat.reduceBEq, Nat.reduceAdd, Nat.reduceSub, Nat.reduceMul, Nat.reduceLT, Nat.reduceLeDiff, ↓reduceIte, reduceCtorEq, rsOf, rootsOf, SOp.rd, SI.rd, SX.rd, rdL, rdO, rdP, okParts, eqCells, okEqCells, fillA, okFill, setAt, implies_true, forall_const, forall_eq, ne_eq, exists_eq_right_right, exists_eq_right, exists_eq_left, exists_eq_left', rootL, eAttr, eInt, eNode, eDoc, eBool, lit_eq, he1, he3, he4, eDoc, eNode]
      repeat' (first | ((with_reducible refine brC (fun _ => ?_) fun _ => ?_) <;> try (exfalso; omega)) | (with_reducible apply pcallE.of; · exact hO) | (with_reducible refine And.intro ?_ ?_; · omega) | simp -dsimp -implicitDefEqProofs (disch := omega) only [↓vcOps_sp 27, ↓vcD_sp 27, ↓vcOps_sp 36, ↓vcD_sp 36, ↓vcOps_sp 39, ↓vcD_sp 39, ↓vcOps_sp 88, ↓vcD_sp 88, ↓vcOps_sp 98, ↓vcD_sp 98, ↓vcOps_sp 113, ↓vcD_sp 113, ↓vcOps_sp 135, ↓vcD_sp 135, ↓vcOps_sp 141, ↓vcD_sp 141, VCA, pg_gl, ↓upd_none, Nat.reduceEqDiff, Nat.reduceBEq, Nat.reduceAdd, Nat.reduceSub, Nat.reduceMul, Nat.reduceLT, Nat.reduceLeDiff, ↓reduceIte, reduceCtorEq, rsOf, rootsOf, SOp.rd, SI.rd, SX.rd, rdL, rdO, rdP, okParts, eqCells, okEqCells, fillA, okFill, setAt, implies_true, forall_const, forall_eq, ne_eq, exists_eq_right_right, exists_eq_right, exists_eq_left, exists_eq_left', rootL, eAttr, eInt, eNode, eDoc, eBool, lit_eq, he1, he3, he4, eDoc, eNode])
      all_goals first
        | exact ⟨Sub.refl _, bad 3 (by decide) (by rw [hdef, if_pos (by omega)])⟩
        | (rename_i q; exact ⟨Sub.refl _, bad _ q (by rw [hdef, if_neg (by omega)])⟩)
        | (rename_i q; exact ⟨_, by omega, i + 1, by omega, rfl, by omega, ok0 (by rw [hdef, if_neg (by omega), q])⟩)
    · obtain rfl : i = d.nodes.length := by omega
      rw [fe_none hj, if_neg (by simp)]
      simp -dsimp -implicitDefEqProofs (disch := omega) only [↓vcOps_sp 27, ↓vcD_sp 27, ↓vcOps_sp 36, ↓vcD_sp 36, ↓vcOps_sp 39, ↓vcD_sp 39, ↓vcOps_sp 88, ↓vcD_sp 88, ↓vcOps_sp 98, ↓vcD_sp 98, ↓vcOps_sp 113, ↓vcD_sp 113, ↓vcOps_sp 135, ↓vcD_sp 135, ↓vcOps_sp 141, ↓vcD_sp 141, VCA, pg_gl, ↓upd_none, Nat.reduceEqDiff, Nat.reduceBEq, Nat.reduceAdd, Nat.reduceSub, Nat.reduceMul, Nat.reduceLT, Nat.reduceLeDiff, ↓reduceIte, reduceCtorEq, rsOf, rootsOf, SOp.rd, SI.rd, SX.rd, rdL, rdO, rdP, okParts, eqCells, okEqCells, fillA, okFill, setAt, implies_true, forall_const, forall_eq, ne_eq, exists_eq_right_right, exists_eq_right, exists_eq_left, exists_eq_left', rootL, eAttr, eInt, eNode, eDoc, eBool, lit_eq]
      exact s5 hp _ he1 he3
  rw [docE_kids]
  refine dcalls_of_vc Tryd.func10 hn10 hc10 (by rw [Tryd.ntmps10]; simp) (by rw [Tryd.ntmps10]; decide) ?_
  simp -dsimp -implicitDefEqProofs (disch := omega) only [↓vcOps_sp 27, ↓vcD_sp 27, ↓vcOps_sp 36, ↓vcD_sp 36, ↓vcOps_sp 39, ↓vcD_sp 39, ↓vcOps_sp 88, ↓vcD_sp 88, ↓vcOps_sp 98, ↓vcD_sp 98, ↓vcOps_sp 113, ↓vcD_sp 113, ↓vcOps_sp 135, ↓vcD_sp 135, ↓vcOps_sp 141, ↓vcD_sp 141, VCA, pg_gl, ↓upd_none, Nat.reduceEqDiff, Nat.reduceBEq, Nat.reduceAdd, Nat.reduceSub, Nat.reduceMul, Nat.reduceLT, Nat.reduceLeDiff, ↓reduceIte, reduceCtorEq, rsOf, rootsOf, SOp.rd, SI.rd, SX.rd, rdL, rdO, rdP, okParts, eqCells, okEqCells, fillA, okFill, setAt, implies_true, forall_const, forall_eq, ne_eq, exists_eq_right_right, exists_eq_right, exists_eq_left, exists_eq_left', rootL, eAttr, eInt, eNode, eDoc, eBool, lit_eq, c10, eDoc]
  refine Br.dec (fun h1 => ?_) (fun h1 => ?_)
  · rw [if_pos (by omega)]
    simp -dsimp -implicitDefEqProofs (disch := omega) only [↓vcOps_sp 27, ↓vcD_sp 27, ↓vcOps_sp 36, ↓vcD_sp 36, ↓vcOps_sp 39, ↓vcD_sp 39, ↓vcOps_sp 88, ↓vcD_sp 88, ↓vcOps_sp 98, ↓vcD_sp 98, ↓vcOps_sp 113, ↓vcD_sp 113, ↓vcOps_sp 135, ↓vcD_sp 135, ↓vcOps_sp 141, ↓vcD_sp 141, VCA, pg_gl, ↓upd_none, Nat.reduceEqDiff, Nat.reduceBEq, Nat.reduceAdd, Nat.reduceSub, Nat.reduceMul, Nat.reduceLT, Nat.reduceLeDiff, ↓reduceIte, reduceCtorEq, rsOf, rootsOf, SOp.rd, SI.rd, SX.rd, rdL, rdO, rdP, okParts, eqCells, okEqCells, fillA, okFill, setAt, implies_true, forall_const, forall_eq, ne_eq, exists_eq_right_right, exists_eq_right, exists_eq_left, exists_eq_left', rootL, eAttr, eInt, eNode, eDoc, eBool, lit_eq]
    exact Sub.refl _
  · rw [if_neg (by omega)]
    simp -dsimp -implicitDefEqProofs (disch := omega) only [↓vcOps_sp 27, ↓vcD_sp 27, ↓vcOps_sp 36, ↓vcD_sp 36, ↓vcOps_sp 39, ↓vcD_sp 39, ↓vcOps_sp 88, ↓vcD_sp 88, ↓vcOps_sp 98, ↓vcD_sp 98, ↓vcOps_sp 113, ↓vcD_sp 113, ↓vcOps_sp 135, ↓vcD_sp 135, ↓vcOps_sp 141, ↓vcD_sp 141, VCA, pg_gl, ↓upd_none, Nat.reduceEqDiff, Nat.reduceBEq, Nat.reduceAdd, Nat.reduceSub, Nat.reduceMul, Nat.reduceLT, Nat.reduceLeDiff, ↓reduceIte, reduceCtorEq, rsOf, rootsOf, SOp.rd, SI.rd, SX.rd, rdL, rdO, rdP, okParts, eqCells, okEqCells, fillA, okFill, setAt, implies_true, forall_const, forall_eq, ne_eq, exists_eq_right_right, exists_eq_right, exists_eq_left, exists_eq_left', rootL, eAttr, eInt, eNode, eDoc, eBool, lit_eq]
    refine Br.eq (fun h2 => ?_) (fun h2 => ?_)
    · rw [if_pos (by omega)]
      simp -dsimp -implicitDefEqProofs (disch := omega) only [↓vcOps_sp 27, ↓vcD_sp 27, ↓vcOps_sp 36, ↓vcD_sp 36, ↓vcOps_sp 39, ↓vcD_sp 39, ↓vcOps_sp 88, ↓vcD_sp 88, ↓vcOps_sp 98, ↓vcD_sp 98, ↓vcOps_sp 113, ↓vcD_sp 113, ↓vcOps_sp 135, ↓vcD_sp 135, ↓vcOps_sp 141, ↓vcD_sp 141, VCA, pg_gl, ↓upd_none, Nat.reduceEqDiff, Nat.reduceBEq, Nat.reduceAdd, Nat.reduceSub, Nat.reduceMul, Nat.reduceLT, Nat.reduceLeDiff, ↓reduceIte, reduceCtorEq, rsOf, rootsOf, SOp.rd, SI.rd, SX.rd, rdL, rdO, rdP, okParts, eqCells, okEqCells, fillA, okFill, setAt, implies_true, forall_const, forall_eq, ne_eq, exists_eq_right_right, exists_eq_right, exists_eq_left, exists_eq_left', rootL, eAttr, eInt, eNode, eDoc, eBool, lit_eq]
      exact Sub.refl _
    · rw [if_neg (by omega)]
      simp -dsimp -implicitDefEqProofs (disch := omega) only [↓vcOps_sp 27, ↓vcD_sp 27, ↓vcOps_sp 36, ↓vcD_sp 36, ↓vcOps_sp 39, ↓vcD_sp 39, ↓vcOps_sp 88, ↓vcD_sp 88, ↓vcOps_sp 98, ↓vcD_sp 98, ↓vcOps_sp 113, ↓vcD_sp 113, ↓vcOps_sp 135, ↓vcD_sp 135, ↓vcOps_sp 141, ↓vcD_sp 141, VCA, pg_gl, ↓upd_none, Nat.reduceEqDiff, Nat.reduceBEq, Nat.reduceAdd, Nat.reduceSub, Nat.reduceMul, Nat.reduceLT, Nat.reduceLeDiff, ↓reduceIte, reduceCtorEq, rsOf, rootsOf, SOp.rd, SI.rd, SX.rd, rdL, rdO, rdP, okParts, eqCells, okEqCells, fillA, okFill, setAt, implies_true, forall_const, forall_eq, ne_eq, exists_eq_right_right, exists_eq_right, exists_eq_left, exists_eq_left', rootL, eAttr, eInt, eNode, eDoc, eBool, lit_eq]
      exact s4 (by omega) _ rfl rfl
def c55 : SFun := ⟨.seq (.reg [⟨some 2, .boxF 29 6 (.t 0), none⟩, ⟨some 3, .boxF 29 6 (.t 1), none⟩, ⟨some 4, .mv (.c (.bool false)), none⟩]) (.seq (.reg [⟨some 5, .fldA 0 (.t 2), none⟩, ⟨some 6, .ld 1 false (.t 5), none⟩, ⟨some 7, .fldA 0 (.t 3), none⟩, ⟨some 8, .ld 1 false (.t 7), none⟩, ⟨some 9, .bin .eql (.t 6) (.t 8), none⟩, ⟨some 10, .mv (.t 9), none⟩, ⟨some 11, .fldA 1 (.t 2), some (10, true)⟩, ⟨some 12, .ld 1 false (.t 11), some (10, true)⟩, ⟨some 13, .fldA 1 (.t 3), some (10, true)⟩, ⟨some 14, .ld 1 false (.t 13), some (10, true)⟩, ⟨some 15, .bin .eql (.t 12) (.t 14), some (10, true)⟩, ⟨some 16, .pick (.t 10) (.t 15) (.c (.bool false)), none⟩, ⟨some 17, .mv (.t 16), none⟩, ⟨some 18, .fldA 3 (.t 2), some (17, true)⟩, ⟨some 19, .ld 1 false (.t 18), some (17, true)⟩, ⟨some 20, .fldA 3 (.t 3), some (17, true)⟩, ⟨some 21, .ld 1 false (.t 20), some (17, true)⟩, ⟨some 22, .bin .eql (.t 19) (.t 21), some (17, true)⟩, ⟨some 23, .pick (.t 17) (.t 22) (.c (.bool false)), none⟩, ⟨some 24, .mv (.t 23), none⟩, ⟨some 25, .fldA 4 (.t 2), some (24, true)⟩, ⟨some 26, .ld 1 false (.t 25), some (24, true)⟩, ⟨some 27, .fldA 4 (.t 3), some (24, true)⟩, ⟨some 28, .ld 1 false (.t 27), some (24, true)⟩, ⟨some 29, .bin .eql (.t 26) (.t 28), some (24, true)⟩, ⟨some 30, .pick (.t 24) (.t 29) (.c (.bool false)), none⟩, ⟨some 31, .mv (.t 30), none⟩, ⟨some 32, .fldA 2 (.t 2), some (31, true)⟩, ⟨some 33, .ld 1 false (.t 32), some (31, true)⟩, ⟨some 34, .fldA 2 (.t 3), some (31, true)⟩, ⟨some 35, .ld 1 false (.t 34), some (31, true)⟩, ⟨some 36, .pcall 76 [.t 33, .t 35], some (31, true)⟩, ⟨some 37, .pick (.t 31) (.t 36) (.c (.bool false)), none⟩, ⟨some 38, .mv (.t 37), none⟩, ⟨some 39, .fldA 5 (.t 2), some (38, true)⟩, ⟨some 40, .ld 1 false (.t 39), some (38, true)⟩, ⟨some 41, .fldA 5 (.t 3), some (38, true)⟩, ⟨some 42, .ld 1 false (.t 41), some (38, true)⟩, ⟨some 43, .pcall 13 [.t 40, .t 42], some (38, true)⟩, ⟨some 44, .pick (.t 38) (.t 43) (.c (.bool false)), none⟩, ⟨some 4, .mv (.t 44), none⟩]) .ret), [.tmp 4]⟩
theorem hc55 : toSF Tryd.prog {pure := [76, 13]} Tryd.f55 = some c55 := by kernel_rfl
theorem hn55 : (Tryd.f55.name == "runtime.NumGoroutine") = false := by kernel_rfl
theorem sameNode_ok (x y : HNode) (hx : NodeSm x) (hy : NodeSm y) : PCalls (Pg G) 55 [.agg (eNode x), .agg (eNode y)] (.bool (x == y)) := fun h => by
  have key : (x == y) = (x.kind == y.kind && (x.name == y.name && (x.text == y.text && (x.parent == y.parent && (x.attrs == y.attrs && x.kids == y.kids))))) := by
    cases x; cases y; rw [Bool.eq_iff_iff]; simp; intro _ _; exact ⟨fun ⟨a, b, c, d⟩ => ⟨b, c, a, d⟩, fun ⟨a, b, c, d⟩ => ⟨c, a, b, d⟩⟩
  refine dcalls_of_vc Tryd.func55 hn55 hc55 (by rw [Tryd.ntmps55]; simp) (by rw [Tryd.ntmps55]; decide) ?_
  simp -dsimp -implicitDefEqProofs (disch := omega) only [↓vcOps_sp 10, ↓vcD_sp 10, ↓vcOps_sp 17, ↓vcD_sp 17, ↓vcOps_sp 24, ↓vcD_sp 24, ↓vcOps_sp 31, ↓vcD_sp 31, ↓vcOps_sp 38, ↓vcD_sp 38, VCA, pg_gl, ↓upd_none, Nat.reduceEqDiff, Nat.reduceBEq, Nat.reduceAdd, Nat.reduceSub, Nat.reduceMul, Nat.reduceLT, Nat.reduceLeDiff, ↓reduceIte, reduceCtorEq, rsOf, rootsOf, SOp.rd, SI.rd, SX.rd, rdL, rdO, rdP, okParts, eqCells, okEqCells, fillA, okFill, setAt, implies_true, forall_const, forall_eq, ne_eq, exists_eq_right_right, exists_eq_right, exists_eq_left, exists_eq_left', rootL, eAttr, eInt, eNode, eDoc, eBool, lit_eq, c55, eNode]
  repeat' (first | ((with_reducible refine brC (fun _ => ?_) fun _ => ?_) <;> try (exfalso; omega)) | (with_reducible apply pcallE.of; · exact sameA_ok x.attrs y.attrs hx.attrs hy.attrs) | (with_reducible apply pcallE.of; · exact sameN_ok x.kids y.kids hx.kids hy.kids) | (with_reducible refine And.intro ?_ ?_; · omega) | simp -dsimp -implicitDefEqProofs (disch := omega) only [↓vcOps_sp 10, ↓vcD_sp 10, ↓vcOps_sp 17, ↓vcD_sp 17, ↓vcOps_sp 24, ↓vcD_sp 24, ↓vcOps_sp 31, ↓vcD_sp 31, ↓vcOps_sp 38, ↓vcD_sp 38, VCA, pg_gl, ↓upd_none, Nat.reduceEqDiff, Nat.reduceBEq, Nat.reduceAdd, Nat.reduceSub, Nat.reduceMul, Nat.reduceLT, Nat.reduceLeDiff, ↓reduceIte, reduceCtorEq, rsOf, rootsOf, SOp.rd, SI.rd, SX.rd, rdL, rdO, rdP, okParts, eqCells, okEqCells, fillA, okFill, setAt, implies_true, forall_const, forall_eq, ne_eq, exists_eq_right_right, exists_eq_right, exists_eq_left, exists_eq_left', rootL, eAttr, eInt, eNode, eDoc, eBool, lit_eq])
  all_goals (refine ⟨Sub.refl _, ?_⟩; rw [key]; simp_all)
def c28 : SFun := ⟨.seq (.reg [⟨some 2, .boxF 24 2 (.t 0), none⟩, ⟨some 3, .boxF 24 2 (.t 1), none⟩, ⟨some 4, .mv (.c (.bool false)), none⟩]) (.seq (.seq (.reg [⟨some 6, .fldA 0 (.t 2), none⟩, ⟨some 7, .ld 1 false (.t 6), none⟩, ⟨some 8, .len (.t 7), none⟩, ⟨some 9, .fldA 0 (.t 3), none⟩, ⟨some 10, .ld 1 false (.t 9), none⟩, ⟨some 11, .len (.t 10), none⟩, ⟨some 12, .bin .neq (.t 8) (.t 11), none⟩, ⟨some 13, .mv (.t 12), none⟩, ⟨some 14, .fldA 1 (.t 2), some (13, false)⟩, ⟨some 15, .ld 1 false (.t 14), some (13, false)⟩, ⟨some 16, .fldA 1 (.t 3), some (13, false)⟩, ⟨some 17, .ld 1 false (.t 16), some (13, false)⟩, ⟨some 18, .eqb true (.t 15) (.t 17), some (13, false)⟩, ⟨some 19, .pick (.t 13) (.c (.bool true)) (.t 18), none⟩]) (.cond (.t 19) (.seq (.reg [⟨some 4, .mv (.c (.bool false)), none⟩]) .ret) .skip)) (.seq (.seq (.reg [⟨some 5, .mv (.c (.int .i64 0)), none⟩]) (.block 0 (.loop (.seq (.seq (.reg [⟨some 20, .mv (.t 5), none⟩, ⟨some 21, .fldA 0 (.t 2), none⟩, ⟨some 22, .ld 1 false (.t 21), none⟩, ⟨some 23, .len (.t 22), none⟩, ⟨some 24, .bin .lss (.t 20) (.t 23), none⟩]) (.cond (.t 24) .skip (.exit 0))) (.seq (.block 1 (.seq (.dreg [(⟨some 27, .fldA 0 (.t 2), none⟩, none), (⟨some 28, .ld 1 false (.t 27), none⟩, none), (⟨some 29, .mv (.t 5), none⟩, none), (⟨some 30, .idxA 6 (.t 28) (.t 29), none⟩, none), (⟨some 31, .ld 6 true (.t 30), none⟩, none), (⟨some 32, .fldA 0 (.t 3), none⟩, none), (⟨some 33, .ld 1 false (.t 32), none⟩, none), (⟨some 34, .mv (.t 5), none⟩, none), (⟨some 35, .idxA 6 (.t 33) (.t 34), none⟩, none), (⟨some 36, .ld 6 true (.t 35), none⟩, none), (⟨some 37, .pcall 55 [.t 31, .t 36], none⟩, none), (⟨some 38, .un .not (.t 37), none⟩, none)]) (.cond (.t 38) (.seq (.reg [⟨some 4, .mv (.c (.bool false)), none⟩]) .ret) .skip))) (.reg [⟨some 25, .mv (.t 5), none⟩, ⟨some 26, .bin .add (.t 25) (.c (.int .i64 1)), none⟩, ⟨some 5, .mv (.t 26), none⟩])))))) (.seq (.reg [⟨some 4, .mv (.c (.bool true)), none⟩]) .ret))), [.tmp 4]⟩
theorem hc28 : toSF Tryd.prog {pure := [55]} Tryd.f28 = some c28 := by kernel_rfl
theorem hn28 : (Tryd.f28.name == "runtime.NumGoroutine") = false := by kernel_rfl
theorem sameDoc_ok (a b : HDoc) (ha : DocSm a) (hb : DocSm b) : PCalls (Pg G) 28 [.agg (eDoc a), .agg (eDoc b)] (.bool (a == b)) := fun h => by
  have l1 := ha.len
  have l2 := hb.len
  refine dcalls_of_vc Tryd.func28 hn28 hc28 (by rw [Tryd.ntmps28]; simp) (by rw [Tryd.ntmps28]; decide) ?_
  simp -dsimp -implicitDefEqProofs (disch := omega) only [↓vcOps_sp 13, ↓vcD_sp 13, VCA, pg_gl, ↓upd_none, Nat.reduceEqDiff, Nat.reduceBEq, Nat.reduceAdd, Nat.reduceSub, Nat.reduceMul, Nat.reduceLT, Nat.reduceLeDiff, ↓reduceIte, reduceCtorEq, rsOf, rootsOf, SOp.rd, SI.rd, SX.rd, rdL, rdO, rdP, okParts, eqCells, okEqCells, fillA, okFill, setAt, implies_true, forall_const, forall_eq, ne_eq, exists_eq_right_right, exists_eq_right, exists_eq_left, exists_eq_left', rootL, eAttr, eInt, eNode, eDoc, eBool, lit_eq, c28, eDoc]
  refine Br.ne (fun h1 => ?_) (fun h1 => ?_)
  · simp -dsimp -implicitDefEqProofs (disch := omega) only [↓vcOps_sp 13, ↓vcD_sp 13, VCA, pg_gl, ↓upd_none, Nat.reduceEqDiff, Nat.reduceBEq, Nat.reduceAdd, Nat.reduceSub, Nat.reduceMul, Nat.reduceLT, Nat.reduceLeDiff, ↓reduceIte, reduceCtorEq, rsOf, rootsOf, SOp.rd, SI.rd, SX.rd, rdL, rdO, rdP, okParts, eqCells, okEqCells, fillA, okFill, setAt, implies_true, forall_const, forall_eq, ne_eq, exists_eq_right_right, exists_eq_right, exists_eq_left, exists_eq_left', rootL, eAttr, eInt, eNode, eDoc, eBool, lit_eq]
    have : ¬ a = b := fun e => h1 (by rw [e])
    first | exact Sub.refl _ | exact ⟨Sub.refl _, by simp [this]⟩
  · have h1' : a.nodes.length = b.nodes.length := by omega
    simp -dsimp -implicitDefEqProofs (disch := omega) only [↓vcOps_sp 13, ↓vcD_sp 13, VCA, pg_gl, ↓upd_none, Nat.reduceEqDiff, Nat.reduceBEq, Nat.reduceAdd, Nat.reduceSub, Nat.reduceMul, Nat.reduceLT, Nat.reduceLeDiff, ↓reduceIte, reduceCtorEq, rsOf, rootsOf, SOp.rd, SI.rd, SX.rd, rdL, rdO, rdP, okParts, eqCells, okEqCells, fillA, okFill, setAt, implies_true, forall_const, forall_eq, ne_eq, exists_eq_right_right, exists_eq_right, exists_eq_left, exists_eq_left', rootL, eAttr, eInt, eNode, eDoc, eBool, lit_eq, eDoc]
    refine brNeq (fun h2 => ?_) (fun h2 => ?_)
    · simp -dsimp -implicitDefEqProofs (disch := omega) only [↓vcOps_sp 13, ↓vcD_sp 13, VCA, pg_gl, ↓upd_none, Nat.reduceEqDiff, Nat.reduceBEq, Nat.reduceAdd, Nat.reduceSub, Nat.reduceMul, Nat.reduceLT, Nat.reduceLeDiff, ↓reduceIte, reduceCtorEq, rsOf, rootsOf, SOp.rd, SI.rd, SX.rd, rdL, rdO, rdP, okParts, eqCells, okEqCells, fillA, okFill, setAt, implies_true, forall_const, forall_eq, ne_eq, exists_eq_right_right, exists_eq_right, exists_eq_left, exists_eq_left', rootL, eAttr, eInt, eNode, eDoc, eBool, lit_eq]
      have : ¬ a = b := fun e => h2 (by rw [e])
      first | exact Sub.refl _ | exact ⟨Sub.refl _, by simp [this]⟩
    · simp -dsimp -implicitDefEqProofs (disch := omega) only [↓vcOps_sp 13, ↓vcD_sp 13, VCA, pg_gl, ↓upd_none, Nat.reduceEqDiff, Nat.reduceBEq, Nat.reduceAdd, Nat.reduceSub, Nat.reduceMul, Nat.reduceLT, Nat.reduceLeDiff, ↓reduceIte, reduceCtorEq, rsOf, rootsOf, SOp.rd, SI.rd, SX.rd, rdL, rdO, rdP, okParts, eqCells, okEqCells, fillA, okFill, setAt, implies_true, forall_const, forall_eq, ne_eq, exists_eq_right_right, exists_eq_right, exists_eq_left, exists_eq_left', rootL, eAttr, eInt, eNode, eDoc, eBool, lit_eq]
      refine LoopVC.intro (fun m e h' => ∃ k : Nat, k ≤ a.nodes.length ∧ m = a.nodes.length - k ∧ e 2 = .pin (eDoc a) ∧ e 3 = .pin (eDoc b) ∧ e 5 = aInt k ∧ h' = h ∧ ∀ j, j < k → nth a.nodes j = nth b.nodes j) a.nodes.length ⟨0, by omega, by omega, rfl, rfl, rfl, rfl, fun j hj => absurd hj (Nat.not_lt_zero j)⟩ ?_
      rintro m e h' ⟨k, hk, rfl, he2, he3, he5, rfl, hj⟩
      have hN : PCalls (Pg G) 55 [.agg (eNode (nth a.nodes k)), .agg (eNode (nth b.nodes k))] (.bool (nth a.nodes k == nth b.nodes k)) := sameNode_ok _ _ (ha.nth k) (hb.nth k)
      unfold eNode at hN
      simp -dsimp -implicitDefEqProofs (disch := omega) only [↓vcOps_sp 13, ↓vcD_sp 13, VCA, pg_gl, ↓upd_none, Nat.reduceEqDiff, Nat.reduceBEq, Nat.reduceAdd, Nat.reduceSub, Nat.reduceMul, Nat.reduceLT, Nat.reduceLeDiff, ↓reduceIte, reduceCtorEq, rsOf, rootsOf, SOp.rd, SI.rd, SX.rd, rdL, rdO, rdP, okParts, eqCells, okEqCells, fillA, okFill, setAt, implies_true, forall_const, forall_eq, ne_eq, exists_eq_right_right, exists_eq_right, exists_eq_left, exists_eq_left', rootL, eAttr, eInt, eNode, eDoc, eBool, lit_eq, he2, he3, he5, eDoc]
      refine Br.dec (fun hlt => ?_) (fun hge => ?_)
      · simp -dsimp -implicitDefEqProofs (disch := omega) only [↓vcOps_sp 13, ↓vcD_sp 13, VCA, pg_gl, ↓upd_none, Nat.reduceEqDiff, Nat.reduceBEq, Nat.reduceAdd, Nat.reduceSub, Nat.reduceMul, Nat.reduceLT, Nat.reduceLeDiff, ↓reduceIte, reduceCtorEq, rsOf, rootsOf, SOp.rd, SI.rd, SX.rd, rdL, rdO, rdP, okParts, eqCells, okEqCells, fillA, okFill, setAt, implies_true, forall_const, forall_eq, ne_eq, exists_eq_right_right, exists_eq_right, exists_eq_left, exists_eq_left', rootL, eAttr, eInt, eNode, eDoc, eBool, lit_eq, he2, he3, he5, eDoc, eNode]
        refine ⟨by omega, by omega, ?_⟩
        refine pcallE.of (hN) ?_; simp -dsimp -implicitDefEqProofs (disch := omega) only [↓vcOps_sp 13, ↓vcD_sp 13, VCA, pg_gl, ↓upd_none, Nat.reduceEqDiff, Nat.reduceBEq, Nat.reduceAdd, Nat.reduceSub, Nat.reduceMul, Nat.reduceLT, Nat.reduceLeDiff, ↓reduceIte, reduceCtorEq, rsOf, rootsOf, SOp.rd, SI.rd, SX.rd, rdL, rdO, rdP, okParts, eqCells, okEqCells, fillA, okFill, setAt, implies_true, forall_const, forall_eq, ne_eq, exists_eq_right_right, exists_eq_right, exists_eq_left, exists_eq_left', rootL, eAttr, eInt, eNode, eDoc, eBool, lit_eq, he2, he3, he5, eDoc, eNode]
        refine brNeq (fun h3 => ?_) (fun h3 => ?_)
        · simp -dsimp -implicitDefEqProofs (disch := omega) only [↓vcOps_sp 13, ↓vcD_sp 13, VCA, pg_gl, ↓upd_none, Nat.reduceEqDiff, Nat.reduceBEq, Nat.reduceAdd, Nat.reduceSub, Nat.reduceMul, Nat.reduceLT, Nat.reduceLeDiff, ↓reduceIte, reduceCtorEq, rsOf, rootsOf, SOp.rd, SI.rd, SX.rd, rdL, rdO, rdP, okParts, eqCells, okEqCells, fillA, okFill, setAt, implies_true, forall_const, forall_eq, ne_eq, exists_eq_right_right, exists_eq_right, exists_eq_left, exists_eq_left', rootL, eAttr, eInt, eNode, eDoc, eBool, lit_eq]
          have : ¬ a = b := fun e => h3 (by rw [e])
          first | exact Sub.refl _ | exact ⟨Sub.refl _, by simp [this]⟩
        · simp -dsimp -implicitDefEqProofs (disch := omega) only [↓vcOps_sp 13, ↓vcD_sp 13, VCA, pg_gl, ↓upd_none, Nat.reduceEqDiff, Nat.reduceBEq, Nat.reduceAdd, Nat.reduceSub, Nat.reduceMul, Nat.reduceLT, Nat.reduceLeDiff, ↓reduceIte, reduceCtorEq, rsOf, rootsOf, SOp.rd, SI.rd, SX.rd, rdL, rdO, rdP, okParts, eqCells, okEqCells, fillA, okFill, setAt, implies_true, forall_const, forall_eq, ne_eq, exists_eq_right_right, exists_eq_right, exists_eq_left, exists_eq_left', rootL, eAttr, eInt, eNode, eDoc, eBool, lit_eq, he2, he3, he5, eDoc]
          refine ⟨_, by omega, k + 1, by omega, rfl, by omega, fun j hj' => ?_⟩
          by_cases hjk : j = k
          · subst hjk; exact h3
          · exact hj j (by omega)
      · simp -dsimp -implicitDefEqProofs (disch := omega) only [↓vcOps_sp 13, ↓vcD_sp 13, VCA, pg_gl, ↓upd_none, Nat.reduceEqDiff, Nat.reduceBEq, Nat.reduceAdd, Nat.reduceSub, Nat.reduceMul, Nat.reduceLT, Nat.reduceLeDiff, ↓reduceIte, reduceCtorEq, rsOf, rootsOf, SOp.rd, SI.rd, SX.rd, rdL, rdO, rdP, okParts, eqCells, okEqCells, fillA, okFill, setAt, implies_true, forall_const, forall_eq, ne_eq, exists_eq_right_right, exists_eq_right, exists_eq_left, exists_eq_left', rootL, eAttr, eInt, eNode, eDoc, eBool, lit_eq]
        have hn : a.nodes = b.nodes := ext_nth h1' (fun j hj' => hj j (by omega))
        have : a = b := by cases a; cases b; simp_all
        first | exact Sub.refl _ | exact ⟨Sub.refl _, by simp [this]⟩
def c7 : SFun := ⟨.seq (.reg [⟨some 2, .box 24 2 (.t 0), none⟩, ⟨some 4, .new 24 2 [.emp, .bool false], none⟩]) (.seq (.reg [⟨some 5, .fldA 0 (.t 2), none⟩, ⟨some 6, .ld 1 false (.t 5), none⟩, ⟨some 7, .fldA 0 (.t 2), none⟩, ⟨some 8, .ld 1 false (.t 7), none⟩, ⟨some 9, .len (.t 8), none⟩, ⟨some 10, .mv (.t 1), none⟩, ⟨some 11, .min2 (.t 9) (.t 10), none⟩, ⟨some 12, .slA 6 (.t 6) none (some (.t 11)), none⟩, ⟨some 13, .fldA 0 (.t 2), none⟩, ⟨none, .st 1 (.t 13) (.t 12), none⟩]) (.seq (.reg [⟨some 14, .ld 2 true (.t 2), none⟩, ⟨none, .st 2 (.t 4) (.t 14), none⟩]) .ret)), [.cell 4 2 true]⟩
theorem hc7 : toSF Tryd.prog {how := [(2, 6)]} Tryd.f7 = some c7 := by kernel_rfl
theorem hn7 : (Tryd.f7.name == "runtime.NumGoroutine") = false := by kernel_rfl
theorem few_ok (d : HDoc) (n : Nat) (sm : DocSm d) : PCalls (Pg G) 7 [.agg (eDoc d), aInt n] (.agg (eDoc ⟨d.nodes.take n, d.quirks⟩)) := fun h => by
  have l1 := sm.len
  refine dcalls_of_vc Tryd.func7 hn7 hc7 (by rw [Tryd.ntmps7]; simp) (by rw [Tryd.ntmps7]; decide) ?_
  simp -dsimp -implicitDefEqProofs (disch := omega) only [VCA, pg_gl, ↓upd_none, Nat.reduceEqDiff, Nat.reduceBEq, Nat.reduceAdd, Nat.reduceSub, Nat.reduceMul, Nat.reduceLT, Nat.reduceLeDiff, ↓reduceIte, reduceCtorEq, rsOf, rootsOf, SOp.rd, SI.rd, SX.rd, rdL, rdO, rdP, okParts, eqCells, okEqCells, fillA, okFill, setAt, implies_true, forall_const, forall_eq, ne_eq, exists_eq_right_right, exists_eq_right, exists_eq_left, exists_eq_left', rootL, eAttr, eInt, eNode, eDoc, eBool, lit_eq, c7, eDoc]
  intro r hr r1 hr1
  have ne : ¬ r = r1 := fun e => hr1.1 e.symm
  have ne' : ¬ r1 = r := hr1.1
  have et : d.nodes.take (min (d.nodes.length : Int) n).toNat = d.nodes.take n := by
    rw [show (min (d.nodes.length : Int) n).toNat = min n d.nodes.length from by omega, List.take_eq_take_iff]; omega
  simp -dsimp -implicitDefEqProofs (disch := omega) only [VCA, pg_gl, ↓upd_none, Nat.reduceEqDiff, Nat.reduceBEq, Nat.reduceAdd, Nat.reduceSub, Nat.reduceMul, Nat.reduceLT, Nat.reduceLeDiff, ↓reduceIte, reduceCtorEq, rsOf, rootsOf, SOp.rd, SI.rd, SX.rd, rdL, rdO, rdP, okParts, eqCells, okEqCells, fillA, okFill, setAt, implies_true, forall_const, forall_eq, ne_eq, exists_eq_right_right, exists_eq_right, exists_eq_left, exists_eq_left', rootL, eAttr, eInt, eNode, eDoc, eBool, lit_eq, ne, ne']
  exact ⟨by omega, ((((Sub.refl h).upd hr).upd hr1.2).upd hr).upd hr1.2, by rw [et]⟩
theorem DocSm.few {d : HDoc} (sm : DocSm d) (n : Nat) : DocSm ⟨d.nodes.take n, d.quirks⟩ := ⟨by have := sm.len; simp; omega, fun x hx => sm.each x (List.mem_of_mem_take hx)⟩
def c11 : SFun := ⟨.seq (.reg [⟨some 2, .boxF 24 2 (.t 0), none⟩, ⟨some 4, .mv (.c .emp), none⟩]) (.seq (.reg [⟨some 7, .mv (.t 1), none⟩, ⟨some 8, .bldR 3 1 [.t 7], none⟩, ⟨some 5, .mv (.t 8), none⟩]) (.seq (.seq (.reg [⟨some 6, .mv (.c (.int .i64 0)), none⟩]) (.block 0 (.loop (.seq (.seq (.reg [⟨some 9, .mv (.t 6), none⟩, ⟨some 10, .fldA 0 (.t 2), none⟩, ⟨some 11, .ld 1 false (.t 10), none⟩, ⟨some 12, .mv (.t 1), none⟩, ⟨some 13, .idxA 6 (.t 11) (.t 12), none⟩, ⟨some 14, .fldA 5 (.t 13), none⟩, ⟨some 15, .ld 1 false (.t 14), none⟩, ⟨some 16, .len (.t 15), none⟩, ⟨some 17, .bin .lss (.t 9) (.t 16), none⟩]) (.cond (.t 17) .skip (.exit 0))) (.seq (.block 1 (.dreg [(⟨some 20, .mv (.t 5), none⟩, none), (⟨some 21, .ld 2 true (.t 2), none⟩, none), (⟨some 22, .fldA 0 (.t 2), none⟩, none), (⟨some 23, .ld 1 false (.t 22), none⟩, none), (⟨some 24, .mv (.t 1), none⟩, none), (⟨some 25, .idxA 6 (.t 23) (.t 24), none⟩, none), (⟨some 26, .fldA 5 (.t 25), none⟩, none), (⟨some 27, .ld 1 false (.t 26), none⟩, none), (⟨some 28, .mv (.t 6), none⟩, none), (⟨some 29, .idxA 1 (.t 27) (.t 28), none⟩, none), (⟨some 30, .ld 1 false (.t 29), none⟩, none), (⟨some 31, .pcall 11 [.t 21, .t 30], none⟩, none), (⟨some 32, .app 3 1 8 (.t 20) (.t 31), none⟩, (some [21, 30, 27, 23])), (⟨some 5, .mv (.t 32), none⟩, (some [21, 30, 27, 23]))])) (.reg [⟨some 18, .mv (.t 6), none⟩, ⟨some 19, .bin .add (.t 18) (.c (.int .i64 1)), none⟩, ⟨some 6, .mv (.t 19), none⟩])))))) (.seq (.reg [⟨some 33, .mv (.t 5), none⟩, ⟨some 4, .mv (.t 33), none⟩]) .ret))), [.tmp 4]⟩
theorem hc11 : toSF Tryd.prog {pure := [11], how := [(8, 2)]} Tryd.f11 = some c11 := by kernel_rfl
theorem hn11 : (Tryd.f11.name == "runtime.NumGoroutine") = false := by kernel_rfl
theorem below_ok (d : HDoc) (V : DV d) (sm : DocSm d) : ∀ n, inD d n → PCalls (Pg G) 11 [.agg (eDoc d), aInt n] (sl eInt (below d n)) := V.down fun n hn ih => PCalls.acc (ty := 3) (sz := 1) fun h => by
  have hl := V.len
  have n0 := hn.1
  have n1 := hn.2
  have e0 : nth d.nodes n.toNat = nd d n := rfl
  have kl := (sm.nd n).kids
  refine dcalls_of_vc Tryd.func11 hn11 hc11 (by rw [Tryd.ntmps11]; simp) (by rw [Tryd.ntmps11]; decide) ?_
  simp -dsimp -implicitDefEqProofs (disch := omega) only [VCA, pg_gl, ↓upd_none, Nat.reduceEqDiff, Nat.reduceBEq, Nat.reduceAdd, Nat.reduceSub, Nat.reduceMul, Nat.reduceLT, Nat.reduceLeDiff, ↓reduceIte, reduceCtorEq, rsOf, rootsOf, SOp.rd, SI.rd, SX.rd, rdL, rdO, rdP, okParts, eqCells, okEqCells, fillA, okFill, setAt, implies_true, forall_const, forall_eq, ne_eq, exists_eq_right_right, exists_eq_right, exists_eq_left, exists_eq_left', rootL, eAttr, eInt, eNode, eDoc, eBool, lit_eq, c11, eDoc]
  intro r hr
  have bl := below_len V hn
  rw [below_eq V hn] at bl ⊢
  simp only [List.length_cons] at bl
  refine LoopVC.intro (fun m e h' => ∃ k : Nat, k ≤ (nd d n).kids.length ∧ m = (nd d n).kids.length - k ∧ e 1 = aInt n ∧ e 2 = .pin (eDoc d) ∧ e 6 = aInt k ∧ Acc h 3 1 ((n :: ((nd d n).kids.take k).flatMap (below d)).map eInt) (e 5) h' ∧ Sim.Sub h h') _ ⟨0, by omega, rfl, rfl, rfl, rfl, Acc.root hr (upd_same _ _ _), (Sub.refl h).upd hr⟩ ?_
  rintro m e h' ⟨k, hk, rfl, he1, he2, he6, A, S⟩
  simp -dsimp -implicitDefEqProofs (disch := omega) only [VCA, pg_gl, ↓upd_none, Nat.reduceEqDiff, Nat.reduceBEq, Nat.reduceAdd, Nat.reduceSub, Nat.reduceMul, Nat.reduceLT, Nat.reduceLeDiff, ↓reduceIte, reduceCtorEq, rsOf, rootsOf, SOp.rd, SI.rd, SX.rd, rdL, rdO, rdP, okParts, eqCells, okEqCells, fillA, okFill, setAt, implies_true, forall_const, forall_eq, ne_eq, exists_eq_right_right, exists_eq_right, exists_eq_left, exists_eq_left', rootL, eAttr, eInt, eNode, eDoc, eBool, lit_eq, he1, he2, he6, eDoc, eNode, e0]
  refine ⟨by omega, Br.dec (fun hlt => ?_) (fun hge => ?_)⟩
  · have hk' : k < (nd d n).kids.length := by omega
    have hB := ih _ (nth_mem' hk')
    unfold eDoc at hB
    have hfl : (((nd d n).kids.take (k + 1)).flatMap (below d)).length ≤ ((nd d n).kids.flatMap (below d)).length := by
      conv => rhs; rw [← List.take_append_drop (k + 1) (nd d n).kids, List.flatMap_append, List.length_append]
      omega
    rw [take_snoc hk', List.flatMap_append, List.length_append] at hfl
    simp only [List.flatMap_cons, List.flatMap_nil, List.append_nil] at hfl
    simp -dsimp -implicitDefEqProofs (disch := omega) only [VCA, pg_gl, ↓upd_none, Nat.reduceEqDiff, Nat.reduceBEq, Nat.reduceAdd, Nat.reduceSub, Nat.reduceMul, Nat.reduceLT, Nat.reduceLeDiff, ↓reduceIte, reduceCtorEq, rsOf, rootsOf, SOp.rd, SI.rd, SX.rd, rdL, rdO, rdP, okParts, eqCells, okEqCells, fillA, okFill, setAt, implies_true, forall_const, forall_eq, ne_eq, exists_eq_right_right, exists_eq_right, exists_eq_left, exists_eq_left', rootL, eAttr, eInt, eNode, eDoc, eBool, lit_eq, he1, he2, he6, eDoc, eNode, e0]
    refine ⟨by omega, by omega, ?_⟩
    refine pcallE.of (hB) ?_; simp -dsimp -implicitDefEqProofs (disch := omega) only [VCA, pg_gl, ↓upd_none, Nat.reduceEqDiff, Nat.reduceBEq, Nat.reduceAdd, Nat.reduceSub, Nat.reduceMul, Nat.reduceLT, Nat.reduceLeDiff, ↓reduceIte, reduceCtorEq, rsOf, rootsOf, SOp.rd, SI.rd, SX.rd, rdL, rdO, rdP, okParts, eqCells, okEqCells, fillA, okFill, setAt, implies_true, forall_const, forall_eq, ne_eq, exists_eq_right_right, exists_eq_right, exists_eq_left, exists_eq_left', rootL, eAttr, eInt, eNode, eDoc, eBool, lit_eq, he1, he2, he6, eDoc, eNode, e0]
    refine A.app S (by simp only [List.length_map, List.length_cons]; omega) (by simp only [List.length_map, List.length_cons]; omega) fun a' h'' A' S' => ?_
    simp -dsimp -implicitDefEqProofs (disch := omega) only [VCA, pg_gl, ↓upd_none, Nat.reduceEqDiff, Nat.reduceBEq, Nat.reduceAdd, Nat.reduceSub, Nat.reduceMul, Nat.reduceLT, Nat.reduceLeDiff, ↓reduceIte, reduceCtorEq, rsOf, rootsOf, SOp.rd, SI.rd, SX.rd, rdL, rdO, rdP, okParts, eqCells, okEqCells, fillA, okFill, setAt, implies_true, forall_const, forall_eq, ne_eq, exists_eq_right_right, exists_eq_right, exists_eq_left, exists_eq_left', rootL, eAttr, eInt, eNode, eDoc, eBool, lit_eq, he1, he2, he6]
    refine ⟨_, by omega, k + 1, by omega, rfl, by omega, ?_, S'⟩
    rw [take_snoc hk', List.flatMap_append]
    simpa [eInt] using A'
  · obtain rfl : k = (nd d n).kids.length := by omega
    simp -dsimp -implicitDefEqProofs (disch := omega) only [VCA, pg_gl, ↓upd_none, Nat.reduceEqDiff, Nat.reduceBEq, Nat.reduceAdd, Nat.reduceSub, Nat.reduceMul, Nat.reduceLT, Nat.reduceLeDiff, ↓reduceIte, reduceCtorEq, rsOf, rootsOf, SOp.rd, SI.rd, SX.rd, rdL, rdO, rdP, okParts, eqCells, okEqCells, fillA, okFill, setAt, implies_true, forall_const, forall_eq, ne_eq, exists_eq_right_right, exists_eq_right, exists_eq_left, exists_eq_left', rootL, eAttr, eInt, eNode, eDoc, eBool, lit_eq, he6]
    rw [List.take_length] at A
    exact ⟨_, Sub.refl _, A, S⟩
end Go.Proofs.K
end
section
set_option linter.unusedSimpArgs false
set_option linter.unusedVariables false
namespace Go.Proofs.K
open Go Go.Sim Go.Proofs
def setN (d : HDoc) (n : Int) (x : HNode) : HDoc := ⟨d.nodes.set n.toNat x, d.quirks⟩
section
variable {d : HDoc}
theorem setN_len (n : Int) (x : HNode) : (setN d n x).nodes.length = d.nodes.length := by simp [setN]
theorem upF_congr {d' : HDoc} (V : DV d) (h : ∀ m, inD d m → (nd d' m).parent = (nd d m).parent) : ∀ (f : Nat) (n : Int), inD d n → upF f d' n = upF f d n
  | 0, _, _ => rfl
  | f + 1, n, hn => by
    unfold upF
    rw [h n hn]
    by_cases hp : 0 ≤ (nd d n).parent
    · rw [if_pos hp, if_pos hp, upF_congr V h f _ (V.par_in hn hp).1]
    · rw [if_neg hp, if_neg hp]
def addN (d : HDoc) (x : HNode) : HDoc := ⟨d.nodes ++ [x], d.quirks⟩
theorem addN_len (x : HNode) : (addN d x).nodes.length = d.nodes.length + 1 := by simp [addN]
theorem nd_addN {x : HNode} {m : Int} (hm : inD d m) : nd (addN d x) m = nd d m := by
  have h := hm.nat
  unfold nd addN nth
  rw [List.getD_eq_getElem?_getD, List.getD_eq_getElem?_getD, List.getElem?_append_left h.1]
theorem nd_addN_new (x : HNode) : nd (addN d x) (d.nodes.length : Int) = x := by
  unfold nd addN nth
  rw [List.getD_eq_getElem?_getD]; simp
theorem inD_addN {x : HNode} {m : Int} : inD (addN d x) m ↔ inD d m ∨ m = d.nodes.length := by unfold inD; rw [addN_len]; omega
theorem up_addN (V : DV d) {x : HNode} {m : Int} (hm : inD d m) : up (addN d x) m = up d m := by
  have h1 : upF (d.nodes.length + 1 + 1) (addN d x) m = upF (d.nodes.length + 1 + 1) d m := upF_congr V (fun k hk => by rw [nd_addN hk]) _ m hm
  have h2 : up (addN d x) m = upF (d.nodes.length + 1 + 1) (addN d x) m := by unfold up; rw [addN_len]
  rw [h2, h1]
  have h3 := V.fin m hm
  exact upF_mono (f := d.nodes.length + 1) (by unfold up at h3; omega) (by omega)
theorem DV.add (V : DV d) {x : HNode} (hp : x.parent = -1) (hc : x.kids = []) (h1 : x.kind ≠ 1) : DV (addN d x) ↔ nodeE x = 0 ∧ d.nodes.length < 200 := by
  have new := nd_addN_new (d := d) x
  have inew : inD (addN d x) (d.nodes.length : Int) := inD_addN.2 (.inr rfl)
  constructor
  · intro W
    have h2 := W.node _ inew
    have h3 := W.len
    rw [new] at h2
    rw [addN_len] at h3
    exact ⟨h2, by omega⟩
  · rintro ⟨hx, hl⟩
    have z := V.pos
    have upn : up (addN d x) (d.nodes.length : Int) = 0 := by
      unfold up upF
      rw [new, if_neg (by omega)]
    refine ⟨by rw [addN_len]; omega, by rw [addN_len]; omega, fun m hm => ?_, fun m hm => ?_, fun m hm k hk' => ?_, fun m hm => ?_, fun k hk' => ?_, fun m hm => ?_, ?_, fun m hm => ?_, fun m hm => ?_⟩
    · rcases inD_addN.1 hm with hm | rfl
      · rw [nd_addN hm]; exact V.kind m hm
      · rw [new]; constructor
        · intro h; exact absurd h h1
        · intro h; omega
    · rcases inD_addN.1 hm with hm | rfl
      · rw [nd_addN hm]; exact V.node m hm
      · rw [new]; exact hx
    · rcases inD_addN.1 hm with hm | rfl
      · rw [nd_addN hm] at hk'
        obtain ⟨g1, g2⟩ := V.kid m hm k hk'
        exact ⟨inD_addN.2 (.inl g1), by rw [nd_addN g1]; exact g2⟩
      · rw [new, hc] at hk'; cases hk'
    · rcases inD_addN.1 hm with hm | rfl
      · rw [nd_addN hm]; exact V.nodup m hm
      · rw [new, hc]; exact .nil
    · rw [nd_addN V.zero] at hk'
      rw [nd_addN (V.kid 0 V.zero k hk').1]; exact V.top k hk'
    · rcases inD_addN.1 hm with hm | rfl
      · rw [nd_addN hm]
        rcases V.par m hm with h | ⟨g1, g2⟩
        · exact .inl h
        · exact .inr ⟨inD_addN.2 (.inl g1), by rw [nd_addN g1]; exact g2⟩
      · rw [new]; exact .inl hp
    · rw [nd_addN V.zero]; exact V.root
    · rcases inD_addN.1 hm with hm | rfl
      · rw [up_addN V hm, addN_len]; have := V.fin m hm; omega
      · rw [upn]; omega
    · rcases inD_addN.1 hm with hm | rfl
      · rw [up_addN V hm]; exact V.deep m hm
      · rw [upn]; omega
def hung (d : HDoc) (at' to : Int) (i : Nat) : HDoc := setN (setN d at' { nd d at' with kids := (nd d at').kids.take i ++ to :: (nd d at').kids.drop i }) to { nd d to with parent := at' }
section
variable {a t : Int} {i : Nat}
end
def cutN (d : HDoc) (n : Int) (i : Nat) : HDoc := setN (setN d (nd d n).parent { nd d (nd d n).parent with kids := (nd d (nd d n).parent).kids.take i ++ (nd d (nd d n).parent).kids.drop (i + 1) }) n { nd d n with parent := -1 }
section
variable {n : Int} {i : Nat}
end
end
end Go.Proofs.K
end
section
set_option linter.unusedSimpArgs false
set_option linter.unusedVariables false
namespace Go.Proofs.K
open Go Go.Sim Go.Proofs
structure HEdit where
  do' : Int
  at' : Int
  to : Int
  before : Int
  name : List UInt8
  value : List UInt8
  node : HNode
deriving DecidableEq, Inhabited
def eEdit (e : HEdit) : List AVal := [aInt e.do', aInt e.at', aInt e.to, aInt e.before, .str e.name, .str e.value, aInt e.node.kind, .str e.node.name, sl eAttr e.node.attrs, .str e.node.text, aInt e.node.parent, sl eInt e.node.kids]
instance : LenE eEdit 12 := ⟨fun _ => rfl⟩
def eE0 (e : HEdit) : List AVal := [aInt e.do', aInt e.at', aInt e.to, aInt e.before, .str e.name, .str e.value, aInt e.node.kind, .str e.node.name, .emp, .str e.node.text, aInt e.node.parent, .emp]
structure EditSm (e : HEdit) : Prop where
  name : e.name.length ≤ 1073741824
  value : e.value.length ≤ 1073741824
  node : NodeSm e.node
def setAttr (l : List HAttr) (name value : List UInt8) : List HAttr := if 0 ≤ attrAt l name then l.set (attrAt l name).toNat ⟨name, value⟩ else l ++ [⟨name, value⟩]
def dropAttr (l : List HAttr) (name : List UInt8) : List HAttr := l.take (attrAt l name).toNat ++ l.drop ((attrAt l name).toNat + 1)
theorem attrAt_mem (l : List HAttr) (name : List UInt8) : 0 ≤ attrAt l name ↔ name ∈ l.map (·.name) := by
  have := idxM_any (fun a : HAttr => a.name == name) l
  unfold attrAt
  rw [← decide_eq_true_iff (p := 0 ≤ idxM (fun a : HAttr => a.name == name) l), this, List.any_eq_true, List.mem_map]
  constructor
  · rintro ⟨a, h1, h2⟩; exact ⟨a, h1, by simpa using h2⟩
  · rintro ⟨a, h1, h2⟩; exact ⟨a, h1, by simpa using h2⟩
theorem attrAt_spec (l : List HAttr) (name : List UInt8) (h : 0 ≤ attrAt l name) : (attrAt l name).toNat < l.length ∧ (nth l (attrAt l name).toNat).name = name ∧ ((attrAt l name).toNat : Int) = attrAt l name := by
  unfold attrAt idxM at *
  cases hf : l.findIdx? (fun a : HAttr => a.name == name) with
  | none => rw [hf] at h; simp at h
  | some i =>
    simp only [hf] at h ⊢
    rw [List.findIdx?_eq_some_iff_getElem] at hf
    obtain ⟨h1, h2, _⟩ := hf
    refine ⟨by simpa using h1, ?_, by simp⟩
    have : nth l i = l[i] := by unfold nth; rw [List.getD_eq_getElem?_getD, List.getElem?_eq_getElem h1]; rfl
    show (nth l ((i : Int)).toNat).name = name
    rw [show ((i : Int)).toNat = i by simp, this]
    simpa using h2
theorem attrsE_iff (l : List HAttr) : attrsE l = 0 ↔ l.length ≤ 12 ∧ (∀ a ∈ l, nameOK false a.name = true ∧ a.value.length ≤ 400) ∧ (l.map (·.name)).Nodup := by
  have key : ∀ i, i < l.length → (attrE l i = 0 ↔ nameOK false (nth l i).name = true ∧ (nth l i).value.length ≤ 400 ∧ nth (l.map (·.name)) i ∉ (l.map (·.name)).take i) := fun i hi => by
    have hn : nth (l.map (·.name)) i = (nth l i).name := by
      unfold nth; rw [List.getD_eq_getElem?_getD, List.getD_eq_getElem?_getD, List.getElem?_map, List.getElem?_eq_getElem hi]; rfl
    have hm := attrAt_mem (l.take i) (nth l i).name
    rw [List.map_take] at hm
    rw [hn, ← hm]
    unfold attrE
    constructor
    · intro h
      split at h
      · omega
      · rename_i h1
        split at h
        · omega
        · rename_i h2
          split at h
          · omega
          · rename_i h3
            exact ⟨by simpa using h1, by omega, h3⟩
    · rintro ⟨h1, h2, h3⟩
      rw [if_neg (by simp [h1]), if_neg (by omega), if_neg h3]
  unfold attrsE
  constructor
  · intro h
    split at h
    · omega
    · rename_i hl
      have h := fe_zero h
      refine ⟨by omega, fun a ha => ?_, nodup_of_take fun k hk => ?_⟩
      · obtain ⟨k, hk, rfl⟩ := mem_nth ha
        have := (key k hk).1 (h k hk)
        exact ⟨this.1, this.2.1⟩
      · rw [List.length_map] at hk
        exact ((key k hk).1 (h k hk)).2.2
  · rintro ⟨h1, h2, h3⟩
    rw [if_neg (by omega)]
    refine fe_none fun k hk => (key k hk).2 ⟨(h2 _ (nth_mem' hk)).1, (h2 _ (nth_mem' hk)).2, take_of_nodup h3 (by rw [List.length_map]; exact hk)⟩
theorem nodeE_iff (x : HNode) : nodeE x = 0 ↔ (1 ≤ x.kind ∧ x.kind ≤ 5) ∧ bareM x = true ∧ (x.kind = 2 → nameOK true x.name = true) ∧ attrsE x.attrs = 0 ∧ x.text.length ≤ 400 ∧ x.name.length ≤ 400 := by
  unfold nodeE
  constructor
  · intro h
    split at h
    · omega
    · rename_i h1
      simp only [not_or] at h1
      split at h
      · omega
      · rename_i h2
        split at h
        · rename_i h3; exact absurd h h3
        · rename_i h3
          split at h
          · omega
          · rename_i h4
            refine ⟨by omega, by simpa using h1.2.2, fun h5 => ?_, by simpa using h3, by omega, by omega⟩
            cases hn : nameOK true x.name with
            | true => rfl
            | false => exact absurd ⟨h5, hn⟩ h2
  · rintro ⟨h1, h2, h3, h4, h5, h6⟩
    rw [if_neg (by rw [h2]; simp; omega), if_neg (by rintro ⟨h7, h8⟩; rw [h3 h7] at h8; cases h8), if_neg (by simpa using h4), if_neg (by omega)]
def lowF : Nat → HDoc → Int → Nat
  | 0, _, _ => 0
  | f + 1, d, n => ((nd d n).kids.map fun k => lowF f d k + 1).foldl max 0
def low (d : HDoc) (n : Int) : Nat := lowF (41 - up d n) d n
theorem foldl_max (l : List Nat) (c : Nat) : ∀ a, l.foldl max a ≤ c ↔ a ≤ c ∧ ∀ x ∈ l, x ≤ c := by
  induction l with
  | nil => intro a; simp
  | cons y l ih =>
    intro a
    rw [List.foldl_cons, ih]
    constructor
    · rintro ⟨h1, h2⟩
      refine ⟨by omega, fun x hx => ?_⟩
      rcases List.mem_cons.1 hx with rfl | hx
      · omega
      · exact h2 x hx
    · rintro ⟨h1, h2⟩
      have := h2 y List.mem_cons_self
      exact ⟨by omega, fun x hx => h2 x (List.mem_cons_of_mem _ hx)⟩
section
variable {d : HDoc}
theorem low_eq (V : DV d) {n : Int} (hn : inD d n) : low d n = ((nd d n).kids.map fun k => low d k + 1).foldl max 0 := by
  have h40 := V.deep n hn
  obtain ⟨f, hf⟩ : ∃ f, 41 - up d n = f + 1 := ⟨40 - up d n, by omega⟩
  have e : low d n = lowF (f + 1) d n := by unfold low; rw [hf]
  rw [e, lowF]
  congr 1
  refine List.map_congr_left fun k hk => ?_
  have hu := V.up_kid hn hk
  show _ = lowF (41 - up d k) d k + 1
  rw [show 41 - up d k = f by omega]
theorem low_le (V : DV d) : ∀ n, inD d n → ∀ c, low d n ≤ c ↔ ∀ m ∈ below d n, up d m ≤ up d n + c := V.down fun n hn ih c => by
  rw [low_eq V hn, foldl_max, below_eq V hn]
  constructor
  · rintro ⟨_, h⟩ m hm
    rcases List.mem_cons.1 hm with rfl | hm
    · omega
    · obtain ⟨k, hk, hm⟩ := List.mem_flatMap.1 hm
      have h1 := h _ (List.mem_map.2 ⟨k, hk, rfl⟩)
      have h2 := (ih k hk (c - 1)).1 (by omega) m hm
      have := V.up_kid hn hk
      omega
  · intro h
    refine ⟨by omega, fun x hx => ?_⟩
    obtain ⟨k, hk, rfl⟩ := List.mem_map.1 hx
    have hki := (V.kid n hn k hk).1
    have hu := V.up_kid hn hk
    have h0 := h k (List.mem_cons_of_mem _ (List.mem_flatMap.2 ⟨k, hk, below_self V hki⟩))
    have := (ih k hk (c - 1)).2 fun m hm => by
      have := h m (List.mem_cons_of_mem _ (List.mem_flatMap.2 ⟨k, hk, hm⟩))
      omega
    omega
theorem low_40 (V : DV d) {n : Int} (hn : inD d n) : low d n ≤ 40 := (low_le V n hn 40).2 fun m hm => by have := V.deep m (below_in V n hn m hm); omega
end
def insAt (d : HDoc) (e : HEdit) : Nat := if e.before = -1 then (nd d e.at').kids.length else (idxM (· == e.before) (nd d e.at').kids).toNat
def editE (d : HDoc) (e : HEdit) : Int :=
  if e.do' = 1 then (if ¬ inD d e.at' then 5 else if (nd d e.at').kind ≠ 2 then 7 else if nameOK false e.name = false then 3
    else if 400 < e.value.length ∨ (¬ 0 ≤ attrAt (nd d e.at').attrs e.name ∧ (nd d e.at').attrs.length = 12) then 2 else 0)
  else if e.do' = 2 then (if ¬ inD d e.at' then 5 else if (nd d e.at').kind ≠ 2 then 7 else if ¬ 0 ≤ attrAt (nd d e.at').attrs e.name then 5 else 0)
  else if e.do' = 3 then (if ¬ inD d e.at' then 5 else if (nd d e.at').kind ≠ 3 ∧ (nd d e.at').kind ≠ 4 then 7 else if 400 < e.value.length then 2 else 0)
  else if e.do' = 4 then (if e.node.kids ≠ [] then 3 else if e.node.kind = 1 then 7 else if nodeE e.node ≠ 0 then nodeE e.node else if d.nodes.length = 200 then 2 else 0)
  else if e.do' = 5 then (if ¬ inD d e.at' ∨ ¬ inD d e.to then 5
    else if ¬ ((nd d e.at').kind = 1 ∨ (nd d e.at').kind = 2) ∨ (nd d e.to).kind = 1 ∨ ((nd d e.at').kind = 1 ∧ (nd d e.to).kind = 3) then 7
    else if 0 ≤ (nd d e.to).parent then 9 else if e.before ≠ -1 ∧ e.before ∉ (nd d e.at').kids then 5 else if e.to ∈ chain d e.at' then 8
    else if 40 < up d e.at' + 1 + low d e.to then 2 else 0)
  else if e.do' = 6 then (if ¬ inD d e.at' then 5 else if (nd d e.at').kind = 1 then 7 else if ¬ 0 ≤ (nd d e.at').parent then 5 else 0)
  else 1
def madeM (x : HNode) : HNode := ⟨x.kind, x.name, x.attrs, x.text, -1, []⟩
def editD (d : HDoc) (e : HEdit) : HDoc :=
  if e.do' = 1 then setN d e.at' { nd d e.at' with attrs := setAttr (nd d e.at').attrs e.name e.value }
  else if e.do' = 2 then setN d e.at' { nd d e.at' with attrs := dropAttr (nd d e.at').attrs e.name }
  else if e.do' = 3 then setN d e.at' { nd d e.at' with text := e.value }
  else if e.do' = 4 then addN d (madeM e.node)
  else if e.do' = 5 then hung d e.at' e.to (insAt d e)
  else cutN d e.at' (idxM (· == e.at') (nd d (nd d e.at').parent).kids).toNat
def editN (d : HDoc) (e : HEdit) : Int := if e.do' = 4 then d.nodes.length else 0
section
variable {d : HDoc}
theorem idxM_leK (l : List Int) (x : Int) : -1 ≤ idxM (· == x) l ∧ idxM (· == x) l < l.length ∧ (0 ≤ idxM (· == x) l → nth l (idxM (· == x) l).toNat = x) := by
  unfold idxM
  split
  · rename_i i hi
    rw [List.findIdx?_eq_some_iff_getElem] at hi
    obtain ⟨h1, h2, _⟩ := hi
    refine ⟨by omega, by omega, fun _ => ?_⟩
    have : nth l i = l[i] := by unfold nth; rw [List.getD_eq_getElem?_getD, List.getElem?_eq_getElem h1]; rfl
    rw [Int.toNat_natCast, this]; simpa using h2
  · refine ⟨by omega, by omega, fun h => by omega⟩
theorem idx_at {l : List Int} {x : Int} (h : x ∈ l) : (idxM (· == x) l).toNat < l.length ∧ nth l (idxM (· == x) l).toNat = x := by
  have h0 := (idx_mem l x).2 h
  have := idxM_leK l x
  exact ⟨by omega, this.2.2 h0⟩
end
end Go.Proofs.K
end
section
set_option linter.unusedSimpArgs false
set_option linter.unusedVariables false
namespace Go.Proofs.K
open Go Go.Sim Go.Proofs
variable {G : Glob}
def rootOf : AVal → Option Nat
  | .osl r _ _ _ => some r
  | _ => none
def OwnS (h : Heap) (ty sz : Nat) (cells : List (List AVal)) (a : AVal) : Prop :=
  (cells = [] ∧ a = .emp) ∨ (a = .slc cells ∧ ∀ e ∈ cells, e.length = sz) ∨ ∃ r es, a = .osl r sz 0 cells.length ∧ h r = some ⟨ty, sz, es⟩ ∧ cells.length ≤ es.length ∧ es.take cells.length = cells
def Mut (a : AVal) : Prop := ∀ es, a ≠ .slc es
theorem OwnS.live {h : Heap} {ty sz : Nat} {cells : List (List AVal)} {a : AVal} (O : OwnS h ty sz cells a) (M : Mut a) : (cells = [] ∧ a = .emp) ∨ ∃ r es, a = .osl r sz 0 cells.length ∧ h r = some ⟨ty, sz, es⟩ ∧ cells.length ≤ es.length ∧ es.take cells.length = cells := by
  rcases O with O | O | O
  · exact .inl O
  · exact absurd O.1 (M _)
  · exact .inr O
theorem OwnS.keep {h h2 : Heap} {ty sz : Nat} {cells : List (List AVal)} {a : AVal} (O : OwnS h ty sz cells a) (hk : ∀ r o, rootOf a = some r → h r = some o → h2 r = some o) : OwnS h2 ty sz cells a := by
  rcases O with O | O | ⟨r, es, ha, hr, h1, h2⟩
  · exact .inl O
  · exact .inr (.inl O)
  · exact .inr (.inr ⟨r, es, ha, hk r _ (by rw [ha]; rfl) hr, h1, h2⟩)
theorem OwnS.of_acc {h h' : Heap} {ty sz : Nat} {cells : List (List AVal)} {a : AVal} (A : Acc h ty sz cells a h') : OwnS h' ty sz cells a ∧ (∀ r, rootOf a = some r → h r = none) ∧ Mut a := by
  rcases A with ⟨h1, h2⟩ | ⟨r, h0, h1, h2⟩
  · exact ⟨.inl ⟨h1, h2⟩, fun r hr => by (rw [h2] at hr; cases hr), fun es e => by rw [h2] at e; cases e⟩
  · exact ⟨.inr (.inr ⟨r, _, h2, h1, Nat.le_refl _, by rw [List.take_length]⟩), fun r' hr => by (rw [h2] at hr; cases hr; exact h0), fun es e => by rw [h2] at e; cases e⟩
theorem OwnS.len {h : Heap} {ty sz : Nat} {cells : List (List AVal)} {a : AVal} (O : OwnS h ty sz cells a) : aLen a = aInt cells.length ∧ okLen a = True := by
  rcases O with ⟨h1, h2⟩ | ⟨h2, _⟩ | ⟨r, es, ha, _⟩
  · subst h1; subst h2; exact ⟨rfl, rfl⟩
  · subst h2; exact ⟨rfl, rfl⟩
  · subst ha; exact ⟨rfl, rfl⟩
theorem OwnS.isV {h : Heap} {ty sz : Nat} {cells : List (List AVal)} {a : AVal} (O : OwnS h ty sz cells a) : isV a = true ∧ cellsOf a = [a] := by
  rcases O with ⟨h1, h2⟩ | ⟨h2, _⟩ | ⟨r, es, ha, _⟩
  · subst h2; exact ⟨rfl, rfl⟩
  · subst h2; exact ⟨rfl, rfl⟩
  · subst ha; exact ⟨rfl, rfl⟩
theorem OwnS.root {h : Heap} {ty sz : Nat} {cells : List (List AVal)} {a : AVal} (O : OwnS h ty sz cells a) {r : Nat} (hr : rootOf a = some r) : ∃ o, h r = some o := by
  rcases O with ⟨h1, h2⟩ | ⟨h2, _⟩ | ⟨r', es, ha, h1, _⟩
  · subst h2; cases hr
  · subst h2; cases hr
  · subst ha; cases hr; exact ⟨_, h1⟩
theorem OwnS.vw {α : Type} [Inhabited α] {enc : α → List AVal} {h : Heap} {ty sz : Nat} [LenE enc sz] {l : List α} {a : AVal} (O : OwnS h ty sz (l.map enc) a) : Vw h a (sl enc l) := by
  rcases O with ⟨h1, h2⟩ | ⟨h2, _⟩ | ⟨r, es, ha, hr, h1, h2⟩
  · have : l = [] := by simpa using h1
    subst this; subst h2; exact .emp
  · subst h2; exact .refl _
  · subst ha
    refine .osl r sz 0 _ ⟨ty, sz, es⟩ (l.map enc) hr (by simpa using h1) rfl (fun f hf => by obtain ⟨x, _, rfl⟩ := List.mem_map.1 hf; exact LenE.len x) fun k j e f x y he hf hx hy => ?_
    have hk : k < (l.map enc).length := (List.getElem?_eq_some_iff.1 hf).1
    simp only [Nat.zero_add] at he
    have he' : (es.take (l.map enc).length)[k]? = some e := by rw [List.getElem?_take, if_pos hk]; exact he
    rw [h2] at he'
    rw [he'] at hf
    cases hf
    rw [hx] at hy; cases hy; exact .refl _
def rowA (x : HNode) (a k : AVal) : List AVal := [aInt x.kind, .str x.name, a, .str x.text, aInt x.parent, k]
def rowsA (d : HDoc) (sl : Nat → AVal) : List (List AVal) := (List.range d.nodes.length).map fun i => rowA (nth d.nodes i) (sl (2 * i)) (sl (2 * i + 1))
theorem rowsA_len (d : HDoc) (sl : Nat → AVal) : (rowsA d sl).length = d.nodes.length := by simp [rowsA]
theorem rowsA_get {d : HDoc} {sl : Nat → AVal} {i : Nat} (hi : i < d.nodes.length) : (rowsA d sl).getD i [] = rowA (nth d.nodes i) (sl (2 * i)) (sl (2 * i + 1)) := by
  rw [List.getD_eq_getElem?_getD, rowsA, List.getElem?_map, List.getElem?_range hi]; rfl
structure Dw (X : List Nat) (h0 h : Heap) (rN : Nat) (d : HDoc) (sl : Nat → AVal) : Prop where
  sub : Sim.Sub h0 h
  nodes : h rN = some ⟨.t 29, 6, rowsA d sl⟩
  new : h0 rN = none ∧ rN ∉ X
  own : ∀ i, i < d.nodes.length → OwnS h 71 2 ((nth d.nodes i).attrs.map eAttr) (sl (2 * i)) ∧ OwnS h 3 1 ((nth d.nodes i).kids.map eInt) (sl (2 * i + 1))
  fresh : ∀ k, k < 2 * d.nodes.length → ∀ r, rootOf (sl k) = some r → h0 r = none ∧ r ≠ rN ∧ r ∉ X
  sep : ∀ j k, j < 2 * d.nodes.length → k < 2 * d.nodes.length → j ≠ k → ∀ r, rootOf (sl j) = some r → rootOf (sl k) ≠ some r
  keep : ∀ r ∈ X, ∃ o, h r = some o
theorem Dw.slot {X : List Nat} {h0 h : Heap} {rN : Nat} {d : HDoc} {sl : Nat → AVal} (E : Dw X h0 h rN d sl) {k : Nat} (hk : k < 2 * d.nodes.length) {r : Nat} (hr : rootOf (sl k) = some r) : ∃ o, h r = some o := by
  have hi : k / 2 < d.nodes.length := by omega
  obtain ⟨h1, h2⟩ := E.own _ hi
  rcases (by omega : k = 2 * (k / 2) ∨ k = 2 * (k / 2) + 1) with h | h
  · rw [h] at hr; exact h1.root hr
  · rw [h] at hr; exact h2.root hr
theorem Dw.put {X : List Nat} {h0 h h2 : Heap} {rN : Nat} {d : HDoc} {sl sl' : Nat → AVal} (E : Dw X h0 h rN d sl) {i : Nat} (hi : i < d.nodes.length) {x' : HNode}
    (hs : ∀ j, j ≠ 2 * i → j ≠ 2 * i + 1 → sl' j = sl j)
    (hN : h2 rN = some ⟨.t 29, 6, (rowsA d sl).set i (rowA x' (sl' (2 * i)) (sl' (2 * i + 1)))⟩)
    (hk : ∀ r o, h r = some o → r ≠ rN → rootOf (sl (2 * i)) ≠ some r → rootOf (sl (2 * i + 1)) ≠ some r → h2 r = some o)
    (hA : OwnS h2 71 2 (x'.attrs.map eAttr) (sl' (2 * i))) (hK : OwnS h2 3 1 (x'.kids.map eInt) (sl' (2 * i + 1)))
    (hf : ∀ r, rootOf (sl' (2 * i)) = some r ∨ rootOf (sl' (2 * i + 1)) = some r → rootOf (sl (2 * i)) = some r ∨ rootOf (sl (2 * i + 1)) = some r ∨ h r = none)
    (hd : ∀ r, rootOf (sl' (2 * i)) = some r → rootOf (sl' (2 * i + 1)) ≠ some r) : Dw X h0 h2 rN ⟨d.nodes.set i x', d.quirks⟩ sl' := by
  have hl : (d.nodes.set i x').length = d.nodes.length := by simp
  have fr : ∀ r, rootOf (sl' (2 * i)) = some r ∨ rootOf (sl' (2 * i + 1)) = some r → h0 r = none ∧ r ≠ rN ∧ r ∉ X := fun r hr => by
    rcases hf r hr with h | h | h
    · exact E.fresh _ (by omega) r h
    · exact E.fresh _ (by omega) r h
    · refine ⟨E.sub.none h, fun e => ?_, fun hx => ?_⟩
      · rw [e, E.nodes] at h; cases h
      · obtain ⟨o, ho⟩ := E.keep r hx; rw [h] at ho; cases ho
  have oth : ∀ j, j < 2 * d.nodes.length → j ≠ 2 * i → j ≠ 2 * i + 1 → ∀ r, rootOf (sl j) = some r → rootOf (sl' (2 * i)) ≠ some r ∧ rootOf (sl' (2 * i + 1)) ≠ some r := fun j hj h1 h2 r hr => by
    have key : ¬ (rootOf (sl (2 * i)) = some r ∨ rootOf (sl (2 * i + 1)) = some r ∨ h r = none) := by
      rintro (h | h | h)
      · exact E.sep j (2 * i) hj (by omega) h1 r hr h
      · exact E.sep j (2 * i + 1) hj (by omega) h2 r hr h
      · obtain ⟨o, ho⟩ := E.slot hj hr; rw [h] at ho; cases ho
    exact ⟨fun h => key (hf r (.inl h)), fun h => key (hf r (.inr h))⟩
  refine ⟨fun t o ht => ?_, ?_, E.new, fun j hj => ?_, fun k hk' r hr => ?_, fun j k hj hk' hne r hr => ?_, fun r hr => ?_⟩
  · have hne : t ≠ rN := fun e => by rw [e, E.new.1] at ht; cases ht
    refine hk t o (E.sub t o ht) hne (fun h => ?_) (fun h => ?_)
    · have := (E.fresh _ (by omega) t h).1; rw [this] at ht; cases ht
    · have := (E.fresh _ (by omega) t h).1; rw [this] at ht; cases ht
  · rw [hN]
    congr 2
    apply List.ext_getElem?
    intro j
    rw [List.getElem?_set]
    show _ = (rowsA ⟨d.nodes.set i x', d.quirks⟩ sl')[j]?
    unfold rowsA
    simp only [hl]
    by_cases hij : i = j
    · subst hij
      rw [if_pos rfl, if_pos (by simpa using hi), List.getElem?_map, List.getElem?_range hi, Option.map_some, nth_set _ _ _ _ hi, if_pos rfl]
    · rw [if_neg hij]
      by_cases hj : j < d.nodes.length
      · rw [List.getElem?_map, List.getElem?_map, List.getElem?_range hj, Option.map_some, Option.map_some, nth_set _ _ _ _ hi, if_neg (fun e => hij e.symm), hs (2 * j) (by omega) (by omega), hs (2 * j + 1) (by omega) (by omega)]
      · rw [List.getElem?_eq_none (by simp; omega), List.getElem?_eq_none (by simp; omega)]
  · simp only [hl] at hj
    show OwnS h2 _ _ ((nth (d.nodes.set i x') j).attrs.map eAttr) _ ∧ OwnS h2 _ _ ((nth (d.nodes.set i x') j).kids.map eInt) _
    rw [nth_set _ _ _ _ hi]
    by_cases hij : j = i
    · subst hij; rw [if_pos rfl]; exact ⟨hA, hK⟩
    · rw [if_neg hij, hs (2 * j) (by omega) (by omega), hs (2 * j + 1) (by omega) (by omega)]
      obtain ⟨g1, g2⟩ := E.own j hj
      exact ⟨g1.keep fun r o hr ho => hk r o ho (E.fresh _ (by omega) r hr).2.1 (fun h => E.sep (2 * j) (2 * i) (by omega) (by omega) (by omega) r hr h) (fun h => E.sep (2 * j) (2 * i + 1) (by omega) (by omega) (by omega) r hr h),
        g2.keep fun r o hr ho => hk r o ho (E.fresh _ (by omega) r hr).2.1 (fun h => E.sep (2 * j + 1) (2 * i) (by omega) (by omega) (by omega) r hr h) (fun h => E.sep (2 * j + 1) (2 * i + 1) (by omega) (by omega) (by omega) r hr h)⟩
  · simp only [hl] at hk'
    by_cases e1 : k = 2 * i
    · subst e1; exact fr r (.inl hr)
    · by_cases e2 : k = 2 * i + 1
      · subst e2; exact fr r (.inr hr)
      · rw [hs k e1 e2] at hr; exact E.fresh k hk' r hr
  · simp only [hl] at hj hk'
    by_cases j1 : j = 2 * i <;> by_cases j2 : j = 2 * i + 1 <;> by_cases k1 : k = 2 * i <;> by_cases k2 : k = 2 * i + 1
    all_goals first
      | (exfalso; omega)
      | (subst j1; subst k2; exact hd r hr)
      | (subst j2; subst k1; exact fun h => hd r h hr)
      | (subst j1; rw [hs k k1 k2]; exact fun h => (oth k hk' k1 k2 r h).1 hr)
      | (subst j2; rw [hs k k1 k2]; exact fun h => (oth k hk' k1 k2 r h).2 hr)
      | (subst k1; rw [hs j j1 j2] at hr; exact (oth j hj j1 j2 r hr).1)
      | (subst k2; rw [hs j j1 j2] at hr; exact (oth j hj j1 j2 r hr).2)
      | (rw [hs j j1 j2] at hr; rw [hs k k1 k2]; exact E.sep j k hj hk' hne r hr)
  · obtain ⟨o, ho⟩ := E.keep r hr
    refine ⟨o, hk r o ho (fun e => E.new.2 (e ▸ hr)) (fun h => ?_) (fun h => ?_)⟩
    · exact (E.fresh _ (by omega) r h).2.2 hr
    · exact (E.fresh _ (by omega) r h).2.2 hr
theorem Dw.vw {X : List Nat} {h0 h : Heap} {rN : Nat} {d : HDoc} {sl' : Nat → AVal} (E : Dw X h0 h rN d sl') : Vw h (.osl rN 6 0 d.nodes.length) (sl eNode d.nodes) := by
  refine Vw.osl0 E.nodes (by simp) (by rw [rowsA_len]; exact Nat.le_refl _) (fun f hf => by obtain ⟨x, _, rfl⟩ := List.mem_map.1 hf; rfl) ?_
  show F2 (F2 (Vw h)) ((rowsA d sl').take d.nodes.length) (d.nodes.map eNode)
  rw [List.take_of_length_le (by rw [rowsA_len]; exact Nat.le_refl _)]
  have key : ∀ (i : Nat), i < d.nodes.length → F2 (Vw h) (rowA (nth d.nodes i) (sl' (2 * i)) (sl' (2 * i + 1))) (eNode (nth d.nodes i)) := fun i hi => by
    obtain ⟨g1, g2⟩ := E.own i hi
    exact .cons (.refl _) (.cons (.refl _) (.cons g1.vw (.cons (.refl _) (.cons (.refl _) (.cons g2.vw .nil)))))
  have e : d.nodes.map eNode = (List.range d.nodes.length).map fun i => eNode (nth d.nodes i) := by
    apply List.ext_getElem?
    intro j
    by_cases hj : j < d.nodes.length
    · rw [List.getElem?_map, List.getElem?_map, List.getElem?_range hj, nth_some hj]; rfl
    · rw [List.getElem?_eq_none (by simp; omega), List.getElem?_eq_none (by simp; omega)]
  rw [e]
  unfold rowsA
  have gen : ∀ l : List Nat, (∀ i ∈ l, i < d.nodes.length) → F2 (F2 (Vw h)) (l.map fun i => rowA (nth d.nodes i) (sl' (2 * i)) (sl' (2 * i + 1))) (l.map fun i => eNode (nth d.nodes i)) := fun l => by
    induction l with
    | nil => intro _; exact .nil
    | cons i l ih => intro hl; exact .cons (key i (hl i List.mem_cons_self)) (ih fun j hj => hl j (List.mem_cons_of_mem _ hj))
  exact gen _ fun i hi => List.mem_range.1 hi
theorem Dw.other {X : List Nat} {h0 h : Heap} {rN : Nat} {d : HDoc} {sl : Nat → AVal} (E : Dw X h0 h rN d sl) {r : Nat} (hr : r ∈ X) (h0r : h0 r = none) (o : AObj) : Dw X h0 (upd h r (some o)) rN d sl := by
  have hne : rN ≠ r := fun e => E.new.2 (e ▸ hr)
  refine ⟨E.sub.upd h0r, by rw [upd_ne _ _ hne]; exact E.nodes, E.new, fun i hi => ?_, E.fresh, E.sep, fun t ht => ?_⟩
  · obtain ⟨g1, g2⟩ := E.own i hi
    exact ⟨g1.keep fun t ob ht ho => by rw [upd_ne _ _ (fun e => (E.fresh _ (by omega) t ht).2.2 (by rw [e]; exact hr))]; exact ho, g2.keep fun t ob ht ho => by rw [upd_ne _ _ (fun e => (E.fresh _ (by omega) t ht).2.2 (by rw [e]; exact hr))]; exact ho⟩
  · by_cases e : t = r
    · subst e; exact ⟨o, upd_same _ _ _⟩
    · rw [upd_ne _ _ e]; exact E.keep t ht
theorem Dw.less {X X' : List Nat} {h0 h : Heap} {rN : Nat} {d : HDoc} {sl : Nat → AVal} (E : Dw X h0 h rN d sl) (hx : ∀ r ∈ X', r ∈ X) : Dw X' h0 h rN d sl :=
  ⟨E.sub, E.nodes, ⟨E.new.1, fun h => E.new.2 (hx _ h)⟩, E.own, fun k hk r hr => ⟨(E.fresh k hk r hr).1, (E.fresh k hk r hr).2.1, fun h => (E.fresh k hk r hr).2.2 (hx _ h)⟩, E.sep, fun r hr => E.keep r (hx r hr)⟩
theorem Dw.more {X : List Nat} {h0 h : Heap} {rN : Nat} {d : HDoc} {sl : Nat → AVal} (E : Dw X h0 h rN d sl) {r : Nat} (hr : h r = none) (o : AObj) : Dw (r :: X) h0 (upd h r (some o)) rN d sl := by
  have hne : rN ≠ r := fun e => by have := E.nodes; rw [e, hr] at this; cases this
  have sn : ∀ k, k < 2 * d.nodes.length → ∀ t, rootOf (sl k) = some t → t ≠ r := fun k hk t ht e => by
    obtain ⟨o', ho⟩ := E.slot hk ht; rw [e, hr] at ho; cases ho
  refine ⟨E.sub.upd (E.sub.none hr), by rw [upd_ne _ _ hne]; exact E.nodes, ⟨E.new.1, fun h => ?_⟩, fun i hi => ?_, fun k hk t ht => ⟨(E.fresh k hk t ht).1, (E.fresh k hk t ht).2.1, fun h => ?_⟩, E.sep, fun t ht => ?_⟩
  · rcases List.mem_cons.1 h with h | h
    · exact hne h
    · exact E.new.2 h
  · obtain ⟨g1, g2⟩ := E.own i hi
    exact ⟨g1.keep fun t ob ht ho => by rw [upd_ne _ _ (sn _ (by omega) t ht)]; exact ho, g2.keep fun t ob ht ho => by rw [upd_ne _ _ (sn _ (by omega) t ht)]; exact ho⟩
  · rcases List.mem_cons.1 h with h | h
    · exact sn k hk t ht h
    · exact (E.fresh k hk t ht).2.2 h
  · by_cases e : t = r
    · subst e; exact ⟨o, upd_same _ _ _⟩
    · rw [upd_ne _ _ e]; exact E.keep t ((List.mem_cons.1 ht).resolve_left e)
theorem getD_set_same {es : List (List AVal)} {k : Nat} {x : List AVal} (hk : k < es.length) : (es.set k x).getD k [] = x := by
  rw [List.getD_eq_getElem?_getD, List.getElem?_set]; simp [hk]
theorem set_set_same {es : List (List AVal)} {k : Nat} {x y : List AVal} : (es.set k x).set k y = es.set k y := by simp
end Go.Proofs.K
end
section
set_option linter.unusedSimpArgs false
set_option linter.unusedVariables false
namespace Go.Proofs.K
open Go Go.Sim Go.Proofs
variable {G : Glob}
theorem Dw.cong {X : List Nat} {h0 h : Heap} {rN : Nat} {d d' : HDoc} {sl : Nat → AVal} (E : Dw X h0 h rN d sl) (h1 : d = d') : Dw X h0 h rN d' sl := h1 ▸ E
def c74 : SFun := ⟨.seq (.reg [⟨some 2, .mv (.c .emp), none⟩]) (.seq (.seq (.reg [⟨some 3, .mv (.t 0), none⟩, ⟨some 4, .isnil 0 false (.t 3), none⟩]) (.cond (.t 4) (.seq (.reg [⟨some 2, .mv (.c .emp), none⟩]) .ret) .skip)) (.seq (.reg [⟨some 5, .bldF 29 6 [], none⟩, ⟨some 6, .mv (.t 0), none⟩, ⟨some 7, .app 29 6 96 (.t 5) (.t 6), none⟩, ⟨some 2, .mv (.t 7), none⟩]) .ret)), [.tmp 2]⟩
theorem hc74 : toSF Tryd.prog {} Tryd.f74 = some c74 := by kernel_rfl
theorem hn74 : (Tryd.f74.name == "runtime.NumGoroutine") = false := by kernel_rfl
theorem cloneN_own {h : Heap} (l : List HNode) (hl : l.length ≤ 1073741824) : DCalls (Pg G) 74 [sl eNode l] h (AccK h 29 6 (l.map eNode)) := by
  refine dcalls_of_vc Tryd.func74 hn74 hc74 (by rw [Tryd.ntmps74]; simp) (by rw [Tryd.ntmps74]; decide) ?_
  simp -dsimp -implicitDefEqProofs (disch := omega) only [VCA, pg_gl, ↓upd_none, Nat.reduceEqDiff, Nat.reduceBEq, Nat.reduceAdd, Nat.reduceSub, Nat.reduceMul, Nat.reduceLT, Nat.reduceLeDiff, ↓reduceIte, reduceCtorEq, rsOf, rootsOf, SOp.rd, SI.rd, SX.rd, rdL, rdO, rdP, okParts, eqCells, okEqCells, fillA, okFill, setAt, implies_true, forall_const, forall_eq, ne_eq, exists_eq_right_right, exists_eq_right, exists_eq_left, exists_eq_left', rootL, eInt, eBool, lit_eq, c74]
  intro b hb
  refine Br.intro (fun ht => ?_) (fun hf => ?_)
  · simp -dsimp -implicitDefEqProofs (disch := omega) only [VCA, pg_gl, ↓upd_none, Nat.reduceEqDiff, Nat.reduceBEq, Nat.reduceAdd, Nat.reduceSub, Nat.reduceMul, Nat.reduceLT, Nat.reduceLeDiff, ↓reduceIte, reduceCtorEq, rsOf, rootsOf, SOp.rd, SI.rd, SX.rd, rdL, rdO, rdP, okParts, eqCells, okEqCells, fillA, okFill, setAt, implies_true, forall_const, forall_eq, ne_eq, exists_eq_right_right, exists_eq_right, exists_eq_left, exists_eq_left', rootL, eInt, eBool, lit_eq]
    have : l = [] := hb (by simpa using ht)
    subst this
    exact ⟨_, Sub.refl _, Acc.nil, Sub.refl _⟩
  · simp -dsimp -implicitDefEqProofs (disch := omega) only [VCA, pg_gl, ↓upd_none, Nat.reduceEqDiff, Nat.reduceBEq, Nat.reduceAdd, Nat.reduceSub, Nat.reduceMul, Nat.reduceLT, Nat.reduceLeDiff, ↓reduceIte, reduceCtorEq, rsOf, rootsOf, SOp.rd, SI.rd, SX.rd, rdL, rdO, rdP, okParts, eqCells, okEqCells, fillA, okFill, setAt, implies_true, forall_const, forall_eq, ne_eq, exists_eq_right_right, exists_eq_right, exists_eq_left, exists_eq_left', rootL, eInt, eBool, lit_eq]
    refine ⟨by omega, by omega, fun r hr => ?_⟩
    exact ⟨_, Sub.refl _, by simpa using Acc.root (cells := l.map eNode) hr (upd_same _ _ _), (Sub.refl _).upd hr⟩
def c32 : SFun := ⟨.seq (.reg [⟨some 2, .mv (.c .emp), none⟩]) (.seq (.seq (.reg [⟨some 3, .mv (.t 0), none⟩, ⟨some 4, .isnil 0 false (.t 3), none⟩]) (.cond (.t 4) (.seq (.reg [⟨some 2, .mv (.c .emp), none⟩]) .ret) .skip)) (.seq (.reg [⟨some 5, .bldF 3 1 [], none⟩, ⟨some 6, .mv (.t 0), none⟩, ⟨some 7, .app 3 1 8 (.t 5) (.t 6), none⟩, ⟨some 2, .mv (.t 7), none⟩]) .ret)), [.tmp 2]⟩
theorem hc32 : toSF Tryd.prog {} Tryd.f32 = some c32 := by kernel_rfl
theorem hn32 : (Tryd.f32.name == "runtime.NumGoroutine") = false := by kernel_rfl
theorem cloneZ_own {h : Heap} (l : List Int) (hl : l.length ≤ 1073741824) : DCalls (Pg G) 32 [sl eInt l] h (AccK h 3 1 (l.map eInt)) := by
  refine dcalls_of_vc Tryd.func32 hn32 hc32 (by rw [Tryd.ntmps32]; simp) (by rw [Tryd.ntmps32]; decide) ?_
  simp -dsimp -implicitDefEqProofs (disch := omega) only [VCA, pg_gl, ↓upd_none, Nat.reduceEqDiff, Nat.reduceBEq, Nat.reduceAdd, Nat.reduceSub, Nat.reduceMul, Nat.reduceLT, Nat.reduceLeDiff, ↓reduceIte, reduceCtorEq, rsOf, rootsOf, SOp.rd, SI.rd, SX.rd, rdL, rdO, rdP, okParts, eqCells, okEqCells, fillA, okFill, setAt, implies_true, forall_const, forall_eq, ne_eq, exists_eq_right_right, exists_eq_right, exists_eq_left, exists_eq_left', rootL, eInt, eBool, lit_eq, c32]
  intro b hb
  refine Br.intro (fun ht => ?_) (fun hf => ?_)
  · simp -dsimp -implicitDefEqProofs (disch := omega) only [VCA, pg_gl, ↓upd_none, Nat.reduceEqDiff, Nat.reduceBEq, Nat.reduceAdd, Nat.reduceSub, Nat.reduceMul, Nat.reduceLT, Nat.reduceLeDiff, ↓reduceIte, reduceCtorEq, rsOf, rootsOf, SOp.rd, SI.rd, SX.rd, rdL, rdO, rdP, okParts, eqCells, okEqCells, fillA, okFill, setAt, implies_true, forall_const, forall_eq, ne_eq, exists_eq_right_right, exists_eq_right, exists_eq_left, exists_eq_left', rootL, eInt, eBool, lit_eq]
    have : l = [] := hb (by simpa using ht)
    subst this
    exact ⟨_, Sub.refl _, Acc.nil, Sub.refl _⟩
  · simp -dsimp -implicitDefEqProofs (disch := omega) only [VCA, pg_gl, ↓upd_none, Nat.reduceEqDiff, Nat.reduceBEq, Nat.reduceAdd, Nat.reduceSub, Nat.reduceMul, Nat.reduceLT, Nat.reduceLeDiff, ↓reduceIte, reduceCtorEq, rsOf, rootsOf, SOp.rd, SI.rd, SX.rd, rdL, rdO, rdP, okParts, eqCells, okEqCells, fillA, okFill, setAt, implies_true, forall_const, forall_eq, ne_eq, exists_eq_right_right, exists_eq_right, exists_eq_left, exists_eq_left', rootL, eInt, eBool, lit_eq]
    refine ⟨by omega, by omega, fun r hr => ?_⟩
    exact ⟨_, Sub.refl _, by simpa using Acc.root (cells := l.map eInt) hr (upd_same _ _ _), (Sub.refl _).upd hr⟩
def c51 : SFun := ⟨.seq (.reg [⟨some 1, .boxF 24 2 (.t 0), none⟩, ⟨some 2, .new 24 2 [.emp, .bool false], none⟩]) (.seq (.dreg [(⟨some 6, .fldA 0 (.t 1), none⟩, none), (⟨some 7, .ld 1 false (.t 6), none⟩, none), (⟨some 9, .fldA 1 (.t 1), none⟩, none), (⟨some 10, .ld 1 false (.t 9), none⟩, none), (⟨some 8, .call (.c (.fn 74 [] [])) [.t 7], none⟩, (some [7])), (⟨some 11, .bld [.emp, .bool false] [(0, (1, (.t 8))), (1, (1, (.t 10)))], none⟩, none), (⟨some 3, .new 24 2 [.emp, .bool false], none⟩, (some [])), (⟨none, .st 2 (.t 3) (.t 11), none⟩, (some [10, 7]))]) (.seq (.seq (.reg [⟨some 12, .fldA 0 (.t 3), none⟩, ⟨some 13, .ld 1 false (.t 12), none⟩, ⟨some 14, .len (.t 13), none⟩, ⟨some 15, .mv (.c (.int .i64 0)), none⟩]) (.block 0 (.loop (.seq (.reg [⟨some 16, .bin .lss (.t 15) (.t 14), none⟩]) (.seq (.cond (.t 16) .skip (.exit 0)) (.seq (.block 1 (.seq (.reg [⟨some 17, .mv (.t 15), none⟩, ⟨some 4, .mv (.t 17), none⟩]) (.seq (.reg [⟨some 18, .fldA 0 (.t 3), none⟩, ⟨some 19, .ld 1 false (.t 18), none⟩, ⟨some 20, .mv (.t 4), none⟩, ⟨some 21, .idxA 6 (.t 19) (.t 20), none⟩, ⟨some 5, .mv (.t 21), none⟩]) (.dreg [(⟨some 22, .mv (.t 5), none⟩, none), (⟨some 23, .mv (.t 5), none⟩, none), (⟨some 24, .mv (.t 5), none⟩, none), (⟨some 25, .fldA 0 (.t 24), none⟩, none), (⟨some 26, .fldA 2 (.t 25), none⟩, none), (⟨some 27, .ld 1 false (.t 26), none⟩, none), (⟨some 29, .mv (.t 5), none⟩, none), (⟨some 30, .fldA 0 (.t 29), none⟩, none), (⟨some 31, .fldA 5 (.t 30), none⟩, none), (⟨some 32, .ld 1 false (.t 31), none⟩, none), (⟨some 28, .call (.c (.fn 31 [] [])) [.t 27], none⟩, (some [27])), (⟨some 33, .call (.c (.fn 32 [] [])) [.t 32], none⟩, (some [32, 27])), (⟨some 34, .fldA 0 (.t 22), none⟩, none), (⟨some 35, .fldA 2 (.t 34), none⟩, none), (⟨none, .st 1 (.t 35) (.t 28), none⟩, (some [32, 27])), (⟨some 36, .fldA 0 (.t 23), none⟩, none), (⟨some 37, .fldA 5 (.t 36), none⟩, none), (⟨none, .st 1 (.t 37) (.t 33), none⟩, (some [32, 27]))])))) (.reg [⟨some 38, .bin .add (.t 15) (.c (.int .i64 1)), none⟩, ⟨some 15, .mv (.t 38), none⟩]))))))) (.seq (.reg [⟨some 39, .ld 2 true (.t 3), none⟩, ⟨none, .st 2 (.t 2) (.t 39), none⟩]) .ret))), [.cell 2 2 true]⟩
theorem hc51 : toSF Tryd.prog {} Tryd.f51 = some c51 := by kernel_rfl
theorem hn51 : (Tryd.f51.name == "runtime.NumGoroutine") = false := by kernel_rfl
theorem own_ok' (d : HDoc) (sm : DocSm d) (hN : 0 < d.nodes.length) (h : Heap) : DCalls (Pg G) 51 [.agg (eDoc d)] h fun a h' => ∃ rN sl, a = .agg [.osl rN 6 0 d.nodes.length, .bool d.quirks] ∧ Dw [] h h' rN d sl ∧ ∀ k, k < 2 * d.nodes.length → Mut (sl k) := by
  have hl := sm.len
  refine dcalls_of_vc Tryd.func51 hn51 hc51 (by rw [Tryd.ntmps51]; simp) (by rw [Tryd.ntmps51]; decide) ?_
  simp -dsimp -implicitDefEqProofs (disch := omega) only [VCA, pg_gl, ↓upd_none, Nat.reduceEqDiff, Nat.reduceBEq, Nat.reduceAdd, Nat.reduceSub, Nat.reduceMul, Nat.reduceLT, Nat.reduceLeDiff, ↓reduceIte, reduceCtorEq, rsOf, rootsOf, SOp.rd, SI.rd, SX.rd, rdL, rdO, rdP, okParts, eqCells, okEqCells, fillA, okFill, setAt, implies_true, forall_const, forall_eq, ne_eq, exists_eq_right_right, exists_eq_right, exists_eq_left, exists_eq_left', rootL, eInt, eBool, lit_eq, c51, eDoc]
  intro r2 hr2
  refine DCalls.of (cloneN_own (G := G) d.nodes hl) ?_
  rintro a h1 ⟨A, S1⟩
  obtain ⟨rN, hn0, hn1, rfl⟩ := A.pos (by simpa using hN)
  rw [List.length_map]
  have n2N : ¬ rN = r2 := fun e => by rw [e] at hn0; simp [upd] at hn0
  have g2 : h1 r2 = some ⟨.t 24, 2, [[.emp, .bool false]]⟩ := S1 _ _ (upd_same _ _ _)
  simp -dsimp -implicitDefEqProofs (disch := omega) only [VCA, pg_gl, ↓upd_none, Nat.reduceEqDiff, Nat.reduceBEq, Nat.reduceAdd, Nat.reduceSub, Nat.reduceMul, Nat.reduceLT, Nat.reduceLeDiff, ↓reduceIte, reduceCtorEq, rsOf, rootsOf, SOp.rd, SI.rd, SX.rd, rdL, rdO, rdP, okParts, eqCells, okEqCells, fillA, okFill, setAt, implies_true, forall_const, forall_eq, ne_eq, exists_eq_right_right, exists_eq_right, exists_eq_left, exists_eq_left', rootL, eInt, eBool, lit_eq]
  intro r3 hr3
  have n3N : ¬ rN = r3 := fun e => by rw [e, hr3] at hn1; cases hn1
  have n32 : ¬ r2 = r3 := fun e => by rw [e, hr3] at g2; cases g2
  have h0N : h rN = none := by rw [upd_ne _ _ n2N] at hn0; exact hn0
  have S01 : Sim.Sub h h1 := fun t o ht => S1 t o (by rw [upd_ne _ _ (fun e => by rw [e, hr2] at ht; cases ht)]; exact ht)
  have h03 : h r3 = none := S01.none hr3
  obtain ⟨sl0, hsl0⟩ : ∃ sl0 : Nat → AVal, ∀ i, sl0 (2 * i) = sl eAttr (nth d.nodes i).attrs ∧ sl0 (2 * i + 1) = sl eInt (nth d.nodes i).kids :=
    ⟨fun j => if j % 2 = 0 then sl eAttr (nth d.nodes (j / 2)).attrs else sl eInt (nth d.nodes (j / 2)).kids, fun i => by
      constructor
      · dsimp only; rw [if_pos (by omega), show 2 * i / 2 = i by omega]
      · dsimp only; rw [if_neg (by omega), show (2 * i + 1) / 2 = i by omega]⟩
  have rt : ∀ k r, rootOf (sl0 k) ≠ some r := fun k r => by
    rcases (by omega : k = 2 * (k / 2) ∨ k = 2 * (k / 2) + 1) with h | h
    · rw [h, (hsl0 _).1]; exact fun e => by cases e
    · rw [h, (hsl0 _).2]; exact fun e => by cases e
  have rows0 : rowsA d sl0 = d.nodes.map eNode := by
    apply List.ext_getElem?
    intro j
    unfold rowsA
    by_cases hj : j < d.nodes.length
    · rw [List.getElem?_map, List.getElem?_map, List.getElem?_range hj, nth_some hj, Option.map_some, Option.map_some, (hsl0 j).1, (hsl0 j).2]; rfl
    · rw [List.getElem?_eq_none (by simp; omega), List.getElem?_eq_none (by simp; omega)]
  have E0 : Dw [r2, r3] h (upd h1 r3 (some ⟨.t 24, 2, [[.osl rN 6 0 d.nodes.length, .bool d.quirks]]⟩)) rN d sl0 := by
    refine ⟨S01.upd h03, by rw [upd_ne _ _ n3N, hn1, rows0], ⟨h0N, by simp [n2N, n3N]⟩, fun i hi => ?_, fun k _ r hr => absurd hr (rt k r), fun j k _ _ _ r hr => absurd hr (rt j r), fun r hr => ?_⟩
    · rw [(hsl0 i).1, (hsl0 i).2]
      exact ⟨.inr (.inl ⟨rfl, fun e he => by obtain ⟨x, _, rfl⟩ := List.mem_map.1 he; rfl⟩), .inr (.inl ⟨rfl, fun e he => by obtain ⟨x, _, rfl⟩ := List.mem_map.1 he; rfl⟩)⟩
    · simp only [List.mem_cons, List.mem_nil_iff, or_false] at hr
      rcases hr with rfl | rfl
      · exact ⟨_, by rw [upd_ne _ _ n32]; exact g2⟩
      · exact ⟨_, upd_same _ _ _⟩
  refine LoopVC.intro (fun m e h' => ∃ (k : Nat) (sl' : Nat → AVal), k ≤ d.nodes.length ∧ m = d.nodes.length - k ∧ e 2 = .vp r2 0 ∧ e 3 = .vp r3 0 ∧ e 14 = aInt d.nodes.length ∧ e 15 = aInt k ∧ Dw [r2, r3] h h' rN d sl' ∧
    h' r2 = some ⟨.t 24, 2, [[.emp, .bool false]]⟩ ∧ h' r3 = some ⟨.t 24, 2, [[.osl rN 6 0 d.nodes.length, .bool d.quirks]]⟩ ∧ (∀ j, j < 2 * k → Mut (sl' j)) ∧ ∀ j, 2 * k ≤ j → sl' j = sl0 j) d.nodes.length
    ⟨0, sl0, by omega, by omega, rfl, rfl, rfl, rfl, E0, by rw [upd_ne _ _ n32]; exact g2, upd_same _ _ _, by omega, fun _ _ => rfl⟩ ?_
  clear E0 hn1 A g2 hr3 hn0 rt rows0
  rintro m e h' ⟨k, sl', hk, rfl, he2, he3, he14, he15, E, g2, g3, hm, hs⟩
  simp -dsimp -implicitDefEqProofs (disch := omega) only [VCA, pg_gl, ↓upd_none, Nat.reduceEqDiff, Nat.reduceBEq, Nat.reduceAdd, Nat.reduceSub, Nat.reduceMul, Nat.reduceLT, Nat.reduceLeDiff, ↓reduceIte, reduceCtorEq, rsOf, rootsOf, SOp.rd, SI.rd, SX.rd, rdL, rdO, rdP, okParts, eqCells, okEqCells, fillA, okFill, setAt, implies_true, forall_const, forall_eq, ne_eq, exists_eq_right_right, exists_eq_right, exists_eq_left, exists_eq_left', rootL, eInt, eBool, lit_eq, he2, he3, he14, he15, g2, g3]
  refine Br.dec (fun hlt => ?_) (fun hge => ?_)
  · have hk' : k < d.nodes.length := by omega
    have gN := E.nodes
    have gk := rowsA_get (sl := sl') hk'
    have rl := rowsA_len d sl'
    rw [hs (2 * k) (by omega), hs (2 * k + 1) (by omega), (hsl0 k).1, (hsl0 k).2] at gk
    unfold rowA at gk
    have smk := sm.nth k
    simp -dsimp -implicitDefEqProofs (disch := omega) only [VCA, pg_gl, ↓upd_none, Nat.reduceEqDiff, Nat.reduceBEq, Nat.reduceAdd, Nat.reduceSub, Nat.reduceMul, Nat.reduceLT, Nat.reduceLeDiff, ↓reduceIte, reduceCtorEq, rsOf, rootsOf, SOp.rd, SI.rd, SX.rd, rdL, rdO, rdP, okParts, eqCells, okEqCells, fillA, okFill, setAt, implies_true, forall_const, forall_eq, ne_eq, exists_eq_right_right, exists_eq_right, exists_eq_left, exists_eq_left', rootL, eInt, eBool, lit_eq, he2, he3, he14, he15, g2, g3, gN, gk, rl]
    refine ⟨by omega, hk', hk', DCalls.of (cloneA_own (G := G) _ smk.attrs) ?_⟩
    rintro a h2 ⟨A1, T1⟩
    have gN2 := T1 _ _ gN
    simp -dsimp -implicitDefEqProofs (disch := omega) only [VCA, pg_gl, ↓upd_none, Nat.reduceEqDiff, Nat.reduceBEq, Nat.reduceAdd, Nat.reduceSub, Nat.reduceMul, Nat.reduceLT, Nat.reduceLeDiff, ↓reduceIte, reduceCtorEq, rsOf, rootsOf, SOp.rd, SI.rd, SX.rd, rdL, rdO, rdP, okParts, eqCells, okEqCells, fillA, okFill, setAt, implies_true, forall_const, forall_eq, ne_eq, exists_eq_right_right, exists_eq_right, exists_eq_left, exists_eq_left', rootL, eInt, eBool, lit_eq, he2, he3, he14, he15, g2, g3, gN, gN2, gk, rl]
    refine DCalls.of (cloneZ_own (G := G) _ smk.kids) ?_
    rintro a2 h3 ⟨A2, T2⟩
    have gN3 := T2 _ _ gN2
    obtain ⟨O1, f1, M1⟩ := OwnS.of_acc A1
    obtain ⟨O2, f2, M2⟩ := OwnS.of_acc A2
    obtain ⟨v1, c1⟩ := O1.isV
    obtain ⟨v2, c2⟩ := O2.isV
    simp -dsimp -implicitDefEqProofs (disch := omega) only [VCA, pg_gl, ↓upd_none, Nat.reduceEqDiff, Nat.reduceBEq, Nat.reduceAdd, Nat.reduceSub, Nat.reduceMul, Nat.reduceLT, Nat.reduceLeDiff, ↓reduceIte, reduceCtorEq, rsOf, rootsOf, SOp.rd, SI.rd, SX.rd, rdL, rdO, rdP, okParts, eqCells, okEqCells, fillA, okFill, setAt, implies_true, forall_const, forall_eq, ne_eq, exists_eq_right_right, exists_eq_right, exists_eq_left, exists_eq_left', rootL, eInt, eBool, lit_eq, he2, he3, he14, he15, g2, g3, gN, gN2, gN3, gk, rl, v1, c1, v2, c2, List.length_cons, List.length_nil, List.length_set, getD_set_same, set_set_same]
    have hki : (2 * k : Nat) ≠ 2 * k + 1 := by omega
    refine ⟨by omega, by omega, d.nodes.length - (k + 1), by omega, k + 1, upd (upd sl' (2 * k) a) (2 * k + 1) a2, by omega, rfl, by omega, ?_, ?_, ?_, ?_, ?_⟩
    · have u1 : upd (upd sl' (2 * k) a) (2 * k + 1) a2 (2 * k) = a := by rw [upd_ne _ _ hki, upd_same]
      have u2 : upd (upd sl' (2 * k) a) (2 * k + 1) a2 (2 * k + 1) = a2 := upd_same _ _ _
      have T : Sim.Sub h' h3 := T1.trans T2
      refine (E.put hk' (x' := nth d.nodes k) (fun j h1 h2 => by rw [upd_ne _ _ h2, upd_ne _ _ h1]) ?_ ?_ ?_ ?_ ?_ ?_).cong ?_
      · rw [u1, u2, upd_same]; rfl
      · intro r o ho hne _ _
        rw [upd_ne _ _ hne]
        exact T _ _ ho
      · rw [u1]
        exact O1.keep fun r o hr ho => by
          rw [upd_ne _ _ (fun e => by have := f1 r hr; rw [e, gN] at this; cases this)]
          exact T2 _ _ ho
      · rw [u2]
        exact O2.keep fun r o hr ho => by
          rw [upd_ne _ _ (fun e => by have := f2 r hr; rw [e, gN2] at this; cases this)]
          exact ho
      · rw [u1, u2]
        rintro r (hr | hr)
        · exact .inr (.inr (f1 r hr))
        · exact .inr (.inr (T1.none (f2 r hr)))
      · rw [u1, u2]
        intro r hr hr2
        obtain ⟨o, ho⟩ := O1.root hr
        have := f2 r hr2
        rw [ho] at this; cases this
      · have : d.nodes.set k (nth d.nodes k) = d.nodes := by
          apply List.ext_getElem?
          intro j
          rw [List.getElem?_set]
          split
          · rename_i h; subst h; first | (rw [if_pos hk', nth_some hk']) | (rw [nth_some hk'])
          · rfl
        rw [this]
    · rw [if_neg (fun e => n2N e.symm)]; exact (T1.trans T2) _ _ g2
    · rw [if_neg (fun e => n3N e.symm)]; exact (T1.trans T2) _ _ g3
    · intro j hj
      by_cases j1 : j = 2 * k + 1
      · subst j1; rw [upd_same]; exact M2
      · rw [upd_ne _ _ j1]
        by_cases j2 : j = 2 * k
        · subst j2; rw [upd_same]; exact M1
        · rw [upd_ne _ _ j2]; exact hm j (by omega)
    · intro j hj
      rw [upd_ne _ _ (by omega), upd_ne _ _ (by omega)]
      exact hs j (by omega)
  · simp -dsimp -implicitDefEqProofs (disch := omega) only [VCA, pg_gl, ↓upd_none, Nat.reduceEqDiff, Nat.reduceBEq, Nat.reduceAdd, Nat.reduceSub, Nat.reduceMul, Nat.reduceLT, Nat.reduceLeDiff, ↓reduceIte, reduceCtorEq, rsOf, rootsOf, SOp.rd, SI.rd, SX.rd, rdL, rdO, rdP, okParts, eqCells, okEqCells, fillA, okFill, setAt, implies_true, forall_const, forall_eq, ne_eq, exists_eq_right_right, exists_eq_right, exists_eq_left, exists_eq_left', rootL, eInt, eBool, lit_eq, he2, he3, he14, he15, g2, g3]
    obtain rfl : k = d.nodes.length := by omega
    exact ⟨_, Sub.refl _, rN, sl', rfl, (E.other (r := r2) (by simp) hr2 _).less (by simp), hm⟩
end Go.Proofs.K
end
section
set_option linter.unusedSimpArgs false
set_option linter.unusedVariables false
namespace Go.Proofs.K
open Go Go.Sim Go.Proofs
variable {G : Glob}
theorem DCalls.bor {P : PG} {f : Nat} {args args' : List AVal} {v : AVal} {h : Heap} (hp : PCalls P f args' v) (hs : Scal v) (hv : F2 (Vw h) args args') : DCalls P f args h fun r h' => r = v ∧ h' = h := hp.borrow hs hv.len hv.get
theorem OwnS.app {h : Heap} {ty sz b : Nat} {cells es2 : List (List AVal)} {a : AVal} (O : OwnS h ty sz cells a) (M : Mut a) (h1 : (cells.length + es2.length) * b ≤ 140737488355328) (h2 : cells.length + es2.length ≤ 140737488355328) {K : AVal → Heap → Prop}
    (hk : ∀ r' h'', h'' r' = some ⟨ty, sz, cells ++ es2⟩ → (rootOf a = some r' ∨ h r' = none) → (∀ r o, h r = some o → rootOf a ≠ some r → h'' r = some o) → K (.osl r' sz 0 (cells.length + es2.length)) h'') : Hd (appE ty sz b a es2 h) K .mk := by
  rcases O.live M with ⟨rfl, rfl⟩ | ⟨r, es, rfl, hr, hl, ht⟩
  · refine ⟨by simpa using h1, by simpa using h2, fun r hr => ?_⟩
    have := hk r (upd h r (some ⟨ty, sz, es2⟩)) (by simp) (.inr hr) (fun t o ho _ => by rw [upd_ne _ _ (fun e => by rw [e, hr] at ho; cases ho)]; exact ho)
    simpa using this
  · refine ⟨rfl, _, hr, rfl, by simpa using hl, h1, h2, fun r' hr' => ?_⟩
    have hr2 : r' = r ∨ h r' = none := by
      unfold del at hr'
      split at hr'
      · rename_i e; exact .inl e
      · exact .inr hr'
    refine hk r' _ (by simp [ht]) ?_ fun t o ho hne => ?_
    · rcases hr2 with e | e
      · left; rw [e]; rfl
      · exact .inr e
    · have e1 : t ≠ r := fun e => hne (by rw [e]; rfl)
      have e2 : t ≠ r' := fun e => by
        rcases hr2 with e3 | e3
        · exact e1 (e.trans e3)
        · rw [e, e3] at ho; cases ho
      rw [upd_ne _ _ e2]; unfold del; rw [if_neg e1]; exact ho
structure Ed (h0 h : Heap) (re rN : Nat) (d : HDoc) (sl : Nat → AVal) (made : Int) : Prop where
  dw : Dw [re] h0 h rN d sl
  ed : h re = some ⟨.t 127, 3, [[.osl rN 6 0 d.nodes.length, .bool d.quirks, aInt made]]⟩
  new : h0 re = none
  live : ∀ k, k < 2 * d.nodes.length → Mut (sl k)
def nodeP (rN : Nat) (d : HDoc) (n : Int) : AVal := if inD d n then .ptr rN n.toNat 0 else .prim (.pointer none)
def c132 : SFun := ⟨.seq (.reg [⟨some 4, .mv (.c (.prim (Value.pointer none))), none⟩]) (.seq (.seq (.reg [⟨some 5, .mv (.t 1), none⟩, ⟨some 6, .bin .lss (.t 5) (.c (.int .i64 0)), none⟩, ⟨some 7, .mv (.t 6), none⟩, ⟨some 8, .mv (.t 1), some (7, false)⟩, ⟨some 9, .mv (.t 0), some (7, false)⟩, ⟨some 10, .fldA 0 (.t 9), some (7, false)⟩, ⟨some 11, .fldA 0 (.t 10), some (7, false)⟩, ⟨some 12, .fldA 0 (.t 11), some (7, false)⟩, ⟨some 13, .ld 1 false (.t 12), some (7, false)⟩, ⟨some 14, .len (.t 13), some (7, false)⟩, ⟨some 15, .bin .geq (.t 8) (.t 14), some (7, false)⟩, ⟨some 16, .pick (.t 7) (.c (.bool true)) (.t 15), none⟩]) (.cond (.t 16) (.seq (.reg [⟨some 4, .mv (.c (.prim (Value.pointer none))), none⟩]) .ret) .skip)) (.seq (.reg [⟨some 17, .mv (.t 0), none⟩, ⟨some 18, .fldA 0 (.t 17), none⟩, ⟨some 19, .fldA 0 (.t 18), none⟩, ⟨some 20, .fldA 0 (.t 19), none⟩, ⟨some 21, .ld 1 false (.t 20), none⟩, ⟨some 22, .mv (.t 1), none⟩, ⟨some 23, .idxA 6 (.t 21) (.t 22), none⟩, ⟨some 4, .mv (.t 23), none⟩]) .ret)), [.tmp 4]⟩
theorem hc132 : toSF Tryd.prog {} Tryd.f132 = some c132 := by kernel_rfl
theorem hn132 : (Tryd.f132.name == "runtime.NumGoroutine") = false := by kernel_rfl
theorem enode_ok {h0 h : Heap} {re rN : Nat} {d : HDoc} {sl : Nat → AVal} {made : Int} (E : Ed h0 h re rN d sl made) (n : Int) : DCalls (Pg G) 132 [.vp re 0, aInt n] h fun r h' => r = nodeP rN d n ∧ h' = h := by
  have g := E.ed
  refine dcalls_of_vc Tryd.func132 hn132 hc132 (by rw [Tryd.ntmps132]; simp) (by rw [Tryd.ntmps132]; decide) ?_
  unfold nodeP
  by_cases hn : inD d n
  · have n0 := hn.1
    have n1 := hn.2
    rw [if_pos hn]
    simp -dsimp -implicitDefEqProofs (disch := omega) only [↓vcOps_sp 7, ↓vcD_sp 7, VCA, pg_gl, ↓upd_none, Nat.reduceEqDiff, Nat.reduceBEq, Nat.reduceAdd, Nat.reduceSub, Nat.reduceMul, Nat.reduceLT, Nat.reduceLeDiff, ↓reduceIte, reduceCtorEq, rsOf, rootsOf, SOp.rd, SI.rd, SX.rd, rdL, rdO, rdP, okParts, eqCells, okEqCells, fillA, okFill, setAt, implies_true, forall_const, forall_eq, ne_eq, exists_eq_right_right, exists_eq_right, exists_eq_left, exists_eq_left', rootL, eInt, eBool, lit_eq, c132, g]
    repeat' (first | ((with_reducible refine brC (fun _ => ?_) fun _ => ?_) <;> try (exfalso; omega)) | (with_reducible refine And.intro ?_ ?_; · omega) | simp -dsimp -implicitDefEqProofs (disch := omega) only [↓vcOps_sp 7, ↓vcD_sp 7, VCA, pg_gl, ↓upd_none, Nat.reduceEqDiff, Nat.reduceBEq, Nat.reduceAdd, Nat.reduceSub, Nat.reduceMul, Nat.reduceLT, Nat.reduceLeDiff, ↓reduceIte, reduceCtorEq, rsOf, rootsOf, SOp.rd, SI.rd, SX.rd, rdL, rdO, rdP, okParts, eqCells, okEqCells, fillA, okFill, setAt, implies_true, forall_const, forall_eq, ne_eq, exists_eq_right_right, exists_eq_right, exists_eq_left, exists_eq_left', rootL, eInt, eBool, lit_eq, g])
    all_goals first | (exfalso; omega) | exact ⟨Sub.refl _, by simp⟩ | exact Sub.refl _
  · rw [if_neg hn]
    unfold inD at hn
    simp -dsimp -implicitDefEqProofs (disch := omega) only [↓vcOps_sp 7, ↓vcD_sp 7, VCA, pg_gl, ↓upd_none, Nat.reduceEqDiff, Nat.reduceBEq, Nat.reduceAdd, Nat.reduceSub, Nat.reduceMul, Nat.reduceLT, Nat.reduceLeDiff, ↓reduceIte, reduceCtorEq, rsOf, rootsOf, SOp.rd, SI.rd, SX.rd, rdL, rdO, rdP, okParts, eqCells, okEqCells, fillA, okFill, setAt, implies_true, forall_const, forall_eq, ne_eq, exists_eq_right_right, exists_eq_right, exists_eq_left, exists_eq_left', rootL, eInt, eBool, lit_eq, c132, g]
    repeat' (first | ((with_reducible refine brC (fun _ => ?_) fun _ => ?_) <;> try (exfalso; omega)) | (with_reducible refine And.intro ?_ ?_; · omega) | simp -dsimp -implicitDefEqProofs (disch := omega) only [↓vcOps_sp 7, ↓vcD_sp 7, VCA, pg_gl, ↓upd_none, Nat.reduceEqDiff, Nat.reduceBEq, Nat.reduceAdd, Nat.reduceSub, Nat.reduceMul, Nat.reduceLT, Nat.reduceLeDiff, ↓reduceIte, reduceCtorEq, rsOf, rootsOf, SOp.rd, SI.rd, SX.rd, rdL, rdO, rdP, okParts, eqCells, okEqCells, fillA, okFill, setAt, implies_true, forall_const, forall_eq, ne_eq, exists_eq_right_right, exists_eq_right, exists_eq_left, exists_eq_left', rootL, eInt, eBool, lit_eq, g])
    all_goals first | (exfalso; omega) | exact Sub.refl _
def elemE (d : HDoc) (n : Int) : Int := if ¬ inD d n then 5 else if (nd d n).kind ≠ 2 then 7 else 0
def c130 : SFun := ⟨.seq (.reg [⟨some 4, .mv (.c (.prim (Value.pointer none))), none⟩, ⟨some 5, .mv (.c (.int .i64 0)), none⟩]) (.seq (.reg [⟨some 7, .mv (.t 0), none⟩, ⟨some 8, .mv (.t 1), none⟩, ⟨some 9, .call (.c (.fn 132 [] [])) [.t 7, .t 8], none⟩, ⟨some 6, .mv (.t 9), none⟩]) (.seq (.block 0 (.seq (.reg [⟨some 11, .mv (.t 6), none⟩, ⟨some 12, .isnil 1 false (.t 11), none⟩, ⟨some 10, .mv (.t 12), none⟩]) (.cond (.t 10) (.seq (.reg [⟨some 4, .mv (.c (.prim (Value.pointer none))), none⟩, ⟨some 5, .mv (.c (.int .i64 5)), none⟩]) .ret) (.seq (.reg [⟨some 14, .mv (.t 6), none⟩, ⟨some 15, .fldA 0 (.t 14), none⟩, ⟨some 16, .fldA 0 (.t 15), none⟩, ⟨some 17, .ld 1 false (.t 16), none⟩, ⟨some 18, .bin .neq (.t 17) (.c (.int .i64 2)), none⟩, ⟨some 13, .mv (.t 18), none⟩]) (.cond (.t 13) (.seq (.reg [⟨some 4, .mv (.c (.prim (Value.pointer none))), none⟩, ⟨some 5, .mv (.c (.int .i64 7)), none⟩]) .ret) .skip))))) (.seq (.reg [⟨some 19, .mv (.t 6), none⟩, ⟨some 4, .mv (.t 19), none⟩, ⟨some 5, .mv (.c (.int .i64 0)), none⟩]) .ret))), [.tmp 4, .tmp 5]⟩
theorem hc130 : toSF Tryd.prog {} Tryd.f130 = some c130 := by kernel_rfl
theorem hn130 : (Tryd.f130.name == "runtime.NumGoroutine") = false := by kernel_rfl
theorem element_ok {h0 h : Heap} {re rN : Nat} {d : HDoc} {sl : Nat → AVal} {made : Int} (E : Ed h0 h re rN d sl made) (n : Int) : DCalls (Pg G) 130 [.vp re 0, aInt n] h fun r h' => r = .tup [if elemE d n = 0 then .ptr rN n.toNat 0 else .prim (.pointer none), aInt (elemE d n)] ∧ h' = h := by
  have gN := E.dw.nodes
  have hE := enode_ok (G := G) E n
  unfold nodeP at hE
  refine dcalls_of_vc Tryd.func130 hn130 hc130 (by rw [Tryd.ntmps130]; simp) (by rw [Tryd.ntmps130]; decide) ?_
  simp -dsimp -implicitDefEqProofs (disch := omega) only [VCA, pg_gl, ↓upd_none, Nat.reduceEqDiff, Nat.reduceBEq, Nat.reduceAdd, Nat.reduceSub, Nat.reduceMul, Nat.reduceLT, Nat.reduceLeDiff, ↓reduceIte, reduceCtorEq, rsOf, rootsOf, SOp.rd, SI.rd, SX.rd, rdL, rdO, rdP, okParts, eqCells, okEqCells, fillA, okFill, setAt, implies_true, forall_const, forall_eq, ne_eq, exists_eq_right_right, exists_eq_right, exists_eq_left, exists_eq_left', rootL, eInt, eBool, lit_eq, c130]
  by_cases hn : inD d n
  · rw [if_pos hn] at hE
    have hn' := hn.nat.1
    have gk := rowsA_get (sl := sl) hn'
    have rl := rowsA_len d sl
    have e0 : nth d.nodes n.toNat = nd d n := rfl
    unfold rowA at gk
    have eE : elemE d n = if (nd d n).kind ≠ 2 then 7 else 0 := by unfold elemE; rw [if_neg (by simpa using hn)]
    refine DCalls.of hE ?_
    rintro _ _ ⟨rfl, rfl⟩
    rw [eE]
    repeat' (first | ((with_reducible refine brC (fun _ => ?_) fun _ => ?_) <;> try (exfalso; omega)) | (with_reducible refine And.intro ?_ ?_; · omega) | simp -dsimp -implicitDefEqProofs (disch := omega) only [VCA, pg_gl, ↓upd_none, Nat.reduceEqDiff, Nat.reduceBEq, Nat.reduceAdd, Nat.reduceSub, Nat.reduceMul, Nat.reduceLT, Nat.reduceLeDiff, ↓reduceIte, reduceCtorEq, rsOf, rootsOf, SOp.rd, SI.rd, SX.rd, rdL, rdO, rdP, okParts, eqCells, okEqCells, fillA, okFill, setAt, implies_true, forall_const, forall_eq, ne_eq, exists_eq_right_right, exists_eq_right, exists_eq_left, exists_eq_left', rootL, eInt, eBool, lit_eq, gN, gk, rl, e0])
    all_goals first | (refine ⟨Sub.refl _, ?_⟩; simp [*]; done) | trace_state
  · rw [if_neg hn] at hE
    have eE : elemE d n = 5 := by unfold elemE; rw [if_pos hn]
    refine DCalls.of hE ?_
    rintro _ _ ⟨rfl, rfl⟩
    rw [eE]
    repeat' (first | ((with_reducible refine brC (fun _ => ?_) fun _ => ?_) <;> try (exfalso; omega)) | (with_reducible refine And.intro ?_ ?_; · omega) | simp -dsimp -implicitDefEqProofs (disch := omega) only [VCA, pg_gl, ↓upd_none, Nat.reduceEqDiff, Nat.reduceBEq, Nat.reduceAdd, Nat.reduceSub, Nat.reduceMul, Nat.reduceLT, Nat.reduceLeDiff, ↓reduceIte, reduceCtorEq, rsOf, rootsOf, SOp.rd, SI.rd, SX.rd, rdL, rdO, rdP, okParts, eqCells, okEqCells, fillA, okFill, setAt, implies_true, forall_const, forall_eq, ne_eq, exists_eq_right_right, exists_eq_right, exists_eq_left, exists_eq_left', rootL, eInt, eBool, lit_eq])
    all_goals first | exact Sub.refl _ | exact ⟨Sub.refl _, rfl⟩ | trace_state
end Go.Proofs.K
end
section
set_option linter.unusedSimpArgs false
set_option linter.unusedVariables false
namespace Go.Proofs.K
open Go Go.Sim Go.Proofs
variable {G : Glob}
def EdR (h0 h : Heap) (re : Nat) (d : HDoc) (e : HEdit) (made : Int) (r : AVal) (h' : Heap) : Prop :=
  r = aInt (editE d e) ∧ ((editE d e ≠ 0 ∧ h' = h) ∨ (editE d e = 0 ∧ ∃ rN' sl', Ed h0 h' re rN' (editD d e) sl' (if e.do' = 4 then (d.nodes.length : Int) else made)))
theorem EdR.bad {h0 h : Heap} {re : Nat} {d : HDoc} {e : HEdit} {made v : Int} (h1 : editE d e = v) (h2 : v ≠ 0) : EdR h0 h re d e made (aInt v) h := ⟨by rw [h1], .inl ⟨by rw [h1]; exact h2, rfl⟩⟩
theorem EdR.good {h0 h h' : Heap} {re rN' : Nat} {d : HDoc} {sl' : Nat → AVal} {e : HEdit} {made m : Int} (h1 : editE d e = 0) (hm : m = if e.do' = 4 then (d.nodes.length : Int) else made) (E : Ed h0 h' re rN' (editD d e) sl' m) : EdR h0 h re d e made (aInt 0) h' :=
  ⟨by rw [h1], .inr ⟨h1, rN', sl', hm ▸ E⟩⟩
section
variable {h0 h : Heap} {re rN : Nat} {d : HDoc} {sl : Nat → AVal} {made : Int}
theorem Ed.ne (E : Ed h0 h re rN d sl made) : re ≠ rN := fun e => E.dw.new.2 (by simp [e])
theorem Ed.put (E : Ed h0 h re rN d sl made) {h2 : Heap} {sl' : Nat → AVal} {i : Nat} (hi : i < d.nodes.length) {x' : HNode}
    (hs : ∀ j, j ≠ 2 * i → j ≠ 2 * i + 1 → sl' j = sl j)
    (hN : h2 rN = some ⟨.t 29, 6, (rowsA d sl).set i (rowA x' (sl' (2 * i)) (sl' (2 * i + 1)))⟩)
    (hk : ∀ r o, h r = some o → r ≠ rN → rootOf (sl (2 * i)) ≠ some r → rootOf (sl (2 * i + 1)) ≠ some r → h2 r = some o)
    (hA : OwnS h2 71 2 (x'.attrs.map eAttr) (sl' (2 * i))) (hK : OwnS h2 3 1 (x'.kids.map eInt) (sl' (2 * i + 1)))
    (hf : ∀ r, rootOf (sl' (2 * i)) = some r ∨ rootOf (sl' (2 * i + 1)) = some r → rootOf (sl (2 * i)) = some r ∨ rootOf (sl (2 * i + 1)) = some r ∨ h r = none)
    (hd : ∀ r, rootOf (sl' (2 * i)) = some r → rootOf (sl' (2 * i + 1)) ≠ some r)
    (hm : Mut (sl' (2 * i)) ∧ Mut (sl' (2 * i + 1))) : Ed h0 h2 re rN ⟨d.nodes.set i x', d.quirks⟩ sl' made := by
  have hl : (d.nodes.set i x').length = d.nodes.length := by simp
  refine ⟨E.dw.put hi hs hN hk hA hK hf hd, ?_, E.new, fun k hk' => ?_⟩
  · show h2 re = some ⟨_, 3, [[.osl rN 6 0 (d.nodes.set i x').length, _, _]]⟩
    rw [hl]
    refine hk re _ E.ed E.ne (fun h => (E.dw.fresh _ (by omega) re h).2.2 (by simp)) (fun h => (E.dw.fresh _ (by omega) re h).2.2 (by simp))
  · simp only [hl] at hk'
    by_cases e1 : k = 2 * i
    · rw [e1]; exact hm.1
    · by_cases e2 : k = 2 * i + 1
      · rw [e2]; exact hm.2
      · rw [hs k e1 e2]; exact E.live k hk'
theorem Ed.cells (E : Ed h0 h re rN d sl made) {i : Nat} (hi : i < d.nodes.length) {x' : HNode} (hA : x'.attrs = (nth d.nodes i).attrs) (hK : x'.kids = (nth d.nodes i).kids) :
    Ed h0 (upd h rN (some ⟨.t 29, 6, (rowsA d sl).set i (rowA x' (sl (2 * i)) (sl (2 * i + 1)))⟩)) re rN ⟨d.nodes.set i x', d.quirks⟩ sl made := by
  obtain ⟨g1, g2⟩ := E.dw.own i hi
  have k1 : ∀ k, k < 2 * d.nodes.length → ∀ r, rootOf (sl k) = some r → r ≠ rN := fun k hk r hr => (E.dw.fresh k hk r hr).2.1
  refine E.put hi (fun _ _ _ => rfl) (upd_same _ _ _) (fun r o ho hne _ _ => by rw [upd_ne _ _ hne]; exact ho) ?_ ?_ (fun r hr => by rcases hr with h | h; exact .inl h; exact .inr (.inl h)) (fun r hr => E.dw.sep _ _ (by omega) (by omega) (by omega) r hr) ⟨E.live _ (by omega), E.live _ (by omega)⟩
  · rw [hA]; exact g1.keep fun r o hr ho => by rw [upd_ne _ _ (k1 _ (by omega) r hr)]; exact ho
  · rw [hK]; exact g2.keep fun r o hr ho => by rw [upd_ne _ _ (k1 _ (by omega) r hr)]; exact ho
end
def c119 : SFun := ⟨.seq (.reg [⟨some 3, .boxF 101 12 (.t 1), none⟩, ⟨some 4, .mv (.c (.int .i64 0)), none⟩]) (.seq (.reg [⟨some 6, .mv (.t 0), none⟩, ⟨some 7, .fldA 1 (.t 3), none⟩, ⟨some 8, .ld 1 false (.t 7), none⟩, ⟨some 9, .call (.c (.fn 132 [] [])) [.t 6, .t 8], none⟩, ⟨some 5, .mv (.t 9), none⟩]) (.seq (.block 0 (.seq (.reg [⟨some 11, .mv (.t 5), none⟩, ⟨some 12, .isnil 1 false (.t 11), none⟩, ⟨some 10, .mv (.t 12), none⟩]) (.cond (.t 10) (.seq (.reg [⟨some 4, .mv (.c (.int .i64 5)), none⟩]) .ret) (.seq (.reg [⟨some 14, .mv (.t 5), none⟩, ⟨some 15, .fldA 0 (.t 14), none⟩, ⟨some 16, .fldA 0 (.t 15), none⟩, ⟨some 17, .ld 1 false (.t 16), none⟩, ⟨some 18, .bin .neq (.t 17) (.c (.int .i64 3)), none⟩, ⟨some 19, .mv (.t 18), none⟩, ⟨some 20, .mv (.t 5), some (19, true)⟩, ⟨some 21, .fldA 0 (.t 20), some (19, true)⟩, ⟨some 22, .fldA 0 (.t 21), some (19, true)⟩, ⟨some 23, .ld 1 false (.t 22), some (19, true)⟩, ⟨some 24, .bin .neq (.t 23) (.c (.int .i64 4)), some (19, true)⟩, ⟨some 25, .pick (.t 19) (.t 24) (.c (.bool false)), none⟩, ⟨some 13, .mv (.t 25), none⟩]) (.cond (.t 13) (.seq (.reg [⟨some 4, .mv (.c (.int .i64 7)), none⟩]) .ret) (.seq (.reg [⟨some 27, .fldA 5 (.t 3), none⟩, ⟨some 28, .ld 1 false (.t 27), none⟩, ⟨some 29, .lenS (.t 28), none⟩, ⟨some 30, .bin .gtr (.t 29) (.c (.int .i64 400)), none⟩, ⟨some 26, .mv (.t 30), none⟩]) (.cond (.t 26) (.seq (.reg [⟨some 4, .mv (.c (.int .i64 2)), none⟩]) .ret) .skip))))))) (.seq (.reg [⟨some 31, .mv (.t 5), none⟩, ⟨some 32, .fldA 5 (.t 3), none⟩, ⟨some 33, .ld 1 false (.t 32), none⟩, ⟨some 34, .fldA 0 (.t 31), none⟩, ⟨some 35, .fldA 3 (.t 34), none⟩, ⟨none, .st 1 (.t 35) (.t 33), none⟩]) (.seq (.reg [⟨some 4, .mv (.c (.int .i64 0)), none⟩]) .ret)))), [.tmp 4]⟩
theorem hc119 : toSF Tryd.prog {} Tryd.f119 = some c119 := by kernel_rfl
theorem hn119 : (Tryd.f119.name == "runtime.NumGoroutine") = false := by kernel_rfl
theorem etext_ok {h0 h : Heap} {re rN : Nat} {d : HDoc} {sl : Nat → AVal} {made : Int} (E : Ed h0 h re rN d sl made) (e : HEdit) (he : EditSm e) (hdo : e.do' = 3) : DCalls (Pg G) 119 [.vp re 0, .agg (eEdit e)] h (EdR h0 h re d e made) := by
  have gN := E.dw.nodes
  have hE := enode_ok (G := G) E e.at'
  have vl := he.value
  unfold nodeP at hE
  have eE : editE d e = if ¬ inD d e.at' then 5 else if (nd d e.at').kind ≠ 3 ∧ (nd d e.at').kind ≠ 4 then 7 else if 400 < e.value.length then 2 else 0 := by unfold editE; rw [if_neg (by omega), if_neg (by omega), if_pos hdo]
  have eD : editD d e = setN d e.at' { nd d e.at' with text := e.value } := by unfold editD; rw [if_neg (by omega), if_neg (by omega), if_pos hdo]
  have hm4 : made = if e.do' = 4 then (d.nodes.length : Int) else made := by rw [if_neg (by omega)]
  refine dcalls_of_vc Tryd.func119 hn119 hc119 (by rw [Tryd.ntmps119]; simp) (by rw [Tryd.ntmps119]; decide) ?_
  simp -dsimp -implicitDefEqProofs (disch := omega) only [↓vcOps_sp 19, ↓vcD_sp 19, VCA, pg_gl, ↓upd_none, Nat.reduceEqDiff, Nat.reduceBEq, Nat.reduceAdd, Nat.reduceSub, Nat.reduceMul, Nat.reduceLT, Nat.reduceLeDiff, ↓reduceIte, reduceCtorEq, rsOf, rootsOf, SOp.rd, SI.rd, SX.rd, rdL, rdO, rdP, okParts, eqCells, okEqCells, fillA, okFill, setAt, implies_true, forall_const, forall_eq, ne_eq, exists_eq_right_right, exists_eq_right, exists_eq_left, exists_eq_left', rootL, eInt, eBool, lit_eq, c119, eEdit]
  by_cases hn : inD d e.at'
  · rw [if_pos hn] at hE
    have hn' := hn.nat.1
    have gk := rowsA_get (sl := sl) hn'
    have rl := rowsA_len d sl
    have e0 : nth d.nodes e.at'.toNat = nd d e.at' := rfl
    rw [e0] at gk
    have Ec := E.cells hn' (x' := { nd d e.at' with text := e.value }) rfl rfl
    unfold rowA at gk
    rw [if_neg (by simpa using hn)] at eE
    refine DCalls.of hE ?_
    rintro _ _ ⟨rfl, rfl⟩
    by_cases hk : (nd d e.at').kind ≠ 3 ∧ (nd d e.at').kind ≠ 4
    · rw [if_pos hk] at eE
      repeat' (first | ((with_reducible refine brC (fun _ => ?_) fun _ => ?_) <;> try (exfalso; omega)) | (with_reducible refine And.intro ?_ ?_; · omega) | simp -dsimp -implicitDefEqProofs (disch := omega) only [↓vcOps_sp 19, ↓vcD_sp 19, VCA, pg_gl, ↓upd_none, Nat.reduceEqDiff, Nat.reduceBEq, Nat.reduceAdd, Nat.reduceSub, Nat.reduceMul, Nat.reduceLT, Nat.reduceLeDiff, ↓reduceIte, reduceCtorEq, rsOf, rootsOf, SOp.rd, SI.rd, SX.rd, rdL, rdO, rdP, okParts, eqCells, okEqCells, fillA, okFill, setAt, implies_true, forall_const, forall_eq, ne_eq, exists_eq_right_right, exists_eq_right, exists_eq_left, exists_eq_left', rootL, eInt, eBool, lit_eq, gN, gk, rl, e0, eEdit])
      all_goals first | (exfalso; omega) | exact ⟨_, Sub.refl _, EdR.bad eE (by decide)⟩
    · rw [if_neg hk] at eE
      by_cases hv : 400 < e.value.length
      · rw [if_pos hv] at eE
        repeat' (first | ((with_reducible refine brC (fun _ => ?_) fun _ => ?_) <;> try (exfalso; omega)) | (with_reducible refine And.intro ?_ ?_; · omega) | simp -dsimp -implicitDefEqProofs (disch := omega) only [↓vcOps_sp 19, ↓vcD_sp 19, VCA, pg_gl, ↓upd_none, Nat.reduceEqDiff, Nat.reduceBEq, Nat.reduceAdd, Nat.reduceSub, Nat.reduceMul, Nat.reduceLT, Nat.reduceLeDiff, ↓reduceIte, reduceCtorEq, rsOf, rootsOf, SOp.rd, SI.rd, SX.rd, rdL, rdO, rdP, okParts, eqCells, okEqCells, fillA, okFill, setAt, implies_true, forall_const, forall_eq, ne_eq, exists_eq_right_right, exists_eq_right, exists_eq_left, exists_eq_left', rootL, eInt, eBool, lit_eq, gN, gk, rl, e0, eEdit])
        all_goals first | (exfalso; omega) | exact ⟨_, Sub.refl _, EdR.bad eE (by decide)⟩
      · rw [if_neg hv] at eE
        repeat' (first | ((with_reducible refine brC (fun _ => ?_) fun _ => ?_) <;> try (exfalso; omega)) | (with_reducible refine And.intro ?_ ?_; · omega) | simp -dsimp -implicitDefEqProofs (disch := omega) only [↓vcOps_sp 19, ↓vcD_sp 19, VCA, pg_gl, ↓upd_none, Nat.reduceEqDiff, Nat.reduceBEq, Nat.reduceAdd, Nat.reduceSub, Nat.reduceMul, Nat.reduceLT, Nat.reduceLeDiff, ↓reduceIte, reduceCtorEq, rsOf, rootsOf, SOp.rd, SI.rd, SX.rd, rdL, rdO, rdP, okParts, eqCells, okEqCells, fillA, okFill, setAt, implies_true, forall_const, forall_eq, ne_eq, exists_eq_right_right, exists_eq_right, exists_eq_left, exists_eq_left', rootL, eInt, eBool, lit_eq, gN, gk, rl, e0, eEdit])
        all_goals first | (exfalso; omega) | exact ⟨_, Sub.refl _, EdR.good eE hm4 (by rw [eD]; exact Ec)⟩
  · rw [if_neg hn] at hE
    rw [if_pos hn] at eE
    refine DCalls.of hE ?_
    rintro _ _ ⟨rfl, rfl⟩
    repeat' (first | ((with_reducible refine brC (fun _ => ?_) fun _ => ?_) <;> try (exfalso; omega)) | (with_reducible refine And.intro ?_ ?_; · omega) | simp -dsimp -implicitDefEqProofs (disch := omega) only [↓vcOps_sp 19, ↓vcD_sp 19, VCA, pg_gl, ↓upd_none, Nat.reduceEqDiff, Nat.reduceBEq, Nat.reduceAdd, Nat.reduceSub, Nat.reduceMul, Nat.reduceLT, Nat.reduceLeDiff, ↓reduceIte, reduceCtorEq, rsOf, rootsOf, SOp.rd, SI.rd, SX.rd, rdL, rdO, rdP, okParts, eqCells, okEqCells, fillA, okFill, setAt, implies_true, forall_const, forall_eq, ne_eq, exists_eq_right_right, exists_eq_right, exists_eq_left, exists_eq_left', rootL, eInt, eBool, lit_eq])
    all_goals exact ⟨_, Sub.refl _, EdR.bad eE (by decide)⟩
end Go.Proofs.K
end
section
set_option linter.unusedSimpArgs false
set_option linter.unusedVariables false
namespace Go.Proofs.K
open Go Go.Sim Go.Proofs
variable {G : Glob}
def c131 : SFun := ⟨.seq (.reg [⟨some 6, .mv (.c .emp), none⟩]) (.seq (.reg [⟨some 8, .mv (.t 0), none⟩, ⟨some 9, .mv (.t 1), none⟩, ⟨some 10, .mv (.t 2), none⟩, ⟨some 11, .mv (.t 0), none⟩, ⟨some 12, .len (.t 11), none⟩, ⟨some 13, .slM 2 (.t 8) (some (.t 9)) (some (.t 10)) (some (.t 12)), none⟩]) (.seq (.seq (.reg [⟨some 14, .mv (.t 1), none⟩, ⟨some 15, .mv (.t 2), none⟩, ⟨some 16, .bin .eql (.t 14) (.t 15), none⟩]) (.cond (.t 16) (.seq (.reg [⟨some 17, .mv (.t 0), none⟩, ⟨some 6, .mv (.t 17), none⟩]) .ret) .skip)) (.seq (.reg [⟨some 18, .mv (.t 0), none⟩, ⟨some 19, .len (.t 18), none⟩, ⟨some 7, .mv (.t 19), none⟩]) (.seq (.dreg [(⟨some 20, .mv (.t 0), none⟩, none), (⟨some 21, .mv (.t 1), none⟩, none), (⟨some 22, .slA 2 (.t 20) none (some (.t 21)), none⟩, none), (⟨some 23, .mv (.t 0), none⟩, none), (⟨some 24, .mv (.t 2), none⟩, none), (⟨some 25, .slA 2 (.t 23) (some (.t 24)) none, none⟩, none), (⟨some 26, .appIn 71 2 (.t 22) (.t 25), none⟩, (some [])), (⟨some 0, .mv (.t 26), none⟩, (some []))]) (.seq (.reg [⟨some 27, .mv (.t 0), none⟩, ⟨some 28, .mv (.t 0), none⟩, ⟨some 29, .len (.t 28), none⟩, ⟨some 30, .mv (.t 7), none⟩, ⟨some 31, .slX 2 (.t 27) (some (.t 29)) (some (.t 30)), none⟩, ⟨none, .clear 2 [.str [], .str []] (.t 31), none⟩]) (.seq (.reg [⟨some 32, .mv (.t 0), none⟩, ⟨some 6, .mv (.t 32), none⟩]) .ret)))))), [.tmp 6]⟩
theorem hc131 : toSF Tryd.prog {how := [(26, 3), (31, 4)]} Tryd.f131 = some c131 := by kernel_rfl
theorem hn131 : (Tryd.f131.name == "runtime.NumGoroutine") = false := by kernel_rfl
theorem deleteA_ok {h : Heap} {r n i j : Nat} {es : List (List AVal)} (hr : h r = some ⟨.t 71, 2, es⟩) (hn : n ≤ es.length) (hij : i < j) (hj : j ≤ n) (hl : n ≤ 1073741824) :
    DCalls (Pg G) 131 [.osl r 2 0 n, aInt i, aInt j] h fun a h' => a = .osl r 2 0 (n - (j - i)) ∧ ∃ es', h' = upd h r (some ⟨.t 71, 2, es'⟩) ∧ n - (j - i) ≤ es'.length ∧ es'.take (n - (j - i)) = es.take i ++ (es.take n).drop j := by
  refine dcalls_of_vc Tryd.func131 hn131 hc131 (by rw [Tryd.ntmps131]; simp) (by rw [Tryd.ntmps131]; decide) ?_
  simp -dsimp -implicitDefEqProofs (disch := omega) only [VCA, pg_gl, ↓upd_none, Nat.reduceEqDiff, Nat.reduceBEq, Nat.reduceAdd, Nat.reduceSub, Nat.reduceMul, Nat.reduceLT, Nat.reduceLeDiff, ↓reduceIte, reduceCtorEq, rsOf, rootsOf, SOp.rd, SI.rd, SX.rd, rdL, rdO, rdP, okParts, eqCells, okEqCells, fillA, okFill, setAt, implies_true, forall_const, forall_eq, ne_eq, exists_eq_right_right, exists_eq_right, exists_eq_left, exists_eq_left', rootL, eInt, eBool, lit_eq, c131]
  refine ⟨by omega, Br.eq (fun h1 => by omega) (fun h1 => ?_)⟩
  simp -dsimp -implicitDefEqProofs (disch := omega) only [VCA, pg_gl, ↓upd_none, Nat.reduceEqDiff, Nat.reduceBEq, Nat.reduceAdd, Nat.reduceSub, Nat.reduceMul, Nat.reduceLT, Nat.reduceLeDiff, ↓reduceIte, reduceCtorEq, rsOf, rootsOf, SOp.rd, SI.rd, SX.rd, rdL, rdO, rdP, okParts, eqCells, okEqCells, fillA, okFill, setAt, implies_true, forall_const, forall_eq, ne_eq, exists_eq_right_right, exists_eq_right, exists_eq_left, exists_eq_left', rootL, eInt, eBool, lit_eq, hr, upd_same]
  have hL : (List.take (n - j) (List.drop j es)).length = n - j := by simp; omega
  have hT : (List.take i es).length = i := by simp; omega
  rw [hL]
  have e1 : i + (n - j) = n - (j - i) := by omega
  refine ⟨by omega, by omega, by omega, by omega, by omega, by omega, by simp; omega, by simp; omega, _, Sub.refl _, by rw [e1], _, rfl, ?_, ?_⟩
  · simp; omega
  · rw [← e1]
    have e2 : (List.take i es ++ List.take (n - j) (List.drop j es)).length = i + (n - j) := by rw [List.length_append, hT, hL]
    rw [List.take_append_of_le_length (by simp; omega), List.take_append_of_le_length (by rw [List.length_take, List.length_append, e2]; omega), List.take_take, Nat.min_eq_left (by omega), List.take_append_of_le_length (by omega), List.take_of_length_le (by omega), List.drop_take]
def c135 : SFun := ⟨.seq (.reg [⟨some 6, .mv (.c .emp), none⟩]) (.seq (.reg [⟨some 8, .mv (.t 0), none⟩, ⟨some 9, .mv (.t 1), none⟩, ⟨some 10, .mv (.t 2), none⟩, ⟨some 11, .mv (.t 0), none⟩, ⟨some 12, .len (.t 11), none⟩, ⟨some 13, .slM 1 (.t 8) (some (.t 9)) (some (.t 10)) (some (.t 12)), none⟩]) (.seq (.seq (.reg [⟨some 14, .mv (.t 1), none⟩, ⟨some 15, .mv (.t 2), none⟩, ⟨some 16, .bin .eql (.t 14) (.t 15), none⟩]) (.cond (.t 16) (.seq (.reg [⟨some 17, .mv (.t 0), none⟩, ⟨some 6, .mv (.t 17), none⟩]) .ret) .skip)) (.seq (.reg [⟨some 18, .mv (.t 0), none⟩, ⟨some 19, .len (.t 18), none⟩, ⟨some 7, .mv (.t 19), none⟩]) (.seq (.dreg [(⟨some 20, .mv (.t 0), none⟩, none), (⟨some 21, .mv (.t 1), none⟩, none), (⟨some 22, .slA 1 (.t 20) none (some (.t 21)), none⟩, none), (⟨some 23, .mv (.t 0), none⟩, none), (⟨some 24, .mv (.t 2), none⟩, none), (⟨some 25, .slA 1 (.t 23) (some (.t 24)) none, none⟩, none), (⟨some 26, .appIn 3 1 (.t 22) (.t 25), none⟩, (some [])), (⟨some 0, .mv (.t 26), none⟩, (some []))]) (.seq (.reg [⟨some 27, .mv (.t 0), none⟩, ⟨some 28, .mv (.t 0), none⟩, ⟨some 29, .len (.t 28), none⟩, ⟨some 30, .mv (.t 7), none⟩, ⟨some 31, .slX 1 (.t 27) (some (.t 29)) (some (.t 30)), none⟩, ⟨none, .clear 1 [.int .i64 0] (.t 31), none⟩]) (.seq (.reg [⟨some 32, .mv (.t 0), none⟩, ⟨some 6, .mv (.t 32), none⟩]) .ret)))))), [.tmp 6]⟩
theorem hc135 : toSF Tryd.prog {how := [(26, 3), (31, 4)]} Tryd.f135 = some c135 := by kernel_rfl
theorem hn135 : (Tryd.f135.name == "runtime.NumGoroutine") = false := by kernel_rfl
theorem deleteZ_ok {h : Heap} {r n i j : Nat} {es : List (List AVal)} (hr : h r = some ⟨.t 3, 1, es⟩) (hn : n ≤ es.length) (hij : i < j) (hj : j ≤ n) (hl : n ≤ 1073741824) :
    DCalls (Pg G) 135 [.osl r 1 0 n, aInt i, aInt j] h fun a h' => a = .osl r 1 0 (n - (j - i)) ∧ ∃ es', h' = upd h r (some ⟨.t 3, 1, es'⟩) ∧ n - (j - i) ≤ es'.length ∧ es'.take (n - (j - i)) = es.take i ++ (es.take n).drop j := by
  refine dcalls_of_vc Tryd.func135 hn135 hc135 (by rw [Tryd.ntmps135]; simp) (by rw [Tryd.ntmps135]; decide) ?_
  simp -dsimp -implicitDefEqProofs (disch := omega) only [VCA, pg_gl, ↓upd_none, Nat.reduceEqDiff, Nat.reduceBEq, Nat.reduceAdd, Nat.reduceSub, Nat.reduceMul, Nat.reduceLT, Nat.reduceLeDiff, ↓reduceIte, reduceCtorEq, rsOf, rootsOf, SOp.rd, SI.rd, SX.rd, rdL, rdO, rdP, okParts, eqCells, okEqCells, fillA, okFill, setAt, implies_true, forall_const, forall_eq, ne_eq, exists_eq_right_right, exists_eq_right, exists_eq_left, exists_eq_left', rootL, eInt, eBool, lit_eq, c135]
  refine ⟨by omega, Br.eq (fun h1 => by omega) (fun h1 => ?_)⟩
  simp -dsimp -implicitDefEqProofs (disch := omega) only [VCA, pg_gl, ↓upd_none, Nat.reduceEqDiff, Nat.reduceBEq, Nat.reduceAdd, Nat.reduceSub, Nat.reduceMul, Nat.reduceLT, Nat.reduceLeDiff, ↓reduceIte, reduceCtorEq, rsOf, rootsOf, SOp.rd, SI.rd, SX.rd, rdL, rdO, rdP, okParts, eqCells, okEqCells, fillA, okFill, setAt, implies_true, forall_const, forall_eq, ne_eq, exists_eq_right_right, exists_eq_right, exists_eq_left, exists_eq_left', rootL, eInt, eBool, lit_eq, hr, upd_same]
  have hL : (List.take (n - j) (List.drop j es)).length = n - j := by simp; omega
  have hT : (List.take i es).length = i := by simp; omega
  rw [hL]
  have e1 : i + (n - j) = n - (j - i) := by omega
  refine ⟨by omega, by omega, by omega, by omega, by omega, by omega, by simp; omega, by simp; omega, _, Sub.refl _, by rw [e1], _, rfl, ?_, ?_⟩
  · simp; omega
  · rw [← e1]
    have e2 : (List.take i es ++ List.take (n - j) (List.drop j es)).length = i + (n - j) := by rw [List.length_append, hT, hL]
    rw [List.take_append_of_le_length (by simp; omega), List.take_append_of_le_length (by rw [List.length_take, List.length_append, e2]; omega), List.take_take, Nat.min_eq_left (by omega), List.take_append_of_le_length (by omega), List.take_of_length_le (by omega), List.drop_take]
section
variable {h0 h : Heap} {re rN : Nat} {d : HDoc} {sl : Nat → AVal} {made : Int}
theorem Ed.root_ne (E : Ed h0 h re rN d sl made) {k : Nat} (hk : k < 2 * d.nodes.length) {r : Nat} (hr : rootOf (sl k) = some r) : r ≠ rN ∧ r ≠ re := ⟨(E.dw.fresh k hk r hr).2.1, fun e => (E.dw.fresh k hk r hr).2.2 (by simp [e])⟩
theorem Ed.slotA (E : Ed h0 h re rN d sl made) {i : Nat} (hi : i < d.nodes.length) {h1 : Heap} {a' : AVal} {l' : List HAttr} (kp : ∀ r o, h r = some o → rootOf (sl (2 * i)) ≠ some r → h1 r = some o)
    (O : OwnS h1 71 2 (l'.map eAttr) a') (M : Mut a') (fr : ∀ r, rootOf a' = some r → rootOf (sl (2 * i)) = some r ∨ h r = none) :
    Ed h0 (upd h1 rN (some ⟨.t 29, 6, (rowsA d sl).set i (rowA { nth d.nodes i with attrs := l' } a' (sl (2 * i + 1)))⟩)) re rN ⟨d.nodes.set i { nth d.nodes i with attrs := l' }, d.quirks⟩ (upd sl (2 * i) a') made := by
  have e1 : upd sl (2 * i) a' (2 * i) = a' := upd_same _ _ _
  have e2 : upd sl (2 * i) a' (2 * i + 1) = sl (2 * i + 1) := upd_ne _ _ (by omega)
  obtain ⟨g1, g2⟩ := E.dw.own i hi
  have fN : ∀ r, rootOf a' = some r → r ≠ rN := fun r hr e => by
    rcases fr r hr with h | h
    · exact (E.root_ne (by omega) h).1 e
    · rw [e, E.dw.nodes] at h; cases h
  refine E.put hi (fun j h1 _ => upd_ne _ _ h1) (by rw [e1, e2, upd_same]) (fun r o ho hne h2 _ => by rw [upd_ne _ _ hne]; exact kp r o ho h2) ?_ ?_ ?_ ?_ ?_
  · rw [e1]; exact O.keep fun r o hr ho => by rw [upd_ne _ _ (fN r hr)]; exact ho
  · rw [e2]; exact g2.keep fun r o hr ho => by
      rw [upd_ne _ _ (E.root_ne (by omega) hr).1]
      exact kp r o ho fun h => E.dw.sep _ _ (by omega) (by omega) (by omega) r h hr
  · rw [e1, e2]
    rintro r (hr | hr)
    · rcases fr r hr with h | h
      · exact .inl h
      · exact .inr (.inr h)
    · exact .inr (.inl hr)
  · rw [e1, e2]
    intro r hr hr2
    rcases fr r hr with h | h
    · exact E.dw.sep _ _ (by omega) (by omega) (by omega) r h hr2
    · obtain ⟨o, ho⟩ := g2.root hr2; rw [h] at ho; cases ho
  · rw [e1, e2]; exact ⟨M, E.live _ (by omega)⟩
theorem Ed.slotK (E : Ed h0 h re rN d sl made) {i : Nat} (hi : i < d.nodes.length) {h1 : Heap} {a' : AVal} {l' : List Int} (kp : ∀ r o, h r = some o → rootOf (sl (2 * i + 1)) ≠ some r → h1 r = some o)
    (O : OwnS h1 3 1 (l'.map eInt) a') (M : Mut a') (fr : ∀ r, rootOf a' = some r → rootOf (sl (2 * i + 1)) = some r ∨ h r = none) :
    Ed h0 (upd h1 rN (some ⟨.t 29, 6, (rowsA d sl).set i (rowA { nth d.nodes i with kids := l' } (sl (2 * i)) a')⟩)) re rN ⟨d.nodes.set i { nth d.nodes i with kids := l' }, d.quirks⟩ (upd sl (2 * i + 1) a') made := by
  have e1 : upd sl (2 * i + 1) a' (2 * i + 1) = a' := upd_same _ _ _
  have e2 : upd sl (2 * i + 1) a' (2 * i) = sl (2 * i) := upd_ne _ _ (by omega)
  obtain ⟨g1, g2⟩ := E.dw.own i hi
  have fN : ∀ r, rootOf a' = some r → r ≠ rN := fun r hr e => by
    rcases fr r hr with h | h
    · exact (E.root_ne (by omega) h).1 e
    · rw [e, E.dw.nodes] at h; cases h
  refine E.put hi (fun j _ h2 => upd_ne _ _ h2) (by rw [e1, e2, upd_same]) (fun r o ho hne _ h2 => by rw [upd_ne _ _ hne]; exact kp r o ho h2) ?_ ?_ ?_ ?_ ?_
  · rw [e2]; exact g1.keep fun r o hr ho => by
      rw [upd_ne _ _ (E.root_ne (by omega) hr).1]
      exact kp r o ho fun h => E.dw.sep _ _ (by omega) (by omega) (by omega) r h hr
  · rw [e1]; exact O.keep fun r o hr ho => by rw [upd_ne _ _ (fN r hr)]; exact ho
  · rw [e1, e2]
    rintro r (hr | hr)
    · exact .inl hr
    · rcases fr r hr with h | h
      · exact .inr (.inl h)
      · exact .inr (.inr h)
  · rw [e1, e2]
    intro r hr hr2
    rcases fr r hr2 with h | h
    · exact E.dw.sep _ _ (by omega) (by omega) (by omega) r hr h
    · obtain ⟨o, ho⟩ := g1.root hr; rw [h] at ho; cases ho
  · rw [e1, e2]; exact ⟨E.live _ (by omega), M⟩
theorem Ed.inA (E : Ed h0 h re rN d sl made) {i : Nat} (hi : i < d.nodes.length) {h1 : Heap} {l' : List HAttr} (kp : ∀ r o, h r = some o → rootOf (sl (2 * i)) ≠ some r → h1 r = some o)
    (O : OwnS h1 71 2 (l'.map eAttr) (sl (2 * i))) : Ed h0 h1 re rN ⟨d.nodes.set i { nth d.nodes i with attrs := l' }, d.quirks⟩ sl made := by
  have g := E.slotA hi kp O (E.live _ (by omega)) (fun r hr => .inl hr)
  have e : upd sl (2 * i) (sl (2 * i)) = sl := by
    funext j; unfold upd; split
    · rename_i h; rw [h]
    · rfl
  have hN : h1 rN = some ⟨.t 29, 6, rowsA d sl⟩ := kp rN _ E.dw.nodes (fun h => (E.root_ne (by omega) h).1 rfl)
  have rs : (rowsA d sl).set i (rowA { nth d.nodes i with attrs := l' } (sl (2 * i)) (sl (2 * i + 1))) = rowsA d sl := by
    apply List.ext_getElem?
    intro j
    rw [List.getElem?_set]
    split
    · rename_i h; subst h
      rw [if_pos (by rw [rowsA_len]; exact hi)]
      unfold rowsA
      rw [List.getElem?_map, List.getElem?_range hi]; rfl
    · rfl
  rw [e, rs, upd_id hN] at g
  exact g
end
theorem find_own {h : Heap} {l : List HAttr} {a : AVal} (O : OwnS h 71 2 (l.map eAttr) a) (name : List UInt8) (hl : l.length ≤ 1073741824) : DCalls (Pg G) 116 [a, .str name] h fun r h' => r = aInt (attrAt l name) ∧ h' = h :=
  DCalls.bor (find_ok (G := G) l name hl) (.int _ _) (.cons O.vw (.cons (.refl _) .nil))
def c118 : SFun := ⟨.seq (.reg [⟨some 3, .boxF 101 12 (.t 1), none⟩, ⟨some 4, .mv (.c (.int .i64 0)), none⟩]) (.seq (.reg [⟨some 9, .mv (.t 0), none⟩, ⟨some 10, .fldA 1 (.t 3), none⟩, ⟨some 11, .ld 1 false (.t 10), none⟩, ⟨some 12, .call (.c (.fn 130 [] [])) [.t 9, .t 11], none⟩, ⟨some 8, .mv (.t 12), none⟩, ⟨some 13, .ext (.t 8) 0, none⟩, ⟨some 14, .ext (.t 8) 1, none⟩, ⟨some 5, .mv (.t 13), none⟩, ⟨some 6, .mv (.t 14), none⟩]) (.seq (.seq (.reg [⟨some 15, .mv (.t 6), none⟩, ⟨some 16, .bin .neq (.t 15) (.c (.int .i64 0)), none⟩]) (.cond (.t 16) (.seq (.reg [⟨some 17, .mv (.t 6), none⟩, ⟨some 4, .mv (.t 17), none⟩]) .ret) .skip)) (.seq (.dreg [(⟨some 18, .mv (.t 5), none⟩, none), (⟨some 19, .fldA 0 (.t 18), none⟩, none), (⟨some 20, .fldA 2 (.t 19), none⟩, none), (⟨some 21, .ld 1 false (.t 20), none⟩, none), (⟨some 22, .fldA 4 (.t 3), none⟩, none), (⟨some 23, .ld 1 false (.t 22), none⟩, none), (⟨some 24, .call (.c (.fn 116 [] [])) [.t 21, .t 23], none⟩, (some [21, 23])), (⟨some 7, .mv (.t 24), none⟩, none)]) (.seq (.seq (.reg [⟨some 25, .mv (.t 7), none⟩, ⟨some 26, .bin .lss (.t 25) (.c (.int .i64 0)), none⟩]) (.cond (.t 26) (.seq (.reg [⟨some 4, .mv (.c (.int .i64 5)), none⟩]) .ret) .skip)) (.seq (.reg [⟨some 27, .mv (.t 5), none⟩, ⟨some 28, .mv (.t 5), none⟩, ⟨some 29, .fldA 0 (.t 28), none⟩, ⟨some 30, .fldA 2 (.t 29), none⟩, ⟨some 31, .ld 1 false (.t 30), none⟩, ⟨some 32, .mv (.t 7), none⟩, ⟨some 33, .mv (.t 7), none⟩, ⟨some 34, .bin .add (.t 33) (.c (.int .i64 1)), none⟩, ⟨some 35, .call (.c (.fn 131 [] [])) [.t 31, .t 32, .t 34], none⟩, ⟨some 36, .fldA 0 (.t 27), none⟩, ⟨some 37, .fldA 2 (.t 36), none⟩, ⟨none, .st 1 (.t 37) (.t 35), none⟩]) (.seq (.reg [⟨some 4, .mv (.c (.int .i64 0)), none⟩]) .ret)))))), [.tmp 4]⟩
theorem hc118 : toSF Tryd.prog {} Tryd.f118 = some c118 := by kernel_rfl
theorem hn118 : (Tryd.f118.name == "runtime.NumGoroutine") = false := by kernel_rfl
theorem edrop_ok {h0 h : Heap} {re rN : Nat} {d : HDoc} {sl : Nat → AVal} {made : Int} (E : Ed h0 h re rN d sl made) (sm : DocSm d) (e : HEdit) (he : EditSm e) (hdo : e.do' = 2) : DCalls (Pg G) 118 [.vp re 0, .agg (eEdit e)] h (EdR h0 h re d e made) := by
  have gN := E.dw.nodes
  have hE := element_ok (G := G) E e.at'
  have eE : editE d e = if ¬ inD d e.at' then 5 else if (nd d e.at').kind ≠ 2 then 7 else if ¬ 0 ≤ attrAt (nd d e.at').attrs e.name then 5 else 0 := by unfold editE; rw [if_neg (by omega), if_pos hdo]
  have eD : editD d e = setN d e.at' { nd d e.at' with attrs := dropAttr (nd d e.at').attrs e.name } := by unfold editD; rw [if_neg (by omega), if_pos hdo]
  have hm4 : made = if e.do' = 4 then (d.nodes.length : Int) else made := by rw [if_neg (by omega)]
  refine dcalls_of_vc Tryd.func118 hn118 hc118 (by rw [Tryd.ntmps118]; simp) (by rw [Tryd.ntmps118]; decide) ?_
  simp -dsimp -implicitDefEqProofs (disch := omega) only [VCA, pg_gl, ↓upd_none, Nat.reduceEqDiff, Nat.reduceBEq, Nat.reduceAdd, Nat.reduceSub, Nat.reduceMul, Nat.reduceLT, Nat.reduceLeDiff, ↓reduceIte, reduceCtorEq, rsOf, rootsOf, SOp.rd, SI.rd, SX.rd, rdL, rdO, rdP, okParts, eqCells, okEqCells, fillA, okFill, setAt, implies_true, forall_const, forall_eq, ne_eq, exists_eq_right_right, exists_eq_right, exists_eq_left, exists_eq_left', rootL, eInt, eBool, lit_eq, c118, eEdit]
  by_cases hz : elemE d e.at' = 0
  · have hn : inD d e.at' := by
      unfold elemE at hz; split at hz
      · omega
      · rename_i h; exact Classical.not_not.1 h
    have hk : (nd d e.at').kind = 2 := by
      unfold elemE at hz; rw [if_neg (by simpa using hn)] at hz; split at hz
      · omega
      · rename_i h; exact Classical.not_not.1 h
    rw [hz, if_pos rfl] at hE
    rw [if_neg (by simpa using hn), if_neg (by simpa using hk)] at eE
    have hn' := hn.nat.1
    have gk := rowsA_get (sl := sl) hn'
    have rl := rowsA_len d sl
    have e0 : nth d.nodes e.at'.toNat = nd d e.at' := rfl
    rw [e0] at gk
    obtain ⟨oA, oK⟩ := E.dw.own _ hn'
    rw [e0] at oA
    have al := (sm.nd e.at').attrs
    have hF := find_own (G := G) oA e.name al
    have lv := E.live (2 * e.at'.toNat) (by omega)
    unfold rowA at gk
    by_cases hi0 : 0 ≤ attrAt (nd d e.at').attrs e.name
    · obtain ⟨g1, g2, g3⟩ := attrAt_spec _ _ hi0
      rw [if_neg (by simpa using hi0)] at eE
      have hda : dropAttr (nd d e.at').attrs e.name = (nd d e.at').attrs.take (attrAt (nd d e.at').attrs e.name).toNat ++ (nd d e.at').attrs.drop ((attrAt (nd d e.at').attrs e.name).toNat + 1) := rfl
      rw [← g3] at hF
      rcases oA.live lv with ⟨q, _⟩ | ⟨r, es, ha, hr, hl, ht⟩
      · have : (nd d e.at').attrs = [] := by simpa using q
        rw [this] at g1; simp at g1
      · rw [List.length_map] at ha hl ht
        have hD := deleteA_ok (G := G) (i := (attrAt (nd d e.at').attrs e.name).toNat) (j := (attrAt (nd d e.at').attrs e.name).toNat + 1) hr hl (by omega) (by omega) (by omega)
        have SA := fun h1 a' => E.slotA hn' (h1 := h1) (a' := a') (l' := dropAttr (nd d e.at').attrs e.name)
        rw [ha] at gk hF SA
        generalize (attrAt (nd d e.at').attrs e.name).toNat = i at *
        have hnr : ¬ rN = r := fun h => (E.root_ne (k := 2 * e.at'.toNat) (by omega) (by rw [ha]; rfl)).1 h.symm
        refine DCalls.of hE ?_
        rintro _ hh ⟨rfl, rfl⟩
        repeat' (first | ((with_reducible refine brC (fun _ => ?_) fun _ => ?_) <;> try (exfalso; omega)) | ((refine DCalls.of hF ?_; rintro _ hh ⟨rfl, rfl⟩)) | (with_reducible refine And.intro ?_ ?_; · omega) | simp -dsimp -implicitDefEqProofs (disch := omega) only [VCA, pg_gl, ↓upd_none, Nat.reduceEqDiff, Nat.reduceBEq, Nat.reduceAdd, Nat.reduceSub, Nat.reduceMul, Nat.reduceLT, Nat.reduceLeDiff, ↓reduceIte, reduceCtorEq, rsOf, rootsOf, SOp.rd, SI.rd, SX.rd, rdL, rdO, rdP, okParts, eqCells, okEqCells, fillA, okFill, setAt, implies_true, forall_const, forall_eq, ne_eq, exists_eq_right_right, exists_eq_right, exists_eq_left, exists_eq_left', rootL, eInt, eBool, lit_eq, gN, gk, rl, e0, eEdit])
        all_goals try (exfalso; omega)
        refine DCalls.of hD ?_
        rintro _ _ ⟨rfl, es', rfl, hl2, ht2⟩
        repeat' (first | ((with_reducible refine brC (fun _ => ?_) fun _ => ?_) <;> try (exfalso; omega)) | (with_reducible refine And.intro ?_ ?_; · omega) | simp -dsimp -implicitDefEqProofs (disch := omega) only [VCA, pg_gl, ↓upd_none, Nat.reduceEqDiff, Nat.reduceBEq, Nat.reduceAdd, Nat.reduceSub, Nat.reduceMul, Nat.reduceLT, Nat.reduceLeDiff, ↓reduceIte, reduceCtorEq, rsOf, rootsOf, SOp.rd, SI.rd, SX.rd, rdL, rdO, rdP, okParts, eqCells, okEqCells, fillA, okFill, setAt, implies_true, forall_const, forall_eq, ne_eq, exists_eq_right_right, exists_eq_right, exists_eq_left, exists_eq_left', rootL, eInt, eBool, lit_eq, gN, gk, rl, e0, hnr])
        have ln : (dropAttr (nd d e.at').attrs e.name).length = (nd d e.at').attrs.length - (i + 1 - i) := by
          rw [hda, List.length_append, List.length_take, List.length_drop]; omega
        have hO : OwnS (upd hh r (some ⟨.t 71, 2, es'⟩)) 71 2 ((dropAttr (nd d e.at').attrs e.name).map eAttr) (.osl r 2 0 ((nd d e.at').attrs.length - (i + 1 - i))) :=
          .inr (.inr ⟨r, es', by rw [List.length_map, ln], upd_same _ _ _, by rw [List.length_map, ln]; exact hl2, by
            rw [List.length_map, ln, ht2, hda, List.map_append, List.map_take, List.map_drop, ← ht, List.take_take, Nat.min_eq_left (by omega)]⟩)
        refine ⟨_, Sub.refl _, EdR.good eE hm4 (by rw [eD]; exact SA _ _ (fun t o ho hne => by rw [upd_ne _ _ (fun e => hne (by rw [e]; rfl))]; exact ho) hO (fun es e => by cases e) (fun t ht => .inl ht))⟩
    · rw [if_pos hi0] at eE
      refine DCalls.of hE ?_
      rintro _ hh ⟨rfl, rfl⟩
      repeat' (first | ((with_reducible refine brC (fun _ => ?_) fun _ => ?_) <;> try (exfalso; omega)) | ((refine DCalls.of hF ?_; rintro _ hh ⟨rfl, rfl⟩)) | (with_reducible refine And.intro ?_ ?_; · omega) | simp -dsimp -implicitDefEqProofs (disch := omega) only [VCA, pg_gl, ↓upd_none, Nat.reduceEqDiff, Nat.reduceBEq, Nat.reduceAdd, Nat.reduceSub, Nat.reduceMul, Nat.reduceLT, Nat.reduceLeDiff, ↓reduceIte, reduceCtorEq, rsOf, rootsOf, SOp.rd, SI.rd, SX.rd, rdL, rdO, rdP, okParts, eqCells, okEqCells, fillA, okFill, setAt, implies_true, forall_const, forall_eq, ne_eq, exists_eq_right_right, exists_eq_right, exists_eq_left, exists_eq_left', rootL, eInt, eBool, lit_eq, gN, gk, rl, e0, eEdit])
      all_goals first | (exfalso; omega) | exact ⟨_, Sub.refl _, EdR.bad eE (by decide)⟩
  · rw [if_neg hz] at hE
    have eE2 : editE d e = elemE d e.at' := by
      unfold elemE at hz ⊢
      rw [eE]
      by_cases hn : inD d e.at'
      · rw [if_neg (by simpa using hn)] at hz ⊢
        by_cases hk : (nd d e.at').kind ≠ 2
        · rw [if_neg (show ¬ ¬ inD d e.at' from fun h => h hn)]; rw [if_pos hk]
          try rw [if_pos hk]
        · rw [if_neg hk] at hz; exact absurd rfl hz
      · rw [if_pos hn, if_pos hn]
    refine DCalls.of hE ?_
    rintro _ hh ⟨rfl, rfl⟩
    repeat' (first | ((with_reducible refine brC (fun _ => ?_) fun _ => ?_) <;> try (exfalso; omega)) | (with_reducible refine And.intro ?_ ?_; · omega) | simp -dsimp -implicitDefEqProofs (disch := omega) only [VCA, pg_gl, ↓upd_none, Nat.reduceEqDiff, Nat.reduceBEq, Nat.reduceAdd, Nat.reduceSub, Nat.reduceMul, Nat.reduceLT, Nat.reduceLeDiff, ↓reduceIte, reduceCtorEq, rsOf, rootsOf, SOp.rd, SI.rd, SX.rd, rdL, rdO, rdP, okParts, eqCells, okEqCells, fillA, okFill, setAt, implies_true, forall_const, forall_eq, ne_eq, exists_eq_right_right, exists_eq_right, exists_eq_left, exists_eq_left', rootL, eInt, eBool, lit_eq, hz])
    all_goals exact ⟨_, Sub.refl _, EdR.bad eE2 hz⟩
end Go.Proofs.K
end
section
set_option linter.unusedSimpArgs false
set_option linter.unusedVariables false
namespace Go.Proofs.K
open Go Go.Sim Go.Proofs
variable {G : Glob}
theorem elem_zero {d : HDoc} {n : Int} (hz : elemE d n = 0) : inD d n ∧ (nd d n).kind = 2 := by
  unfold elemE at hz
  split at hz
  · omega
  · rename_i h
    have hn := Classical.not_not.1 h
    split at hz
    · omega
    · rename_i h2; exact ⟨hn, Classical.not_not.1 h2⟩
def c117 : SFun := ⟨.seq (.reg [⟨some 3, .boxF 101 12 (.t 1), none⟩, ⟨some 4, .mv (.c (.int .i64 0)), none⟩]) (.seq (.reg [⟨some 9, .mv (.t 0), none⟩, ⟨some 10, .fldA 1 (.t 3), none⟩, ⟨some 11, .ld 1 false (.t 10), none⟩, ⟨some 12, .call (.c (.fn 130 [] [])) [.t 9, .t 11], none⟩, ⟨some 8, .mv (.t 12), none⟩, ⟨some 13, .ext (.t 8) 0, none⟩, ⟨some 14, .ext (.t 8) 1, none⟩, ⟨some 5, .mv (.t 13), none⟩, ⟨some 6, .mv (.t 14), none⟩]) (.seq (.seq (.reg [⟨some 15, .mv (.t 6), none⟩, ⟨some 16, .bin .neq (.t 15) (.c (.int .i64 0)), none⟩]) (.cond (.t 16) (.seq (.reg [⟨some 17, .mv (.t 6), none⟩, ⟨some 4, .mv (.t 17), none⟩]) .ret) .skip)) (.seq (.dreg [(⟨some 18, .mv (.t 5), none⟩, none), (⟨some 19, .fldA 0 (.t 18), none⟩, none), (⟨some 20, .fldA 2 (.t 19), none⟩, none), (⟨some 21, .ld 1 false (.t 20), none⟩, none), (⟨some 22, .fldA 4 (.t 3), none⟩, none), (⟨some 23, .ld 1 false (.t 22), none⟩, none), (⟨some 24, .call (.c (.fn 116 [] [])) [.t 21, .t 23], none⟩, (some [21, 23])), (⟨some 7, .mv (.t 24), none⟩, none)]) (.seq (.block 0 (.seq (.reg [⟨some 26, .fldA 4 (.t 3), none⟩, ⟨some 27, .ld 1 false (.t 26), none⟩, ⟨some 28, .pcall 115 [.t 27], none⟩, ⟨some 29, .un .not (.t 28), none⟩, ⟨some 25, .mv (.t 29), none⟩]) (.cond (.t 25) (.seq (.reg [⟨some 4, .mv (.c (.int .i64 3)), none⟩]) .ret) (.seq (.reg [⟨some 31, .fldA 5 (.t 3), none⟩, ⟨some 32, .ld 1 false (.t 31), none⟩, ⟨some 33, .lenS (.t 32), none⟩, ⟨some 34, .bin .gtr (.t 33) (.c (.int .i64 400)), none⟩, ⟨some 35, .mv (.t 34), none⟩, ⟨some 36, .mv (.t 7), some (35, false)⟩, ⟨some 37, .bin .lss (.t 36) (.c (.int .i64 0)), some (35, false)⟩, ⟨some 38, .mv (.t 37), some (35, false)⟩, ⟨some 39, .mv (.t 5), some (38, true)⟩, ⟨some 40, .fldA 0 (.t 39), some (38, true)⟩, ⟨some 41, .fldA 2 (.t 40), some (38, true)⟩, ⟨some 42, .ld 1 false (.t 41), some (38, true)⟩, ⟨some 43, .len (.t 42), some (38, true)⟩, ⟨some 44, .bin .eql (.t 43) (.c (.int .i64 12)), some (38, true)⟩, ⟨some 45, .pick (.t 38) (.t 44) (.c (.bool false)), some (35, false)⟩, ⟨some 46, .pick (.t 35) (.c (.bool true)) (.t 45), none⟩, ⟨some 30, .mv (.t 46), none⟩]) (.cond (.t 30) (.seq (.reg [⟨some 4, .mv (.c (.int .i64 2)), none⟩]) .ret) (.seq (.reg [⟨some 48, .mv (.t 7), none⟩, ⟨some 49, .bin .lss (.t 48) (.c (.int .i64 0)), none⟩, ⟨some 47, .mv (.t 49), none⟩]) (.cond (.t 47) (.seq (.dreg [(⟨some 50, .mv (.t 5), none⟩, none), (⟨some 51, .mv (.t 5), none⟩, none), (⟨some 52, .fldA 0 (.t 51), none⟩, none), (⟨some 53, .fldA 2 (.t 52), none⟩, none), (⟨some 54, .ld 1 false (.t 53), none⟩, none), (⟨some 55, .fldA 4 (.t 3), none⟩, none), (⟨some 56, .ld 1 false (.t 55), none⟩, none), (⟨some 57, .bld [.str [], .str []] [(0, (1, (.t 56)))], none⟩, none), (⟨some 58, .bldF 71 2 [.t 57], none⟩, none), (⟨some 59, .app 71 2 32 (.t 54) (.t 58), none⟩, (some [54, 56])), (⟨some 60, .fldA 0 (.t 50), none⟩, none), (⟨some 61, .fldA 2 (.t 60), none⟩, none), (⟨none, .st 1 (.t 61) (.t 59), none⟩, (some [54, 56]))]) (.reg [⟨some 62, .mv (.t 5), none⟩, ⟨some 63, .fldA 0 (.t 62), none⟩, ⟨some 64, .fldA 2 (.t 63), none⟩, ⟨some 65, .ld 1 false (.t 64), none⟩, ⟨some 66, .len (.t 65), none⟩, ⟨some 67, .bin .sub (.t 66) (.c (.int .i64 1)), none⟩, ⟨some 7, .mv (.t 67), none⟩])) .skip))))))) (.seq (.dreg [(⟨some 68, .mv (.t 5), none⟩, none), (⟨some 69, .fldA 0 (.t 68), none⟩, none), (⟨some 70, .fldA 2 (.t 69), none⟩, none), (⟨some 71, .ld 1 false (.t 70), none⟩, none), (⟨some 72, .mv (.t 7), none⟩, none), (⟨some 73, .fldA 5 (.t 3), none⟩, none), (⟨some 74, .ld 1 false (.t 73), none⟩, none), (⟨some 75, .idxA 2 (.t 71) (.t 72), none⟩, none), (⟨some 76, .fldA 1 (.t 75), none⟩, none), (⟨none, .st 1 (.t 76) (.t 74), none⟩, (some [71, 74]))]) (.seq (.reg [⟨some 4, .mv (.c (.int .i64 0)), none⟩]) .ret)))))), [.tmp 4]⟩
theorem hc117 : toSF Tryd.prog {pure := [115]} Tryd.f117 = some c117 := by kernel_rfl
theorem hn117 : (Tryd.f117.name == "runtime.NumGoroutine") = false := by kernel_rfl
theorem eattr_ok {h0 h : Heap} {re rN : Nat} {d : HDoc} {sl : Nat → AVal} {made : Int} (E : Ed h0 h re rN d sl made) (sm : DocSm d) (al12 : ∀ n, inD d n → (nd d n).attrs.length ≤ 12) (e : HEdit) (he : EditSm e) (hdo : e.do' = 1) : DCalls (Pg G) 117 [.vp re 0, .agg (eEdit e)] h (EdR h0 h re d e made) := by
  have gN := E.dw.nodes
  have hE := element_ok (G := G) E e.at'
  have vl := he.value
  have eE : editE d e = if ¬ inD d e.at' then 5 else if (nd d e.at').kind ≠ 2 then 7 else if nameOK false e.name = false then 3
    else if 400 < e.value.length ∨ (¬ 0 ≤ attrAt (nd d e.at').attrs e.name ∧ (nd d e.at').attrs.length = 12) then 2 else 0 := by unfold editE; rw [if_pos hdo]
  have eD : editD d e = setN d e.at' { nd d e.at' with attrs := setAttr (nd d e.at').attrs e.name e.value } := by unfold editD; rw [if_pos hdo]
  have hm4 : made = if e.do' = 4 then (d.nodes.length : Int) else made := by rw [if_neg (by omega)]
  have hAN := attrName_ok (G := G) e.name he.name
  refine dcalls_of_vc Tryd.func117 hn117 hc117 (by rw [Tryd.ntmps117]; simp) (by rw [Tryd.ntmps117]; decide) ?_
  simp -dsimp -implicitDefEqProofs (disch := omega) only [↓vcOps_sp 35, ↓vcD_sp 35, ↓vcOps_sp 38, ↓vcD_sp 38, VCA, pg_gl, ↓upd_none, Nat.reduceEqDiff, Nat.reduceBEq, Nat.reduceAdd, Nat.reduceSub, Nat.reduceMul, Nat.reduceLT, Nat.reduceLeDiff, ↓reduceIte, reduceCtorEq, rsOf, rootsOf, SOp.rd, SI.rd, SX.rd, rdL, rdO, rdP, okParts, eqCells, okEqCells, fillA, okFill, setAt, implies_true, forall_const, forall_eq, ne_eq, exists_eq_right_right, exists_eq_right, exists_eq_left, exists_eq_left', rootL, eInt, eBool, lit_eq, c117, eEdit]
  by_cases hz : elemE d e.at' = 0
  · obtain ⟨hn, hk⟩ := elem_zero hz
    rw [hz, if_pos rfl] at hE
    rw [if_neg (by simpa using hn), if_neg (by simpa using hk)] at eE
    have hn' := hn.nat.1
    have gk := rowsA_get (sl := sl) hn'
    have rl := rowsA_len d sl
    have e0 : nth d.nodes e.at'.toNat = nd d e.at' := rfl
    rw [e0] at gk
    obtain ⟨oA, oK⟩ := E.dw.own _ hn'
    rw [e0] at oA
    have al := (sm.nd e.at').attrs
    have a12 := al12 _ hn
    have hF := find_own (G := G) oA e.name al
    have lv := E.live (2 * e.at'.toNat) (by omega)
    unfold rowA at gk
    have oL := oA.len.1
    have oL2 := oA.len.2
    rw [List.length_map] at oL
    by_cases h3 : nameOK false e.name = false
    · rw [if_pos h3] at eE
      rw [h3] at hAN
      refine DCalls.of hE ?_
      rintro _ hh ⟨rfl, rfl⟩
      repeat' (first | ((with_reducible refine brC (fun _ => ?_) fun _ => ?_) <;> try (exfalso; omega)) | ((refine DCalls.of hF ?_; rintro _ hh ⟨rfl, rfl⟩)) | (with_reducible apply pcallE.of; · exact hAN) | (with_reducible refine And.intro ?_ ?_; · omega) | simp -dsimp -implicitDefEqProofs (disch := omega) only [↓vcOps_sp 35, ↓vcD_sp 35, ↓vcOps_sp 38, ↓vcD_sp 38, VCA, pg_gl, ↓upd_none, Nat.reduceEqDiff, Nat.reduceBEq, Nat.reduceAdd, Nat.reduceSub, Nat.reduceMul, Nat.reduceLT, Nat.reduceLeDiff, ↓reduceIte, reduceCtorEq, rsOf, rootsOf, SOp.rd, SI.rd, SX.rd, rdL, rdO, rdP, okParts, eqCells, okEqCells, fillA, okFill, setAt, implies_true, forall_const, forall_eq, ne_eq, exists_eq_right_right, exists_eq_right, exists_eq_left, exists_eq_left', rootL, eInt, eBool, lit_eq, gN, gk, rl, e0, eEdit])
      all_goals first | (exfalso; omega) | exact ⟨_, Sub.refl _, EdR.bad eE (by decide)⟩
    · rw [if_neg h3] at eE
      have h3' : nameOK false e.name = true := by simpa using h3
      rw [h3'] at hAN
      by_cases h2 : 400 < e.value.length ∨ (¬ 0 ≤ attrAt (nd d e.at').attrs e.name ∧ (nd d e.at').attrs.length = 12)
      · rw [if_pos h2] at eE
        refine DCalls.of hE ?_
        rintro _ hh ⟨rfl, rfl⟩
        repeat' (first | ((with_reducible refine brC (fun _ => ?_) fun _ => ?_) <;> try (exfalso; omega)) | ((refine DCalls.of hF ?_; rintro _ hh ⟨rfl, rfl⟩)) | (with_reducible apply pcallE.of; · exact hAN) | (with_reducible refine And.intro ?_ ?_; · omega) | simp -dsimp -implicitDefEqProofs (disch := omega) only [↓vcOps_sp 35, ↓vcD_sp 35, ↓vcOps_sp 38, ↓vcD_sp 38, VCA, pg_gl, ↓upd_none, Nat.reduceEqDiff, Nat.reduceBEq, Nat.reduceAdd, Nat.reduceSub, Nat.reduceMul, Nat.reduceLT, Nat.reduceLeDiff, ↓reduceIte, reduceCtorEq, rsOf, rootsOf, SOp.rd, SI.rd, SX.rd, rdL, rdO, rdP, okParts, eqCells, okEqCells, fillA, okFill, setAt, implies_true, forall_const, forall_eq, ne_eq, exists_eq_right_right, exists_eq_right, exists_eq_left, exists_eq_left', rootL, eInt, eBool, lit_eq, gN, gk, rl, e0, eEdit, oL, oL2])
        all_goals first | (exfalso; omega) | exact ⟨_, Sub.refl _, EdR.bad eE (by decide)⟩ | trace_state
      · rw [if_neg h2] at eE
        by_cases hi0 : 0 ≤ attrAt (nd d e.at').attrs e.name
        · obtain ⟨g1, g2, g3⟩ := attrAt_spec _ _ hi0
          have hsa : setAttr (nd d e.at').attrs e.name e.value = (nd d e.at').attrs.set (attrAt (nd d e.at').attrs e.name).toNat ⟨e.name, e.value⟩ := by unfold setAttr; rw [if_pos hi0]
          rw [← g3] at hF
          rcases oA.live lv with ⟨q, _⟩ | ⟨r, es, ha, hr, hl, ht⟩
          · have : (nd d e.at').attrs = [] := by simpa using q
            rw [this] at g1; simp at g1
          · rw [List.length_map] at ha hl ht
            have IA := fun h1 => E.inA hn' (h1 := h1) (l' := setAttr (nd d e.at').attrs e.name e.value)
            have hnr : ¬ rN = r := fun h => (E.root_ne (k := 2 * e.at'.toNat) (by omega) (by rw [ha]; rfl)).1 h.symm
            have gi := getD_take_enc ht g1
            have ga : eAttr (nth (nd d e.at').attrs (attrAt (nd d e.at').attrs e.name).toNat) = [.str e.name, .str (nth (nd d e.at').attrs (attrAt (nd d e.at').attrs e.name).toNat).value] := by unfold eAttr; rw [g2]
            rw [ga] at gi
            rw [ha] at gk hF IA oL oL2
            generalize (attrAt (nd d e.at').attrs e.name).toNat = i at *
            refine DCalls.of hE ?_
            rintro _ hh ⟨rfl, rfl⟩
            repeat' (first | ((with_reducible refine brC (fun _ => ?_) fun _ => ?_) <;> try (exfalso; omega)) | ((refine DCalls.of hF ?_; rintro _ hh ⟨rfl, rfl⟩)) | (with_reducible apply pcallE.of; · exact hAN) | (with_reducible refine And.intro ?_ ?_; · omega) | simp -dsimp -implicitDefEqProofs (disch := omega) only [↓vcOps_sp 35, ↓vcD_sp 35, ↓vcOps_sp 38, ↓vcD_sp 38, VCA, pg_gl, ↓upd_none, Nat.reduceEqDiff, Nat.reduceBEq, Nat.reduceAdd, Nat.reduceSub, Nat.reduceMul, Nat.reduceLT, Nat.reduceLeDiff, ↓reduceIte, reduceCtorEq, rsOf, rootsOf, SOp.rd, SI.rd, SX.rd, rdL, rdO, rdP, okParts, eqCells, okEqCells, fillA, okFill, setAt, implies_true, forall_const, forall_eq, ne_eq, exists_eq_right_right, exists_eq_right, exists_eq_left, exists_eq_left', rootL, eInt, eBool, lit_eq, gN, gk, rl, e0, eEdit, hr, gi])
            all_goals try (exfalso; omega)
            have hO : OwnS (upd hh r (some ⟨.t 71, 2, es.set i [.str e.name, .str e.value]⟩)) 71 2 ((setAttr (nd d e.at').attrs e.name e.value).map eAttr) (.osl r 2 0 (nd d e.at').attrs.length) :=
              .inr (.inr ⟨r, _, by rw [hsa, List.length_map, List.length_set], upd_same _ _ _, by rw [hsa, List.length_map, List.length_set, List.length_set]; exact hl, by
                rw [hsa, List.length_map, List.length_set, List.take_set, ht, List.map_set]; rfl⟩)
            exact ⟨_, Sub.refl _, EdR.good eE hm4 (by rw [eD]; exact IA _ (fun t o ho hne => by rw [upd_ne _ _ (fun e => hne (by rw [e]; rfl))]; exact ho) hO)⟩
        · have hsa : setAttr (nd d e.at').attrs e.name e.value = (nd d e.at').attrs ++ [⟨e.name, e.value⟩] := by unfold setAttr; rw [if_neg hi0]
          refine DCalls.of hE ?_
          rintro _ hh ⟨rfl, rfl⟩
          repeat' (first | ((with_reducible refine brC (fun _ => ?_) fun _ => ?_) <;> try (exfalso; omega)) | ((refine DCalls.of hF ?_; rintro _ hh ⟨rfl, rfl⟩)) | (with_reducible apply pcallE.of; · exact hAN) | (with_reducible refine And.intro ?_ ?_; · omega) | simp -dsimp -implicitDefEqProofs (disch := omega) only [↓vcOps_sp 35, ↓vcD_sp 35, ↓vcOps_sp 38, ↓vcD_sp 38, VCA, pg_gl, ↓upd_none, Nat.reduceEqDiff, Nat.reduceBEq, Nat.reduceAdd, Nat.reduceSub, Nat.reduceMul, Nat.reduceLT, Nat.reduceLeDiff, ↓reduceIte, reduceCtorEq, rsOf, rootsOf, SOp.rd, SI.rd, SX.rd, rdL, rdO, rdP, okParts, eqCells, okEqCells, fillA, okFill, setAt, implies_true, forall_const, forall_eq, ne_eq, exists_eq_right_right, exists_eq_right, exists_eq_left, exists_eq_left', rootL, eInt, eBool, lit_eq, gN, gk, rl, e0, eEdit, oL, oL2])
          all_goals try (exfalso; omega)
          refine OwnS.app oA lv (by rw [List.length_map]; simp; omega) (by rw [List.length_map]; simp; omega) fun r h9 hr hf kp => ?_
          rw [List.length_map]
          have nr : ∀ t, rootOf (sl (2 * e.at'.toNat)) = some t → t ≠ rN := fun t ht => (E.root_ne (by omega) ht).1
          have gN9 := kp rN _ gN (fun h => nr _ h rfl)
          have hnr : ¬ r = rN := fun h => by
            rcases hf with h1 | h1
            · exact nr _ h1 h
            · rw [h, gN] at h1; cases h1
          have hnr2 : ¬ rN = r := fun h => hnr h.symm
          have ln : ((nd d e.at').attrs.map eAttr).length = (nd d e.at').attrs.length := List.length_map ..
          have gg : ((nd d e.at').attrs.map eAttr ++ [[AVal.str e.name, AVal.str []]]).getD (nd d e.at').attrs.length [] = [AVal.str e.name, AVal.str []] := by
            rw [List.getD_eq_getElem?_getD, List.getElem?_append_right (by omega), ln]; simp
          have lx : ((nd d e.at').attrs.length : Int) + 1 - 1 = (nd d e.at').attrs.length := by omega
          have ly : (((nd d e.at').attrs.length : Int)).toNat = (nd d e.at').attrs.length := by omega
          repeat' (first | ((with_reducible refine brC (fun _ => ?_) fun _ => ?_) <;> try (exfalso; omega)) | (with_reducible refine And.intro ?_ ?_; · omega) | simp -dsimp -implicitDefEqProofs (disch := omega) only [↓vcOps_sp 35, ↓vcD_sp 35, ↓vcOps_sp 38, ↓vcD_sp 38, VCA, pg_gl, ↓upd_none, Nat.reduceEqDiff, Nat.reduceBEq, Nat.reduceAdd, Nat.reduceSub, Nat.reduceMul, Nat.reduceLT, Nat.reduceLeDiff, ↓reduceIte, reduceCtorEq, rsOf, rootsOf, SOp.rd, SI.rd, SX.rd, rdL, rdO, rdP, okParts, eqCells, okEqCells, fillA, okFill, setAt, implies_true, forall_const, forall_eq, ne_eq, exists_eq_right_right, exists_eq_right, exists_eq_left, exists_eq_left', rootL, eInt, eBool, lit_eq, gN, gN9, gk, rl, e0, hr, hnr, hnr2, gg, lx, ly, getD_set_same, set_set_same, List.length_set, List.length_append, ln, List.length_cons, List.length_nil])
          have O9 : OwnS h9 71 2 (((nd d e.at').attrs ++ [(⟨e.name, []⟩ : HAttr)]).map eAttr) (.osl r 2 0 ((nd d e.at').attrs.length + 1)) :=
            .inr (.inr ⟨r, _, by simp, hr, by simp, by rw [List.take_of_length_le (by simp)]; simp [eAttr]⟩)
          have E1 := E.slotA hn' kp O9 (fun es e => by cases e) (fun t ht => by cases ht; exact hf)
          rw [e0] at E1
          have s1 : upd sl (2 * e.at'.toNat) (.osl r 2 0 ((nd d e.at').attrs.length + 1)) (2 * e.at'.toNat) = .osl r 2 0 ((nd d e.at').attrs.length + 1) := upd_same _ _ _
          have IA := fun h1 => E1.inA (i := e.at'.toNat) (by simpa using hn') (h1 := h1) (l' := setAttr (nd d e.at').attrs e.name e.value)
          rw [s1] at IA
          have sd : ∀ (l : List HAttr), (⟨(d.nodes.set e.at'.toNat { nd d e.at' with attrs := (nd d e.at').attrs ++ [(⟨e.name, []⟩ : HAttr)] }).set e.at'.toNat { nth (d.nodes.set e.at'.toNat { nd d e.at' with attrs := (nd d e.at').attrs ++ [(⟨e.name, []⟩ : HAttr)] }) e.at'.toNat with attrs := l }, d.quirks⟩ : HDoc) = setN d e.at' { nd d e.at' with attrs := l } := fun l => by
            rw [nth_set _ _ _ _ hn', if_pos rfl, List.set_set]; rfl
          simp only [sd] at IA
          have hO : ∀ h8 : Heap, OwnS (upd h8 r (some ⟨.t 71, 2, ((nd d e.at').attrs.map eAttr ++ [[AVal.str e.name, AVal.str []]]).set (nd d e.at').attrs.length [AVal.str e.name, AVal.str e.value]⟩)) 71 2 ((setAttr (nd d e.at').attrs e.name e.value).map eAttr) (.osl r 2 0 ((nd d e.at').attrs.length + 1)) := fun h8 =>
            .inr (.inr ⟨r, _, by rw [hsa]; simp, upd_same _ _ _, by rw [hsa]; simp, by
              rw [hsa, List.take_of_length_le (by simp), List.set_append_right _ _ (by simp)]
              simp [eAttr]⟩)
          refine ⟨_, Sub.refl _, EdR.good eE hm4 (by rw [eD]; exact IA _ (fun t o ho hne => by rw [upd_ne _ _ (fun e => hne (by rw [e]; rfl))]; exact ho) (hO _))⟩
  · rw [if_neg hz] at hE
    have eE2 : editE d e = elemE d e.at' := by
      unfold elemE at hz ⊢
      rw [eE]
      by_cases hn : inD d e.at'
      · rw [if_neg (by simpa using hn)] at hz ⊢
        by_cases hk : (nd d e.at').kind ≠ 2
        · rw [if_neg (show ¬ ¬ inD d e.at' from fun h => h hn)]; rw [if_pos hk]
          try rw [if_pos hk]
        · rw [if_neg hk] at hz; exact absurd rfl hz
      · rw [if_pos hn, if_pos hn]
    refine DCalls.of hE ?_
    rintro _ hh ⟨rfl, rfl⟩
    repeat' (first | ((with_reducible refine brC (fun _ => ?_) fun _ => ?_) <;> try (exfalso; omega)) | (with_reducible refine And.intro ?_ ?_; · omega) | simp -dsimp -implicitDefEqProofs (disch := omega) only [↓vcOps_sp 35, ↓vcD_sp 35, ↓vcOps_sp 38, ↓vcD_sp 38, VCA, pg_gl, ↓upd_none, Nat.reduceEqDiff, Nat.reduceBEq, Nat.reduceAdd, Nat.reduceSub, Nat.reduceMul, Nat.reduceLT, Nat.reduceLeDiff, ↓reduceIte, reduceCtorEq, rsOf, rootsOf, SOp.rd, SI.rd, SX.rd, rdL, rdO, rdP, okParts, eqCells, okEqCells, fillA, okFill, setAt, implies_true, forall_const, forall_eq, ne_eq, exists_eq_right_right, exists_eq_right, exists_eq_left, exists_eq_left', rootL, eInt, eBool, lit_eq, hz])
    all_goals exact ⟨_, Sub.refl _, EdR.bad eE2 hz⟩
end Go.Proofs.K
end
section
set_option linter.unusedSimpArgs false
set_option linter.unusedVariables false
namespace Go.Proofs.K
open Go Go.Sim Go.Proofs
section
variable {d : HDoc}
end
end Go.Proofs.K
end
section
set_option linter.unusedSimpArgs false
set_option linter.unusedVariables false
namespace Go.Proofs.K
open Go Go.Sim Go.Proofs
variable {G : Glob}
section
variable {d : HDoc}
end
def c101 : SFun := ⟨.seq (.reg [⟨some 4, .mv (.c (.int .i64 0)), none⟩]) (.seq (.seq (.reg [⟨some 6, .mv (.t 0), none⟩, ⟨some 7, .len (.t 6), none⟩, ⟨some 8, .mv (.c (.int .i64 0)), none⟩]) (.block 0 (.loop (.seq (.reg [⟨some 9, .bin .lss (.t 8) (.t 7), none⟩]) (.seq (.cond (.t 9) .skip (.exit 0)) (.seq (.block 1 (.seq (.reg [⟨some 10, .mv (.t 8), none⟩, ⟨some 5, .mv (.t 10), none⟩]) (.seq (.reg [⟨some 11, .mv (.t 1), none⟩, ⟨some 12, .mv (.t 0), none⟩, ⟨some 13, .mv (.t 5), none⟩, ⟨some 14, .idxA 1 (.t 12) (.t 13), none⟩, ⟨some 15, .ld 1 false (.t 14), none⟩, ⟨some 16, .bin .eql (.t 11) (.t 15), none⟩]) (.cond (.t 16) (.seq (.reg [⟨some 17, .mv (.t 5), none⟩, ⟨some 4, .mv (.t 17), none⟩]) .ret) .skip)))) (.reg [⟨some 18, .bin .add (.t 8) (.c (.int .i64 1)), none⟩, ⟨some 8, .mv (.t 18), none⟩]))))))) (.seq (.reg [⟨some 4, .mv (.c (.int .i64 (-1))), none⟩]) .ret)), [.tmp 4]⟩
theorem hc101 : toSF Tryd.prog {} Tryd.f101 = some c101 := by kernel_rfl
theorem hn101 : (Tryd.f101.name == "runtime.NumGoroutine") = false := by kernel_rfl
theorem hasII_ok (l : List Int) (x : Int) (hl : l.length ≤ 1073741824) : PCalls (Pg G) 101 [sl eInt l, aInt x] (aInt (idxM (· == x) l)) := by
  intro h
  refine dcalls_of_vc Tryd.func101 hn101 hc101 (by rw [Tryd.ntmps101]; simp) (by rw [Tryd.ntmps101]; decide) ?_
  simp -dsimp -implicitDefEqProofs (disch := omega) only [VCA, pg_gl, ↓upd_none, Nat.reduceEqDiff, Nat.reduceBEq, Nat.reduceAdd, Nat.reduceSub, Nat.reduceMul, Nat.reduceLT, Nat.reduceLeDiff, ↓reduceIte, reduceCtorEq, rsOf, rootsOf, SOp.rd, SI.rd, SX.rd, rdL, rdO, rdP, okParts, eqCells, okEqCells, fillA, okFill, setAt, implies_true, forall_const, forall_eq, ne_eq, exists_eq_right_right, exists_eq_right, exists_eq_left, exists_eq_left', rootL, eInt, eBool, lit_eq, c101]
  refine LoopVC.intro (fun m e h' => ∃ k : Nat, k ≤ l.length ∧ m = l.length - k ∧ e 0 = sl eInt l ∧ e 1 = aInt x ∧ e 7 = aInt l.length ∧ e 8 = aInt k ∧ h' = h ∧ ∀ j, j < k → (nth l j == x) = false) l.length ⟨0, by omega, by omega, rfl, rfl, rfl, rfl, rfl, fun j hj => absurd hj (Nat.not_lt_zero j)⟩ ?_
  rintro m e h' ⟨k, hk, rfl, he0, he1, he7, he8, rfl, hj⟩
  simp -dsimp -implicitDefEqProofs (disch := omega) only [VCA, pg_gl, ↓upd_none, Nat.reduceEqDiff, Nat.reduceBEq, Nat.reduceAdd, Nat.reduceSub, Nat.reduceMul, Nat.reduceLT, Nat.reduceLeDiff, ↓reduceIte, reduceCtorEq, rsOf, rootsOf, SOp.rd, SI.rd, SX.rd, rdL, rdO, rdP, okParts, eqCells, okEqCells, fillA, okFill, setAt, implies_true, forall_const, forall_eq, ne_eq, exists_eq_right_right, exists_eq_right, exists_eq_left, exists_eq_left', rootL, eInt, eBool, lit_eq, he0, he1, he7, he8]
  refine Br.dec (fun hlt => ?_) (fun hge => ?_)
  · simp -dsimp -implicitDefEqProofs (disch := omega) only [VCA, pg_gl, ↓upd_none, Nat.reduceEqDiff, Nat.reduceBEq, Nat.reduceAdd, Nat.reduceSub, Nat.reduceMul, Nat.reduceLT, Nat.reduceLeDiff, ↓reduceIte, reduceCtorEq, rsOf, rootsOf, SOp.rd, SI.rd, SX.rd, rdL, rdO, rdP, okParts, eqCells, okEqCells, fillA, okFill, setAt, implies_true, forall_const, forall_eq, ne_eq, exists_eq_right_right, exists_eq_right, exists_eq_left, exists_eq_left', rootL, eInt, eBool, lit_eq, he0, he1, he7, he8]
    refine ⟨by omega, Br.eq (fun ht => ?_) (fun hf => ?_)⟩
    · simp -dsimp -implicitDefEqProofs (disch := omega) only [VCA, pg_gl, ↓upd_none, Nat.reduceEqDiff, Nat.reduceBEq, Nat.reduceAdd, Nat.reduceSub, Nat.reduceMul, Nat.reduceLT, Nat.reduceLeDiff, ↓reduceIte, reduceCtorEq, rsOf, rootsOf, SOp.rd, SI.rd, SX.rd, rdL, rdO, rdP, okParts, eqCells, okEqCells, fillA, okFill, setAt, implies_true, forall_const, forall_eq, ne_eq, exists_eq_right_right, exists_eq_right, exists_eq_left, exists_eq_left', rootL, eInt, eBool, lit_eq]
      rw [idxM_some (k := k) (by omega) hj (by simp [ht])]; exact ⟨Sub.refl _, rfl⟩
    · simp -dsimp -implicitDefEqProofs (disch := omega) only [VCA, pg_gl, ↓upd_none, Nat.reduceEqDiff, Nat.reduceBEq, Nat.reduceAdd, Nat.reduceSub, Nat.reduceMul, Nat.reduceLT, Nat.reduceLeDiff, ↓reduceIte, reduceCtorEq, rsOf, rootsOf, SOp.rd, SI.rd, SX.rd, rdL, rdO, rdP, okParts, eqCells, okEqCells, fillA, okFill, setAt, implies_true, forall_const, forall_eq, ne_eq, exists_eq_right_right, exists_eq_right, exists_eq_left, exists_eq_left', rootL, eInt, eBool, lit_eq, he0, he1, he7, he8]
      refine ⟨_, ?_, k + 1, by omega, rfl, by omega, fun j hj' => ?_⟩
      · omega
      · by_cases h1 : j = k
        · subst h1; simpa using fun e => hf e.symm
        · exact hj j (by omega)
  · simp -dsimp -implicitDefEqProofs (disch := omega) only [VCA, pg_gl, ↓upd_none, Nat.reduceEqDiff, Nat.reduceBEq, Nat.reduceAdd, Nat.reduceSub, Nat.reduceMul, Nat.reduceLT, Nat.reduceLeDiff, ↓reduceIte, reduceCtorEq, rsOf, rootsOf, SOp.rd, SI.rd, SX.rd, rdL, rdO, rdP, okParts, eqCells, okEqCells, fillA, okFill, setAt, implies_true, forall_const, forall_eq, ne_eq, exists_eq_right_right, exists_eq_right, exists_eq_left, exists_eq_left', rootL, eInt, eBool, lit_eq]
    rw [idxM_none (fun j hj' => hj j (by omega))]; exact ⟨Sub.refl _, rfl⟩
end Go.Proofs.K
end
section
set_option linter.unusedSimpArgs false
set_option linter.unusedVariables false
namespace Go.Proofs.K
open Go Go.Sim Go.Proofs
variable {G : Glob}
theorem index_own {h : Heap} {l : List Int} {a : AVal} (O : OwnS h 3 1 (l.map eInt) a) (x : Int) (hl : l.length ≤ 1073741824) : DCalls (Pg G) 101 [a, aInt x] h fun r h' => r = aInt (idxM (· == x) l) ∧ h' = h :=
  DCalls.bor (hasII_ok (G := G) l x hl) (.int _ _) (.cons O.vw (.cons (.refl _) .nil))
theorem getD_set_ne {es : List (List AVal)} {j k : Nat} {x : List AVal} (hk : j ≠ k) : (es.set j x).getD k [] = es.getD k [] := by
  rw [List.getD_eq_getElem?_getD, List.getElem?_set, if_neg hk, List.getD_eq_getElem?_getD]
theorem Dw.rows_eq {X : List Nat} {h0 h1 : Heap} {rN : Nat} {d : HDoc} {sl : Nat → AVal} {T Z : Nat} {es : List (List AVal)} (E : Dw X h0 (upd h1 rN (some ⟨T, Z, es⟩)) rN d sl) : es = rowsA d sl := by
  have nn := E.nodes
  rw [upd_same] at nn
  exact congrArg AObj.es (Option.some.inj nn)
def c122 : SFun := ⟨.seq (.reg [⟨some 3, .boxF 101 12 (.t 1), none⟩, ⟨some 4, .mv (.c (.int .i64 0)), none⟩]) (.seq (.reg [⟨some 8, .mv (.t 0), none⟩, ⟨some 9, .fldA 1 (.t 3), none⟩, ⟨some 10, .ld 1 false (.t 9), none⟩, ⟨some 11, .call (.c (.fn 132 [] [])) [.t 8, .t 10], none⟩, ⟨some 5, .mv (.t 11), none⟩]) (.seq (.block 0 (.seq (.reg [⟨some 13, .mv (.t 5), none⟩, ⟨some 14, .isnil 1 false (.t 13), none⟩, ⟨some 12, .mv (.t 14), none⟩]) (.cond (.t 12) (.seq (.reg [⟨some 4, .mv (.c (.int .i64 5)), none⟩]) .ret) (.seq (.reg [⟨some 16, .mv (.t 5), none⟩, ⟨some 17, .fldA 0 (.t 16), none⟩, ⟨some 18, .fldA 0 (.t 17), none⟩, ⟨some 19, .ld 1 false (.t 18), none⟩, ⟨some 20, .bin .eql (.t 19) (.c (.int .i64 1)), none⟩, ⟨some 15, .mv (.t 20), none⟩]) (.cond (.t 15) (.seq (.reg [⟨some 4, .mv (.c (.int .i64 7)), none⟩]) .ret) (.seq (.reg [⟨some 22, .mv (.t 5), none⟩, ⟨some 23, .fldA 0 (.t 22), none⟩, ⟨some 24, .fldA 4 (.t 23), none⟩, ⟨some 25, .ld 1 false (.t 24), none⟩, ⟨some 26, .bin .lss (.t 25) (.c (.int .i64 0)), none⟩, ⟨some 21, .mv (.t 26), none⟩]) (.cond (.t 21) (.seq (.reg [⟨some 4, .mv (.c (.int .i64 5)), none⟩]) .ret) .skip))))))) (.seq (.dreg [(⟨some 27, .mv (.t 0), none⟩, none), (⟨some 28, .fldA 0 (.t 27), none⟩, none), (⟨some 29, .fldA 0 (.t 28), none⟩, none), (⟨some 30, .fldA 0 (.t 29), none⟩, none), (⟨some 31, .ld 1 false (.t 30), none⟩, none), (⟨some 32, .mv (.t 5), none⟩, none), (⟨some 33, .fldA 0 (.t 32), none⟩, none), (⟨some 34, .fldA 4 (.t 33), none⟩, none), (⟨some 35, .ld 1 false (.t 34), none⟩, none), (⟨some 36, .idxA 6 (.t 31) (.t 35), none⟩, none), (⟨some 6, .mv (.t 36), none⟩, none)]) (.seq (.dreg [(⟨some 37, .mv (.t 6), none⟩, none), (⟨some 38, .fldA 0 (.t 37), none⟩, none), (⟨some 39, .fldA 5 (.t 38), none⟩, none), (⟨some 40, .ld 1 false (.t 39), none⟩, none), (⟨some 41, .fldA 1 (.t 3), none⟩, none), (⟨some 42, .ld 1 false (.t 41), none⟩, none), (⟨some 43, .call (.c (.fn 101 [] [])) [.t 40, .t 42], none⟩, (some [40, 42])), (⟨some 7, .mv (.t 43), none⟩, none)]) (.seq (.reg [⟨some 44, .mv (.t 6), none⟩, ⟨some 45, .mv (.t 5), none⟩, ⟨some 46, .mv (.t 6), none⟩, ⟨some 47, .fldA 0 (.t 46), none⟩, ⟨some 48, .fldA 5 (.t 47), none⟩, ⟨some 49, .ld 1 false (.t 48), none⟩, ⟨some 50, .mv (.t 7), none⟩, ⟨some 51, .mv (.t 7), none⟩, ⟨some 52, .bin .add (.t 51) (.c (.int .i64 1)), none⟩, ⟨some 53, .call (.c (.fn 135 [] [])) [.t 49, .t 50, .t 52], none⟩, ⟨some 54, .fldA 0 (.t 44), none⟩, ⟨some 55, .fldA 5 (.t 54), none⟩, ⟨none, .st 1 (.t 55) (.t 53), none⟩, ⟨some 56, .fldA 0 (.t 45), none⟩, ⟨some 57, .fldA 4 (.t 56), none⟩, ⟨none, .st 1 (.t 57) (.c (.int .i64 (-1))), none⟩]) (.seq (.reg [⟨some 4, .mv (.c (.int .i64 0)), none⟩]) .ret)))))), [.tmp 4]⟩
theorem hc122 : toSF Tryd.prog {} Tryd.f122 = some c122 := by kernel_rfl
theorem hn122 : (Tryd.f122.name == "runtime.NumGoroutine") = false := by kernel_rfl
theorem eremove_ok {h0 h : Heap} {re rN : Nat} {d : HDoc} {sl : Nat → AVal} {made : Int} (E : Ed h0 h re rN d sl made) (V : DV d) (sm : DocSm d) (e : HEdit) (he : EditSm e) (hdo : e.do' = 6) : DCalls (Pg G) 122 [.vp re 0, .agg (eEdit e)] h (EdR h0 h re d e made) := by
  have gN := E.dw.nodes
  have gE := E.ed
  have ner := E.ne
  have hE := enode_ok (G := G) E e.at'
  unfold nodeP at hE
  have eE : editE d e = if ¬ inD d e.at' then 5 else if (nd d e.at').kind = 1 then 7 else if ¬ 0 ≤ (nd d e.at').parent then 5 else 0 := by unfold editE; rw [if_neg (by omega), if_neg (by omega), if_neg (by omega), if_neg (by omega), if_neg (by omega), if_pos hdo]
  have eD : editD d e = cutN d e.at' (idxM (· == e.at') (nd d (nd d e.at').parent).kids).toNat := by unfold editD; rw [if_neg (by omega), if_neg (by omega), if_neg (by omega), if_neg (by omega), if_neg (by omega)]
  have hm4 : made = if e.do' = 4 then (d.nodes.length : Int) else made := by rw [if_neg (by omega)]
  refine dcalls_of_vc Tryd.func122 hn122 hc122 (by rw [Tryd.ntmps122]; simp) (by rw [Tryd.ntmps122]; decide) ?_
  simp -dsimp -implicitDefEqProofs (disch := omega) only [VCA, pg_gl, ↓upd_none, Nat.reduceEqDiff, Nat.reduceBEq, Nat.reduceAdd, Nat.reduceSub, Nat.reduceMul, Nat.reduceLT, Nat.reduceLeDiff, ↓reduceIte, reduceCtorEq, rsOf, rootsOf, SOp.rd, SI.rd, SX.rd, rdL, rdO, rdP, okParts, eqCells, okEqCells, fillA, okFill, setAt, implies_true, forall_const, forall_eq, ne_eq, exists_eq_right_right, exists_eq_right, exists_eq_left, exists_eq_left', rootL, eInt, eBool, lit_eq, c122, eEdit]
  by_cases hn : inD d e.at'
  · rw [if_pos hn] at hE
    have hn' := hn.nat.1
    have gk := rowsA_get (sl := sl) hn'
    have rl := rowsA_len d sl
    have e0 : nth d.nodes e.at'.toNat = nd d e.at' := rfl
    rw [e0] at gk
    unfold rowA at gk
    rw [if_neg (by simpa using hn)] at eE
    by_cases hk : (nd d e.at').kind = 1
    · rw [if_pos hk] at eE
      refine DCalls.of hE ?_
      rintro _ hh ⟨rfl, rfl⟩
      repeat' (first | ((with_reducible refine brC (fun _ => ?_) fun _ => ?_) <;> try (exfalso; omega)) | (with_reducible refine And.intro ?_ ?_; · omega) | simp -dsimp -implicitDefEqProofs (disch := omega) only [VCA, pg_gl, ↓upd_none, Nat.reduceEqDiff, Nat.reduceBEq, Nat.reduceAdd, Nat.reduceSub, Nat.reduceMul, Nat.reduceLT, Nat.reduceLeDiff, ↓reduceIte, reduceCtorEq, rsOf, rootsOf, SOp.rd, SI.rd, SX.rd, rdL, rdO, rdP, okParts, eqCells, okEqCells, fillA, okFill, setAt, implies_true, forall_const, forall_eq, ne_eq, exists_eq_right_right, exists_eq_right, exists_eq_left, exists_eq_left', rootL, eInt, eBool, lit_eq, gN, gk, rl, e0, eEdit])
      all_goals first | (exfalso; omega) | exact ⟨_, Sub.refl _, EdR.bad eE (by decide)⟩
    · rw [if_neg hk] at eE
      by_cases hp : 0 ≤ (nd d e.at').parent
      · rw [if_neg (by simpa using hp)] at eE
        obtain ⟨hpi, hpm⟩ := V.par_in hn hp
        have hp' := hpi.nat.1
        have p1 := hpi.2
        have hne : (nd d e.at').parent ≠ e.at' := fun h => by have := V.up_par hn hp; rw [h] at this; omega
        have hnn : (nd d e.at').parent.toNat ≠ e.at'.toNat := by have := hn.1; omega
        have gp := rowsA_get (sl := sl) hp'
        have ep : nth d.nodes (nd d e.at').parent.toNat = nd d (nd d e.at').parent := rfl
        rw [ep] at gp
        unfold rowA at gp
        obtain ⟨oA, oK⟩ := E.dw.own _ hp'
        rw [ep] at oK
        have kl := (sm.nd (nd d e.at').parent).kids
        have hI := index_own (G := G) oK e.at' kl
        obtain ⟨i1, i2⟩ := idx_at hpm
        have i3 := (idx_mem (nd d (nd d e.at').parent).kids e.at').2 hpm
        have i4 : ((idxM (· == e.at') (nd d (nd d e.at').parent).kids).toNat : Int) = idxM (· == e.at') (nd d (nd d e.at').parent).kids := by omega
        rw [← i4] at hI
        have lv := E.live (2 * (nd d e.at').parent.toNat + 1) (by omega)
        rcases oK.live lv with ⟨q, _⟩ | ⟨r, es, ha, hr, hl, ht⟩
        · have : (nd d (nd d e.at').parent).kids = [] := by simpa using q
          rw [this] at i1; simp at i1
        · rw [List.length_map] at ha hl ht
          have hD := deleteZ_ok (G := G) (i := (idxM (· == e.at') (nd d (nd d e.at').parent).kids).toNat) (j := (idxM (· == e.at') (nd d (nd d e.at').parent).kids).toNat + 1) hr hl (by omega) (by omega) (by omega)
          have SK := fun h1 a' l' => E.slotK hp' (h1 := h1) (a' := a') (l' := l')
          rw [ha] at gp hI SK
          rw [ep] at SK
          have cdef : cutN d e.at' (idxM (· == e.at') (nd d (nd d e.at').parent).kids).toNat = setN (setN d (nd d e.at').parent { nd d (nd d e.at').parent with kids := (nd d (nd d e.at').parent).kids.take (idxM (· == e.at') (nd d (nd d e.at').parent).kids).toNat ++ (nd d (nd d e.at').parent).kids.drop ((idxM (· == e.at') (nd d (nd d e.at').parent).kids).toNat + 1) }) e.at' { nd d e.at' with parent := -1 } := rfl
          generalize (idxM (· == e.at') (nd d (nd d e.at').parent).kids).toNat = i at *
          have hnr : ¬ rN = r := fun h => (E.root_ne (k := 2 * (nd d e.at').parent.toNat + 1) (by omega) (by rw [ha]; rfl)).1 h.symm
          refine DCalls.of hE ?_
          rintro _ hh ⟨rfl, rfl⟩
          repeat' (first | ((with_reducible refine brC (fun _ => ?_) fun _ => ?_) <;> try (exfalso; omega)) | ((refine DCalls.of hI ?_; rintro _ hh ⟨rfl, rfl⟩)) | (with_reducible refine And.intro ?_ ?_; · omega) | simp -dsimp -implicitDefEqProofs (disch := omega) only [VCA, pg_gl, ↓upd_none, Nat.reduceEqDiff, Nat.reduceBEq, Nat.reduceAdd, Nat.reduceSub, Nat.reduceMul, Nat.reduceLT, Nat.reduceLeDiff, ↓reduceIte, reduceCtorEq, rsOf, rootsOf, SOp.rd, SI.rd, SX.rd, rdL, rdO, rdP, okParts, eqCells, okEqCells, fillA, okFill, setAt, implies_true, forall_const, forall_eq, ne_eq, exists_eq_right_right, exists_eq_right, exists_eq_left, exists_eq_left', rootL, eInt, eBool, lit_eq, gN, gE, gk, gp, rl, e0, ep, ner, eEdit])
          all_goals try (exfalso; omega)
          refine DCalls.of hD ?_
          rintro _ _ ⟨rfl, es', rfl, hl2, ht2⟩
          have gne := fun (x : List AVal) => getD_set_ne (es := rowsA d sl) (x := x) hnn
          repeat' (first | ((with_reducible refine brC (fun _ => ?_) fun _ => ?_) <;> try (exfalso; omega)) | (with_reducible refine And.intro ?_ ?_; · omega) | simp -dsimp -implicitDefEqProofs (disch := omega) only [VCA, pg_gl, ↓upd_none, Nat.reduceEqDiff, Nat.reduceBEq, Nat.reduceAdd, Nat.reduceSub, Nat.reduceMul, Nat.reduceLT, Nat.reduceLeDiff, ↓reduceIte, reduceCtorEq, rsOf, rootsOf, SOp.rd, SI.rd, SX.rd, rdL, rdO, rdP, okParts, eqCells, okEqCells, fillA, okFill, setAt, implies_true, forall_const, forall_eq, ne_eq, exists_eq_right_right, exists_eq_right, exists_eq_left, exists_eq_left', rootL, eInt, eBool, lit_eq, gN, gE, gk, gp, rl, e0, ep, ner, hnr, gne, List.length_set])
          have ln : ((nd d (nd d e.at').parent).kids.take i ++ (nd d (nd d e.at').parent).kids.drop (i + 1)).length = (nd d (nd d e.at').parent).kids.length - (i + 1 - i) := by
            rw [List.length_append, List.length_take, List.length_drop]; omega
          have hO : OwnS (upd hh r (some ⟨.t 3, 1, es'⟩)) 3 1 (((nd d (nd d e.at').parent).kids.take i ++ (nd d (nd d e.at').parent).kids.drop (i + 1)).map eInt) (.osl r 1 0 ((nd d (nd d e.at').parent).kids.length - (i + 1 - i))) :=
            .inr (.inr ⟨r, es', by rw [List.length_map, ln], upd_same _ _ _, by rw [List.length_map, ln]; exact hl2, by
              rw [List.length_map, ln, ht2, List.map_append, List.map_take, List.map_drop, ← ht, List.take_take, Nat.min_eq_left (by omega)]⟩)
          have E1 := SK _ _ _ (fun t o ho hne => by rw [upd_ne _ _ (fun e => hne (by rw [e]; rfl))]; exact ho) hO (fun es e => by cases e) (fun t ht => .inl ht)
          have nn := E1.dw.rows_eq
          have n1 : nth (d.nodes.set (nd d e.at').parent.toNat { nd d (nd d e.at').parent with kids := (nd d (nd d e.at').parent).kids.take i ++ (nd d (nd d e.at').parent).kids.drop (i + 1) }) e.at'.toNat = nd d e.at' := by
            rw [nth_set _ _ _ _ hp', if_neg (fun h => hnn h.symm)]; rfl
          have E2 := E1.cells (i := e.at'.toNat) (by simpa using hn') (x' := { nd d e.at' with parent := -1 }) (by show _ = (nth (d.nodes.set _ _) _).attrs; rw [n1]) (by show _ = (nth (d.nodes.set _ _) _).kids; rw [n1])
          rw [← nn] at E2
          have v1 : upd sl (2 * (nd d e.at').parent.toNat + 1) (AVal.osl r 1 0 ((nd d (nd d e.at').parent).kids.length - (i + 1 - i))) (2 * e.at'.toNat) = sl (2 * e.at'.toNat) := upd_ne _ _ (by omega)
          have v2 : upd sl (2 * (nd d e.at').parent.toNat + 1) (AVal.osl r 1 0 ((nd d (nd d e.at').parent).kids.length - (i + 1 - i))) (2 * e.at'.toNat + 1) = sl (2 * e.at'.toNat + 1) := upd_ne _ _ (by omega)
          rw [v1, v2, upd_upd] at E2
          exact ⟨_, Sub.refl _, EdR.good eE hm4 (by rw [eD, cdef]; exact E2)⟩
      · rw [if_pos hp] at eE
        refine DCalls.of hE ?_
        rintro _ hh ⟨rfl, rfl⟩
        repeat' (first | ((with_reducible refine brC (fun _ => ?_) fun _ => ?_) <;> try (exfalso; omega)) | (with_reducible refine And.intro ?_ ?_; · omega) | simp -dsimp -implicitDefEqProofs (disch := omega) only [VCA, pg_gl, ↓upd_none, Nat.reduceEqDiff, Nat.reduceBEq, Nat.reduceAdd, Nat.reduceSub, Nat.reduceMul, Nat.reduceLT, Nat.reduceLeDiff, ↓reduceIte, reduceCtorEq, rsOf, rootsOf, SOp.rd, SI.rd, SX.rd, rdL, rdO, rdP, okParts, eqCells, okEqCells, fillA, okFill, setAt, implies_true, forall_const, forall_eq, ne_eq, exists_eq_right_right, exists_eq_right, exists_eq_left, exists_eq_left', rootL, eInt, eBool, lit_eq, gN, gk, rl, e0, eEdit])
        all_goals first | (exfalso; omega) | exact ⟨_, Sub.refl _, EdR.bad eE (by decide)⟩
  · rw [if_neg hn] at hE
    rw [if_pos hn] at eE
    refine DCalls.of hE ?_
    rintro _ hh ⟨rfl, rfl⟩
    repeat' (first | ((with_reducible refine brC (fun _ => ?_) fun _ => ?_) <;> try (exfalso; omega)) | (with_reducible refine And.intro ?_ ?_; · omega) | simp -dsimp -implicitDefEqProofs (disch := omega) only [VCA, pg_gl, ↓upd_none, Nat.reduceEqDiff, Nat.reduceBEq, Nat.reduceAdd, Nat.reduceSub, Nat.reduceMul, Nat.reduceLT, Nat.reduceLeDiff, ↓reduceIte, reduceCtorEq, rsOf, rootsOf, SOp.rd, SI.rd, SX.rd, rdL, rdO, rdP, okParts, eqCells, okEqCells, fillA, okFill, setAt, implies_true, forall_const, forall_eq, ne_eq, exists_eq_right_right, exists_eq_right, exists_eq_left, exists_eq_left', rootL, eInt, eBool, lit_eq])
    all_goals exact ⟨_, Sub.refl _, EdR.bad eE (by decide)⟩
end Go.Proofs.K
end
section
set_option linter.unusedSimpArgs false
set_option linter.unusedVariables false
namespace Go.Proofs.K
open Go Go.Sim Go.Proofs
variable {G : Glob}
def edC (d : HDoc) (made : Int) : List AVal := [sl eNode d.nodes, .bool d.quirks, aInt made]
theorem Ed.vw {h0 h : Heap} {re rN : Nat} {d : HDoc} {sl : Nat → AVal} {made : Int} (E : Ed h0 h re rN d sl made) : Vw h (.vp re 0) (.pin (edC d made)) := by
  refine .vp _ _ _ (.ptr re 0 0 _ _ E.ed (by simp) (by simp [edC]) fun k a b ha hb => ?_)
  have F : F2 (Vw h) [AVal.osl rN 6 0 d.nodes.length, .bool d.quirks, aInt made] (edC d made) := .cons E.dw.vw (.cons (.refl _) (.cons (.refl _) .nil))
  exact F.get k a b ha hb
theorem Ed.vwD {h0 h : Heap} {re rN : Nat} {d : HDoc} {sl : Nat → AVal} {made : Int} (E : Ed h0 h re rN d sl made) : Vw h (.agg [.osl rN 6 0 d.nodes.length, .bool d.quirks]) (.agg (eDoc d)) :=
  Vw.agg' (.cons E.dw.vw (.cons (.refl _) .nil))
def c133 : SFun := ⟨.seq (.reg [⟨some 6, .mv (.c (.bool false)), none⟩]) (.seq (.block 0 (.loop (.seq (.seq (.reg [⟨some 7, .mv (.t 1), none⟩, ⟨some 8, .bin .geq (.t 7) (.c (.int .i64 0)), none⟩, ⟨some 9, .mv (.t 8), none⟩, ⟨some 10, .mv (.t 1), some (9, true)⟩, ⟨some 11, .mv (.t 2), some (9, true)⟩, ⟨some 12, .bin .neq (.t 10) (.t 11), some (9, true)⟩, ⟨some 13, .pick (.t 9) (.t 12) (.c (.bool false)), none⟩]) (.cond (.t 13) .skip (.exit 0))) (.block 1 (.reg [⟨some 14, .mv (.t 0), none⟩, ⟨some 15, .fldA 0 (.t 14), none⟩, ⟨some 16, .fldA 0 (.t 15), none⟩, ⟨some 17, .fldA 0 (.t 16), none⟩, ⟨some 18, .ld 1 false (.t 17), none⟩, ⟨some 19, .mv (.t 1), none⟩, ⟨some 20, .idxA 6 (.t 18) (.t 19), none⟩, ⟨some 21, .fldA 4 (.t 20), none⟩, ⟨some 22, .ld 1 false (.t 21), none⟩, ⟨some 1, .mv (.t 22), none⟩]))))) (.seq (.reg [⟨some 23, .mv (.t 1), none⟩, ⟨some 24, .mv (.t 2), none⟩, ⟨some 25, .bin .eql (.t 23) (.t 24), none⟩, ⟨some 6, .mv (.t 25), none⟩]) .ret)), [.tmp 6]⟩
theorem hc133 : toSF Tryd.prog {} Tryd.f133 = some c133 := by kernel_rfl
theorem hn133 : (Tryd.f133.name == "runtime.NumGoroutine") = false := by kernel_rfl
theorem ebelow_ok (d : HDoc) (V : DV d) (made n top : Int) (hn : inD d n) (ht : 0 ≤ top) : PCalls (Pg G) 133 [.pin (edC d made), aInt n, aInt top] (.bool (decide (top ∈ chain d n))) := fun h => by
  have hl := V.len
  refine dcalls_of_vc Tryd.func133 hn133 hc133 (by rw [Tryd.ntmps133]; simp) (by rw [Tryd.ntmps133]; decide) ?_
  simp -dsimp -implicitDefEqProofs (disch := omega) only [↓vcOps_sp 9, ↓vcD_sp 9, VCA, pg_gl, ↓upd_none, Nat.reduceEqDiff, Nat.reduceBEq, Nat.reduceAdd, Nat.reduceSub, Nat.reduceMul, Nat.reduceLT, Nat.reduceLeDiff, ↓reduceIte, reduceCtorEq, rsOf, rootsOf, SOp.rd, SI.rd, SX.rd, rdL, rdO, rdP, okParts, eqCells, okEqCells, fillA, okFill, setAt, implies_true, forall_const, forall_eq, ne_eq, exists_eq_right_right, exists_eq_right, exists_eq_left, exists_eq_left', rootL, eInt, eBool, lit_eq, c133, edC]
  refine LoopVC.intro (fun m e h' => ∃ c : Int, m = (if c = -1 then 0 else up d c + 1) ∧ (c = -1 ∨ inD d c) ∧ e 1 = aInt c ∧ e 2 = aInt top ∧ e 0 = .pin (edC d made) ∧ h' = h ∧ (c = -1 → top ∉ chain d n) ∧ (inD d c → (top ∈ chain d n ↔ top ∈ chain d c))) _ ⟨n, rfl, .inr hn, rfl, rfl, rfl, rfl, fun e => by have := hn.1; omega, fun _ => Iff.rfl⟩ ?_
  rintro m e h' ⟨c, rfl, hc, he1, he2, he0, rfl, hno, hyes⟩
  by_cases h2 : c = -1
  · subst h2
    have h3 : ((-1 : Int) == top) = false := by simp; omega
    simp -dsimp -implicitDefEqProofs (disch := omega) only [↓vcOps_sp 9, ↓vcD_sp 9, VCA, pg_gl, ↓upd_none, Nat.reduceEqDiff, Nat.reduceBEq, Nat.reduceAdd, Nat.reduceSub, Nat.reduceMul, Nat.reduceLT, Nat.reduceLeDiff, ↓reduceIte, reduceCtorEq, rsOf, rootsOf, SOp.rd, SI.rd, SX.rd, rdL, rdO, rdP, okParts, eqCells, okEqCells, fillA, okFill, setAt, implies_true, forall_const, forall_eq, ne_eq, exists_eq_right_right, exists_eq_right, exists_eq_left, exists_eq_left', rootL, eInt, eBool, lit_eq, he1, he2, he0, h3]
    repeat' (first | ((with_reducible refine brC (fun _ => ?_) fun _ => ?_) <;> try (exfalso; omega)) | (with_reducible refine And.intro ?_ ?_; · omega) | simp -dsimp -implicitDefEqProofs (disch := omega) only [↓vcOps_sp 9, ↓vcD_sp 9, VCA, pg_gl, ↓upd_none, Nat.reduceEqDiff, Nat.reduceBEq, Nat.reduceAdd, Nat.reduceSub, Nat.reduceMul, Nat.reduceLT, Nat.reduceLeDiff, ↓reduceIte, reduceCtorEq, rsOf, rootsOf, SOp.rd, SI.rd, SX.rd, rdL, rdO, rdP, okParts, eqCells, okEqCells, fillA, okFill, setAt, implies_true, forall_const, forall_eq, ne_eq, exists_eq_right_right, exists_eq_right, exists_eq_left, exists_eq_left', rootL, eInt, eBool, lit_eq, he1, he2, he0, h3])
    exact ⟨Sub.refl _, by simp [hno rfl]⟩
  · have hc : inD d c := hc.resolve_left h2
    have hc0 := hc.1
    have hc1 := hc.2
    have e0 : nth d.nodes c.toNat = nd d c := rfl
    simp -dsimp -implicitDefEqProofs (disch := omega) only [↓vcOps_sp 9, ↓vcD_sp 9, VCA, pg_gl, ↓upd_none, Nat.reduceEqDiff, Nat.reduceBEq, Nat.reduceAdd, Nat.reduceSub, Nat.reduceMul, Nat.reduceLT, Nat.reduceLeDiff, ↓reduceIte, reduceCtorEq, rsOf, rootsOf, SOp.rd, SI.rd, SX.rd, rdL, rdO, rdP, okParts, eqCells, okEqCells, fillA, okFill, setAt, implies_true, forall_const, forall_eq, ne_eq, exists_eq_right_right, exists_eq_right, exists_eq_left, exists_eq_left', rootL, eInt, eBool, lit_eq, he1, he2, he0]
    repeat' (first | ((with_reducible refine brC (fun _ => ?_) fun _ => ?_) <;> try (exfalso; omega)) | (with_reducible refine And.intro ?_ ?_; · omega) | simp -dsimp -implicitDefEqProofs (disch := omega) only [↓vcOps_sp 9, ↓vcD_sp 9, VCA, pg_gl, ↓upd_none, Nat.reduceEqDiff, Nat.reduceBEq, Nat.reduceAdd, Nat.reduceSub, Nat.reduceMul, Nat.reduceLT, Nat.reduceLeDiff, ↓reduceIte, reduceCtorEq, rsOf, rootsOf, SOp.rd, SI.rd, SX.rd, rdL, rdO, rdP, okParts, eqCells, okEqCells, fillA, okFill, setAt, implies_true, forall_const, forall_eq, ne_eq, exists_eq_right_right, exists_eq_right, exists_eq_left, exists_eq_left', rootL, eInt, eBool, lit_eq, he1, he2, he0, edC, eNode, e0])
    · rename_i h0 h1
      refine ⟨_, ?_, (nd d c).parent, rfl, ?_, rfl, ?_, ?_⟩
      · rw [if_neg (show ¬ c = -1 by omega)]
        split
        · omega
        · rename_i hp
          have := V.up_par hc (by have := V.par c hc; unfold inD at this; omega)
          omega
      · rcases V.par c hc with h | h
        · exact .inl h
        · exact .inr h.1
      · intro hp
        rw [hyes hc, chain_top V (by omega)]
        simp; exact fun e => h1 e.symm
      · intro hp
        rw [hyes hc, chain_up V hc hp.1]
        simp; exact fun e => absurd e.symm h1
    · rename_i h0 h1
      subst h1
      exact ⟨Sub.refl _, by simp [(hyes hc).2 (chain_self _ _)]⟩
def c134 : SFun := ⟨.seq (.reg [⟨some 4, .mv (.c (.int .i64 0)), none⟩]) (.seq (.seq (.reg [⟨some 7, .mv (.t 0), none⟩, ⟨some 8, .fldA 0 (.t 7), none⟩, ⟨some 9, .fldA 0 (.t 8), none⟩, ⟨some 10, .fldA 0 (.t 9), none⟩, ⟨some 11, .ld 1 false (.t 10), none⟩, ⟨some 12, .mv (.t 1), none⟩, ⟨some 13, .idxA 6 (.t 11) (.t 12), none⟩, ⟨some 14, .fldA 5 (.t 13), none⟩, ⟨some 15, .ld 1 false (.t 14), none⟩, ⟨some 16, .len (.t 15), none⟩, ⟨some 17, .mv (.c (.int .i64 0)), none⟩]) (.block 0 (.loop (.seq (.reg [⟨some 18, .bin .lss (.t 17) (.t 16), none⟩]) (.seq (.cond (.t 18) .skip (.exit 0)) (.seq (.block 1 (.seq (.reg [⟨some 19, .idxA 1 (.t 15) (.t 17), none⟩, ⟨some 20, .ld 1 false (.t 19), none⟩, ⟨some 6, .mv (.t 20), none⟩]) (.reg [⟨some 21, .mv (.t 4), none⟩, ⟨some 22, .mv (.t 0), none⟩, ⟨some 23, .mv (.t 6), none⟩, ⟨some 24, .pcall 134 [.t 22, .t 23], none⟩, ⟨some 25, .bin .add (.t 24) (.c (.int .i64 1)), none⟩, ⟨some 26, .max2 (.t 21) (.t 25), none⟩, ⟨some 4, .mv (.t 26), none⟩]))) (.reg [⟨some 27, .bin .add (.t 17) (.c (.int .i64 1)), none⟩, ⟨some 17, .mv (.t 27), none⟩]))))))) (.seq (.reg [⟨some 28, .mv (.t 4), none⟩, ⟨some 4, .mv (.t 28), none⟩]) .ret)), [.tmp 4]⟩
theorem hc134 : toSF Tryd.prog {pure := [134]} Tryd.f134 = some c134 := by kernel_rfl
theorem hn134 : (Tryd.f134.name == "runtime.NumGoroutine") = false := by kernel_rfl
theorem edeep_ok (d : HDoc) (V : DV d) (sm : DocSm d) (made : Int) : ∀ n, inD d n → PCalls (Pg G) 134 [.pin (edC d made), aInt n] (aInt (low d n)) := V.down fun n hn ih h => by
  have hl := V.len
  have n0 := hn.1
  have n1 := hn.2
  have e0 : nth d.nodes n.toNat = nd d n := rfl
  have kl := (sm.nd n).kids
  refine dcalls_of_vc Tryd.func134 hn134 hc134 (by rw [Tryd.ntmps134]; simp) (by rw [Tryd.ntmps134]; decide) ?_
  simp -dsimp -implicitDefEqProofs (disch := omega) only [VCA, pg_gl, ↓upd_none, Nat.reduceEqDiff, Nat.reduceBEq, Nat.reduceAdd, Nat.reduceSub, Nat.reduceMul, Nat.reduceLT, Nat.reduceLeDiff, ↓reduceIte, reduceCtorEq, rsOf, rootsOf, SOp.rd, SI.rd, SX.rd, rdL, rdO, rdP, okParts, eqCells, okEqCells, fillA, okFill, setAt, implies_true, forall_const, forall_eq, ne_eq, exists_eq_right_right, exists_eq_right, exists_eq_left, exists_eq_left', rootL, eInt, eBool, lit_eq, c134, edC, eNode]
  rw [e0]
  refine ⟨by omega, ?_⟩
  have lk : ∀ k ∈ (nd d n).kids, low d k ≤ 40 := fun k hk => low_40 V (V.kid n hn k hk).1
  rw [low_eq V hn]
  refine LoopVC.intro (fun m e h' => ∃ k : Nat, k ≤ (nd d n).kids.length ∧ m = (nd d n).kids.length - k ∧ e 0 = .pin (edC d made) ∧ e 15 = sl eInt (nd d n).kids ∧ e 16 = aInt (nd d n).kids.length ∧ e 17 = aInt k ∧ e 4 = aInt ((((nd d n).kids.take k).map fun k => low d k + 1).foldl max 0 : Nat) ∧ h' = h) _ ⟨0, by omega, rfl, rfl, rfl, rfl, rfl, rfl, rfl⟩ ?_
  rintro m e h' ⟨k, hk, rfl, he0, he15, he16, he17, he4, rfl⟩
  simp -dsimp -implicitDefEqProofs (disch := omega) only [VCA, pg_gl, ↓upd_none, Nat.reduceEqDiff, Nat.reduceBEq, Nat.reduceAdd, Nat.reduceSub, Nat.reduceMul, Nat.reduceLT, Nat.reduceLeDiff, ↓reduceIte, reduceCtorEq, rsOf, rootsOf, SOp.rd, SI.rd, SX.rd, rdL, rdO, rdP, okParts, eqCells, okEqCells, fillA, okFill, setAt, implies_true, forall_const, forall_eq, ne_eq, exists_eq_right_right, exists_eq_right, exists_eq_left, exists_eq_left', rootL, eInt, eBool, lit_eq, he0, he15, he16, he17, he4]
  refine Br.dec (fun hlt => ?_) (fun hge => ?_)
  · have hk' : k < (nd d n).kids.length := by omega
    have hD := ih _ (nth_mem' hk')
    have l40 := lk _ (nth_mem' hk')
    unfold edC at hD
    simp -dsimp -implicitDefEqProofs (disch := omega) only [VCA, pg_gl, ↓upd_none, Nat.reduceEqDiff, Nat.reduceBEq, Nat.reduceAdd, Nat.reduceSub, Nat.reduceMul, Nat.reduceLT, Nat.reduceLeDiff, ↓reduceIte, reduceCtorEq, rsOf, rootsOf, SOp.rd, SI.rd, SX.rd, rdL, rdO, rdP, okParts, eqCells, okEqCells, fillA, okFill, setAt, implies_true, forall_const, forall_eq, ne_eq, exists_eq_right_right, exists_eq_right, exists_eq_left, exists_eq_left', rootL, eInt, eBool, lit_eq, he0, he15, he16, he17, he4, edC]
    refine ⟨by omega, ?_⟩
    refine pcallE.of (hD) ?_; simp -dsimp -implicitDefEqProofs (disch := omega) only [VCA, pg_gl, ↓upd_none, Nat.reduceEqDiff, Nat.reduceBEq, Nat.reduceAdd, Nat.reduceSub, Nat.reduceMul, Nat.reduceLT, Nat.reduceLeDiff, ↓reduceIte, reduceCtorEq, rsOf, rootsOf, SOp.rd, SI.rd, SX.rd, rdL, rdO, rdP, okParts, eqCells, okEqCells, fillA, okFill, setAt, implies_true, forall_const, forall_eq, ne_eq, exists_eq_right_right, exists_eq_right, exists_eq_left, exists_eq_left', rootL, eInt, eBool, lit_eq, he0, he15, he16, he17, he4]
    refine ⟨_, by omega, k + 1, by omega, rfl, rfl, by omega, ?_⟩
    rw [take_snoc hk', List.map_append, List.foldl_append]
    simp only [List.map_cons, List.map_nil, List.foldl_cons, List.foldl_nil]
    omega
  · obtain rfl : k = (nd d n).kids.length := by omega
    rw [List.take_length] at he4
    simp -dsimp -implicitDefEqProofs (disch := omega) only [VCA, pg_gl, ↓upd_none, Nat.reduceEqDiff, Nat.reduceBEq, Nat.reduceAdd, Nat.reduceSub, Nat.reduceMul, Nat.reduceLT, Nat.reduceLeDiff, ↓reduceIte, reduceCtorEq, rsOf, rootsOf, SOp.rd, SI.rd, SX.rd, rdL, rdO, rdP, okParts, eqCells, okEqCells, fillA, okFill, setAt, implies_true, forall_const, forall_eq, ne_eq, exists_eq_right_right, exists_eq_right, exists_eq_left, exists_eq_left', rootL, eInt, eBool, lit_eq, he4]
    exact Sub.refl _
end Go.Proofs.K
end
section
set_option linter.unusedSimpArgs false
set_option linter.unusedVariables false
namespace Go.Proofs.K
open Go Go.Sim Go.Proofs Go.Shelf
variable {G : Glob}
def iren : Ren := ⟨fun | 21 => 92 | 27 => 110 | 28 => 111 | 35 => 125 | 39 => 78 | n => n, fun | 0 => 0 | 3 => 3 | 4 => 4 | 22 => 27 | n => n, fun n => n⟩
theorem lays21 : Lays2.n21 Tryd.prog iren := {
  mixed := by kernel_rfl
  f21 := Tryd.func92.trans (congrArg some (by kernel_rfl))
  f27 := Tryd.func110.trans (congrArg some (by kernel_rfl))
  f28 := Tryd.func111.trans (congrArg some (by kernel_rfl))
  f35 := Tryd.func125.trans (congrArg some (by kernel_rfl))
  f39 := Tryd.func78.trans (congrArg some (by kernel_rfl))
  t0 := Tryd.underlying0
  a0 := Tryd.isAgg0
  z0 := Tryd.sizeOf0
  v0 := Tryd.zeroValue0
  t3 := Tryd.underlying3
  a3 := Tryd.isAgg3
  z3 := Tryd.sizeOf3
  v3 := Tryd.zeroValue3
  t4 := Tryd.underlying4
  a4 := Tryd.isAgg4
  z4 := Tryd.sizeOf4
  v4 := Tryd.zeroValue4
  t22 := Tryd.underlying27
  a22 := Tryd.isAgg27
  z22 := Tryd.sizeOf27
  v22 := Tryd.zeroValue27
  i3 := by kernel_rfl }
theorem setCells_blk (b : Nat) : ∀ (vs : List Value) (o : Nat) (w : World) (cur : Array Value) (t : TypeId) (f : Nat × Nat), w.heap[b]? = some (.cells cur t f) → o + vs.length ≤ cur.size →
    ∃ cur' : Array Value, (w.setCells b o vs).heap[b]? = some (.cells cur' t f) ∧ cur'.size = cur.size ∧ (∀ k, cur'[k]? = if o ≤ k ∧ k < o + vs.length then vs[k - o]? else cur[k]?) ∧ (∀ k, k ≠ b → (w.setCells b o vs).heap[k]? = w.heap[k]?) ∧
      (w.setCells b o vs).heap.size = w.heap.size ∧ (w.setCells b o vs).os = w.os ∧ (w.setCells b o vs).tape = w.tape ∧ (w.setCells b o vs).output = w.output
  | [], o, w, cur, t, f, hb, _ => ⟨cur, hb, rfl, fun k => by rw [if_neg (by simp)], fun _ _ => rfl, rfl, rfl, rfl, rfl⟩
  | v :: r, o, w, cur, t, f, hb, hl => by
    have hlt : b < w.heap.size := (Array.getElem?_eq_some_iff.1 hb).1
    have h1 : (w.setCell ⟨b, o, none⟩ v).heap[b]? = some (.cells (cur.setIfInBounds o v) t f) := by
      unfold World.setCell
      rw [Array.getElem?_modify, if_pos rfl, hb]; rfl
    simp only [List.length_cons] at hl
    obtain ⟨cur', g1, g2, g3, g4, g5, g6, g7, g8⟩ := setCells_blk b r (o + 1) (w.setCell ⟨b, o, none⟩ v) _ t f h1 (by simp; omega)
    refine ⟨cur', g1, by rw [g2]; simp, fun k => ?_, fun k hk => ?_, ?_, g6, g7, g8⟩
    · rw [g3]
      by_cases hk : k = o
      · subst hk
        rw [if_neg (by omega), if_pos (by simp)]
        rw [Array.getElem?_setIfInBounds]
        first | (simp; omega) | simp
        try omega
      · by_cases hi : o + 1 ≤ k ∧ k < o + 1 + r.length
        · rw [if_pos hi, if_pos (by simp; omega), show k - o = (k - (o + 1)) + 1 by omega, List.getElem?_cons_succ]
        · rw [if_neg hi, if_neg (by simp; omega), Array.getElem?_setIfInBounds, if_neg (by omega)]
    · rw [World.setCells, g4 k hk]
      unfold World.setCell
      rw [Array.getElem?_modify, if_neg (fun h => hk h.symm)]
    · rw [World.setCells, g5]; simp [World.setCell]
def IntsAt (cur : Array Value) (bo : Nat) (l : List Int) : Prop := ∀ k, k < l.length → cur[bo + k]? = some (.int .i64 (nth l k))
theorem IntsAt.cells {cur : Array Value} {bo : Nat} {l : List Int} (I : IntsAt cur bo l) (g : Ghost) (w : World) : ∀ (i j : Nat) (e : List AVal) (x : AVal), (l.map eInt)[i]? = some e → e[j]? = some x → ∃ u : Value, cur[bo + (i * 1 + j)]? = some u ∧ u.oneCell' = true ∧ VRel g w u x := by
  intro i j e x he hx
  rw [List.getElem?_map] at he
  obtain ⟨n, hn, rfl⟩ := Option.map_eq_some_iff.1 he
  have hi := (List.getElem?_eq_some_iff.1 hn).1
  have hj : j = 0 := by
    have := (List.getElem?_eq_some_iff.1 hx).1
    simp [eInt] at this; exact this
  subst hj
  cases hx
  have e1 : nth l i = n := by rw [nth_some hi] at hn; exact Option.some.inj hn
  refine ⟨.int .i64 n, ?_, rfl, .int _ _⟩
  have := I i hi
  rw [e1] at this
  simpa using this
theorem ints_block {h : Heap} {g : Ghost} {w : World} (H : HRel h g w) {r : Nat} {es : List (List AVal)} {l : List Int} (hr : h r = some ⟨.t 3, 1, es⟩) (hl : l.length ≤ es.length) (ht : es.take l.length = l.map eInt) (hc : g.cap r ≠ 0) :
    ∃ cur : Array Value, w.heap[g.eta r]? = some (.cells cur 3 (0, 0)) ∧ g.bo r + g.cap r = cur.size ∧ IntsAt cur (g.bo r) l := by
  have O := H.obj r _ hr
  rcases O.block with h0 | ⟨_, _, cur, hcur, hsz, hcell⟩
  · exact absurd h0 hc
  · refine ⟨cur, hcur, by simpa using hsz, fun k hk => ?_⟩
    have he : es[k]? = some (eInt (nth l k)) := by
      have h1 : (es.take l.length)[k]? = some (eInt (nth l k)) := by rw [ht, List.getElem?_map, nth_some hk]; rfl
      rw [List.getElem?_take, if_pos hk] at h1; exact h1
    obtain ⟨u, hu, _, hv⟩ := hcell k 0 _ _ he rfl
    rw [hv.int_inv] at hu
    simpa using hu
theorem new_fin {h : Heap} {g : Ghost} {w w' : World} (H : HRel h g w) {cells : Array Value} {cap : Nat} {l : List Int} (hp : w'.heap = (w.alloc (.cells cells 3)).heap) (h1 : w'.os = w.os) (h2 : w'.tape = w.tape) (h3 : w'.output = w.output)
    (hcs : cells.size = cap) (hle : l.length ≤ cap) (hm : cap ≤ maxLen) (I : IntsAt cells 0 l) :
    ∃ g', GS g w g' w' ∧ HRel (upd h g.nxt (some ⟨.t 3, 1, l.map eInt⟩)) g' w' ∧ VRel g' w' (.slice (some ⟨w.heap.size, 0, none⟩) l.length cap) (.osl g.nxt 1 0 l.length) := by
  obtain ⟨S1, H1⟩ := root_new H cells (ty := 3) (sz := 1) (cap := cap) (es := l.map eInt) (by decide) (by omega) (by simpa using hle) (fun e he => by obtain ⟨x, _, rfl⟩ := List.mem_map.1 he; rfl) (fun i j e x he hx => by
    have := I.cells g w i j e x he hx
    simpa using this)
  obtain ⟨S2, H2⟩ := H1.ext (w' := w') (fun b _ => by rw [hp]) h1 h2 h3 (by rw [hp]; exact Nat.le_refl _)
  refine ⟨_, S1.trans S2, H2, ?_⟩
  have := VRel.osl (g := g.add w.heap.size 0 cap 1) (w := w') g.nxt 1 0 l.length cap 0 (Nat.lt_succ_self _) (by simp [Ghost.add]) hle hm (by simp [Ghost.add]) (fun _ => by simp [Ghost.add])
  simpa [Ghost.add] using this
theorem put_fin {h : Heap} {g : Ghost} {w w' : World} (H : HRel h g w) {r : Nat} {es : List (List AVal)} (hr : h r = some ⟨.t 3, 1, es⟩) (hc : g.cap r ≠ 0) {cur' : Array Value} {l : List Int} (hb : w'.heap[g.eta r]? = some (.cells cur' 3 (0, 0)))
    (hs : ∀ b, b ≠ g.eta r → w'.heap[b]? = w.heap[b]?) (hz : w'.heap.size = w.heap.size) (h1 : w'.os = w.os) (h2 : w'.tape = w.tape) (h3 : w'.output = w.output) (hsz : g.bo r + g.cap r = cur'.size) (hle : l.length ≤ g.cap r) (hm : g.cap r ≤ maxLen) (I : IntsAt cur' (g.bo r) l) :
    ∃ g', GS g w g' w' ∧ HRel (upd (del h r) g.nxt (some ⟨.t 3, 1, l.map eInt⟩)) g' w' ∧ VRel g' w' (.slice (some ⟨g.eta r, g.bo r, none⟩) l.length (g.cap r)) (.osl g.nxt 1 0 l.length) := by
  have O := H.obj r _ hr
  rcases O.block with h0 | ⟨hlt, hnf, cur, hcur, _, _⟩
  · exact absurd h0 hc
  · obtain ⟨S, H1⟩ := root_touch H hr hc (w' := w') hs hz h1 h2 h3 ⟨_, _, _, hb⟩
    have H2 := H1.add (blk := g.eta r) (bo := g.bo r) (cap := g.cap r) (sz := 1) (ty := 3) (es := l.map eInt) (by decide) (fun e he => by obtain ⟨x, _, rfl⟩ := List.mem_map.1 he; rfl) (by simpa using hle) (.inr ⟨by rw [hz]; exact hlt, hnf, fun t ob ht h0 he => by
      unfold Sim.del at ht
      split at ht
      · cases ht
      · rename_i hne; exact hne (H.inj t r ob _ ht hr h0 hc he), cur', hb, by omega, I.cells g w'⟩)
    refine ⟨_, S.addTo _ _ _ _ (.inr (.inl ⟨r, O.lt, hc, rfl⟩)), H2, ?_⟩
    have := VRel.osl (g := g.add (g.eta r) (g.bo r) (g.cap r) 1) (w := w') g.nxt 1 0 l.length (g.cap r) (g.bo r) (Nat.lt_succ_self _) (by simp [Ghost.add]) hle hm (by simp [Ghost.add]) (fun _ => by simp [Ghost.add])
    simpa [Ghost.add] using this
theorem ins_len (l : List Int) (i : Nat) (x : Int) (hi : i ≤ l.length) : (l.take i ++ x :: l.drop i).length = l.length + 1 := by
  rw [List.length_append, List.length_cons, List.length_take, List.length_drop]; omega
theorem ins_nth (l : List Int) (i : Nat) (x : Int) (hi : i ≤ l.length) (k : Nat) : nth (l.take i ++ x :: l.drop i) k = if k < i then nth l k else if k = i then x else nth l (k - 1) := by
  unfold nth
  simp only [List.getD_eq_getElem?_getD]
  by_cases h1 : k < i
  · rw [if_pos h1, List.getElem?_append_left (by rw [List.length_take]; omega), List.getElem?_take, if_pos h1]
  · rw [if_neg h1, List.getElem?_append_right (by rw [List.length_take]; omega), List.length_take, Nat.min_eq_left hi]
    by_cases h2 : k = i
    · rw [if_pos h2, h2]; simp
    · rw [if_neg h2, show k - i = (k - i - 1) + 1 by omega, List.getElem?_cons_succ, List.getElem?_drop, show i + (k - i - 1) = k - 1 by omega]
end Go.Proofs.K
end
section
set_option linter.unusedSimpArgs false
set_option linter.unusedVariables false
namespace Go.Proofs.K
open Go Go.Sim Go.Proofs Go.Shelf
variable {G : Glob}
theorem vrel_three {g : Ghost} {w : World} {vs : Array Value} {a b c : AVal} (V : VRelL g w vs [a, b, c]) : ∃ u v x, vs = #[u, v, x] ∧ VRel g w u a ∧ VRel g w v b ∧ VRel g w x c := by
  obtain ⟨hs, hv⟩ := V
  obtain ⟨l⟩ := vs
  match l, hs with
  | [u, v, x], _ => exact ⟨u, v, x, rfl, hv 0 u a rfl rfl, hv 1 v b rfl rfl, hv 2 x c rfl rfl⟩
def intsV (l : List Int) : List Value := l.map (Value.int .i64)
theorem intsV_get {l : List Int} {j : Nat} {v : Value} (h : (intsV l)[j]? = some v) : j < l.length ∧ v = .int .i64 (nth l j) := by
  unfold intsV at h
  rw [List.getElem?_map] at h
  obtain ⟨n, hn, rfl⟩ := Option.map_eq_some_iff.1 h
  have hj := (List.getElem?_eq_some_iff.1 hn).1
  refine ⟨hj, ?_⟩
  rw [nth_some hj] at hn
  rw [Option.some.inj hn]
theorem intsV_at {l : List Int} {j : Nat} (h : j < l.length) : (intsV l)[j]? = some (.int .i64 (nth l j)) := by
  unfold intsV; rw [List.getElem?_map, nth_some h]; rfl
theorem intsV_one {l : List Int} : ∀ v ∈ intsV l, v.oneCell' = true := fun v hv => by
  obtain ⟨x, _, rfl⟩ := List.mem_map.1 hv; rfl
theorem insertI_ok {h : Heap} {a : AVal} {l : List Int} {x : Int} {i rv : Nat} (O : OwnS h 3 1 (l.map eInt) a) (M : Mut a) (hi : i ≤ l.length) (hl : l.length ≤ 100000) (hrv : h rv = some ⟨.t 3, 1, [eInt x]⟩) (hne : rootOf a ≠ some rv) :
    DCalls (Pg G) 92 [a, aInt i, .osl rv 1 0 1] h fun r h' => ∃ r', r = .osl r' 1 0 (l.length + 1) ∧ h' r' = some ⟨.t 3, 1, (l.take i ++ x :: l.drop i).map eInt⟩ ∧ (rootOf a = some r' ∨ h r' = none) ∧ (∀ t o, h t = some o → rootOf a ≠ some t → h' t = some o) := by
  refine ⟨⟨_, Tryd.func92, by kernel_rfl, by kernel_rfl⟩, fun g w vs H GR V => ?_⟩
  obtain ⟨va, vi, vv, rfl, ha, hvi, hv⟩ := vrel_three V
  rw [hvi.int_inv]
  obtain ⟨hrl, hsz, hc⟩ := hv.osl_inv
  rcases hc with ⟨_, _, h0, _⟩ | ⟨capv, offv, rfl, hncv, hmv, hiv, hoffv⟩
  · omega
  have hcv : g.cap rv ≠ 0 := by omega
  obtain ⟨curv, hcurv, hszv, Iv⟩ := ints_block H (l := [x]) hrv (by simp) (by simp) hcv
  have hov : offv = g.bo rv := by have := hoffv (by omega); omega
  subst hov
  have cv : ∀ j v, [Value.int .i64 x][j]? = some v → w.cell? ⟨g.eta rv, g.bo rv + j, none⟩ = some v := fun j v hj => by
    have h1 := intsV_get (l := [x]) (j := j) (v := v) hj
    rw [cell_of_row w _ _ curv _ _ hcurv, Iv j h1.1, h1.2]
  have one1 : ∀ v ∈ [Value.int .i64 x], v.oneCell' = true := fun v hv => by simp at hv; subst hv; rfl
  have nx := H.none_nxt
  have ins := ins_len l i x hi
  have insn := ins_nth l i x hi
  have empty : l = [] → ∀ (A : Option Addr), va = .slice A 0 0 → Calls Tryd.prog 92 #[va, .int .i64 i, .slice (some ⟨g.eta rv, g.bo rv, none⟩) 1 capv] w fun e w' => ∃ v r h' g', e = .returned v ∧ (∃ r', r = .osl r' 1 0 (l.length + 1) ∧ h' r' = some ⟨.t 3, 1, (l.take i ++ x :: l.drop i).map eInt⟩ ∧ (rootOf a = some r' ∨ h r' = none) ∧ (∀ t o, h t = some o → rootOf a ≠ some t → h' t = some o)) ∧ HRel h' g' w' ∧ VRel g' w' v r ∧ GS g w g' w' := by
    intro hl0 A hA
    subst hl0
    obtain rfl : i = 0 := by simpa using hi
    rw [hA]
    refine (Any2.slices_Insert_int_end_grow lays21 A 0 0 (g.eta rv) (g.bo rv) 1 capv [] [.int .i64 x] w (by decide) (by decide) (by decide) (by decide) rfl rfl (fun _ => rfl) (fun _ _ j v hj => by simp at hj) cv one1).mono fun e w' ⟨he, hw⟩ => ?_
    have ge := grownCap_ge w (0 + 1) 0 (iren.t 3)
    have gm := grownCap_le_maxLen w (0 + 1) 0 (iren.t 3) (by decide)
    generalize grownCap w (0 + 1) 0 (iren.t 3) = gc at *
    obtain ⟨g', S, H', V'⟩ := new_fin (w' := w') (l := [x]) (cap := gc) H (by rw [hw]; rfl) (by rw [hw]; rfl) (by rw [hw]; rfl) (by rw [hw]; rfl) (by rw [Array.size_append, size_zeroCells]; show 1 + (gc - (0 + 1)) * 1 = gc; omega) (by simpa using ge) gm (fun k hk => by
      have : k = 0 := by simpa using hk
      subst this
      rw [Array.getElem?_append_left (by simp)]; rfl)
    refine ⟨_, .osl g.nxt 1 0 1, _, g', he, ⟨g.nxt, rfl, upd_same _ _ _, .inr nx, fun t o ht _ => by rw [upd_ne _ _ (fun e => by rw [e, nx] at ht; cases ht)]; exact ht⟩, H', by simpa using V', S⟩
  rcases O.live M with ⟨hl0, rfl⟩ | ⟨r, es, rfl, hr, hle, hte⟩
  · obtain ⟨A, hA, _⟩ := ha.emp_inv
    exact empty (by simpa using hl0) A hA
  · rw [List.length_map] at ha hle hte ⊢
    obtain ⟨_, _, hca⟩ := ha.osl_inv
    rcases hca with ⟨hA, _, h0, _⟩ | ⟨c, off, hA, hnc, hm, hic, hoff⟩
    · have : l = [] := List.eq_nil_of_length_eq_zero h0
      exact empty this none (by rw [hA])
    · have hcap : g.cap r = c := by omega
      have hle2 := (H.obj r _ hr).le
      by_cases hc0 : c = 0
      · have hn0 : l.length = 0 := by omega
        subst hc0
        exact empty (List.eq_nil_of_length_eq_zero hn0) (some ⟨g.eta r, off, none⟩) (by rw [hA, hn0])
      · have hof : off = g.bo r := by have := hoff (by omega); omega
        subst hof
        have hcr : g.cap r ≠ 0 := by omega
        obtain ⟨cur, hcur, hsz2, I⟩ := ints_block H hr hle hte hcr
        rw [hA]
        have cs : ∀ j v, (intsV l)[j]? = some v → w.cell? ⟨g.eta r, g.bo r + j, none⟩ = some v := fun j v hj => by
          obtain ⟨h1, rfl⟩ := intsV_get hj
          rw [cell_of_row w _ _ cur _ _ hcur, I j h1]
        have cln : (intsV l).length = l.length := by simp [intsV]
        have hnb : g.eta rv ≠ g.eta r := fun e => hne (by rw [H.inj rv r _ _ hrv hr hcv hcr e]; rfl)
        have sp : ∀ j, g.bo r + j < cur.size → (w.cell? ⟨g.eta r, g.bo r + j, none⟩).isSome = true := fun j hj => by
          rw [cell_of_row w _ _ cur _ _ hcur, Array.getElem?_eq_getElem hj]; rfl
        have fzn : ∀ b k (cu : Array Value) t, w.heap[b]? = some (.cells cu t (0, 0)) → w.frozen? ⟨b, k, none⟩ = false := fun b k cu t hb => by simp [World.frozen?, hb]
        have kp : ∀ (ob : AObj) t o, h t = some o → rootOf (.osl r 1 0 l.length) ≠ some t → upd (del h r) g.nxt (some ob) t = some o := fun ob t o ht hn => by
          rw [upd_ne _ _ (fun e => by rw [e, nx] at ht; cases ht)]
          unfold del
          rw [if_neg (fun e => hn (by rw [e]; rfl))]; exact ht
        have kp2 : ∀ (ob : AObj) t o, h t = some o → rootOf (.osl r 1 0 l.length) ≠ some t → upd h g.nxt (some ob) t = some o := fun ob t o ht hn => by
          rw [upd_ne _ _ (fun e => by rw [e, nx] at ht; cases ht)]; exact ht
        have dl : ((intsV l).drop i).length = l.length - i := by rw [List.length_drop, cln]
        by_cases hroom : l.length + 1 ≤ c
        · by_cases hin : i < l.length
          · refine (Any2.slices_Insert_int_shift lays21 (g.eta r) (g.bo r) l.length c i (g.eta rv) (g.bo rv) 1 capv (intsV l) [.int .i64 x] w hin (by decide) hroom (by simp only [maxLen] at hm; omega) hnb cln rfl cs (fun j hj => sp j (by omega)) (fun j _ => fzn _ _ _ _ hcur) cv intsV_one one1 3 3 curv.size cur.size (by simp [World.shape?, hcurv]) (by simp [World.shape?, hcur]) (by omega) (fzn _ _ _ _ hcurv) (fzn _ _ _ _ hcurv)).mono fun e w' ⟨he, hw⟩ => ?_
            obtain ⟨c1, b1, s1, k1, o1, z1, p1, p2, p3⟩ := setCells_blk (g.eta r) ((intsV l).drop i) (g.bo r + (i + 1)) w.drew cur _ _ hcur (by rw [dl]; omega)
            obtain ⟨c2, b2, s2, k2, o2, z2, q1, q2, q3⟩ := setCells_blk (g.eta r) [.int .i64 x] (g.bo r + i) (w.drew.setCells (g.eta r) (g.bo r + (i + 1)) ((intsV l).drop i)) c1 _ _ b1 (by simp; omega)
            have I2 : IntsAt c2 (g.bo r) (l.take i ++ x :: l.drop i) := fun k hk => by
              rw [ins] at hk
              rw [k2, insn k]
              by_cases h1 : k = i
              · rw [if_pos (by simp; omega), if_neg (by omega), if_pos h1, h1, Nat.sub_self]; rfl
              · rw [if_neg (by simp; omega), k1, dl]
                by_cases h2 : k < i
                · rw [if_neg (by omega), if_pos h2]; exact I k (by omega)
                · rw [if_pos (by omega), if_neg h2, if_neg h1, List.getElem?_drop, show i + (g.bo r + k - (g.bo r + (i + 1))) = k - 1 by omega]
                  exact intsV_at (by omega)
            obtain ⟨g', S, H', V'⟩ := put_fin (w' := w') (cur' := c2) H hr hcr (by rw [hw]; exact b2) (fun b hb => by rw [hw, o2 b hb, o1 b hb]; rfl) (by rw [hw, z2, z1]; rfl) (by rw [hw, q1, p1]; rfl) (by rw [hw, q2, p2]; rfl) (by rw [hw, q3, p3]; rfl) (by omega) (by omega) (by omega) I2
            rw [ins, hcap] at V'
            exact ⟨_, .osl g.nxt 1 0 (l.length + 1), _, g', he, ⟨g.nxt, rfl, upd_same _ _ _, .inr nx, kp _⟩, H', V', S⟩
          · obtain rfl : i = l.length := by omega
            refine (Any2.slices_Insert_int_end_room lays21 (g.eta r) (g.bo r) l.length c (g.eta rv) (g.bo rv) 1 capv [.int .i64 x] w (by decide) hroom (by simp only [maxLen] at hm; omega) rfl (fun j hj => by rw [Nat.add_assoc]; exact sp _ (by omega)) (fun j _ => fzn _ _ _ _ hcur) cv one1).mono fun e w' ⟨he, hw⟩ => ?_
            obtain ⟨c2, b2, s2, k2, o2, z2, q1, q2, q3⟩ := setCells_blk (g.eta r) [.int .i64 x] (g.bo r + l.length) w cur _ _ hcur (by simp; omega)
            have I2 : IntsAt c2 (g.bo r) (l.take l.length ++ x :: l.drop l.length) := fun k hk => by
              rw [ins] at hk
              rw [k2, insn k]
              by_cases h1 : k = l.length
              · rw [if_pos (by simp; omega), if_neg (by omega), if_pos h1, h1, Nat.sub_self]; rfl
              · rw [if_neg (by simp; omega), if_pos (by omega)]; exact I k (by omega)
            obtain ⟨g', S, H', V'⟩ := put_fin (w' := w') (cur' := c2) H hr hcr (by rw [hw]; exact b2) (fun b hb => by rw [hw, o2 b hb]) (by rw [hw, z2]) (by rw [hw, q1]) (by rw [hw, q2]) (by rw [hw, q3]) (by omega) (by omega) (by omega) I2
            rw [ins, hcap] at V'
            exact ⟨_, .osl g.nxt 1 0 (l.length + 1), _, g', he, ⟨g.nxt, rfl, upd_same _ _ _, .inr nx, kp _⟩, H', V', S⟩
        · have ge := grownCap_ge w (l.length + 1) c (iren.t 3)
          have gm := grownCap_le_maxLen w (l.length + 1) c (iren.t 3) (by simp only [maxLen]; omega)
          by_cases hin : i < l.length
          · refine (Any2.slices_Insert_int_grow lays21 (g.eta r) (g.bo r) l.length c i (g.eta rv) (g.bo rv) 1 capv (intsV l) [.int .i64 x] w hin (by decide) hnc (by omega) (by omega) cln rfl cs cv intsV_one one1).mono fun e w' ⟨he, hw⟩ => ?_
            generalize grownCap w (l.length + 1) c (iren.t 3) = gc at *
            have z0 : ∀ k, (Builtin.zeroCells (Value.int .i64 0).cells k).size = k := fun k => by rw [size_zeroCells]; show k * 1 = k; omega
            rw [show iren.t 3 = 3 from rfl] at hw
            generalize hC0 : (((intsV l).take i).toArray ++ Builtin.zeroCells (Value.int .i64 0).cells (l.length + 1 - i) ++ Builtin.zeroCells (Value.int .i64 0).cells (gc - (l.length + 1))) = C0 at hw
            have sC : C0.size = gc := by
              rw [← hC0, Array.size_append, Array.size_append, z0, z0, List.size_toArray, List.length_take, cln]; omega
            have gC : ∀ k, k < i → C0[k]? = some (.int .i64 (nth l k)) := fun k hk => by
              rw [← hC0, Array.append_assoc, Array.getElem?_append_left (by rw [List.size_toArray, List.length_take, cln]; omega), List.getElem?_toArray, List.getElem?_take, if_pos hk]
              exact intsV_at (by omega)
            have hb0 : (w.alloc (.cells C0 3)).drew.heap[w.heap.size]? = some (.cells C0 3 (0, 0)) := heap_push_new w _
            obtain ⟨c1, b1, s1, k1, o1, z1, p1, p2, p3⟩ := setCells_blk w.heap.size [.int .i64 x] i (w.alloc (.cells C0 3)).drew C0 _ _ hb0 (by simp; omega)
            obtain ⟨c2, b2, s2, k2, o2, z2, q1, q2, q3⟩ := setCells_blk w.heap.size ((intsV l).drop i) (i + 1) ((w.alloc (.cells C0 3)).drew.setCells w.heap.size i [.int .i64 x]).drew c1 _ _ b1 (by rw [dl]; omega)
            have I2 : IntsAt c2 0 (l.take i ++ x :: l.drop i) := fun k hk => by
              rw [ins] at hk
              rw [k2, insn k, dl]
              by_cases h1 : i < k
              · rw [if_pos (by omega), if_neg (by omega), if_neg (by omega), List.getElem?_drop, show i + (0 + k - (i + 1)) = k - 1 by omega]
                exact intsV_at (by omega)
              · rw [if_neg (by omega), k1]
                by_cases h2 : k = i
                · rw [if_pos (by simp; omega), if_neg (by omega), if_pos h2, h2]; simp
                · rw [if_neg (by simp; omega), if_pos (by omega), Nat.zero_add]; exact gC k (by omega)
            have hp : w'.heap = (w.alloc (.cells c2 3)).heap := by
              rw [hw]
              apply Array.ext_getElem?
              intro b
              by_cases hb : b = w.heap.size
              · subst hb; rw [b2]; exact (heap_push_new w _).symm
              · rw [o2 b hb]
                refine (o1 b hb).trans ?_
                show (w.heap.push _)[b]? = (w.heap.push _)[b]?
                rw [Array.getElem?_push, Array.getElem?_push, if_neg hb, if_neg hb]
            obtain ⟨g', S, H', V'⟩ := new_fin (w' := w') (cap := gc) H hp (by rw [hw, q1]; exact p1) (by rw [hw, q2]; exact p2) (by rw [hw, q3]; exact p3) (by omega) (by omega) gm I2
            rw [ins] at V'
            exact ⟨_, .osl g.nxt 1 0 (l.length + 1), _, g', he, ⟨g.nxt, rfl, upd_same _ _ _, .inr nx, kp2 _⟩, H', V', S⟩
          · obtain rfl : i = l.length := by omega
            refine (Any2.slices_Insert_int_end_grow lays21 (some ⟨g.eta r, g.bo r, none⟩) l.length c (g.eta rv) (g.bo rv) 1 capv (intsV l) [.int .i64 x] w (by decide) hnc (by omega) (by omega) cln rfl (fun h => by cases h) (fun a ha j v hj => by cases ha; rw [Addr.add_lit]; exact cs j v hj) cv one1).mono fun e w' ⟨he, hw⟩ => ?_
            generalize grownCap w (l.length + 1) c (iren.t 3) = gc at *
            have z0 : ∀ k, (Builtin.zeroCells (Value.int .i64 0).cells k).size = k := fun k => by rw [size_zeroCells]; show k * 1 = k; omega
            obtain ⟨g', S, H', V'⟩ := new_fin (w' := w') (l := l.take l.length ++ x :: l.drop l.length) (cap := gc) H (by rw [hw]; rfl) (by rw [hw]; rfl) (by rw [hw]; rfl) (by rw [hw]; rfl) (by rw [Array.size_append, z0, List.size_toArray, List.length_append, cln, List.length_singleton]; omega) (by omega) gm (fun k hk => by
              rw [ins] at hk
              rw [Nat.zero_add, insn k, Array.getElem?_append_left (by rw [List.size_toArray, List.length_append, cln, List.length_singleton]; omega), List.getElem?_toArray]
              by_cases h1 : k < l.length
              · rw [if_pos h1, List.getElem?_append_left (by omega)]; exact intsV_at h1
              · rw [if_neg h1, if_pos (by omega), List.getElem?_append_right (by omega), cln, show k - l.length = 0 by omega]; rfl)
            rw [ins] at V'
            exact ⟨_, .osl g.nxt 1 0 (l.length + 1), _, g', he, ⟨g.nxt, rfl, upd_same _ _ _, .inr nx, kp2 _⟩, H', V', S⟩
end Go.Proofs.K
end
