/- Texts of this claim, one behind the other. -/
import Derived.Test.YtmfechcelhchcaaDoorM3
section
/- Documents: the reference's DocErr; what two documents have in common. -/
set_option linter.unusedSimpArgs false
set_option linter.unusedVariables false
namespace Go.Proofs.K
open Go Go.Sim Go.Proofs
variable {G : Glob}

def deepM (d : HDoc) (n : Int) : Int := if d.nodes.length < up d n then -1 else up d n
def c65 : SFun := ⟨(.seq (.reg [⟨(some 2), (.boxF 24 2 (.t 0)), none⟩, ⟨(some 4), (.mv (.c (.int .i64 (0)))), none⟩]) (.seq (.reg [⟨(some 5), (.mv (.c (.int .i64 (0)))), none⟩]) (.seq (.block 0 (.loop (.seq (.seq (.reg [⟨(some 6), (.fldA 0 (.t 2)), none⟩, ⟨(some 7), (.ld 1 false (.t 6)), none⟩, ⟨(some 8), (.mv (.t 1)), none⟩, ⟨(some 9), (.idxA 6 (.t 7) (.t 8)), none⟩, ⟨(some 10), (.fldA 4 (.t 9)), none⟩, ⟨(some 11), (.ld 1 false (.t 10)), none⟩, ⟨(some 12), (.bin .geq (.t 11) (.c (.int .i64 (0)))), none⟩]) (.cond (.t 12) .skip (.exit 0))) (.block 1 (.seq (.reg [⟨(some 13), (.fldA 0 (.t 2)), none⟩, ⟨(some 14), (.ld 1 false (.t 13)), none⟩, ⟨(some 15), (.mv (.t 1)), none⟩, ⟨(some 16), (.idxA 6 (.t 14) (.t 15)), none⟩, ⟨(some 17), (.fldA 4 (.t 16)), none⟩, ⟨(some 18), (.ld 1 false (.t 17)), none⟩, ⟨(some 1), (.mv (.t 18)), none⟩]) (.seq (.reg [⟨(some 19), (.mv (.t 5)), none⟩, ⟨(some 20), (.bin .add (.t 19) (.c (.int .i64 (1)))), none⟩, ⟨(some 5), (.mv (.t 20)), none⟩]) (.seq (.reg [⟨(some 21), (.mv (.t 5)), none⟩, ⟨(some 22), (.fldA 0 (.t 2)), none⟩, ⟨(some 23), (.ld 1 false (.t 22)), none⟩, ⟨(some 24), (.len (.t 23)), none⟩, ⟨(some 25), (.bin .gtr (.t 21) (.t 24)), none⟩]) (.cond (.t 25) (.seq (.reg [⟨(some 4), (.mv (.c (.int .i64 (-1)))), none⟩]) .ret) .skip)))))))) (.seq (.reg [⟨(some 26), (.mv (.t 5)), none⟩, ⟨(some 4), (.mv (.t 26)), none⟩]) .ret)))), [(.tmp 4)]⟩
theorem hc65 : toSF Tryd.prog {} Tryd.f65 = some c65 := by kernel_rfl
theorem hn65 : (Tryd.f65.name == "runtime.NumGoroutine") = false := by kernel_rfl
theorem deep_ok (d : HDoc) (sm : DocSm d) (hP : ∀ n, inD d n → 0 ≤ (nd d n).parent → inD d (nd d n).parent) (n : Int) (hn : inD d n) : PCalls (Pg G) 65 [.agg (eDoc d), aInt n] (aInt (deepM d n)) := fun h => by
  have hl := sm.len
  refine dcalls_of_vc Tryd.func65 hn65 hc65 (by rw [Tryd.ntmps65]; simp) (by rw [Tryd.ntmps65]; decide) ?_
  simp -dsimp -implicitDefEqProofs (disch := omega) only [VCA, pg_gl, ↓upd_none, Nat.reduceEqDiff, Nat.reduceBEq, Nat.reduceAdd, Nat.reduceSub, Nat.reduceMul, Nat.reduceLT, Nat.reduceLeDiff, ↓reduceIte, reduceCtorEq, rsOf, rootsOf, SOp.rd, SI.rd, SX.rd, rdL, rdO, rdP, okParts, eqCells, okEqCells, fillA, okFill, setAt, implies_true, forall_const, forall_eq, ne_eq, exists_eq_right_right, exists_eq_right, exists_eq_left, exists_eq_left', eAttr, eInt, eNode, eDoc, eBool, lit_eq, c65, eDoc]
  refine LoopVC.intro (fun m e h' => ∃ (c : Int) (k : Nat), k ≤ d.nodes.length ∧ m = d.nodes.length + 1 - k ∧ inD d c ∧ e 1 = aInt c ∧ e 2 = .pin (eDoc d) ∧ e 5 = aInt k ∧ h' = h ∧ k + upF (d.nodes.length + 1 - k) d c = up d n) (d.nodes.length + 1) ⟨n, 0, by omega, rfl, hn, rfl, rfl, rfl, rfl, by simp [up]⟩ ?_
  rintro m e h' ⟨c, k, hk, rfl, hc, he1, he2, he5, rfl, hu⟩
  have hc0 := hc.1
  have hc1 := hc.2
  simp -dsimp -implicitDefEqProofs (disch := omega) only [VCA, pg_gl, ↓upd_none, Nat.reduceEqDiff, Nat.reduceBEq, Nat.reduceAdd, Nat.reduceSub, Nat.reduceMul, Nat.reduceLT, Nat.reduceLeDiff, ↓reduceIte, reduceCtorEq, rsOf, rootsOf, SOp.rd, SI.rd, SX.rd, rdL, rdO, rdP, okParts, eqCells, okEqCells, fillA, okFill, setAt, implies_true, forall_const, forall_eq, ne_eq, exists_eq_right_right, exists_eq_right, exists_eq_left, exists_eq_left', eAttr, eInt, eNode, eDoc, eBool, lit_eq, he1, he2, he5, eDoc]
  refine ⟨by omega, ?_⟩
  have e0 : nth d.nodes c.toNat = nd d c := rfl
  rw [e0]
  refine Br.dec (fun h1 => ?_) (fun h1 => ?_)
  · obtain ⟨f, hf⟩ : ∃ f, d.nodes.length + 1 - k = f + 1 := ⟨d.nodes.length - k, by omega⟩
    rw [hf, upF, if_pos h1] at hu
    simp -dsimp -implicitDefEqProofs (disch := omega) only [VCA, pg_gl, ↓upd_none, Nat.reduceEqDiff, Nat.reduceBEq, Nat.reduceAdd, Nat.reduceSub, Nat.reduceMul, Nat.reduceLT, Nat.reduceLeDiff, ↓reduceIte, reduceCtorEq, rsOf, rootsOf, SOp.rd, SI.rd, SX.rd, rdL, rdO, rdP, okParts, eqCells, okEqCells, fillA, okFill, setAt, implies_true, forall_const, forall_eq, ne_eq, exists_eq_right_right, exists_eq_right, exists_eq_left, exists_eq_left', eAttr, eInt, eNode, eDoc, eBool, lit_eq, he1, he2, he5, eDoc]
    rw [e0]
    refine ⟨by omega, ?_⟩
    refine Br.dec (fun h2 => ?_) (fun h2 => ?_)
    · simp -dsimp -implicitDefEqProofs (disch := omega) only [VCA, pg_gl, ↓upd_none, Nat.reduceEqDiff, Nat.reduceBEq, Nat.reduceAdd, Nat.reduceSub, Nat.reduceMul, Nat.reduceLT, Nat.reduceLeDiff, ↓reduceIte, reduceCtorEq, rsOf, rootsOf, SOp.rd, SI.rd, SX.rd, rdL, rdO, rdP, okParts, eqCells, okEqCells, fillA, okFill, setAt, implies_true, forall_const, forall_eq, ne_eq, exists_eq_right_right, exists_eq_right, exists_eq_left, exists_eq_left', eAttr, eInt, eNode, eDoc, eBool, lit_eq]
      have : d.nodes.length < up d n := by omega
      exact ⟨Sub.refl _, by unfold deepM; rw [if_pos this]⟩
    · simp -dsimp -implicitDefEqProofs (disch := omega) only [VCA, pg_gl, ↓upd_none, Nat.reduceEqDiff, Nat.reduceBEq, Nat.reduceAdd, Nat.reduceSub, Nat.reduceMul, Nat.reduceLT, Nat.reduceLeDiff, ↓reduceIte, reduceCtorEq, rsOf, rootsOf, SOp.rd, SI.rd, SX.rd, rdL, rdO, rdP, okParts, eqCells, okEqCells, fillA, okFill, setAt, implies_true, forall_const, forall_eq, ne_eq, exists_eq_right_right, exists_eq_right, exists_eq_left, exists_eq_left', eAttr, eInt, eNode, eDoc, eBool, lit_eq, he2, he5]
      refine ⟨_, ?_, (nd d c).parent, k + 1, by omega, rfl, hP c hc h1, rfl, by omega, ?_⟩
      · omega
      · have e2 : d.nodes.length + 1 - (k + 1) = f := by omega
        rw [e2]; omega
  · simp -dsimp -implicitDefEqProofs (disch := omega) only [VCA, pg_gl, ↓upd_none, Nat.reduceEqDiff, Nat.reduceBEq, Nat.reduceAdd, Nat.reduceSub, Nat.reduceMul, Nat.reduceLT, Nat.reduceLeDiff, ↓reduceIte, reduceCtorEq, rsOf, rootsOf, SOp.rd, SI.rd, SX.rd, rdL, rdO, rdP, okParts, eqCells, okEqCells, fillA, okFill, setAt, implies_true, forall_const, forall_eq, ne_eq, exists_eq_right_right, exists_eq_right, exists_eq_left, exists_eq_left', eAttr, eInt, eNode, eDoc, eBool, lit_eq, he5]
    rw [upF_top h1] at hu
    exact ⟨Sub.refl _, by unfold deepM; rw [if_neg (by omega)]; omega⟩
def c17_s7 : SCode := (.seq (.seq (.reg [⟨(some 153), (.fldA 0 (.t 1)), none⟩, ⟨(some 154), (.ld 1 false (.t 153)), none⟩, ⟨(some 155), (.idxA 6 (.t 154) (.c (.int .i64 (0)))), none⟩, ⟨(some 156), (.fldA 4 (.t 155)), none⟩, ⟨(some 157), (.ld 1 false (.t 156)), none⟩, ⟨(some 158), (.bin .neq (.t 157) (.c (.int .i64 (-1)))), none⟩]) (.cond (.t 158) (.seq (.reg [⟨(some 2), (.mv (.c (.int .i64 (3)))), none⟩]) .ret) .skip)) (.seq (.seq (.reg [⟨(some 11), (.mv (.c (.int .i64 (0)))), none⟩]) (.block 8 (.loop (.seq (.seq (.reg [⟨(some 159), (.mv (.t 11)), none⟩, ⟨(some 160), (.mv (.t 3)), none⟩, ⟨(some 161), (.bin .lss (.t 159) (.t 160)), none⟩]) (.cond (.t 161) .skip (.exit 8))) (.seq (.block 9 (.seq (.reg [⟨(some 164), (.ld 2 true (.t 1)), none⟩, ⟨(some 165), (.mv (.t 11)), none⟩, ⟨(some 166), (.pcall 65 [(.t 164), (.t 165)]), none⟩, ⟨(some 12), (.mv (.t 166)), none⟩]) (.seq (.seq (.reg [⟨(some 167), (.mv (.t 12)), none⟩, ⟨(some 168), (.bin .lss (.t 167) (.c (.int .i64 (0)))), none⟩]) (.cond (.t 168) (.seq (.reg [⟨(some 2), (.mv (.c (.int .i64 (8)))), none⟩]) .ret) .skip)) (.seq (.reg [⟨(some 169), (.mv (.t 12)), none⟩, ⟨(some 170), (.bin .gtr (.t 169) (.c (.int .i64 (40)))), none⟩]) (.cond (.t 170) (.seq (.reg [⟨(some 2), (.mv (.c (.int .i64 (2)))), none⟩]) .ret) .skip))))) (.reg [⟨(some 162), (.mv (.t 11)), none⟩, ⟨(some 163), (.bin .add (.t 162) (.c (.int .i64 (1)))), none⟩, ⟨(some 11), (.mv (.t 163)), none⟩])))))) (.seq (.reg [⟨(some 2), (.mv (.c (.int .i64 (0)))), none⟩]) .ret)))
def c17_s6 : SCode := (.seq (.seq (.reg [⟨(some 9), (.mv (.c (.int .i64 (0)))), none⟩]) (.block 6 (.loop (.seq (.seq (.reg [⟨(some 122), (.mv (.t 9)), none⟩, ⟨(some 123), (.mv (.t 3)), none⟩, ⟨(some 124), (.bin .lss (.t 122) (.t 123)), none⟩]) (.cond (.t 124) .skip (.exit 6))) (.seq (.block 7 (.seq (.reg [⟨(some 127), (.fldA 0 (.t 1)), none⟩, ⟨(some 128), (.ld 1 false (.t 127)), none⟩, ⟨(some 129), (.mv (.t 9)), none⟩, ⟨(some 130), (.idxA 6 (.t 128) (.t 129)), none⟩, ⟨(some 131), (.fldA 4 (.t 130)), none⟩, ⟨(some 132), (.ld 1 false (.t 131)), none⟩, ⟨(some 10), (.mv (.t 132)), none⟩]) (.seq (.reg [⟨(some 133), (.mv (.t 10)), none⟩, ⟨(some 134), (.bin .neq (.t 133) (.c (.int .i64 (-1)))), none⟩, ⟨(some 135), (.mv (.t 134)), none⟩, ⟨(some 136), (.mv (.t 10)), (some (135, true))⟩, ⟨(some 137), (.mv (.t 3)), (some (135, true))⟩, ⟨(some 138), (.bin .sub (.t 137) (.c (.int .i64 (1)))), (some (135, true))⟩, ⟨(some 139), (.pcall 73 [(.t 136), (.c (.int .i64 (0))), (.t 138)]), (some (135, true))⟩, ⟨(some 140), (.un .not (.t 139)), (some (135, true))⟩, ⟨(some 141), (.mv (.t 140)), (some (135, true))⟩, ⟨(some 142), (.fldA 0 (.t 1)), (some (141, false))⟩, ⟨(some 143), (.ld 1 false (.t 142)), (some (141, false))⟩, ⟨(some 144), (.mv (.t 10)), (some (141, false))⟩, ⟨(some 145), (.idxA 6 (.t 143) (.t 144)), (some (141, false))⟩, ⟨(some 146), (.fldA 5 (.t 145)), (some (141, false))⟩, ⟨(some 147), (.ld 1 false (.t 146)), (some (141, false))⟩, ⟨(some 148), (.mv (.t 9)), (some (141, false))⟩, ⟨(some 149), (.pcall 74 [(.t 147), (.t 148)]), (some (141, false))⟩, ⟨(some 150), (.bin .lss (.t 149) (.c (.int .i64 (0)))), (some (141, false))⟩, ⟨(some 151), (.pick (.t 141) (.c (.bool true)) (.t 150)), (some (135, true))⟩, ⟨(some 152), (.pick (.t 135) (.t 151) (.c (.bool false))), none⟩]) (.cond (.t 152) (.seq (.reg [⟨(some 2), (.mv (.c (.int .i64 (3)))), none⟩]) .ret) .skip)))) (.reg [⟨(some 125), (.mv (.t 9)), none⟩, ⟨(some 126), (.bin .add (.t 125) (.c (.int .i64 (1)))), none⟩, ⟨(some 9), (.mv (.t 126)), none⟩])))))) c17_s7)
def c17_s5 : SCode := (.seq (.seq (.reg [⟨(some 6), (.mv (.c (.int .i64 (0)))), none⟩]) (.block 2 (.loop (.seq (.seq (.reg [⟨(some 58), (.mv (.t 6)), none⟩, ⟨(some 59), (.mv (.t 3)), none⟩, ⟨(some 60), (.bin .lss (.t 58) (.t 59)), none⟩]) (.cond (.t 60) .skip (.exit 2))) (.seq (.block 3 (.seq (.reg [⟨(some 7), (.mv (.c (.int .i64 (0)))), none⟩]) (.block 4 (.loop (.seq (.seq (.reg [⟨(some 63), (.mv (.t 7)), none⟩, ⟨(some 64), (.fldA 0 (.t 1)), none⟩, ⟨(some 65), (.ld 1 false (.t 64)), none⟩, ⟨(some 66), (.mv (.t 6)), none⟩, ⟨(some 67), (.idxA 6 (.t 65) (.t 66)), none⟩, ⟨(some 68), (.fldA 5 (.t 67)), none⟩, ⟨(some 69), (.ld 1 false (.t 68)), none⟩, ⟨(some 70), (.len (.t 69)), none⟩, ⟨(some 71), (.bin .lss (.t 63) (.t 70)), none⟩]) (.cond (.t 71) .skip (.exit 4))) (.seq (.block 5 (.seq (.reg [⟨(some 74), (.fldA 0 (.t 1)), none⟩, ⟨(some 75), (.ld 1 false (.t 74)), none⟩, ⟨(some 76), (.mv (.t 6)), none⟩, ⟨(some 77), (.idxA 6 (.t 75) (.t 76)), none⟩, ⟨(some 78), (.fldA 5 (.t 77)), none⟩, ⟨(some 79), (.ld 1 false (.t 78)), none⟩, ⟨(some 80), (.mv (.t 7)), none⟩, ⟨(some 81), (.idxA 1 (.t 79) (.t 80)), none⟩, ⟨(some 82), (.ld 1 false (.t 81)), none⟩, ⟨(some 8), (.mv (.t 82)), none⟩]) (.seq (.seq (.reg [⟨(some 83), (.mv (.t 8)), none⟩, ⟨(some 84), (.mv (.t 3)), none⟩, ⟨(some 85), (.bin .sub (.t 84) (.c (.int .i64 (1)))), none⟩, ⟨(some 86), (.pcall 73 [(.t 83), (.c (.int .i64 (0))), (.t 85)]), none⟩, ⟨(some 87), (.un .not (.t 86)), none⟩, ⟨(some 88), (.mv (.t 87)), none⟩, ⟨(some 89), (.fldA 0 (.t 1)), (some (88, false))⟩, ⟨(some 90), (.ld 1 false (.t 89)), (some (88, false))⟩, ⟨(some 91), (.mv (.t 8)), (some (88, false))⟩, ⟨(some 92), (.idxA 6 (.t 90) (.t 91)), (some (88, false))⟩, ⟨(some 93), (.fldA 4 (.t 92)), (some (88, false))⟩, ⟨(some 94), (.ld 1 false (.t 93)), (some (88, false))⟩, ⟨(some 95), (.mv (.t 6)), (some (88, false))⟩, ⟨(some 96), (.bin .neq (.t 94) (.t 95)), (some (88, false))⟩, ⟨(some 97), (.pick (.t 88) (.c (.bool true)) (.t 96)), none⟩, ⟨(some 98), (.mv (.t 97)), none⟩, ⟨(some 99), (.fldA 0 (.t 1)), (some (98, false))⟩, ⟨(some 100), (.ld 1 false (.t 99)), (some (98, false))⟩, ⟨(some 101), (.mv (.t 6)), (some (98, false))⟩, ⟨(some 102), (.idxA 6 (.t 100) (.t 101)), (some (98, false))⟩, ⟨(some 103), (.fldA 5 (.t 102)), (some (98, false))⟩, ⟨(some 104), (.ld 1 false (.t 103)), (some (98, false))⟩, ⟨(some 105), (.mv (.t 7)), (some (98, false))⟩, ⟨(some 106), (.slA 1 (.t 104) none (some (.t 105))), (some (98, false))⟩, ⟨(some 107), (.mv (.t 8)), (some (98, false))⟩, ⟨(some 108), (.pcall 74 [(.t 106), (.t 107)]), (some (98, false))⟩, ⟨(some 109), (.bin .geq (.t 108) (.c (.int .i64 (0)))), (some (98, false))⟩, ⟨(some 110), (.pick (.t 98) (.c (.bool true)) (.t 109)), none⟩]) (.cond (.t 110) (.seq (.reg [⟨(some 2), (.mv (.c (.int .i64 (3)))), none⟩]) .ret) .skip)) (.seq (.reg [⟨(some 111), (.mv (.t 6)), none⟩, ⟨(some 112), (.bin .eql (.t 111) (.c (.int .i64 (0)))), none⟩, ⟨(some 113), (.mv (.t 112)), none⟩, ⟨(some 114), (.fldA 0 (.t 1)), (some (113, true))⟩, ⟨(some 115), (.ld 1 false (.t 114)), (some (113, true))⟩, ⟨(some 116), (.mv (.t 8)), (some (113, true))⟩, ⟨(some 117), (.idxA 6 (.t 115) (.t 116)), (some (113, true))⟩, ⟨(some 118), (.fldA 0 (.t 117)), (some (113, true))⟩, ⟨(some 119), (.ld 1 false (.t 118)), (some (113, true))⟩, ⟨(some 120), (.bin .eql (.t 119) (.c (.int .i64 (3)))), (some (113, true))⟩, ⟨(some 121), (.pick (.t 113) (.t 120) (.c (.bool false))), none⟩]) (.cond (.t 121) (.seq (.reg [⟨(some 2), (.mv (.c (.int .i64 (7)))), none⟩]) .ret) .skip))))) (.reg [⟨(some 72), (.mv (.t 7)), none⟩, ⟨(some 73), (.bin .add (.t 72) (.c (.int .i64 (1)))), none⟩, ⟨(some 7), (.mv (.t 73)), none⟩]))))))) (.reg [⟨(some 61), (.mv (.t 6)), none⟩, ⟨(some 62), (.bin .add (.t 61) (.c (.int .i64 (1)))), none⟩, ⟨(some 6), (.mv (.t 62)), none⟩])))))) c17_s6)
def c17_s4 : SCode := (.seq (.seq (.reg [⟨(some 4), (.mv (.c (.int .i64 (0)))), none⟩]) (.block 0 (.loop (.seq (.seq (.reg [⟨(some 20), (.mv (.t 4)), none⟩, ⟨(some 21), (.mv (.t 3)), none⟩, ⟨(some 22), (.bin .lss (.t 20) (.t 21)), none⟩]) (.cond (.t 22) .skip (.exit 0))) (.seq (.block 1 (.seq (.seq (.reg [⟨(some 25), (.mv (.t 4)), none⟩, ⟨(some 26), (.bin .eql (.t 25) (.c (.int .i64 (0)))), none⟩, ⟨(some 27), (.mv (.t 26)), none⟩, ⟨(some 28), (.fldA 0 (.t 1)), (some (27, true))⟩, ⟨(some 29), (.ld 1 false (.t 28)), (some (27, true))⟩, ⟨(some 30), (.mv (.t 4)), (some (27, true))⟩, ⟨(some 31), (.idxA 6 (.t 29) (.t 30)), (some (27, true))⟩, ⟨(some 32), (.fldA 0 (.t 31)), (some (27, true))⟩, ⟨(some 33), (.ld 1 false (.t 32)), (some (27, true))⟩, ⟨(some 34), (.bin .neq (.t 33) (.c (.int .i64 (1)))), (some (27, true))⟩, ⟨(some 35), (.pick (.t 27) (.t 34) (.c (.bool false))), none⟩, ⟨(some 36), (.mv (.t 35)), none⟩, ⟨(some 37), (.mv (.t 4)), (some (36, false))⟩, ⟨(some 38), (.bin .gtr (.t 37) (.c (.int .i64 (0)))), (some (36, false))⟩, ⟨(some 39), (.mv (.t 38)), (some (36, false))⟩, ⟨(some 40), (.fldA 0 (.t 1)), (some (39, true))⟩, ⟨(some 41), (.ld 1 false (.t 40)), (some (39, true))⟩, ⟨(some 42), (.mv (.t 4)), (some (39, true))⟩, ⟨(some 43), (.idxA 6 (.t 41) (.t 42)), (some (39, true))⟩, ⟨(some 44), (.fldA 0 (.t 43)), (some (39, true))⟩, ⟨(some 45), (.ld 1 false (.t 44)), (some (39, true))⟩, ⟨(some 46), (.bin .eql (.t 45) (.c (.int .i64 (1)))), (some (39, true))⟩, ⟨(some 47), (.pick (.t 39) (.t 46) (.c (.bool false))), (some (36, false))⟩, ⟨(some 48), (.pick (.t 36) (.c (.bool true)) (.t 47)), none⟩]) (.cond (.t 48) (.seq (.reg [⟨(some 2), (.mv (.c (.int .i64 (3)))), none⟩]) .ret) .skip)) (.seq (.reg [⟨(some 49), (.fldA 0 (.t 1)), none⟩, ⟨(some 50), (.ld 1 false (.t 49)), none⟩, ⟨(some 51), (.mv (.t 4)), none⟩, ⟨(some 52), (.idxA 6 (.t 50) (.t 51)), none⟩, ⟨(some 53), (.ld 6 true (.t 52)), none⟩, ⟨(some 54), (.pcall 72 [(.t 53)]), none⟩, ⟨(some 5), (.mv (.t 54)), none⟩]) (.seq (.reg [⟨(some 55), (.mv (.t 5)), none⟩, ⟨(some 56), (.bin .neq (.t 55) (.c (.int .i64 (0)))), none⟩]) (.cond (.t 56) (.seq (.reg [⟨(some 57), (.mv (.t 5)), none⟩, ⟨(some 2), (.mv (.t 57)), none⟩]) .ret) .skip))))) (.reg [⟨(some 23), (.mv (.t 4)), none⟩, ⟨(some 24), (.bin .add (.t 23) (.c (.int .i64 (1)))), none⟩, ⟨(some 4), (.mv (.t 24)), none⟩])))))) c17_s5)
def c17 : SFun := ⟨(.seq (.reg [⟨(some 1), (.boxF 24 2 (.t 0)), none⟩, ⟨(some 2), (.mv (.c (.int .i64 (0)))), none⟩]) (.seq (.reg [⟨(some 13), (.fldA 0 (.t 1)), none⟩, ⟨(some 14), (.ld 1 false (.t 13)), none⟩, ⟨(some 15), (.len (.t 14)), none⟩, ⟨(some 3), (.mv (.t 15)), none⟩]) (.seq (.seq (.reg [⟨(some 16), (.mv (.t 3)), none⟩, ⟨(some 17), (.bin .gtr (.t 16) (.c (.int .i64 (200)))), none⟩]) (.cond (.t 17) (.seq (.reg [⟨(some 2), (.mv (.c (.int .i64 (2)))), none⟩]) .ret) .skip)) (.seq (.seq (.reg [⟨(some 18), (.mv (.t 3)), none⟩, ⟨(some 19), (.bin .eql (.t 18) (.c (.int .i64 (0)))), none⟩]) (.cond (.t 19) (.seq (.reg [⟨(some 2), (.mv (.c (.int .i64 (3)))), none⟩]) .ret) .skip)) c17_s4)))), [(.tmp 2)]⟩
theorem hc17 : toSF Tryd.prog {pure := [73, 72, 74, 65]} Tryd.f17 = some c17 := by kernel_rfl
theorem hn17 : (Tryd.f17.name == "runtime.NumGoroutine") = false := by kernel_rfl
theorem docErr_ok (d : HDoc) (sm : DocSm d) : PCalls (Pg G) 17 [.agg (eDoc d)] (aInt (docE d)) := fun h => by
  have hl := sm.len
  have s7 : kidsAll d = 0 ∨ (fe d.nodes.length (kidsE d) = 0 ∧ fe d.nodes.length (parE d) = 0) → 0 < d.nodes.length → ∀ e : Env, e 1 = .pin (eDoc d) → e 3 = aInt d.nodes.length → vc (Pg G) c17_s7 (retK [.tmp 2] fun r h' => r = aInt (if kidsAll d ≠ 0 then kidsAll d else fe d.nodes.length (deepE d)) ∧ h' = h) e h := by
    intro hk hp e he1 he3
    have e0 : nth d.nodes 0 = nd d 0 := rfl
    unfold c17_s7
    skip
    simp -dsimp -implicitDefEqProofs (disch := omega) only [↓vcOps_sp 27, ↓vcD_sp 27, ↓vcOps_sp 36, ↓vcD_sp 36, ↓vcOps_sp 39, ↓vcD_sp 39, ↓vcOps_sp 88, ↓vcD_sp 88, ↓vcOps_sp 98, ↓vcD_sp 98, ↓vcOps_sp 113, ↓vcD_sp 113, ↓vcOps_sp 135, ↓vcD_sp 135, ↓vcOps_sp 141, ↓vcD_sp 141, VCA, pg_gl, ↓upd_none, Nat.reduceEqDiff, Nat.reduceBEq, Nat.reduceAdd, Nat.reduceSub, Nat.reduceMul, Nat.reduceLT, Nat.reduceLeDiff, ↓reduceIte, reduceCtorEq, rsOf, rootsOf, SOp.rd, SI.rd, SX.rd, rdL, rdO, rdP, okParts, eqCells, okEqCells, fillA, okFill, setAt, implies_true, forall_const, forall_eq, ne_eq, exists_eq_right_right, exists_eq_right, exists_eq_left, exists_eq_left', eAttr, eInt, eNode, eDoc, eBool, lit_eq, he1, he3, eDoc, eNode]
    rw [e0]
    refine ⟨by omega, Br.ne (fun h1 => ?_) (fun h1 => ?_)⟩
    · simp -dsimp -implicitDefEqProofs (disch := omega) only [↓vcOps_sp 27, ↓vcD_sp 27, ↓vcOps_sp 36, ↓vcD_sp 36, ↓vcOps_sp 39, ↓vcD_sp 39, ↓vcOps_sp 88, ↓vcD_sp 88, ↓vcOps_sp 98, ↓vcD_sp 98, ↓vcOps_sp 113, ↓vcD_sp 113, ↓vcOps_sp 135, ↓vcD_sp 135, ↓vcOps_sp 141, ↓vcD_sp 141, VCA, pg_gl, ↓upd_none, Nat.reduceEqDiff, Nat.reduceBEq, Nat.reduceAdd, Nat.reduceSub, Nat.reduceMul, Nat.reduceLT, Nat.reduceLeDiff, ↓reduceIte, reduceCtorEq, rsOf, rootsOf, SOp.rd, SI.rd, SX.rd, rdL, rdO, rdP, okParts, eqCells, okEqCells, fillA, okFill, setAt, implies_true, forall_const, forall_eq, ne_eq, exists_eq_right_right, exists_eq_right, exists_eq_left, exists_eq_left', eAttr, eInt, eNode, eDoc, eBool, lit_eq]
      have : kidsAll d = 3 := by
        rcases hk with hk | ⟨k1, k2⟩
        · unfold kidsAll at hk
          split at hk
          · contradiction
          · split at hk
            · contradiction
            · first | omega | (rw [if_pos h1] at hk; omega)
        · unfold kidsAll; rw [if_neg (by rw [k1]; simp), if_neg (by rw [k2]; simp), if_pos h1]
      exact ⟨Sub.refl _, by rw [this]; rfl⟩
    · have h0 : kidsAll d = 0 := by
        rcases hk with hk | ⟨k1, k2⟩
        · exact hk
        · unfold kidsAll; rw [if_neg (by rw [k1]; simp), if_neg (by rw [k2]; simp), if_neg (by simpa using h1)]
      rw [h0, if_neg (by simp)]
      have hP := kids_par h0
      simp -dsimp -implicitDefEqProofs (disch := omega) only [↓vcOps_sp 27, ↓vcD_sp 27, ↓vcOps_sp 36, ↓vcD_sp 36, ↓vcOps_sp 39, ↓vcD_sp 39, ↓vcOps_sp 88, ↓vcD_sp 88, ↓vcOps_sp 98, ↓vcD_sp 98, ↓vcOps_sp 113, ↓vcD_sp 113, ↓vcOps_sp 135, ↓vcD_sp 135, ↓vcOps_sp 141, ↓vcD_sp 141, VCA, pg_gl, ↓upd_none, Nat.reduceEqDiff, Nat.reduceBEq, Nat.reduceAdd, Nat.reduceSub, Nat.reduceMul, Nat.reduceLT, Nat.reduceLeDiff, ↓reduceIte, reduceCtorEq, rsOf, rootsOf, SOp.rd, SI.rd, SX.rd, rdL, rdO, rdP, okParts, eqCells, okEqCells, fillA, okFill, setAt, implies_true, forall_const, forall_eq, ne_eq, exists_eq_right_right, exists_eq_right, exists_eq_left, exists_eq_left', eAttr, eInt, eNode, eDoc, eBool, lit_eq, he1, he3, eDoc]
      refine LoopVC.intro (fun m e h' => ∃ i : Nat, i ≤ d.nodes.length ∧ m = d.nodes.length - i ∧ e 1 = .pin (eDoc d) ∧ e 3 = aInt d.nodes.length ∧ e 11 = aInt i ∧ h' = h ∧ ∀ j, j < i → deepE d j = 0) d.nodes.length ⟨0, by omega, by omega, he1, he3, rfl, rfl, by omega⟩ ?_
      rintro m e h' ⟨i, hi, rfl, he1, he3, he11, rfl, hj⟩
      simp -dsimp -implicitDefEqProofs (disch := omega) only [↓vcOps_sp 27, ↓vcD_sp 27, ↓vcOps_sp 36, ↓vcD_sp 36, ↓vcOps_sp 39, ↓vcD_sp 39, ↓vcOps_sp 88, ↓vcD_sp 88, ↓vcOps_sp 98, ↓vcD_sp 98, ↓vcOps_sp 113, ↓vcD_sp 113, ↓vcOps_sp 135, ↓vcD_sp 135, ↓vcOps_sp 141, ↓vcD_sp 141, VCA, pg_gl, ↓upd_none, Nat.reduceEqDiff, Nat.reduceBEq, Nat.reduceAdd, Nat.reduceSub, Nat.reduceMul, Nat.reduceLT, Nat.reduceLeDiff, ↓reduceIte, reduceCtorEq, rsOf, rootsOf, SOp.rd, SI.rd, SX.rd, rdL, rdO, rdP, okParts, eqCells, okEqCells, fillA, okFill, setAt, implies_true, forall_const, forall_eq, ne_eq, exists_eq_right_right, exists_eq_right, exists_eq_left, exists_eq_left', eAttr, eInt, eNode, eDoc, eBool, lit_eq, he1, he3, he11]
      refine Br.dec (fun hlt => ?_) (fun hge => ?_)
      · have hi' : i < d.nodes.length := by omega
        have hU : PCalls (Pg G) 65 [.agg [sl eNode d.nodes, .bool d.quirks], aInt i] (aInt (deepM d i)) := deep_ok d sm hP i (inD_nat.2 hi')
        have bad : ∀ x : Int, x ≠ 0 → deepE d i = x → fe d.nodes.length (deepE d) = x := fun x hx he => by rw [fe_some hi' hj (by rw [he]; exact hx), he]
        have ddef : deepE d i = if d.nodes.length < up d i then 8 else if 40 < up d i then 2 else 0 := rfl
        have dm : deepM d i = if d.nodes.length < up d i then -1 else (up d i : Int) := rfl
        simp -dsimp -implicitDefEqProofs (disch := omega) only [↓vcOps_sp 27, ↓vcD_sp 27, ↓vcOps_sp 36, ↓vcD_sp 36, ↓vcOps_sp 39, ↓vcD_sp 39, ↓vcOps_sp 88, ↓vcD_sp 88, ↓vcOps_sp 98, ↓vcD_sp 98, ↓vcOps_sp 113, ↓vcD_sp 113, ↓vcOps_sp 135, ↓vcD_sp 135, ↓vcOps_sp 141, ↓vcD_sp 141, VCA, pg_gl, ↓upd_none, Nat.reduceEqDiff, Nat.reduceBEq, Nat.reduceAdd, Nat.reduceSub, Nat.reduceMul, Nat.reduceLT, Nat.reduceLeDiff, ↓reduceIte, reduceCtorEq, rsOf, rootsOf, SOp.rd, SI.rd, SX.rd, rdL, rdO, rdP, okParts, eqCells, okEqCells, fillA, okFill, setAt, implies_true, forall_const, forall_eq, ne_eq, exists_eq_right_right, exists_eq_right, exists_eq_left, exists_eq_left', eAttr, eInt, eNode, eDoc, eBool, lit_eq, he1, he3, he11, eDoc]
        repeat' (first | ((with_reducible refine Br.dec (fun _ => ?_) (fun _ => ?_)) <;> try (exfalso; omega)) | ((with_reducible refine Br.eq (fun _ => ?_) (fun _ => ?_)) <;> try (exfalso; omega)) | ((with_reducible refine Br.ne (fun _ => ?_) (fun _ => ?_)) <;> try (exfalso; omega)) | ((with_reducible refine brNdec (fun _ => ?_) (fun _ => ?_)) <;> try (exfalso; omega)) | ((with_reducible refine brNeq (fun _ => ?_) (fun _ => ?_)) <;> try (exfalso; omega)) | with_reducible refine Br.intro (fun _ => ?_) (fun _ => ?_) | (with_reducible apply pcallE.of; · exact hU) | (with_reducible refine And.intro ?_ ?_; · omega) | simp -dsimp -implicitDefEqProofs (disch := omega) only [↓vcOps_sp 27, ↓vcD_sp 27, ↓vcOps_sp 36, ↓vcD_sp 36, ↓vcOps_sp 39, ↓vcD_sp 39, ↓vcOps_sp 88, ↓vcD_sp 88, ↓vcOps_sp 98, ↓vcD_sp 98, ↓vcOps_sp 113, ↓vcD_sp 113, ↓vcOps_sp 135, ↓vcD_sp 135, ↓vcOps_sp 141, ↓vcD_sp 141, VCA, pg_gl, ↓upd_none, Nat.reduceEqDiff, Nat.reduceBEq, Nat.reduceAdd, Nat.reduceSub, Nat.reduceMul, Nat.reduceLT, Nat.reduceLeDiff, ↓reduceIte, reduceCtorEq, rsOf, rootsOf, SOp.rd, SI.rd, SX.rd, rdL, rdO, rdP, okParts, eqCells, okEqCells, fillA, okFill, setAt, implies_true, forall_const, forall_eq, ne_eq, exists_eq_right_right, exists_eq_right, exists_eq_left, exists_eq_left', eAttr, eInt, eNode, eDoc, eBool, lit_eq, he1, he3, he11, eDoc])
        · rename_i q
          have : d.nodes.length < up d i := by rw [dm] at q; split at q <;> omega
          exact ⟨Sub.refl _, (bad 8 (by decide) (by rw [ddef, if_pos this])).symm⟩
        · rename_i q1 q
          have : ¬ d.nodes.length < up d i := by rw [dm] at q1; split at q1 <;> omega
          rw [dm, if_neg this] at q
          exact ⟨Sub.refl _, (bad 2 (by decide) (by rw [ddef, if_neg this, if_pos (by omega)])).symm⟩
        · rename_i q1 q
          have : ¬ d.nodes.length < up d i := by rw [dm] at q1; split at q1 <;> omega
          rw [dm, if_neg this] at q
          refine ⟨_, by omega, i + 1, by omega, rfl, by omega, fun j hj' => ?_⟩
          by_cases hji : j = i
          · subst hji; rw [ddef, if_neg this, if_neg (by omega)]
          · exact hj j (by omega)
      · obtain rfl : i = d.nodes.length := by omega
        simp -dsimp -implicitDefEqProofs (disch := omega) only [↓vcOps_sp 27, ↓vcD_sp 27, ↓vcOps_sp 36, ↓vcD_sp 36, ↓vcOps_sp 39, ↓vcD_sp 39, ↓vcOps_sp 88, ↓vcD_sp 88, ↓vcOps_sp 98, ↓vcD_sp 98, ↓vcOps_sp 113, ↓vcD_sp 113, ↓vcOps_sp 135, ↓vcD_sp 135, ↓vcOps_sp 141, ↓vcD_sp 141, VCA, pg_gl, ↓upd_none, Nat.reduceEqDiff, Nat.reduceBEq, Nat.reduceAdd, Nat.reduceSub, Nat.reduceMul, Nat.reduceLT, Nat.reduceLeDiff, ↓reduceIte, reduceCtorEq, rsOf, rootsOf, SOp.rd, SI.rd, SX.rd, rdL, rdO, rdP, okParts, eqCells, okEqCells, fillA, okFill, setAt, implies_true, forall_const, forall_eq, ne_eq, exists_eq_right_right, exists_eq_right, exists_eq_left, exists_eq_left', eAttr, eInt, eNode, eDoc, eBool, lit_eq]
        exact ⟨Sub.refl _, (fe_none hj).symm⟩
  have s6 : fe d.nodes.length (kidsE d) = 0 → 0 < d.nodes.length → ∀ e : Env, e 1 = .pin (eDoc d) → e 3 = aInt d.nodes.length → vc (Pg G) c17_s6 (retK [.tmp 2] fun r h' => r = aInt (if kidsAll d ≠ 0 then kidsAll d else fe d.nodes.length (deepE d)) ∧ h' = h) e h := by
    intro hk hp e he1 he3
    unfold c17_s6
    skip
    simp -dsimp -implicitDefEqProofs (disch := omega) only [↓vcOps_sp 27, ↓vcD_sp 27, ↓vcOps_sp 36, ↓vcD_sp 36, ↓vcOps_sp 39, ↓vcD_sp 39, ↓vcOps_sp 88, ↓vcD_sp 88, ↓vcOps_sp 98, ↓vcD_sp 98, ↓vcOps_sp 113, ↓vcD_sp 113, ↓vcOps_sp 135, ↓vcD_sp 135, ↓vcOps_sp 141, ↓vcD_sp 141, VCA, pg_gl, ↓upd_none, Nat.reduceEqDiff, Nat.reduceBEq, Nat.reduceAdd, Nat.reduceSub, Nat.reduceMul, Nat.reduceLT, Nat.reduceLeDiff, ↓reduceIte, reduceCtorEq, rsOf, rootsOf, SOp.rd, SI.rd, SX.rd, rdL, rdO, rdP, okParts, eqCells, okEqCells, fillA, okFill, setAt, implies_true, forall_const, forall_eq, ne_eq, exists_eq_right_right, exists_eq_right, exists_eq_left, exists_eq_left', eAttr, eInt, eNode, eDoc, eBool, lit_eq, he1, he3]
    refine LoopVC.intro (fun m e h' => ∃ i : Nat, i ≤ d.nodes.length ∧ m = d.nodes.length - i ∧ e 1 = .pin (eDoc d) ∧ e 3 = aInt d.nodes.length ∧ e 9 = aInt i ∧ h' = h ∧ ∀ j, j < i → parE d j = 0) d.nodes.length ⟨0, by omega, by omega, he1, he3, rfl, rfl, by omega⟩ ?_
    rintro m e h' ⟨i, hi, rfl, he1, he3, he9, rfl, hj⟩
    simp -dsimp -implicitDefEqProofs (disch := omega) only [↓vcOps_sp 27, ↓vcD_sp 27, ↓vcOps_sp 36, ↓vcD_sp 36, ↓vcOps_sp 39, ↓vcD_sp 39, ↓vcOps_sp 88, ↓vcD_sp 88, ↓vcOps_sp 98, ↓vcD_sp 98, ↓vcOps_sp 113, ↓vcD_sp 113, ↓vcOps_sp 135, ↓vcD_sp 135, ↓vcOps_sp 141, ↓vcD_sp 141, VCA, pg_gl, ↓upd_none, Nat.reduceEqDiff, Nat.reduceBEq, Nat.reduceAdd, Nat.reduceSub, Nat.reduceMul, Nat.reduceLT, Nat.reduceLeDiff, ↓reduceIte, reduceCtorEq, rsOf, rootsOf, SOp.rd, SI.rd, SX.rd, rdL, rdO, rdP, okParts, eqCells, okEqCells, fillA, okFill, setAt, implies_true, forall_const, forall_eq, ne_eq, exists_eq_right_right, exists_eq_right, exists_eq_left, exists_eq_left', eAttr, eInt, eNode, eDoc, eBool, lit_eq, he1, he3, he9]
    refine Br.dec (fun hlt => ?_) (fun hge => ?_)
    · have hi' : i < d.nodes.length := by omega
      have pdef : parE d i = if (nth d.nodes i).parent ≠ -1 ∧ (¬ inD d (nth d.nodes i).parent ∨ (i : Int) ∉ (nd d (nth d.nodes i).parent).kids) then 3 else 0 := rfl
      have bad : parE d i = 3 → 3 = (if kidsAll d ≠ 0 then kidsAll d else fe d.nodes.length (deepE d)) := fun h3 => by
        have h2 : fe d.nodes.length (parE d) = 3 := by rw [fe_some hi' hj (by rw [h3]; decide), h3]
        have : kidsAll d = 3 := by unfold kidsAll; rw [hk, if_neg (by simp), h2]; rfl
        rw [this]; rfl
      have ok0 : parE d i = 0 → ∀ j, j < i + 1 → parE d j = 0 := fun h0 j hj' => by
        by_cases hji : j = i
        · subst hji; exact h0
        · exact hj j (by omega)
      have hB := betw_ok (G := G) (nth d.nodes i).parent 0 ((d.nodes.length : Int) - 1)
      have inP : inD d (nth d.nodes i).parent ↔ (decide ((0 : Int) ≤ (nth d.nodes i).parent) && decide ((nth d.nodes i).parent ≤ (d.nodes.length : Int) - 1)) = true := by
        unfold inD; simp; omega
      have im := idx_mem (nd d (nth d.nodes i).parent).kids i
      have hPl := placeIn_ok (G := G) (nd d (nth d.nodes i).parent).kids i (sm.nd _).kids
      have en : nth d.nodes (nth d.nodes i).parent.toNat = nd d (nth d.nodes i).parent := rfl
      simp -dsimp -implicitDefEqProofs (disch := omega) only [↓vcOps_sp 27, ↓vcD_sp 27, ↓vcOps_sp 36, ↓vcD_sp 36, ↓vcOps_sp 39, ↓vcD_sp 39, ↓vcOps_sp 88, ↓vcD_sp 88, ↓vcOps_sp 98, ↓vcD_sp 98, ↓vcOps_sp 113, ↓vcD_sp 113, ↓vcOps_sp 135, ↓vcD_sp 135, ↓vcOps_sp 141, ↓vcD_sp 141, VCA, pg_gl, ↓upd_none, Nat.reduceEqDiff, Nat.reduceBEq, Nat.reduceAdd, Nat.reduceSub, Nat.reduceMul, Nat.reduceLT, Nat.reduceLeDiff, ↓reduceIte, reduceCtorEq, rsOf, rootsOf, SOp.rd, SI.rd, SX.rd, rdL, rdO, rdP, okParts, eqCells, okEqCells, fillA, okFill, setAt, implies_true, forall_const, forall_eq, ne_eq, exists_eq_right_right, exists_eq_right, exists_eq_left, exists_eq_left', eAttr, eInt, eNode, eDoc, eBool, lit_eq, he1, he3, he9, eDoc, eNode]
      refine ⟨by omega, Br.ne (fun h1 => ?_) (fun h1 => ?_)⟩
      · simp -dsimp -implicitDefEqProofs (disch := omega) only [↓vcOps_sp 27, ↓vcD_sp 27, ↓vcOps_sp 36, ↓vcD_sp 36, ↓vcOps_sp 39, ↓vcD_sp 39, ↓vcOps_sp 88, ↓vcD_sp 88, ↓vcOps_sp 98, ↓vcD_sp 98, ↓vcOps_sp 113, ↓vcD_sp 113, ↓vcOps_sp 135, ↓vcD_sp 135, ↓vcOps_sp 141, ↓vcD_sp 141, VCA, pg_gl, ↓upd_none, Nat.reduceEqDiff, Nat.reduceBEq, Nat.reduceAdd, Nat.reduceSub, Nat.reduceMul, Nat.reduceLT, Nat.reduceLeDiff, ↓reduceIte, reduceCtorEq, rsOf, rootsOf, SOp.rd, SI.rd, SX.rd, rdL, rdO, rdP, okParts, eqCells, okEqCells, fillA, okFill, setAt, implies_true, forall_const, forall_eq, ne_eq, exists_eq_right_right, exists_eq_right, exists_eq_left, exists_eq_left', eAttr, eInt, eNode, eDoc, eBool, lit_eq, he1, he3, he9, eDoc, eNode]
        refine pcallE.of (hB) ?_; simp -dsimp -implicitDefEqProofs (disch := omega) only [↓vcOps_sp 27, ↓vcD_sp 27, ↓vcOps_sp 36, ↓vcD_sp 36, ↓vcOps_sp 39, ↓vcD_sp 39, ↓vcOps_sp 88, ↓vcD_sp 88, ↓vcOps_sp 98, ↓vcD_sp 98, ↓vcOps_sp 113, ↓vcD_sp 113, ↓vcOps_sp 135, ↓vcD_sp 135, ↓vcOps_sp 141, ↓vcD_sp 141, VCA, pg_gl, ↓upd_none, Nat.reduceEqDiff, Nat.reduceBEq, Nat.reduceAdd, Nat.reduceSub, Nat.reduceMul, Nat.reduceLT, Nat.reduceLeDiff, ↓reduceIte, reduceCtorEq, rsOf, rootsOf, SOp.rd, SI.rd, SX.rd, rdL, rdO, rdP, okParts, eqCells, okEqCells, fillA, okFill, setAt, implies_true, forall_const, forall_eq, ne_eq, exists_eq_right_right, exists_eq_right, exists_eq_left, exists_eq_left', eAttr, eInt, eNode, eDoc, eBool, lit_eq, he1, he3, he9, eDoc, eNode]
        cases hb : (decide ((0 : Int) ≤ (nth d.nodes i).parent) && decide ((nth d.nodes i).parent ≤ (d.nodes.length : Int) - 1))
        · simp -dsimp -implicitDefEqProofs (disch := omega) only [↓vcOps_sp 27, ↓vcD_sp 27, ↓vcOps_sp 36, ↓vcD_sp 36, ↓vcOps_sp 39, ↓vcD_sp 39, ↓vcOps_sp 88, ↓vcD_sp 88, ↓vcOps_sp 98, ↓vcD_sp 98, ↓vcOps_sp 113, ↓vcD_sp 113, ↓vcOps_sp 135, ↓vcD_sp 135, ↓vcOps_sp 141, ↓vcD_sp 141, VCA, pg_gl, ↓upd_none, Nat.reduceEqDiff, Nat.reduceBEq, Nat.reduceAdd, Nat.reduceSub, Nat.reduceMul, Nat.reduceLT, Nat.reduceLeDiff, ↓reduceIte, reduceCtorEq, rsOf, rootsOf, SOp.rd, SI.rd, SX.rd, rdL, rdO, rdP, okParts, eqCells, okEqCells, fillA, okFill, setAt, implies_true, forall_const, forall_eq, ne_eq, exists_eq_right_right, exists_eq_right, exists_eq_left, exists_eq_left', eAttr, eInt, eNode, eDoc, eBool, lit_eq]
          exact ⟨Sub.refl _, bad (by rw [pdef, if_pos ⟨h1, .inl (by rw [inP, hb]; simp)⟩])⟩
        · have hin := inP.2 hb
          have q1 := hin.1
          have q2 := hin.2
          simp -dsimp -implicitDefEqProofs (disch := omega) only [↓vcOps_sp 27, ↓vcD_sp 27, ↓vcOps_sp 36, ↓vcD_sp 36, ↓vcOps_sp 39, ↓vcD_sp 39, ↓vcOps_sp 88, ↓vcD_sp 88, ↓vcOps_sp 98, ↓vcD_sp 98, ↓vcOps_sp 113, ↓vcD_sp 113, ↓vcOps_sp 135, ↓vcD_sp 135, ↓vcOps_sp 141, ↓vcD_sp 141, VCA, pg_gl, ↓upd_none, Nat.reduceEqDiff, Nat.reduceBEq, Nat.reduceAdd, Nat.reduceSub, Nat.reduceMul, Nat.reduceLT, Nat.reduceLeDiff, ↓reduceIte, reduceCtorEq, rsOf, rootsOf, SOp.rd, SI.rd, SX.rd, rdL, rdO, rdP, okParts, eqCells, okEqCells, fillA, okFill, setAt, implies_true, forall_const, forall_eq, ne_eq, exists_eq_right_right, exists_eq_right, exists_eq_left, exists_eq_left', eAttr, eInt, eNode, eDoc, eBool, lit_eq, he1, he3, he9, eDoc, eNode]
          refine ⟨by omega, ?_⟩
          rw [en]
          refine pcallE.of (hPl) ?_; simp -dsimp -implicitDefEqProofs (disch := omega) only [↓vcOps_sp 27, ↓vcD_sp 27, ↓vcOps_sp 36, ↓vcD_sp 36, ↓vcOps_sp 39, ↓vcD_sp 39, ↓vcOps_sp 88, ↓vcD_sp 88, ↓vcOps_sp 98, ↓vcD_sp 98, ↓vcOps_sp 113, ↓vcD_sp 113, ↓vcOps_sp 135, ↓vcD_sp 135, ↓vcOps_sp 141, ↓vcD_sp 141, VCA, pg_gl, ↓upd_none, Nat.reduceEqDiff, Nat.reduceBEq, Nat.reduceAdd, Nat.reduceSub, Nat.reduceMul, Nat.reduceLT, Nat.reduceLeDiff, ↓reduceIte, reduceCtorEq, rsOf, rootsOf, SOp.rd, SI.rd, SX.rd, rdL, rdO, rdP, okParts, eqCells, okEqCells, fillA, okFill, setAt, implies_true, forall_const, forall_eq, ne_eq, exists_eq_right_right, exists_eq_right, exists_eq_left, exists_eq_left', eAttr, eInt, eNode, eDoc, eBool, lit_eq, he1, he3, he9, eDoc, eNode]
          refine Br.dec (fun h2 => ?_) (fun h2 => ?_)
          · simp -dsimp -implicitDefEqProofs (disch := omega) only [↓vcOps_sp 27, ↓vcD_sp 27, ↓vcOps_sp 36, ↓vcD_sp 36, ↓vcOps_sp 39, ↓vcD_sp 39, ↓vcOps_sp 88, ↓vcD_sp 88, ↓vcOps_sp 98, ↓vcD_sp 98, ↓vcOps_sp 113, ↓vcD_sp 113, ↓vcOps_sp 135, ↓vcD_sp 135, ↓vcOps_sp 141, ↓vcD_sp 141, VCA, pg_gl, ↓upd_none, Nat.reduceEqDiff, Nat.reduceBEq, Nat.reduceAdd, Nat.reduceSub, Nat.reduceMul, Nat.reduceLT, Nat.reduceLeDiff, ↓reduceIte, reduceCtorEq, rsOf, rootsOf, SOp.rd, SI.rd, SX.rd, rdL, rdO, rdP, okParts, eqCells, okEqCells, fillA, okFill, setAt, implies_true, forall_const, forall_eq, ne_eq, exists_eq_right_right, exists_eq_right, exists_eq_left, exists_eq_left', eAttr, eInt, eNode, eDoc, eBool, lit_eq]
            exact ⟨Sub.refl _, bad (by rw [pdef, if_pos ⟨h1, .inr (fun hm => by have := im.2 hm; omega)⟩])⟩
          · simp -dsimp -implicitDefEqProofs (disch := omega) only [↓vcOps_sp 27, ↓vcD_sp 27, ↓vcOps_sp 36, ↓vcD_sp 36, ↓vcOps_sp 39, ↓vcD_sp 39, ↓vcOps_sp 88, ↓vcD_sp 88, ↓vcOps_sp 98, ↓vcD_sp 98, ↓vcOps_sp 113, ↓vcD_sp 113, ↓vcOps_sp 135, ↓vcD_sp 135, ↓vcOps_sp 141, ↓vcD_sp 141, VCA, pg_gl, ↓upd_none, Nat.reduceEqDiff, Nat.reduceBEq, Nat.reduceAdd, Nat.reduceSub, Nat.reduceMul, Nat.reduceLT, Nat.reduceLeDiff, ↓reduceIte, reduceCtorEq, rsOf, rootsOf, SOp.rd, SI.rd, SX.rd, rdL, rdO, rdP, okParts, eqCells, okEqCells, fillA, okFill, setAt, implies_true, forall_const, forall_eq, ne_eq, exists_eq_right_right, exists_eq_right, exists_eq_left, exists_eq_left', eAttr, eInt, eNode, eDoc, eBool, lit_eq, he1, he3, he9]
            refine ⟨_, by omega, i + 1, by omega, rfl, by omega, ok0 ?_⟩
            rw [pdef, if_neg]
            rintro ⟨_, hh | hh⟩
            · exact hh hin
            · exact hh (im.1 (by omega))
      · simp -dsimp -implicitDefEqProofs (disch := omega) only [↓vcOps_sp 27, ↓vcD_sp 27, ↓vcOps_sp 36, ↓vcD_sp 36, ↓vcOps_sp 39, ↓vcD_sp 39, ↓vcOps_sp 88, ↓vcD_sp 88, ↓vcOps_sp 98, ↓vcD_sp 98, ↓vcOps_sp 113, ↓vcD_sp 113, ↓vcOps_sp 135, ↓vcD_sp 135, ↓vcOps_sp 141, ↓vcD_sp 141, VCA, pg_gl, ↓upd_none, Nat.reduceEqDiff, Nat.reduceBEq, Nat.reduceAdd, Nat.reduceSub, Nat.reduceMul, Nat.reduceLT, Nat.reduceLeDiff, ↓reduceIte, reduceCtorEq, rsOf, rootsOf, SOp.rd, SI.rd, SX.rd, rdL, rdO, rdP, okParts, eqCells, okEqCells, fillA, okFill, setAt, implies_true, forall_const, forall_eq, ne_eq, exists_eq_right_right, exists_eq_right, exists_eq_left, exists_eq_left', eAttr, eInt, eNode, eDoc, eBool, lit_eq, he1, he3, he9]
        refine ⟨_, by omega, i + 1, by omega, rfl, by omega, ok0 ?_⟩
        rw [pdef, if_neg (fun hh => hh.1 h1)]
    · obtain rfl : i = d.nodes.length := by omega
      simp -dsimp -implicitDefEqProofs (disch := omega) only [↓vcOps_sp 27, ↓vcD_sp 27, ↓vcOps_sp 36, ↓vcD_sp 36, ↓vcOps_sp 39, ↓vcD_sp 39, ↓vcOps_sp 88, ↓vcD_sp 88, ↓vcOps_sp 98, ↓vcD_sp 98, ↓vcOps_sp 113, ↓vcD_sp 113, ↓vcOps_sp 135, ↓vcD_sp 135, ↓vcOps_sp 141, ↓vcD_sp 141, VCA, pg_gl, ↓upd_none, Nat.reduceEqDiff, Nat.reduceBEq, Nat.reduceAdd, Nat.reduceSub, Nat.reduceMul, Nat.reduceLT, Nat.reduceLeDiff, ↓reduceIte, reduceCtorEq, rsOf, rootsOf, SOp.rd, SI.rd, SX.rd, rdL, rdO, rdP, okParts, eqCells, okEqCells, fillA, okFill, setAt, implies_true, forall_const, forall_eq, ne_eq, exists_eq_right_right, exists_eq_right, exists_eq_left, exists_eq_left', eAttr, eInt, eNode, eDoc, eBool, lit_eq]
      exact s7 (.inr ⟨hk, fe_none hj⟩) hp _ he1 he3
  have s5 : 0 < d.nodes.length → ∀ e : Env, e 1 = .pin (eDoc d) → e 3 = aInt d.nodes.length → vc (Pg G) c17_s5 (retK [.tmp 2] fun r h' => r = aInt (if kidsAll d ≠ 0 then kidsAll d else fe d.nodes.length (deepE d)) ∧ h' = h) e h := by
    intro hp e he1 he3
    unfold c17_s5
    skip
    simp -dsimp -implicitDefEqProofs (disch := omega) only [↓vcOps_sp 27, ↓vcD_sp 27, ↓vcOps_sp 36, ↓vcD_sp 36, ↓vcOps_sp 39, ↓vcD_sp 39, ↓vcOps_sp 88, ↓vcD_sp 88, ↓vcOps_sp 98, ↓vcD_sp 98, ↓vcOps_sp 113, ↓vcD_sp 113, ↓vcOps_sp 135, ↓vcD_sp 135, ↓vcOps_sp 141, ↓vcD_sp 141, VCA, pg_gl, ↓upd_none, Nat.reduceEqDiff, Nat.reduceBEq, Nat.reduceAdd, Nat.reduceSub, Nat.reduceMul, Nat.reduceLT, Nat.reduceLeDiff, ↓reduceIte, reduceCtorEq, rsOf, rootsOf, SOp.rd, SI.rd, SX.rd, rdL, rdO, rdP, okParts, eqCells, okEqCells, fillA, okFill, setAt, implies_true, forall_const, forall_eq, ne_eq, exists_eq_right_right, exists_eq_right, exists_eq_left, exists_eq_left', eAttr, eInt, eNode, eDoc, eBool, lit_eq, he1, he3]
    refine LoopVC.intro (fun m e h' => ∃ i : Nat, i ≤ d.nodes.length ∧ m = d.nodes.length - i ∧ e 1 = .pin (eDoc d) ∧ e 3 = aInt d.nodes.length ∧ e 6 = aInt i ∧ h' = h ∧ ∀ j, j < i → kidsE d j = 0) d.nodes.length ⟨0, by omega, by omega, he1, he3, rfl, rfl, by omega⟩ ?_
    rintro m e h' ⟨i, hi, rfl, he1, he3, he6, rfl, hj⟩
    simp -dsimp -implicitDefEqProofs (disch := omega) only [↓vcOps_sp 27, ↓vcD_sp 27, ↓vcOps_sp 36, ↓vcD_sp 36, ↓vcOps_sp 39, ↓vcD_sp 39, ↓vcOps_sp 88, ↓vcD_sp 88, ↓vcOps_sp 98, ↓vcD_sp 98, ↓vcOps_sp 113, ↓vcD_sp 113, ↓vcOps_sp 135, ↓vcD_sp 135, ↓vcOps_sp 141, ↓vcD_sp 141, VCA, pg_gl, ↓upd_none, Nat.reduceEqDiff, Nat.reduceBEq, Nat.reduceAdd, Nat.reduceSub, Nat.reduceMul, Nat.reduceLT, Nat.reduceLeDiff, ↓reduceIte, reduceCtorEq, rsOf, rootsOf, SOp.rd, SI.rd, SX.rd, rdL, rdO, rdP, okParts, eqCells, okEqCells, fillA, okFill, setAt, implies_true, forall_const, forall_eq, ne_eq, exists_eq_right_right, exists_eq_right, exists_eq_left, exists_eq_left', eAttr, eInt, eNode, eDoc, eBool, lit_eq, he1, he3, he6]
    refine Br.dec (fun hlt => ?_) (fun hge => ?_)
    · have hi' : i < d.nodes.length := by omega
      have kl := (sm.nth i).kids
      simp -dsimp -implicitDefEqProofs (disch := omega) only [↓vcOps_sp 27, ↓vcD_sp 27, ↓vcOps_sp 36, ↓vcD_sp 36, ↓vcOps_sp 39, ↓vcD_sp 39, ↓vcOps_sp 88, ↓vcD_sp 88, ↓vcOps_sp 98, ↓vcD_sp 98, ↓vcOps_sp 113, ↓vcD_sp 113, ↓vcOps_sp 135, ↓vcD_sp 135, ↓vcOps_sp 141, ↓vcD_sp 141, VCA, pg_gl, ↓upd_none, Nat.reduceEqDiff, Nat.reduceBEq, Nat.reduceAdd, Nat.reduceSub, Nat.reduceMul, Nat.reduceLT, Nat.reduceLeDiff, ↓reduceIte, reduceCtorEq, rsOf, rootsOf, SOp.rd, SI.rd, SX.rd, rdL, rdO, rdP, okParts, eqCells, okEqCells, fillA, okFill, setAt, implies_true, forall_const, forall_eq, ne_eq, exists_eq_right_right, exists_eq_right, exists_eq_left, exists_eq_left', eAttr, eInt, eNode, eDoc, eBool, lit_eq, he1, he3, he6]
      refine LoopVC.intro (fun m e h2 => ∃ k : Nat, k ≤ (nth d.nodes i).kids.length ∧ m = (nth d.nodes i).kids.length - k ∧ e 1 = .pin (eDoc d) ∧ e 3 = aInt d.nodes.length ∧ e 6 = aInt i ∧ e 7 = aInt k ∧ h2 = h' ∧ ∀ j, j < k → kidE d i j = 0) (nth d.nodes i).kids.length ⟨0, by omega, by omega, he1, he3, he6, rfl, rfl, by omega⟩ ?_
      rintro m e h2 ⟨k, hk, rfl, he1, he3, he6, he7, rfl, hk0⟩
      simp -dsimp -implicitDefEqProofs (disch := omega) only [↓vcOps_sp 27, ↓vcD_sp 27, ↓vcOps_sp 36, ↓vcD_sp 36, ↓vcOps_sp 39, ↓vcD_sp 39, ↓vcOps_sp 88, ↓vcD_sp 88, ↓vcOps_sp 98, ↓vcD_sp 98, ↓vcOps_sp 113, ↓vcD_sp 113, ↓vcOps_sp 135, ↓vcD_sp 135, ↓vcOps_sp 141, ↓vcD_sp 141, VCA, pg_gl, ↓upd_none, Nat.reduceEqDiff, Nat.reduceBEq, Nat.reduceAdd, Nat.reduceSub, Nat.reduceMul, Nat.reduceLT, Nat.reduceLeDiff, ↓reduceIte, reduceCtorEq, rsOf, rootsOf, SOp.rd, SI.rd, SX.rd, rdL, rdO, rdP, okParts, eqCells, okEqCells, fillA, okFill, setAt, implies_true, forall_const, forall_eq, ne_eq, exists_eq_right_right, exists_eq_right, exists_eq_left, exists_eq_left', eAttr, eInt, eNode, eDoc, eBool, lit_eq, he1, he3, he6, he7, eDoc, eNode]
      refine ⟨by omega, ?_⟩
      refine Br.dec (fun hlt => ?_) (fun hge => ?_)
      · have hk' : k < (nth d.nodes i).kids.length := by omega
        have bad : ∀ x : Int, x ≠ 0 → kidE d i k = x → x = (if kidsAll d ≠ 0 then kidsAll d else fe d.nodes.length (deepE d)) := fun x hx he => by
          have h1 : kidsE d i = x := by unfold kidsE; rw [fe_some hk' hk0 (by rw [he]; exact hx), he]
          have h2 : fe d.nodes.length (kidsE d) = x := by rw [fe_some hi' hj (by rw [h1]; exact hx), h1]
          have h3 : kidsAll d = x := by unfold kidsAll; rw [h2, if_pos hx]
          rw [h3, if_pos hx]
        have kdef : kidE d i k = if ¬ inD d (nth (nth d.nodes i).kids k) ∨ (nd d (nth (nth d.nodes i).kids k)).parent ≠ i ∨ nth (nth d.nodes i).kids k ∈ (nth d.nodes i).kids.take k then 3 else if i = 0 ∧ (nd d (nth (nth d.nodes i).kids k)).kind = 3 then 7 else 0 := rfl
        have ok0 : ∀ j, kidE d i k = 0 → j < k + 1 → kidE d i j = 0 := fun j h0 hj' => by
          by_cases hjk : j = k
          · subst hjk; exact h0
          · exact hk0 j (by omega)
        have hB := betw_ok (G := G) (nth (nth d.nodes i).kids k) 0 ((d.nodes.length : Int) - 1)
        have inP : inD d (nth (nth d.nodes i).kids k) ↔ (decide ((0 : Int) ≤ nth (nth d.nodes i).kids k) && decide (nth (nth d.nodes i).kids k ≤ (d.nodes.length : Int) - 1)) = true := by
          unfold inD; simp; omega
        have im := idx_mem ((nth d.nodes i).kids.take k) (nth (nth d.nodes i).kids k)
        have e2 : (nth d.nodes i).kids.take (Int.toNat (k : Int)) = (nth d.nodes i).kids.take k := by simp
        have hPl := placeIn_ok (G := G) ((nth d.nodes i).kids.take k) (nth (nth d.nodes i).kids k) (by simp; omega)
        have en : nth d.nodes (nth (nth d.nodes i).kids k).toNat = nd d (nth (nth d.nodes i).kids k) := rfl
        simp -dsimp -implicitDefEqProofs (disch := omega) only [↓vcOps_sp 27, ↓vcD_sp 27, ↓vcOps_sp 36, ↓vcD_sp 36, ↓vcOps_sp 39, ↓vcD_sp 39, ↓vcOps_sp 88, ↓vcD_sp 88, ↓vcOps_sp 98, ↓vcD_sp 98, ↓vcOps_sp 113, ↓vcD_sp 113, ↓vcOps_sp 135, ↓vcD_sp 135, ↓vcOps_sp 141, ↓vcD_sp 141, VCA, pg_gl, ↓upd_none, Nat.reduceEqDiff, Nat.reduceBEq, Nat.reduceAdd, Nat.reduceSub, Nat.reduceMul, Nat.reduceLT, Nat.reduceLeDiff, ↓reduceIte, reduceCtorEq, rsOf, rootsOf, SOp.rd, SI.rd, SX.rd, rdL, rdO, rdP, okParts, eqCells, okEqCells, fillA, okFill, setAt, implies_true, forall_const, forall_eq, ne_eq, exists_eq_right_right, exists_eq_right, exists_eq_left, exists_eq_left', eAttr, eInt, eNode, eDoc, eBool, lit_eq, he1, he3, he6, he7, eDoc, eNode]
        refine ⟨by omega, by omega, ?_⟩
        refine pcallE.of (hB) ?_; simp -dsimp -implicitDefEqProofs (disch := omega) only [↓vcOps_sp 27, ↓vcD_sp 27, ↓vcOps_sp 36, ↓vcD_sp 36, ↓vcOps_sp 39, ↓vcD_sp 39, ↓vcOps_sp 88, ↓vcD_sp 88, ↓vcOps_sp 98, ↓vcD_sp 98, ↓vcOps_sp 113, ↓vcD_sp 113, ↓vcOps_sp 135, ↓vcD_sp 135, ↓vcOps_sp 141, ↓vcD_sp 141, VCA, pg_gl, ↓upd_none, Nat.reduceEqDiff, Nat.reduceBEq, Nat.reduceAdd, Nat.reduceSub, Nat.reduceMul, Nat.reduceLT, Nat.reduceLeDiff, ↓reduceIte, reduceCtorEq, rsOf, rootsOf, SOp.rd, SI.rd, SX.rd, rdL, rdO, rdP, okParts, eqCells, okEqCells, fillA, okFill, setAt, implies_true, forall_const, forall_eq, ne_eq, exists_eq_right_right, exists_eq_right, exists_eq_left, exists_eq_left', eAttr, eInt, eNode, eDoc, eBool, lit_eq, he1, he3, he6, he7, eDoc, eNode]
        cases hb : (decide ((0 : Int) ≤ nth (nth d.nodes i).kids k) && decide (nth (nth d.nodes i).kids k ≤ (d.nodes.length : Int) - 1))
        · simp -dsimp -implicitDefEqProofs (disch := omega) only [↓vcOps_sp 27, ↓vcD_sp 27, ↓vcOps_sp 36, ↓vcD_sp 36, ↓vcOps_sp 39, ↓vcD_sp 39, ↓vcOps_sp 88, ↓vcD_sp 88, ↓vcOps_sp 98, ↓vcD_sp 98, ↓vcOps_sp 113, ↓vcD_sp 113, ↓vcOps_sp 135, ↓vcD_sp 135, ↓vcOps_sp 141, ↓vcD_sp 141, VCA, pg_gl, ↓upd_none, Nat.reduceEqDiff, Nat.reduceBEq, Nat.reduceAdd, Nat.reduceSub, Nat.reduceMul, Nat.reduceLT, Nat.reduceLeDiff, ↓reduceIte, reduceCtorEq, rsOf, rootsOf, SOp.rd, SI.rd, SX.rd, rdL, rdO, rdP, okParts, eqCells, okEqCells, fillA, okFill, setAt, implies_true, forall_const, forall_eq, ne_eq, exists_eq_right_right, exists_eq_right, exists_eq_left, exists_eq_left', eAttr, eInt, eNode, eDoc, eBool, lit_eq]
          exact ⟨Sub.refl _, bad 3 (by decide) (by rw [kdef, if_pos (.inl (by rw [inP, hb]; simp))])⟩
        · have hin := inP.2 hb
          have q1 := hin.1
          have q2 := hin.2
          simp -dsimp -implicitDefEqProofs (disch := omega) only [↓vcOps_sp 27, ↓vcD_sp 27, ↓vcOps_sp 36, ↓vcD_sp 36, ↓vcOps_sp 39, ↓vcD_sp 39, ↓vcOps_sp 88, ↓vcD_sp 88, ↓vcOps_sp 98, ↓vcD_sp 98, ↓vcOps_sp 113, ↓vcD_sp 113, ↓vcOps_sp 135, ↓vcD_sp 135, ↓vcOps_sp 141, ↓vcD_sp 141, VCA, pg_gl, ↓upd_none, Nat.reduceEqDiff, Nat.reduceBEq, Nat.reduceAdd, Nat.reduceSub, Nat.reduceMul, Nat.reduceLT, Nat.reduceLeDiff, ↓reduceIte, reduceCtorEq, rsOf, rootsOf, SOp.rd, SI.rd, SX.rd, rdL, rdO, rdP, okParts, eqCells, okEqCells, fillA, okFill, setAt, implies_true, forall_const, forall_eq, ne_eq, exists_eq_right_right, exists_eq_right, exists_eq_left, exists_eq_left', eAttr, eInt, eNode, eDoc, eBool, lit_eq, he1, he3, he6, he7, eDoc, eNode]
          refine ⟨by omega, ?_⟩
          rw [en]
          refine Br.ne (fun h1 => ?_) (fun h1 => ?_)
          · simp -dsimp -implicitDefEqProofs (disch := omega) only [↓vcOps_sp 27, ↓vcD_sp 27, ↓vcOps_sp 36, ↓vcD_sp 36, ↓vcOps_sp 39, ↓vcD_sp 39, ↓vcOps_sp 88, ↓vcD_sp 88, ↓vcOps_sp 98, ↓vcD_sp 98, ↓vcOps_sp 113, ↓vcD_sp 113, ↓vcOps_sp 135, ↓vcD_sp 135, ↓vcOps_sp 141, ↓vcD_sp 141, VCA, pg_gl, ↓upd_none, Nat.reduceEqDiff, Nat.reduceBEq, Nat.reduceAdd, Nat.reduceSub, Nat.reduceMul, Nat.reduceLT, Nat.reduceLeDiff, ↓reduceIte, reduceCtorEq, rsOf, rootsOf, SOp.rd, SI.rd, SX.rd, rdL, rdO, rdP, okParts, eqCells, okEqCells, fillA, okFill, setAt, implies_true, forall_const, forall_eq, ne_eq, exists_eq_right_right, exists_eq_right, exists_eq_left, exists_eq_left', eAttr, eInt, eNode, eDoc, eBool, lit_eq]
            exact ⟨Sub.refl _, bad 3 (by decide) (by rw [kdef, if_pos (.inr (.inl h1))])⟩
          · simp -dsimp -implicitDefEqProofs (disch := omega) only [↓vcOps_sp 27, ↓vcD_sp 27, ↓vcOps_sp 36, ↓vcD_sp 36, ↓vcOps_sp 39, ↓vcD_sp 39, ↓vcOps_sp 88, ↓vcD_sp 88, ↓vcOps_sp 98, ↓vcD_sp 98, ↓vcOps_sp 113, ↓vcD_sp 113, ↓vcOps_sp 135, ↓vcD_sp 135, ↓vcOps_sp 141, ↓vcD_sp 141, VCA, pg_gl, ↓upd_none, Nat.reduceEqDiff, Nat.reduceBEq, Nat.reduceAdd, Nat.reduceSub, Nat.reduceMul, Nat.reduceLT, Nat.reduceLeDiff, ↓reduceIte, reduceCtorEq, rsOf, rootsOf, SOp.rd, SI.rd, SX.rd, rdL, rdO, rdP, okParts, eqCells, okEqCells, fillA, okFill, setAt, implies_true, forall_const, forall_eq, ne_eq, exists_eq_right_right, exists_eq_right, exists_eq_left, exists_eq_left', eAttr, eInt, eNode, eDoc, eBool, lit_eq, he1, he3, he6, he7, eDoc, eNode]
            refine ⟨by omega, by omega, ?_⟩
            refine pcallE.of (hPl) ?_; simp -dsimp -implicitDefEqProofs (disch := omega) only [↓vcOps_sp 27, ↓vcD_sp 27, ↓vcOps_sp 36, ↓vcD_sp 36, ↓vcOps_sp 39, ↓vcD_sp 39, ↓vcOps_sp 88, ↓vcD_sp 88, ↓vcOps_sp 98, ↓vcD_sp 98, ↓vcOps_sp 113, ↓vcD_sp 113, ↓vcOps_sp 135, ↓vcD_sp 135, ↓vcOps_sp 141, ↓vcD_sp 141, VCA, pg_gl, ↓upd_none, Nat.reduceEqDiff, Nat.reduceBEq, Nat.reduceAdd, Nat.reduceSub, Nat.reduceMul, Nat.reduceLT, Nat.reduceLeDiff, ↓reduceIte, reduceCtorEq, rsOf, rootsOf, SOp.rd, SI.rd, SX.rd, rdL, rdO, rdP, okParts, eqCells, okEqCells, fillA, okFill, setAt, implies_true, forall_const, forall_eq, ne_eq, exists_eq_right_right, exists_eq_right, exists_eq_left, exists_eq_left', eAttr, eInt, eNode, eDoc, eBool, lit_eq, he1, he3, he6, he7, eDoc, eNode]
            refine Br.dec (fun h2 => ?_) (fun h2 => ?_)
            · simp -dsimp -implicitDefEqProofs (disch := omega) only [↓vcOps_sp 27, ↓vcD_sp 27, ↓vcOps_sp 36, ↓vcD_sp 36, ↓vcOps_sp 39, ↓vcD_sp 39, ↓vcOps_sp 88, ↓vcD_sp 88, ↓vcOps_sp 98, ↓vcD_sp 98, ↓vcOps_sp 113, ↓vcD_sp 113, ↓vcOps_sp 135, ↓vcD_sp 135, ↓vcOps_sp 141, ↓vcD_sp 141, VCA, pg_gl, ↓upd_none, Nat.reduceEqDiff, Nat.reduceBEq, Nat.reduceAdd, Nat.reduceSub, Nat.reduceMul, Nat.reduceLT, Nat.reduceLeDiff, ↓reduceIte, reduceCtorEq, rsOf, rootsOf, SOp.rd, SI.rd, SX.rd, rdL, rdO, rdP, okParts, eqCells, okEqCells, fillA, okFill, setAt, implies_true, forall_const, forall_eq, ne_eq, exists_eq_right_right, exists_eq_right, exists_eq_left, exists_eq_left', eAttr, eInt, eNode, eDoc, eBool, lit_eq]
              exact ⟨Sub.refl _, bad 3 (by decide) (by rw [kdef, if_pos (.inr (.inr (im.1 h2)))])⟩
            · have hno : ¬ (¬ inD d (nth (nth d.nodes i).kids k) ∨ (nd d (nth (nth d.nodes i).kids k)).parent ≠ i ∨ nth (nth d.nodes i).kids k ∈ (nth d.nodes i).kids.take k) := by
                rintro (hh | hh | hh)
                · exact hh hin
                · exact hh h1
                · exact h2 (im.2 hh)
              have e0 : ∀ h0 : i = 0, nth d.nodes (nth (nth d.nodes i).kids k).toNat = nd d (nth (nth d.nodes i).kids k) := fun _ => rfl
              simp -dsimp -implicitDefEqProofs (disch := omega) only [↓vcOps_sp 27, ↓vcD_sp 27, ↓vcOps_sp 36, ↓vcD_sp 36, ↓vcOps_sp 39, ↓vcD_sp 39, ↓vcOps_sp 88, ↓vcD_sp 88, ↓vcOps_sp 98, ↓vcD_sp 98, ↓vcOps_sp 113, ↓vcD_sp 113, ↓vcOps_sp 135, ↓vcD_sp 135, ↓vcOps_sp 141, ↓vcD_sp 141, VCA, pg_gl, ↓upd_none, Nat.reduceEqDiff, Nat.reduceBEq, Nat.reduceAdd, Nat.reduceSub, Nat.reduceMul, Nat.reduceLT, Nat.reduceLeDiff, ↓reduceIte, reduceCtorEq, rsOf, rootsOf, SOp.rd, SI.rd, SX.rd, rdL, rdO, rdP, okParts, eqCells, okEqCells, fillA, okFill, setAt, implies_true, forall_const, forall_eq, ne_eq, exists_eq_right_right, exists_eq_right, exists_eq_left, exists_eq_left', eAttr, eInt, eNode, eDoc, eBool, lit_eq, he1, he3, he6, he7, eDoc, eNode]
              repeat' (first | ((with_reducible refine Br.dec (fun _ => ?_) (fun _ => ?_)) <;> try (exfalso; omega)) | ((with_reducible refine Br.eq (fun _ => ?_) (fun _ => ?_)) <;> try (exfalso; omega)) | ((with_reducible refine Br.ne (fun _ => ?_) (fun _ => ?_)) <;> try (exfalso; omega)) | ((with_reducible refine brNdec (fun _ => ?_) (fun _ => ?_)) <;> try (exfalso; omega)) | ((with_reducible refine brNeq (fun _ => ?_) (fun _ => ?_)) <;> try (exfalso; omega)) | with_reducible refine Br.intro (fun _ => ?_) (fun _ => ?_) | (with_reducible refine And.intro ?_ ?_; · omega) | simp -dsimp -implicitDefEqProofs (disch := omega) only [↓vcOps_sp 27, ↓vcD_sp 27, ↓vcOps_sp 36, ↓vcD_sp 36, ↓vcOps_sp 39, ↓vcD_sp 39, ↓vcOps_sp 88, ↓vcD_sp 88, ↓vcOps_sp 98, ↓vcD_sp 98, ↓vcOps_sp 113, ↓vcD_sp 113, ↓vcOps_sp 135, ↓vcD_sp 135, ↓vcOps_sp 141, ↓vcD_sp 141, VCA, pg_gl, ↓upd_none, Nat.reduceEqDiff, Nat.reduceBEq, Nat.reduceAdd, Nat.reduceSub, Nat.reduceMul, Nat.reduceLT, Nat.reduceLeDiff, ↓reduceIte, reduceCtorEq, rsOf, rootsOf, SOp.rd, SI.rd, SX.rd, rdL, rdO, rdP, okParts, eqCells, okEqCells, fillA, okFill, setAt, implies_true, forall_const, forall_eq, ne_eq, exists_eq_right_right, exists_eq_right, exists_eq_left, exists_eq_left', eAttr, eInt, eNode, eDoc, eBool, lit_eq, he1, he3, he6, he7, eDoc, eNode])
              · rename_i g1 g2
                exact ⟨Sub.refl _, bad 7 (by decide) (by rw [kdef, if_neg hno, if_pos ⟨by omega, g2⟩])⟩
              · rename_i g1 g2
                exact ⟨_, by omega, k + 1, by omega, rfl, by omega, fun j => ok0 j (by rw [kdef, if_neg hno, if_neg (fun hh => g2 hh.2)])⟩
              · rename_i g1
                exact ⟨_, by omega, k + 1, by omega, rfl, by omega, fun j => ok0 j (by rw [kdef, if_neg hno, if_neg (fun hh => g1 (by omega))])⟩
      · obtain rfl : k = (nth d.nodes i).kids.length := by omega
        simp -dsimp -implicitDefEqProofs (disch := omega) only [↓vcOps_sp 27, ↓vcD_sp 27, ↓vcOps_sp 36, ↓vcD_sp 36, ↓vcOps_sp 39, ↓vcD_sp 39, ↓vcOps_sp 88, ↓vcD_sp 88, ↓vcOps_sp 98, ↓vcD_sp 98, ↓vcOps_sp 113, ↓vcD_sp 113, ↓vcOps_sp 135, ↓vcD_sp 135, ↓vcOps_sp 141, ↓vcD_sp 141, VCA, pg_gl, ↓upd_none, Nat.reduceEqDiff, Nat.reduceBEq, Nat.reduceAdd, Nat.reduceSub, Nat.reduceMul, Nat.reduceLT, Nat.reduceLeDiff, ↓reduceIte, reduceCtorEq, rsOf, rootsOf, SOp.rd, SI.rd, SX.rd, rdL, rdO, rdP, okParts, eqCells, okEqCells, fillA, okFill, setAt, implies_true, forall_const, forall_eq, ne_eq, exists_eq_right_right, exists_eq_right, exists_eq_left, exists_eq_left', eAttr, eInt, eNode, eDoc, eBool, lit_eq, he1, he3, he6]
        refine ⟨_, by omega, i + 1, by omega, rfl, by omega, fun j hj' => ?_⟩
        by_cases hji : j = i
        · subst hji; exact fe_none hk0
        · exact hj j (by omega)
    · obtain rfl : i = d.nodes.length := by omega
      simp -dsimp -implicitDefEqProofs (disch := omega) only [↓vcOps_sp 27, ↓vcD_sp 27, ↓vcOps_sp 36, ↓vcD_sp 36, ↓vcOps_sp 39, ↓vcD_sp 39, ↓vcOps_sp 88, ↓vcD_sp 88, ↓vcOps_sp 98, ↓vcD_sp 98, ↓vcOps_sp 113, ↓vcD_sp 113, ↓vcOps_sp 135, ↓vcD_sp 135, ↓vcOps_sp 141, ↓vcD_sp 141, VCA, pg_gl, ↓upd_none, Nat.reduceEqDiff, Nat.reduceBEq, Nat.reduceAdd, Nat.reduceSub, Nat.reduceMul, Nat.reduceLT, Nat.reduceLeDiff, ↓reduceIte, reduceCtorEq, rsOf, rootsOf, SOp.rd, SI.rd, SX.rd, rdL, rdO, rdP, okParts, eqCells, okEqCells, fillA, okFill, setAt, implies_true, forall_const, forall_eq, ne_eq, exists_eq_right_right, exists_eq_right, exists_eq_left, exists_eq_left', eAttr, eInt, eNode, eDoc, eBool, lit_eq]
      exact s6 (fe_none hj) hp _ he1 he3
  have s4 : 0 < d.nodes.length → ∀ e : Env, e 1 = .pin (eDoc d) → e 3 = aInt d.nodes.length → vc (Pg G) c17_s4 (retK [.tmp 2] fun r h' => r = aInt (if fe d.nodes.length (headE d) ≠ 0 then fe d.nodes.length (headE d) else if kidsAll d ≠ 0 then kidsAll d else fe d.nodes.length (deepE d)) ∧ h' = h) e h := by
    intro hp e he1 he3
    unfold c17_s4
    skip
    simp -dsimp -implicitDefEqProofs (disch := omega) only [↓vcOps_sp 27, ↓vcD_sp 27, ↓vcOps_sp 36, ↓vcD_sp 36, ↓vcOps_sp 39, ↓vcD_sp 39, ↓vcOps_sp 88, ↓vcD_sp 88, ↓vcOps_sp 98, ↓vcD_sp 98, ↓vcOps_sp 113, ↓vcD_sp 113, ↓vcOps_sp 135, ↓vcD_sp 135, ↓vcOps_sp 141, ↓vcD_sp 141, VCA, pg_gl, ↓upd_none, Nat.reduceEqDiff, Nat.reduceBEq, Nat.reduceAdd, Nat.reduceSub, Nat.reduceMul, Nat.reduceLT, Nat.reduceLeDiff, ↓reduceIte, reduceCtorEq, rsOf, rootsOf, SOp.rd, SI.rd, SX.rd, rdL, rdO, rdP, okParts, eqCells, okEqCells, fillA, okFill, setAt, implies_true, forall_const, forall_eq, ne_eq, exists_eq_right_right, exists_eq_right, exists_eq_left, exists_eq_left', eAttr, eInt, eNode, eDoc, eBool, lit_eq, he1, he3]
    refine LoopVC.intro (fun m e h' => ∃ i : Nat, i ≤ d.nodes.length ∧ m = d.nodes.length - i ∧ e 1 = .pin (eDoc d) ∧ e 3 = aInt d.nodes.length ∧ e 4 = aInt i ∧ h' = h ∧ ∀ j, j < i → headE d j = 0) d.nodes.length ⟨0, by omega, by omega, he1, he3, rfl, rfl, by omega⟩ ?_
    rintro m e h' ⟨i, hi, rfl, he1, he3, he4, rfl, hj⟩
    simp -dsimp -implicitDefEqProofs (disch := omega) only [↓vcOps_sp 27, ↓vcD_sp 27, ↓vcOps_sp 36, ↓vcD_sp 36, ↓vcOps_sp 39, ↓vcD_sp 39, ↓vcOps_sp 88, ↓vcD_sp 88, ↓vcOps_sp 98, ↓vcD_sp 98, ↓vcOps_sp 113, ↓vcD_sp 113, ↓vcOps_sp 135, ↓vcD_sp 135, ↓vcOps_sp 141, ↓vcD_sp 141, VCA, pg_gl, ↓upd_none, Nat.reduceEqDiff, Nat.reduceBEq, Nat.reduceAdd, Nat.reduceSub, Nat.reduceMul, Nat.reduceLT, Nat.reduceLeDiff, ↓reduceIte, reduceCtorEq, rsOf, rootsOf, SOp.rd, SI.rd, SX.rd, rdL, rdO, rdP, okParts, eqCells, okEqCells, fillA, okFill, setAt, implies_true, forall_const, forall_eq, ne_eq, exists_eq_right_right, exists_eq_right, exists_eq_left, exists_eq_left', eAttr, eInt, eNode, eDoc, eBool, lit_eq, he1, he3, he4]
    refine Br.dec (fun hlt => ?_) (fun hge => ?_)
    · have hi' : i < d.nodes.length := by omega
      have hdef : headE d i = if ¬ ((nth d.nodes i).kind = 1 ↔ i = 0) then 3 else nodeE (nth d.nodes i) := rfl
      have bad : ∀ x : Int, x ≠ 0 → headE d i = x → x = (if fe d.nodes.length (headE d) ≠ 0 then fe d.nodes.length (headE d) else if kidsAll d ≠ 0 then kidsAll d else fe d.nodes.length (deepE d)) := fun x hx he => by
        have : fe d.nodes.length (headE d) = x := by rw [fe_some hi' hj (by rw [he]; exact hx), he]
        rw [this, if_pos hx]
      have ok0 : headE d i = 0 → ∀ j, j < i + 1 → headE d j = 0 := fun h0 j hj' => by
        by_cases hji : j = i
        · subst hji; exact h0
        · exact hj j (by omega)
      have hO : PCalls (Pg G) 72 [.agg [aInt (nth d.nodes i).kind, .str (nth d.nodes i).name, sl eAttr (nth d.nodes i).attrs, .str (nth d.nodes i).text, aInt (nth d.nodes i).parent, sl eInt (nth d.nodes i).kids]] (aInt (nodeE (nth d.nodes i))) := nodeErr_ok _ (sm.nth i)
      simp -dsimp -implicitDefEqProofs (disch := omega) only [↓vcOps_sp 27, ↓vcD_sp 27, ↓vcOps_sp 36, ↓vcD_sp 36, ↓vcOps_sp 39, ↓vcD_sp 39, ↓vcOps_sp 88, ↓vcD_sp 88, ↓vcOps_sp 98, ↓vcD_sp 98, ↓vcOps_sp 113, ↓vcD_sp 113, ↓vcOps_sp 135, ↓vcD_sp 135, ↓vcOps_sp 141, ↓vcD_sp 141, VCA, pg_gl, ↓upd_none, Nat.reduceEqDiff, Nat.reduceBEq, Nat.reduceAdd, Nat.reduceSub, Nat.reduceMul, Nat.reduceLT, Nat.reduceLeDiff, ↓reduceIte, reduceCtorEq, rsOf, rootsOf, SOp.rd, SI.rd, SX.rd, rdL, rdO, rdP, okParts, eqCells, okEqCells, fillA, okFill, setAt, implies_true, forall_const, forall_eq, ne_eq, exists_eq_right_right, exists_eq_right, exists_eq_left, exists_eq_left', eAttr, eInt, eNode, eDoc, eBool, lit_eq, he1, he3, he4, eDoc, eNode]
      repeat' (first | ((with_reducible refine Br.dec (fun _ => ?_) (fun _ => ?_)) <;> try (exfalso; omega)) | ((with_reducible refine Br.eq (fun _ => ?_) (fun _ => ?_)) <;> try (exfalso; omega)) | ((with_reducible refine Br.ne (fun _ => ?_) (fun _ => ?_)) <;> try (exfalso; omega)) | ((with_reducible refine brNdec (fun _ => ?_) (fun _ => ?_)) <;> try (exfalso; omega)) | ((with_reducible refine brNeq (fun _ => ?_) (fun _ => ?_)) <;> try (exfalso; omega)) | with_reducible refine Br.intro (fun _ => ?_) (fun _ => ?_) | (with_reducible apply pcallE.of; · exact hO) | (with_reducible refine And.intro ?_ ?_; · omega) | simp -dsimp -implicitDefEqProofs (disch := omega) only [↓vcOps_sp 27, ↓vcD_sp 27, ↓vcOps_sp 36, ↓vcD_sp 36, ↓vcOps_sp 39, ↓vcD_sp 39, ↓vcOps_sp 88, ↓vcD_sp 88, ↓vcOps_sp 98, ↓vcD_sp 98, ↓vcOps_sp 113, ↓vcD_sp 113, ↓vcOps_sp 135, ↓vcD_sp 135, ↓vcOps_sp 141, ↓vcD_sp 141, VCA, pg_gl, ↓upd_none, Nat.reduceEqDiff, Nat.reduceBEq, Nat.reduceAdd, Nat.reduceSub, Nat.reduceMul, Nat.reduceLT, Nat.reduceLeDiff, ↓reduceIte, reduceCtorEq, rsOf, rootsOf, SOp.rd, SI.rd, SX.rd, rdL, rdO, rdP, okParts, eqCells, okEqCells, fillA, okFill, setAt, implies_true, forall_const, forall_eq, ne_eq, exists_eq_right_right, exists_eq_right, exists_eq_left, exists_eq_left', eAttr, eInt, eNode, eDoc, eBool, lit_eq, he1, he3, he4, eDoc, eNode])
      all_goals first
        | exact ⟨Sub.refl _, bad 3 (by decide) (by rw [hdef, if_pos (by omega)])⟩
        | (rename_i q; exact ⟨Sub.refl _, bad _ q (by rw [hdef, if_neg (by omega)])⟩)
        | (rename_i q; exact ⟨_, by omega, i + 1, by omega, rfl, by omega, ok0 (by rw [hdef, if_neg (by omega), q])⟩)
    · obtain rfl : i = d.nodes.length := by omega
      rw [fe_none hj, if_neg (by simp)]
      simp -dsimp -implicitDefEqProofs (disch := omega) only [↓vcOps_sp 27, ↓vcD_sp 27, ↓vcOps_sp 36, ↓vcD_sp 36, ↓vcOps_sp 39, ↓vcD_sp 39, ↓vcOps_sp 88, ↓vcD_sp 88, ↓vcOps_sp 98, ↓vcD_sp 98, ↓vcOps_sp 113, ↓vcD_sp 113, ↓vcOps_sp 135, ↓vcD_sp 135, ↓vcOps_sp 141, ↓vcD_sp 141, VCA, pg_gl, ↓upd_none, Nat.reduceEqDiff, Nat.reduceBEq, Nat.reduceAdd, Nat.reduceSub, Nat.reduceMul, Nat.reduceLT, Nat.reduceLeDiff, ↓reduceIte, reduceCtorEq, rsOf, rootsOf, SOp.rd, SI.rd, SX.rd, rdL, rdO, rdP, okParts, eqCells, okEqCells, fillA, okFill, setAt, implies_true, forall_const, forall_eq, ne_eq, exists_eq_right_right, exists_eq_right, exists_eq_left, exists_eq_left', eAttr, eInt, eNode, eDoc, eBool, lit_eq]
      exact s5 hp _ he1 he3
  rw [docE_kids]
  refine dcalls_of_vc Tryd.func17 hn17 hc17 (by rw [Tryd.ntmps17]; simp) (by rw [Tryd.ntmps17]; decide) ?_
  simp -dsimp -implicitDefEqProofs (disch := omega) only [↓vcOps_sp 27, ↓vcD_sp 27, ↓vcOps_sp 36, ↓vcD_sp 36, ↓vcOps_sp 39, ↓vcD_sp 39, ↓vcOps_sp 88, ↓vcD_sp 88, ↓vcOps_sp 98, ↓vcD_sp 98, ↓vcOps_sp 113, ↓vcD_sp 113, ↓vcOps_sp 135, ↓vcD_sp 135, ↓vcOps_sp 141, ↓vcD_sp 141, VCA, pg_gl, ↓upd_none, Nat.reduceEqDiff, Nat.reduceBEq, Nat.reduceAdd, Nat.reduceSub, Nat.reduceMul, Nat.reduceLT, Nat.reduceLeDiff, ↓reduceIte, reduceCtorEq, rsOf, rootsOf, SOp.rd, SI.rd, SX.rd, rdL, rdO, rdP, okParts, eqCells, okEqCells, fillA, okFill, setAt, implies_true, forall_const, forall_eq, ne_eq, exists_eq_right_right, exists_eq_right, exists_eq_left, exists_eq_left', eAttr, eInt, eNode, eDoc, eBool, lit_eq, c17, eDoc]
  refine Br.dec (fun h1 => ?_) (fun h1 => ?_)
  · rw [if_pos (by omega)]
    simp -dsimp -implicitDefEqProofs (disch := omega) only [↓vcOps_sp 27, ↓vcD_sp 27, ↓vcOps_sp 36, ↓vcD_sp 36, ↓vcOps_sp 39, ↓vcD_sp 39, ↓vcOps_sp 88, ↓vcD_sp 88, ↓vcOps_sp 98, ↓vcD_sp 98, ↓vcOps_sp 113, ↓vcD_sp 113, ↓vcOps_sp 135, ↓vcD_sp 135, ↓vcOps_sp 141, ↓vcD_sp 141, VCA, pg_gl, ↓upd_none, Nat.reduceEqDiff, Nat.reduceBEq, Nat.reduceAdd, Nat.reduceSub, Nat.reduceMul, Nat.reduceLT, Nat.reduceLeDiff, ↓reduceIte, reduceCtorEq, rsOf, rootsOf, SOp.rd, SI.rd, SX.rd, rdL, rdO, rdP, okParts, eqCells, okEqCells, fillA, okFill, setAt, implies_true, forall_const, forall_eq, ne_eq, exists_eq_right_right, exists_eq_right, exists_eq_left, exists_eq_left', eAttr, eInt, eNode, eDoc, eBool, lit_eq]
    exact Sub.refl _
  · rw [if_neg (by omega)]
    simp -dsimp -implicitDefEqProofs (disch := omega) only [↓vcOps_sp 27, ↓vcD_sp 27, ↓vcOps_sp 36, ↓vcD_sp 36, ↓vcOps_sp 39, ↓vcD_sp 39, ↓vcOps_sp 88, ↓vcD_sp 88, ↓vcOps_sp 98, ↓vcD_sp 98, ↓vcOps_sp 113, ↓vcD_sp 113, ↓vcOps_sp 135, ↓vcD_sp 135, ↓vcOps_sp 141, ↓vcD_sp 141, VCA, pg_gl, ↓upd_none, Nat.reduceEqDiff, Nat.reduceBEq, Nat.reduceAdd, Nat.reduceSub, Nat.reduceMul, Nat.reduceLT, Nat.reduceLeDiff, ↓reduceIte, reduceCtorEq, rsOf, rootsOf, SOp.rd, SI.rd, SX.rd, rdL, rdO, rdP, okParts, eqCells, okEqCells, fillA, okFill, setAt, implies_true, forall_const, forall_eq, ne_eq, exists_eq_right_right, exists_eq_right, exists_eq_left, exists_eq_left', eAttr, eInt, eNode, eDoc, eBool, lit_eq]
    refine Br.eq (fun h2 => ?_) (fun h2 => ?_)
    · rw [if_pos (by omega)]
      simp -dsimp -implicitDefEqProofs (disch := omega) only [↓vcOps_sp 27, ↓vcD_sp 27, ↓vcOps_sp 36, ↓vcD_sp 36, ↓vcOps_sp 39, ↓vcD_sp 39, ↓vcOps_sp 88, ↓vcD_sp 88, ↓vcOps_sp 98, ↓vcD_sp 98, ↓vcOps_sp 113, ↓vcD_sp 113, ↓vcOps_sp 135, ↓vcD_sp 135, ↓vcOps_sp 141, ↓vcD_sp 141, VCA, pg_gl, ↓upd_none, Nat.reduceEqDiff, Nat.reduceBEq, Nat.reduceAdd, Nat.reduceSub, Nat.reduceMul, Nat.reduceLT, Nat.reduceLeDiff, ↓reduceIte, reduceCtorEq, rsOf, rootsOf, SOp.rd, SI.rd, SX.rd, rdL, rdO, rdP, okParts, eqCells, okEqCells, fillA, okFill, setAt, implies_true, forall_const, forall_eq, ne_eq, exists_eq_right_right, exists_eq_right, exists_eq_left, exists_eq_left', eAttr, eInt, eNode, eDoc, eBool, lit_eq]
      exact Sub.refl _
    · rw [if_neg (by omega)]
      simp -dsimp -implicitDefEqProofs (disch := omega) only [↓vcOps_sp 27, ↓vcD_sp 27, ↓vcOps_sp 36, ↓vcD_sp 36, ↓vcOps_sp 39, ↓vcD_sp 39, ↓vcOps_sp 88, ↓vcD_sp 88, ↓vcOps_sp 98, ↓vcD_sp 98, ↓vcOps_sp 113, ↓vcD_sp 113, ↓vcOps_sp 135, ↓vcD_sp 135, ↓vcOps_sp 141, ↓vcD_sp 141, VCA, pg_gl, ↓upd_none, Nat.reduceEqDiff, Nat.reduceBEq, Nat.reduceAdd, Nat.reduceSub, Nat.reduceMul, Nat.reduceLT, Nat.reduceLeDiff, ↓reduceIte, reduceCtorEq, rsOf, rootsOf, SOp.rd, SI.rd, SX.rd, rdL, rdO, rdP, okParts, eqCells, okEqCells, fillA, okFill, setAt, implies_true, forall_const, forall_eq, ne_eq, exists_eq_right_right, exists_eq_right, exists_eq_left, exists_eq_left', eAttr, eInt, eNode, eDoc, eBool, lit_eq]
      exact s4 (by omega) _ rfl rfl
/-! ## sameness -/
def c103 : SFun := ⟨(.seq (.reg [⟨(some 2), (.boxF 43 6 (.t 0)), none⟩, ⟨(some 3), (.boxF 43 6 (.t 1)), none⟩, ⟨(some 4), (.mv (.c (.bool false))), none⟩]) (.seq (.reg [⟨(some 5), (.fldA 0 (.t 2)), none⟩, ⟨(some 6), (.ld 1 false (.t 5)), none⟩, ⟨(some 7), (.fldA 0 (.t 3)), none⟩, ⟨(some 8), (.ld 1 false (.t 7)), none⟩, ⟨(some 9), (.bin .eql (.t 6) (.t 8)), none⟩, ⟨(some 10), (.mv (.t 9)), none⟩, ⟨(some 11), (.fldA 1 (.t 2)), (some (10, true))⟩, ⟨(some 12), (.ld 1 false (.t 11)), (some (10, true))⟩, ⟨(some 13), (.fldA 1 (.t 3)), (some (10, true))⟩, ⟨(some 14), (.ld 1 false (.t 13)), (some (10, true))⟩, ⟨(some 15), (.bin .eql (.t 12) (.t 14)), (some (10, true))⟩, ⟨(some 16), (.pick (.t 10) (.t 15) (.c (.bool false))), none⟩, ⟨(some 17), (.mv (.t 16)), none⟩, ⟨(some 18), (.fldA 3 (.t 2)), (some (17, true))⟩, ⟨(some 19), (.ld 1 false (.t 18)), (some (17, true))⟩, ⟨(some 20), (.fldA 3 (.t 3)), (some (17, true))⟩, ⟨(some 21), (.ld 1 false (.t 20)), (some (17, true))⟩, ⟨(some 22), (.bin .eql (.t 19) (.t 21)), (some (17, true))⟩, ⟨(some 23), (.pick (.t 17) (.t 22) (.c (.bool false))), none⟩, ⟨(some 24), (.mv (.t 23)), none⟩, ⟨(some 25), (.fldA 4 (.t 2)), (some (24, true))⟩, ⟨(some 26), (.ld 1 false (.t 25)), (some (24, true))⟩, ⟨(some 27), (.fldA 4 (.t 3)), (some (24, true))⟩, ⟨(some 28), (.ld 1 false (.t 27)), (some (24, true))⟩, ⟨(some 29), (.bin .eql (.t 26) (.t 28)), (some (24, true))⟩, ⟨(some 30), (.pick (.t 24) (.t 29) (.c (.bool false))), none⟩, ⟨(some 31), (.mv (.t 30)), none⟩, ⟨(some 32), (.fldA 2 (.t 2)), (some (31, true))⟩, ⟨(some 33), (.ld 1 false (.t 32)), (some (31, true))⟩, ⟨(some 34), (.fldA 2 (.t 3)), (some (31, true))⟩, ⟨(some 35), (.ld 1 false (.t 34)), (some (31, true))⟩, ⟨(some 36), (.pcall 138 [(.t 33), (.t 35)]), (some (31, true))⟩, ⟨(some 37), (.pick (.t 31) (.t 36) (.c (.bool false))), none⟩, ⟨(some 38), (.mv (.t 37)), none⟩, ⟨(some 39), (.fldA 5 (.t 2)), (some (38, true))⟩, ⟨(some 40), (.ld 1 false (.t 39)), (some (38, true))⟩, ⟨(some 41), (.fldA 5 (.t 3)), (some (38, true))⟩, ⟨(some 42), (.ld 1 false (.t 41)), (some (38, true))⟩, ⟨(some 43), (.pcall 30 [(.t 40), (.t 42)]), (some (38, true))⟩, ⟨(some 44), (.pick (.t 38) (.t 43) (.c (.bool false))), none⟩, ⟨(some 4), (.mv (.t 44)), none⟩]) .ret)), [(.tmp 4)]⟩
theorem hc103 : toSF Tryd.prog {pure := [138, 30]} Tryd.f103 = some c103 := by kernel_rfl
theorem hn103 : (Tryd.f103.name == "runtime.NumGoroutine") = false := by kernel_rfl
theorem sameNode_ok (x y : HNode) (hx : NodeSm x) (hy : NodeSm y) : PCalls (Pg G) 103 [.agg (eNode x), .agg (eNode y)] (.bool (x == y)) := fun h => by
  have key : (x == y) = (x.kind == y.kind && (x.name == y.name && (x.text == y.text && (x.parent == y.parent && (x.attrs == y.attrs && x.kids == y.kids))))) := by
    cases x; cases y; rw [Bool.eq_iff_iff]; simp; intro _ _; exact ⟨fun ⟨a, b, c, d⟩ => ⟨b, c, a, d⟩, fun ⟨a, b, c, d⟩ => ⟨c, a, b, d⟩⟩
  refine dcalls_of_vc Tryd.func103 hn103 hc103 (by rw [Tryd.ntmps103]; simp) (by rw [Tryd.ntmps103]; decide) ?_
  simp -dsimp -implicitDefEqProofs (disch := omega) only [↓vcOps_sp 10, ↓vcD_sp 10, ↓vcOps_sp 17, ↓vcD_sp 17, ↓vcOps_sp 24, ↓vcD_sp 24, ↓vcOps_sp 31, ↓vcD_sp 31, ↓vcOps_sp 38, ↓vcD_sp 38, VCA, pg_gl, ↓upd_none, Nat.reduceEqDiff, Nat.reduceBEq, Nat.reduceAdd, Nat.reduceSub, Nat.reduceMul, Nat.reduceLT, Nat.reduceLeDiff, ↓reduceIte, reduceCtorEq, rsOf, rootsOf, SOp.rd, SI.rd, SX.rd, rdL, rdO, rdP, okParts, eqCells, okEqCells, fillA, okFill, setAt, implies_true, forall_const, forall_eq, ne_eq, exists_eq_right_right, exists_eq_right, exists_eq_left, exists_eq_left', eAttr, eInt, eNode, eDoc, eBool, lit_eq, c103, eNode]
  repeat' (first | ((with_reducible refine Br.dec (fun _ => ?_) (fun _ => ?_)) <;> try (exfalso; omega)) | ((with_reducible refine Br.eq (fun _ => ?_) (fun _ => ?_)) <;> try (exfalso; omega)) | ((with_reducible refine Br.ne (fun _ => ?_) (fun _ => ?_)) <;> try (exfalso; omega)) | ((with_reducible refine brNdec (fun _ => ?_) (fun _ => ?_)) <;> try (exfalso; omega)) | ((with_reducible refine brNeq (fun _ => ?_) (fun _ => ?_)) <;> try (exfalso; omega)) | with_reducible refine Br.intro (fun _ => ?_) (fun _ => ?_) | (with_reducible apply pcallE.of; · exact sameA_ok x.attrs y.attrs hx.attrs hy.attrs) | (with_reducible apply pcallE.of; · exact sameN_ok x.kids y.kids hx.kids hy.kids) | (with_reducible refine And.intro ?_ ?_; · omega) | simp -dsimp -implicitDefEqProofs (disch := omega) only [↓vcOps_sp 10, ↓vcD_sp 10, ↓vcOps_sp 17, ↓vcD_sp 17, ↓vcOps_sp 24, ↓vcD_sp 24, ↓vcOps_sp 31, ↓vcD_sp 31, ↓vcOps_sp 38, ↓vcD_sp 38, VCA, pg_gl, ↓upd_none, Nat.reduceEqDiff, Nat.reduceBEq, Nat.reduceAdd, Nat.reduceSub, Nat.reduceMul, Nat.reduceLT, Nat.reduceLeDiff, ↓reduceIte, reduceCtorEq, rsOf, rootsOf, SOp.rd, SI.rd, SX.rd, rdL, rdO, rdP, okParts, eqCells, okEqCells, fillA, okFill, setAt, implies_true, forall_const, forall_eq, ne_eq, exists_eq_right_right, exists_eq_right, exists_eq_left, exists_eq_left', eAttr, eInt, eNode, eDoc, eBool, lit_eq])
  all_goals (refine ⟨Sub.refl _, ?_⟩; rw [key]; simp_all)
def c15 : SFun := ⟨(.seq (.reg [⟨(some 2), (.box 24 2 (.t 0)), none⟩, ⟨(some 4), (.new 24 2 [.emp, (.bool false)]), none⟩]) (.seq (.reg [⟨(some 5), (.fldA 0 (.t 2)), none⟩, ⟨(some 6), (.ld 1 false (.t 5)), none⟩, ⟨(some 7), (.fldA 0 (.t 2)), none⟩, ⟨(some 8), (.ld 1 false (.t 7)), none⟩, ⟨(some 9), (.len (.t 8)), none⟩, ⟨(some 10), (.mv (.t 1)), none⟩, ⟨(some 11), (.min2 (.t 9) (.t 10)), none⟩, ⟨(some 12), (.slA 6 (.t 6) none (some (.t 11))), none⟩, ⟨(some 13), (.fldA 0 (.t 2)), none⟩, ⟨none, (.st 1 (.t 13) (.t 12)), none⟩]) (.seq (.reg [⟨(some 14), (.ld 2 true (.t 2)), none⟩, ⟨none, (.st 2 (.t 4) (.t 14)), none⟩]) .ret))), [(.cell 4 2 true)]⟩
theorem hc15 : toSF Tryd.prog {how := [(2, 6)]} Tryd.f15 = some c15 := by kernel_rfl
theorem hn15 : (Tryd.f15.name == "runtime.NumGoroutine") = false := by kernel_rfl
theorem few_ok (d : HDoc) (n : Nat) (sm : DocSm d) : PCalls (Pg G) 15 [.agg (eDoc d), aInt n] (.agg (eDoc ⟨d.nodes.take n, d.quirks⟩)) := fun h => by
  have l1 := sm.len
  refine dcalls_of_vc Tryd.func15 hn15 hc15 (by rw [Tryd.ntmps15]; simp) (by rw [Tryd.ntmps15]; decide) ?_
  simp -dsimp -implicitDefEqProofs (disch := omega) only [VCA, pg_gl, ↓upd_none, Nat.reduceEqDiff, Nat.reduceBEq, Nat.reduceAdd, Nat.reduceSub, Nat.reduceMul, Nat.reduceLT, Nat.reduceLeDiff, ↓reduceIte, reduceCtorEq, rsOf, rootsOf, SOp.rd, SI.rd, SX.rd, rdL, rdO, rdP, okParts, eqCells, okEqCells, fillA, okFill, setAt, implies_true, forall_const, forall_eq, ne_eq, exists_eq_right_right, exists_eq_right, exists_eq_left, exists_eq_left', eAttr, eInt, eNode, eDoc, eBool, lit_eq, c15, eDoc]
  intro r hr r1 hr1
  have ne : ¬ r = r1 := fun e => hr1.1 e.symm
  have ne' : ¬ r1 = r := hr1.1
  have et : d.nodes.take (min (d.nodes.length : Int) n).toNat = d.nodes.take n := by
    rw [show (min (d.nodes.length : Int) n).toNat = min n d.nodes.length from by omega, List.take_eq_take_iff]; omega
  simp -dsimp -implicitDefEqProofs (disch := omega) only [VCA, pg_gl, ↓upd_none, Nat.reduceEqDiff, Nat.reduceBEq, Nat.reduceAdd, Nat.reduceSub, Nat.reduceMul, Nat.reduceLT, Nat.reduceLeDiff, ↓reduceIte, reduceCtorEq, rsOf, rootsOf, SOp.rd, SI.rd, SX.rd, rdL, rdO, rdP, okParts, eqCells, okEqCells, fillA, okFill, setAt, implies_true, forall_const, forall_eq, ne_eq, exists_eq_right_right, exists_eq_right, exists_eq_left, exists_eq_left', eAttr, eInt, eNode, eDoc, eBool, lit_eq, ne, ne']
  exact ⟨by omega, ((((Sub.refl h).upd hr).upd hr1.2).upd hr).upd hr1.2, by rw [et]⟩
/-! ## above and below -/
/-- is a node another one, or below it? -/
def c26 : SFun := ⟨(.seq (.reg [⟨(some 3), (.boxF 24 2 (.t 0)), none⟩, ⟨(some 6), (.mv (.c (.bool false))), none⟩]) (.seq (.block 0 (.loop (.seq (.seq (.reg [⟨(some 7), (.mv (.t 1)), none⟩, ⟨(some 8), (.mv (.t 2)), none⟩, ⟨(some 9), (.bin .neq (.t 7) (.t 8)), none⟩, ⟨(some 10), (.mv (.t 9)), none⟩, ⟨(some 11), (.mv (.t 1)), (some (10, true))⟩, ⟨(some 12), (.bin .geq (.t 11) (.c (.int .i64 (0)))), (some (10, true))⟩, ⟨(some 13), (.pick (.t 10) (.t 12) (.c (.bool false))), none⟩]) (.cond (.t 13) .skip (.exit 0))) (.block 1 (.reg [⟨(some 14), (.fldA 0 (.t 3)), none⟩, ⟨(some 15), (.ld 1 false (.t 14)), none⟩, ⟨(some 16), (.mv (.t 1)), none⟩, ⟨(some 17), (.idxA 6 (.t 15) (.t 16)), none⟩, ⟨(some 18), (.fldA 4 (.t 17)), none⟩, ⟨(some 19), (.ld 1 false (.t 18)), none⟩, ⟨(some 1), (.mv (.t 19)), none⟩]))))) (.seq (.reg [⟨(some 20), (.mv (.t 1)), none⟩, ⟨(some 21), (.mv (.t 2)), none⟩, ⟨(some 22), (.bin .eql (.t 20) (.t 21)), none⟩, ⟨(some 6), (.mv (.t 22)), none⟩]) .ret))), [(.tmp 6)]⟩
theorem hc26 : toSF Tryd.prog {} Tryd.f26 = some c26 := by kernel_rfl
theorem hn26 : (Tryd.f26.name == "runtime.NumGoroutine") = false := by kernel_rfl
theorem under_ok (d : HDoc) (V : DV d) (n top : Int) (hn : inD d n) (ht : 0 ≤ top) : PCalls (Pg G) 26 [.agg (eDoc d), aInt n, aInt top] (.bool (decide (top ∈ chain d n))) := fun h => by
  have hl := V.len
  refine dcalls_of_vc Tryd.func26 hn26 hc26 (by rw [Tryd.ntmps26]; simp) (by rw [Tryd.ntmps26]; decide) ?_
  simp -dsimp -implicitDefEqProofs (disch := omega) only [↓vcOps_sp 10, ↓vcD_sp 10, VCA, pg_gl, ↓upd_none, Nat.reduceEqDiff, Nat.reduceBEq, Nat.reduceAdd, Nat.reduceSub, Nat.reduceMul, Nat.reduceLT, Nat.reduceLeDiff, ↓reduceIte, reduceCtorEq, rsOf, rootsOf, SOp.rd, SI.rd, SX.rd, rdL, rdO, rdP, okParts, eqCells, okEqCells, fillA, okFill, setAt, implies_true, forall_const, forall_eq, ne_eq, exists_eq_right_right, exists_eq_right, exists_eq_left, exists_eq_left', eAttr, eInt, eNode, eDoc, eBool, lit_eq, c26, eDoc]
  refine LoopVC.intro (fun m e h' => ∃ c : Int, m = (if c = -1 then 0 else up d c + 1) ∧ (c = -1 ∨ inD d c) ∧ e 1 = aInt c ∧ e 2 = aInt top ∧ e 3 = .pin (eDoc d) ∧ h' = h ∧ (c = -1 → top ∉ chain d n) ∧ (inD d c → (top ∈ chain d n ↔ top ∈ chain d c))) _ ⟨n, rfl, .inr hn, rfl, rfl, rfl, rfl, fun e => by have := hn.1; omega, fun _ => Iff.rfl⟩ ?_
  rintro m e h' ⟨c, rfl, hc, he1, he2, he3, rfl, hno, hyes⟩
  simp -dsimp -implicitDefEqProofs (disch := omega) only [↓vcOps_sp 10, ↓vcD_sp 10, VCA, pg_gl, ↓upd_none, Nat.reduceEqDiff, Nat.reduceBEq, Nat.reduceAdd, Nat.reduceSub, Nat.reduceMul, Nat.reduceLT, Nat.reduceLeDiff, ↓reduceIte, reduceCtorEq, rsOf, rootsOf, SOp.rd, SI.rd, SX.rd, rdL, rdO, rdP, okParts, eqCells, okEqCells, fillA, okFill, setAt, implies_true, forall_const, forall_eq, ne_eq, exists_eq_right_right, exists_eq_right, exists_eq_left, exists_eq_left', eAttr, eInt, eNode, eDoc, eBool, lit_eq, he1, he2, he3, eDoc]
  refine Br.ne (fun h1 => ?_) (fun h1 => ?_)
  · simp -dsimp -implicitDefEqProofs (disch := omega) only [↓vcOps_sp 10, ↓vcD_sp 10, VCA, pg_gl, ↓upd_none, Nat.reduceEqDiff, Nat.reduceBEq, Nat.reduceAdd, Nat.reduceSub, Nat.reduceMul, Nat.reduceLT, Nat.reduceLeDiff, ↓reduceIte, reduceCtorEq, rsOf, rootsOf, SOp.rd, SI.rd, SX.rd, rdL, rdO, rdP, okParts, eqCells, okEqCells, fillA, okFill, setAt, implies_true, forall_const, forall_eq, ne_eq, exists_eq_right_right, exists_eq_right, exists_eq_left, exists_eq_left', eAttr, eInt, eNode, eDoc, eBool, lit_eq, he1, he2, he3, eDoc]
    refine Br.dec (fun h2 => ?_) (fun h2 => ?_)
    · have hc : inD d c := hc.resolve_left (by omega)
      have hc0 := hc.1
      have hc1 := hc.2
      have e0 : nth d.nodes c.toNat = nd d c := rfl
      simp -dsimp -implicitDefEqProofs (disch := omega) only [↓vcOps_sp 10, ↓vcD_sp 10, VCA, pg_gl, ↓upd_none, Nat.reduceEqDiff, Nat.reduceBEq, Nat.reduceAdd, Nat.reduceSub, Nat.reduceMul, Nat.reduceLT, Nat.reduceLeDiff, ↓reduceIte, reduceCtorEq, rsOf, rootsOf, SOp.rd, SI.rd, SX.rd, rdL, rdO, rdP, okParts, eqCells, okEqCells, fillA, okFill, setAt, implies_true, forall_const, forall_eq, ne_eq, exists_eq_right_right, exists_eq_right, exists_eq_left, exists_eq_left', eAttr, eInt, eNode, eDoc, eBool, lit_eq, he1, he2, he3, eDoc, eNode]
      rw [e0]
      refine ⟨by omega, _, ?_, (nd d c).parent, rfl, ?_, rfl, ?_, ?_⟩
      · rw [if_neg (show ¬ c = -1 by omega)]
        split
        · omega
        · rename_i hp
          have := V.up_par hc (by have := V.par c hc; unfold inD at this; omega)
          omega
      · rcases V.par c hc with h | h
        · exact .inl h
        · exact .inr h.1
      · intro hp
        rw [hyes hc, chain_top V (by omega)]
        simp; exact fun e => h1 e.symm
      · intro hp
        rw [hyes hc, chain_up V hc hp.1]
        simp; exact fun e => absurd e.symm h1
    · have hc : c = -1 := hc.resolve_right (fun h => by have := h.1; omega)
      simp -dsimp -implicitDefEqProofs (disch := omega) only [↓vcOps_sp 10, ↓vcD_sp 10, VCA, pg_gl, ↓upd_none, Nat.reduceEqDiff, Nat.reduceBEq, Nat.reduceAdd, Nat.reduceSub, Nat.reduceMul, Nat.reduceLT, Nat.reduceLeDiff, ↓reduceIte, reduceCtorEq, rsOf, rootsOf, SOp.rd, SI.rd, SX.rd, rdL, rdO, rdP, okParts, eqCells, okEqCells, fillA, okFill, setAt, implies_true, forall_const, forall_eq, ne_eq, exists_eq_right_right, exists_eq_right, exists_eq_left, exists_eq_left', eAttr, eInt, eNode, eDoc, eBool, lit_eq, he1, he2]
      refine ⟨Sub.refl _, ?_⟩
      rw [decide_eq_false (hno hc)]
      simpa using h1
  · simp -dsimp -implicitDefEqProofs (disch := omega) only [↓vcOps_sp 10, ↓vcD_sp 10, VCA, pg_gl, ↓upd_none, Nat.reduceEqDiff, Nat.reduceBEq, Nat.reduceAdd, Nat.reduceSub, Nat.reduceMul, Nat.reduceLT, Nat.reduceLeDiff, ↓reduceIte, reduceCtorEq, rsOf, rootsOf, SOp.rd, SI.rd, SX.rd, rdL, rdO, rdP, okParts, eqCells, okEqCells, fillA, okFill, setAt, implies_true, forall_const, forall_eq, ne_eq, exists_eq_right_right, exists_eq_right, exists_eq_left, exists_eq_left', eAttr, eInt, eNode, eDoc, eBool, lit_eq, he1, he2]
    have hc : inD d c := hc.resolve_left (by omega)
    refine ⟨Sub.refl _, ?_⟩
    rw [decide_eq_true ((hyes hc).2 (by rw [h1]; exact chain_self _ _))]
    simpa using h1
def c25 : SFun := ⟨(.seq (.reg [⟨(some 2), (.boxF 24 2 (.t 0)), none⟩, ⟨(some 4), (.mv (.c .emp)), none⟩]) (.seq (.reg [⟨(some 7), (.mv (.t 1)), none⟩, ⟨(some 8), (.bldR 3 1 [(.t 7)]), none⟩, ⟨(some 5), (.mv (.t 8)), none⟩]) (.seq (.seq (.reg [⟨(some 6), (.mv (.c (.int .i64 (0)))), none⟩]) (.block 0 (.loop (.seq (.seq (.reg [⟨(some 9), (.mv (.t 6)), none⟩, ⟨(some 10), (.fldA 0 (.t 2)), none⟩, ⟨(some 11), (.ld 1 false (.t 10)), none⟩, ⟨(some 12), (.mv (.t 1)), none⟩, ⟨(some 13), (.idxA 6 (.t 11) (.t 12)), none⟩, ⟨(some 14), (.fldA 5 (.t 13)), none⟩, ⟨(some 15), (.ld 1 false (.t 14)), none⟩, ⟨(some 16), (.len (.t 15)), none⟩, ⟨(some 17), (.bin .lss (.t 9) (.t 16)), none⟩]) (.cond (.t 17) .skip (.exit 0))) (.seq (.block 1 (.dreg [(⟨(some 20), (.mv (.t 5)), none⟩, none), (⟨(some 21), (.ld 2 true (.t 2)), none⟩, none), (⟨(some 22), (.fldA 0 (.t 2)), none⟩, none), (⟨(some 23), (.ld 1 false (.t 22)), none⟩, none), (⟨(some 24), (.mv (.t 1)), none⟩, none), (⟨(some 25), (.idxA 6 (.t 23) (.t 24)), none⟩, none), (⟨(some 26), (.fldA 5 (.t 25)), none⟩, none), (⟨(some 27), (.ld 1 false (.t 26)), none⟩, none), (⟨(some 28), (.mv (.t 6)), none⟩, none), (⟨(some 29), (.idxA 1 (.t 27) (.t 28)), none⟩, none), (⟨(some 30), (.ld 1 false (.t 29)), none⟩, none), (⟨(some 31), (.pcall 25 [(.t 21), (.t 30)]), none⟩, none), (⟨(some 32), (.app 3 1 8 (.t 20) (.t 31)), none⟩, (some [21, 30, 27, 23])), (⟨(some 5), (.mv (.t 32)), none⟩, (some [21, 30, 27, 23]))])) (.reg [⟨(some 18), (.mv (.t 6)), none⟩, ⟨(some 19), (.bin .add (.t 18) (.c (.int .i64 (1)))), none⟩, ⟨(some 6), (.mv (.t 19)), none⟩])))))) (.seq (.reg [⟨(some 33), (.mv (.t 5)), none⟩, ⟨(some 4), (.mv (.t 33)), none⟩]) .ret)))), [(.tmp 4)]⟩
theorem hc25 : toSF Tryd.prog {pure := [25], how := [(8, 2)]} Tryd.f25 = some c25 := by kernel_rfl
theorem hn25 : (Tryd.f25.name == "runtime.NumGoroutine") = false := by kernel_rfl
theorem below_ok (d : HDoc) (V : DV d) (sm : DocSm d) : ∀ n, inD d n → PCalls (Pg G) 25 [.agg (eDoc d), aInt n] (sl eInt (below d n)) := V.down fun n hn ih => PCalls.acc (ty := 3) (sz := 1) fun h => by
  have hl := V.len
  have n0 := hn.1
  have n1 := hn.2
  have e0 : nth d.nodes n.toNat = nd d n := rfl
  have kl := (sm.nd n).kids
  refine dcalls_of_vc Tryd.func25 hn25 hc25 (by rw [Tryd.ntmps25]; simp) (by rw [Tryd.ntmps25]; decide) ?_
  simp -dsimp -implicitDefEqProofs (disch := omega) only [VCA, pg_gl, ↓upd_none, Nat.reduceEqDiff, Nat.reduceBEq, Nat.reduceAdd, Nat.reduceSub, Nat.reduceMul, Nat.reduceLT, Nat.reduceLeDiff, ↓reduceIte, reduceCtorEq, rsOf, rootsOf, SOp.rd, SI.rd, SX.rd, rdL, rdO, rdP, okParts, eqCells, okEqCells, fillA, okFill, setAt, implies_true, forall_const, forall_eq, ne_eq, exists_eq_right_right, exists_eq_right, exists_eq_left, exists_eq_left', eAttr, eInt, eNode, eDoc, eBool, lit_eq, c25, eDoc]
  intro r hr
  have bl := below_len V hn
  rw [below_eq V hn] at bl ⊢
  simp only [List.length_cons] at bl
  refine LoopVC.intro (fun m e h' => ∃ k : Nat, k ≤ (nd d n).kids.length ∧ m = (nd d n).kids.length - k ∧ e 1 = aInt n ∧ e 2 = .pin (eDoc d) ∧ e 6 = aInt k ∧ Acc h 3 1 ((n :: ((nd d n).kids.take k).flatMap (below d)).map eInt) (e 5) h' ∧ Sim.Sub h h') _ ⟨0, by omega, rfl, rfl, rfl, rfl, Acc.root hr (upd_same _ _ _), (Sub.refl h).upd hr⟩ ?_
  rintro m e h' ⟨k, hk, rfl, he1, he2, he6, A, S⟩
  simp -dsimp -implicitDefEqProofs (disch := omega) only [VCA, pg_gl, ↓upd_none, Nat.reduceEqDiff, Nat.reduceBEq, Nat.reduceAdd, Nat.reduceSub, Nat.reduceMul, Nat.reduceLT, Nat.reduceLeDiff, ↓reduceIte, reduceCtorEq, rsOf, rootsOf, SOp.rd, SI.rd, SX.rd, rdL, rdO, rdP, okParts, eqCells, okEqCells, fillA, okFill, setAt, implies_true, forall_const, forall_eq, ne_eq, exists_eq_right_right, exists_eq_right, exists_eq_left, exists_eq_left', eAttr, eInt, eNode, eDoc, eBool, lit_eq, he1, he2, he6, eDoc, eNode, e0]
  refine ⟨by omega, Br.dec (fun hlt => ?_) (fun hge => ?_)⟩
  · have hk' : k < (nd d n).kids.length := by omega
    have hB := ih _ (nth_mem' hk')
    unfold eDoc at hB
    have hfl : (((nd d n).kids.take (k + 1)).flatMap (below d)).length ≤ ((nd d n).kids.flatMap (below d)).length := by
      conv => rhs; rw [← List.take_append_drop (k + 1) (nd d n).kids, List.flatMap_append, List.length_append]
      omega
    rw [take_snoc hk', List.flatMap_append, List.length_append] at hfl
    simp only [List.flatMap_cons, List.flatMap_nil, List.append_nil] at hfl
    simp -dsimp -implicitDefEqProofs (disch := omega) only [VCA, pg_gl, ↓upd_none, Nat.reduceEqDiff, Nat.reduceBEq, Nat.reduceAdd, Nat.reduceSub, Nat.reduceMul, Nat.reduceLT, Nat.reduceLeDiff, ↓reduceIte, reduceCtorEq, rsOf, rootsOf, SOp.rd, SI.rd, SX.rd, rdL, rdO, rdP, okParts, eqCells, okEqCells, fillA, okFill, setAt, implies_true, forall_const, forall_eq, ne_eq, exists_eq_right_right, exists_eq_right, exists_eq_left, exists_eq_left', eAttr, eInt, eNode, eDoc, eBool, lit_eq, he1, he2, he6, eDoc, eNode, e0]
    refine ⟨by omega, by omega, ?_⟩
    refine pcallE.of (hB) ?_; simp -dsimp -implicitDefEqProofs (disch := omega) only [VCA, pg_gl, ↓upd_none, Nat.reduceEqDiff, Nat.reduceBEq, Nat.reduceAdd, Nat.reduceSub, Nat.reduceMul, Nat.reduceLT, Nat.reduceLeDiff, ↓reduceIte, reduceCtorEq, rsOf, rootsOf, SOp.rd, SI.rd, SX.rd, rdL, rdO, rdP, okParts, eqCells, okEqCells, fillA, okFill, setAt, implies_true, forall_const, forall_eq, ne_eq, exists_eq_right_right, exists_eq_right, exists_eq_left, exists_eq_left', eAttr, eInt, eNode, eDoc, eBool, lit_eq, he1, he2, he6, eDoc, eNode, e0]
    refine A.app S (by simp only [List.length_map, List.length_cons]; omega) (by simp only [List.length_map, List.length_cons]; omega) fun a' h'' A' S' => ?_
    simp -dsimp -implicitDefEqProofs (disch := omega) only [VCA, pg_gl, ↓upd_none, Nat.reduceEqDiff, Nat.reduceBEq, Nat.reduceAdd, Nat.reduceSub, Nat.reduceMul, Nat.reduceLT, Nat.reduceLeDiff, ↓reduceIte, reduceCtorEq, rsOf, rootsOf, SOp.rd, SI.rd, SX.rd, rdL, rdO, rdP, okParts, eqCells, okEqCells, fillA, okFill, setAt, implies_true, forall_const, forall_eq, ne_eq, exists_eq_right_right, exists_eq_right, exists_eq_left, exists_eq_left', eAttr, eInt, eNode, eDoc, eBool, lit_eq, he1, he2, he6]
    refine ⟨_, by omega, k + 1, by omega, rfl, by omega, ?_, S'⟩
    rw [take_snoc hk', List.flatMap_append]
    simpa [eInt] using A'
  · obtain rfl : k = (nd d n).kids.length := by omega
    simp -dsimp -implicitDefEqProofs (disch := omega) only [VCA, pg_gl, ↓upd_none, Nat.reduceEqDiff, Nat.reduceBEq, Nat.reduceAdd, Nat.reduceSub, Nat.reduceMul, Nat.reduceLT, Nat.reduceLeDiff, ↓reduceIte, reduceCtorEq, rsOf, rootsOf, SOp.rd, SI.rd, SX.rd, rdL, rdO, rdP, okParts, eqCells, okEqCells, fillA, okFill, setAt, implies_true, forall_const, forall_eq, ne_eq, exists_eq_right_right, exists_eq_right, exists_eq_left, exists_eq_left', eAttr, eInt, eNode, eDoc, eBool, lit_eq, he6]
    rw [List.take_length] at A
    exact ⟨_, Sub.refl _, A, S⟩
end Go.Proofs.K
end
section
/- Ways through a tree: contracts. -/
set_option linter.unusedSimpArgs false
set_option linter.unusedVariables false
namespace Go.Proofs.K
open Go Go.Sim Go.Proofs
variable {G : Glob}

def c111 : SFun := ⟨(.seq (.reg [⟨(some 4), (.mv (.t 0)), none⟩, ⟨(some 5), (.len (.t 4)), none⟩, ⟨(some 6), (.bin .sub (.t 5) (.c (.int .i64 (1)))), none⟩, ⟨(some 2), (.mv (.c (.int .i64 (0)))), none⟩, ⟨(some 3), (.mv (.t 6)), none⟩]) (.block 0 (.loop (.seq (.seq (.reg [⟨(some 7), (.mv (.t 2)), none⟩, ⟨(some 8), (.mv (.t 3)), none⟩, ⟨(some 9), (.bin .lss (.t 7) (.t 8)), none⟩]) (.cond (.t 9) .skip (.exit 0))) (.seq (.block 1 (.dreg [(⟨(some 14), (.mv (.t 0)), none⟩, none), (⟨(some 15), (.mv (.t 2)), none⟩, none), (⟨(some 16), (.mv (.t 0)), none⟩, none), (⟨(some 17), (.mv (.t 3)), none⟩, none), (⟨(some 18), (.mv (.t 0)), none⟩, none), (⟨(some 19), (.mv (.t 3)), none⟩, none), (⟨(some 20), (.idxA 1 (.t 18) (.t 19)), none⟩, none), (⟨(some 21), (.ld 1 false (.t 20)), none⟩, none), (⟨(some 22), (.mv (.t 0)), none⟩, none), (⟨(some 23), (.mv (.t 2)), none⟩, none), (⟨(some 24), (.idxA 1 (.t 22) (.t 23)), none⟩, none), (⟨(some 25), (.ld 1 false (.t 24)), none⟩, none), (⟨(some 26), (.idxA 1 (.t 14) (.t 15)), none⟩, none), (⟨none, (.st 1 (.t 26) (.t 21)), none⟩, (some [21, 25])), (⟨(some 27), (.idxA 1 (.t 16) (.t 17)), none⟩, none), (⟨none, (.st 1 (.t 27) (.t 25)), none⟩, (some [21, 25]))])) (.reg [⟨(some 10), (.mv (.t 2)), none⟩, ⟨(some 11), (.bin .add (.t 10) (.c (.int .i64 (1)))), none⟩, ⟨(some 12), (.mv (.t 3)), none⟩, ⟨(some 13), (.bin .sub (.t 12) (.c (.int .i64 (1)))), none⟩, ⟨(some 2), (.mv (.t 11)), none⟩, ⟨(some 3), (.mv (.t 13)), none⟩])))))), []⟩
theorem hc111 : toSF Tryd.prog {} Tryd.f111 = some c111 := by kernel_rfl
theorem hn111 : (Tryd.f111.name == "runtime.NumGoroutine") = false := by kernel_rfl
theorem reverseI_ok {h : Heap} {r : Nat} (L : List Int) (hr : h r = some ⟨3, 1, L.map eInt⟩) (hl : L.length ≤ 1073741824) :
    DCalls (Pg G) 111 [.osl r 1 0 L.length] h fun a h' => a = .tup [] ∧ h' = upd h r (some ⟨3, 1, L.reverse.map eInt⟩) := by
  refine dcalls_of_vc Tryd.func111 hn111 hc111 (by rw [Tryd.ntmps111]; simp) (by rw [Tryd.ntmps111]; decide) ?_
  simp -dsimp -implicitDefEqProofs (disch := omega) only [VCA, pg_gl, ↓upd_none, Nat.reduceEqDiff, Nat.reduceBEq, Nat.reduceAdd, Nat.reduceSub, Nat.reduceMul, Nat.reduceLT, Nat.reduceLeDiff, ↓reduceIte, reduceCtorEq, rsOf, rootsOf, SOp.rd, SI.rd, SX.rd, rdL, rdO, rdP, okParts, eqCells, okEqCells, fillA, okFill, setAt, implies_true, forall_const, forall_eq, ne_eq, exists_eq_right_right, exists_eq_right, exists_eq_left, exists_eq_left', eInt, eBool, lit_eq, c111]
  refine LoopVC.intro (fun m e h' => ∃ (i : Nat) (cs : List Int), i ≤ L.length ∧ 2 * i ≤ L.length + 1 ∧ m = L.length - i ∧ e 0 = .osl r 1 0 L.length ∧ e 2 = aInt i ∧ e 3 = aInt ((L.length : Int) - 1 - i) ∧ h' = upd h r (some ⟨3, 1, cs.map eInt⟩) ∧ cs.length = L.length ∧
    ∀ k, k < L.length → nth cs k = if k < i ∨ L.length ≤ k + i then nth L (L.length - 1 - k) else nth L k) L.length ⟨0, L, by omega, by omega, by omega, rfl, rfl, by simp, (upd_id hr).symm, rfl, fun k hk => by rw [if_neg (by omega)]⟩ ?_
  rintro m e h' ⟨i, cs, hi, hi2, rfl, he0, he2, he3, rfl, hcl, hcs⟩
  simp -dsimp -implicitDefEqProofs (disch := omega) only [VCA, pg_gl, ↓upd_none, Nat.reduceEqDiff, Nat.reduceBEq, Nat.reduceAdd, Nat.reduceSub, Nat.reduceMul, Nat.reduceLT, Nat.reduceLeDiff, ↓reduceIte, reduceCtorEq, rsOf, rootsOf, SOp.rd, SI.rd, SX.rd, rdL, rdO, rdP, okParts, eqCells, okEqCells, fillA, okFill, setAt, implies_true, forall_const, forall_eq, ne_eq, exists_eq_right_right, exists_eq_right, exists_eq_left, exists_eq_left', eInt, eBool, lit_eq, he0, he2, he3]
  refine Br.dec (fun hlt => ?_) (fun hge => ?_)
  · have ej : ((L.length : Int) - 1 - i).toNat = L.length - 1 - i := by omega
    have eS : ∀ (k : Nat) (x : Int), (cs.map eInt).set k [.int .i64 x] = (cs.set k x).map eInt := fun k x => by rw [List.map_set]; rfl
    have eT : ∀ (k k' : Nat) (x x' : Int), ((cs.set k' x').map eInt).set k [.int .i64 x] = ((cs.set k' x').set k x).map eInt := fun k k' x x' => by rw [show ([.int .i64 x] : List AVal) = eInt x from rfl, ← List.map_set]
    have gS : ∀ (k k' : Nat) (x : Int), k < cs.length → ((cs.set k' x).map eInt).getD k [] = eInt (nth (cs.set k' x) k) := fun k k' x hk => getD_map_enc (by rw [List.length_set]; exact hk)
    simp -dsimp -implicitDefEqProofs (disch := omega) only [VCA, pg_gl, ↓upd_none, Nat.reduceEqDiff, Nat.reduceBEq, Nat.reduceAdd, Nat.reduceSub, Nat.reduceMul, Nat.reduceLT, Nat.reduceLeDiff, ↓reduceIte, reduceCtorEq, rsOf, rootsOf, SOp.rd, SI.rd, SX.rd, rdL, rdO, rdP, okParts, eqCells, okEqCells, fillA, okFill, setAt, implies_true, forall_const, forall_eq, ne_eq, exists_eq_right_right, exists_eq_right, exists_eq_left, exists_eq_left', eInt, eBool, lit_eq, he0, he2, he3, upd_same, ej, eInt, eS, eT, List.length_set, gS]
    refine ⟨by omega, by omega, by omega, by omega, by omega, by omega, by omega, by omega, _, by omega, i + 1, (cs.set i (nth cs (L.length - 1 - i))).set (L.length - 1 - i) (nth cs i), by omega, by omega, rfl, by omega, by omega, rfl, by rw [List.length_set, List.length_set]; exact hcl, fun k hk => ?_⟩
    rw [nth_set _ _ _ _ (by rw [List.length_set]; omega), nth_set _ _ _ _ (by omega), hcs i (by omega), hcs (L.length - 1 - i) (by omega), hcs k hk]
    by_cases h1 : k = L.length - 1 - i
    · subst h1
      rw [if_pos rfl, if_neg (by omega), if_pos (by omega)]
      congr 1; omega
    · rw [if_neg h1]
      by_cases h2 : k = i
      · subst h2
        rw [if_pos rfl, if_neg (by omega), if_pos (by omega)]
      · rw [if_neg h2]
        by_cases h3 : k < i ∨ L.length ≤ k + i
        · rw [if_pos h3, if_pos (by omega)]
        · rw [if_neg h3, if_neg (by omega)]
  · simp -dsimp -implicitDefEqProofs (disch := omega) only [VCA, pg_gl, ↓upd_none, Nat.reduceEqDiff, Nat.reduceBEq, Nat.reduceAdd, Nat.reduceSub, Nat.reduceMul, Nat.reduceLT, Nat.reduceLeDiff, ↓reduceIte, reduceCtorEq, rsOf, rootsOf, SOp.rd, SI.rd, SX.rd, rdL, rdO, rdP, okParts, eqCells, okEqCells, fillA, okFill, setAt, implies_true, forall_const, forall_eq, ne_eq, exists_eq_right_right, exists_eq_right, exists_eq_left, exists_eq_left', eInt, eBool, lit_eq, he0]
    have : cs = L.reverse := by
      refine ext_nth (by rw [List.length_reverse]; exact hcl) fun k hk => ?_
      rw [hcs k (by omega)]
      have e : nth L.reverse k = nth L (L.length - 1 - k) := by
        unfold nth
        rw [List.getD_eq_getElem?_getD, List.getD_eq_getElem?_getD, List.getElem?_reverse (by omega)]
      rw [e]
      split
      · rfl
      · rename_i h3
        have : L.length - 1 - k = k := by omega
        rw [this]
    subst this
    exact Sub.refl _
section
variable {d : HDoc}
end
def c77 : SFun := ⟨(.seq (.reg [⟨(some 4), (.mv (.c (.int .i64 (0)))), none⟩]) (.seq (.seq (.reg [⟨(some 6), (.mv (.t 0)), none⟩, ⟨(some 7), (.len (.t 6)), none⟩, ⟨(some 8), (.mv (.c (.int .i64 (0)))), none⟩]) (.block 0 (.loop (.seq (.reg [⟨(some 9), (.bin .lss (.t 8) (.t 7)), none⟩]) (.seq (.cond (.t 9) .skip (.exit 0)) (.seq (.block 1 (.seq (.reg [⟨(some 10), (.mv (.t 8)), none⟩, ⟨(some 5), (.mv (.t 10)), none⟩]) (.seq (.reg [⟨(some 11), (.mv (.t 1)), none⟩, ⟨(some 12), (.mv (.t 0)), none⟩, ⟨(some 13), (.mv (.t 5)), none⟩, ⟨(some 14), (.idxA 1 (.t 12) (.t 13)), none⟩, ⟨(some 15), (.ld 1 false (.t 14)), none⟩, ⟨(some 16), (.bin .eql (.t 11) (.t 15)), none⟩]) (.cond (.t 16) (.seq (.reg [⟨(some 17), (.mv (.t 5)), none⟩, ⟨(some 4), (.mv (.t 17)), none⟩]) .ret) .skip)))) (.reg [⟨(some 18), (.bin .add (.t 8) (.c (.int .i64 (1)))), none⟩, ⟨(some 8), (.mv (.t 18)), none⟩]))))))) (.seq (.reg [⟨(some 4), (.mv (.c (.int .i64 (-1)))), none⟩]) .ret))), [(.tmp 4)]⟩
theorem hc77 : toSF Tryd.prog {} Tryd.f77 = some c77 := by kernel_rfl
theorem hn77 : (Tryd.f77.name == "runtime.NumGoroutine") = false := by kernel_rfl
theorem hasII_ok (l : List Int) (x : Int) (hl : l.length ≤ 1073741824) : PCalls (Pg G) 77 [sl eInt l, aInt x] (aInt (idxM (· == x) l)) := by
  intro h
  refine dcalls_of_vc Tryd.func77 hn77 hc77 (by rw [Tryd.ntmps77]; simp) (by rw [Tryd.ntmps77]; decide) ?_
  simp -dsimp -implicitDefEqProofs (disch := omega) only [VCA, pg_gl, ↓upd_none, Nat.reduceEqDiff, Nat.reduceBEq, Nat.reduceAdd, Nat.reduceSub, Nat.reduceMul, Nat.reduceLT, Nat.reduceLeDiff, ↓reduceIte, reduceCtorEq, rsOf, rootsOf, SOp.rd, SI.rd, SX.rd, rdL, rdO, rdP, okParts, eqCells, okEqCells, fillA, okFill, setAt, implies_true, forall_const, forall_eq, ne_eq, exists_eq_right_right, exists_eq_right, exists_eq_left, exists_eq_left', eInt, eBool, lit_eq, c77]
  refine LoopVC.intro (fun m e h' => ∃ k : Nat, k ≤ l.length ∧ m = l.length - k ∧ e 0 = sl eInt l ∧ e 1 = aInt x ∧ e 7 = aInt l.length ∧ e 8 = aInt k ∧ h' = h ∧ ∀ j, j < k → (nth l j == x) = false) l.length ⟨0, by omega, by omega, rfl, rfl, rfl, rfl, rfl, fun j hj => absurd hj (Nat.not_lt_zero j)⟩ ?_
  rintro m e h' ⟨k, hk, rfl, he0, he1, he7, he8, rfl, hj⟩
  simp -dsimp -implicitDefEqProofs (disch := omega) only [VCA, pg_gl, ↓upd_none, Nat.reduceEqDiff, Nat.reduceBEq, Nat.reduceAdd, Nat.reduceSub, Nat.reduceMul, Nat.reduceLT, Nat.reduceLeDiff, ↓reduceIte, reduceCtorEq, rsOf, rootsOf, SOp.rd, SI.rd, SX.rd, rdL, rdO, rdP, okParts, eqCells, okEqCells, fillA, okFill, setAt, implies_true, forall_const, forall_eq, ne_eq, exists_eq_right_right, exists_eq_right, exists_eq_left, exists_eq_left', eInt, eBool, lit_eq, he0, he1, he7, he8]
  refine Br.dec (fun hlt => ?_) (fun hge => ?_)
  · simp -dsimp -implicitDefEqProofs (disch := omega) only [VCA, pg_gl, ↓upd_none, Nat.reduceEqDiff, Nat.reduceBEq, Nat.reduceAdd, Nat.reduceSub, Nat.reduceMul, Nat.reduceLT, Nat.reduceLeDiff, ↓reduceIte, reduceCtorEq, rsOf, rootsOf, SOp.rd, SI.rd, SX.rd, rdL, rdO, rdP, okParts, eqCells, okEqCells, fillA, okFill, setAt, implies_true, forall_const, forall_eq, ne_eq, exists_eq_right_right, exists_eq_right, exists_eq_left, exists_eq_left', eInt, eBool, lit_eq, he0, he1, he7, he8]
    refine ⟨by omega, Br.eq (fun ht => ?_) (fun hf => ?_)⟩
    · simp -dsimp -implicitDefEqProofs (disch := omega) only [VCA, pg_gl, ↓upd_none, Nat.reduceEqDiff, Nat.reduceBEq, Nat.reduceAdd, Nat.reduceSub, Nat.reduceMul, Nat.reduceLT, Nat.reduceLeDiff, ↓reduceIte, reduceCtorEq, rsOf, rootsOf, SOp.rd, SI.rd, SX.rd, rdL, rdO, rdP, okParts, eqCells, okEqCells, fillA, okFill, setAt, implies_true, forall_const, forall_eq, ne_eq, exists_eq_right_right, exists_eq_right, exists_eq_left, exists_eq_left', eInt, eBool, lit_eq]
      rw [idxM_some (k := k) (by omega) hj (by simp [ht])]; exact ⟨Sub.refl _, rfl⟩
    · simp -dsimp -implicitDefEqProofs (disch := omega) only [VCA, pg_gl, ↓upd_none, Nat.reduceEqDiff, Nat.reduceBEq, Nat.reduceAdd, Nat.reduceSub, Nat.reduceMul, Nat.reduceLT, Nat.reduceLeDiff, ↓reduceIte, reduceCtorEq, rsOf, rootsOf, SOp.rd, SI.rd, SX.rd, rdL, rdO, rdP, okParts, eqCells, okEqCells, fillA, okFill, setAt, implies_true, forall_const, forall_eq, ne_eq, exists_eq_right_right, exists_eq_right, exists_eq_left, exists_eq_left', eInt, eBool, lit_eq, he0, he1, he7, he8]
      refine ⟨_, ?_, k + 1, by omega, rfl, by omega, fun j hj' => ?_⟩
      · omega
      · by_cases h1 : j = k
        · subst h1; simpa using fun e => hf e.symm
        · exact hj j (by omega)
  · simp -dsimp -implicitDefEqProofs (disch := omega) only [VCA, pg_gl, ↓upd_none, Nat.reduceEqDiff, Nat.reduceBEq, Nat.reduceAdd, Nat.reduceSub, Nat.reduceMul, Nat.reduceLT, Nat.reduceLeDiff, ↓reduceIte, reduceCtorEq, rsOf, rootsOf, SOp.rd, SI.rd, SX.rd, rdL, rdO, rdP, okParts, eqCells, okEqCells, fillA, okFill, setAt, implies_true, forall_const, forall_eq, ne_eq, exists_eq_right_right, exists_eq_right, exists_eq_left, exists_eq_left', eInt, eBool, lit_eq]
    rw [idxM_none (fun j hj' => hj j (by omega))]; exact ⟨Sub.refl _, rfl⟩
theorem idxM_le (l : List Int) (x : Int) : -1 ≤ idxM (· == x) l ∧ idxM (· == x) l < l.length ∧ (0 ≤ idxM (· == x) l → nth l (idxM (· == x) l).toNat = x) := by
  unfold idxM
  split
  · rename_i i hi
    rw [List.findIdx?_eq_some_iff_getElem] at hi
    obtain ⟨h1, h2, _⟩ := hi
    refine ⟨by omega, by omega, fun _ => ?_⟩
    have : nth l i = l[i] := by unfold nth; rw [List.getD_eq_getElem?_getD, List.getElem?_eq_getElem h1]; rfl
    rw [Int.toNat_natCast, this]; simpa using h2
  · refine ⟨by omega, by omega, fun h => by omega⟩
end Go.Proofs.K
end
section
/- Ways through a tree: check, Step; the reference. -/
set_option linter.unusedSimpArgs false
set_option linter.unusedVariables false
namespace Go.Proofs.K
open Go Go.Sim Go.Proofs
variable {G : Glob}
theorem eDoc_len (d : HDoc) : (eDoc d).length = 2 := rfl
theorem eDoc_take (d : HDoc) : (eDoc d).take 2 = eDoc d := rfl
theorem docE_DV {d : HDoc} (h : docE d = 0) : DV d := (docE_iff d).1 h
end Go.Proofs.K
end
section
/- Ways through a tree: the reference's WalkStep; Common; what must be in any case. -/
set_option linter.unusedSimpArgs false
set_option linter.unusedVariables false
namespace Go.Proofs.K
open Go Go.Sim Go.Proofs
variable {G : Glob}
section
variable {d : HDoc} {n : Int} {A B : List Int}
end
/-! ## the common node -/
/-- a result's weaker reading -/
theorem DCalls.res {P : PG} {f : Nat} {args : List AVal} {h : Heap} {K K' : AVal → Heap → Prop} (hd : DCalls P f args h K) (hk : ∀ a h', K a h' → ∃ b, Wk a b ∧ K' b h') : DCalls P f args h K' :=
  ⟨hd.1, fun g w vs H GR V => (hd.2 g w vs H GR V).mono fun e w' ⟨v', a, h', g', he, k0, H', Va, S⟩ => by
    obtain ⟨b, hb, k1⟩ := hk a h' k0
    exact ⟨v', b, h', g', he, k1, H', hb.rel Va, S⟩⟩
def oneD : HDoc := ⟨[⟨1, [], [], [], -1, [1]⟩, ⟨2, [112], [⟨[97], [34]⟩], [], 0, [2]⟩, ⟨3, [], [], [60, 10], 1, []⟩], false⟩
theorem oneD_sm : DocSm oneD := ⟨by decide, by
  intro x hx
  have : x = ⟨1, [], [], [], -1, [1]⟩ ∨ x = ⟨2, [112], [⟨[97], [34]⟩], [], 0, [2]⟩ ∨ x = ⟨3, [], [], [60, 10], 1, []⟩ := by simpa [oneD] using hx
  rcases this with rfl | rfl | rfl <;> exact ⟨by decide, by decide, by decide, by decide, by decide⟩⟩
def c75 : SFun := ⟨(.seq (.reg [⟨(some 0), (.new 24 2 [.emp, (.bool false)]), none⟩]) (.seq (.reg [⟨(some 1), (.bldF 3 1 [(.c (.int .i64 (1)))]), none⟩, ⟨(some 2), (.bld [(.int .i64 (0)), (.str []), .emp, (.str []), (.int .i64 (0)), .emp] [(0, (1, (.c (.int .i64 (1))))), (4, (1, (.c (.int .i64 (-1))))), (5, (1, (.t 1)))]), none⟩, ⟨(some 3), (.bld [(.str []), (.str [])] [(0, (1, (.c (.str [97])))), (1, (1, (.c (.str [34]))))]), none⟩, ⟨(some 4), (.bldF 122 2 [(.t 3)]), none⟩, ⟨(some 5), (.bldF 3 1 [(.c (.int .i64 (2)))]), none⟩, ⟨(some 6), (.bld [(.int .i64 (0)), (.str []), .emp, (.str []), (.int .i64 (0)), .emp] [(0, (1, (.c (.int .i64 (2))))), (1, (1, (.c (.str [112])))), (2, (1, (.t 4))), (5, (1, (.t 5)))]), none⟩, ⟨(some 7), (.bld [(.int .i64 (0)), (.str []), .emp, (.str []), (.int .i64 (0)), .emp] [(0, (1, (.c (.int .i64 (3))))), (3, (1, (.c (.str [60, 10])))), (4, (1, (.c (.int .i64 (1)))))]), none⟩, ⟨(some 8), (.bldF 43 6 [(.t 2), (.t 6), (.t 7)]), none⟩, ⟨(some 9), (.bld [.emp, (.bool false)] [(0, (1, (.t 8)))]), none⟩, ⟨none, (.st 2 (.t 0) (.t 9)), none⟩]) .ret)), [(.cell 0 2 true)]⟩
theorem hc75 : toSF Tryd.prog {} Tryd.f75 = some c75 := by kernel_rfl
theorem hn75 : (Tryd.f75.name == "runtime.NumGoroutine") = false := by kernel_rfl
theorem oneP_ok : PCalls (Pg G) 75 [] (.agg (eDoc oneD)) := fun h => by
  refine DCalls.res (K := fun a h' => a = .agg [.slc [[.int .i64 1, .str [], .emp, .str [], .int .i64 (-1), .slc [[.int .i64 1]]], [.int .i64 2, .str [112], .slc [[.str [97], .str [34]]], .str [], .int .i64 0, .slc [[.int .i64 2]]], [.int .i64 3, .str [], .emp, .str [60, 10], .int .i64 1, .emp]], .bool false] ∧ h' = h) ?_ ?_
  · refine dcalls_of_vc Tryd.func75 hn75 hc75 (by rw [Tryd.ntmps75]; simp) (by rw [Tryd.ntmps75]; decide) ?_
    simp -dsimp -implicitDefEqProofs (disch := omega) only [VCA, pg_gl, ↓upd_none, Nat.reduceEqDiff, Nat.reduceBEq, Nat.reduceAdd, Nat.reduceSub, Nat.reduceMul, Nat.reduceLT, Nat.reduceLeDiff, ↓reduceIte, reduceCtorEq, rsOf, rootsOf, SOp.rd, SI.rd, SX.rd, rdL, rdO, rdP, okParts, eqCells, okEqCells, fillA, okFill, setAt, implies_true, forall_const, forall_eq, ne_eq, exists_eq_right_right, exists_eq_right, exists_eq_left, exists_eq_left', eInt, eBool, lit_eq, c75]
    intro r hr
    exact (Sub.refl _).upd hr
  · rintro a h' ⟨rfl, rfl⟩
    exact ⟨_, Wk.agg' (.cons (Wk.slc' (.cons (.cons (.refl _) (.cons (.refl _) (.cons .emp (.cons (.refl _) (.cons (.refl _) (.cons (.refl _) .nil)))))) (.cons (.cons (.refl _) (.cons (.refl _) (.cons (.refl _) (.cons (.refl _) (.cons (.refl _) (.cons (.refl _) .nil)))))) (.cons (.cons (.refl _) (.cons (.refl _) (.cons .emp (.cons (.refl _) (.cons (.refl _) (.cons .emp .nil)))))) .nil)))) (.cons (.refl _) .nil)), rfl, rfl⟩
end Go.Proofs.K
end
section
/- Ways through a tree: the law of Step. -/
set_option linter.unusedSimpArgs false
set_option linter.unusedVariables false
namespace Go.Proofs.K
open Go Go.Sim Go.Proofs
variable {G : Glob}
theorem eDoc_drop (d : HDoc) : (eDoc d).drop 2 = [] := rfl
def c3 : SFun := ⟨(.seq (.reg [⟨(some 3), (.box 24 2 (.t 0)), none⟩, ⟨(some 6), (.mv (.c (.bool false))), none⟩]) (.seq (.reg [⟨(some 12), (.ld 2 true (.t 3)), none⟩, ⟨(some 13), (.pcall 15 [(.t 12), (.c (.int .i64 (60)))]), none⟩, ⟨none, (.st 2 (.t 3) (.t 13)), none⟩]) (.seq (.reg [⟨(some 15), (.ld 2 true (.t 3)), none⟩, ⟨(some 16), (.mv (.t 1)), none⟩, ⟨(some 17), (.mv (.t 2)), none⟩, ⟨(some 18), (.pcall 16 [(.t 15), (.t 16), (.t 17)]), none⟩, ⟨(some 14), (.mv (.t 18)), none⟩, ⟨(some 19), (.ext (.t 14) 0), none⟩, ⟨(some 20), (.ext (.t 14) 1), none⟩, ⟨(some 21), (.ext (.t 14) 2), none⟩, ⟨(some 7), (.mv (.t 19)), none⟩, ⟨(some 8), (.mv (.t 20)), none⟩, ⟨(some 9), (.mv (.t 21)), none⟩]) (.seq (.reg [⟨(some 22), (.ld 2 true (.t 3)), none⟩, ⟨(some 23), (.pcall 17 [(.t 22)]), none⟩, ⟨(some 10), (.mv (.t 23)), none⟩, ⟨(some 11), (.mv (.c (.int .i64 (-1)))), none⟩]) (.seq (.seq (.reg [⟨(some 24), (.mv (.t 10)), none⟩, ⟨(some 25), (.bin .eql (.t 24) (.c (.int .i64 (0)))), none⟩, ⟨(some 26), (.mv (.t 25)), none⟩, ⟨(some 27), (.mv (.t 2)), (some (26, true))⟩, ⟨(some 28), (.bin .lss (.t 27) (.c (.int .i64 (1)))), (some (26, true))⟩, ⟨(some 29), (.mv (.t 28)), (some (26, true))⟩, ⟨(some 30), (.mv (.t 2)), (some (29, false))⟩, ⟨(some 31), (.bin .gtr (.t 30) (.c (.int .i64 (8)))), (some (29, false))⟩, ⟨(some 32), (.pick (.t 29) (.c (.bool true)) (.t 31)), (some (26, true))⟩, ⟨(some 33), (.pick (.t 26) (.t 32) (.c (.bool false))), none⟩]) (.cond (.t 33) (.reg [⟨(some 10), (.mv (.c (.int .i64 (1)))), none⟩]) .skip)) (.seq (.seq (.reg [⟨(some 34), (.mv (.t 10)), none⟩, ⟨(some 35), (.bin .eql (.t 34) (.c (.int .i64 (0)))), none⟩]) (.cond (.t 35) (.reg [⟨(some 36), (.ld 2 true (.t 3)), none⟩, ⟨(some 37), (.mv (.t 1)), none⟩, ⟨(some 38), (.bldF 3 1 [(.t 37)]), none⟩, ⟨(some 39), (.pcall 18 [(.t 36), (.t 38)]), none⟩, ⟨(some 10), (.mv (.t 39)), none⟩]) .skip)) (.seq (.seq (.reg [⟨(some 40), (.mv (.t 10)), none⟩, ⟨(some 41), (.bin .eql (.t 40) (.c (.int .i64 (0)))), none⟩]) (.cond (.t 41) (.reg [⟨(some 42), (.ld 2 true (.t 3)), none⟩, ⟨(some 43), (.mv (.t 1)), none⟩, ⟨(some 44), (.mv (.t 2)), none⟩, ⟨(some 45), (.pcall 19 [(.t 42), (.t 43), (.t 44)]), none⟩, ⟨(some 11), (.mv (.t 45)), none⟩]) .skip)) (.seq (.reg [⟨(some 46), (.pcall 20 []), none⟩, ⟨(some 47), (.mv (.t 46)), none⟩, ⟨(some 48), (.mv (.t 7)), (some (47, true))⟩, ⟨(some 49), (.mv (.t 11)), (some (47, true))⟩, ⟨(some 50), (.max2 (.t 49) (.c (.int .i64 (0)))), (some (47, true))⟩, ⟨(some 51), (.bin .eql (.t 48) (.t 50)), (some (47, true))⟩, ⟨(some 52), (.pick (.t 47) (.t 51) (.c (.bool false))), none⟩, ⟨(some 53), (.mv (.t 52)), none⟩, ⟨(some 54), (.mv (.t 8)), (some (53, true))⟩, ⟨(some 55), (.mv (.t 11)), (some (53, true))⟩, ⟨(some 56), (.bin .geq (.t 55) (.c (.int .i64 (0)))), (some (53, true))⟩, ⟨(some 57), (.eqb false (.t 54) (.t 56)), (some (53, true))⟩, ⟨(some 58), (.pick (.t 53) (.t 57) (.c (.bool false))), none⟩, ⟨(some 59), (.mv (.t 58)), none⟩, ⟨(some 60), (.mv (.t 9)), (some (59, true))⟩, ⟨(some 61), (.mv (.t 10)), (some (59, true))⟩, ⟨(some 62), (.bin .eql (.t 60) (.t 61)), (some (59, true))⟩, ⟨(some 63), (.pick (.t 59) (.t 62) (.c (.bool false))), none⟩, ⟨(some 6), (.mv (.t 63)), none⟩]) .ret)))))))), [(.tmp 6)]⟩
end Go.Proofs.K
end
section
/- Ways through a tree: pairs of nodes, plain law. -/
set_option linter.unusedSimpArgs false
set_option linter.unusedVariables false
namespace Go.Proofs.K
open Go Go.Sim Go.Proofs
section
variable {d : HDoc}
def path (d : HDoc) (n : Int) : List Int := (chain d n).reverse
theorem path_len (V : DV d) {n : Int} (hn : inD d n) : (path d n).length = up d n + 1 := by unfold path; rw [List.length_reverse, chain_len V n hn]
theorem path_up (V : DV d) {n : Int} (hn : inD d n) (hp : 0 ≤ (nd d n).parent) : path d n = path d (nd d n).parent ++ [n] := by unfold path; rw [chain_up V hn hp, List.reverse_cons]
theorem path_top (V : DV d) {n : Int} (hp : ¬ 0 ≤ (nd d n).parent) : path d n = [n] := by unfold path; rw [chain_top V hp]; rfl
theorem nth_snoc_lt {l : List Int} {x : Int} {j : Nat} (h : j < l.length) : nth (l ++ [x]) j = nth l j := by
  unfold nth; rw [List.getD_eq_getElem?_getD, List.getElem?_append_left h, ← List.getD_eq_getElem?_getD]
theorem nth_snoc_eq {l : List Int} {x : Int} : nth (l ++ [x]) l.length = x := by simp [nth, List.getD_eq_getElem?_getD]
theorem path_at (V : DV d) : ∀ n, inD d n → ∀ j, j ≤ up d n → nth (path d n) j ∈ chain d n ∧ up d (nth (path d n) j) = j := V.rise fun n hn ih j hj => by
  by_cases hp : 0 ≤ (nd d n).parent
  · have hu := V.up_par hn hp
    have hl := path_len V (V.par_in hn hp).1
    rw [path_up V hn hp]
    by_cases h1 : j = up d n
    · have : j = (path d (nd d n).parent).length := by omega
      rw [this, nth_snoc_eq]; exact ⟨chain_self _ _, by omega⟩
    · obtain ⟨h2, h3⟩ := ih hp j (by omega)
      rw [nth_snoc_lt (by omega)]
      exact ⟨by rw [chain_up V hn hp]; exact List.mem_cons_of_mem _ h2, h3⟩
  · have hu := V.up_top hp
    obtain rfl : j = 0 := by omega
    rw [path_top V hp]; exact ⟨chain_self _ _, hu⟩
/-- where the ways down to two nodes part -/
structure Part (d : HDoc) (a b : Int) (i : Nat) : Prop where
  pos : 1 ≤ i
  la : i ≤ (path d a).length
  lb : i ≤ (path d b).length
  eq : ∀ j, j < i → nth (path d a) j = nth (path d b) j
  ne : ¬ (i < (path d a).length ∧ i < (path d b).length ∧ nth (path d a) i = nth (path d b) i)
variable {a b : Int} {i : Nat}
theorem Part.node (V : DV d) (ha : inD d a) (hb : inD d b) (p : Part d a b i) : nth (path d a) (i - 1) ∈ chain d a ∧ nth (path d a) (i - 1) ∈ chain d b ∧ up d (nth (path d a) (i - 1)) = i - 1 := by
  have h1 := path_at V a ha (i - 1) (by have := p.la; rw [path_len V ha] at this; omega)
  have h2 := path_at V b hb (i - 1) (by have := p.lb; rw [path_len V hb] at this; omega)
  exact ⟨h1.1, by rw [p.eq _ (by have := p.pos; omega)]; exact h2.1, h1.2⟩
end
end Go.Proofs.K
end
section
/- Ways through a tree: Before, Within, Common, Place. -/
set_option linter.unusedSimpArgs false
set_option linter.unusedVariables false
namespace Go.Proofs.K
open Go Go.Sim Go.Proofs
variable {G : Glob}
theorem par_of {d : HDoc} (V : DV d) {a : Int} (ha : inD d a) (h0 : 0 ∈ chain d a) (hne : a ≠ 0) : 0 ≤ (nd d a).parent := Classical.byContradiction fun hp => by
  rw [chain_top V hp] at h0
  simp at h0
  exact hne h0.symm
end Go.Proofs.K
end
section
/- Ways through a tree: the law of pairs. -/
set_option linter.unusedSimpArgs false
set_option linter.unusedVariables false
namespace Go.Proofs.K
open Go Go.Sim Go.Proofs
variable {G : Glob}
theorem nodup_at {l : List Int} (hn : l.Nodup) {k : Nat} (hk : k < l.length) : idxM (· == nth l k) l = k := by
  have e : l = l.take k ++ nth l k :: l.drop (k + 1) := by
    have : nth l k = l[k] := by unfold nth; rw [List.getD_eq_getElem?_getD, List.getElem?_eq_getElem hk]; rfl
    rw [this, List.getElem_cons_drop, List.take_append_drop]
  rw [idx_nodup hn e, List.length_take, Nat.min_eq_left (by omega)]
def c4_s10 : SCode := (.seq (.reg [⟨(some 118), (.pcall 20 []), none⟩, ⟨(some 119), (.mv (.t 118)), none⟩, ⟨(some 120), (.mv (.t 7)), (some (119, true))⟩, ⟨(some 121), (.mv (.t 17)), (some (119, true))⟩, ⟨(some 122), (.eqb false (.t 120) (.t 121)), (some (119, true))⟩, ⟨(some 123), (.pick (.t 119) (.t 122) (.c (.bool false))), none⟩, ⟨(some 124), (.mv (.t 123)), none⟩, ⟨(some 125), (.mv (.t 8)), (some (124, true))⟩, ⟨(some 126), (.mv (.t 15)), (some (124, true))⟩, ⟨(some 127), (.bin .eql (.t 125) (.t 126)), (some (124, true))⟩, ⟨(some 128), (.pick (.t 124) (.t 127) (.c (.bool false))), none⟩, ⟨(some 129), (.mv (.t 128)), none⟩, ⟨(some 130), (.mv (.t 9)), (some (129, true))⟩, ⟨(some 131), (.mv (.t 18)), (some (129, true))⟩, ⟨(some 132), (.eqb false (.t 130) (.t 131)), (some (129, true))⟩, ⟨(some 133), (.pick (.t 129) (.t 132) (.c (.bool false))), none⟩, ⟨(some 134), (.mv (.t 133)), none⟩, ⟨(some 135), (.mv (.t 10)), (some (134, true))⟩, ⟨(some 136), (.mv (.t 15)), (some (134, true))⟩, ⟨(some 137), (.bin .eql (.t 135) (.t 136)), (some (134, true))⟩, ⟨(some 138), (.pick (.t 134) (.t 137) (.c (.bool false))), none⟩, ⟨(some 139), (.mv (.t 138)), none⟩, ⟨(some 140), (.mv (.t 11)), (some (139, true))⟩, ⟨(some 141), (.mv (.t 19)), (some (139, true))⟩, ⟨(some 142), (.bin .eql (.t 140) (.t 141)), (some (139, true))⟩, ⟨(some 143), (.pick (.t 139) (.t 142) (.c (.bool false))), none⟩, ⟨(some 144), (.mv (.t 143)), none⟩, ⟨(some 145), (.mv (.t 12)), (some (144, true))⟩, ⟨(some 146), (.mv (.t 15)), (some (144, true))⟩, ⟨(some 147), (.bin .eql (.t 145) (.t 146)), (some (144, true))⟩, ⟨(some 148), (.pick (.t 144) (.t 147) (.c (.bool false))), none⟩, ⟨(some 149), (.mv (.t 148)), none⟩, ⟨(some 150), (.mv (.t 13)), (some (149, true))⟩, ⟨(some 151), (.mv (.t 20)), (some (149, true))⟩, ⟨(some 152), (.bin .eql (.t 150) (.t 151)), (some (149, true))⟩, ⟨(some 153), (.pick (.t 149) (.t 152) (.c (.bool false))), none⟩, ⟨(some 154), (.mv (.t 153)), none⟩, ⟨(some 155), (.mv (.t 14)), (some (154, true))⟩, ⟨(some 156), (.mv (.t 16)), (some (154, true))⟩, ⟨(some 157), (.bin .eql (.t 155) (.t 156)), (some (154, true))⟩, ⟨(some 158), (.pick (.t 154) (.t 157) (.c (.bool false))), none⟩, ⟨(some 6), (.mv (.t 158)), none⟩]) .ret)
def c4_s9 : SCode := (.seq (.seq (.reg [⟨(some 90), (.mv (.t 16)), none⟩, ⟨(some 91), (.bin .eql (.t 90) (.c (.int .i64 (0)))), none⟩, ⟨(some 92), (.mv (.t 91)), none⟩, ⟨(some 93), (.mv (.t 1)), (some (92, true))⟩, ⟨(some 94), (.bin .gtr (.t 93) (.c (.int .i64 (0)))), (some (92, true))⟩, ⟨(some 95), (.pick (.t 92) (.t 94) (.c (.bool false))), none⟩]) (.cond (.t 95) (.seq (.dreg [(⟨(some 96), (.fldA 0 (.t 3)), none⟩, none), (⟨(some 97), (.ld 1 false (.t 96)), none⟩, none), (⟨(some 98), (.fldA 0 (.t 3)), none⟩, none), (⟨(some 99), (.ld 1 false (.t 98)), none⟩, none), (⟨(some 100), (.mv (.t 1)), none⟩, none), (⟨(some 101), (.idxA 6 (.t 99) (.t 100)), none⟩, none), (⟨(some 102), (.fldA 4 (.t 101)), none⟩, none), (⟨(some 103), (.ld 1 false (.t 102)), none⟩, none), (⟨(some 104), (.idxA 6 (.t 97) (.t 103)), none⟩, none), (⟨(some 105), (.fldA 5 (.t 104)), none⟩, none), (⟨(some 106), (.ld 1 false (.t 105)), none⟩, none), (⟨(some 107), (.len (.t 106)), none⟩, none), (⟨(some 108), (.mv (.c (.int .i64 (0)))), none⟩, none)]) (.block 2 (.loop (.seq (.reg [⟨(some 109), (.bin .lss (.t 108) (.t 107)), none⟩]) (.seq (.cond (.t 109) .skip (.exit 2)) (.seq (.block 3 (.seq (.reg [⟨(some 110), (.mv (.t 108)), none⟩, ⟨(some 111), (.idxA 1 (.t 106) (.t 108)), none⟩, ⟨(some 112), (.ld 1 false (.t 111)), none⟩, ⟨(some 23), (.mv (.t 110)), none⟩, ⟨(some 24), (.mv (.t 112)), none⟩]) (.seq (.reg [⟨(some 113), (.mv (.t 24)), none⟩, ⟨(some 114), (.mv (.t 1)), none⟩, ⟨(some 115), (.bin .eql (.t 113) (.t 114)), none⟩]) (.cond (.t 115) (.reg [⟨(some 116), (.mv (.t 23)), none⟩, ⟨(some 20), (.mv (.t 116)), none⟩]) .skip)))) (.reg [⟨(some 117), (.bin .add (.t 108) (.c (.int .i64 (1)))), none⟩, ⟨(some 108), (.mv (.t 117)), none⟩]))))))) .skip)) c4_s10)
def c4_s8 : SCode := (.seq (.seq (.reg [⟨(some 63), (.mv (.t 15)), none⟩, ⟨(some 64), (.bin .eql (.t 63) (.c (.int .i64 (0)))), none⟩]) (.cond (.t 64) (.seq (.seq (.reg [⟨(some 65), (.ld 2 true (.t 3)), none⟩, ⟨(some 66), (.pcall 25 [(.t 65), (.c (.int .i64 (0)))]), none⟩, ⟨(some 67), (.len (.t 66)), none⟩, ⟨(some 68), (.mv (.c (.int .i64 (0)))), none⟩]) (.block 0 (.loop (.seq (.reg [⟨(some 69), (.bin .lss (.t 68) (.t 67)), none⟩]) (.seq (.cond (.t 69) .skip (.exit 0)) (.seq (.block 1 (.seq (.reg [⟨(some 70), (.idxA 1 (.t 66) (.t 68)), none⟩, ⟨(some 71), (.ld 1 false (.t 70)), none⟩, ⟨(some 22), (.mv (.t 71)), none⟩]) (.seq (.seq (.reg [⟨(some 72), (.mv (.t 22)), none⟩, ⟨(some 73), (.mv (.t 2)), none⟩, ⟨(some 74), (.bin .eql (.t 72) (.t 73)), none⟩]) (.cond (.t 74) (.exit 0) .skip)) (.reg [⟨(some 75), (.mv (.t 17)), none⟩, ⟨(some 76), (.mv (.t 75)), none⟩, ⟨(some 77), (.mv (.t 22)), (some (76, false))⟩, ⟨(some 78), (.mv (.t 1)), (some (76, false))⟩, ⟨(some 79), (.bin .eql (.t 77) (.t 78)), (some (76, false))⟩, ⟨(some 80), (.pick (.t 76) (.c (.bool true)) (.t 79)), none⟩, ⟨(some 17), (.mv (.t 80)), none⟩])))) (.reg [⟨(some 81), (.bin .add (.t 68) (.c (.int .i64 (1)))), none⟩, ⟨(some 68), (.mv (.t 81)), none⟩]))))))) (.dreg [(⟨(some 82), (.ld 2 true (.t 3)), none⟩, none), (⟨(some 83), (.mv (.t 1)), none⟩, none), (⟨(some 84), (.mv (.t 2)), none⟩, none), (⟨(some 85), (.pcall 26 [(.t 82), (.t 83), (.t 84)]), none⟩, none), (⟨(some 86), (.ld 2 true (.t 3)), none⟩, none), (⟨(some 87), (.mv (.t 1)), none⟩, none), (⟨(some 88), (.mv (.t 2)), none⟩, none), (⟨(some 89), (.pcall 27 [(.t 86), (.t 87), (.t 88)]), none⟩, none), (⟨(some 18), (.mv (.t 85)), none⟩, none), (⟨(some 19), (.mv (.t 89)), none⟩, none)])) .skip)) c4_s9)
def c4 : SFun := ⟨(.seq (.reg [⟨(some 3), (.box 24 2 (.t 0)), none⟩, ⟨(some 6), (.mv (.c (.bool false))), none⟩]) (.seq (.reg [⟨(some 25), (.ld 2 true (.t 3)), none⟩, ⟨(some 26), (.pcall 15 [(.t 25), (.c (.int .i64 (60)))]), none⟩, ⟨none, (.st 2 (.t 3) (.t 26)), none⟩]) (.seq (.reg [⟨(some 28), (.ld 2 true (.t 3)), none⟩, ⟨(some 29), (.mv (.t 1)), none⟩, ⟨(some 30), (.mv (.t 2)), none⟩, ⟨(some 31), (.pcall 21 [(.t 28), (.t 29), (.t 30)]), none⟩, ⟨(some 27), (.mv (.t 31)), none⟩, ⟨(some 32), (.ext (.t 27) 0), none⟩, ⟨(some 33), (.ext (.t 27) 1), none⟩, ⟨(some 7), (.mv (.t 32)), none⟩, ⟨(some 8), (.mv (.t 33)), none⟩]) (.seq (.reg [⟨(some 35), (.ld 2 true (.t 3)), none⟩, ⟨(some 36), (.mv (.t 1)), none⟩, ⟨(some 37), (.mv (.t 2)), none⟩, ⟨(some 38), (.pcall 22 [(.t 35), (.t 36), (.t 37)]), none⟩, ⟨(some 34), (.mv (.t 38)), none⟩, ⟨(some 39), (.ext (.t 34) 0), none⟩, ⟨(some 40), (.ext (.t 34) 1), none⟩, ⟨(some 9), (.mv (.t 39)), none⟩, ⟨(some 10), (.mv (.t 40)), none⟩]) (.seq (.reg [⟨(some 42), (.ld 2 true (.t 3)), none⟩, ⟨(some 43), (.mv (.t 1)), none⟩, ⟨(some 44), (.mv (.t 2)), none⟩, ⟨(some 45), (.pcall 23 [(.t 42), (.t 43), (.t 44)]), none⟩, ⟨(some 41), (.mv (.t 45)), none⟩, ⟨(some 46), (.ext (.t 41) 0), none⟩, ⟨(some 47), (.ext (.t 41) 1), none⟩, ⟨(some 11), (.mv (.t 46)), none⟩, ⟨(some 12), (.mv (.t 47)), none⟩]) (.seq (.reg [⟨(some 49), (.ld 2 true (.t 3)), none⟩, ⟨(some 50), (.mv (.t 1)), none⟩, ⟨(some 51), (.pcall 24 [(.t 49), (.t 50)]), none⟩, ⟨(some 48), (.mv (.t 51)), none⟩, ⟨(some 52), (.ext (.t 48) 0), none⟩, ⟨(some 53), (.ext (.t 48) 1), none⟩, ⟨(some 13), (.mv (.t 52)), none⟩, ⟨(some 14), (.mv (.t 53)), none⟩]) (.seq (.dreg [(⟨(some 54), (.ld 2 true (.t 3)), none⟩, none), (⟨(some 55), (.mv (.t 1)), none⟩, none), (⟨(some 56), (.mv (.t 2)), none⟩, none), (⟨(some 57), (.bldF 3 1 [(.t 55), (.t 56)]), none⟩, none), (⟨(some 58), (.pcall 18 [(.t 54), (.t 57)]), none⟩, none), (⟨(some 59), (.ld 2 true (.t 3)), none⟩, none), (⟨(some 60), (.mv (.t 1)), none⟩, none), (⟨(some 61), (.bldF 3 1 [(.t 60)]), none⟩, none), (⟨(some 62), (.pcall 18 [(.t 59), (.t 61)]), none⟩, none), (⟨(some 15), (.mv (.t 58)), none⟩, none), (⟨(some 16), (.mv (.t 62)), none⟩, none)]) (.seq (.reg [⟨(some 17), (.mv (.c (.bool false))), none⟩, ⟨(some 18), (.mv (.c (.bool false))), none⟩, ⟨(some 19), (.mv (.c (.int .i64 (0)))), none⟩, ⟨(some 20), (.mv (.c (.int .i64 (0)))), none⟩]) c4_s8)))))))), [(.tmp 6)]⟩
end Go.Proofs.K
end
section
/- Ranges: paths of points, their order. -/
set_option linter.unusedSimpArgs false
set_option linter.unusedVariables false
namespace Go.Proofs.K
open Go Go.Sim Go.Proofs
variable {G : Glob}
structure HPoint where
  node : Int
  at' : Int
deriving DecidableEq, Inhabited
def eP (p : HPoint) : List AVal := [aInt p.node, aInt p.at']
instance : LenE eP 2 := ⟨fun _ => rfl⟩
structure HSpan where
  a : HPoint
  b : HPoint
deriving DecidableEq, Inhabited
def eS (s : HSpan) : List AVal := [aInt s.a.node, aInt s.a.at', aInt s.b.node, aInt s.b.at']
instance : LenE eS 4 := ⟨fun _ => rfl⟩
def cmpI (a b : Int) : Int := if a < b then -1 else if b < a then 1 else 0
def cmpL : List Int → List Int → Int
  | [], [] => 0
  | [], _ :: _ => -1
  | _ :: _, [] => 1
  | x :: p, y :: q => if cmpI x y ≠ 0 then cmpI x y else cmpL p q
def c146 : SFun := ⟨(.seq (.reg [⟨(some 2), (.mv (.c (.bool false))), none⟩]) (.seq (.reg [⟨(some 3), (.mv (.t 0)), none⟩, ⟨(some 4), (.mv (.t 0)), none⟩, ⟨(some 5), (.bin .neq (.t 3) (.t 4)), none⟩, ⟨(some 2), (.mv (.t 5)), none⟩]) .ret)), [(.tmp 2)]⟩
theorem hc146 : toSF Tryd.prog {} Tryd.f146 = some c146 := by kernel_rfl
theorem hn146 : (Tryd.f146.name == "runtime.NumGoroutine") = false := by kernel_rfl
theorem isNaN_ok (a : Int) : PCalls (Pg G) 146 [aInt a] (.bool false) := fun h => by
  refine dcalls_of_vc Tryd.func146 hn146 hc146 (by rw [Tryd.ntmps146]; simp) (by rw [Tryd.ntmps146]; decide) ?_
  simp -dsimp -implicitDefEqProofs (disch := omega) only [VCA, pg_gl, ↓upd_none, Nat.reduceEqDiff, Nat.reduceBEq, Nat.reduceAdd, Nat.reduceSub, Nat.reduceMul, Nat.reduceLT, Nat.reduceLeDiff, ↓reduceIte, reduceCtorEq, rsOf, rootsOf, SOp.rd, SI.rd, SX.rd, rdL, rdO, rdP, okParts, eqCells, okEqCells, fillA, okFill, setAt, implies_true, forall_const, forall_eq, ne_eq, exists_eq_right_right, exists_eq_right, exists_eq_left, exists_eq_left', eInt, eBool, lit_eq, c146]
  repeat' (first | ((with_reducible refine Br.dec (fun _ => ?_) (fun _ => ?_)) <;> try (exfalso; omega)) | ((with_reducible refine Br.eq (fun _ => ?_) (fun _ => ?_)) <;> try (exfalso; omega)) | ((with_reducible refine Br.ne (fun _ => ?_) (fun _ => ?_)) <;> try (exfalso; omega)) | ((with_reducible refine brNdec (fun _ => ?_) (fun _ => ?_)) <;> try (exfalso; omega)) | ((with_reducible refine brNeq (fun _ => ?_) (fun _ => ?_)) <;> try (exfalso; omega)) | with_reducible refine Br.intro (fun _ => ?_) (fun _ => ?_) | (with_reducible refine And.intro ?_ ?_; · omega) | simp -dsimp -implicitDefEqProofs (disch := omega) only [VCA, pg_gl, ↓upd_none, Nat.reduceEqDiff, Nat.reduceBEq, Nat.reduceAdd, Nat.reduceSub, Nat.reduceMul, Nat.reduceLT, Nat.reduceLeDiff, ↓reduceIte, reduceCtorEq, rsOf, rootsOf, SOp.rd, SI.rd, SX.rd, rdL, rdO, rdP, okParts, eqCells, okEqCells, fillA, okFill, setAt, implies_true, forall_const, forall_eq, ne_eq, exists_eq_right_right, exists_eq_right, exists_eq_left, exists_eq_left', eInt, eBool, lit_eq])
  all_goals first | exact Sub.refl _ | exact ⟨Sub.refl _, by simp⟩
def c126 : SFun := ⟨(.seq (.reg [⟨(some 4), (.mv (.c (.int .i64 (0)))), none⟩]) (.seq (.reg [⟨(some 7), (.mv (.t 0)), none⟩, ⟨(some 8), (.pcall 146 [(.t 7)]), none⟩, ⟨(some 5), (.mv (.t 8)), none⟩]) (.seq (.reg [⟨(some 9), (.mv (.t 1)), none⟩, ⟨(some 10), (.pcall 146 [(.t 9)]), none⟩, ⟨(some 6), (.mv (.t 10)), none⟩]) (.seq (.seq (.reg [⟨(some 11), (.mv (.t 5)), none⟩]) (.cond (.t 11) (.seq (.seq (.reg [⟨(some 12), (.mv (.t 6)), none⟩]) (.cond (.t 12) (.seq (.reg [⟨(some 4), (.mv (.c (.int .i64 (0)))), none⟩]) .ret) .skip)) (.seq (.reg [⟨(some 4), (.mv (.c (.int .i64 (-1)))), none⟩]) .ret)) .skip)) (.seq (.seq (.reg [⟨(some 13), (.mv (.t 6)), none⟩]) (.cond (.t 13) (.seq (.reg [⟨(some 4), (.mv (.c (.int .i64 (1)))), none⟩]) .ret) .skip)) (.seq (.seq (.reg [⟨(some 14), (.mv (.t 0)), none⟩, ⟨(some 15), (.mv (.t 1)), none⟩, ⟨(some 16), (.bin .lss (.t 14) (.t 15)), none⟩]) (.cond (.t 16) (.seq (.reg [⟨(some 4), (.mv (.c (.int .i64 (-1)))), none⟩]) .ret) .skip)) (.seq (.seq (.reg [⟨(some 17), (.mv (.t 0)), none⟩, ⟨(some 18), (.mv (.t 1)), none⟩, ⟨(some 19), (.bin .gtr (.t 17) (.t 18)), none⟩]) (.cond (.t 19) (.seq (.reg [⟨(some 4), (.mv (.c (.int .i64 (1)))), none⟩]) .ret) .skip)) (.seq (.reg [⟨(some 4), (.mv (.c (.int .i64 (0)))), none⟩]) .ret)))))))), [(.tmp 4)]⟩
theorem hc126 : toSF Tryd.prog {pure := [146]} Tryd.f126 = some c126 := by kernel_rfl
theorem hn126 : (Tryd.f126.name == "runtime.NumGoroutine") = false := by kernel_rfl
theorem cmp_ok (a b : Int) : PCalls (Pg G) 126 [aInt a, aInt b] (aInt (cmpI a b)) := fun h => by
  refine dcalls_of_vc Tryd.func126 hn126 hc126 (by rw [Tryd.ntmps126]; simp) (by rw [Tryd.ntmps126]; decide) ?_
  simp -dsimp -implicitDefEqProofs (disch := omega) only [VCA, pg_gl, ↓upd_none, Nat.reduceEqDiff, Nat.reduceBEq, Nat.reduceAdd, Nat.reduceSub, Nat.reduceMul, Nat.reduceLT, Nat.reduceLeDiff, ↓reduceIte, reduceCtorEq, rsOf, rootsOf, SOp.rd, SI.rd, SX.rd, rdL, rdO, rdP, okParts, eqCells, okEqCells, fillA, okFill, setAt, implies_true, forall_const, forall_eq, ne_eq, exists_eq_right_right, exists_eq_right, exists_eq_left, exists_eq_left', eInt, eBool, lit_eq, c126]
  repeat' (first | ((with_reducible refine Br.dec (fun _ => ?_) (fun _ => ?_)) <;> try (exfalso; omega)) | ((with_reducible refine Br.eq (fun _ => ?_) (fun _ => ?_)) <;> try (exfalso; omega)) | ((with_reducible refine Br.ne (fun _ => ?_) (fun _ => ?_)) <;> try (exfalso; omega)) | ((with_reducible refine brNdec (fun _ => ?_) (fun _ => ?_)) <;> try (exfalso; omega)) | ((with_reducible refine brNeq (fun _ => ?_) (fun _ => ?_)) <;> try (exfalso; omega)) | with_reducible refine Br.intro (fun _ => ?_) (fun _ => ?_) | (with_reducible apply pcallE.of; · exact isNaN_ok (G := G) a) | (with_reducible apply pcallE.of; · exact isNaN_ok (G := G) b) | (with_reducible refine And.intro ?_ ?_; · omega) | simp -dsimp -implicitDefEqProofs (disch := omega) only [VCA, pg_gl, ↓upd_none, Nat.reduceEqDiff, Nat.reduceBEq, Nat.reduceAdd, Nat.reduceSub, Nat.reduceMul, Nat.reduceLT, Nat.reduceLeDiff, ↓reduceIte, reduceCtorEq, rsOf, rootsOf, SOp.rd, SI.rd, SX.rd, rdL, rdO, rdP, okParts, eqCells, okEqCells, fillA, okFill, setAt, implies_true, forall_const, forall_eq, ne_eq, exists_eq_right_right, exists_eq_right, exists_eq_left, exists_eq_left', eInt, eBool, lit_eq])
  · rename_i q; exact ⟨Sub.refl _, by unfold cmpI; rw [if_pos q]⟩
  · rename_i q1 q; exact ⟨Sub.refl _, by unfold cmpI; rw [if_neg q1, if_pos q]⟩
  · rename_i q1 q; exact ⟨Sub.refl _, by unfold cmpI; rw [if_neg q1, if_neg q]⟩
theorem drop_cons' {l : List Int} {i : Nat} (h : i < l.length) : l.drop i = nth l i :: l.drop (i + 1) := by
  have : nth l i = l[i] := by unfold nth; rw [List.getD_eq_getElem?_getD, List.getElem?_eq_getElem h]; rfl
  rw [this, List.getElem_cons_drop]
def c127 : SFun := ⟨(.seq (.reg [⟨(some 4), (.mv (.c (.int .i64 (0)))), none⟩]) (.seq (.seq (.reg [⟨(some 9), (.mv (.t 0)), none⟩, ⟨(some 10), (.len (.t 9)), none⟩, ⟨(some 11), (.mv (.c (.int .i64 (0)))), none⟩]) (.block 0 (.loop (.seq (.reg [⟨(some 12), (.bin .lss (.t 11) (.t 10)), none⟩]) (.seq (.cond (.t 12) .skip (.exit 0)) (.seq (.block 1 (.seq (.reg [⟨(some 13), (.mv (.t 11)), none⟩, ⟨(some 14), (.idxA 1 (.t 9) (.t 11)), none⟩, ⟨(some 15), (.ld 1 false (.t 14)), none⟩, ⟨(some 5), (.mv (.t 13)), none⟩, ⟨(some 6), (.mv (.t 15)), none⟩]) (.seq (.seq (.reg [⟨(some 16), (.mv (.t 5)), none⟩, ⟨(some 17), (.mv (.t 1)), none⟩, ⟨(some 18), (.len (.t 17)), none⟩, ⟨(some 19), (.bin .geq (.t 16) (.t 18)), none⟩]) (.cond (.t 19) (.seq (.reg [⟨(some 4), (.mv (.c (.int .i64 (1)))), none⟩]) .ret) .skip)) (.seq (.reg [⟨(some 20), (.mv (.t 1)), none⟩, ⟨(some 21), (.mv (.t 5)), none⟩, ⟨(some 22), (.idxA 1 (.t 20) (.t 21)), none⟩, ⟨(some 23), (.ld 1 false (.t 22)), none⟩, ⟨(some 7), (.mv (.t 23)), none⟩]) (.seq (.reg [⟨(some 24), (.mv (.t 6)), none⟩, ⟨(some 25), (.mv (.t 7)), none⟩, ⟨(some 26), (.pcall 126 [(.t 24), (.t 25)]), none⟩, ⟨(some 8), (.mv (.t 26)), none⟩]) (.seq (.reg [⟨(some 27), (.mv (.t 8)), none⟩, ⟨(some 28), (.bin .neq (.t 27) (.c (.int .i64 (0)))), none⟩]) (.cond (.t 28) (.seq (.reg [⟨(some 29), (.mv (.t 8)), none⟩, ⟨(some 4), (.mv (.t 29)), none⟩]) .ret) .skip))))))) (.reg [⟨(some 30), (.bin .add (.t 11) (.c (.int .i64 (1)))), none⟩, ⟨(some 11), (.mv (.t 30)), none⟩]))))))) (.seq (.seq (.reg [⟨(some 31), (.mv (.t 0)), none⟩, ⟨(some 32), (.len (.t 31)), none⟩, ⟨(some 33), (.mv (.t 1)), none⟩, ⟨(some 34), (.len (.t 33)), none⟩, ⟨(some 35), (.bin .lss (.t 32) (.t 34)), none⟩]) (.cond (.t 35) (.seq (.reg [⟨(some 4), (.mv (.c (.int .i64 (-1)))), none⟩]) .ret) .skip)) (.seq (.reg [⟨(some 4), (.mv (.c (.int .i64 (0)))), none⟩]) .ret)))), [(.tmp 4)]⟩
theorem hc127 : toSF Tryd.prog {pure := [126]} Tryd.f127 = some c127 := by kernel_rfl
theorem hn127 : (Tryd.f127.name == "runtime.NumGoroutine") = false := by kernel_rfl
theorem cmpL_ok (p q : List Int) (hp : p.length ≤ 1073741824) (hq : q.length ≤ 1073741824) : PCalls (Pg G) 127 [sl eInt p, sl eInt q] (aInt (cmpL p q)) := fun h => by
  refine dcalls_of_vc Tryd.func127 hn127 hc127 (by rw [Tryd.ntmps127]; simp) (by rw [Tryd.ntmps127]; decide) ?_
  simp -dsimp -implicitDefEqProofs (disch := omega) only [VCA, pg_gl, ↓upd_none, Nat.reduceEqDiff, Nat.reduceBEq, Nat.reduceAdd, Nat.reduceSub, Nat.reduceMul, Nat.reduceLT, Nat.reduceLeDiff, ↓reduceIte, reduceCtorEq, rsOf, rootsOf, SOp.rd, SI.rd, SX.rd, rdL, rdO, rdP, okParts, eqCells, okEqCells, fillA, okFill, setAt, implies_true, forall_const, forall_eq, ne_eq, exists_eq_right_right, exists_eq_right, exists_eq_left, exists_eq_left', eInt, eBool, lit_eq, c127]
  refine LoopVC.intro (fun m e h' => ∃ i : Nat, i ≤ p.length ∧ i ≤ q.length ∧ m = p.length - i ∧ e 0 = sl eInt p ∧ e 1 = sl eInt q ∧ e 9 = sl eInt p ∧ e 10 = aInt p.length ∧ e 11 = aInt i ∧ h' = h ∧ cmpL p q = cmpL (p.drop i) (q.drop i)) p.length ⟨0, by omega, by omega, by omega, rfl, rfl, rfl, rfl, rfl, rfl, by simp⟩ ?_
  rintro m e h' ⟨i, hip, hiq, rfl, he0, he1, he9, he10, he11, rfl, hc⟩
  simp -dsimp -implicitDefEqProofs (disch := omega) only [VCA, pg_gl, ↓upd_none, Nat.reduceEqDiff, Nat.reduceBEq, Nat.reduceAdd, Nat.reduceSub, Nat.reduceMul, Nat.reduceLT, Nat.reduceLeDiff, ↓reduceIte, reduceCtorEq, rsOf, rootsOf, SOp.rd, SI.rd, SX.rd, rdL, rdO, rdP, okParts, eqCells, okEqCells, fillA, okFill, setAt, implies_true, forall_const, forall_eq, ne_eq, exists_eq_right_right, exists_eq_right, exists_eq_left, exists_eq_left', eInt, eBool, lit_eq, he0, he1, he9, he10, he11]
  refine Br.dec (fun hlt => ?_) (fun hge => ?_)
  · have hip' : i < p.length := by omega
    rw [drop_cons' hip'] at hc
    by_cases hq' : i < q.length
    · rw [drop_cons' hq'] at hc
      have hC := cmp_ok (G := G) (nth p i) (nth q i)
      simp only [cmpL] at hc
      simp -dsimp -implicitDefEqProofs (disch := omega) only [VCA, pg_gl, ↓upd_none, Nat.reduceEqDiff, Nat.reduceBEq, Nat.reduceAdd, Nat.reduceSub, Nat.reduceMul, Nat.reduceLT, Nat.reduceLeDiff, ↓reduceIte, reduceCtorEq, rsOf, rootsOf, SOp.rd, SI.rd, SX.rd, rdL, rdO, rdP, okParts, eqCells, okEqCells, fillA, okFill, setAt, implies_true, forall_const, forall_eq, ne_eq, exists_eq_right_right, exists_eq_right, exists_eq_left, exists_eq_left', eInt, eBool, lit_eq, he0, he1, he9, he10, he11]
      repeat' (first | ((with_reducible refine Br.dec (fun _ => ?_) (fun _ => ?_)) <;> try (exfalso; omega)) | ((with_reducible refine Br.eq (fun _ => ?_) (fun _ => ?_)) <;> try (exfalso; omega)) | ((with_reducible refine Br.ne (fun _ => ?_) (fun _ => ?_)) <;> try (exfalso; omega)) | ((with_reducible refine brNdec (fun _ => ?_) (fun _ => ?_)) <;> try (exfalso; omega)) | ((with_reducible refine brNeq (fun _ => ?_) (fun _ => ?_)) <;> try (exfalso; omega)) | with_reducible refine Br.intro (fun _ => ?_) (fun _ => ?_) | (with_reducible apply pcallE.of; · exact hC) | (with_reducible refine And.intro ?_ ?_; · omega) | simp -dsimp -implicitDefEqProofs (disch := omega) only [VCA, pg_gl, ↓upd_none, Nat.reduceEqDiff, Nat.reduceBEq, Nat.reduceAdd, Nat.reduceSub, Nat.reduceMul, Nat.reduceLT, Nat.reduceLeDiff, ↓reduceIte, reduceCtorEq, rsOf, rootsOf, SOp.rd, SI.rd, SX.rd, rdL, rdO, rdP, okParts, eqCells, okEqCells, fillA, okFill, setAt, implies_true, forall_const, forall_eq, ne_eq, exists_eq_right_right, exists_eq_right, exists_eq_left, exists_eq_left', eInt, eBool, lit_eq, he0, he1, he9, he10, he11])
      · rename_i q1; exact ⟨Sub.refl _, by rw [hc, if_pos q1]⟩
      · rename_i q1; exact ⟨_, by omega, i + 1, by omega, by omega, rfl, by omega, by rw [hc, if_neg (by simpa using q1)]⟩
    · have e0 : q.drop i = [] := List.drop_eq_nil_of_le (by omega)
      rw [e0] at hc
      simp only [cmpL] at hc
      simp -dsimp -implicitDefEqProofs (disch := omega) only [VCA, pg_gl, ↓upd_none, Nat.reduceEqDiff, Nat.reduceBEq, Nat.reduceAdd, Nat.reduceSub, Nat.reduceMul, Nat.reduceLT, Nat.reduceLeDiff, ↓reduceIte, reduceCtorEq, rsOf, rootsOf, SOp.rd, SI.rd, SX.rd, rdL, rdO, rdP, okParts, eqCells, okEqCells, fillA, okFill, setAt, implies_true, forall_const, forall_eq, ne_eq, exists_eq_right_right, exists_eq_right, exists_eq_left, exists_eq_left', eInt, eBool, lit_eq, he0, he1, he9, he10, he11]
      repeat' (first | ((with_reducible refine Br.dec (fun _ => ?_) (fun _ => ?_)) <;> try (exfalso; omega)) | ((with_reducible refine Br.eq (fun _ => ?_) (fun _ => ?_)) <;> try (exfalso; omega)) | ((with_reducible refine Br.ne (fun _ => ?_) (fun _ => ?_)) <;> try (exfalso; omega)) | ((with_reducible refine brNdec (fun _ => ?_) (fun _ => ?_)) <;> try (exfalso; omega)) | ((with_reducible refine brNeq (fun _ => ?_) (fun _ => ?_)) <;> try (exfalso; omega)) | with_reducible refine Br.intro (fun _ => ?_) (fun _ => ?_) | (with_reducible refine And.intro ?_ ?_; · omega) | simp -dsimp -implicitDefEqProofs (disch := omega) only [VCA, pg_gl, ↓upd_none, Nat.reduceEqDiff, Nat.reduceBEq, Nat.reduceAdd, Nat.reduceSub, Nat.reduceMul, Nat.reduceLT, Nat.reduceLeDiff, ↓reduceIte, reduceCtorEq, rsOf, rootsOf, SOp.rd, SI.rd, SX.rd, rdL, rdO, rdP, okParts, eqCells, okEqCells, fillA, okFill, setAt, implies_true, forall_const, forall_eq, ne_eq, exists_eq_right_right, exists_eq_right, exists_eq_left, exists_eq_left', eInt, eBool, lit_eq, he0, he1, he9, he10, he11])
      exact ⟨Sub.refl _, hc.symm⟩
  · have e0 : p.drop i = [] := List.drop_eq_nil_of_le (by omega)
    obtain rfl : i = p.length := by omega
    rw [e0] at hc
    by_cases hq' : p.length < q.length
    · rw [drop_cons' hq'] at hc
      simp only [cmpL] at hc
      simp -dsimp -implicitDefEqProofs (disch := omega) only [VCA, pg_gl, ↓upd_none, Nat.reduceEqDiff, Nat.reduceBEq, Nat.reduceAdd, Nat.reduceSub, Nat.reduceMul, Nat.reduceLT, Nat.reduceLeDiff, ↓reduceIte, reduceCtorEq, rsOf, rootsOf, SOp.rd, SI.rd, SX.rd, rdL, rdO, rdP, okParts, eqCells, okEqCells, fillA, okFill, setAt, implies_true, forall_const, forall_eq, ne_eq, exists_eq_right_right, exists_eq_right, exists_eq_left, exists_eq_left', eInt, eBool, lit_eq, he0, he1]
      repeat' (first | ((with_reducible refine Br.dec (fun _ => ?_) (fun _ => ?_)) <;> try (exfalso; omega)) | ((with_reducible refine Br.eq (fun _ => ?_) (fun _ => ?_)) <;> try (exfalso; omega)) | ((with_reducible refine Br.ne (fun _ => ?_) (fun _ => ?_)) <;> try (exfalso; omega)) | ((with_reducible refine brNdec (fun _ => ?_) (fun _ => ?_)) <;> try (exfalso; omega)) | ((with_reducible refine brNeq (fun _ => ?_) (fun _ => ?_)) <;> try (exfalso; omega)) | with_reducible refine Br.intro (fun _ => ?_) (fun _ => ?_) | (with_reducible refine And.intro ?_ ?_; · omega) | simp -dsimp -implicitDefEqProofs (disch := omega) only [VCA, pg_gl, ↓upd_none, Nat.reduceEqDiff, Nat.reduceBEq, Nat.reduceAdd, Nat.reduceSub, Nat.reduceMul, Nat.reduceLT, Nat.reduceLeDiff, ↓reduceIte, reduceCtorEq, rsOf, rootsOf, SOp.rd, SI.rd, SX.rd, rdL, rdO, rdP, okParts, eqCells, okEqCells, fillA, okFill, setAt, implies_true, forall_const, forall_eq, ne_eq, exists_eq_right_right, exists_eq_right, exists_eq_left, exists_eq_left', eInt, eBool, lit_eq, he0, he1])
      exact ⟨Sub.refl _, hc.symm⟩
    · have e1 : q.drop p.length = [] := List.drop_eq_nil_of_le (by omega)
      rw [e1] at hc
      simp only [cmpL] at hc
      simp -dsimp -implicitDefEqProofs (disch := omega) only [VCA, pg_gl, ↓upd_none, Nat.reduceEqDiff, Nat.reduceBEq, Nat.reduceAdd, Nat.reduceSub, Nat.reduceMul, Nat.reduceLT, Nat.reduceLeDiff, ↓reduceIte, reduceCtorEq, rsOf, rootsOf, SOp.rd, SI.rd, SX.rd, rdL, rdO, rdP, okParts, eqCells, okEqCells, fillA, okFill, setAt, implies_true, forall_const, forall_eq, ne_eq, exists_eq_right_right, exists_eq_right, exists_eq_left, exists_eq_left', eInt, eBool, lit_eq, he0, he1]
      repeat' (first | ((with_reducible refine Br.dec (fun _ => ?_) (fun _ => ?_)) <;> try (exfalso; omega)) | ((with_reducible refine Br.eq (fun _ => ?_) (fun _ => ?_)) <;> try (exfalso; omega)) | ((with_reducible refine Br.ne (fun _ => ?_) (fun _ => ?_)) <;> try (exfalso; omega)) | ((with_reducible refine brNdec (fun _ => ?_) (fun _ => ?_)) <;> try (exfalso; omega)) | ((with_reducible refine brNeq (fun _ => ?_) (fun _ => ?_)) <;> try (exfalso; omega)) | with_reducible refine Br.intro (fun _ => ?_) (fun _ => ?_) | (with_reducible refine And.intro ?_ ?_; · omega) | simp -dsimp -implicitDefEqProofs (disch := omega) only [VCA, pg_gl, ↓upd_none, Nat.reduceEqDiff, Nat.reduceBEq, Nat.reduceAdd, Nat.reduceSub, Nat.reduceMul, Nat.reduceLT, Nat.reduceLeDiff, ↓reduceIte, reduceCtorEq, rsOf, rootsOf, SOp.rd, SI.rd, SX.rd, rdL, rdO, rdP, okParts, eqCells, okEqCells, fillA, okFill, setAt, implies_true, forall_const, forall_eq, ne_eq, exists_eq_right_right, exists_eq_right, exists_eq_left, exists_eq_left', eInt, eBool, lit_eq, he0, he1])
      exact ⟨Sub.refl _, hc.symm⟩
end Go.Proofs.K
end
section
/- Points and ranges as they are handed in: readers. -/
set_option linter.unusedSimpArgs false
set_option linter.unusedVariables false
namespace Go.Proofs.YtmfechcelhchcaaDoor
open Go Go.Sim Go.Proofs Go.Proofs.K Go.ChangeShapes Go.WideShapes Go.ChangeAt Go.RowKit
variable {H : Type} {enc : TypeId × Value → H} {w : World}
theorem rPoint : Rdr enc Tryd.prog w Rows.uptoBulk 50 eP fun _ _ => True := by
  have hB := bulk H
  have r := Rdr.struct (eh := enc) (w := w) hB Tryd.underlying50 (by kernel_rfl) (.cons (sz := 1) rfl (by kernel_rfl) mInt rInt (.cons (sz := 1) rfl (by kernel_rfl) mInt rInt (.nil _)))
  exact r.map (fun p => (⟨p.1, p.2.1⟩ : HPoint)) (fun _ => rfl) (fun _ _ h => trivial)
theorem rSpan : Rdr enc Tryd.prog w Rows.uptoBulk 52 eS fun _ _ => True := by
  have hB := bulk H
  have r := Rdr.struct (eh := enc) (w := w) hB Tryd.underlying52 (by kernel_rfl) (.cons (sz := 2) rfl (by kernel_rfl) (fun _ _ _ _ _ => trivial) rPoint (.cons (sz := 2) rfl (by kernel_rfl) (fun _ _ _ _ _ => trivial) rPoint (.nil _)))
  exact r.map (fun p => (⟨p.1, p.2.1⟩ : HSpan)) (fun _ => rfl) (fun _ _ h => trivial)
end Go.Proofs.YtmfechcelhchcaaDoor
end
section
/- Ranges: points, spans: contracts. -/
set_option linter.unusedSimpArgs false
set_option linter.unusedVariables false
namespace Go.Proofs.K
open Go Go.Sim Go.Proofs
variable {G : Glob}
def roomM (d : HDoc) (n : Int) : Nat := if (nd d n).kind = 3 ∨ (nd d n).kind = 4 then (nd d n).text.length else (nd d n).kids.length
def c145 : SFun := ⟨(.seq (.reg [⟨(some 2), (.boxF 124 2 (.t 0)), none⟩, ⟨(some 4), (.mv (.c (.int .i64 (0)))), none⟩]) (.seq (.reg [⟨(some 6), (.fldA 0 (.t 2)), none⟩, ⟨(some 7), (.fldA 0 (.t 6)), none⟩, ⟨(some 8), (.ld 1 false (.t 7)), none⟩, ⟨(some 9), (.mv (.t 1)), none⟩, ⟨(some 10), (.idxA 6 (.t 8) (.t 9)), none⟩, ⟨(some 11), (.ld 6 true (.t 10)), none⟩, ⟨(some 5), (.new 43 6 [(.int .i64 (0)), (.str []), .emp, (.str []), (.int .i64 (0)), .emp]), none⟩, ⟨none, (.st 6 (.t 5) (.t 11)), none⟩]) (.seq (.reg [⟨(some 12), (.fldA 0 (.t 5)), none⟩, ⟨(some 13), (.ld 1 false (.t 12)), none⟩]) (.block 0 (.seq (.seq (.reg [⟨(some 18), (.bin .eql (.t 13) (.c (.int .i64 (3)))), none⟩, ⟨(some 17), (.mv (.t 18)), none⟩]) (.cond (.t 17) .skip (.reg [⟨(some 19), (.bin .eql (.t 13) (.c (.int .i64 (4)))), none⟩, ⟨(some 17), (.mv (.t 19)), none⟩]))) (.cond (.t 17) (.seq (.reg [⟨(some 20), (.fldA 3 (.t 5)), none⟩, ⟨(some 21), (.ld 1 false (.t 20)), none⟩, ⟨(some 22), (.lenS (.t 21)), none⟩, ⟨(some 4), (.mv (.t 22)), none⟩]) .ret) (.seq (.reg [⟨(some 14), (.fldA 5 (.t 5)), none⟩, ⟨(some 15), (.ld 1 false (.t 14)), none⟩, ⟨(some 16), (.len (.t 15)), none⟩, ⟨(some 4), (.mv (.t 16)), none⟩]) .ret))))))), [(.tmp 4)]⟩
theorem hc145 : toSF Tryd.prog {} Tryd.f145 = some c145 := by kernel_rfl
theorem hn145 : (Tryd.f145.name == "runtime.NumGoroutine") = false := by kernel_rfl
theorem room_ok (d : HDoc) (sm : DocSm d) (n : Int) (hn : inD d n) : PCalls (Pg G) 145 [.agg (eDoc d), aInt n] (aInt (roomM d n)) := fun h => by
  have dl := sm.len
  have n0 := hn.1
  have n1 := hn.2
  have e0 : nth d.nodes n.toNat = nd d n := rfl
  refine dcalls_of_vc Tryd.func145 hn145 hc145 (by rw [Tryd.ntmps145]; simp) (by rw [Tryd.ntmps145]; decide) ?_
  simp -dsimp -implicitDefEqProofs (disch := omega) only [VCA, pg_gl, ↓upd_none, Nat.reduceEqDiff, Nat.reduceBEq, Nat.reduceAdd, Nat.reduceSub, Nat.reduceMul, Nat.reduceLT, Nat.reduceLeDiff, ↓reduceIte, reduceCtorEq, rsOf, rootsOf, SOp.rd, SI.rd, SX.rd, rdL, rdO, rdP, okParts, eqCells, okEqCells, fillA, okFill, setAt, implies_true, forall_const, forall_eq, ne_eq, exists_eq_right_right, exists_eq_right, exists_eq_left, exists_eq_left', eInt, eBool, lit_eq, c145, eDoc, eNode]
  rw [e0]
  refine ⟨by omega, ?_⟩
  intro r hr
  repeat' (first | ((with_reducible refine Br.dec (fun _ => ?_) (fun _ => ?_)) <;> try (exfalso; omega)) | ((with_reducible refine Br.eq (fun _ => ?_) (fun _ => ?_)) <;> try (exfalso; omega)) | ((with_reducible refine Br.ne (fun _ => ?_) (fun _ => ?_)) <;> try (exfalso; omega)) | ((with_reducible refine brNdec (fun _ => ?_) (fun _ => ?_)) <;> try (exfalso; omega)) | ((with_reducible refine brNeq (fun _ => ?_) (fun _ => ?_)) <;> try (exfalso; omega)) | with_reducible refine Br.intro (fun _ => ?_) (fun _ => ?_) | (with_reducible refine And.intro ?_ ?_; · omega) | simp -dsimp -implicitDefEqProofs (disch := omega) only [VCA, pg_gl, ↓upd_none, Nat.reduceEqDiff, Nat.reduceBEq, Nat.reduceAdd, Nat.reduceSub, Nat.reduceMul, Nat.reduceLT, Nat.reduceLeDiff, ↓reduceIte, reduceCtorEq, rsOf, rootsOf, SOp.rd, SI.rd, SX.rd, rdL, rdO, rdP, okParts, eqCells, okEqCells, fillA, okFill, setAt, implies_true, forall_const, forall_eq, ne_eq, exists_eq_right_right, exists_eq_right, exists_eq_left, exists_eq_left', eInt, eBool, lit_eq, upd_same])
  · rename_i q1 q2; exact ⟨(Sub.refl h).upd hr, by unfold roomM; rw [if_pos (.inl q2)]⟩
  · rename_i q1 q2; exact ⟨(Sub.refl h).upd hr, by unfold roomM; rw [if_pos (.inr q2)]⟩
  · rename_i q1 q2; exact ⟨(Sub.refl h).upd hr, by unfold roomM; rw [if_neg (fun hh => hh.elim q1 q2)]⟩
/-- the way down to a node, from below: which kid each one is -/
def rkey (d : HDoc) (n : Int) : List Int := ((chain d n).filter (fun m => decide (0 < m))).map fun m => 2 * idxM (· == m) (nd d (nd d m).parent).kids + 1
def key (d : HDoc) (p : HPoint) : List Int := (2 * p.at' :: rkey d p.node).reverse
section
variable {d : HDoc}
theorem rkey_zero (V : DV d) : rkey d 0 = [] := by
  unfold rkey; rw [chain_top V (by have := V.root; omega)]; rfl
theorem rkey_up (V : DV d) {n : Int} (hn : inD d n) (h0 : 0 < n) (hp : 0 ≤ (nd d n).parent) : rkey d n = (2 * idxM (· == n) (nd d (nd d n).parent).kids + 1) :: rkey d (nd d n).parent := by
  unfold rkey; rw [chain_up V hn hp, List.filter_cons_of_pos (by simpa using h0), List.map_cons]
theorem rkey_len (V : DV d) {n : Int} (hn : inD d n) : (rkey d n).length ≤ 41 := by
  unfold rkey
  have := V.deep n hn
  have h1 := chain_len V n hn
  have h2 := List.length_filter_le (fun m => decide (0 < m)) (chain d n)
  rw [List.length_map]; omega
end
def c128 : SFun := ⟨(.seq (.reg [⟨(some 2), (.boxF 124 2 (.t 0)), none⟩, ⟨(some 3), (.boxF 50 2 (.t 1)), none⟩, ⟨(some 4), (.mv (.c (.prim (.slice none 0 0)))), none⟩]) (.seq (.reg [⟨(some 8), (.fldA 1 (.t 3)), none⟩, ⟨(some 9), (.ld 1 false (.t 8)), none⟩, ⟨(some 10), (.bin .mul (.c (.int .i64 (2))) (.t 9)), none⟩, ⟨(some 11), (.bldR 3 1 [(.t 10)]), none⟩, ⟨(some 5), (.mv (.t 11)), none⟩]) (.seq (.seq (.reg [⟨(some 12), (.fldA 0 (.t 3)), none⟩, ⟨(some 13), (.ld 1 false (.t 12)), none⟩, ⟨(some 6), (.mv (.t 13)), none⟩]) (.block 0 (.loop (.seq (.seq (.reg [⟨(some 14), (.mv (.t 6)), none⟩, ⟨(some 15), (.bin .gtr (.t 14) (.c (.int .i64 (0)))), none⟩]) (.cond (.t 15) .skip (.exit 0))) (.seq (.block 1 (.seq (.reg [⟨(some 23), (.fldA 0 (.t 2)), none⟩, ⟨(some 24), (.fldA 0 (.t 23)), none⟩, ⟨(some 25), (.ld 1 false (.t 24)), none⟩, ⟨(some 26), (.mv (.t 6)), none⟩, ⟨(some 27), (.idxA 6 (.t 25) (.t 26)), none⟩, ⟨(some 28), (.fldA 4 (.t 27)), none⟩, ⟨(some 29), (.ld 1 false (.t 28)), none⟩, ⟨(some 7), (.mv (.t 29)), none⟩]) (.seq (.seq (.reg [⟨(some 30), (.mv (.t 7)), none⟩, ⟨(some 31), (.bin .lss (.t 30) (.c (.int .i64 (0)))), none⟩]) (.cond (.t 31) (.seq (.reg [⟨(some 4), (.mv (.c (.prim (.slice none 0 0)))), none⟩]) .ret) .skip)) (.reg [⟨(some 32), (.mv (.t 5)), none⟩, ⟨(some 33), (.fldA 0 (.t 2)), none⟩, ⟨(some 34), (.fldA 0 (.t 33)), none⟩, ⟨(some 35), (.ld 1 false (.t 34)), none⟩, ⟨(some 36), (.mv (.t 7)), none⟩, ⟨(some 37), (.idxA 6 (.t 35) (.t 36)), none⟩, ⟨(some 38), (.fldA 5 (.t 37)), none⟩, ⟨(some 39), (.ld 1 false (.t 38)), none⟩, ⟨(some 40), (.mv (.t 6)), none⟩, ⟨(some 41), (.pcall 77 [(.t 39), (.t 40)]), none⟩, ⟨(some 42), (.bin .mul (.c (.int .i64 (2))) (.t 41)), none⟩, ⟨(some 43), (.bin .add (.t 42) (.c (.int .i64 (1)))), none⟩, ⟨(some 44), (.bldF 3 1 [(.t 43)]), none⟩, ⟨(some 45), (.app 3 1 8 (.t 32) (.t 44)), none⟩, ⟨(some 5), (.mv (.t 45)), none⟩])))) (.reg [⟨(some 16), (.fldA 0 (.t 2)), none⟩, ⟨(some 17), (.fldA 0 (.t 16)), none⟩, ⟨(some 18), (.ld 1 false (.t 17)), none⟩, ⟨(some 19), (.mv (.t 6)), none⟩, ⟨(some 20), (.idxA 6 (.t 18) (.t 19)), none⟩, ⟨(some 21), (.fldA 4 (.t 20)), none⟩, ⟨(some 22), (.ld 1 false (.t 21)), none⟩, ⟨(some 6), (.mv (.t 22)), none⟩])))))) (.seq (.reg [⟨(some 46), (.mv (.t 5)), none⟩, ⟨(some 47), (.call (.c (.fn 111 [] [])) [(.t 46)]), none⟩]) (.seq (.reg [⟨(some 48), (.mv (.t 5)), none⟩, ⟨(some 4), (.mv (.t 48)), none⟩]) .ret))))), [(.tmp 4)]⟩
theorem hc128 : toSF Tryd.prog {pure := [77], how := [(11, 2), (4, 7)]} Tryd.f128 = some c128 := by kernel_rfl
theorem hn128 : (Tryd.f128.name == "runtime.NumGoroutine") = false := by kernel_rfl
theorem spath_ok (d : HDoc) (V : DV d) (sm : DocSm d) (p : HPoint) (hn : inD d p.node) (h0 : 0 ∈ chain d p.node) (ha : 0 ≤ p.at' ∧ p.at' ≤ 1073741824) : PCalls (Pg G) 128 [.agg (eDoc d), .agg (eP p)] (sl eInt (key d p)) := PCalls.acc (ty := 3) (sz := 1) fun h => by
  have hl := V.len
  have kl := rkey_len V hn
  have a0 := ha.1
  have a1 := ha.2
  refine dcalls_of_vc Tryd.func128 hn128 hc128 (by rw [Tryd.ntmps128]; simp) (by rw [Tryd.ntmps128]; decide) ?_
  simp -dsimp -implicitDefEqProofs (disch := omega) only [VCA, pg_gl, ↓upd_none, Nat.reduceEqDiff, Nat.reduceBEq, Nat.reduceAdd, Nat.reduceSub, Nat.reduceMul, Nat.reduceLT, Nat.reduceLeDiff, ↓reduceIte, reduceCtorEq, rsOf, rootsOf, SOp.rd, SI.rd, SX.rd, rdL, rdO, rdP, okParts, eqCells, okEqCells, fillA, okFill, setAt, implies_true, forall_const, forall_eq, ne_eq, exists_eq_right_right, exists_eq_right, exists_eq_left, exists_eq_left', eInt, eBool, lit_eq, c128, eDoc, eP]
  intro r hr
  refine LoopVC.intro (fun m e h' => ∃ (c : Int) (L : List Int), m = up d c ∧ inD d c ∧ 0 ∈ chain d c ∧ e 2 = .pin (eDoc d) ∧ e 6 = aInt c ∧ Acc h 3 1 (L.map eInt) (e 5) h' ∧ Sim.Sub h h' ∧ L ++ rkey d c = 2 * p.at' :: rkey d p.node) _ ⟨p.node, [2 * p.at'], rfl, hn, h0, rfl, rfl, Acc.root hr (upd_same _ _ _), (Sub.refl h).upd hr, rfl⟩ ?_
  rintro m e h' ⟨c, L, rfl, hc, hc0, he2, he6, A, S, hL⟩
  have c0 := hc.1
  have c1 := hc.2
  have hLl : L.length ≤ 42 := by
    have := congrArg List.length hL
    simp at this; omega
  have e0 : nth d.nodes c.toNat = nd d c := rfl
  simp -dsimp -implicitDefEqProofs (disch := omega) only [VCA, pg_gl, ↓upd_none, Nat.reduceEqDiff, Nat.reduceBEq, Nat.reduceAdd, Nat.reduceSub, Nat.reduceMul, Nat.reduceLT, Nat.reduceLeDiff, ↓reduceIte, reduceCtorEq, rsOf, rootsOf, SOp.rd, SI.rd, SX.rd, rdL, rdO, rdP, okParts, eqCells, okEqCells, fillA, okFill, setAt, implies_true, forall_const, forall_eq, ne_eq, exists_eq_right_right, exists_eq_right, exists_eq_left, exists_eq_left', eInt, eBool, lit_eq, he2, he6]
  refine Br.dec (fun h1 => ?_) (fun h1 => ?_)
  · have hp := par_of V hc hc0 (by omega)
    have hpi := (V.par_in hc hp).1
    have p1 := hpi.2
    have e1 : nth d.nodes (nd d c).parent.toNat = nd d (nd d c).parent := rfl
    have kl2 := (sm.nd (nd d c).parent).kids
    have hq := idxM_le (nd d (nd d c).parent).kids c
    have hI := hasII_ok (G := G) (nd d (nd d c).parent).kids c kl2
    have hru := rkey_up V hc h1 hp
    have hup := V.up_par hc hp
    have hpc : 0 ∈ chain d (nd d c).parent := by
      rw [chain_up V hc hp] at hc0
      exact (List.mem_cons.1 hc0).resolve_left (by omega)
    generalize idxM (· == c) (nd d (nd d c).parent).kids = q at *
    simp -dsimp -implicitDefEqProofs (disch := omega) only [VCA, pg_gl, ↓upd_none, Nat.reduceEqDiff, Nat.reduceBEq, Nat.reduceAdd, Nat.reduceSub, Nat.reduceMul, Nat.reduceLT, Nat.reduceLeDiff, ↓reduceIte, reduceCtorEq, rsOf, rootsOf, SOp.rd, SI.rd, SX.rd, rdL, rdO, rdP, okParts, eqCells, okEqCells, fillA, okFill, setAt, implies_true, forall_const, forall_eq, ne_eq, exists_eq_right_right, exists_eq_right, exists_eq_left, exists_eq_left', eInt, eBool, lit_eq, he2, he6, eDoc, eNode, e0]
    refine ⟨by omega, Br.dec (fun hh => absurd hh (by omega)) (fun _ => ?_)⟩
    simp -dsimp -implicitDefEqProofs (disch := omega) only [VCA, pg_gl, ↓upd_none, Nat.reduceEqDiff, Nat.reduceBEq, Nat.reduceAdd, Nat.reduceSub, Nat.reduceMul, Nat.reduceLT, Nat.reduceLeDiff, ↓reduceIte, reduceCtorEq, rsOf, rootsOf, SOp.rd, SI.rd, SX.rd, rdL, rdO, rdP, okParts, eqCells, okEqCells, fillA, okFill, setAt, implies_true, forall_const, forall_eq, ne_eq, exists_eq_right_right, exists_eq_right, exists_eq_left, exists_eq_left', eInt, eBool, lit_eq, he2, he6, eDoc, eNode, e0, e1]
    refine ⟨by omega, ?_⟩
    refine pcallE.of (hI) ?_; simp -dsimp -implicitDefEqProofs (disch := omega) only [VCA, pg_gl, ↓upd_none, Nat.reduceEqDiff, Nat.reduceBEq, Nat.reduceAdd, Nat.reduceSub, Nat.reduceMul, Nat.reduceLT, Nat.reduceLeDiff, ↓reduceIte, reduceCtorEq, rsOf, rootsOf, SOp.rd, SI.rd, SX.rd, rdL, rdO, rdP, okParts, eqCells, okEqCells, fillA, okFill, setAt, implies_true, forall_const, forall_eq, ne_eq, exists_eq_right_right, exists_eq_right, exists_eq_left, exists_eq_left', eInt, eBool, lit_eq, he2, he6, eDoc, eNode, e0, e1]
    refine A.app S (by simp only [List.length_map, List.length_cons, List.length_nil]; omega) (by simp only [List.length_map, List.length_cons, List.length_nil]; omega) fun a' h'' A' S' => ?_
    simp -dsimp -implicitDefEqProofs (disch := omega) only [VCA, pg_gl, ↓upd_none, Nat.reduceEqDiff, Nat.reduceBEq, Nat.reduceAdd, Nat.reduceSub, Nat.reduceMul, Nat.reduceLT, Nat.reduceLeDiff, ↓reduceIte, reduceCtorEq, rsOf, rootsOf, SOp.rd, SI.rd, SX.rd, rdL, rdO, rdP, okParts, eqCells, okEqCells, fillA, okFill, setAt, implies_true, forall_const, forall_eq, ne_eq, exists_eq_right_right, exists_eq_right, exists_eq_left, exists_eq_left', eInt, eBool, lit_eq, he2, he6, eDoc, eNode, e0]
    refine ⟨by omega, _, ?_, (nd d c).parent, L ++ [2 * q + 1], rfl, hpi, hpc, rfl, by simpa [eInt] using A', S', by rw [← hL, hru]; simp⟩
    omega
  · obtain rfl : c = 0 := by omega
    rw [rkey_zero V, List.append_nil] at hL
    subst hL
    obtain ⟨r, h0, hr, he⟩ := A.pos (by simp)
    rw [List.length_map] at he
    simp -dsimp -implicitDefEqProofs (disch := omega) only [VCA, pg_gl, ↓upd_none, Nat.reduceEqDiff, Nat.reduceBEq, Nat.reduceAdd, Nat.reduceSub, Nat.reduceMul, Nat.reduceLT, Nat.reduceLeDiff, ↓reduceIte, reduceCtorEq, rsOf, rootsOf, SOp.rd, SI.rd, SX.rd, rdL, rdO, rdP, okParts, eqCells, okEqCells, fillA, okFill, setAt, implies_true, forall_const, forall_eq, ne_eq, exists_eq_right_right, exists_eq_right, exists_eq_left, exists_eq_left', eInt, eBool, lit_eq, he]
    refine DCalls.of (reverseI_ok _ hr (by omega)) ?_
    rintro a h'' ⟨rfl, rfl⟩
    simp -dsimp -implicitDefEqProofs (disch := omega) only [VCA, pg_gl, ↓upd_none, Nat.reduceEqDiff, Nat.reduceBEq, Nat.reduceAdd, Nat.reduceSub, Nat.reduceMul, Nat.reduceLT, Nat.reduceLeDiff, ↓reduceIte, reduceCtorEq, rsOf, rootsOf, SOp.rd, SI.rd, SX.rd, rdL, rdO, rdP, okParts, eqCells, okEqCells, fillA, okFill, setAt, implies_true, forall_const, forall_eq, ne_eq, exists_eq_right_right, exists_eq_right, exists_eq_left, exists_eq_left', eInt, eBool, lit_eq, he]
    have hlr : ((2 * p.at' :: rkey d p.node).reverse.map eInt).length = (2 * p.at' :: rkey d p.node).length := by simp
    refine ⟨_, Sub.refl _, ?_, S.upd h0⟩
    have := Acc.root (h := h) (h' := upd h' r (some ⟨3, 1, (2 * p.at' :: rkey d p.node).reverse.map eInt⟩)) h0 (upd_same _ _ _)
    rwa [hlr] at this
theorem spath_nil (d : HDoc) (V : DV d) (sm : DocSm d) (p : HPoint) (hn : inD d p.node) (h0 : 0 ∉ chain d p.node) (ha : 0 ≤ p.at' ∧ p.at' ≤ 1073741824) : PCalls (Pg G) 128 [.agg (eDoc d), .agg (eP p)] (.prim (.slice none 0 0)) := fun h => by
  have hl := V.len
  have a0 := ha.1
  have a1 := ha.2
  refine dcalls_of_vc Tryd.func128 hn128 hc128 (by rw [Tryd.ntmps128]; simp) (by rw [Tryd.ntmps128]; decide) ?_
  simp -dsimp -implicitDefEqProofs (disch := omega) only [VCA, pg_gl, ↓upd_none, Nat.reduceEqDiff, Nat.reduceBEq, Nat.reduceAdd, Nat.reduceSub, Nat.reduceMul, Nat.reduceLT, Nat.reduceLeDiff, ↓reduceIte, reduceCtorEq, rsOf, rootsOf, SOp.rd, SI.rd, SX.rd, rdL, rdO, rdP, okParts, eqCells, okEqCells, fillA, okFill, setAt, implies_true, forall_const, forall_eq, ne_eq, exists_eq_right_right, exists_eq_right, exists_eq_left, exists_eq_left', eInt, eBool, lit_eq, c128, eDoc, eP]
  intro r hr
  refine LoopVC.intro (fun m e h' => ∃ (c : Int) (L : List Int), m = up d c ∧ inD d c ∧ 0 ∉ chain d c ∧ e 2 = .pin (eDoc d) ∧ e 6 = aInt c ∧ Acc h 3 1 (L.map eInt) (e 5) h' ∧ Sim.Sub h h' ∧ L.length + up d c ≤ 42) _ ⟨p.node, [2 * p.at'], rfl, hn, h0, rfl, rfl, Acc.root hr (upd_same _ _ _), (Sub.refl h).upd hr, by have := V.deep _ hn; simp; omega⟩ ?_
  rintro m e h' ⟨c, L, rfl, hc, hc0, he2, he6, A, S, hL⟩
  have c0 := hc.1
  have c1 := hc.2
  have hne : c ≠ 0 := fun e => hc0 (by rw [e]; exact chain_self _ _)
  have e0 : nth d.nodes c.toNat = nd d c := rfl
  simp -dsimp -implicitDefEqProofs (disch := omega) only [VCA, pg_gl, ↓upd_none, Nat.reduceEqDiff, Nat.reduceBEq, Nat.reduceAdd, Nat.reduceSub, Nat.reduceMul, Nat.reduceLT, Nat.reduceLeDiff, ↓reduceIte, reduceCtorEq, rsOf, rootsOf, SOp.rd, SI.rd, SX.rd, rdL, rdO, rdP, okParts, eqCells, okEqCells, fillA, okFill, setAt, implies_true, forall_const, forall_eq, ne_eq, exists_eq_right_right, exists_eq_right, exists_eq_left, exists_eq_left', eInt, eBool, lit_eq, he2, he6]
  refine Br.dec (fun h1 => ?_) (fun h1 => absurd c0 (by omega))
  by_cases hp : 0 ≤ (nd d c).parent
  · have hpi := (V.par_in hc hp).1
    have p1 := hpi.2
    have e1 : nth d.nodes (nd d c).parent.toNat = nd d (nd d c).parent := rfl
    have kl2 := (sm.nd (nd d c).parent).kids
    have hq := idxM_le (nd d (nd d c).parent).kids c
    have hI := hasII_ok (G := G) (nd d (nd d c).parent).kids c kl2
    have hup := V.up_par hc hp
    have hpc : 0 ∉ chain d (nd d c).parent := fun hh => hc0 (by rw [chain_up V hc hp]; exact List.mem_cons_of_mem _ hh)
    generalize idxM (· == c) (nd d (nd d c).parent).kids = q at *
    simp -dsimp -implicitDefEqProofs (disch := omega) only [VCA, pg_gl, ↓upd_none, Nat.reduceEqDiff, Nat.reduceBEq, Nat.reduceAdd, Nat.reduceSub, Nat.reduceMul, Nat.reduceLT, Nat.reduceLeDiff, ↓reduceIte, reduceCtorEq, rsOf, rootsOf, SOp.rd, SI.rd, SX.rd, rdL, rdO, rdP, okParts, eqCells, okEqCells, fillA, okFill, setAt, implies_true, forall_const, forall_eq, ne_eq, exists_eq_right_right, exists_eq_right, exists_eq_left, exists_eq_left', eInt, eBool, lit_eq, he2, he6, eDoc, eNode, e0]
    refine ⟨by omega, Br.dec (fun hh => absurd hh (by omega)) (fun _ => ?_)⟩
    simp -dsimp -implicitDefEqProofs (disch := omega) only [VCA, pg_gl, ↓upd_none, Nat.reduceEqDiff, Nat.reduceBEq, Nat.reduceAdd, Nat.reduceSub, Nat.reduceMul, Nat.reduceLT, Nat.reduceLeDiff, ↓reduceIte, reduceCtorEq, rsOf, rootsOf, SOp.rd, SI.rd, SX.rd, rdL, rdO, rdP, okParts, eqCells, okEqCells, fillA, okFill, setAt, implies_true, forall_const, forall_eq, ne_eq, exists_eq_right_right, exists_eq_right, exists_eq_left, exists_eq_left', eInt, eBool, lit_eq, he2, he6, eDoc, eNode, e0, e1]
    refine ⟨by omega, ?_⟩
    refine pcallE.of (hI) ?_; simp -dsimp -implicitDefEqProofs (disch := omega) only [VCA, pg_gl, ↓upd_none, Nat.reduceEqDiff, Nat.reduceBEq, Nat.reduceAdd, Nat.reduceSub, Nat.reduceMul, Nat.reduceLT, Nat.reduceLeDiff, ↓reduceIte, reduceCtorEq, rsOf, rootsOf, SOp.rd, SI.rd, SX.rd, rdL, rdO, rdP, okParts, eqCells, okEqCells, fillA, okFill, setAt, implies_true, forall_const, forall_eq, ne_eq, exists_eq_right_right, exists_eq_right, exists_eq_left, exists_eq_left', eInt, eBool, lit_eq, he2, he6, eDoc, eNode, e0, e1]
    refine A.app S (by simp only [List.length_map, List.length_cons, List.length_nil]; omega) (by simp only [List.length_map, List.length_cons, List.length_nil]; omega) fun a' h'' A' S' => ?_
    simp -dsimp -implicitDefEqProofs (disch := omega) only [VCA, pg_gl, ↓upd_none, Nat.reduceEqDiff, Nat.reduceBEq, Nat.reduceAdd, Nat.reduceSub, Nat.reduceMul, Nat.reduceLT, Nat.reduceLeDiff, ↓reduceIte, reduceCtorEq, rsOf, rootsOf, SOp.rd, SI.rd, SX.rd, rdL, rdO, rdP, okParts, eqCells, okEqCells, fillA, okFill, setAt, implies_true, forall_const, forall_eq, ne_eq, exists_eq_right_right, exists_eq_right, exists_eq_left, exists_eq_left', eInt, eBool, lit_eq, he2, he6, eDoc, eNode, e0]
    refine ⟨by omega, _, ?_, (nd d c).parent, L ++ [2 * q + 1], rfl, hpi, hpc, rfl, by simpa [eInt] using A', S', by simp; omega⟩
    omega
  · simp -dsimp -implicitDefEqProofs (disch := omega) only [VCA, pg_gl, ↓upd_none, Nat.reduceEqDiff, Nat.reduceBEq, Nat.reduceAdd, Nat.reduceSub, Nat.reduceMul, Nat.reduceLT, Nat.reduceLeDiff, ↓reduceIte, reduceCtorEq, rsOf, rootsOf, SOp.rd, SI.rd, SX.rd, rdL, rdO, rdP, okParts, eqCells, okEqCells, fillA, okFill, setAt, implies_true, forall_const, forall_eq, ne_eq, exists_eq_right_right, exists_eq_right, exists_eq_left, exists_eq_left', eInt, eBool, lit_eq, he2, he6, eDoc, eNode, e0]
    refine ⟨by omega, Br.dec (fun _ => ?_) (fun hh => absurd hp (by omega))⟩
    simp -dsimp -implicitDefEqProofs (disch := omega) only [VCA, pg_gl, ↓upd_none, Nat.reduceEqDiff, Nat.reduceBEq, Nat.reduceAdd, Nat.reduceSub, Nat.reduceMul, Nat.reduceLT, Nat.reduceLeDiff, ↓reduceIte, reduceCtorEq, rsOf, rootsOf, SOp.rd, SI.rd, SX.rd, rdL, rdO, rdP, okParts, eqCells, okEqCells, fillA, okFill, setAt, implies_true, forall_const, forall_eq, ne_eq, exists_eq_right_right, exists_eq_right, exists_eq_left, exists_eq_left', eInt, eBool, lit_eq]
    exact S
def pointE (d : HDoc) (p : HPoint) : Int := if ¬ (inD d p.node ∧ 0 ≤ p.at' ∧ p.at' ≤ roomM d p.node) then 1 else if 0 ∉ chain d p.node then 5 else 0
theorem room_le {d : HDoc} (sm : DocSm d) (n : Int) : roomM d n ≤ 1073741824 := by
  unfold roomM
  split
  · exact (sm.nd n).text
  · exact (sm.nd n).kids
def c125 : SFun := ⟨(.seq (.reg [⟨(some 2), (.boxF 124 2 (.t 0)), none⟩, ⟨(some 3), (.boxF 50 2 (.t 1)), none⟩, ⟨(some 4), (.mv (.c (.int .i64 (0)))), none⟩]) (.seq (.block 0 (.seq (.dreg [(⟨(some 6), (.fldA 0 (.t 3)), none⟩, none), (⟨(some 7), (.ld 1 false (.t 6)), none⟩, none), (⟨(some 8), (.bin .lss (.t 7) (.c (.int .i64 (0)))), none⟩, none), (⟨(some 9), (.mv (.t 8)), none⟩, none), (⟨(some 10), (.fldA 0 (.t 3)), (some (9, false))⟩, none), (⟨(some 11), (.ld 1 false (.t 10)), (some (9, false))⟩, none), (⟨(some 12), (.fldA 0 (.t 2)), (some (9, false))⟩, none), (⟨(some 13), (.fldA 0 (.t 12)), (some (9, false))⟩, none), (⟨(some 14), (.ld 1 false (.t 13)), (some (9, false))⟩, none), (⟨(some 15), (.len (.t 14)), (some (9, false))⟩, none), (⟨(some 16), (.bin .geq (.t 11) (.t 15)), (some (9, false))⟩, none), (⟨(some 17), (.pick (.t 9) (.c (.bool true)) (.t 16)), none⟩, none), (⟨(some 18), (.mv (.t 17)), none⟩, none), (⟨(some 19), (.fldA 1 (.t 3)), (some (18, false))⟩, none), (⟨(some 20), (.ld 1 false (.t 19)), (some (18, false))⟩, none), (⟨(some 21), (.bin .lss (.t 20) (.c (.int .i64 (0)))), (some (18, false))⟩, none), (⟨(some 22), (.pick (.t 18) (.c (.bool true)) (.t 21)), none⟩, none), (⟨(some 23), (.mv (.t 22)), none⟩, none), (⟨(some 24), (.fldA 1 (.t 3)), (some (23, false))⟩, none), (⟨(some 25), (.ld 1 false (.t 24)), (some (23, false))⟩, none), (⟨(some 26), (.ld 2 true (.t 2)), (some (23, false))⟩, none), (⟨(some 27), (.fldA 0 (.t 3)), (some (23, false))⟩, none), (⟨(some 28), (.ld 1 false (.t 27)), (some (23, false))⟩, none), (⟨(some 29), (.pcall 145 [(.t 26), (.t 28)]), (some (23, false))⟩, none), (⟨(some 30), (.bin .gtr (.t 25) (.t 29)), (some (23, false))⟩, none), (⟨(some 31), (.pick (.t 23) (.c (.bool true)) (.t 30)), none⟩, none), (⟨(some 5), (.mv (.t 31)), none⟩, none)]) (.cond (.t 5) (.seq (.reg [⟨(some 4), (.mv (.c (.int .i64 (1)))), none⟩]) .ret) (.seq (.reg [⟨(some 33), (.ld 2 true (.t 2)), none⟩, ⟨(some 34), (.ld 2 true (.t 3)), none⟩, ⟨(some 35), (.pcall 128 [(.t 33), (.t 34)]), none⟩, ⟨(some 36), (.isnil 0 false (.t 35)), none⟩, ⟨(some 32), (.mv (.t 36)), none⟩]) (.cond (.t 32) (.seq (.reg [⟨(some 4), (.mv (.c (.int .i64 (5)))), none⟩]) .ret) .skip))))) (.seq (.reg [⟨(some 4), (.mv (.c (.int .i64 (0)))), none⟩]) .ret))), [(.tmp 4)]⟩
theorem hc125 : toSF Tryd.prog {pure := [145, 128]} Tryd.f125 = some c125 := by kernel_rfl
theorem hn125 : (Tryd.f125.name == "runtime.NumGoroutine") = false := by kernel_rfl
theorem point_ok (d : HDoc) (V : DV d) (sm : DocSm d) (p : HPoint) : PCalls (Pg G) 125 [.agg (eDoc d), .agg (eP p)] (aInt (pointE d p)) := fun h => by
  have hl := V.len
  refine dcalls_of_vc Tryd.func125 hn125 hc125 (by rw [Tryd.ntmps125]; simp) (by rw [Tryd.ntmps125]; decide) ?_
  by_cases hn : inD d p.node
  · have n0 := hn.1
    have n1 := hn.2
    have hR := room_ok (G := G) d sm p.node hn
    have rl := room_le sm p.node
    unfold eDoc at hR
    by_cases h1 : 0 ≤ p.at' ∧ p.at' ≤ roomM d p.node
    · by_cases h2 : 0 ∈ chain d p.node
      · have hP := spath_ok (G := G) d V sm p hn h2 ⟨h1.1, by omega⟩
        have hk : 0 < (key d p).length := by unfold key; simp
        unfold eDoc eP at hP
        have hE : pointE d p = 0 := by unfold pointE; rw [if_neg (by simp [hn, h1]), if_neg (by simpa using h2)]
        simp -dsimp -implicitDefEqProofs (disch := omega) only [↓vcOps_sp 9, ↓vcD_sp 9, ↓vcOps_sp 18, ↓vcD_sp 18, ↓vcOps_sp 23, ↓vcD_sp 23, VCA, pg_gl, ↓upd_none, Nat.reduceEqDiff, Nat.reduceBEq, Nat.reduceAdd, Nat.reduceSub, Nat.reduceMul, Nat.reduceLT, Nat.reduceLeDiff, ↓reduceIte, reduceCtorEq, rsOf, rootsOf, SOp.rd, SI.rd, SX.rd, rdL, rdO, rdP, okParts, eqCells, okEqCells, fillA, okFill, setAt, implies_true, forall_const, forall_eq, ne_eq, exists_eq_right_right, exists_eq_right, exists_eq_left, exists_eq_left', eInt, eBool, lit_eq, c125, eDoc, eP, hE]
        repeat' (first | ((with_reducible refine Br.dec (fun _ => ?_) (fun _ => ?_)) <;> try (exfalso; omega)) | ((with_reducible refine Br.eq (fun _ => ?_) (fun _ => ?_)) <;> try (exfalso; omega)) | ((with_reducible refine Br.ne (fun _ => ?_) (fun _ => ?_)) <;> try (exfalso; omega)) | ((with_reducible refine brNdec (fun _ => ?_) (fun _ => ?_)) <;> try (exfalso; omega)) | ((with_reducible refine brNeq (fun _ => ?_) (fun _ => ?_)) <;> try (exfalso; omega)) | with_reducible refine Br.intro (fun _ => ?_) (fun _ => ?_) | (with_reducible apply pcallE.of; · exact hR) | (with_reducible apply pcallE.of; · exact hP) | (with_reducible refine And.intro ?_ ?_; · omega) | simp -dsimp -implicitDefEqProofs (disch := omega) only [↓vcOps_sp 9, ↓vcD_sp 9, ↓vcOps_sp 18, ↓vcD_sp 18, ↓vcOps_sp 23, ↓vcD_sp 23, VCA, pg_gl, ↓upd_none, Nat.reduceEqDiff, Nat.reduceBEq, Nat.reduceAdd, Nat.reduceSub, Nat.reduceMul, Nat.reduceLT, Nat.reduceLeDiff, ↓reduceIte, reduceCtorEq, rsOf, rootsOf, SOp.rd, SI.rd, SX.rd, rdL, rdO, rdP, okParts, eqCells, okEqCells, fillA, okFill, setAt, implies_true, forall_const, forall_eq, ne_eq, exists_eq_right_right, exists_eq_right, exists_eq_left, exists_eq_left', eInt, eBool, lit_eq, eDoc, eP])
        intro b hb
        obtain rfl : b = false := by
          cases b with
          | false => rfl
          | true => rw [hb rfl] at hk; exact absurd hk (by simp)
        simp -dsimp -implicitDefEqProofs (disch := omega) only [↓vcOps_sp 9, ↓vcD_sp 9, ↓vcOps_sp 18, ↓vcD_sp 18, ↓vcOps_sp 23, ↓vcD_sp 23, VCA, pg_gl, ↓upd_none, Nat.reduceEqDiff, Nat.reduceBEq, Nat.reduceAdd, Nat.reduceSub, Nat.reduceMul, Nat.reduceLT, Nat.reduceLeDiff, ↓reduceIte, reduceCtorEq, rsOf, rootsOf, SOp.rd, SI.rd, SX.rd, rdL, rdO, rdP, okParts, eqCells, okEqCells, fillA, okFill, setAt, implies_true, forall_const, forall_eq, ne_eq, exists_eq_right_right, exists_eq_right, exists_eq_left, exists_eq_left', eInt, eBool, lit_eq]
        all_goals exact Sub.refl _
      · have hP := spath_nil (G := G) d V sm p hn h2 ⟨h1.1, by omega⟩
        unfold eDoc eP at hP
        have hE : pointE d p = 5 := by unfold pointE; rw [if_neg (by simp [hn, h1]), if_pos h2]
        simp -dsimp -implicitDefEqProofs (disch := omega) only [↓vcOps_sp 9, ↓vcD_sp 9, ↓vcOps_sp 18, ↓vcD_sp 18, ↓vcOps_sp 23, ↓vcD_sp 23, VCA, pg_gl, ↓upd_none, Nat.reduceEqDiff, Nat.reduceBEq, Nat.reduceAdd, Nat.reduceSub, Nat.reduceMul, Nat.reduceLT, Nat.reduceLeDiff, ↓reduceIte, reduceCtorEq, rsOf, rootsOf, SOp.rd, SI.rd, SX.rd, rdL, rdO, rdP, okParts, eqCells, okEqCells, fillA, okFill, setAt, implies_true, forall_const, forall_eq, ne_eq, exists_eq_right_right, exists_eq_right, exists_eq_left, exists_eq_left', eInt, eBool, lit_eq, c125, eDoc, eP, hE]
        repeat' (first | ((with_reducible refine Br.dec (fun _ => ?_) (fun _ => ?_)) <;> try (exfalso; omega)) | ((with_reducible refine Br.eq (fun _ => ?_) (fun _ => ?_)) <;> try (exfalso; omega)) | ((with_reducible refine Br.ne (fun _ => ?_) (fun _ => ?_)) <;> try (exfalso; omega)) | ((with_reducible refine brNdec (fun _ => ?_) (fun _ => ?_)) <;> try (exfalso; omega)) | ((with_reducible refine brNeq (fun _ => ?_) (fun _ => ?_)) <;> try (exfalso; omega)) | with_reducible refine Br.intro (fun _ => ?_) (fun _ => ?_) | (with_reducible apply pcallE.of; · exact hR) | (with_reducible apply pcallE.of; · exact hP) | (with_reducible refine And.intro ?_ ?_; · omega) | simp -dsimp -implicitDefEqProofs (disch := omega) only [↓vcOps_sp 9, ↓vcD_sp 9, ↓vcOps_sp 18, ↓vcD_sp 18, ↓vcOps_sp 23, ↓vcD_sp 23, VCA, pg_gl, ↓upd_none, Nat.reduceEqDiff, Nat.reduceBEq, Nat.reduceAdd, Nat.reduceSub, Nat.reduceMul, Nat.reduceLT, Nat.reduceLeDiff, ↓reduceIte, reduceCtorEq, rsOf, rootsOf, SOp.rd, SI.rd, SX.rd, rdL, rdO, rdP, okParts, eqCells, okEqCells, fillA, okFill, setAt, implies_true, forall_const, forall_eq, ne_eq, exists_eq_right_right, exists_eq_right, exists_eq_left, exists_eq_left', eInt, eBool, lit_eq, eDoc, eP])
        all_goals exact Sub.refl _
    · have hE : pointE d p = 1 := by unfold pointE; rw [if_pos (fun hh => h1 hh.2)]
      simp -dsimp -implicitDefEqProofs (disch := omega) only [↓vcOps_sp 9, ↓vcD_sp 9, ↓vcOps_sp 18, ↓vcD_sp 18, ↓vcOps_sp 23, ↓vcD_sp 23, VCA, pg_gl, ↓upd_none, Nat.reduceEqDiff, Nat.reduceBEq, Nat.reduceAdd, Nat.reduceSub, Nat.reduceMul, Nat.reduceLT, Nat.reduceLeDiff, ↓reduceIte, reduceCtorEq, rsOf, rootsOf, SOp.rd, SI.rd, SX.rd, rdL, rdO, rdP, okParts, eqCells, okEqCells, fillA, okFill, setAt, implies_true, forall_const, forall_eq, ne_eq, exists_eq_right_right, exists_eq_right, exists_eq_left, exists_eq_left', eInt, eBool, lit_eq, c125, eDoc, eP, hE]
      repeat' (first | ((with_reducible refine Br.dec (fun _ => ?_) (fun _ => ?_)) <;> try (exfalso; omega)) | ((with_reducible refine Br.eq (fun _ => ?_) (fun _ => ?_)) <;> try (exfalso; omega)) | ((with_reducible refine Br.ne (fun _ => ?_) (fun _ => ?_)) <;> try (exfalso; omega)) | ((with_reducible refine brNdec (fun _ => ?_) (fun _ => ?_)) <;> try (exfalso; omega)) | ((with_reducible refine brNeq (fun _ => ?_) (fun _ => ?_)) <;> try (exfalso; omega)) | with_reducible refine Br.intro (fun _ => ?_) (fun _ => ?_) | (with_reducible apply pcallE.of; · exact hR) | (with_reducible refine And.intro ?_ ?_; · omega) | simp -dsimp -implicitDefEqProofs (disch := omega) only [↓vcOps_sp 9, ↓vcD_sp 9, ↓vcOps_sp 18, ↓vcD_sp 18, ↓vcOps_sp 23, ↓vcD_sp 23, VCA, pg_gl, ↓upd_none, Nat.reduceEqDiff, Nat.reduceBEq, Nat.reduceAdd, Nat.reduceSub, Nat.reduceMul, Nat.reduceLT, Nat.reduceLeDiff, ↓reduceIte, reduceCtorEq, rsOf, rootsOf, SOp.rd, SI.rd, SX.rd, rdL, rdO, rdP, okParts, eqCells, okEqCells, fillA, okFill, setAt, implies_true, forall_const, forall_eq, ne_eq, exists_eq_right_right, exists_eq_right, exists_eq_left, exists_eq_left', eInt, eBool, lit_eq, eDoc, eP])
      all_goals exact Sub.refl _
  · have hE : pointE d p = 1 := by unfold pointE; rw [if_pos (fun hh => hn hh.1)]
    unfold inD at hn
    simp -dsimp -implicitDefEqProofs (disch := omega) only [↓vcOps_sp 9, ↓vcD_sp 9, ↓vcOps_sp 18, ↓vcD_sp 18, ↓vcOps_sp 23, ↓vcD_sp 23, VCA, pg_gl, ↓upd_none, Nat.reduceEqDiff, Nat.reduceBEq, Nat.reduceAdd, Nat.reduceSub, Nat.reduceMul, Nat.reduceLT, Nat.reduceLeDiff, ↓reduceIte, reduceCtorEq, rsOf, rootsOf, SOp.rd, SI.rd, SX.rd, rdL, rdO, rdP, okParts, eqCells, okEqCells, fillA, okFill, setAt, implies_true, forall_const, forall_eq, ne_eq, exists_eq_right_right, exists_eq_right, exists_eq_left, exists_eq_left', eInt, eBool, lit_eq, c125, eDoc, eP, hE]
    repeat' (first | ((with_reducible refine Br.dec (fun _ => ?_) (fun _ => ?_)) <;> try (exfalso; omega)) | ((with_reducible refine Br.eq (fun _ => ?_) (fun _ => ?_)) <;> try (exfalso; omega)) | ((with_reducible refine Br.ne (fun _ => ?_) (fun _ => ?_)) <;> try (exfalso; omega)) | ((with_reducible refine brNdec (fun _ => ?_) (fun _ => ?_)) <;> try (exfalso; omega)) | ((with_reducible refine brNeq (fun _ => ?_) (fun _ => ?_)) <;> try (exfalso; omega)) | with_reducible refine Br.intro (fun _ => ?_) (fun _ => ?_) | (with_reducible refine And.intro ?_ ?_; · omega) | simp -dsimp -implicitDefEqProofs (disch := omega) only [↓vcOps_sp 9, ↓vcD_sp 9, ↓vcOps_sp 18, ↓vcD_sp 18, ↓vcOps_sp 23, ↓vcD_sp 23, VCA, pg_gl, ↓upd_none, Nat.reduceEqDiff, Nat.reduceBEq, Nat.reduceAdd, Nat.reduceSub, Nat.reduceMul, Nat.reduceLT, Nat.reduceLeDiff, ↓reduceIte, reduceCtorEq, rsOf, rootsOf, SOp.rd, SI.rd, SX.rd, rdL, rdO, rdP, okParts, eqCells, okEqCells, fillA, okFill, setAt, implies_true, forall_const, forall_eq, ne_eq, exists_eq_right_right, exists_eq_right, exists_eq_left, exists_eq_left', eInt, eBool, lit_eq, eDoc, eP])
    all_goals exact Sub.refl _
end Go.Proofs.K
end
section
/- Ranges: the order of points, plain law. -/
set_option linter.unusedSimpArgs false
set_option linter.unusedVariables false
namespace Go.Proofs.K
open Go Go.Sim Go.Proofs
/-! ## lists by their order -/
theorem cmpI_self (a : Int) : cmpI a a = 0 := by unfold cmpI; rw [if_neg (by omega), if_neg (by omega)]
theorem cmpI_neg (a b : Int) : cmpI b a = - cmpI a b := by unfold cmpI; split <;> split <;> omega
theorem cmpL_self : ∀ p : List Int, cmpL p p = 0
  | [] => rfl
  | x :: p => by unfold cmpL; rw [if_neg (by rw [cmpI_self]; simp), cmpL_self p]
theorem cmpL_neg : ∀ p q : List Int, cmpL q p = - cmpL p q
  | [], [] => rfl
  | [], _ :: _ => rfl
  | _ :: _, [] => rfl
  | x :: p, y :: q => by
    unfold cmpL
    rw [cmpI_neg x y, cmpL_neg p q]
    by_cases h : cmpI x y = 0
    · rw [if_neg (by rw [h]; simp), if_neg (by rw [h]; simp)]
    · rw [if_pos (by omega), if_pos h]
theorem cmpL_pre : ∀ (a p q : List Int), cmpL (a ++ p) (a ++ q) = cmpL p q
  | [], p, q => rfl
  | x :: a, p, q => by
    have e : cmpL (x :: (a ++ p)) (x :: (a ++ q)) = if cmpI x x ≠ 0 then cmpI x x else cmpL (a ++ p) (a ++ q) := by rw [cmpL]
    show cmpL (x :: (a ++ p)) (x :: (a ++ q)) = _
    rw [e, if_neg (by rw [cmpI_self]; simp), cmpL_pre a p q]
theorem cmpL_head {x y : Int} (h : x < y) (p q : List Int) : cmpL (x :: p) (y :: q) = -1 := by
  unfold cmpL cmpI; rw [if_pos h]; simp
theorem cmpL_one (x y : Int) : cmpL [x] [y] = cmpI x y := by
  unfold cmpL
  by_cases h : cmpI x y = 0
  · rw [if_neg (by rw [h]; simp), h]; rfl
  · rw [if_pos h]
/-! ## all points of a tree, in their order -/
def textM (x : HNode) : List UInt8 := if x.kind = 5 then [] else x.text
def mkF : Nat → HDoc → Int → List HPoint
  | 0, _, n => [⟨n, 0⟩]
  | f + 1, d, n => ⟨n, 0⟩ :: ((List.range (nd d n).kids.length).flatMap (fun i => mkF f d (nth (nd d n).kids i) ++ [⟨n, (i : Int) + 1⟩]) ++ (List.range (textM (nd d n)).length).map fun i => ⟨n, (i : Int) + 1⟩)
def marks (d : HDoc) (n : Int) : List HPoint := mkF (41 - up d n) d n
theorem flatMap_cong {α β : Type} {l : List α} {f g : α → List β} (h : ∀ a ∈ l, f a = g a) : l.flatMap f = l.flatMap g := by
  induction l with
  | nil => rfl
  | cons a l ih => rw [List.flatMap_cons, List.flatMap_cons, h a List.mem_cons_self, ih fun b hb => h b (List.mem_cons_of_mem _ hb)]
section
variable {d : HDoc}
theorem marks_eq (V : DV d) {n : Int} (hn : inD d n) : marks d n = ⟨n, 0⟩ :: ((List.range (nd d n).kids.length).flatMap (fun i => marks d (nth (nd d n).kids i) ++ [⟨n, (i : Int) + 1⟩]) ++ (List.range (textM (nd d n)).length).map fun i => ⟨n, (i : Int) + 1⟩) := by
  have h40 := V.deep n hn
  obtain ⟨f, hf⟩ : ∃ f, 41 - up d n = f + 1 := ⟨40 - up d n, by omega⟩
  have e : mkF (41 - up d n) d n = mkF (f + 1) d n := by rw [hf]
  show mkF (41 - up d n) d n = _
  rw [e, mkF]
  rw [flatMap_cong (g := fun i => marks d (nth (nd d n).kids i) ++ [⟨n, (i : Int) + 1⟩]) fun i hi => ?_]
  have hi := List.mem_range.1 hi
  have hu := V.up_kid hn (nth_mem' hi)
  show mkF f d _ ++ _ = mkF (41 - up d _) d _ ++ _
  rw [show 41 - up d (nth (nd d n).kids i) = f by omega]
/-- texts have no kids, and what has kids has no text -/
theorem node_split (V : DV d) {n : Int} (hn : inD d n) : ((nd d n).kids = [] ∧ roomM d n = (textM (nd d n)).length) ∨ (textM (nd d n) = [] ∧ roomM d n = (nd d n).kids.length ∧ (nd d n).kind ≠ 3) := by
  have h := V.node n hn
  unfold nodeE at h
  split at h
  · omega
  · rename_i hb
    have hb : bareM (nd d n) = true := by
      cases hb2 : bareM (nd d n) with
      | true => rfl
      | false => exact absurd (.inr (.inr hb2)) hb
    unfold bareM at hb
    simp only [Bool.and_eq_true, Bool.or_eq_true, decide_eq_true_eq] at hb
    obtain ⟨⟨_, ht⟩, hk⟩ := hb
    unfold roomM textM
    by_cases h3 : (nd d n).kind = 3 ∨ (nd d n).kind = 4
    · left
      rw [if_pos h3, if_neg (by omega)]
      refine ⟨?_, rfl⟩
      rcases hk with (hk | hk) | hk
      · omega
      · omega
      · exact hk
    · right
      rw [if_neg h3]
      refine ⟨?_, rfl, fun e => h3 (.inl e)⟩
      split
      · rfl
      · rcases ht with (ht | ht) | ht
        · exact absurd (.inl ht) h3
        · exact absurd (.inr ht) h3
        · exact ht
def pre (d : HDoc) (n : Int) : List Int := (rkey d n).reverse
theorem key_pre (d : HDoc) (n a : Int) : key d ⟨n, a⟩ = pre d n ++ [2 * a] := by unfold key pre; rw [List.reverse_cons]
theorem pre_kid (V : DV d) {n : Int} (hn : inD d n) {i : Nat} (hi : i < (nd d n).kids.length) : pre d (nth (nd d n).kids i) = pre d n ++ [2 * (i : Int) + 1] := by
  have hm := nth_mem' hi
  obtain ⟨h1, h2⟩ := V.kid n hn _ hm
  have h0 : 0 < nth (nd d n).kids i := by
    have := h1.1
    have hne : nth (nd d n).kids i ≠ 0 := fun e => by rw [e, V.root] at h2; have := hn.1; omega
    omega
  have hp : 0 ≤ (nd d (nth (nd d n).kids i)).parent := by rw [h2]; exact hn.1
  unfold pre
  rw [rkey_up V h1 h0 hp, h2, nodup_at (V.nodup n hn) hi, List.reverse_cons]
theorem marks_key (V : DV d) : ∀ n, inD d n → ∀ p ∈ marks d n, ∃ t, t ≠ [] ∧ key d p = pre d n ++ t := V.down fun n hn ih p hp => by
  rw [marks_eq V hn] at hp
  rcases List.mem_cons.1 hp with rfl | hp
  · exact ⟨_, by simp, key_pre _ _ _⟩
  · rcases List.mem_append.1 hp with hp | hp
    · obtain ⟨i, hi, hp⟩ := List.mem_flatMap.1 hp
      have hi := List.mem_range.1 hi
      rcases List.mem_append.1 hp with hp | hp
      · obtain ⟨t, h1, h2⟩ := ih _ (nth_mem' hi) p hp
        exact ⟨(2 * (i : Int) + 1) :: t, by simp, by rw [h2, pre_kid V hn hi]; simp⟩
      · simp only [List.mem_singleton] at hp; subst hp
        exact ⟨_, by simp, key_pre _ _ _⟩
    · obtain ⟨i, hi, rfl⟩ := List.mem_map.1 hp
      exact ⟨_, by simp, key_pre _ _ _⟩
theorem marks_part (V : DV d) {n : Int} (hn : inD d n) {i : Nat} (hi : i < (nd d n).kids.length) {p : HPoint} (hp : p ∈ marks d (nth (nd d n).kids i) ++ [⟨n, (i : Int) + 1⟩]) :
    ∃ x t, key d p = pre d n ++ x :: t ∧ 2 * (i : Int) + 1 ≤ x ∧ x ≤ 2 * (i : Int) + 2 := by
  rcases List.mem_append.1 hp with hp | hp
  · obtain ⟨t, h1, h2⟩ := marks_key V _ (V.kid n hn _ (nth_mem' hi)).1 p hp
    exact ⟨2 * (i : Int) + 1, t, by rw [h2, pre_kid V hn hi]; simp, by omega, by omega⟩
  · simp only [List.mem_singleton] at hp; subst hp
    exact ⟨2 * ((i : Int) + 1), [], key_pre _ _ _, by omega, by omega⟩
def ltP (d : HDoc) (p q : HPoint) : Prop := cmpL (key d p) (key d q) = -1
theorem marks_sorted (V : DV d) : ∀ n, inD d n → (marks d n).Pairwise (ltP d) := V.down fun n hn ih => by
  rw [marks_eq V hn, List.pairwise_cons]
  constructor
  · intro q hq
    unfold ltP
    rw [key_pre]
    rcases List.mem_append.1 hq with hq | hq
    · obtain ⟨i, hi, hq⟩ := List.mem_flatMap.1 hq
      obtain ⟨x, t, h1, h2, h3⟩ := marks_part V hn (List.mem_range.1 hi) hq
      rw [h1, cmpL_pre, cmpL_head (by omega)]
    · obtain ⟨i, hi, rfl⟩ := List.mem_map.1 hq
      rw [key_pre, cmpL_pre, cmpL_head (by omega)]
  · rw [List.pairwise_append]
    refine ⟨?_, ?_, ?_⟩
    · rw [List.pairwise_flatMap]
      constructor
      · intro i hi
        have hi := List.mem_range.1 hi
        rw [List.pairwise_append]
        refine ⟨ih _ (nth_mem' hi), by simp, fun p hp q hq => ?_⟩
        simp only [List.mem_singleton] at hq; subst hq
        obtain ⟨t, h1, h2⟩ := marks_key V _ (V.kid n hn _ (nth_mem' hi)).1 p hp
        unfold ltP
        rw [h2, key_pre, pre_kid V hn hi, List.append_assoc, cmpL_pre]
        exact cmpL_head (by omega) _ _
      · refine List.Pairwise.imp_of_mem (R := fun a b => a < b) ?_ List.pairwise_lt_range
        intro i j hi hj hij p hp q hq
        obtain ⟨x, t, h1, h2, h3⟩ := marks_part V hn (List.mem_range.1 hi) hp
        obtain ⟨y, u, g1, g2, g3⟩ := marks_part V hn (List.mem_range.1 hj) hq
        unfold ltP
        rw [h1, g1, cmpL_pre, cmpL_head (by omega)]
    · rw [List.pairwise_map]
      refine List.Pairwise.imp (R := fun a b => a < b) ?_ List.pairwise_lt_range
      intro i j hij
      unfold ltP
      rw [key_pre, key_pre, cmpL_pre, cmpL_head (by omega)]
    · rcases node_split V hn with ⟨hk, _⟩ | ⟨ht, _⟩
      · rw [hk]; intro p hp; simp at hp
      · rw [ht]; intro p _ q hq; simp at hq
theorem idx_nd {α : Type} [DecidableEq α] [Inhabited α] {l : List α} (hn : l.Nodup) {A B : List α} {x : α} (h : l = A ++ x :: B) : idxM (· == x) l = A.length := by
  have hl : A.length < l.length := by rw [h]; simp
  refine idxM_some hl (fun j hj => ?_) (by rw [h]; simp [nth, List.getD_eq_getElem?_getD])
  have : nth l j ∈ A := by
    have e : nth l j = nth A j := by rw [h]; unfold nth; rw [List.getD_eq_getElem?_getD, List.getElem?_append_left hj, ← List.getD_eq_getElem?_getD]
    rw [e]; exact nth_mem' hj
  rw [beq_eq_false_iff_ne]
  intro e
  rw [h, List.nodup_append] at hn
  exact hn.2.2 (nth l j) this x List.mem_cons_self e
theorem sorted_nodup {l : List HPoint} (h : l.Pairwise (ltP d)) : l.Nodup := h.imp fun {a b} hab e => by
  subst e; unfold ltP at hab; rw [cmpL_self] at hab; omega
theorem sorted_idx {l : List HPoint} (h : l.Pairwise (ltP d)) {p q : HPoint} (hp : p ∈ l) (hq : q ∈ l) : cmpL (key d p) (key d q) = cmpI (idxM (· == p) l) (idxM (· == q) l) := by
  have hn := sorted_nodup h
  have two : ∀ {A B C : List HPoint} {p q : HPoint}, l = A ++ p :: (B ++ q :: C) → ltP d p q ∧ idxM (· == p) l < idxM (· == q) l := fun {A B C p q} e => by
    constructor
    · rw [e, List.pairwise_append] at h
      exact (List.pairwise_cons.1 h.2.1).1 q (by simp)
    · rw [idx_nd hn e, idx_nd hn (A := A ++ p :: B) (B := C) (x := q) (by rw [e]; simp)]
      simp; omega
  obtain ⟨A, B, e⟩ := List.append_of_mem hp
  have hq' := hq
  rw [e] at hq'
  rcases List.mem_append.1 hq' with hq' | hq'
  · obtain ⟨A1, A2, e2⟩ := List.append_of_mem hq'
    obtain ⟨h1, h2⟩ := two (A := A1) (B := A2) (C := B) (p := q) (q := p) (by rw [e, e2]; simp)
    unfold ltP at h1
    rw [cmpL_neg, h1]
    unfold cmpI; rw [if_neg (by omega), if_pos h2]; rfl
  · rcases List.mem_cons.1 hq' with rfl | hq'
    · rw [cmpL_self, cmpI_self]
    · obtain ⟨A1, A2, e2⟩ := List.append_of_mem hq'
      obtain ⟨h1, h2⟩ := two (A := A) (B := A1) (C := A2) (p := p) (q := q) (by rw [e, e2])
      unfold ltP at h1
      rw [h1]
      unfold cmpI; rw [if_pos h2]
theorem marks_has (V : DV d) {n a : Int} (hn : inD d n) (h0 : 0 ≤ a) (h1 : a ≤ roomM d n) : (⟨n, a⟩ : HPoint) ∈ marks d n := by
  rw [marks_eq V hn]
  by_cases hz : a = 0
  · subst hz; exact List.mem_cons_self
  · refine List.mem_cons_of_mem _ (List.mem_append.2 ?_)
    obtain ⟨k, hk⟩ : ∃ k : Nat, a = (k : Int) + 1 := ⟨(a - 1).toNat, by omega⟩
    subst hk
    rcases node_split V hn with ⟨_, hr⟩ | ⟨_, hr, _⟩
    · exact .inr (List.mem_map.2 ⟨k, List.mem_range.2 (by omega), rfl⟩)
    · exact .inl (List.mem_flatMap.2 ⟨k, List.mem_range.2 (by omega), by simp⟩)
theorem marks_sub (V : DV d) : ∀ n, inD d n → ∀ m ∈ below d n, ∀ p ∈ marks d m, p ∈ marks d n := V.down fun n hn ih m hm p hp => by
  rw [below_eq V hn] at hm
  rcases List.mem_cons.1 hm with rfl | hm
  · exact hp
  · obtain ⟨k, hk, hm⟩ := List.mem_flatMap.1 hm
    obtain ⟨i, hi, rfl⟩ := mem_nth hk
    rw [marks_eq V hn]
    exact List.mem_cons_of_mem _ (List.mem_append.2 (.inl (List.mem_flatMap.2 ⟨i, List.mem_range.2 hi, List.mem_append.2 (.inl (ih _ hk m hm p hp))⟩)))
theorem point_marks (V : DV d) {p : HPoint} (h : pointE d p = 0) : inD d p.node ∧ 0 ≤ p.at' ∧ p.at' ≤ roomM d p.node ∧ 0 ∈ chain d p.node ∧ p ∈ marks d 0 := by
  unfold pointE at h
  split at h
  · omega
  · rename_i h1
    have h1 := Classical.not_not.1 h1
    split at h
    · omega
    · rename_i h2
      have h2 := Classical.not_not.1 h2
      exact ⟨h1.1, h1.2.1, h1.2.2, h2, marks_sub V 0 V.zero _ ((mem_below V h1.1 V.zero).2 h2) _ (marks_has V h1.1 h1.2.1 h1.2.2)⟩
/-- the order of two points -/
def orderM (d : HDoc) (a b : HPoint) : Int := if a.node = b.node then cmpI a.at' b.at' else cmpL (key d a) (key d b)
theorem order_key (d : HDoc) (a b : HPoint) : orderM d a b = cmpL (key d a) (key d b) := by
  unfold orderM
  split
  · rename_i h
    obtain ⟨n, x⟩ := a
    obtain ⟨m, y⟩ := b
    simp only at h
    subst h
    rw [key_pre, key_pre, cmpL_pre, cmpL_one]
    show cmpI x y = cmpI (2 * x) (2 * y)
    unfold cmpI
    by_cases h1 : x < y
    · rw [if_pos h1, if_pos (by omega)]
    · rw [if_neg h1, if_neg (show ¬ 2 * x < 2 * y by omega)]
      by_cases h2 : y < x
      · rw [if_pos h2, if_pos (by omega)]
      · rw [if_neg h2, if_neg (by omega)]
  · rfl
def markM (d : HDoc) (p : HPoint) : Int := idxM (· == p) (marks d 0)
theorem order_mark (V : DV d) {p q : HPoint} (hp : p ∈ marks d 0) (hq : q ∈ marks d 0) : orderM d p q = cmpI (markM d p) (markM d q) := by
  rw [order_key, sorted_idx (marks_sorted V 0 V.zero) hp hq]; rfl
end
end Go.Proofs.K
end
section
/- Ranges: order, points, span, Check, Less; the reference's errors. -/
set_option linter.unusedSimpArgs false
set_option linter.unusedVariables false
namespace Go.Proofs.K
open Go Go.Sim Go.Proofs
variable {G : Glob}
theorem eP_len (p : HPoint) : (eP p).length = 2 := rfl
theorem eP_take (p : HPoint) : (eP p).take 2 = eP p := rfl
theorem eP_drop (p : HPoint) : (eP p).drop 2 = [] := rfl
theorem key_len {d : HDoc} (V : DV d) {p : HPoint} (hn : inD d p.node) : (key d p).length ≤ 42 := by
  have := rkey_len V hn
  unfold key; simp; omega
def c88 : SFun := ⟨(.seq (.reg [⟨(some 3), (.boxF 124 2 (.t 0)), none⟩, ⟨(some 4), (.boxF 50 2 (.t 1)), none⟩, ⟨(some 5), (.boxF 50 2 (.t 2)), none⟩, ⟨(some 6), (.mv (.c (.int .i64 (0)))), none⟩]) (.seq (.seq (.reg [⟨(some 7), (.fldA 0 (.t 4)), none⟩, ⟨(some 8), (.ld 1 false (.t 7)), none⟩, ⟨(some 9), (.fldA 0 (.t 5)), none⟩, ⟨(some 10), (.ld 1 false (.t 9)), none⟩, ⟨(some 11), (.bin .eql (.t 8) (.t 10)), none⟩]) (.cond (.t 11) (.seq (.reg [⟨(some 12), (.fldA 1 (.t 4)), none⟩, ⟨(some 13), (.ld 1 false (.t 12)), none⟩, ⟨(some 14), (.fldA 1 (.t 5)), none⟩, ⟨(some 15), (.ld 1 false (.t 14)), none⟩, ⟨(some 16), (.pcall 126 [(.t 13), (.t 15)]), none⟩, ⟨(some 6), (.mv (.t 16)), none⟩]) .ret) .skip)) (.seq (.dreg [(⟨(some 17), (.ld 2 true (.t 3)), none⟩, none), (⟨(some 18), (.ld 2 true (.t 4)), none⟩, none), (⟨(some 19), (.pcall 128 [(.t 17), (.t 18)]), none⟩, none), (⟨(some 20), (.ld 2 true (.t 3)), none⟩, none), (⟨(some 21), (.ld 2 true (.t 5)), none⟩, none), (⟨(some 22), (.pcall 128 [(.t 20), (.t 21)]), none⟩, none), (⟨(some 23), (.pcall 127 [(.t 19), (.t 22)]), none⟩, none), (⟨(some 6), (.mv (.t 23)), none⟩, none)]) .ret))), [(.tmp 6)]⟩
theorem hc88 : toSF Tryd.prog {pure := [126, 127, 128]} Tryd.f88 = some c88 := by kernel_rfl
theorem hn88 : (Tryd.f88.name == "runtime.NumGoroutine") = false := by kernel_rfl
theorem order_ok (d : HDoc) (V : DV d) (sm : DocSm d) (p q : HPoint) (hp : pointE d p = 0) (hq : pointE d q = 0) : PCalls (Pg G) 88 [.agg (eDoc d), .agg (eP p), .agg (eP q)] (aInt (orderM d p q)) := fun h => by
  obtain ⟨p1, p2, p3, p4, p5⟩ := point_marks V hp
  obtain ⟨q1, q2, q3, q4, q5⟩ := point_marks V hq
  have rp := room_le sm p.node
  have rq := room_le sm q.node
  have hC := cmp_ok (G := G) p.at' q.at'
  have hP := spath_ok (G := G) d V sm p p1 p4 ⟨p2, by omega⟩
  have hQ := spath_ok (G := G) d V sm q q1 q4 ⟨q2, by omega⟩
  have hL := cmpL_ok (G := G) (key d p) (key d q) (by have := key_len V p1; omega) (by have := key_len V q1; omega)
  unfold eDoc eP at hP hQ
  refine dcalls_of_vc Tryd.func88 hn88 hc88 (by rw [Tryd.ntmps88]; simp) (by rw [Tryd.ntmps88]; decide) ?_
  unfold orderM
  by_cases h1 : p.node = q.node
  · rw [if_pos h1]
    simp -dsimp -implicitDefEqProofs (disch := omega) only [VCA, pg_gl, ↓upd_none, Nat.reduceEqDiff, Nat.reduceBEq, Nat.reduceAdd, Nat.reduceSub, Nat.reduceMul, Nat.reduceLT, Nat.reduceLeDiff, ↓reduceIte, reduceCtorEq, rsOf, rootsOf, SOp.rd, SI.rd, SX.rd, rdL, rdO, rdP, okParts, eqCells, okEqCells, fillA, okFill, setAt, implies_true, forall_const, forall_eq, ne_eq, exists_eq_right_right, exists_eq_right, exists_eq_left, exists_eq_left', eInt, eBool, lit_eq, c88, eP, eDoc]
    repeat' (first | ((with_reducible refine Br.dec (fun _ => ?_) (fun _ => ?_)) <;> try (exfalso; omega)) | ((with_reducible refine Br.eq (fun _ => ?_) (fun _ => ?_)) <;> try (exfalso; omega)) | ((with_reducible refine Br.ne (fun _ => ?_) (fun _ => ?_)) <;> try (exfalso; omega)) | ((with_reducible refine brNdec (fun _ => ?_) (fun _ => ?_)) <;> try (exfalso; omega)) | ((with_reducible refine brNeq (fun _ => ?_) (fun _ => ?_)) <;> try (exfalso; omega)) | with_reducible refine Br.intro (fun _ => ?_) (fun _ => ?_) | (with_reducible apply pcallE.of; · exact hC) | (with_reducible refine And.intro ?_ ?_; · omega) | simp -dsimp -implicitDefEqProofs (disch := omega) only [VCA, pg_gl, ↓upd_none, Nat.reduceEqDiff, Nat.reduceBEq, Nat.reduceAdd, Nat.reduceSub, Nat.reduceMul, Nat.reduceLT, Nat.reduceLeDiff, ↓reduceIte, reduceCtorEq, rsOf, rootsOf, SOp.rd, SI.rd, SX.rd, rdL, rdO, rdP, okParts, eqCells, okEqCells, fillA, okFill, setAt, implies_true, forall_const, forall_eq, ne_eq, exists_eq_right_right, exists_eq_right, exists_eq_left, exists_eq_left', eInt, eBool, lit_eq, eP, eDoc])
    all_goals exact Sub.refl _
  · rw [if_neg h1]
    simp -dsimp -implicitDefEqProofs (disch := omega) only [VCA, pg_gl, ↓upd_none, Nat.reduceEqDiff, Nat.reduceBEq, Nat.reduceAdd, Nat.reduceSub, Nat.reduceMul, Nat.reduceLT, Nat.reduceLeDiff, ↓reduceIte, reduceCtorEq, rsOf, rootsOf, SOp.rd, SI.rd, SX.rd, rdL, rdO, rdP, okParts, eqCells, okEqCells, fillA, okFill, setAt, implies_true, forall_const, forall_eq, ne_eq, exists_eq_right_right, exists_eq_right, exists_eq_left, exists_eq_left', eInt, eBool, lit_eq, c88, eP, eDoc]
    repeat' (first | ((with_reducible refine Br.dec (fun _ => ?_) (fun _ => ?_)) <;> try (exfalso; omega)) | ((with_reducible refine Br.eq (fun _ => ?_) (fun _ => ?_)) <;> try (exfalso; omega)) | ((with_reducible refine Br.ne (fun _ => ?_) (fun _ => ?_)) <;> try (exfalso; omega)) | ((with_reducible refine brNdec (fun _ => ?_) (fun _ => ?_)) <;> try (exfalso; omega)) | ((with_reducible refine brNeq (fun _ => ?_) (fun _ => ?_)) <;> try (exfalso; omega)) | with_reducible refine Br.intro (fun _ => ?_) (fun _ => ?_) | (with_reducible apply pcallE.of; · exact hP) | (with_reducible apply pcallE.of; · exact hQ) | (with_reducible apply pcallE.of; · exact hL) | (with_reducible refine And.intro ?_ ?_; · omega) | simp -dsimp -implicitDefEqProofs (disch := omega) only [VCA, pg_gl, ↓upd_none, Nat.reduceEqDiff, Nat.reduceBEq, Nat.reduceAdd, Nat.reduceSub, Nat.reduceMul, Nat.reduceLT, Nat.reduceLeDiff, ↓reduceIte, reduceCtorEq, rsOf, rootsOf, SOp.rd, SI.rd, SX.rd, rdL, rdO, rdP, okParts, eqCells, okEqCells, fillA, okFill, setAt, implies_true, forall_const, forall_eq, ne_eq, exists_eq_right_right, exists_eq_right, exists_eq_left, exists_eq_left', eInt, eBool, lit_eq, eP, eDoc])
    all_goals exact Sub.refl _
def pointsE (d : HDoc) (l : List HPoint) : Int := if docE d ≠ 0 then docE d else fe l.length fun j => pointE d (nth l j)
def c87 : SFun := ⟨(.seq (.reg [⟨(some 2), (.boxF 24 2 (.t 0)), none⟩, ⟨(some 4), (.new 124 2 [.emp, (.bool false)]), none⟩, ⟨(some 5), (.mv (.c (.int .i64 (0)))), none⟩]) (.seq (.reg [⟨(some 11), (.ld 2 true (.t 2)), none⟩, ⟨(some 12), (.bld [.emp, (.bool false)] [(0, (2, (.t 11)))]), none⟩, ⟨(some 6), (.new 124 2 [.emp, (.bool false)]), none⟩, ⟨none, (.st 2 (.t 6) (.t 12)), none⟩]) (.seq (.seq (.reg [⟨(some 13), (.ld 2 true (.t 2)), none⟩, ⟨(some 14), (.pcall 52 [(.t 13)]), none⟩, ⟨(some 7), (.mv (.t 14)), none⟩]) (.seq (.reg [⟨(some 15), (.mv (.t 7)), none⟩, ⟨(some 16), (.bin .neq (.t 15) (.c (.int .i64 (0)))), none⟩]) (.cond (.t 16) (.seq (.reg [⟨(some 17), (.ld 2 true (.t 6)), none⟩, ⟨(some 18), (.mv (.t 7)), none⟩, ⟨none, (.st 2 (.t 4) (.t 17)), none⟩, ⟨(some 5), (.mv (.t 18)), none⟩]) .ret) .skip))) (.seq (.seq (.reg [⟨(some 19), (.mv (.t 1)), none⟩, ⟨(some 20), (.len (.t 19)), none⟩, ⟨(some 21), (.mv (.c (.int .i64 (0)))), none⟩]) (.block 0 (.loop (.seq (.reg [⟨(some 22), (.bin .lss (.t 21) (.t 20)), none⟩]) (.seq (.cond (.t 22) .skip (.exit 0)) (.seq (.block 1 (.seq (.reg [⟨(some 23), (.idxA 2 (.t 19) (.t 21)), none⟩, ⟨(some 24), (.ld 2 true (.t 23)), none⟩, ⟨(some 9), (.new 50 2 [(.int .i64 (0)), (.int .i64 (0))]), none⟩, ⟨none, (.st 2 (.t 9) (.t 24)), none⟩]) (.seq (.reg [⟨(some 25), (.ld 2 true (.t 6)), none⟩, ⟨(some 26), (.ld 2 true (.t 9)), none⟩, ⟨(some 27), (.pcall 125 [(.t 25), (.t 26)]), none⟩, ⟨(some 10), (.mv (.t 27)), none⟩]) (.seq (.reg [⟨(some 28), (.mv (.t 10)), none⟩, ⟨(some 29), (.bin .neq (.t 28) (.c (.int .i64 (0)))), none⟩]) (.cond (.t 29) (.seq (.reg [⟨(some 30), (.ld 2 true (.t 6)), none⟩, ⟨(some 31), (.mv (.t 10)), none⟩, ⟨none, (.st 2 (.t 4) (.t 30)), none⟩, ⟨(some 5), (.mv (.t 31)), none⟩]) .ret) .skip))))) (.reg [⟨(some 32), (.bin .add (.t 21) (.c (.int .i64 (1)))), none⟩, ⟨(some 21), (.mv (.t 32)), none⟩]))))))) (.seq (.reg [⟨(some 33), (.ld 2 true (.t 6)), none⟩, ⟨none, (.st 2 (.t 4) (.t 33)), none⟩, ⟨(some 5), (.mv (.c (.int .i64 (0)))), none⟩]) .ret))))), [(.cell 4 2 true), (.tmp 5)]⟩
theorem hc87 : toSF Tryd.prog {pure := [52, 125]} Tryd.f87 = some c87 := by kernel_rfl
theorem hn87 : (Tryd.f87.name == "runtime.NumGoroutine") = false := by kernel_rfl
theorem points_ok (d : HDoc) (sm : DocSm d) (l : List HPoint) (hl : l.length ≤ 1073741824) : PCalls (Pg G) 87 [.agg (eDoc d), sl eP l] (.tup [.agg (eDoc d), aInt (pointsE d l)]) := fun h => by
  have hC := check_ok (G := G) d sm
  refine dcalls_of_vc Tryd.func87 hn87 hc87 (by rw [Tryd.ntmps87]; simp) (by rw [Tryd.ntmps87]; decide) ?_
  simp -dsimp -implicitDefEqProofs (disch := omega) only [VCA, pg_gl, ↓upd_none, Nat.reduceEqDiff, Nat.reduceBEq, Nat.reduceAdd, Nat.reduceSub, Nat.reduceMul, Nat.reduceLT, Nat.reduceLeDiff, ↓reduceIte, reduceCtorEq, rsOf, rootsOf, SOp.rd, SI.rd, SX.rd, rdL, rdO, rdP, okParts, eqCells, okEqCells, fillA, okFill, setAt, implies_true, forall_const, forall_eq, ne_eq, exists_eq_right_right, exists_eq_right, exists_eq_left, exists_eq_left', eInt, eBool, lit_eq, c87, eDoc_len, eDoc_take, eDoc_drop, List.append_nil]
  intro r4 h4 r6 h6
  have n1 : ¬ r4 = r6 := fun e => h6.1 e.symm
  have n2 : ¬ r6 = r4 := h6.1
  refine pcallE.of (hC) ?_; simp -dsimp -implicitDefEqProofs (disch := omega) only [VCA, pg_gl, ↓upd_none, Nat.reduceEqDiff, Nat.reduceBEq, Nat.reduceAdd, Nat.reduceSub, Nat.reduceMul, Nat.reduceLT, Nat.reduceLeDiff, ↓reduceIte, reduceCtorEq, rsOf, rootsOf, SOp.rd, SI.rd, SX.rd, rdL, rdO, rdP, okParts, eqCells, okEqCells, fillA, okFill, setAt, implies_true, forall_const, forall_eq, ne_eq, exists_eq_right_right, exists_eq_right, exists_eq_left, exists_eq_left', eInt, eBool, lit_eq, eDoc_len, eDoc_take, eDoc_drop, List.append_nil, upd_same]
  by_cases h1 : docE d = 0
  · have V := docE_DV h1
    rw [h1]
    refine Br.ne (fun hh => absurd rfl hh) (fun _ => ?_)
    have hE : pointsE d l = fe l.length fun j => pointE d (nth l j) := by unfold pointsE; rw [if_neg (by simpa using h1)]
    simp -dsimp -implicitDefEqProofs (disch := omega) only [VCA, pg_gl, ↓upd_none, Nat.reduceEqDiff, Nat.reduceBEq, Nat.reduceAdd, Nat.reduceSub, Nat.reduceMul, Nat.reduceLT, Nat.reduceLeDiff, ↓reduceIte, reduceCtorEq, rsOf, rootsOf, SOp.rd, SI.rd, SX.rd, rdL, rdO, rdP, okParts, eqCells, okEqCells, fillA, okFill, setAt, implies_true, forall_const, forall_eq, ne_eq, exists_eq_right_right, exists_eq_right, exists_eq_left, exists_eq_left', eInt, eBool, lit_eq]
    refine LoopVC.intro (fun m e h' => ∃ k : Nat, k ≤ l.length ∧ m = l.length - k ∧ e 4 = .vp r4 0 ∧ e 6 = .vp r6 0 ∧ e 19 = sl eP l ∧ e 20 = aInt l.length ∧ e 21 = aInt k ∧ h' r4 = some ⟨124, 2, [[.emp, .bool false]]⟩ ∧ h' r6 = some ⟨124, 2, [eDoc d]⟩ ∧ Sim.Sub h h' ∧ ∀ j, j < k → pointE d (nth l j) = 0) l.length ⟨0, by omega, by omega, rfl, rfl, rfl, rfl, rfl, ?_, ?_, ?_, by omega⟩ ?_
    · simp [upd, n1]
    · exact upd_same _ _ _
    · exact ((Sub.refl h).upd h4).upd h6.2
    rintro m e h' ⟨k, hk, rfl, he4, he6, he19, he20, he21, g4, g6, S, hj⟩
    simp -dsimp -implicitDefEqProofs (disch := omega) only [VCA, pg_gl, ↓upd_none, Nat.reduceEqDiff, Nat.reduceBEq, Nat.reduceAdd, Nat.reduceSub, Nat.reduceMul, Nat.reduceLT, Nat.reduceLeDiff, ↓reduceIte, reduceCtorEq, rsOf, rootsOf, SOp.rd, SI.rd, SX.rd, rdL, rdO, rdP, okParts, eqCells, okEqCells, fillA, okFill, setAt, implies_true, forall_const, forall_eq, ne_eq, exists_eq_right_right, exists_eq_right, exists_eq_left, exists_eq_left', eInt, eBool, lit_eq, he4, he6, he19, he20, he21]
    refine Br.dec (fun hlt => ?_) (fun hge => ?_)
    · have hk' : k < l.length := by omega
      have hP := point_ok (G := G) d V sm (nth l k)
      simp -dsimp -implicitDefEqProofs (disch := omega) only [VCA, pg_gl, ↓upd_none, Nat.reduceEqDiff, Nat.reduceBEq, Nat.reduceAdd, Nat.reduceSub, Nat.reduceMul, Nat.reduceLT, Nat.reduceLeDiff, ↓reduceIte, reduceCtorEq, rsOf, rootsOf, SOp.rd, SI.rd, SX.rd, rdL, rdO, rdP, okParts, eqCells, okEqCells, fillA, okFill, setAt, implies_true, forall_const, forall_eq, ne_eq, exists_eq_right_right, exists_eq_right, exists_eq_left, exists_eq_left', eInt, eBool, lit_eq, he4, he6, he19, he20, he21, eP_len, eP_take, eP_drop, List.append_nil]
      refine ⟨by omega, fun r9 h9 => ?_⟩
      have S9 : h r9 = none := by
        cases hh : h r9 with
        | none => rfl
        | some o => rw [S _ _ hh] at h9; cases h9
      have ne6 : ¬ r6 = r9 := fun e => by rw [e, h9] at g6; cases g6
      have ne4 : ¬ r4 = r9 := fun e => by rw [e, h9] at g4; cases g4
      simp -dsimp -implicitDefEqProofs (disch := omega) only [VCA, pg_gl, ↓upd_none, Nat.reduceEqDiff, Nat.reduceBEq, Nat.reduceAdd, Nat.reduceSub, Nat.reduceMul, Nat.reduceLT, Nat.reduceLeDiff, ↓reduceIte, reduceCtorEq, rsOf, rootsOf, SOp.rd, SI.rd, SX.rd, rdL, rdO, rdP, okParts, eqCells, okEqCells, fillA, okFill, setAt, implies_true, forall_const, forall_eq, ne_eq, exists_eq_right_right, exists_eq_right, exists_eq_left, exists_eq_left', eInt, eBool, lit_eq, he4, he6, he19, he20, he21, ne6, ne4, g6, g4, eDoc_len, eDoc_take, eDoc_drop, eP_len, eP_take, eP_drop, List.append_nil]
      refine pcallE.of (hP) ?_; simp -dsimp -implicitDefEqProofs (disch := omega) only [VCA, pg_gl, ↓upd_none, Nat.reduceEqDiff, Nat.reduceBEq, Nat.reduceAdd, Nat.reduceSub, Nat.reduceMul, Nat.reduceLT, Nat.reduceLeDiff, ↓reduceIte, reduceCtorEq, rsOf, rootsOf, SOp.rd, SI.rd, SX.rd, rdL, rdO, rdP, okParts, eqCells, okEqCells, fillA, okFill, setAt, implies_true, forall_const, forall_eq, ne_eq, exists_eq_right_right, exists_eq_right, exists_eq_left, exists_eq_left', eInt, eBool, lit_eq, he4, he6, he19, he20, he21, ne6, ne4, g6, g4, eDoc_len, eDoc_take, eDoc_drop, eP_len, eP_take, eP_drop, List.append_nil]
      refine Br.ne (fun h2 => ?_) (fun h2 => ?_)
      · simp -dsimp -implicitDefEqProofs (disch := omega) only [VCA, pg_gl, ↓upd_none, Nat.reduceEqDiff, Nat.reduceBEq, Nat.reduceAdd, Nat.reduceSub, Nat.reduceMul, Nat.reduceLT, Nat.reduceLeDiff, ↓reduceIte, reduceCtorEq, rsOf, rootsOf, SOp.rd, SI.rd, SX.rd, rdL, rdO, rdP, okParts, eqCells, okEqCells, fillA, okFill, setAt, implies_true, forall_const, forall_eq, ne_eq, exists_eq_right_right, exists_eq_right, exists_eq_left, exists_eq_left', eInt, eBool, lit_eq, he4, he6, he19, he20, he21, ne6, ne4, n1, n2, upd_same, g6, g4, eDoc_len, eDoc_take, eDoc_drop, List.append_nil]
        have hz : (fe l.length fun j => pointE d (nth l j)) = pointE d (nth l k) := fe_some hk' hj h2
        rw [hE, hz]
        exact ⟨(S.upd S9).upd h4, rfl⟩
      · simp -dsimp -implicitDefEqProofs (disch := omega) only [VCA, pg_gl, ↓upd_none, Nat.reduceEqDiff, Nat.reduceBEq, Nat.reduceAdd, Nat.reduceSub, Nat.reduceMul, Nat.reduceLT, Nat.reduceLeDiff, ↓reduceIte, reduceCtorEq, rsOf, rootsOf, SOp.rd, SI.rd, SX.rd, rdL, rdO, rdP, okParts, eqCells, okEqCells, fillA, okFill, setAt, implies_true, forall_const, forall_eq, ne_eq, exists_eq_right_right, exists_eq_right, exists_eq_left, exists_eq_left', eInt, eBool, lit_eq, he4, he6, he19, he20, he21]
        refine ⟨_, ?_, k + 1, by omega, rfl, by omega, ?_, ?_, ?_, ?_⟩
        · omega
        · rw [if_neg ne4]; exact g4
        · rw [if_neg ne6]; exact g6
        · exact S.upd S9
        · intro j hj'
          by_cases hjk : j = k
          · subst hjk; exact h2
          · exact hj j (by omega)
    · obtain rfl : k = l.length := by omega
      have hz : (fe l.length fun j => pointE d (nth l j)) = 0 := fe_none hj
      rw [hE, hz]
      simp -dsimp -implicitDefEqProofs (disch := omega) only [VCA, pg_gl, ↓upd_none, Nat.reduceEqDiff, Nat.reduceBEq, Nat.reduceAdd, Nat.reduceSub, Nat.reduceMul, Nat.reduceLT, Nat.reduceLeDiff, ↓reduceIte, reduceCtorEq, rsOf, rootsOf, SOp.rd, SI.rd, SX.rd, rdL, rdO, rdP, okParts, eqCells, okEqCells, fillA, okFill, setAt, implies_true, forall_const, forall_eq, ne_eq, exists_eq_right_right, exists_eq_right, exists_eq_left, exists_eq_left', eInt, eBool, lit_eq, he4, he6, g4, g6, eDoc_len, eDoc_take, eDoc_drop, List.append_nil]
      exact S.upd h4
  · have hE : pointsE d l = docE d := by unfold pointsE; rw [if_pos h1]
    rw [hE]
    repeat' (first | ((with_reducible refine Br.dec (fun _ => ?_) (fun _ => ?_)) <;> try (exfalso; omega)) | ((with_reducible refine Br.eq (fun _ => ?_) (fun _ => ?_)) <;> try (exfalso; omega)) | ((with_reducible refine Br.ne (fun _ => ?_) (fun _ => ?_)) <;> try (exfalso; omega)) | ((with_reducible refine brNdec (fun _ => ?_) (fun _ => ?_)) <;> try (exfalso; omega)) | ((with_reducible refine brNeq (fun _ => ?_) (fun _ => ?_)) <;> try (exfalso; omega)) | with_reducible refine Br.intro (fun _ => ?_) (fun _ => ?_) | (with_reducible refine And.intro ?_ ?_; · omega) | simp -dsimp -implicitDefEqProofs (disch := omega) only [VCA, pg_gl, ↓upd_none, Nat.reduceEqDiff, Nat.reduceBEq, Nat.reduceAdd, Nat.reduceSub, Nat.reduceMul, Nat.reduceLT, Nat.reduceLeDiff, ↓reduceIte, reduceCtorEq, rsOf, rootsOf, SOp.rd, SI.rd, SX.rd, rdL, rdO, rdP, okParts, eqCells, okEqCells, fillA, okFill, setAt, implies_true, forall_const, forall_eq, ne_eq, exists_eq_right_right, exists_eq_right, exists_eq_left, exists_eq_left', eInt, eBool, lit_eq, n1, n2, h1, upd_same, eDoc_len, eDoc_take, eDoc_drop, List.append_nil])
    exact (((Sub.refl h).upd h4).upd h6.2).upd h4
def spanE (d : HDoc) (s : HSpan) : Int := if pointsE d [s.a, s.b] ≠ 0 then pointsE d [s.a, s.b] else if 0 < orderM d s.a s.b then 9 else 0
theorem pointsE_zero {d : HDoc} {p q : HPoint} (h : pointsE d [p, q] = 0) : docE d = 0 ∧ pointE d p = 0 ∧ pointE d q = 0 := by
  unfold pointsE at h
  split at h
  · contradiction
  · rename_i h1
    have := fe_zero h
    exact ⟨by simpa using h1, this 0 (by simp), this 1 (by simp)⟩
def c82 : SFun := ⟨(.seq (.reg [⟨(some 2), (.boxF 24 2 (.t 0)), none⟩, ⟨(some 3), (.boxF 52 4 (.t 1)), none⟩, ⟨(some 4), (.new 124 2 [.emp, (.bool false)]), none⟩, ⟨(some 5), (.mv (.c (.int .i64 (0)))), none⟩]) (.seq (.reg [⟨(some 9), (.ld 2 true (.t 2)), none⟩, ⟨(some 10), (.fldA 0 (.t 3)), none⟩, ⟨(some 11), (.ld 2 true (.t 10)), none⟩, ⟨(some 12), (.fldA 2 (.t 3)), none⟩, ⟨(some 13), (.ld 2 true (.t 12)), none⟩, ⟨(some 14), (.bldF 50 2 [(.t 11), (.t 13)]), none⟩, ⟨(some 15), (.pcall 87 [(.t 9), (.t 14)]), none⟩, ⟨(some 8), (.mv (.t 15)), none⟩, ⟨(some 16), (.ext (.t 8) 0), none⟩, ⟨(some 17), (.ext (.t 8) 1), none⟩, ⟨(some 6), (.new 124 2 [.emp, (.bool false)]), none⟩, ⟨none, (.st 2 (.t 6) (.t 16)), none⟩, ⟨(some 7), (.mv (.t 17)), none⟩]) (.seq (.seq (.reg [⟨(some 18), (.mv (.t 7)), none⟩, ⟨(some 19), (.bin .eql (.t 18) (.c (.int .i64 (0)))), none⟩, ⟨(some 20), (.mv (.t 19)), none⟩, ⟨(some 21), (.ld 2 true (.t 6)), (some (20, true))⟩, ⟨(some 22), (.fldA 0 (.t 3)), (some (20, true))⟩, ⟨(some 23), (.ld 2 true (.t 22)), (some (20, true))⟩, ⟨(some 24), (.fldA 2 (.t 3)), (some (20, true))⟩, ⟨(some 25), (.ld 2 true (.t 24)), (some (20, true))⟩, ⟨(some 26), (.pcall 88 [(.t 21), (.t 23), (.t 25)]), (some (20, true))⟩, ⟨(some 27), (.bin .gtr (.t 26) (.c (.int .i64 (0)))), (some (20, true))⟩, ⟨(some 28), (.pick (.t 20) (.t 27) (.c (.bool false))), none⟩]) (.cond (.t 28) (.reg [⟨(some 7), (.mv (.c (.int .i64 (9)))), none⟩]) .skip)) (.seq (.reg [⟨(some 29), (.ld 2 true (.t 6)), none⟩, ⟨(some 30), (.mv (.t 7)), none⟩, ⟨none, (.st 2 (.t 4) (.t 29)), none⟩, ⟨(some 5), (.mv (.t 30)), none⟩]) .ret)))), [(.cell 4 2 true), (.tmp 5)]⟩
theorem hc82 : toSF Tryd.prog {pure := [87, 88]} Tryd.f82 = some c82 := by kernel_rfl
theorem hn82 : (Tryd.f82.name == "runtime.NumGoroutine") = false := by kernel_rfl
theorem span_ok (d : HDoc) (sm : DocSm d) (s : HSpan) : PCalls (Pg G) 82 [.agg (eDoc d), .agg (eS s)] (.tup [.agg (eDoc d), aInt (spanE d s)]) := fun h => by
  have hC : PCalls (Pg G) 87 [.agg (eDoc d), .slc [eP s.a, eP s.b]] (.tup [.agg (eDoc d), aInt (pointsE d [s.a, s.b])]) := points_ok (G := G) d sm [s.a, s.b] (by simp)
  unfold eP at hC
  refine dcalls_of_vc Tryd.func82 hn82 hc82 (by rw [Tryd.ntmps82]; simp) (by rw [Tryd.ntmps82]; decide) ?_
  simp -dsimp -implicitDefEqProofs (disch := omega) only [↓vcOps_sp 20, ↓vcD_sp 20, VCA, pg_gl, ↓upd_none, Nat.reduceEqDiff, Nat.reduceBEq, Nat.reduceAdd, Nat.reduceSub, Nat.reduceMul, Nat.reduceLT, Nat.reduceLeDiff, ↓reduceIte, reduceCtorEq, rsOf, rootsOf, SOp.rd, SI.rd, SX.rd, rdL, rdO, rdP, okParts, eqCells, okEqCells, fillA, okFill, setAt, implies_true, forall_const, forall_eq, ne_eq, exists_eq_right_right, exists_eq_right, exists_eq_left, exists_eq_left', eInt, eBool, lit_eq, c82, eDoc_len, eDoc_take, eDoc_drop, eS, eP, List.append_nil]
  intro r4 h4
  refine pcallE.of (hC) ?_; simp -dsimp -implicitDefEqProofs (disch := omega) only [↓vcOps_sp 20, ↓vcD_sp 20, VCA, pg_gl, ↓upd_none, Nat.reduceEqDiff, Nat.reduceBEq, Nat.reduceAdd, Nat.reduceSub, Nat.reduceMul, Nat.reduceLT, Nat.reduceLeDiff, ↓reduceIte, reduceCtorEq, rsOf, rootsOf, SOp.rd, SI.rd, SX.rd, rdL, rdO, rdP, okParts, eqCells, okEqCells, fillA, okFill, setAt, implies_true, forall_const, forall_eq, ne_eq, exists_eq_right_right, exists_eq_right, exists_eq_left, exists_eq_left', eInt, eBool, lit_eq, eDoc_len, eDoc_take, eDoc_drop, List.append_nil]
  intro r6 h6
  have n1 : ¬ r4 = r6 := fun e => h6.1 e.symm
  have n2 : ¬ r6 = r4 := h6.1
  have S : Sim.Sub h (upd (upd (upd h r4 (some ⟨124, 2, [[.emp, .bool false]]⟩)) r6 (some ⟨124, 2, [eDoc d]⟩)) r4 (some ⟨124, 2, [eDoc d]⟩)) := (((Sub.refl h).upd h4).upd h6.2).upd h4
  by_cases h1 : pointsE d [s.a, s.b] = 0
  · obtain ⟨hd, hp, hq⟩ := pointsE_zero h1
    have V := docE_DV hd
    have hO := order_ok (G := G) d V sm s.a s.b hp hq
    unfold eP at hO
    have hE : spanE d s = if 0 < orderM d s.a s.b then 9 else 0 := by unfold spanE; rw [if_neg (by simpa using h1)]
    rw [h1, hE]
    repeat' (first | ((with_reducible refine Br.dec (fun _ => ?_) (fun _ => ?_)) <;> try (exfalso; omega)) | ((with_reducible refine Br.eq (fun _ => ?_) (fun _ => ?_)) <;> try (exfalso; omega)) | ((with_reducible refine Br.ne (fun _ => ?_) (fun _ => ?_)) <;> try (exfalso; omega)) | ((with_reducible refine brNdec (fun _ => ?_) (fun _ => ?_)) <;> try (exfalso; omega)) | ((with_reducible refine brNeq (fun _ => ?_) (fun _ => ?_)) <;> try (exfalso; omega)) | with_reducible refine Br.intro (fun _ => ?_) (fun _ => ?_) | (with_reducible apply pcallE.of; · exact hO) | (with_reducible refine And.intro ?_ ?_; · omega) | simp -dsimp -implicitDefEqProofs (disch := omega) only [↓vcOps_sp 20, ↓vcD_sp 20, VCA, pg_gl, ↓upd_none, Nat.reduceEqDiff, Nat.reduceBEq, Nat.reduceAdd, Nat.reduceSub, Nat.reduceMul, Nat.reduceLT, Nat.reduceLeDiff, ↓reduceIte, reduceCtorEq, rsOf, rootsOf, SOp.rd, SI.rd, SX.rd, rdL, rdO, rdP, okParts, eqCells, okEqCells, fillA, okFill, setAt, implies_true, forall_const, forall_eq, ne_eq, exists_eq_right_right, exists_eq_right, exists_eq_left, exists_eq_left', eInt, eBool, lit_eq, n1, n2, upd_same, eDoc_len, eDoc_take, eDoc_drop, List.append_nil])
    · rename_i q; rw [if_pos q]
    · rename_i q; rw [if_neg q]
  · have hE : spanE d s = pointsE d [s.a, s.b] := by unfold spanE; rw [if_pos h1]
    rw [hE]
    repeat' (first | ((with_reducible refine Br.dec (fun _ => ?_) (fun _ => ?_)) <;> try (exfalso; omega)) | ((with_reducible refine Br.eq (fun _ => ?_) (fun _ => ?_)) <;> try (exfalso; omega)) | ((with_reducible refine Br.ne (fun _ => ?_) (fun _ => ?_)) <;> try (exfalso; omega)) | ((with_reducible refine brNdec (fun _ => ?_) (fun _ => ?_)) <;> try (exfalso; omega)) | ((with_reducible refine brNeq (fun _ => ?_) (fun _ => ?_)) <;> try (exfalso; omega)) | with_reducible refine Br.intro (fun _ => ?_) (fun _ => ?_) | (with_reducible refine And.intro ?_ ?_; · omega) | simp -dsimp -implicitDefEqProofs (disch := omega) only [↓vcOps_sp 20, ↓vcD_sp 20, VCA, pg_gl, ↓upd_none, Nat.reduceEqDiff, Nat.reduceBEq, Nat.reduceAdd, Nat.reduceSub, Nat.reduceMul, Nat.reduceLT, Nat.reduceLeDiff, ↓reduceIte, reduceCtorEq, rsOf, rootsOf, SOp.rd, SI.rd, SX.rd, rdL, rdO, rdP, okParts, eqCells, okEqCells, fillA, okFill, setAt, implies_true, forall_const, forall_eq, ne_eq, exists_eq_right_right, exists_eq_right, exists_eq_left, exists_eq_left', eInt, eBool, lit_eq, h1, n1, n2, upd_same, eDoc_len, eDoc_take, eDoc_drop, List.append_nil])
    exact S
theorem eS_len (s : HSpan) : (eS s).length = 4 := rfl
theorem eS_take (s : HSpan) : (eS s).take 4 = eS s := rfl
def c39 : SFun := ⟨(.seq (.reg [⟨(some 2), (.boxF 24 2 (.t 0)), none⟩, ⟨(some 3), (.boxF 50 2 (.t 1)), none⟩, ⟨(some 4), (.mv (.c (.int .i64 (0)))), none⟩]) (.seq (.seq (.reg [⟨(some 7), (.fldA 0 (.t 3)), none⟩, ⟨(some 8), (.ld 1 false (.t 7)), none⟩, ⟨(some 9), (.fldA 0 (.t 2)), none⟩, ⟨(some 10), (.ld 1 false (.t 9)), none⟩, ⟨(some 11), (.len (.t 10)), none⟩, ⟨(some 12), (.bin .sub (.t 11) (.c (.int .i64 (1)))), none⟩, ⟨(some 13), (.pcall 73 [(.t 8), (.c (.int .i64 (0))), (.t 12)]), none⟩, ⟨(some 14), (.un .not (.t 13)), none⟩]) (.cond (.t 14) (.seq (.reg [⟨(some 4), (.mv (.c (.int .i64 (1)))), none⟩]) .ret) .skip)) (.seq (.reg [⟨(some 15), (.fldA 0 (.t 2)), none⟩, ⟨(some 16), (.ld 1 false (.t 15)), none⟩, ⟨(some 17), (.fldA 0 (.t 3)), none⟩, ⟨(some 18), (.ld 1 false (.t 17)), none⟩, ⟨(some 19), (.idxA 6 (.t 16) (.t 18)), none⟩, ⟨(some 20), (.ld 6 true (.t 19)), none⟩, ⟨(some 5), (.new 43 6 [(.int .i64 (0)), (.str []), .emp, (.str []), (.int .i64 (0)), .emp]), none⟩, ⟨none, (.st 6 (.t 5) (.t 20)), none⟩]) (.seq (.reg [⟨(some 21), (.fldA 5 (.t 5)), none⟩, ⟨(some 22), (.ld 1 false (.t 21)), none⟩, ⟨(some 23), (.len (.t 22)), none⟩, ⟨(some 6), (.mv (.t 23)), none⟩]) (.seq (.seq (.reg [⟨(some 24), (.fldA 0 (.t 5)), none⟩, ⟨(some 25), (.ld 1 false (.t 24)), none⟩, ⟨(some 26), (.bin .eql (.t 25) (.c (.int .i64 (3)))), none⟩, ⟨(some 27), (.mv (.t 26)), none⟩, ⟨(some 28), (.fldA 0 (.t 5)), (some (27, false))⟩, ⟨(some 29), (.ld 1 false (.t 28)), (some (27, false))⟩, ⟨(some 30), (.bin .eql (.t 29) (.c (.int .i64 (4)))), (some (27, false))⟩, ⟨(some 31), (.pick (.t 27) (.c (.bool true)) (.t 30)), none⟩]) (.cond (.t 31) (.reg [⟨(some 32), (.fldA 3 (.t 5)), none⟩, ⟨(some 33), (.ld 1 false (.t 32)), none⟩, ⟨(some 34), (.lenS (.t 33)), none⟩, ⟨(some 6), (.mv (.t 34)), none⟩]) .skip)) (.seq (.seq (.reg [⟨(some 35), (.fldA 1 (.t 3)), none⟩, ⟨(some 36), (.ld 1 false (.t 35)), none⟩, ⟨(some 37), (.mv (.t 6)), none⟩, ⟨(some 38), (.pcall 73 [(.t 36), (.c (.int .i64 (0))), (.t 37)]), none⟩, ⟨(some 39), (.un .not (.t 38)), none⟩]) (.cond (.t 39) (.seq (.reg [⟨(some 4), (.mv (.c (.int .i64 (1)))), none⟩]) .ret) .skip)) (.seq (.seq (.reg [⟨(some 40), (.ld 2 true (.t 2)), none⟩, ⟨(some 41), (.fldA 0 (.t 3)), none⟩, ⟨(some 42), (.ld 1 false (.t 41)), none⟩, ⟨(some 43), (.pcall 26 [(.t 40), (.t 42), (.c (.int .i64 (0)))]), none⟩, ⟨(some 44), (.un .not (.t 43)), none⟩]) (.cond (.t 44) (.seq (.reg [⟨(some 4), (.mv (.c (.int .i64 (5)))), none⟩]) .ret) .skip)) (.seq (.reg [⟨(some 4), (.mv (.c (.int .i64 (0)))), none⟩]) .ret)))))))), [(.tmp 4)]⟩
theorem hc39 : toSF Tryd.prog {pure := [73, 26]} Tryd.f39 = some c39 := by kernel_rfl
theorem hn39 : (Tryd.f39.name == "runtime.NumGoroutine") = false := by kernel_rfl
theorem pointErr_ok (d : HDoc) (V : DV d) (sm : DocSm d) (p : HPoint) : PCalls (Pg G) 39 [.agg (eDoc d), .agg (eP p)] (aInt (pointE d p)) := fun h => by
  have hl := V.len
  have hB := betw_ok (G := G) p.node 0 ((d.nodes.length : Int) - 1)
  have inP : inD d p.node ↔ (decide ((0 : Int) ≤ p.node) && decide (p.node ≤ (d.nodes.length : Int) - 1)) = true := by
    unfold inD; simp; omega
  refine dcalls_of_vc Tryd.func39 hn39 hc39 (by rw [Tryd.ntmps39]; simp) (by rw [Tryd.ntmps39]; decide) ?_
  simp -dsimp -implicitDefEqProofs (disch := omega) only [↓vcOps_sp 27, ↓vcD_sp 27, VCA, pg_gl, ↓upd_none, Nat.reduceEqDiff, Nat.reduceBEq, Nat.reduceAdd, Nat.reduceSub, Nat.reduceMul, Nat.reduceLT, Nat.reduceLeDiff, ↓reduceIte, reduceCtorEq, rsOf, rootsOf, SOp.rd, SI.rd, SX.rd, rdL, rdO, rdP, okParts, eqCells, okEqCells, fillA, okFill, setAt, implies_true, forall_const, forall_eq, ne_eq, exists_eq_right_right, exists_eq_right, exists_eq_left, exists_eq_left', eInt, eBool, lit_eq, c39, eP]
  cases hb : (decide ((0 : Int) ≤ p.node) && decide (p.node ≤ (d.nodes.length : Int) - 1))
  · have hE : pointE d p = 1 := by unfold pointE; rw [if_pos (fun hh => by rw [inP, hb] at hh; cases hh.1)]
    rw [hb] at hB
    rw [hE]
    repeat' (first | ((with_reducible refine Br.dec (fun _ => ?_) (fun _ => ?_)) <;> try (exfalso; omega)) | ((with_reducible refine Br.eq (fun _ => ?_) (fun _ => ?_)) <;> try (exfalso; omega)) | ((with_reducible refine Br.ne (fun _ => ?_) (fun _ => ?_)) <;> try (exfalso; omega)) | ((with_reducible refine brNdec (fun _ => ?_) (fun _ => ?_)) <;> try (exfalso; omega)) | ((with_reducible refine brNeq (fun _ => ?_) (fun _ => ?_)) <;> try (exfalso; omega)) | with_reducible refine Br.intro (fun _ => ?_) (fun _ => ?_) | (with_reducible apply pcallE.of; · exact hB) | (with_reducible refine And.intro ?_ ?_; · omega) | simp -dsimp -implicitDefEqProofs (disch := omega) only [↓vcOps_sp 27, ↓vcD_sp 27, VCA, pg_gl, ↓upd_none, Nat.reduceEqDiff, Nat.reduceBEq, Nat.reduceAdd, Nat.reduceSub, Nat.reduceMul, Nat.reduceLT, Nat.reduceLeDiff, ↓reduceIte, reduceCtorEq, rsOf, rootsOf, SOp.rd, SI.rd, SX.rd, rdL, rdO, rdP, okParts, eqCells, okEqCells, fillA, okFill, setAt, implies_true, forall_const, forall_eq, ne_eq, exists_eq_right_right, exists_eq_right, exists_eq_left, exists_eq_left', eInt, eBool, lit_eq, eDoc, eP])
    all_goals exact Sub.refl _
  · have hn := inP.2 hb
    have n0 := hn.1
    have n1 := hn.2
    rw [hb] at hB
    have e0 : nth d.nodes p.node.toNat = nd d p.node := rfl
    have hU := under_ok (G := G) d V p.node 0 hn (by omega)
    have hR := betw_ok (G := G) p.at' 0 (roomM d p.node)
    unfold eDoc at hU
    have e1 : pointE d p = if (decide ((0 : Int) ≤ p.at') && decide (p.at' ≤ (roomM d p.node : Int))) = false then 1 else if decide (0 ∈ chain d p.node) = false then 5 else 0 := by
      unfold pointE
      by_cases h2 : 0 ≤ p.at' ∧ p.at' ≤ (roomM d p.node : Int)
      · have hd : (decide ((0 : Int) ≤ p.at') && decide (p.at' ≤ (roomM d p.node : Int))) = true := by simp [h2]
        rw [if_neg (by simp [hn, h2]), hd]; simp
      · rw [if_pos (fun hh => h2 hh.2), if_pos (by simp; omega)]
    rw [e1]
    have e3 : (roomM d p.node : Int) = if (nd d p.node).kind = 3 ∨ (nd d p.node).kind = 4 then ((nd d p.node).text.length : Int) else ((nd d p.node).kids.length : Int) := by unfold roomM; split <;> rfl
    by_cases h3 : (nd d p.node).kind = 3 ∨ (nd d p.node).kind = 4
    · rw [if_pos h3] at e3
      rw [e3] at hR ⊢
      generalize (decide ((0 : Int) ≤ p.at') && decide (p.at' ≤ ((nd d p.node).text.length : Int))) = x at *
      generalize decide (0 ∈ chain d p.node) = y at *
      repeat' (first | ((with_reducible refine Br.dec (fun _ => ?_) (fun _ => ?_)) <;> try (exfalso; omega)) | ((with_reducible refine Br.eq (fun _ => ?_) (fun _ => ?_)) <;> try (exfalso; omega)) | ((with_reducible refine Br.ne (fun _ => ?_) (fun _ => ?_)) <;> try (exfalso; omega)) | ((with_reducible refine brNdec (fun _ => ?_) (fun _ => ?_)) <;> try (exfalso; omega)) | ((with_reducible refine brNeq (fun _ => ?_) (fun _ => ?_)) <;> try (exfalso; omega)) | with_reducible refine Br.intro (fun _ => ?_) (fun _ => ?_) | (with_reducible apply pcallE.of; · exact hB) | (with_reducible refine And.intro ?_ ?_; · omega) | simp -dsimp -implicitDefEqProofs (disch := omega) only [↓vcOps_sp 27, ↓vcD_sp 27, VCA, pg_gl, ↓upd_none, Nat.reduceEqDiff, Nat.reduceBEq, Nat.reduceAdd, Nat.reduceSub, Nat.reduceMul, Nat.reduceLT, Nat.reduceLeDiff, ↓reduceIte, reduceCtorEq, rsOf, rootsOf, SOp.rd, SI.rd, SX.rd, rdL, rdO, rdP, okParts, eqCells, okEqCells, fillA, okFill, setAt, implies_true, forall_const, forall_eq, ne_eq, exists_eq_right_right, exists_eq_right, exists_eq_left, exists_eq_left', eInt, eBool, lit_eq, eDoc, eNode, eP, e0])
      intro r hr
      repeat' (first | ((with_reducible refine Br.dec (fun _ => ?_) (fun _ => ?_)) <;> try (exfalso; omega)) | ((with_reducible refine Br.eq (fun _ => ?_) (fun _ => ?_)) <;> try (exfalso; omega)) | ((with_reducible refine Br.ne (fun _ => ?_) (fun _ => ?_)) <;> try (exfalso; omega)) | ((with_reducible refine brNdec (fun _ => ?_) (fun _ => ?_)) <;> try (exfalso; omega)) | ((with_reducible refine brNeq (fun _ => ?_) (fun _ => ?_)) <;> try (exfalso; omega)) | with_reducible refine Br.intro (fun _ => ?_) (fun _ => ?_) | (with_reducible apply pcallE.of; · exact hR) | (with_reducible apply pcallE.of; · exact hU) | (with_reducible refine And.intro ?_ ?_; · omega) | simp -dsimp -implicitDefEqProofs (disch := omega) only [↓vcOps_sp 27, ↓vcD_sp 27, VCA, pg_gl, ↓upd_none, Nat.reduceEqDiff, Nat.reduceBEq, Nat.reduceAdd, Nat.reduceSub, Nat.reduceMul, Nat.reduceLT, Nat.reduceLeDiff, ↓reduceIte, reduceCtorEq, rsOf, rootsOf, SOp.rd, SI.rd, SX.rd, rdL, rdO, rdP, okParts, eqCells, okEqCells, fillA, okFill, setAt, implies_true, forall_const, forall_eq, ne_eq, exists_eq_right_right, exists_eq_right, exists_eq_left, exists_eq_left', eInt, eBool, lit_eq, upd_same, eDoc, eNode, eP, e0])
      all_goals clear hR hU e1 hB
      all_goals cases x <;> cases y <;> first | exact ⟨(Sub.refl h).upd hr, rfl⟩ | (exfalso; simp_all; done)
    · rw [if_neg h3] at e3
      rw [e3] at hR ⊢
      generalize (decide ((0 : Int) ≤ p.at') && decide (p.at' ≤ ((nd d p.node).kids.length : Int))) = x at *
      generalize decide (0 ∈ chain d p.node) = y at *
      repeat' (first | ((with_reducible refine Br.dec (fun _ => ?_) (fun _ => ?_)) <;> try (exfalso; omega)) | ((with_reducible refine Br.eq (fun _ => ?_) (fun _ => ?_)) <;> try (exfalso; omega)) | ((with_reducible refine Br.ne (fun _ => ?_) (fun _ => ?_)) <;> try (exfalso; omega)) | ((with_reducible refine brNdec (fun _ => ?_) (fun _ => ?_)) <;> try (exfalso; omega)) | ((with_reducible refine brNeq (fun _ => ?_) (fun _ => ?_)) <;> try (exfalso; omega)) | with_reducible refine Br.intro (fun _ => ?_) (fun _ => ?_) | (with_reducible apply pcallE.of; · exact hB) | (with_reducible refine And.intro ?_ ?_; · omega) | simp -dsimp -implicitDefEqProofs (disch := omega) only [↓vcOps_sp 27, ↓vcD_sp 27, VCA, pg_gl, ↓upd_none, Nat.reduceEqDiff, Nat.reduceBEq, Nat.reduceAdd, Nat.reduceSub, Nat.reduceMul, Nat.reduceLT, Nat.reduceLeDiff, ↓reduceIte, reduceCtorEq, rsOf, rootsOf, SOp.rd, SI.rd, SX.rd, rdL, rdO, rdP, okParts, eqCells, okEqCells, fillA, okFill, setAt, implies_true, forall_const, forall_eq, ne_eq, exists_eq_right_right, exists_eq_right, exists_eq_left, exists_eq_left', eInt, eBool, lit_eq, eDoc, eNode, eP, e0])
      intro r hr
      repeat' (first | ((with_reducible refine Br.dec (fun _ => ?_) (fun _ => ?_)) <;> try (exfalso; omega)) | ((with_reducible refine Br.eq (fun _ => ?_) (fun _ => ?_)) <;> try (exfalso; omega)) | ((with_reducible refine Br.ne (fun _ => ?_) (fun _ => ?_)) <;> try (exfalso; omega)) | ((with_reducible refine brNdec (fun _ => ?_) (fun _ => ?_)) <;> try (exfalso; omega)) | ((with_reducible refine brNeq (fun _ => ?_) (fun _ => ?_)) <;> try (exfalso; omega)) | with_reducible refine Br.intro (fun _ => ?_) (fun _ => ?_) | (with_reducible apply pcallE.of; · exact hR) | (with_reducible apply pcallE.of; · exact hU) | (with_reducible refine And.intro ?_ ?_; · omega) | simp -dsimp -implicitDefEqProofs (disch := omega) only [↓vcOps_sp 27, ↓vcD_sp 27, VCA, pg_gl, ↓upd_none, Nat.reduceEqDiff, Nat.reduceBEq, Nat.reduceAdd, Nat.reduceSub, Nat.reduceMul, Nat.reduceLT, Nat.reduceLeDiff, ↓reduceIte, reduceCtorEq, rsOf, rootsOf, SOp.rd, SI.rd, SX.rd, rdL, rdO, rdP, okParts, eqCells, okEqCells, fillA, okFill, setAt, implies_true, forall_const, forall_eq, ne_eq, exists_eq_right_right, exists_eq_right, exists_eq_left, exists_eq_left', eInt, eBool, lit_eq, upd_same, eDoc, eNode, eP, e0])
      all_goals clear hR hU e1 hB
      all_goals cases x <;> cases y <;> first | exact ⟨(Sub.refl h).upd hr, rfl⟩ | (exfalso; simp_all; done)
end Go.Proofs.K
end
section
/- Ranges: the reference's marks, SpanErr. -/
set_option linter.unusedSimpArgs false
set_option linter.unusedVariables false
namespace Go.Proofs.K
open Go Go.Sim Go.Proofs
variable {G : Glob}
theorem text_len {d : HDoc} (V : DV d) {n : Int} (hn : inD d n) : (nd d n).text.length ≤ 400 := by
  have h := V.node n hn
  unfold nodeE at h
  split at h
  · omega
  · split at h
    · omega
    · split at h
      · rename_i h1; exact absurd h h1
      · split at h
        · omega
        · omega
theorem textM_len {d : HDoc} (V : DV d) {n : Int} (hn : inD d n) : (textM (nd d n)).length ≤ 400 := by
  unfold textM; split
  · simp
  · exact text_len V hn
theorem flatMap_len {α β γ : Type} {l : List α} {f : α → List β} {g : α → List γ} {c : Nat} (h : ∀ a ∈ l, (f a).length ≤ c * (g a).length) : (l.flatMap f).length ≤ c * (l.flatMap g).length := by
  induction l with
  | nil => simp
  | cons a l ih =>
    rw [List.flatMap_cons, List.flatMap_cons, List.length_append, List.length_append, Nat.mul_add]
    have := h a List.mem_cons_self
    have := ih fun b hb => h b (List.mem_cons_of_mem _ hb)
    omega
theorem range_flat {α : Type} {l : List Int} (f : Int → List α) : (List.range l.length).flatMap (fun i => f (nth l i)) = l.flatMap f := by
  induction l with
  | nil => rfl
  | cons x l ih =>
    rw [List.length_cons, List.range_succ_eq_map, List.flatMap_cons, List.flatMap_cons, List.flatMap_map]
    show f x ++ (List.range l.length).flatMap (fun i => f (nth l i)) = _
    rw [ih]
theorem marks_len {d : HDoc} (V : DV d) : ∀ n, inD d n → (marks d n).length + 1 ≤ 403 * (below d n).length := V.down fun n hn ih => by
  have ht := textM_len V hn
  rw [marks_eq V hn, below_eq V hn]
  have h1 : ((List.range (nd d n).kids.length).flatMap (fun i => marks d (nth (nd d n).kids i) ++ [(⟨n, (i : Int) + 1⟩ : HPoint)])).length ≤ 403 * ((List.range (nd d n).kids.length).flatMap fun i => below d (nth (nd d n).kids i)).length := by
    refine flatMap_len fun i hi => ?_
    have := ih _ (nth_mem' (List.mem_range.1 hi))
    rw [List.length_append]
    simpa using this
  rw [range_flat] at h1
  simp only [List.length_cons, List.length_append, List.length_map, List.length_range]
  omega
def c90 : SFun := ⟨(.seq (.reg [⟨(some 2), (.boxF 24 2 (.t 0)), none⟩, ⟨(some 4), (.mv (.c .emp)), none⟩]) (.seq (.reg [⟨(some 9), (.fldA 0 (.t 2)), none⟩, ⟨(some 10), (.ld 1 false (.t 9)), none⟩, ⟨(some 11), (.mv (.t 1)), none⟩, ⟨(some 12), (.idxA 6 (.t 10) (.t 11)), none⟩, ⟨(some 13), (.ld 6 true (.t 12)), none⟩, ⟨(some 5), (.new 43 6 [(.int .i64 (0)), (.str []), .emp, (.str []), (.int .i64 (0)), .emp]), none⟩, ⟨none, (.st 6 (.t 5) (.t 13)), none⟩]) (.seq (.reg [⟨(some 14), (.mv (.t 1)), none⟩, ⟨(some 15), (.bld [(.int .i64 (0)), (.int .i64 (0))] [(0, (1, (.t 14)))]), none⟩, ⟨(some 16), (.bldR 50 2 [(.t 15)]), none⟩, ⟨(some 6), (.mv (.t 16)), none⟩]) (.seq (.seq (.reg [⟨(some 7), (.mv (.c (.int .i64 (0)))), none⟩]) (.block 0 (.loop (.seq (.seq (.reg [⟨(some 17), (.mv (.t 7)), none⟩, ⟨(some 18), (.fldA 5 (.t 5)), none⟩, ⟨(some 19), (.ld 1 false (.t 18)), none⟩, ⟨(some 20), (.len (.t 19)), none⟩, ⟨(some 21), (.bin .lss (.t 17) (.t 20)), none⟩]) (.cond (.t 21) .skip (.exit 0))) (.seq (.block 1 (.seq (.dreg [(⟨(some 24), (.mv (.t 6)), none⟩, none), (⟨(some 25), (.ld 2 true (.t 2)), none⟩, none), (⟨(some 26), (.fldA 5 (.t 5)), none⟩, none), (⟨(some 27), (.ld 1 false (.t 26)), none⟩, none), (⟨(some 28), (.mv (.t 7)), none⟩, none), (⟨(some 29), (.idxA 1 (.t 27) (.t 28)), none⟩, none), (⟨(some 30), (.ld 1 false (.t 29)), none⟩, none), (⟨(some 31), (.pcall 90 [(.t 25), (.t 30)]), none⟩, none), (⟨(some 32), (.app 50 2 16 (.t 24) (.t 31)), none⟩, (some [25, 30, 27])), (⟨(some 6), (.mv (.t 32)), none⟩, (some [25, 30, 27]))]) (.reg [⟨(some 33), (.mv (.t 6)), none⟩, ⟨(some 34), (.mv (.t 1)), none⟩, ⟨(some 35), (.mv (.t 7)), none⟩, ⟨(some 36), (.bin .add (.t 35) (.c (.int .i64 (1)))), none⟩, ⟨(some 37), (.bld [(.int .i64 (0)), (.int .i64 (0))] [(0, (1, (.t 34))), (1, (1, (.t 36)))]), none⟩, ⟨(some 38), (.bldF 50 2 [(.t 37)]), none⟩, ⟨(some 39), (.app 50 2 16 (.t 33) (.t 38)), none⟩, ⟨(some 6), (.mv (.t 39)), none⟩]))) (.reg [⟨(some 22), (.mv (.t 7)), none⟩, ⟨(some 23), (.bin .add (.t 22) (.c (.int .i64 (1)))), none⟩, ⟨(some 7), (.mv (.t 23)), none⟩])))))) (.seq (.seq (.reg [⟨(some 8), (.mv (.c (.int .i64 (1)))), none⟩]) (.block 2 (.loop (.seq (.seq (.reg [⟨(some 40), (.mv (.t 8)), none⟩, ⟨(some 41), (.fldA 3 (.t 5)), none⟩, ⟨(some 42), (.ld 1 false (.t 41)), none⟩, ⟨(some 43), (.lenS (.t 42)), none⟩, ⟨(some 44), (.bin .leq (.t 40) (.t 43)), none⟩, ⟨(some 45), (.mv (.t 44)), none⟩, ⟨(some 46), (.fldA 0 (.t 5)), (some (45, true))⟩, ⟨(some 47), (.ld 1 false (.t 46)), (some (45, true))⟩, ⟨(some 48), (.bin .neq (.t 47) (.c (.int .i64 (5)))), (some (45, true))⟩, ⟨(some 49), (.pick (.t 45) (.t 48) (.c (.bool false))), none⟩]) (.cond (.t 49) .skip (.exit 2))) (.seq (.block 3 (.reg [⟨(some 52), (.mv (.t 6)), none⟩, ⟨(some 53), (.mv (.t 1)), none⟩, ⟨(some 54), (.mv (.t 8)), none⟩, ⟨(some 55), (.bld [(.int .i64 (0)), (.int .i64 (0))] [(0, (1, (.t 53))), (1, (1, (.t 54)))]), none⟩, ⟨(some 56), (.bldF 50 2 [(.t 55)]), none⟩, ⟨(some 57), (.app 50 2 16 (.t 52) (.t 56)), none⟩, ⟨(some 6), (.mv (.t 57)), none⟩])) (.reg [⟨(some 50), (.mv (.t 8)), none⟩, ⟨(some 51), (.bin .add (.t 50) (.c (.int .i64 (1)))), none⟩, ⟨(some 8), (.mv (.t 51)), none⟩])))))) (.seq (.reg [⟨(some 58), (.mv (.t 6)), none⟩, ⟨(some 4), (.mv (.t 58)), none⟩]) .ret)))))), [(.tmp 4)]⟩
theorem hc90 : toSF Tryd.prog {pure := [90], how := [(16, 2)]} Tryd.f90 = some c90 := by kernel_rfl
theorem hn90 : (Tryd.f90.name == "runtime.NumGoroutine") = false := by kernel_rfl
theorem marks_ok (d : HDoc) (V : DV d) (sm : DocSm d) : ∀ n, inD d n → PCalls (Pg G) 90 [.agg (eDoc d), aInt n] (sl eP (marks d n)) := V.down fun n hn ih => PCalls.acc (ty := 50) (sz := 2) fun h => by
  have hl := V.len
  have n0 := hn.1
  have n1 := hn.2
  have e0 : nth d.nodes n.toNat = nd d n := rfl
  have kl := (sm.nd n).kids
  have tl := text_len V hn
  have ml := marks_len V n hn
  have bl := below_len V hn
  refine dcalls_of_vc Tryd.func90 hn90 hc90 (by rw [Tryd.ntmps90]; simp) (by rw [Tryd.ntmps90]; decide) ?_
  simp -dsimp -implicitDefEqProofs (disch := omega) only [↓vcOps_sp 45, ↓vcD_sp 45, VCA, pg_gl, ↓upd_none, Nat.reduceEqDiff, Nat.reduceBEq, Nat.reduceAdd, Nat.reduceSub, Nat.reduceMul, Nat.reduceLT, Nat.reduceLeDiff, ↓reduceIte, reduceCtorEq, rsOf, rootsOf, SOp.rd, SI.rd, SX.rd, rdL, rdO, rdP, okParts, eqCells, okEqCells, fillA, okFill, setAt, implies_true, forall_const, forall_eq, ne_eq, exists_eq_right_right, exists_eq_right, exists_eq_left, exists_eq_left', eInt, eBool, lit_eq, c90, eDoc, eNode]
  rw [e0]
  refine ⟨by omega, ?_⟩
  intro r hr r6 h6
  have SH : Sim.Sub h (upd h r (some ⟨43, 6, [eNode (nd d n)]⟩)) := (Sub.refl h).upd hr
  have g6 : (upd h r (some ⟨43, 6, [eNode (nd d n)]⟩)) r6 = none := by simp [upd, h6.1, h6.2]
  have g5 : (upd h r (some ⟨43, 6, [eNode (nd d n)]⟩)) r = some ⟨43, 6, [eNode (nd d n)]⟩ := upd_same _ _ _
  show LoopVC _ _ _ (upd (upd h r (some ⟨43, 6, [eNode (nd d n)]⟩)) r6 (some ⟨50, 2, [⟨n, 0⟩].map eP⟩))
  generalize upd h r (some ⟨43, 6, [eNode (nd d n)]⟩) = h1 at *
  have me := marks_eq V hn
  generalize hF : (fun i : Nat => marks d (nth (nd d n).kids i) ++ [(⟨n, (i : Int) + 1⟩ : HPoint)]) = F at me
  have fl : ∀ k, k ≤ (nd d n).kids.length → ((List.range k).flatMap F).length + 1 ≤ (marks d n).length := fun k hk => by
    have h1 : ∀ (a b : Nat), ((List.range a).flatMap F).length ≤ ((List.range (a + b)).flatMap F).length := fun a b => by
      induction b with
      | zero => exact Nat.le_refl _
      | succ b ih => rw [← Nat.add_assoc, List.range_succ, List.flatMap_append, List.length_append]; omega
    have h2 := h1 k ((nd d n).kids.length - k)
    rw [show k + ((nd d n).kids.length - k) = (nd d n).kids.length by omega] at h2
    rw [me]
    simp only [List.length_cons, List.length_append]
    omega
  refine LoopVC.intro (fun m e h' => ∃ k : Nat, k ≤ (nd d n).kids.length ∧ m = (nd d n).kids.length - k ∧ e 1 = aInt n ∧ e 2 = .pin (eDoc d) ∧ e 5 = .vp r 0 ∧ e 7 = aInt k ∧ Acc h1 50 2 ((⟨n, 0⟩ :: (List.range k).flatMap F).map eP) (e 6) h' ∧ Sim.Sub h1 h') _ ⟨0, by omega, rfl, rfl, rfl, rfl, rfl, Acc.root g6 (upd_same _ _ _), (Sub.refl h1).upd g6⟩ ?_
  rintro m e h' ⟨k, hk, rfl, he1, he2, he5, he7, A, S⟩
  have k5 := S _ _ g5
  unfold eNode at k5
  have fk := fl k hk
  simp -dsimp -implicitDefEqProofs (disch := omega) only [↓vcOps_sp 45, ↓vcD_sp 45, VCA, pg_gl, ↓upd_none, Nat.reduceEqDiff, Nat.reduceBEq, Nat.reduceAdd, Nat.reduceSub, Nat.reduceMul, Nat.reduceLT, Nat.reduceLeDiff, ↓reduceIte, reduceCtorEq, rsOf, rootsOf, SOp.rd, SI.rd, SX.rd, rdL, rdO, rdP, okParts, eqCells, okEqCells, fillA, okFill, setAt, implies_true, forall_const, forall_eq, ne_eq, exists_eq_right_right, exists_eq_right, exists_eq_left, exists_eq_left', eInt, eBool, lit_eq, he1, he2, he5, he7, k5]
  refine Br.dec (fun hlt => ?_) (fun hge => ?_)
  · have hk' : k < (nd d n).kids.length := by omega
    have hM := ih _ (nth_mem' hk')
    unfold eDoc at hM
    have fk2 := fl (k + 1) (by omega)
    rw [List.range_succ, List.flatMap_append, List.flatMap_cons, List.flatMap_nil, List.append_nil, List.length_append] at fk2
    have hFk : F k = marks d (nth (nd d n).kids k) ++ [(⟨n, (k : Int) + 1⟩ : HPoint)] := by rw [← hF]
    rw [hFk, List.length_append, List.length_singleton] at fk2
    simp -dsimp -implicitDefEqProofs (disch := omega) only [↓vcOps_sp 45, ↓vcD_sp 45, VCA, pg_gl, ↓upd_none, Nat.reduceEqDiff, Nat.reduceBEq, Nat.reduceAdd, Nat.reduceSub, Nat.reduceMul, Nat.reduceLT, Nat.reduceLeDiff, ↓reduceIte, reduceCtorEq, rsOf, rootsOf, SOp.rd, SI.rd, SX.rd, rdL, rdO, rdP, okParts, eqCells, okEqCells, fillA, okFill, setAt, implies_true, forall_const, forall_eq, ne_eq, exists_eq_right_right, exists_eq_right, exists_eq_left, exists_eq_left', eInt, eBool, lit_eq, he1, he2, he5, he7, k5, eDoc]
    refine ⟨by omega, ?_⟩
    refine pcallE.of (hM) ?_; simp -dsimp -implicitDefEqProofs (disch := omega) only [↓vcOps_sp 45, ↓vcD_sp 45, VCA, pg_gl, ↓upd_none, Nat.reduceEqDiff, Nat.reduceBEq, Nat.reduceAdd, Nat.reduceSub, Nat.reduceMul, Nat.reduceLT, Nat.reduceLeDiff, ↓reduceIte, reduceCtorEq, rsOf, rootsOf, SOp.rd, SI.rd, SX.rd, rdL, rdO, rdP, okParts, eqCells, okEqCells, fillA, okFill, setAt, implies_true, forall_const, forall_eq, ne_eq, exists_eq_right_right, exists_eq_right, exists_eq_left, exists_eq_left', eInt, eBool, lit_eq, he1, he2, he5, he7, k5, eDoc]
    refine A.app S (by simp only [List.length_map, List.length_cons]; omega) (by simp only [List.length_map, List.length_cons]; omega) fun a2 h2 A2 S2 => ?_
    have k52 := S2 _ _ g5
    unfold eNode at k52
    simp -dsimp -implicitDefEqProofs (disch := omega) only [↓vcOps_sp 45, ↓vcD_sp 45, VCA, pg_gl, ↓upd_none, Nat.reduceEqDiff, Nat.reduceBEq, Nat.reduceAdd, Nat.reduceSub, Nat.reduceMul, Nat.reduceLT, Nat.reduceLeDiff, ↓reduceIte, reduceCtorEq, rsOf, rootsOf, SOp.rd, SI.rd, SX.rd, rdL, rdO, rdP, okParts, eqCells, okEqCells, fillA, okFill, setAt, implies_true, forall_const, forall_eq, ne_eq, exists_eq_right_right, exists_eq_right, exists_eq_left, exists_eq_left', eInt, eBool, lit_eq, he1, he2, he5, he7, k5, k52]
    refine A2.app S2 (by simp only [List.length_map, List.length_cons, List.length_append, List.length_nil]; omega) (by simp only [List.length_map, List.length_cons, List.length_append, List.length_nil]; omega) fun a3 h3 A3 S3 => ?_
    simp -dsimp -implicitDefEqProofs (disch := omega) only [↓vcOps_sp 45, ↓vcD_sp 45, VCA, pg_gl, ↓upd_none, Nat.reduceEqDiff, Nat.reduceBEq, Nat.reduceAdd, Nat.reduceSub, Nat.reduceMul, Nat.reduceLT, Nat.reduceLeDiff, ↓reduceIte, reduceCtorEq, rsOf, rootsOf, SOp.rd, SI.rd, SX.rd, rdL, rdO, rdP, okParts, eqCells, okEqCells, fillA, okFill, setAt, implies_true, forall_const, forall_eq, ne_eq, exists_eq_right_right, exists_eq_right, exists_eq_left, exists_eq_left', eInt, eBool, lit_eq, he1, he2, he5, he7]
    have A4 : Acc h1 50 2 ((⟨n, 0⟩ :: (List.range (k + 1)).flatMap F).map eP) a3 h3 := by
      rw [List.range_succ, List.flatMap_append, List.flatMap_cons, List.flatMap_nil, List.append_nil, hFk]
      simpa [eP] using A3
    exact ⟨_, by omega, k + 1, by omega, rfl, rfl, by omega, A4, S3⟩
  · obtain rfl : k = (nd d n).kids.length := by omega
    have hT : (textM (nd d n)).length = if (nd d n).kind = 5 then 0 else (nd d n).text.length := by unfold textM; split <;> rfl
    have mel := congrArg List.length me
    simp only [List.length_cons, List.length_append, List.length_map, List.length_range] at mel
    have A0 : Acc h1 50 2 ((⟨n, 0⟩ :: ((List.range (nd d n).kids.length).flatMap F ++ (List.range 0).map fun i : Nat => (⟨n, (i : Int) + 1⟩ : HPoint))).map eP) (e 6) h' := by simpa using A
    simp -dsimp -implicitDefEqProofs (disch := omega) only [↓vcOps_sp 45, ↓vcD_sp 45, VCA, pg_gl, ↓upd_none, Nat.reduceEqDiff, Nat.reduceBEq, Nat.reduceAdd, Nat.reduceSub, Nat.reduceMul, Nat.reduceLT, Nat.reduceLeDiff, ↓reduceIte, reduceCtorEq, rsOf, rootsOf, SOp.rd, SI.rd, SX.rd, rdL, rdO, rdP, okParts, eqCells, okEqCells, fillA, okFill, setAt, implies_true, forall_const, forall_eq, ne_eq, exists_eq_right_right, exists_eq_right, exists_eq_left, exists_eq_left', eInt, eBool, lit_eq, he1, he2, he5]
    refine LoopVC.intro (fun m e h' => ∃ k : Nat, k ≤ (textM (nd d n)).length ∧ m = (textM (nd d n)).length - k ∧ e 1 = aInt n ∧ e 5 = .vp r 0 ∧ e 8 = aInt ((k : Int) + 1) ∧ Acc h1 50 2 ((⟨n, 0⟩ :: ((List.range (nd d n).kids.length).flatMap F ++ (List.range k).map fun i : Nat => (⟨n, (i : Int) + 1⟩ : HPoint))).map eP) (e 6) h' ∧ Sim.Sub h1 h') _ ⟨0, by omega, rfl, he1, he5, rfl, A0, S⟩ ?_
    clear he1 he5 A0 A S k5
    rintro m e h' ⟨k, hk, rfl, he1, he5, he8, A, S⟩
    have k5 := S _ _ g5
    unfold eNode at k5
    simp -dsimp -implicitDefEqProofs (disch := omega) only [↓vcOps_sp 45, ↓vcD_sp 45, VCA, pg_gl, ↓upd_none, Nat.reduceEqDiff, Nat.reduceBEq, Nat.reduceAdd, Nat.reduceSub, Nat.reduceMul, Nat.reduceLT, Nat.reduceLeDiff, ↓reduceIte, reduceCtorEq, rsOf, rootsOf, SOp.rd, SI.rd, SX.rd, rdL, rdO, rdP, okParts, eqCells, okEqCells, fillA, okFill, setAt, implies_true, forall_const, forall_eq, ne_eq, exists_eq_right_right, exists_eq_right, exists_eq_left, exists_eq_left', eInt, eBool, lit_eq, he1, he5, he8, k5]
    by_cases hlt : k < (textM (nd d n)).length
    · have h5 : (nd d n).kind ≠ 5 := fun e => by rw [if_pos e] at hT; omega
      rw [if_neg h5] at hT
      repeat' (first | ((with_reducible refine Br.dec (fun _ => ?_) (fun _ => ?_)) <;> try (exfalso; omega)) | ((with_reducible refine Br.eq (fun _ => ?_) (fun _ => ?_)) <;> try (exfalso; omega)) | ((with_reducible refine Br.ne (fun _ => ?_) (fun _ => ?_)) <;> try (exfalso; omega)) | ((with_reducible refine brNdec (fun _ => ?_) (fun _ => ?_)) <;> try (exfalso; omega)) | ((with_reducible refine brNeq (fun _ => ?_) (fun _ => ?_)) <;> try (exfalso; omega)) | with_reducible refine Br.intro (fun _ => ?_) (fun _ => ?_) | (with_reducible refine And.intro ?_ ?_; · omega) | simp -dsimp -implicitDefEqProofs (disch := omega) only [↓vcOps_sp 45, ↓vcD_sp 45, VCA, pg_gl, ↓upd_none, Nat.reduceEqDiff, Nat.reduceBEq, Nat.reduceAdd, Nat.reduceSub, Nat.reduceMul, Nat.reduceLT, Nat.reduceLeDiff, ↓reduceIte, reduceCtorEq, rsOf, rootsOf, SOp.rd, SI.rd, SX.rd, rdL, rdO, rdP, okParts, eqCells, okEqCells, fillA, okFill, setAt, implies_true, forall_const, forall_eq, ne_eq, exists_eq_right_right, exists_eq_right, exists_eq_left, exists_eq_left', eInt, eBool, lit_eq, he1, he5, he8, k5])
      refine A.app S (by simp only [List.length_map, List.length_cons, List.length_append, List.length_nil, List.length_range]; omega) (by simp only [List.length_map, List.length_cons, List.length_append, List.length_nil, List.length_range]; omega) fun a3 h3 A3 S3 => ?_
      simp -dsimp -implicitDefEqProofs (disch := omega) only [↓vcOps_sp 45, ↓vcD_sp 45, VCA, pg_gl, ↓upd_none, Nat.reduceEqDiff, Nat.reduceBEq, Nat.reduceAdd, Nat.reduceSub, Nat.reduceMul, Nat.reduceLT, Nat.reduceLeDiff, ↓reduceIte, reduceCtorEq, rsOf, rootsOf, SOp.rd, SI.rd, SX.rd, rdL, rdO, rdP, okParts, eqCells, okEqCells, fillA, okFill, setAt, implies_true, forall_const, forall_eq, ne_eq, exists_eq_right_right, exists_eq_right, exists_eq_left, exists_eq_left', eInt, eBool, lit_eq, he1, he5, he8]
      have A4 : Acc h1 50 2 ((⟨n, 0⟩ :: ((List.range (nd d n).kids.length).flatMap F ++ (List.range (k + 1)).map fun i : Nat => (⟨n, (i : Int) + 1⟩ : HPoint))).map eP) a3 h3 := by
        rw [List.range_succ]
        simpa [eP] using A3
      first | exact ⟨_, by omega, k + 1, by omega, rfl, by omega, A4, S3⟩ | exact ⟨_, by omega, k + 1, by omega, rfl, rfl, by omega, A4, S3⟩ | exact ⟨_, by omega, k + 1, by omega, rfl, rfl, rfl, by omega, A4, S3⟩
    · obtain rfl : k = (textM (nd d n)).length := by omega
      rw [← me] at A
      have fin := A.mono SH
      repeat' (first | ((with_reducible refine Br.dec (fun _ => ?_) (fun _ => ?_)) <;> try (exfalso; omega)) | ((with_reducible refine Br.eq (fun _ => ?_) (fun _ => ?_)) <;> try (exfalso; omega)) | ((with_reducible refine Br.ne (fun _ => ?_) (fun _ => ?_)) <;> try (exfalso; omega)) | ((with_reducible refine brNdec (fun _ => ?_) (fun _ => ?_)) <;> try (exfalso; omega)) | ((with_reducible refine brNeq (fun _ => ?_) (fun _ => ?_)) <;> try (exfalso; omega)) | with_reducible refine Br.intro (fun _ => ?_) (fun _ => ?_) | (with_reducible refine And.intro ?_ ?_; · omega) | simp -dsimp -implicitDefEqProofs (disch := omega) only [↓vcOps_sp 45, ↓vcD_sp 45, VCA, pg_gl, ↓upd_none, Nat.reduceEqDiff, Nat.reduceBEq, Nat.reduceAdd, Nat.reduceSub, Nat.reduceMul, Nat.reduceLT, Nat.reduceLeDiff, ↓reduceIte, reduceCtorEq, rsOf, rootsOf, SOp.rd, SI.rd, SX.rd, rdL, rdO, rdP, okParts, eqCells, okEqCells, fillA, okFill, setAt, implies_true, forall_const, forall_eq, ne_eq, exists_eq_right_right, exists_eq_right, exists_eq_left, exists_eq_left', eInt, eBool, lit_eq, he1, he5, he8, k5])
      all_goals first | exact ⟨h', Sub.refl _, fin, fun t o ht => S t o (SH t o ht)⟩ | (exfalso; rw [if_neg (by assumption)] at hT; omega)
theorem eP_beq (x y : HPoint) : (x == y) = (x.node == y.node && x.at' == y.at') := by
  cases x; cases y; rw [Bool.eq_iff_iff]; simp
def c84 : SFun := ⟨(.seq (.reg [⟨(some 2), (.boxF 24 2 (.t 0)), none⟩, ⟨(some 3), (.boxF 50 2 (.t 1)), none⟩, ⟨(some 4), (.mv (.c (.int .i64 (0)))), none⟩]) (.seq (.reg [⟨(some 7), (.ld 2 true (.t 2)), none⟩, ⟨(some 8), (.pcall 90 [(.t 7), (.c (.int .i64 (0)))]), none⟩, ⟨(some 5), (.mv (.t 8)), none⟩]) (.seq (.seq (.reg [⟨(some 6), (.mv (.c (.int .i64 (0)))), none⟩]) (.block 0 (.loop (.seq (.seq (.reg [⟨(some 9), (.mv (.t 6)), none⟩, ⟨(some 10), (.mv (.t 5)), none⟩, ⟨(some 11), (.len (.t 10)), none⟩, ⟨(some 12), (.bin .lss (.t 9) (.t 11)), none⟩]) (.cond (.t 12) .skip (.exit 0))) (.seq (.block 1 (.seq (.dreg [(⟨(some 15), (.mv (.t 5)), none⟩, none), (⟨(some 16), (.mv (.t 6)), none⟩, none), (⟨(some 17), (.idxA 2 (.t 15) (.t 16)), none⟩, none), (⟨(some 18), (.ld 2 true (.t 17)), none⟩, none), (⟨(some 19), (.ld 2 true (.t 3)), none⟩, none), (⟨(some 20), (.eqs false [0, 0] (.t 18) (.t 19)), none⟩, none)]) (.cond (.t 20) (.seq (.reg [⟨(some 21), (.mv (.t 6)), none⟩, ⟨(some 4), (.mv (.t 21)), none⟩]) .ret) .skip))) (.reg [⟨(some 13), (.mv (.t 6)), none⟩, ⟨(some 14), (.bin .add (.t 13) (.c (.int .i64 (1)))), none⟩, ⟨(some 6), (.mv (.t 14)), none⟩])))))) (.seq (.reg [⟨(some 4), (.mv (.c (.int .i64 (-1)))), none⟩]) .ret)))), [(.tmp 4)]⟩
theorem hc84 : toSF Tryd.prog {pure := [90]} Tryd.f84 = some c84 := by kernel_rfl
theorem hn84 : (Tryd.f84.name == "runtime.NumGoroutine") = false := by kernel_rfl
theorem markOf_ok (d : HDoc) (V : DV d) (sm : DocSm d) (p : HPoint) : PCalls (Pg G) 84 [.agg (eDoc d), .agg (eP p)] (aInt (markM d p)) := fun h => by
  have hl := V.len
  have ml := marks_len V 0 V.zero
  have bl := below_len V V.zero
  have hM := marks_ok (G := G) d V sm 0 V.zero
  refine dcalls_of_vc Tryd.func84 hn84 hc84 (by rw [Tryd.ntmps84]; simp) (by rw [Tryd.ntmps84]; decide) ?_
  simp -dsimp -implicitDefEqProofs (disch := omega) only [VCA, pg_gl, ↓upd_none, Nat.reduceEqDiff, Nat.reduceBEq, Nat.reduceAdd, Nat.reduceSub, Nat.reduceMul, Nat.reduceLT, Nat.reduceLeDiff, ↓reduceIte, reduceCtorEq, rsOf, rootsOf, SOp.rd, SI.rd, SX.rd, rdL, rdO, rdP, okParts, eqCells, okEqCells, fillA, okFill, setAt, implies_true, forall_const, forall_eq, ne_eq, exists_eq_right_right, exists_eq_right, exists_eq_left, exists_eq_left', eInt, eBool, lit_eq, c84, eDoc_len, eDoc_take, eP_len, eP_take]
  refine pcallE.of (hM) ?_; simp -dsimp -implicitDefEqProofs (disch := omega) only [VCA, pg_gl, ↓upd_none, Nat.reduceEqDiff, Nat.reduceBEq, Nat.reduceAdd, Nat.reduceSub, Nat.reduceMul, Nat.reduceLT, Nat.reduceLeDiff, ↓reduceIte, reduceCtorEq, rsOf, rootsOf, SOp.rd, SI.rd, SX.rd, rdL, rdO, rdP, okParts, eqCells, okEqCells, fillA, okFill, setAt, implies_true, forall_const, forall_eq, ne_eq, exists_eq_right_right, exists_eq_right, exists_eq_left, exists_eq_left', eInt, eBool, lit_eq, eDoc_len, eDoc_take, eP_len, eP_take]
  unfold markM
  generalize marks d 0 = L at *
  refine LoopVC.intro (fun m e h' => ∃ k : Nat, k ≤ L.length ∧ m = L.length - k ∧ e 3 = .pin (eP p) ∧ e 5 = sl eP L ∧ e 6 = aInt k ∧ h' = h ∧ ∀ j, j < k → (nth L j == p) = false) L.length ⟨0, by omega, by omega, rfl, rfl, rfl, rfl, by omega⟩ ?_
  rintro m e h' ⟨k, hk, rfl, he3, he5, he6, rfl, hj⟩
  simp -dsimp -implicitDefEqProofs (disch := omega) only [VCA, pg_gl, ↓upd_none, Nat.reduceEqDiff, Nat.reduceBEq, Nat.reduceAdd, Nat.reduceSub, Nat.reduceMul, Nat.reduceLT, Nat.reduceLeDiff, ↓reduceIte, reduceCtorEq, rsOf, rootsOf, SOp.rd, SI.rd, SX.rd, rdL, rdO, rdP, okParts, eqCells, okEqCells, fillA, okFill, setAt, implies_true, forall_const, forall_eq, ne_eq, exists_eq_right_right, exists_eq_right, exists_eq_left, exists_eq_left', eInt, eBool, lit_eq, he3, he5, he6, eP_len, eP_take]
  refine Br.dec (fun hlt => ?_) (fun hge => ?_)
  · have hk' : k < L.length := by omega
    simp -dsimp -implicitDefEqProofs (disch := omega) only [VCA, pg_gl, ↓upd_none, Nat.reduceEqDiff, Nat.reduceBEq, Nat.reduceAdd, Nat.reduceSub, Nat.reduceMul, Nat.reduceLT, Nat.reduceLeDiff, ↓reduceIte, reduceCtorEq, rsOf, rootsOf, SOp.rd, SI.rd, SX.rd, rdL, rdO, rdP, okParts, eqCells, okEqCells, fillA, okFill, setAt, implies_true, forall_const, forall_eq, ne_eq, exists_eq_right_right, exists_eq_right, exists_eq_left, exists_eq_left', eInt, eBool, lit_eq, he3, he5, he6, eP]
    refine ⟨by omega, ?_⟩
    refine Br.intro (fun ht => ?_) (fun hf => ?_)
    · simp -dsimp -implicitDefEqProofs (disch := omega) only [VCA, pg_gl, ↓upd_none, Nat.reduceEqDiff, Nat.reduceBEq, Nat.reduceAdd, Nat.reduceSub, Nat.reduceMul, Nat.reduceLT, Nat.reduceLeDiff, ↓reduceIte, reduceCtorEq, rsOf, rootsOf, SOp.rd, SI.rd, SX.rd, rdL, rdO, rdP, okParts, eqCells, okEqCells, fillA, okFill, setAt, implies_true, forall_const, forall_eq, ne_eq, exists_eq_right_right, exists_eq_right, exists_eq_left, exists_eq_left', eInt, eBool, lit_eq, he6]
      rw [idxM_some (k := k) (by omega) hj (by rw [eP_beq]; exact ht)]; exact ⟨Sub.refl _, rfl⟩
    · simp -dsimp -implicitDefEqProofs (disch := omega) only [VCA, pg_gl, ↓upd_none, Nat.reduceEqDiff, Nat.reduceBEq, Nat.reduceAdd, Nat.reduceSub, Nat.reduceMul, Nat.reduceLT, Nat.reduceLeDiff, ↓reduceIte, reduceCtorEq, rsOf, rootsOf, SOp.rd, SI.rd, SX.rd, rdL, rdO, rdP, okParts, eqCells, okEqCells, fillA, okFill, setAt, implies_true, forall_const, forall_eq, ne_eq, exists_eq_right_right, exists_eq_right, exists_eq_left, exists_eq_left', eInt, eBool, lit_eq, he3, he5, he6]
      refine ⟨_, ?_, k + 1, by omega, rfl, rfl, by omega, fun j hj' => ?_⟩
      · omega
      · by_cases hjk : j = k
        · subst hjk; rw [eP_beq]; exact hf
        · exact hj j (by omega)
  · obtain rfl : k = L.length := by omega
    simp -dsimp -implicitDefEqProofs (disch := omega) only [VCA, pg_gl, ↓upd_none, Nat.reduceEqDiff, Nat.reduceBEq, Nat.reduceAdd, Nat.reduceSub, Nat.reduceMul, Nat.reduceLT, Nat.reduceLeDiff, ↓reduceIte, reduceCtorEq, rsOf, rootsOf, SOp.rd, SI.rd, SX.rd, rdL, rdO, rdP, okParts, eqCells, okEqCells, fillA, okFill, setAt, implies_true, forall_const, forall_eq, ne_eq, exists_eq_right_right, exists_eq_right, exists_eq_left, exists_eq_left', eInt, eBool, lit_eq]
    exact ⟨Sub.refl _, (idxM_none hj).symm⟩
/-- what is wrong with a range, by the marks -/
theorem spanE_mark {d : HDoc} (s : HSpan) (h : pointsE d [s.a, s.b] = 0) : spanE d s = if markM d s.b < markM d s.a then 9 else 0 := by
  obtain ⟨hd, hp, hq⟩ := pointsE_zero h
  have V := docE_DV hd
  unfold spanE
  rw [if_neg (by simpa using h), order_mark V (point_marks V hp).2.2.2.2 (point_marks V hq).2.2.2.2]
  unfold cmpI
  by_cases h1 : markM d s.b < markM d s.a
  · rw [if_pos h1, if_neg (show ¬ markM d s.a < markM d s.b by omega), if_pos h1]; rfl
  · rw [if_neg h1]
    by_cases h2 : markM d s.a < markM d s.b
    · rw [if_pos h2, if_neg h1]; rfl
    · rw [if_neg h2, if_neg h1]; rfl
def c33 : SFun := ⟨(.seq (.reg [⟨(some 2), (.boxF 24 2 (.t 0)), none⟩, ⟨(some 3), (.boxF 52 4 (.t 1)), none⟩, ⟨(some 4), (.mv (.c (.int .i64 (0)))), none⟩]) (.seq (.reg [⟨(some 6), (.ld 2 true (.t 2)), none⟩, ⟨(some 7), (.pcall 17 [(.t 6)]), none⟩, ⟨(some 5), (.mv (.t 7)), none⟩]) (.seq (.seq (.reg [⟨(some 8), (.mv (.t 5)), none⟩, ⟨(some 9), (.bin .eql (.t 8) (.c (.int .i64 (0)))), none⟩]) (.cond (.t 9) (.reg [⟨(some 10), (.ld 2 true (.t 2)), none⟩, ⟨(some 11), (.fldA 0 (.t 3)), none⟩, ⟨(some 12), (.ld 2 true (.t 11)), none⟩, ⟨(some 13), (.pcall 39 [(.t 10), (.t 12)]), none⟩, ⟨(some 5), (.mv (.t 13)), none⟩]) .skip)) (.seq (.seq (.reg [⟨(some 14), (.mv (.t 5)), none⟩, ⟨(some 15), (.bin .eql (.t 14) (.c (.int .i64 (0)))), none⟩]) (.cond (.t 15) (.reg [⟨(some 16), (.ld 2 true (.t 2)), none⟩, ⟨(some 17), (.fldA 2 (.t 3)), none⟩, ⟨(some 18), (.ld 2 true (.t 17)), none⟩, ⟨(some 19), (.pcall 39 [(.t 16), (.t 18)]), none⟩, ⟨(some 5), (.mv (.t 19)), none⟩]) .skip)) (.seq (.seq (.dreg [(⟨(some 20), (.mv (.t 5)), none⟩, none), (⟨(some 21), (.bin .eql (.t 20) (.c (.int .i64 (0)))), none⟩, none), (⟨(some 22), (.mv (.t 21)), none⟩, none), (⟨(some 23), (.ld 2 true (.t 2)), (some (22, true))⟩, none), (⟨(some 24), (.fldA 2 (.t 3)), (some (22, true))⟩, none), (⟨(some 25), (.ld 2 true (.t 24)), (some (22, true))⟩, none), (⟨(some 26), (.pcall 84 [(.t 23), (.t 25)]), (some (22, true))⟩, none), (⟨(some 27), (.ld 2 true (.t 2)), (some (22, true))⟩, none), (⟨(some 28), (.fldA 0 (.t 3)), (some (22, true))⟩, none), (⟨(some 29), (.ld 2 true (.t 28)), (some (22, true))⟩, none), (⟨(some 30), (.pcall 84 [(.t 27), (.t 29)]), (some (22, true))⟩, none), (⟨(some 31), (.bin .lss (.t 26) (.t 30)), (some (22, true))⟩, none), (⟨(some 32), (.pick (.t 22) (.t 31) (.c (.bool false))), none⟩, none)]) (.cond (.t 32) (.reg [⟨(some 5), (.mv (.c (.int .i64 (9)))), none⟩]) .skip)) (.seq (.reg [⟨(some 33), (.mv (.t 5)), none⟩, ⟨(some 4), (.mv (.t 33)), none⟩]) .ret)))))), [(.tmp 4)]⟩
theorem hc33 : toSF Tryd.prog {pure := [17, 39, 84]} Tryd.f33 = some c33 := by kernel_rfl
theorem hn33 : (Tryd.f33.name == "runtime.NumGoroutine") = false := by kernel_rfl
theorem spanErr_ok (d : HDoc) (sm : DocSm d) (s : HSpan) : PCalls (Pg G) 33 [.agg (eDoc d), .agg (eS s)] (aInt (spanE d s)) := fun h => by
  have hD := docErr_ok (G := G) d sm
  refine dcalls_of_vc Tryd.func33 hn33 hc33 (by rw [Tryd.ntmps33]; simp) (by rw [Tryd.ntmps33]; decide) ?_
  by_cases h0 : docE d = 0
  · have V := docE_DV h0
    have hA := pointErr_ok (G := G) d V sm s.a
    have hB := pointErr_ok (G := G) d V sm s.b
    have mA := markOf_ok (G := G) d V sm s.a
    have mB := markOf_ok (G := G) d V sm s.b
    unfold eP at hA hB mA mB
    rw [h0] at hD
    have hpe : pointsE d [s.a, s.b] = if pointE d s.a ≠ 0 then pointE d s.a else pointE d s.b := by
      unfold pointsE
      rw [if_neg (by simpa using h0)]
      rfl
    by_cases h1 : pointE d s.a = 0
    · by_cases h2 : pointE d s.b = 0
      · have hz : pointsE d [s.a, s.b] = 0 := by rw [hpe, if_neg (by simpa using h1), h2]
        rw [spanE_mark s hz]
        rw [h1] at hA
        rw [h2] at hB
        simp -dsimp -implicitDefEqProofs (disch := omega) only [↓vcOps_sp 22, ↓vcD_sp 22, VCA, pg_gl, ↓upd_none, Nat.reduceEqDiff, Nat.reduceBEq, Nat.reduceAdd, Nat.reduceSub, Nat.reduceMul, Nat.reduceLT, Nat.reduceLeDiff, ↓reduceIte, reduceCtorEq, rsOf, rootsOf, SOp.rd, SI.rd, SX.rd, rdL, rdO, rdP, okParts, eqCells, okEqCells, fillA, okFill, setAt, implies_true, forall_const, forall_eq, ne_eq, exists_eq_right_right, exists_eq_right, exists_eq_left, exists_eq_left', eInt, eBool, lit_eq, c33, eDoc_len, eDoc_take, eS]
        repeat' (first | ((with_reducible refine Br.dec (fun _ => ?_) (fun _ => ?_)) <;> try (exfalso; omega)) | ((with_reducible refine Br.eq (fun _ => ?_) (fun _ => ?_)) <;> try (exfalso; omega)) | ((with_reducible refine Br.ne (fun _ => ?_) (fun _ => ?_)) <;> try (exfalso; omega)) | ((with_reducible refine brNdec (fun _ => ?_) (fun _ => ?_)) <;> try (exfalso; omega)) | ((with_reducible refine brNeq (fun _ => ?_) (fun _ => ?_)) <;> try (exfalso; omega)) | with_reducible refine Br.intro (fun _ => ?_) (fun _ => ?_) | (with_reducible apply pcallE.of; · exact hD) | (with_reducible apply pcallE.of; · exact hA) | (with_reducible apply pcallE.of; · exact hB) | (with_reducible apply pcallE.of; · exact mB) | (with_reducible apply pcallE.of; · exact mA) | (with_reducible refine And.intro ?_ ?_; · omega) | simp -dsimp -implicitDefEqProofs (disch := omega) only [↓vcOps_sp 22, ↓vcD_sp 22, VCA, pg_gl, ↓upd_none, Nat.reduceEqDiff, Nat.reduceBEq, Nat.reduceAdd, Nat.reduceSub, Nat.reduceMul, Nat.reduceLT, Nat.reduceLeDiff, ↓reduceIte, reduceCtorEq, rsOf, rootsOf, SOp.rd, SI.rd, SX.rd, rdL, rdO, rdP, okParts, eqCells, okEqCells, fillA, okFill, setAt, implies_true, forall_const, forall_eq, ne_eq, exists_eq_right_right, exists_eq_right, exists_eq_left, exists_eq_left', eInt, eBool, lit_eq, eDoc_len, eDoc_take])
        · rename_i q; exact ⟨Sub.refl _, by rw [if_pos q]⟩
        · rename_i q; exact ⟨Sub.refl _, by rw [if_neg q]⟩
      · have hz : pointsE d [s.a, s.b] = pointE d s.b := by rw [hpe, if_neg (by simpa using h1)]
        have hE : spanE d s = pointE d s.b := by unfold spanE; rw [hz, if_pos h2]
        rw [hE]
        rw [h1] at hA
        simp -dsimp -implicitDefEqProofs (disch := omega) only [↓vcOps_sp 22, ↓vcD_sp 22, VCA, pg_gl, ↓upd_none, Nat.reduceEqDiff, Nat.reduceBEq, Nat.reduceAdd, Nat.reduceSub, Nat.reduceMul, Nat.reduceLT, Nat.reduceLeDiff, ↓reduceIte, reduceCtorEq, rsOf, rootsOf, SOp.rd, SI.rd, SX.rd, rdL, rdO, rdP, okParts, eqCells, okEqCells, fillA, okFill, setAt, implies_true, forall_const, forall_eq, ne_eq, exists_eq_right_right, exists_eq_right, exists_eq_left, exists_eq_left', eInt, eBool, lit_eq, c33, eDoc_len, eDoc_take, eS]
        repeat' (first | ((with_reducible refine Br.dec (fun _ => ?_) (fun _ => ?_)) <;> try (exfalso; omega)) | ((with_reducible refine Br.eq (fun _ => ?_) (fun _ => ?_)) <;> try (exfalso; omega)) | ((with_reducible refine Br.ne (fun _ => ?_) (fun _ => ?_)) <;> try (exfalso; omega)) | ((with_reducible refine brNdec (fun _ => ?_) (fun _ => ?_)) <;> try (exfalso; omega)) | ((with_reducible refine brNeq (fun _ => ?_) (fun _ => ?_)) <;> try (exfalso; omega)) | with_reducible refine Br.intro (fun _ => ?_) (fun _ => ?_) | (with_reducible apply pcallE.of; · exact hD) | (with_reducible apply pcallE.of; · exact hA) | (with_reducible apply pcallE.of; · exact hB) | (with_reducible refine And.intro ?_ ?_; · omega) | simp -dsimp -implicitDefEqProofs (disch := omega) only [↓vcOps_sp 22, ↓vcD_sp 22, VCA, pg_gl, ↓upd_none, Nat.reduceEqDiff, Nat.reduceBEq, Nat.reduceAdd, Nat.reduceSub, Nat.reduceMul, Nat.reduceLT, Nat.reduceLeDiff, ↓reduceIte, reduceCtorEq, rsOf, rootsOf, SOp.rd, SI.rd, SX.rd, rdL, rdO, rdP, okParts, eqCells, okEqCells, fillA, okFill, setAt, implies_true, forall_const, forall_eq, ne_eq, exists_eq_right_right, exists_eq_right, exists_eq_left, exists_eq_left', eInt, eBool, lit_eq, h2, eDoc_len, eDoc_take])
        all_goals exact Sub.refl _
    · have hz : pointsE d [s.a, s.b] = pointE d s.a := by rw [hpe, if_pos h1]
      have hE : spanE d s = pointE d s.a := by unfold spanE; rw [hz, if_pos h1]
      rw [hE]
      simp -dsimp -implicitDefEqProofs (disch := omega) only [↓vcOps_sp 22, ↓vcD_sp 22, VCA, pg_gl, ↓upd_none, Nat.reduceEqDiff, Nat.reduceBEq, Nat.reduceAdd, Nat.reduceSub, Nat.reduceMul, Nat.reduceLT, Nat.reduceLeDiff, ↓reduceIte, reduceCtorEq, rsOf, rootsOf, SOp.rd, SI.rd, SX.rd, rdL, rdO, rdP, okParts, eqCells, okEqCells, fillA, okFill, setAt, implies_true, forall_const, forall_eq, ne_eq, exists_eq_right_right, exists_eq_right, exists_eq_left, exists_eq_left', eInt, eBool, lit_eq, c33, eDoc_len, eDoc_take, eS]
      repeat' (first | ((with_reducible refine Br.dec (fun _ => ?_) (fun _ => ?_)) <;> try (exfalso; omega)) | ((with_reducible refine Br.eq (fun _ => ?_) (fun _ => ?_)) <;> try (exfalso; omega)) | ((with_reducible refine Br.ne (fun _ => ?_) (fun _ => ?_)) <;> try (exfalso; omega)) | ((with_reducible refine brNdec (fun _ => ?_) (fun _ => ?_)) <;> try (exfalso; omega)) | ((with_reducible refine brNeq (fun _ => ?_) (fun _ => ?_)) <;> try (exfalso; omega)) | with_reducible refine Br.intro (fun _ => ?_) (fun _ => ?_) | (with_reducible apply pcallE.of; · exact hD) | (with_reducible apply pcallE.of; · exact hA) | (with_reducible refine And.intro ?_ ?_; · omega) | simp -dsimp -implicitDefEqProofs (disch := omega) only [↓vcOps_sp 22, ↓vcD_sp 22, VCA, pg_gl, ↓upd_none, Nat.reduceEqDiff, Nat.reduceBEq, Nat.reduceAdd, Nat.reduceSub, Nat.reduceMul, Nat.reduceLT, Nat.reduceLeDiff, ↓reduceIte, reduceCtorEq, rsOf, rootsOf, SOp.rd, SI.rd, SX.rd, rdL, rdO, rdP, okParts, eqCells, okEqCells, fillA, okFill, setAt, implies_true, forall_const, forall_eq, ne_eq, exists_eq_right_right, exists_eq_right, exists_eq_left, exists_eq_left', eInt, eBool, lit_eq, h1, eDoc_len, eDoc_take])
      all_goals exact Sub.refl _
  · have hz : pointsE d [s.a, s.b] = docE d := by unfold pointsE; rw [if_pos h0]
    have hE : spanE d s = docE d := by unfold spanE; rw [hz, if_pos h0]
    rw [hE]
    simp -dsimp -implicitDefEqProofs (disch := omega) only [↓vcOps_sp 22, ↓vcD_sp 22, VCA, pg_gl, ↓upd_none, Nat.reduceEqDiff, Nat.reduceBEq, Nat.reduceAdd, Nat.reduceSub, Nat.reduceMul, Nat.reduceLT, Nat.reduceLeDiff, ↓reduceIte, reduceCtorEq, rsOf, rootsOf, SOp.rd, SI.rd, SX.rd, rdL, rdO, rdP, okParts, eqCells, okEqCells, fillA, okFill, setAt, implies_true, forall_const, forall_eq, ne_eq, exists_eq_right_right, exists_eq_right, exists_eq_left, exists_eq_left', eInt, eBool, lit_eq, c33, eDoc_len, eDoc_take, eS]
    repeat' (first | ((with_reducible refine Br.dec (fun _ => ?_) (fun _ => ?_)) <;> try (exfalso; omega)) | ((with_reducible refine Br.eq (fun _ => ?_) (fun _ => ?_)) <;> try (exfalso; omega)) | ((with_reducible refine Br.ne (fun _ => ?_) (fun _ => ?_)) <;> try (exfalso; omega)) | ((with_reducible refine brNdec (fun _ => ?_) (fun _ => ?_)) <;> try (exfalso; omega)) | ((with_reducible refine brNeq (fun _ => ?_) (fun _ => ?_)) <;> try (exfalso; omega)) | with_reducible refine Br.intro (fun _ => ?_) (fun _ => ?_) | (with_reducible apply pcallE.of; · exact hD) | (with_reducible refine And.intro ?_ ?_; · omega) | simp -dsimp -implicitDefEqProofs (disch := omega) only [↓vcOps_sp 22, ↓vcD_sp 22, VCA, pg_gl, ↓upd_none, Nat.reduceEqDiff, Nat.reduceBEq, Nat.reduceAdd, Nat.reduceSub, Nat.reduceMul, Nat.reduceLT, Nat.reduceLeDiff, ↓reduceIte, reduceCtorEq, rsOf, rootsOf, SOp.rd, SI.rd, SX.rd, rdL, rdO, rdP, okParts, eqCells, okEqCells, fillA, okFill, setAt, implies_true, forall_const, forall_eq, ne_eq, exists_eq_right_right, exists_eq_right, exists_eq_left, exists_eq_left', eInt, eBool, lit_eq, h0, eDoc_len, eDoc_take])
    all_goals exact Sub.refl _
end Go.Proofs.K
end
section
/- Ranges: the tree's order, as a list. -/
set_option linter.unusedSimpArgs false
set_option linter.unusedVariables false
namespace Go.Proofs.K
open Go Go.Sim Go.Proofs
variable {G : Glob}
def c109 : SFun := ⟨(.seq (.reg [⟨(some 3), (.boxF 24 2 (.t 0)), none⟩, ⟨(some 6), (.mv (.c .emp)), none⟩]) (.seq (.reg [⟨(some 9), (.mv (.t 2)), none⟩, ⟨(some 10), (.mv (.t 1)), none⟩, ⟨(some 11), (.bldF 3 1 [(.t 10)]), none⟩, ⟨(some 12), (.app 3 1 8 (.t 9) (.t 11)), none⟩, ⟨(some 2), (.mv (.t 12)), none⟩]) (.seq (.seq (.reg [⟨(some 13), (.fldA 0 (.t 3)), none⟩, ⟨(some 14), (.ld 1 false (.t 13)), none⟩, ⟨(some 15), (.mv (.t 1)), none⟩, ⟨(some 16), (.idxA 6 (.t 14) (.t 15)), none⟩, ⟨(some 17), (.fldA 5 (.t 16)), none⟩, ⟨(some 18), (.ld 1 false (.t 17)), none⟩, ⟨(some 19), (.len (.t 18)), none⟩, ⟨(some 20), (.mv (.c (.int .i64 (0)))), none⟩]) (.block 0 (.loop (.seq (.reg [⟨(some 21), (.bin .lss (.t 20) (.t 19)), none⟩]) (.seq (.cond (.t 21) .skip (.exit 0)) (.seq (.block 1 (.seq (.reg [⟨(some 22), (.idxA 1 (.t 18) (.t 20)), none⟩, ⟨(some 23), (.ld 1 false (.t 22)), none⟩, ⟨(some 8), (.mv (.t 23)), none⟩]) (.reg [⟨(some 24), (.ld 2 true (.t 3)), none⟩, ⟨(some 25), (.mv (.t 8)), none⟩, ⟨(some 26), (.mv (.t 2)), none⟩, ⟨(some 27), (.call (.c (.fn 109 [] [])) [(.t 24), (.t 25), (.t 26)]), none⟩, ⟨(some 2), (.mv (.t 27)), none⟩]))) (.reg [⟨(some 28), (.bin .add (.t 20) (.c (.int .i64 (1)))), none⟩, ⟨(some 20), (.mv (.t 28)), none⟩]))))))) (.seq (.reg [⟨(some 29), (.mv (.t 2)), none⟩, ⟨(some 6), (.mv (.t 29)), none⟩]) .ret)))), [(.tmp 6)]⟩
theorem hc109 : toSF Tryd.prog {} Tryd.f109 = some c109 := by kernel_rfl
theorem hn109 : (Tryd.f109.name == "runtime.NumGoroutine") = false := by kernel_rfl
theorem walk_ok (d : HDoc) (V : DV d) (sm : DocSm d) : ∀ n, inD d n → ∀ (h h1 : Heap) (L : List Int) (a : AVal), Acc h 3 1 (L.map eInt) a h1 → Sim.Sub h h1 → L.length + (below d n).length ≤ 1000000 →
    DCalls (Pg G) 109 [.agg (eDoc d), aInt n, a] h1 fun r h2 => Acc h 3 1 ((L ++ below d n).map eInt) r h2 ∧ Sim.Sub h h2 := V.down fun n hn ih h h1 L a A S hL => by
  have hl := V.len
  have n0 := hn.1
  have n1 := hn.2
  have e0 : nth d.nodes n.toNat = nd d n := rfl
  have kl := (sm.nd n).kids
  have bl := below_len V hn
  have be := below_eq V hn
  refine dcalls_of_vc Tryd.func109 hn109 hc109 (by rw [Tryd.ntmps109]; simp) (by rw [Tryd.ntmps109]; decide) ?_
  simp -dsimp -implicitDefEqProofs (disch := omega) only [VCA, pg_gl, ↓upd_none, Nat.reduceEqDiff, Nat.reduceBEq, Nat.reduceAdd, Nat.reduceSub, Nat.reduceMul, Nat.reduceLT, Nat.reduceLeDiff, ↓reduceIte, reduceCtorEq, rsOf, rootsOf, SOp.rd, SI.rd, SX.rd, rdL, rdO, rdP, okParts, eqCells, okEqCells, fillA, okFill, setAt, implies_true, forall_const, forall_eq, ne_eq, exists_eq_right_right, exists_eq_right, exists_eq_left, exists_eq_left', eInt, eBool, lit_eq, c109, eDoc, eNode]
  refine A.app S (by simp only [List.length_map, List.length_cons, List.length_nil]; omega) (by simp only [List.length_map, List.length_cons, List.length_nil]; omega) fun a2 h2 A2 S2 => ?_
  simp -dsimp -implicitDefEqProofs (disch := omega) only [VCA, pg_gl, ↓upd_none, Nat.reduceEqDiff, Nat.reduceBEq, Nat.reduceAdd, Nat.reduceSub, Nat.reduceMul, Nat.reduceLT, Nat.reduceLeDiff, ↓reduceIte, reduceCtorEq, rsOf, rootsOf, SOp.rd, SI.rd, SX.rd, rdL, rdO, rdP, okParts, eqCells, okEqCells, fillA, okFill, setAt, implies_true, forall_const, forall_eq, ne_eq, exists_eq_right_right, exists_eq_right, exists_eq_left, exists_eq_left', eInt, eBool, lit_eq, eDoc, eNode, e0]
  refine ⟨by omega, ?_⟩
  have A0 : Acc h 3 1 ((L ++ n :: ((nd d n).kids.take 0).flatMap (below d)).map eInt) a2 h2 := by simpa [eInt] using A2
  have bel : (below d n).length = 1 + ((nd d n).kids.flatMap (below d)).length := by rw [be, List.length_cons]; omega
  refine LoopVC.intro (fun m e h' => ∃ k : Nat, k ≤ (nd d n).kids.length ∧ m = (nd d n).kids.length - k ∧ e 3 = .pin (eDoc d) ∧ e 18 = sl eInt (nd d n).kids ∧ e 19 = aInt (nd d n).kids.length ∧ e 20 = aInt k ∧ Acc h 3 1 ((L ++ n :: ((nd d n).kids.take k).flatMap (below d)).map eInt) (e 2) h' ∧ Sim.Sub h h') _ ⟨0, by omega, rfl, rfl, rfl, rfl, rfl, A0, S2⟩ ?_
  clear A0 A2 S2 A S
  rintro m e h' ⟨k, hk, rfl, he3, he18, he19, he20, A, S⟩
  simp -dsimp -implicitDefEqProofs (disch := omega) only [VCA, pg_gl, ↓upd_none, Nat.reduceEqDiff, Nat.reduceBEq, Nat.reduceAdd, Nat.reduceSub, Nat.reduceMul, Nat.reduceLT, Nat.reduceLeDiff, ↓reduceIte, reduceCtorEq, rsOf, rootsOf, SOp.rd, SI.rd, SX.rd, rdL, rdO, rdP, okParts, eqCells, okEqCells, fillA, okFill, setAt, implies_true, forall_const, forall_eq, ne_eq, exists_eq_right_right, exists_eq_right, exists_eq_left, exists_eq_left', eInt, eBool, lit_eq, he3, he18, he19, he20]
  refine Br.dec (fun hlt => ?_) (fun hge => ?_)
  · have hk' : k < (nd d n).kids.length := by omega
    have hfl : (((nd d n).kids.take (k + 1)).flatMap (below d)).length ≤ ((nd d n).kids.flatMap (below d)).length := by
      conv => rhs; rw [← List.take_append_drop (k + 1) (nd d n).kids, List.flatMap_append, List.length_append]
      omega
    rw [take_snoc hk', List.flatMap_append, List.length_append] at hfl
    simp only [List.flatMap_cons, List.flatMap_nil, List.append_nil] at hfl
    have hI := ih _ (nth_mem' hk') h h' (L ++ n :: ((nd d n).kids.take k).flatMap (below d)) (e 2) A S (by rw [List.length_append, List.length_cons]; omega)
    simp -dsimp -implicitDefEqProofs (disch := omega) only [VCA, pg_gl, ↓upd_none, Nat.reduceEqDiff, Nat.reduceBEq, Nat.reduceAdd, Nat.reduceSub, Nat.reduceMul, Nat.reduceLT, Nat.reduceLeDiff, ↓reduceIte, reduceCtorEq, rsOf, rootsOf, SOp.rd, SI.rd, SX.rd, rdL, rdO, rdP, okParts, eqCells, okEqCells, fillA, okFill, setAt, implies_true, forall_const, forall_eq, ne_eq, exists_eq_right_right, exists_eq_right, exists_eq_left, exists_eq_left', eInt, eBool, lit_eq, he3, he18, he19, he20, eDoc_len, eDoc_take]
    refine ⟨by omega, ?_⟩
    refine DCalls.of hI ?_
    rintro r h3 ⟨A3, S3⟩
    have A4 : Acc h 3 1 ((L ++ n :: ((nd d n).kids.take (k + 1)).flatMap (below d)).map eInt) r h3 := by
      rw [take_snoc hk', List.flatMap_append]
      simpa using A3
    simp -dsimp -implicitDefEqProofs (disch := omega) only [VCA, pg_gl, ↓upd_none, Nat.reduceEqDiff, Nat.reduceBEq, Nat.reduceAdd, Nat.reduceSub, Nat.reduceMul, Nat.reduceLT, Nat.reduceLeDiff, ↓reduceIte, reduceCtorEq, rsOf, rootsOf, SOp.rd, SI.rd, SX.rd, rdL, rdO, rdP, okParts, eqCells, okEqCells, fillA, okFill, setAt, implies_true, forall_const, forall_eq, ne_eq, exists_eq_right_right, exists_eq_right, exists_eq_left, exists_eq_left', eInt, eBool, lit_eq, he3, he18, he19, he20]
    exact ⟨_, by omega, k + 1, by omega, rfl, by omega, A4, S3⟩
  · obtain rfl : k = (nd d n).kids.length := by omega
    rw [List.take_length, ← be] at A
    simp -dsimp -implicitDefEqProofs (disch := omega) only [VCA, pg_gl, ↓upd_none, Nat.reduceEqDiff, Nat.reduceBEq, Nat.reduceAdd, Nat.reduceSub, Nat.reduceMul, Nat.reduceLT, Nat.reduceLeDiff, ↓reduceIte, reduceCtorEq, rsOf, rootsOf, SOp.rd, SI.rd, SX.rd, rdL, rdO, rdP, okParts, eqCells, okEqCells, fillA, okFill, setAt, implies_true, forall_const, forall_eq, ne_eq, exists_eq_right_right, exists_eq_right, exists_eq_left, exists_eq_left', eInt, eBool, lit_eq]
    exact ⟨_, Sub.refl _, A, S⟩
theorem walk0_ok (d : HDoc) (V : DV d) (sm : DocSm d) (n : Int) (hn : inD d n) : PCalls (Pg G) 109 [.agg (eDoc d), aInt n, .emp] (sl eInt (below d n)) := PCalls.acc (ty := 3) (sz := 1) fun h =>
  (walk_ok (G := G) d V sm n hn h h [] .emp .nil (Sub.refl _) (by have := below_len V hn; have := V.len; simp; omega)).mono fun r h' hh => by rw [List.nil_append] at hh; exact hh
def c59 : SFun := ⟨(.seq (.reg [⟨(some 1), (.boxF 24 2 (.t 0)), none⟩, ⟨(some 2), (.mv (.c .emp)), none⟩, ⟨(some 3), (.mv (.c (.int .i64 (0)))), none⟩]) (.seq (.seq (.reg [⟨(some 5), (.ld 2 true (.t 1)), none⟩, ⟨(some 6), (.pcall 52 [(.t 5)]), none⟩, ⟨(some 4), (.mv (.t 6)), none⟩]) (.seq (.reg [⟨(some 7), (.mv (.t 4)), none⟩, ⟨(some 8), (.bin .neq (.t 7) (.c (.int .i64 (0)))), none⟩]) (.cond (.t 8) (.seq (.reg [⟨(some 9), (.mv (.t 4)), none⟩, ⟨(some 2), (.mv (.c .emp)), none⟩, ⟨(some 3), (.mv (.t 9)), none⟩]) .ret) .skip))) (.seq (.reg [⟨(some 10), (.ld 2 true (.t 1)), none⟩, ⟨(some 11), (.pcall 109 [(.t 10), (.c (.int .i64 (0))), (.c .emp)]), none⟩, ⟨(some 2), (.mv (.t 11)), none⟩, ⟨(some 3), (.mv (.c (.int .i64 (0)))), none⟩]) .ret))), [(.tmp 2), (.tmp 3)]⟩
theorem hc59 : toSF Tryd.prog {pure := [52, 109]} Tryd.f59 = some c59 := by kernel_rfl
theorem hn59 : (Tryd.f59.name == "runtime.NumGoroutine") = false := by kernel_rfl
theorem domOrder_ok (d : HDoc) (V : DV d) (h0 : docE d = 0) (sm : DocSm d) : PCalls (Pg G) 59 [.agg (eDoc d)] (.tup [sl eInt (below d 0), aInt 0]) := fun h => by
  have hC := check_ok (G := G) d sm
  have hW := walk0_ok (G := G) d V sm 0 V.zero
  rw [h0] at hC
  refine dcalls_of_vc Tryd.func59 hn59 hc59 (by rw [Tryd.ntmps59]; simp) (by rw [Tryd.ntmps59]; decide) ?_
  simp -dsimp -implicitDefEqProofs (disch := omega) only [VCA, pg_gl, ↓upd_none, Nat.reduceEqDiff, Nat.reduceBEq, Nat.reduceAdd, Nat.reduceSub, Nat.reduceMul, Nat.reduceLT, Nat.reduceLeDiff, ↓reduceIte, reduceCtorEq, rsOf, rootsOf, SOp.rd, SI.rd, SX.rd, rdL, rdO, rdP, okParts, eqCells, okEqCells, fillA, okFill, setAt, implies_true, forall_const, forall_eq, ne_eq, exists_eq_right_right, exists_eq_right, exists_eq_left, exists_eq_left', eInt, eBool, lit_eq, c59, eDoc_len, eDoc_take]
  repeat' (first | ((with_reducible refine Br.dec (fun _ => ?_) (fun _ => ?_)) <;> try (exfalso; omega)) | ((with_reducible refine Br.eq (fun _ => ?_) (fun _ => ?_)) <;> try (exfalso; omega)) | ((with_reducible refine Br.ne (fun _ => ?_) (fun _ => ?_)) <;> try (exfalso; omega)) | ((with_reducible refine brNdec (fun _ => ?_) (fun _ => ?_)) <;> try (exfalso; omega)) | ((with_reducible refine brNeq (fun _ => ?_) (fun _ => ?_)) <;> try (exfalso; omega)) | with_reducible refine Br.intro (fun _ => ?_) (fun _ => ?_) | (with_reducible apply pcallE.of; · exact hC) | (with_reducible apply pcallE.of; · exact hW) | (with_reducible refine And.intro ?_ ?_; · omega) | simp -dsimp -implicitDefEqProofs (disch := omega) only [VCA, pg_gl, ↓upd_none, Nat.reduceEqDiff, Nat.reduceBEq, Nat.reduceAdd, Nat.reduceSub, Nat.reduceMul, Nat.reduceLT, Nat.reduceLeDiff, ↓reduceIte, reduceCtorEq, rsOf, rootsOf, SOp.rd, SI.rd, SX.rd, rdL, rdO, rdP, okParts, eqCells, okEqCells, fillA, okFill, setAt, implies_true, forall_const, forall_eq, ne_eq, exists_eq_right_right, exists_eq_right, exists_eq_left, exists_eq_left', eInt, eBool, lit_eq, eDoc_len, eDoc_take])
  all_goals exact Sub.refl _
end Go.Proofs.K
end
