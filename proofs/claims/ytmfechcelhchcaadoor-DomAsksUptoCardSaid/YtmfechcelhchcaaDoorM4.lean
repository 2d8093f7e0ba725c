/- Texts of this claim, one behind the other. -/
import Derived.Test.YtmfechcelhchcaaDoorM3
import Derived.Test.YtmfechcelhchcaaDoorM2
section
/- Documents: the reference's DocErr; what two documents have in common. -/
set_option linter.unusedSimpArgs false
set_option linter.unusedVariables false
namespace Go.Proofs.K
open Go Go.Sim Go.Proofs
variable {G : Glob}

def deepM (d : HDoc) (n : Int) : Int := if d.nodes.length < up d n then -1 else up d n
def c65 : SFun := ⟨(.seq (.reg [⟨(some 2), (.boxF 24 2 (.t 0)), none⟩, ⟨(some 4), (.mv (.c (.int .i64 (0)))), none⟩]) (.seq (.reg [⟨(some 5), (.mv (.c (.int .i64 (0)))), none⟩]) (.seq (.block 0 (.loop (.seq (.seq (.reg [⟨(some 6), (.fldA 0 (.t 2)), none⟩, ⟨(some 7), (.ld 1 false (.t 6)), none⟩, ⟨(some 8), (.mv (.t 1)), none⟩, ⟨(some 9), (.idxA 6 (.t 7) (.t 8)), none⟩, ⟨(some 10), (.fldA 4 (.t 9)), none⟩, ⟨(some 11), (.ld 1 false (.t 10)), none⟩, ⟨(some 12), (.bin .geq (.t 11) (.c (.int .i64 (0)))), none⟩]) (.cond (.t 12) .skip (.exit 0))) (.block 1 (.seq (.reg [⟨(some 13), (.fldA 0 (.t 2)), none⟩, ⟨(some 14), (.ld 1 false (.t 13)), none⟩, ⟨(some 15), (.mv (.t 1)), none⟩, ⟨(some 16), (.idxA 6 (.t 14) (.t 15)), none⟩, ⟨(some 17), (.fldA 4 (.t 16)), none⟩, ⟨(some 18), (.ld 1 false (.t 17)), none⟩, ⟨(some 1), (.mv (.t 18)), none⟩]) (.seq (.reg [⟨(some 19), (.mv (.t 5)), none⟩, ⟨(some 20), (.bin .add (.t 19) (.c (.int .i64 (1)))), none⟩, ⟨(some 5), (.mv (.t 20)), none⟩]) (.seq (.reg [⟨(some 21), (.mv (.t 5)), none⟩, ⟨(some 22), (.fldA 0 (.t 2)), none⟩, ⟨(some 23), (.ld 1 false (.t 22)), none⟩, ⟨(some 24), (.len (.t 23)), none⟩, ⟨(some 25), (.bin .gtr (.t 21) (.t 24)), none⟩]) (.cond (.t 25) (.seq (.reg [⟨(some 4), (.mv (.c (.int .i64 (-1)))), none⟩]) .ret) .skip)))))))) (.seq (.reg [⟨(some 26), (.mv (.t 5)), none⟩, ⟨(some 4), (.mv (.t 26)), none⟩]) .ret)))), [(.tmp 4)]⟩
theorem hc65 : toSF Tryd.prog {} Tryd.f65 = some c65 := by kernel_rfl
theorem hn65 : (Tryd.f65.name == "runtime.NumGoroutine") = false := by kernel_rfl
theorem deep_ok (d : HDoc) (sm : DocSm d) (hP : ∀ n, inD d n → 0 ≤ (nd d n).parent → inD d (nd d n).parent) (n : Int) (hn : inD d n) : PCalls (Pg G) 65 [.agg (eDoc d), aInt n] (aInt (deepM d n)) := fun h => by
  have hl := sm.len
  refine dcalls_of_vc Tryd.func65 hn65 hc65 (by rw [Tryd.ntmps65]; simp) (by rw [Tryd.ntmps65]; decide) ?_
  simp -dsimp -implicitDefEqProofs (disch := omega) only [VCA, pg_gl, ↓upd_none, Nat.reduceEqDiff, Nat.reduceBEq, Nat.reduceAdd, Nat.reduceSub, Nat.reduceMul, Nat.reduceLT, Nat.reduceLeDiff, ↓reduceIte, reduceCtorEq, rsOf, rootsOf, SOp.rd, SI.rd, SX.rd, rdL, rdO, rdP, okParts, eqCells, okEqCells, fillA, okFill, setAt, implies_true, forall_const, forall_eq, ne_eq, exists_eq_right_right, exists_eq_right, exists_eq_left, exists_eq_left', eAttr, eInt, eNode, eDoc, eBool, lit_eq, c65, eDoc]
  refine LoopVC.intro (fun m e h' => ∃ (c : Int) (k : Nat), k ≤ d.nodes.length ∧ m = d.nodes.length + 1 - k ∧ inD d c ∧ e 1 = aInt c ∧ e 2 = .pin (eDoc d) ∧ e 5 = aInt k ∧ h' = h ∧ k + upF (d.nodes.length + 1 - k) d c = up d n) (d.nodes.length + 1) ⟨n, 0, by omega, rfl, hn, rfl, rfl, rfl, rfl, by simp [up]⟩ ?_
  rintro m e h' ⟨c, k, hk, rfl, hc, he1, he2, he5, rfl, hu⟩
  have hc0 := hc.1
  have hc1 := hc.2
  simp -dsimp -implicitDefEqProofs (disch := omega) only [VCA, pg_gl, ↓upd_none, Nat.reduceEqDiff, Nat.reduceBEq, Nat.reduceAdd, Nat.reduceSub, Nat.reduceMul, Nat.reduceLT, Nat.reduceLeDiff, ↓reduceIte, reduceCtorEq, rsOf, rootsOf, SOp.rd, SI.rd, SX.rd, rdL, rdO, rdP, okParts, eqCells, okEqCells, fillA, okFill, setAt, implies_true, forall_const, forall_eq, ne_eq, exists_eq_right_right, exists_eq_right, exists_eq_left, exists_eq_left', eAttr, eInt, eNode, eDoc, eBool, lit_eq, he1, he2, he5, eDoc]
  refine ⟨by omega, ?_⟩
  have e0 : nth d.nodes c.toNat = nd d c := rfl
  rw [e0]
  refine Br.dec (fun h1 => ?_) (fun h1 => ?_)
  · obtain ⟨f, hf⟩ : ∃ f, d.nodes.length + 1 - k = f + 1 := ⟨d.nodes.length - k, by omega⟩
    rw [hf, upF, if_pos h1] at hu
    simp -dsimp -implicitDefEqProofs (disch := omega) only [VCA, pg_gl, ↓upd_none, Nat.reduceEqDiff, Nat.reduceBEq, Nat.reduceAdd, Nat.reduceSub, Nat.reduceMul, Nat.reduceLT, Nat.reduceLeDiff, ↓reduceIte, reduceCtorEq, rsOf, rootsOf, SOp.rd, SI.rd, SX.rd, rdL, rdO, rdP, okParts, eqCells, okEqCells, fillA, okFill, setAt, implies_true, forall_const, forall_eq, ne_eq, exists_eq_right_right, exists_eq_right, exists_eq_left, exists_eq_left', eAttr, eInt, eNode, eDoc, eBool, lit_eq, he1, he2, he5, eDoc]
    rw [e0]
    refine ⟨by omega, ?_⟩
    refine Br.dec (fun h2 => ?_) (fun h2 => ?_)
    · simp -dsimp -implicitDefEqProofs (disch := omega) only [VCA, pg_gl, ↓upd_none, Nat.reduceEqDiff, Nat.reduceBEq, Nat.reduceAdd, Nat.reduceSub, Nat.reduceMul, Nat.reduceLT, Nat.reduceLeDiff, ↓reduceIte, reduceCtorEq, rsOf, rootsOf, SOp.rd, SI.rd, SX.rd, rdL, rdO, rdP, okParts, eqCells, okEqCells, fillA, okFill, setAt, implies_true, forall_const, forall_eq, ne_eq, exists_eq_right_right, exists_eq_right, exists_eq_left, exists_eq_left', eAttr, eInt, eNode, eDoc, eBool, lit_eq]
      have : d.nodes.length < up d n := by omega
      exact ⟨Sub.refl _, by unfold deepM; rw [if_pos this]⟩
    · simp -dsimp -implicitDefEqProofs (disch := omega) only [VCA, pg_gl, ↓upd_none, Nat.reduceEqDiff, Nat.reduceBEq, Nat.reduceAdd, Nat.reduceSub, Nat.reduceMul, Nat.reduceLT, Nat.reduceLeDiff, ↓reduceIte, reduceCtorEq, rsOf, rootsOf, SOp.rd, SI.rd, SX.rd, rdL, rdO, rdP, okParts, eqCells, okEqCells, fillA, okFill, setAt, implies_true, forall_const, forall_eq, ne_eq, exists_eq_right_right, exists_eq_right, exists_eq_left, exists_eq_left', eAttr, eInt, eNode, eDoc, eBool, lit_eq, he2, he5]
      refine ⟨_, ?_, (nd d c).parent, k + 1, by omega, rfl, hP c hc h1, rfl, by omega, ?_⟩
      · omega
      · have e2 : d.nodes.length + 1 - (k + 1) = f := by omega
        rw [e2]; omega
  · simp -dsimp -implicitDefEqProofs (disch := omega) only [VCA, pg_gl, ↓upd_none, Nat.reduceEqDiff, Nat.reduceBEq, Nat.reduceAdd, Nat.reduceSub, Nat.reduceMul, Nat.reduceLT, Nat.reduceLeDiff, ↓reduceIte, reduceCtorEq, rsOf, rootsOf, SOp.rd, SI.rd, SX.rd, rdL, rdO, rdP, okParts, eqCells, okEqCells, fillA, okFill, setAt, implies_true, forall_const, forall_eq, ne_eq, exists_eq_right_right, exists_eq_right, exists_eq_left, exists_eq_left', eAttr, eInt, eNode, eDoc, eBool, lit_eq, he5]
    rw [upF_top h1] at hu
    exact ⟨Sub.refl _, by unfold deepM; rw [if_neg (by omega)]; omega⟩
def c17_s7 : SCode := (.seq (.seq (.reg [⟨(some 153), (.fldA 0 (.t 1)), none⟩, ⟨(some 154), (.ld 1 false (.t 153)), none⟩, ⟨(some 155), (.idxA 6 (.t 154) (.c (.int .i64 (0)))), none⟩, ⟨(some 156), (.fldA 4 (.t 155)), none⟩, ⟨(some 157), (.ld 1 false (.t 156)), none⟩, ⟨(some 158), (.bin .neq (.t 157) (.c (.int .i64 (-1)))), none⟩]) (.cond (.t 158) (.seq (.reg [⟨(some 2), (.mv (.c (.int .i64 (3)))), none⟩]) .ret) .skip)) (.seq (.seq (.reg [⟨(some 11), (.mv (.c (.int .i64 (0)))), none⟩]) (.block 8 (.loop (.seq (.seq (.reg [⟨(some 159), (.mv (.t 11)), none⟩, ⟨(some 160), (.mv (.t 3)), none⟩, ⟨(some 161), (.bin .lss (.t 159) (.t 160)), none⟩]) (.cond (.t 161) .skip (.exit 8))) (.seq (.block 9 (.seq (.reg [⟨(some 164), (.ld 2 true (.t 1)), none⟩, ⟨(some 165), (.mv (.t 11)), none⟩, ⟨(some 166), (.pcall 65 [(.t 164), (.t 165)]), none⟩, ⟨(some 12), (.mv (.t 166)), none⟩]) (.seq (.seq (.reg [⟨(some 167), (.mv (.t 12)), none⟩, ⟨(some 168), (.bin .lss (.t 167) (.c (.int .i64 (0)))), none⟩]) (.cond (.t 168) (.seq (.reg [⟨(some 2), (.mv (.c (.int .i64 (8)))), none⟩]) .ret) .skip)) (.seq (.reg [⟨(some 169), (.mv (.t 12)), none⟩, ⟨(some 170), (.bin .gtr (.t 169) (.c (.int .i64 (40)))), none⟩]) (.cond (.t 170) (.seq (.reg [⟨(some 2), (.mv (.c (.int .i64 (2)))), none⟩]) .ret) .skip))))) (.reg [⟨(some 162), (.mv (.t 11)), none⟩, ⟨(some 163), (.bin .add (.t 162) (.c (.int .i64 (1)))), none⟩, ⟨(some 11), (.mv (.t 163)), none⟩])))))) (.seq (.reg [⟨(some 2), (.mv (.c (.int .i64 (0)))), none⟩]) .ret)))
def c17_s6 : SCode := (.seq (.seq (.reg [⟨(some 9), (.mv (.c (.int .i64 (0)))), none⟩]) (.block 6 (.loop (.seq (.seq (.reg [⟨(some 122), (.mv (.t 9)), none⟩, ⟨(some 123), (.mv (.t 3)), none⟩, ⟨(some 124), (.bin .lss (.t 122) (.t 123)), none⟩]) (.cond (.t 124) .skip (.exit 6))) (.seq (.block 7 (.seq (.reg [⟨(some 127), (.fldA 0 (.t 1)), none⟩, ⟨(some 128), (.ld 1 false (.t 127)), none⟩, ⟨(some 129), (.mv (.t 9)), none⟩, ⟨(some 130), (.idxA 6 (.t 128) (.t 129)), none⟩, ⟨(some 131), (.fldA 4 (.t 130)), none⟩, ⟨(some 132), (.ld 1 false (.t 131)), none⟩, ⟨(some 10), (.mv (.t 132)), none⟩]) (.seq (.reg [⟨(some 133), (.mv (.t 10)), none⟩, ⟨(some 134), (.bin .neq (.t 133) (.c (.int .i64 (-1)))), none⟩, ⟨(some 135), (.mv (.t 134)), none⟩, ⟨(some 136), (.mv (.t 10)), (some (135, true))⟩, ⟨(some 137), (.mv (.t 3)), (some (135, true))⟩, ⟨(some 138), (.bin .sub (.t 137) (.c (.int .i64 (1)))), (some (135, true))⟩, ⟨(some 139), (.pcall 73 [(.t 136), (.c (.int .i64 (0))), (.t 138)]), (some (135, true))⟩, ⟨(some 140), (.un .not (.t 139)), (some (135, true))⟩, ⟨(some 141), (.mv (.t 140)), (some (135, true))⟩, ⟨(some 142), (.fldA 0 (.t 1)), (some (141, false))⟩, ⟨(some 143), (.ld 1 false (.t 142)), (some (141, false))⟩, ⟨(some 144), (.mv (.t 10)), (some (141, false))⟩, ⟨(some 145), (.idxA 6 (.t 143) (.t 144)), (some (141, false))⟩, ⟨(some 146), (.fldA 5 (.t 145)), (some (141, false))⟩, ⟨(some 147), (.ld 1 false (.t 146)), (some (141, false))⟩, ⟨(some 148), (.mv (.t 9)), (some (141, false))⟩, ⟨(some 149), (.pcall 74 [(.t 147), (.t 148)]), (some (141, false))⟩, ⟨(some 150), (.bin .lss (.t 149) (.c (.int .i64 (0)))), (some (141, false))⟩, ⟨(some 151), (.pick (.t 141) (.c (.bool true)) (.t 150)), (some (135, true))⟩, ⟨(some 152), (.pick (.t 135) (.t 151) (.c (.bool false))), none⟩]) (.cond (.t 152) (.seq (.reg [⟨(some 2), (.mv (.c (.int .i64 (3)))), none⟩]) .ret) .skip)))) (.reg [⟨(some 125), (.mv (.t 9)), none⟩, ⟨(some 126), (.bin .add (.t 125) (.c (.int .i64 (1)))), none⟩, ⟨(some 9), (.mv (.t 126)), none⟩])))))) c17_s7)
def c17_s5 : SCode := (.seq (.seq (.reg [⟨(some 6), (.mv (.c (.int .i64 (0)))), none⟩]) (.block 2 (.loop (.seq (.seq (.reg [⟨(some 58), (.mv (.t 6)), none⟩, ⟨(some 59), (.mv (.t 3)), none⟩, ⟨(some 60), (.bin .lss (.t 58) (.t 59)), none⟩]) (.cond (.t 60) .skip (.exit 2))) (.seq (.block 3 (.seq (.reg [⟨(some 7), (.mv (.c (.int .i64 (0)))), none⟩]) (.block 4 (.loop (.seq (.seq (.reg [⟨(some 63), (.mv (.t 7)), none⟩, ⟨(some 64), (.fldA 0 (.t 1)), none⟩, ⟨(some 65), (.ld 1 false (.t 64)), none⟩, ⟨(some 66), (.mv (.t 6)), none⟩, ⟨(some 67), (.idxA 6 (.t 65) (.t 66)), none⟩, ⟨(some 68), (.fldA 5 (.t 67)), none⟩, ⟨(some 69), (.ld 1 false (.t 68)), none⟩, ⟨(some 70), (.len (.t 69)), none⟩, ⟨(some 71), (.bin .lss (.t 63) (.t 70)), none⟩]) (.cond (.t 71) .skip (.exit 4))) (.seq (.block 5 (.seq (.reg [⟨(some 74), (.fldA 0 (.t 1)), none⟩, ⟨(some 75), (.ld 1 false (.t 74)), none⟩, ⟨(some 76), (.mv (.t 6)), none⟩, ⟨(some 77), (.idxA 6 (.t 75) (.t 76)), none⟩, ⟨(some 78), (.fldA 5 (.t 77)), none⟩, ⟨(some 79), (.ld 1 false (.t 78)), none⟩, ⟨(some 80), (.mv (.t 7)), none⟩, ⟨(some 81), (.idxA 1 (.t 79) (.t 80)), none⟩, ⟨(some 82), (.ld 1 false (.t 81)), none⟩, ⟨(some 8), (.mv (.t 82)), none⟩]) (.seq (.seq (.reg [⟨(some 83), (.mv (.t 8)), none⟩, ⟨(some 84), (.mv (.t 3)), none⟩, ⟨(some 85), (.bin .sub (.t 84) (.c (.int .i64 (1)))), none⟩, ⟨(some 86), (.pcall 73 [(.t 83), (.c (.int .i64 (0))), (.t 85)]), none⟩, ⟨(some 87), (.un .not (.t 86)), none⟩, ⟨(some 88), (.mv (.t 87)), none⟩, ⟨(some 89), (.fldA 0 (.t 1)), (some (88, false))⟩, ⟨(some 90), (.ld 1 false (.t 89)), (some (88, false))⟩, ⟨(some 91), (.mv (.t 8)), (some (88, false))⟩, ⟨(some 92), (.idxA 6 (.t 90) (.t 91)), (some (88, false))⟩, ⟨(some 93), (.fldA 4 (.t 92)), (some (88, false))⟩, ⟨(some 94), (.ld 1 false (.t 93)), (some (88, false))⟩, ⟨(some 95), (.mv (.t 6)), (some (88, false))⟩, ⟨(some 96), (.bin .neq (.t 94) (.t 95)), (some (88, false))⟩, ⟨(some 97), (.pick (.t 88) (.c (.bool true)) (.t 96)), none⟩, ⟨(some 98), (.mv (.t 97)), none⟩, ⟨(some 99), (.fldA 0 (.t 1)), (some (98, false))⟩, ⟨(some 100), (.ld 1 false (.t 99)), (some (98, false))⟩, ⟨(some 101), (.mv (.t 6)), (some (98, false))⟩, ⟨(some 102), (.idxA 6 (.t 100) (.t 101)), (some (98, false))⟩, ⟨(some 103), (.fldA 5 (.t 102)), (some (98, false))⟩, ⟨(some 104), (.ld 1 false (.t 103)), (some (98, false))⟩, ⟨(some 105), (.mv (.t 7)), (some (98, false))⟩, ⟨(some 106), (.slA 1 (.t 104) none (some (.t 105))), (some (98, false))⟩, ⟨(some 107), (.mv (.t 8)), (some (98, false))⟩, ⟨(some 108), (.pcall 74 [(.t 106), (.t 107)]), (some (98, false))⟩, ⟨(some 109), (.bin .geq (.t 108) (.c (.int .i64 (0)))), (some (98, false))⟩, ⟨(some 110), (.pick (.t 98) (.c (.bool true)) (.t 109)), none⟩]) (.cond (.t 110) (.seq (.reg [⟨(some 2), (.mv (.c (.int .i64 (3)))), none⟩]) .ret) .skip)) (.seq (.reg [⟨(some 111), (.mv (.t 6)), none⟩, ⟨(some 112), (.bin .eql (.t 111) (.c (.int .i64 (0)))), none⟩, ⟨(some 113), (.mv (.t 112)), none⟩, ⟨(some 114), (.fldA 0 (.t 1)), (some (113, true))⟩, ⟨(some 115), (.ld 1 false (.t 114)), (some (113, true))⟩, ⟨(some 116), (.mv (.t 8)), (some (113, true))⟩, ⟨(some 117), (.idxA 6 (.t 115) (.t 116)), (some (113, true))⟩, ⟨(some 118), (.fldA 0 (.t 117)), (some (113, true))⟩, ⟨(some 119), (.ld 1 false (.t 118)), (some (113, true))⟩, ⟨(some 120), (.bin .eql (.t 119) (.c (.int .i64 (3)))), (some (113, true))⟩, ⟨(some 121), (.pick (.t 113) (.t 120) (.c (.bool false))), none⟩]) (.cond (.t 121) (.seq (.reg [⟨(some 2), (.mv (.c (.int .i64 (7)))), none⟩]) .ret) .skip))))) (.reg [⟨(some 72), (.mv (.t 7)), none⟩, ⟨(some 73), (.bin .add (.t 72) (.c (.int .i64 (1)))), none⟩, ⟨(some 7), (.mv (.t 73)), none⟩]))))))) (.reg [⟨(some 61), (.mv (.t 6)), none⟩, ⟨(some 62), (.bin .add (.t 61) (.c (.int .i64 (1)))), none⟩, ⟨(some 6), (.mv (.t 62)), none⟩])))))) c17_s6)
def c17_s4 : SCode := (.seq (.seq (.reg [⟨(some 4), (.mv (.c (.int .i64 (0)))), none⟩]) (.block 0 (.loop (.seq (.seq (.reg [⟨(some 20), (.mv (.t 4)), none⟩, ⟨(some 21), (.mv (.t 3)), none⟩, ⟨(some 22), (.bin .lss (.t 20) (.t 21)), none⟩]) (.cond (.t 22) .skip (.exit 0))) (.seq (.block 1 (.seq (.seq (.reg [⟨(some 25), (.mv (.t 4)), none⟩, ⟨(some 26), (.bin .eql (.t 25) (.c (.int .i64 (0)))), none⟩, ⟨(some 27), (.mv (.t 26)), none⟩, ⟨(some 28), (.fldA 0 (.t 1)), (some (27, true))⟩, ⟨(some 29), (.ld 1 false (.t 28)), (some (27, true))⟩, ⟨(some 30), (.mv (.t 4)), (some (27, true))⟩, ⟨(some 31), (.idxA 6 (.t 29) (.t 30)), (some (27, true))⟩, ⟨(some 32), (.fldA 0 (.t 31)), (some (27, true))⟩, ⟨(some 33), (.ld 1 false (.t 32)), (some (27, true))⟩, ⟨(some 34), (.bin .neq (.t 33) (.c (.int .i64 (1)))), (some (27, true))⟩, ⟨(some 35), (.pick (.t 27) (.t 34) (.c (.bool false))), none⟩, ⟨(some 36), (.mv (.t 35)), none⟩, ⟨(some 37), (.mv (.t 4)), (some (36, false))⟩, ⟨(some 38), (.bin .gtr (.t 37) (.c (.int .i64 (0)))), (some (36, false))⟩, ⟨(some 39), (.mv (.t 38)), (some (36, false))⟩, ⟨(some 40), (.fldA 0 (.t 1)), (some (39, true))⟩, ⟨(some 41), (.ld 1 false (.t 40)), (some (39, true))⟩, ⟨(some 42), (.mv (.t 4)), (some (39, true))⟩, ⟨(some 43), (.idxA 6 (.t 41) (.t 42)), (some (39, true))⟩, ⟨(some 44), (.fldA 0 (.t 43)), (some (39, true))⟩, ⟨(some 45), (.ld 1 false (.t 44)), (some (39, true))⟩, ⟨(some 46), (.bin .eql (.t 45) (.c (.int .i64 (1)))), (some (39, true))⟩, ⟨(some 47), (.pick (.t 39) (.t 46) (.c (.bool false))), (some (36, false))⟩, ⟨(some 48), (.pick (.t 36) (.c (.bool true)) (.t 47)), none⟩]) (.cond (.t 48) (.seq (.reg [⟨(some 2), (.mv (.c (.int .i64 (3)))), none⟩]) .ret) .skip)) (.seq (.reg [⟨(some 49), (.fldA 0 (.t 1)), none⟩, ⟨(some 50), (.ld 1 false (.t 49)), none⟩, ⟨(some 51), (.mv (.t 4)), none⟩, ⟨(some 52), (.idxA 6 (.t 50) (.t 51)), none⟩, ⟨(some 53), (.ld 6 true (.t 52)), none⟩, ⟨(some 54), (.pcall 72 [(.t 53)]), none⟩, ⟨(some 5), (.mv (.t 54)), none⟩]) (.seq (.reg [⟨(some 55), (.mv (.t 5)), none⟩, ⟨(some 56), (.bin .neq (.t 55) (.c (.int .i64 (0)))), none⟩]) (.cond (.t 56) (.seq (.reg [⟨(some 57), (.mv (.t 5)), none⟩, ⟨(some 2), (.mv (.t 57)), none⟩]) .ret) .skip))))) (.reg [⟨(some 23), (.mv (.t 4)), none⟩, ⟨(some 24), (.bin .add (.t 23) (.c (.int .i64 (1)))), none⟩, ⟨(some 4), (.mv (.t 24)), none⟩])))))) c17_s5)
def c17 : SFun := ⟨(.seq (.reg [⟨(some 1), (.boxF 24 2 (.t 0)), none⟩, ⟨(some 2), (.mv (.c (.int .i64 (0)))), none⟩]) (.seq (.reg [⟨(some 13), (.fldA 0 (.t 1)), none⟩, ⟨(some 14), (.ld 1 false (.t 13)), none⟩, ⟨(some 15), (.len (.t 14)), none⟩, ⟨(some 3), (.mv (.t 15)), none⟩]) (.seq (.seq (.reg [⟨(some 16), (.mv (.t 3)), none⟩, ⟨(some 17), (.bin .gtr (.t 16) (.c (.int .i64 (200)))), none⟩]) (.cond (.t 17) (.seq (.reg [⟨(some 2), (.mv (.c (.int .i64 (2)))), none⟩]) .ret) .skip)) (.seq (.seq (.reg [⟨(some 18), (.mv (.t 3)), none⟩, ⟨(some 19), (.bin .eql (.t 18) (.c (.int .i64 (0)))), none⟩]) (.cond (.t 19) (.seq (.reg [⟨(some 2), (.mv (.c (.int .i64 (3)))), none⟩]) .ret) .skip)) c17_s4)))), [(.tmp 2)]⟩
theorem hc17 : toSF Tryd.prog {pure := [73, 72, 74, 65]} Tryd.f17 = some c17 := by kernel_rfl
theorem hn17 : (Tryd.f17.name == "runtime.NumGoroutine") = false := by kernel_rfl
theorem docErr_ok (d : HDoc) (sm : DocSm d) : PCalls (Pg G) 17 [.agg (eDoc d)] (aInt (docE d)) := fun h => by
  have hl := sm.len
  have s7 : kidsAll d = 0 ∨ (fe d.nodes.length (kidsE d) = 0 ∧ fe d.nodes.length (parE d) = 0) → 0 < d.nodes.length → ∀ e : Env, e 1 = .pin (eDoc d) → e 3 = aInt d.nodes.length → vc (Pg G) c17_s7 (retK [.tmp 2] fun r h' => r = aInt (if kidsAll d ≠ 0 then kidsAll d else fe d.nodes.length (deepE d)) ∧ h' = h) e h := by
    intro hk hp e he1 he3
    have e0 : nth d.nodes 0 = nd d 0 := rfl
    unfold c17_s7
    skip
    simp -dsimp -implicitDefEqProofs (disch := omega) only [↓vcOps_sp 27, ↓vcD_sp 27, ↓vcOps_sp 36, ↓vcD_sp 36, ↓vcOps_sp 39, ↓vcD_sp 39, ↓vcOps_sp 88, ↓vcD_sp 88, ↓vcOps_sp 98, ↓vcD_sp 98, ↓vcOps_sp 113, ↓vcD_sp 113, ↓vcOps_sp 135, ↓vcD_sp 135, ↓vcOps_sp 141, ↓vcD_sp 141, VCA, pg_gl, ↓upd_none, Nat.reduceEqDiff, Nat.reduceBEq, Nat.reduceAdd, Nat.reduceSub, Nat.reduceMul, Nat.reduceLT, Nat.reduceLeDiff, ↓reduceIte, reduceCtorEq, rsOf, rootsOf, SOp.rd, SI.rd, SX.rd, rdL, rdO, rdP, okParts, eqCells, okEqCells, fillA, okFill, setAt, implies_true, forall_const, forall_eq, ne_eq, exists_eq_right_right, exists_eq_right, exists_eq_left, exists_eq_left', eAttr, eInt, eNode, eDoc, eBool, lit_eq, he1, he3, eDoc, eNode]
    rw [e0]
    refine ⟨by omega, Br.ne (fun h1 => ?_) (fun h1 => ?_)⟩
    · simp -dsimp -implicitDefEqProofs (disch := omega) only [↓vcOps_sp 27, ↓vcD_sp 27, ↓vcOps_sp 36, ↓vcD_sp 36, ↓vcOps_sp 39, ↓vcD_sp 39, ↓vcOps_sp 88, ↓vcD_sp 88, ↓vcOps_sp 98, ↓vcD_sp 98, ↓vcOps_sp 113, ↓vcD_sp 113, ↓vcOps_sp 135, ↓vcD_sp 135, ↓vcOps_sp 141, ↓vcD_sp 141, VCA, pg_gl, ↓upd_none, Nat.reduceEqDiff, Nat.reduceBEq, Nat.reduceAdd, Nat.reduceSub, Nat.reduceMul, Nat.reduceLT, Nat.reduceLeDiff, ↓reduceIte, reduceCtorEq, rsOf, rootsOf, SOp.rd, SI.rd, SX.rd, rdL, rdO, rdP, okParts, eqCells, okEqCells, fillA, okFill, setAt, implies_true, forall_const, forall_eq, ne_eq, exists_eq_right_right, exists_eq_right, exists_eq_left, exists_eq_left', eAttr, eInt, eNode, eDoc, eBool, lit_eq]
      have : kidsAll d = 3 := by
        rcases hk with hk | ⟨k1, k2⟩
        · unfold kidsAll at hk
          split at hk
          · contradiction
          · split at hk
            · contradiction
            · first | omega | (rw [if_pos h1] at hk; omega)
        · unfold kidsAll; rw [if_neg (by rw [k1]; simp), if_neg (by rw [k2]; simp), if_pos h1]
      exact ⟨Sub.refl _, by rw [this]; rfl⟩
    · have h0 : kidsAll d = 0 := by
        rcases hk with hk | ⟨k1, k2⟩
        · exact hk
        · unfold kidsAll; rw [if_neg (by rw [k1]; simp), if_neg (by rw [k2]; simp), if_neg (by simpa using h1)]
      rw [h0, if_neg (by simp)]
      have hP := kids_par h0
      simp -dsimp -implicitDefEqProofs (disch := omega) only [↓vcOps_sp 27, ↓vcD_sp 27, ↓vcOps_sp 36, ↓vcD_sp 36, ↓vcOps_sp 39, ↓vcD_sp 39, ↓vcOps_sp 88, ↓vcD_sp 88, ↓vcOps_sp 98, ↓vcD_sp 98, ↓vcOps_sp 113, ↓vcD_sp 113, ↓vcOps_sp 135, ↓vcD_sp 135, ↓vcOps_sp 141, ↓vcD_sp 141, VCA, pg_gl, ↓upd_none, Nat.reduceEqDiff, Nat.reduceBEq, Nat.reduceAdd, Nat.reduceSub, Nat.reduceMul, Nat.reduceLT, Nat.reduceLeDiff, ↓reduceIte, reduceCtorEq, rsOf, rootsOf, SOp.rd, SI.rd, SX.rd, rdL, rdO, rdP, okParts, eqCells, okEqCells, fillA, okFill, setAt, implies_true, forall_const, forall_eq, ne_eq, exists_eq_right_right, exists_eq_right, exists_eq_left, exists_eq_left', eAttr, eInt, eNode, eDoc, eBool, lit_eq, he1, he3, eDoc]
      refine LoopVC.intro (fun m e h' => ∃ i : Nat, i ≤ d.nodes.length ∧ m = d.nodes.length - i ∧ e 1 = .pin (eDoc d) ∧ e 3 = aInt d.nodes.length ∧ e 11 = aInt i ∧ h' = h ∧ ∀ j, j < i → deepE d j = 0) d.nodes.length ⟨0, by omega, by omega, he1, he3, rfl, rfl, by omega⟩ ?_
      rintro m e h' ⟨i, hi, rfl, he1, he3, he11, rfl, hj⟩
      simp -dsimp -implicitDefEqProofs (disch := omega) only [↓vcOps_sp 27, ↓vcD_sp 27, ↓vcOps_sp 36, ↓vcD_sp 36, ↓vcOps_sp 39, ↓vcD_sp 39, ↓vcOps_sp 88, ↓vcD_sp 88, ↓vcOps_sp 98, ↓vcD_sp 98, ↓vcOps_sp 113, ↓vcD_sp 113, ↓vcOps_sp 135, ↓vcD_sp 135, ↓vcOps_sp 141, ↓vcD_sp 141, VCA, pg_gl, ↓upd_none, Nat.reduceEqDiff, Nat.reduceBEq, Nat.reduceAdd, Nat.reduceSub, Nat.reduceMul, Nat.reduceLT, Nat.reduceLeDiff, ↓reduceIte, reduceCtorEq, rsOf, rootsOf, SOp.rd, SI.rd, SX.rd, rdL, rdO, rdP, okParts, eqCells, okEqCells, fillA, okFill, setAt, implies_true, forall_const, forall_eq, ne_eq, exists_eq_right_right, exists_eq_right, exists_eq_left, exists_eq_left', eAttr, eInt, eNode, eDoc, eBool, lit_eq, he1, he3, he11]
      refine Br.dec (fun hlt => ?_) (fun hge => ?_)
      · have hi' : i < d.nodes.length := by omega
        have hU : PCalls (Pg G) 65 [.agg [sl eNode d.nodes, .bool d.quirks], aInt i] (aInt (deepM d i)) := deep_ok d sm hP i (inD_nat.2 hi')
        have bad : ∀ x : Int, x ≠ 0 → deepE d i = x → fe d.nodes.length (deepE d) = x := fun x hx he => by rw [fe_some hi' hj (by rw [he]; exact hx), he]
        have ddef : deepE d i = if d.nodes.length < up d i then 8 else if 40 < up d i then 2 else 0 := rfl
        have dm : deepM d i = if d.nodes.length < up d i then -1 else (up d i : Int) := rfl
        simp -dsimp -implicitDefEqProofs (disch := omega) only [↓vcOps_sp 27, ↓vcD_sp 27, ↓vcOps_sp 36, ↓vcD_sp 36, ↓vcOps_sp 39, ↓vcD_sp 39, ↓vcOps_sp 88, ↓vcD_sp 88, ↓vcOps_sp 98, ↓vcD_sp 98, ↓vcOps_sp 113, ↓vcD_sp 113, ↓vcOps_sp 135, ↓vcD_sp 135, ↓vcOps_sp 141, ↓vcD_sp 141, VCA, pg_gl, ↓upd_none, Nat.reduceEqDiff, Nat.reduceBEq, Nat.reduceAdd, Nat.reduceSub, Nat.reduceMul, Nat.reduceLT, Nat.reduceLeDiff, ↓reduceIte, reduceCtorEq, rsOf, rootsOf, SOp.rd, SI.rd, SX.rd, rdL, rdO, rdP, okParts, eqCells, okEqCells, fillA, okFill, setAt, implies_true, forall_const, forall_eq, ne_eq, exists_eq_right_right, exists_eq_right, exists_eq_left, exists_eq_left', eAttr, eInt, eNode, eDoc, eBool, lit_eq, he1, he3, he11, eDoc]
        repeat' (first | ((with_reducible refine Br.dec (fun _ => ?_) (fun _ => ?_)) <;> try (exfalso; omega)) | ((with_reducible refine Br.eq (fun _ => ?_) (fun _ => ?_)) <;> try (exfalso; omega)) | ((with_reducible refine Br.ne (fun _ => ?_) (fun _ => ?_)) <;> try (exfalso; omega)) | ((with_reducible refine brNdec (fun _ => ?_) (fun _ => ?_)) <;> try (exfalso; omega)) | ((with_reducible refine brNeq (fun _ => ?_) (fun _ => ?_)) <;> try (exfalso; omega)) | with_reducible refine Br.intro (fun _ => ?_) (fun _ => ?_) | (with_reducible apply pcallE.of; · exact hU) | (with_reducible refine And.intro ?_ ?_; · omega) | simp -dsimp -implicitDefEqProofs (disch := omega) only [↓vcOps_sp 27, ↓vcD_sp 27, ↓vcOps_sp 36, ↓vcD_sp 36, ↓vcOps_sp 39, ↓vcD_sp 39, ↓vcOps_sp 88, ↓vcD_sp 88, ↓vcOps_sp 98, ↓vcD_sp 98, ↓vcOps_sp 113, ↓vcD_sp 113, ↓vcOps_sp 135, ↓vcD_sp 135, ↓vcOps_sp 141, ↓vcD_sp 141, VCA, pg_gl, ↓upd_none, Nat.reduceEqDiff, Nat.reduceBEq, Nat.reduceAdd, Nat.reduceSub, Nat.reduceMul, Nat.reduceLT, Nat.reduceLeDiff, ↓reduceIte, reduceCtorEq, rsOf, rootsOf, SOp.rd, SI.rd, SX.rd, rdL, rdO, rdP, okParts, eqCells, okEqCells, fillA, okFill, setAt, implies_true, forall_const, forall_eq, ne_eq, exists_eq_right_right, exists_eq_right, exists_eq_left, exists_eq_left', eAttr, eInt, eNode, eDoc, eBool, lit_eq, he1, he3, he11, eDoc])
        · rename_i q
          have : d.nodes.length < up d i := by rw [dm] at q; split at q <;> omega
          exact ⟨Sub.refl _, (bad 8 (by decide) (by rw [ddef, if_pos this])).symm⟩
        · rename_i q1 q
          have : ¬ d.nodes.length < up d i := by rw [dm] at q1; split at q1 <;> omega
          rw [dm, if_neg this] at q
          exact ⟨Sub.refl _, (bad 2 (by decide) (by rw [ddef, if_neg this, if_pos (by omega)])).symm⟩
        · rename_i q1 q
          have : ¬ d.nodes.length < up d i := by rw [dm] at q1; split at q1 <;> omega
          rw [dm, if_neg this] at q
          refine ⟨_, by omega, i + 1, by omega, rfl, by omega, fun j hj' => ?_⟩
          by_cases hji : j = i
          · subst hji; rw [ddef, if_neg this, if_neg (by omega)]
          · exact hj j (by omega)
      · obtain rfl : i = d.nodes.length := by omega
        simp -dsimp -implicitDefEqProofs (disch := omega) only [↓vcOps_sp 27, ↓vcD_sp 27, ↓vcOps_sp 36, ↓vcD_sp 36, ↓vcOps_sp 39, ↓vcD_sp 39, ↓vcOps_sp 88, ↓vcD_sp 88, ↓vcOps_sp 98, ↓vcD_sp 98, ↓vcOps_sp 113, ↓vcD_sp 113, ↓vcOps_sp 135, ↓vcD_sp 135, ↓vcOps_sp 141, ↓vcD_sp 141, VCA, pg_gl, ↓upd_none, Nat.reduceEqDiff, Nat.reduceBEq, Nat.reduceAdd, Nat.reduceSub, Nat.reduceMul, Nat.reduceLT, Nat.reduceLeDiff, ↓reduceIte, reduceCtorEq, rsOf, rootsOf, SOp.rd, SI.rd, SX.rd, rdL, rdO, rdP, okParts, eqCells, okEqCells, fillA, okFill, setAt, implies_true, forall_const, forall_eq, ne_eq, exists_eq_right_right, exists_eq_right, exists_eq_left, exists_eq_left', eAttr, eInt, eNode, eDoc, eBool, lit_eq]
        exact ⟨Sub.refl _, (fe_none hj).symm⟩
  have s6 : fe d.nodes.length (kidsE d) = 0 → 0 < d.nodes.length → ∀ e : Env, e 1 = .pin (eDoc d) → e 3 = aInt d.nodes.length → vc (Pg G) c17_s6 (retK [.tmp 2] fun r h' => r = aInt (if kidsAll d ≠ 0 then kidsAll d else fe d.nodes.length (deepE d)) ∧ h' = h) e h := by
    intro hk hp e he1 he3
    unfold c17_s6
    skip
    simp -dsimp -implicitDefEqProofs (disch := omega) only [↓vcOps_sp 27, ↓vcD_sp 27, ↓vcOps_sp 36, ↓vcD_sp 36, ↓vcOps_sp 39, ↓vcD_sp 39, ↓vcOps_sp 88, ↓vcD_sp 88, ↓vcOps_sp 98, ↓vcD_sp 98, ↓vcOps_sp 113, ↓vcD_sp 113, ↓vcOps_sp 135, ↓vcD_sp 135, ↓vcOps_sp 141, ↓vcD_sp 141, VCA, pg_gl, ↓upd_none, Nat.reduceEqDiff, Nat.reduceBEq, Nat.reduceAdd, Nat.reduceSub, Nat.reduceMul, Nat.reduceLT, Nat.reduceLeDiff, ↓reduceIte, reduceCtorEq, rsOf, rootsOf, SOp.rd, SI.rd, SX.rd, rdL, rdO, rdP, okParts, eqCells, okEqCells, fillA, okFill, setAt, implies_true, forall_const, forall_eq, ne_eq, exists_eq_right_right, exists_eq_right, exists_eq_left, exists_eq_left', eAttr, eInt, eNode, eDoc, eBool, lit_eq, he1, he3]
    refine LoopVC.intro (fun m e h' => ∃ i : Nat, i ≤ d.nodes.length ∧ m = d.nodes.length - i ∧ e 1 = .pin (eDoc d) ∧ e 3 = aInt d.nodes.length ∧ e 9 = aInt i ∧ h' = h ∧ ∀ j, j < i → parE d j = 0) d.nodes.length ⟨0, by omega, by omega, he1, he3, rfl, rfl, by omega⟩ ?_
    rintro m e h' ⟨i, hi, rfl, he1, he3, he9, rfl, hj⟩
    simp -dsimp -implicitDefEqProofs (disch := omega) only [↓vcOps_sp 27, ↓vcD_sp 27, ↓vcOps_sp 36, ↓vcD_sp 36, ↓vcOps_sp 39, ↓vcD_sp 39, ↓vcOps_sp 88, ↓vcD_sp 88, ↓vcOps_sp 98, ↓vcD_sp 98, ↓vcOps_sp 113, ↓vcD_sp 113, ↓vcOps_sp 135, ↓vcD_sp 135, ↓vcOps_sp 141, ↓vcD_sp 141, VCA, pg_gl, ↓upd_none, Nat.reduceEqDiff, Nat.reduceBEq, Nat.reduceAdd, Nat.reduceSub, Nat.reduceMul, Nat.reduceLT, Nat.reduceLeDiff, ↓reduceIte, reduceCtorEq, rsOf, rootsOf, SOp.rd, SI.rd, SX.rd, rdL, rdO, rdP, okParts, eqCells, okEqCells, fillA, okFill, setAt, implies_true, forall_const, forall_eq, ne_eq, exists_eq_right_right, exists_eq_right, exists_eq_left, exists_eq_left', eAttr, eInt, eNode, eDoc, eBool, lit_eq, he1, he3, he9]
    refine Br.dec (fun hlt => ?_) (fun hge => ?_)
    · have hi' : i < d.nodes.length := by omega
      have pdef : parE d i = if (nth d.nodes i).parent ≠ -1 ∧ (¬ inD d (nth d.nodes i).parent ∨ (i : Int) ∉ (nd d (nth d.nodes i).parent).kids) then 3 else 0 := rfl
      have bad : parE d i = 3 → 3 = (if kidsAll d ≠ 0 then kidsAll d else fe d.nodes.length (deepE d)) := fun h3 => by
        have h2 : fe d.nodes.length (parE d) = 3 := by rw [fe_some hi' hj (by rw [h3]; decide), h3]
        have : kidsAll d = 3 := by unfold kidsAll; rw [hk, if_neg (by simp), h2]; rfl
        rw [this]; rfl
      have ok0 : parE d i = 0 → ∀ j, j < i + 1 → parE d j = 0 := fun h0 j hj' => by
        by_cases hji : j = i
        · subst hji; exact h0
        · exact hj j (by omega)
      have hB := betw_ok (G := G) (nth d.nodes i).parent 0 ((d.nodes.length : Int) - 1)
      have inP : inD d (nth d.nodes i).parent ↔ (decide ((0 : Int) ≤ (nth d.nodes i).parent) && decide ((nth d.nodes i).parent ≤ (d.nodes.length : Int) - 1)) = true := by
        unfold inD; simp; omega
      have im := idx_mem (nd d (nth d.nodes i).parent).kids i
      have hPl := placeIn_ok (G := G) (nd d (nth d.nodes i).parent).kids i (sm.nd _).kids
      have en : nth d.nodes (nth d.nodes i).parent.toNat = nd d (nth d.nodes i).parent := rfl
      simp -dsimp -implicitDefEqProofs (disch := omega) only [↓vcOps_sp 27, ↓vcD_sp 27, ↓vcOps_sp 36, ↓vcD_sp 36, ↓vcOps_sp 39, ↓vcD_sp 39, ↓vcOps_sp 88, ↓vcD_sp 88, ↓vcOps_sp 98, ↓vcD_sp 98, ↓vcOps_sp 113, ↓vcD_sp 113, ↓vcOps_sp 135, ↓vcD_sp 135, ↓vcOps_sp 141, ↓vcD_sp 141, VCA, pg_gl, ↓upd_none, Nat.reduceEqDiff, Nat.reduceBEq, Nat.reduceAdd, Nat.reduceSub, Nat.reduceMul, Nat.reduceLT, Nat.reduceLeDiff, ↓reduceIte, reduceCtorEq, rsOf, rootsOf, SOp.rd, SI.rd, SX.rd, rdL, rdO, rdP, okParts, eqCells, okEqCells, fillA, okFill, setAt, implies_true, forall_const, forall_eq, ne_eq, exists_eq_right_right, exists_eq_right, exists_eq_left, exists_eq_left', eAttr, eInt, eNode, eDoc, eBool, lit_eq, he1, he3, he9, eDoc, eNode]
      refine ⟨by omega, Br.ne (fun h1 => ?_) (fun h1 => ?_)⟩
      · simp -dsimp -implicitDefEqProofs (disch := omega) only [↓vcOps_sp 27, ↓vcD_sp 27, ↓vcOps_sp 36, ↓vcD_sp 36, ↓vcOps_sp 39, ↓vcD_sp 39, ↓vcOps_sp 88, ↓vcD_sp 88, ↓vcOps_sp 98, ↓vcD_sp 98, ↓vcOps_sp 113, ↓vcD_sp 113, ↓vcOps_sp 135, ↓vcD_sp 135, ↓vcOps_sp 141, ↓vcD_sp 141, VCA, pg_gl, ↓upd_none, Nat.reduceEqDiff, Nat.reduceBEq, Nat.reduceAdd, Nat.reduceSub, Nat.reduceMul, Nat.reduceLT, Nat.reduceLeDiff, ↓reduceIte, reduceCtorEq, rsOf, rootsOf, SOp.rd, SI.rd, SX.rd, rdL, rdO, rdP, okParts, eqCells, okEqCells, fillA, okFill, setAt, implies_true, forall_const, forall_eq, ne_eq, exists_eq_right_right, exists_eq_right, exists_eq_left, exists_eq_left', eAttr, eInt, eNode, eDoc, eBool, lit_eq, he1, he3, he9, eDoc, eNode]
        refine pcallE.of (hB) ?_; simp -dsimp -implicitDefEqProofs (disch := omega) only [↓vcOps_sp 27, ↓vcD_sp 27, ↓vcOps_sp 36, ↓vcD_sp 36, ↓vcOps_sp 39, ↓vcD_sp 39, ↓vcOps_sp 88, ↓vcD_sp 88, ↓vcOps_sp 98, ↓vcD_sp 98, ↓vcOps_sp 113, ↓vcD_sp 113, ↓vcOps_sp 135, ↓vcD_sp 135, ↓vcOps_sp 141, ↓vcD_sp 141, VCA, pg_gl, ↓upd_none, Nat.reduceEqDiff, Nat.reduceBEq, Nat.reduceAdd, Nat.reduceSub, Nat.reduceMul, Nat.reduceLT, Nat.reduceLeDiff, ↓reduceIte, reduceCtorEq, rsOf, rootsOf, SOp.rd, SI.rd, SX.rd, rdL, rdO, rdP, okParts, eqCells, okEqCells, fillA, okFill, setAt, implies_true, forall_const, forall_eq, ne_eq, exists_eq_right_right, exists_eq_right, exists_eq_left, exists_eq_left', eAttr, eInt, eNode, eDoc, eBool, lit_eq, he1, he3, he9, eDoc, eNode]
        cases hb : (decide ((0 : Int) ≤ (nth d.nodes i).parent) && decide ((nth d.nodes i).parent ≤ (d.nodes.length : Int) - 1))
        · simp -dsimp -implicitDefEqProofs (disch := omega) only [↓vcOps_sp 27, ↓vcD_sp 27, ↓vcOps_sp 36, ↓vcD_sp 36, ↓vcOps_sp 39, ↓vcD_sp 39, ↓vcOps_sp 88, ↓vcD_sp 88, ↓vcOps_sp 98, ↓vcD_sp 98, ↓vcOps_sp 113, ↓vcD_sp 113, ↓vcOps_sp 135, ↓vcD_sp 135, ↓vcOps_sp 141, ↓vcD_sp 141, VCA, pg_gl, ↓upd_none, Nat.reduceEqDiff, Nat.reduceBEq, Nat.reduceAdd, Nat.reduceSub, Nat.reduceMul, Nat.reduceLT, Nat.reduceLeDiff, ↓reduceIte, reduceCtorEq, rsOf, rootsOf, SOp.rd, SI.rd, SX.rd, rdL, rdO, rdP, okParts, eqCells, okEqCells, fillA, okFill, setAt, implies_true, forall_const, forall_eq, ne_eq, exists_eq_right_right, exists_eq_right, exists_eq_left, exists_eq_left', eAttr, eInt, eNode, eDoc, eBool, lit_eq]
          exact ⟨Sub.refl _, bad (by rw [pdef, if_pos ⟨h1, .inl (by rw [inP, hb]; simp)⟩])⟩
        · have hin := inP.2 hb
          have q1 := hin.1
          have q2 := hin.2
          simp -dsimp -implicitDefEqProofs (disch := omega) only [↓vcOps_sp 27, ↓vcD_sp 27, ↓vcOps_sp 36, ↓vcD_sp 36, ↓vcOps_sp 39, ↓vcD_sp 39, ↓vcOps_sp 88, ↓vcD_sp 88, ↓vcOps_sp 98, ↓vcD_sp 98, ↓vcOps_sp 113, ↓vcD_sp 113, ↓vcOps_sp 135, ↓vcD_sp 135, ↓vcOps_sp 141, ↓vcD_sp 141, VCA, pg_gl, ↓upd_none, Nat.reduceEqDiff, Nat.reduceBEq, Nat.reduceAdd, Nat.reduceSub, Nat.reduceMul, Nat.reduceLT, Nat.reduceLeDiff, ↓reduceIte, reduceCtorEq, rsOf, rootsOf, SOp.rd, SI.rd, SX.rd, rdL, rdO, rdP, okParts, eqCells, okEqCells, fillA, okFill, setAt, implies_true, forall_const, forall_eq, ne_eq, exists_eq_right_right, exists_eq_right, exists_eq_left, exists_eq_left', eAttr, eInt, eNode, eDoc, eBool, lit_eq, he1, he3, he9, eDoc, eNode]
          refine ⟨by omega, ?_⟩
          rw [en]
          refine pcallE.of (hPl) ?_; simp -dsimp -implicitDefEqProofs (disch := omega) only [↓vcOps_sp 27, ↓vcD_sp 27, ↓vcOps_sp 36, ↓vcD_sp 36, ↓vcOps_sp 39, ↓vcD_sp 39, ↓vcOps_sp 88, ↓vcD_sp 88, ↓vcOps_sp 98, ↓vcD_sp 98, ↓vcOps_sp 113, ↓vcD_sp 113, ↓vcOps_sp 135, ↓vcD_sp 135, ↓vcOps_sp 141, ↓vcD_sp 141, VCA, pg_gl, ↓upd_none, Nat.reduceEqDiff, Nat.reduceBEq, Nat.reduceAdd, Nat.reduceSub, Nat.reduceMul, Nat.reduceLT, Nat.reduceLeDiff, ↓reduceIte, reduceCtorEq, rsOf, rootsOf, SOp.rd, SI.rd, SX.rd, rdL, rdO, rdP, okParts, eqCells, okEqCells, fillA, okFill, setAt, implies_true, forall_const, forall_eq, ne_eq, exists_eq_right_right, exists_eq_right, exists_eq_left, exists_eq_left', eAttr, eInt, eNode, eDoc, eBool, lit_eq, he1, he3, he9, eDoc, eNode]
          refine Br.dec (fun h2 => ?_) (fun h2 => ?_)
          · simp -dsimp -implicitDefEqProofs (disch := omega) only [↓vcOps_sp 27, ↓vcD_sp 27, ↓vcOps_sp 36, ↓vcD_sp 36, ↓vcOps_sp 39, ↓vcD_sp 39, ↓vcOps_sp 88, ↓vcD_sp 88, ↓vcOps_sp 98, ↓vcD_sp 98, ↓vcOps_sp 113, ↓vcD_sp 113, ↓vcOps_sp 135, ↓vcD_sp 135, ↓vcOps_sp 141, ↓vcD_sp 141, VCA, pg_gl, ↓upd_none, Nat.reduceEqDiff, Nat.reduceBEq, Nat.reduceAdd, Nat.reduceSub, Nat.reduceMul, Nat.reduceLT, Nat.reduceLeDiff, ↓reduceIte, reduceCtorEq, rsOf, rootsOf, SOp.rd, SI.rd, SX.rd, rdL, rdO, rdP, okParts, eqCells, okEqCells, fillA, okFill, setAt, implies_true, forall_const, forall_eq, ne_eq, exists_eq_right_right, exists_eq_right, exists_eq_left, exists_eq_left', eAttr, eInt, eNode, eDoc, eBool, lit_eq]
            exact ⟨Sub.refl _, bad (by rw [pdef, if_pos ⟨h1, .inr (fun hm => by have := im.2 hm; omega)⟩])⟩
          · simp -dsimp -implicitDefEqProofs (disch := omega) only [↓vcOps_sp 27, ↓vcD_sp 27, ↓vcOps_sp 36, ↓vcD_sp 36, ↓vcOps_sp 39, ↓vcD_sp 39, ↓vcOps_sp 88, ↓vcD_sp 88, ↓vcOps_sp 98, ↓vcD_sp 98, ↓vcOps_sp 113, ↓vcD_sp 113, ↓vcOps_sp 135, ↓vcD_sp 135, ↓vcOps_sp 141, ↓vcD_sp 141, VCA, pg_gl, ↓upd_none, Nat.reduceEqDiff, Nat.reduceBEq, Nat.reduceAdd, Nat.reduceSub, Nat.reduceMul, Nat.reduceLT, Nat.reduceLeDiff, ↓reduceIte, reduceCtorEq, rsOf, rootsOf, SOp.rd, SI.rd, SX.rd, rdL, rdO, rdP, okParts, eqCells, okEqCells, fillA, okFill, setAt, implies_true, forall_const, forall_eq, ne_eq, exists_eq_right_right, exists_eq_right, exists_eq_left, exists_eq_left', eAttr, eInt, eNode, eDoc, eBool, lit_eq, he1, he3, he9]
            refine ⟨_, by omega, i + 1, by omega, rfl, by omega, ok0 ?_⟩
            rw [pdef, if_neg]
            rintro ⟨_, hh | hh⟩
            · exact hh hin
            · exact hh (im.1 (by omega))
      · simp -dsimp -implicitDefEqProofs (disch := omega) only [↓vcOps_sp 27, ↓vcD_sp 27, ↓vcOps_sp 36, ↓vcD_sp 36, ↓vcOps_sp 39, ↓vcD_sp 39, ↓vcOps_sp 88, ↓vcD_sp 88, ↓vcOps_sp 98, ↓vcD_sp 98, ↓vcOps_sp 113, ↓vcD_sp 113, ↓vcOps_sp 135, ↓vcD_sp 135, ↓vcOps_sp 141, ↓vcD_sp 141, VCA, pg_gl, ↓upd_none, Nat.reduceEqDiff, Nat.reduceBEq, Nat.reduceAdd, Nat.reduceSub, Nat.reduceMul, Nat.reduceLT, Nat.reduceLeDiff, ↓reduceIte, reduceCtorEq, rsOf, rootsOf, SOp.rd, SI.rd, SX.rd, rdL, rdO, rdP, okParts, eqCells, okEqCells, fillA, okFill, setAt, implies_true, forall_const, forall_eq, ne_eq, exists_eq_right_right, exists_eq_right, exists_eq_left, exists_eq_left', eAttr, eInt, eNode, eDoc, eBool, lit_eq, he1, he3, he9]
        refine ⟨_, by omega, i + 1, by omega, rfl, by omega, ok0 ?_⟩
        rw [pdef, if_neg (fun hh => hh.1 h1)]
    · obtain rfl : i = d.nodes.length := by omega
      simp -dsimp -implicitDefEqProofs (disch := omega) only [↓vcOps_sp 27, ↓vcD_sp 27, ↓vcOps_sp 36, ↓vcD_sp 36, ↓vcOps_sp 39, ↓vcD_sp 39, ↓vcOps_sp 88, ↓vcD_sp 88, ↓vcOps_sp 98, ↓vcD_sp 98, ↓vcOps_sp 113, ↓vcD_sp 113, ↓vcOps_sp 135, ↓vcD_sp 135, ↓vcOps_sp 141, ↓vcD_sp 141, VCA, pg_gl, ↓upd_none, Nat.reduceEqDiff, Nat.reduceBEq, Nat.reduceAdd, Nat.reduceSub, Nat.reduceMul, Nat.reduceLT, Nat.reduceLeDiff, ↓reduceIte, reduceCtorEq, rsOf, rootsOf, SOp.rd, SI.rd, SX.rd, rdL, rdO, rdP, okParts, eqCells, okEqCells, fillA, okFill, setAt, implies_true, forall_const, forall_eq, ne_eq, exists_eq_right_right, exists_eq_right, exists_eq_left, exists_eq_left', eAttr, eInt, eNode, eDoc, eBool, lit_eq]
      exact s7 (.inr ⟨hk, fe_none hj⟩) hp _ he1 he3
  have s5 : 0 < d.nodes.length → ∀ e : Env, e 1 = .pin (eDoc d) → e 3 = aInt d.nodes.length → vc (Pg G) c17_s5 (retK [.tmp 2] fun r h' => r = aInt (if kidsAll d ≠ 0 then kidsAll d else fe d.nodes.length (deepE d)) ∧ h' = h) e h := by
    intro hp e he1 he3
    unfold c17_s5
    skip
    simp -dsimp -implicitDefEqProofs (disch := omega) only [↓vcOps_sp 27, ↓vcD_sp 27, ↓vcOps_sp 36, ↓vcD_sp 36, ↓vcOps_sp 39, ↓vcD_sp 39, ↓vcOps_sp 88, ↓vcD_sp 88, ↓vcOps_sp 98, ↓vcD_sp 98, ↓vcOps_sp 113, ↓vcD_sp 113, ↓vcOps_sp 135, ↓vcD_sp 135, ↓vcOps_sp 141, ↓vcD_sp 141, VCA, pg_gl, ↓upd_none, Nat.reduceEqDiff, Nat.reduceBEq, Nat.reduceAdd, Nat.reduceSub, Nat.reduceMul, Nat.reduceLT, Nat.reduceLeDiff, ↓reduceIte, reduceCtorEq, rsOf, rootsOf, SOp.rd, SI.rd, SX.rd, rdL, rdO, rdP, okParts, eqCells, okEqCells, fillA, okFill, setAt, implies_true, forall_const, forall_eq, ne_eq, exists_eq_right_right, exists_eq_right, exists_eq_left, exists_eq_left', eAttr, eInt, eNode, eDoc, eBool, lit_eq, he1, he3]
    refine LoopVC.intro (fun m e h' => ∃ i : Nat, i ≤ d.nodes.length ∧ m = d.nodes.length - i ∧ e 1 = .pin (eDoc d) ∧ e 3 = aInt d.nodes.length ∧ e 6 = aInt i ∧ h' = h ∧ ∀ j, j < i → kidsE d j = 0) d.nodes.length ⟨0, by omega, by omega, he1, he3, rfl, rfl, by omega⟩ ?_
    rintro m e h' ⟨i, hi, rfl, he1, he3, he6, rfl, hj⟩
    simp -dsimp -implicitDefEqProofs (disch := omega) only [↓vcOps_sp 27, ↓vcD_sp 27, ↓vcOps_sp 36, ↓vcD_sp 36, ↓vcOps_sp 39, ↓vcD_sp 39, ↓vcOps_sp 88, ↓vcD_sp 88, ↓vcOps_sp 98, ↓vcD_sp 98, ↓vcOps_sp 113, ↓vcD_sp 113, ↓vcOps_sp 135, ↓vcD_sp 135, ↓vcOps_sp 141, ↓vcD_sp 141, VCA, pg_gl, ↓upd_none, Nat.reduceEqDiff, Nat.reduceBEq, Nat.reduceAdd, Nat.reduceSub, Nat.reduceMul, Nat.reduceLT, Nat.reduceLeDiff, ↓reduceIte, reduceCtorEq, rsOf, rootsOf, SOp.rd, SI.rd, SX.rd, rdL, rdO, rdP, okParts, eqCells, okEqCells, fillA, okFill, setAt, implies_true, forall_const, forall_eq, ne_eq, exists_eq_right_right, exists_eq_right, exists_eq_left, exists_eq_left', eAttr, eInt, eNode, eDoc, eBool, lit_eq, he1, he3, he6]
    refine Br.dec (fun hlt => ?_) (fun hge => ?_)
    · have hi' : i < d.nodes.length := by omega
      have kl := (sm.nth i).kids
      simp -dsimp -implicitDefEqProofs (disch := omega) only [↓vcOps_sp 27, ↓vcD_sp 27, ↓vcOps_sp 36, ↓vcD_sp 36, ↓vcOps_sp 39, ↓vcD_sp 39, ↓vcOps_sp 88, ↓vcD_sp 88, ↓vcOps_sp 98, ↓vcD_sp 98, ↓vcOps_sp 113, ↓vcD_sp 113, ↓vcOps_sp 135, ↓vcD_sp 135, ↓vcOps_sp 141, ↓vcD_sp 141, VCA, pg_gl, ↓upd_none, Nat.reduceEqDiff, Nat.reduceBEq, Nat.reduceAdd, Nat.reduceSub, Nat.reduceMul, Nat.reduceLT, Nat.reduceLeDiff, ↓reduceIte, reduceCtorEq, rsOf, rootsOf, SOp.rd, SI.rd, SX.rd, rdL, rdO, rdP, okParts, eqCells, okEqCells, fillA, okFill, setAt, implies_true, forall_const, forall_eq, ne_eq, exists_eq_right_right, exists_eq_right, exists_eq_left, exists_eq_left', eAttr, eInt, eNode, eDoc, eBool, lit_eq, he1, he3, he6]
      refine LoopVC.intro (fun m e h2 => ∃ k : Nat, k ≤ (nth d.nodes i).kids.length ∧ m = (nth d.nodes i).kids.length - k ∧ e 1 = .pin (eDoc d) ∧ e 3 = aInt d.nodes.length ∧ e 6 = aInt i ∧ e 7 = aInt k ∧ h2 = h' ∧ ∀ j, j < k → kidE d i j = 0) (nth d.nodes i).kids.length ⟨0, by omega, by omega, he1, he3, he6, rfl, rfl, by omega⟩ ?_
      rintro m e h2 ⟨k, hk, rfl, he1, he3, he6, he7, rfl, hk0⟩
      simp -dsimp -implicitDefEqProofs (disch := omega) only [↓vcOps_sp 27, ↓vcD_sp 27, ↓vcOps_sp 36, ↓vcD_sp 36, ↓vcOps_sp 39, ↓vcD_sp 39, ↓vcOps_sp 88, ↓vcD_sp 88, ↓vcOps_sp 98, ↓vcD_sp 98, ↓vcOps_sp 113, ↓vcD_sp 113, ↓vcOps_sp 135, ↓vcD_sp 135, ↓vcOps_sp 141, ↓vcD_sp 141, VCA, pg_gl, ↓upd_none, Nat.reduceEqDiff, Nat.reduceBEq, Nat.reduceAdd, Nat.reduceSub, Nat.reduceMul, Nat.reduceLT, Nat.reduceLeDiff, ↓reduceIte, reduceCtorEq, rsOf, rootsOf, SOp.rd, SI.rd, SX.rd, rdL, rdO, rdP, okParts, eqCells, okEqCells, fillA, okFill, setAt, implies_true, forall_const, forall_eq, ne_eq, exists_eq_right_right, exists_eq_right, exists_eq_left, exists_eq_left', eAttr, eInt, eNode, eDoc, eBool, lit_eq, he1, he3, he6, he7, eDoc, eNode]
      refine ⟨by omega, ?_⟩
      refine Br.dec (fun hlt => ?_) (fun hge => ?_)
      · have hk' : k < (nth d.nodes i).kids.length := by omega
        have bad : ∀ x : Int, x ≠ 0 → kidE d i k = x → x = (if kidsAll d ≠ 0 then kidsAll d else fe d.nodes.length (deepE d)) := fun x hx he => by
          have h1 : kidsE d i = x := by unfold kidsE; rw [fe_some hk' hk0 (by rw [he]; exact hx), he]
          have h2 : fe d.nodes.length (kidsE d) = x := by rw [fe_some hi' hj (by rw [h1]; exact hx), h1]
          have h3 : kidsAll d = x := by unfold kidsAll; rw [h2, if_pos hx]
          rw [h3, if_pos hx]
        have kdef : kidE d i k = if ¬ inD d (nth (nth d.nodes i).kids k) ∨ (nd d (nth (nth d.nodes i).kids k)).parent ≠ i ∨ nth (nth d.nodes i).kids k ∈ (nth d.nodes i).kids.take k then 3 else if i = 0 ∧ (nd d (nth (nth d.nodes i).kids k)).kind = 3 then 7 else 0 := rfl
        have ok0 : ∀ j, kidE d i k = 0 → j < k + 1 → kidE d i j = 0 := fun j h0 hj' => by
          by_cases hjk : j = k
          · subst hjk; exact h0
          · exact hk0 j (by omega)
        have hB := betw_ok (G := G) (nth (nth d.nodes i).kids k) 0 ((d.nodes.length : Int) - 1)
        have inP : inD d (nth (nth d.nodes i).kids k) ↔ (decide ((0 : Int) ≤ nth (nth d.nodes i).kids k) && decide (nth (nth d.nodes i).kids k ≤ (d.nodes.length : Int) - 1)) = true := by
          unfold inD; simp; omega
        have im := idx_mem ((nth d.nodes i).kids.take k) (nth (nth d.nodes i).kids k)
        have e2 : (nth d.nodes i).kids.take (Int.toNat (k : Int)) = (nth d.nodes i).kids.take k := by simp
        have hPl := placeIn_ok (G := G) ((nth d.nodes i).kids.take k) (nth (nth d.nodes i).kids k) (by simp; omega)
        have en : nth d.nodes (nth (nth d.nodes i).kids k).toNat = nd d (nth (nth d.nodes i).kids k) := rfl
        simp -dsimp -implicitDefEqProofs (disch := omega) only [↓vcOps_sp 27, ↓vcD_sp 27, ↓vcOps_sp 36, ↓vcD_sp 36, ↓vcOps_sp 39, ↓vcD_sp 39, ↓vcOps_sp 88, ↓vcD_sp 88, ↓vcOps_sp 98, ↓vcD_sp 98, ↓vcOps_sp 113, ↓vcD_sp 113, ↓vcOps_sp 135, ↓vcD_sp 135, ↓vcOps_sp 141, ↓vcD_sp 141, VCA, pg_gl, ↓upd_none, Nat.reduceEqDiff, Nat.reduceBEq, Nat.reduceAdd, Nat.reduceSub, Nat.reduceMul, Nat.reduceLT, Nat.reduceLeDiff, ↓reduceIte, reduceCtorEq, rsOf, rootsOf, SOp.rd, SI.rd, SX.rd, rdL, rdO, rdP, okParts, eqCells, okEqCells, fillA, okFill, setAt, implies_true, forall_const, forall_eq, ne_eq, exists_eq_right_right, exists_eq_right, exists_eq_left, exists_eq_left', eAttr, eInt, eNode, eDoc, eBool, lit_eq, he1, he3, he6, he7, eDoc, eNode]
        refine ⟨by omega, by omega, ?_⟩
        refine pcallE.of (hB) ?_; simp -dsimp -implicitDefEqProofs (disch := omega) only [↓vcOps_sp 27, ↓vcD_sp 27, ↓vcOps_sp 36, ↓vcD_sp 36, ↓vcOps_sp 39, ↓vcD_sp 39, ↓vcOps_sp 88, ↓vcD_sp 88, ↓vcOps_sp 98, ↓vcD_sp 98, ↓vcOps_sp 113, ↓vcD_sp 113, ↓vcOps_sp 135, ↓vcD_sp 135, ↓vcOps_sp 141, ↓vcD_sp 141, VCA, pg_gl, ↓upd_none, Nat.reduceEqDiff, Nat.reduceBEq, Nat.reduceAdd, Nat.reduceSub, Nat.reduceMul, Nat.reduceLT, Nat.reduceLeDiff, ↓reduceIte, reduceCtorEq, rsOf, rootsOf, SOp.rd, SI.rd, SX.rd, rdL, rdO, rdP, okParts, eqCells, okEqCells, fillA, okFill, setAt, implies_true, forall_const, forall_eq, ne_eq, exists_eq_right_right, exists_eq_right, exists_eq_left, exists_eq_left', eAttr, eInt, eNode, eDoc, eBool, lit_eq, he1, he3, he6, he7, eDoc, eNode]
        cases hb : (decide ((0 : Int) ≤ nth (nth d.nodes i).kids k) && decide (nth (nth d.nodes i).kids k ≤ (d.nodes.length : Int) - 1))
        · simp -dsimp -implicitDefEqProofs (disch := omega) only [↓vcOps_sp 27, ↓vcD_sp 27, ↓vcOps_sp 36, ↓vcD_sp 36, ↓vcOps_sp 39, ↓vcD_sp 39, ↓vcOps_sp 88, ↓vcD_sp 88, ↓vcOps_sp 98, ↓vcD_sp 98, ↓vcOps_sp 113, ↓vcD_sp 113, ↓vcOps_sp 135, ↓vcD_sp 135, ↓vcOps_sp 141, ↓vcD_sp 141, VCA, pg_gl, ↓upd_none, Nat.reduceEqDiff, Nat.reduceBEq, Nat.reduceAdd, Nat.reduceSub, Nat.reduceMul, Nat.reduceLT, Nat.reduceLeDiff, ↓reduceIte, reduceCtorEq, rsOf, rootsOf, SOp.rd, SI.rd, SX.rd, rdL, rdO, rdP, okParts, eqCells, okEqCells, fillA, okFill, setAt, implies_true, forall_const, forall_eq, ne_eq, exists_eq_right_right, exists_eq_right, exists_eq_left, exists_eq_left', eAttr, eInt, eNode, eDoc, eBool, lit_eq]
          exact ⟨Sub.refl _, bad 3 (by decide) (by rw [kdef, if_pos (.inl (by rw [inP, hb]; simp))])⟩
        · have hin := inP.2 hb
          have q1 := hin.1
          have q2 := hin.2
          simp -dsimp -implicitDefEqProofs (disch := omega) only [↓vcOps_sp 27, ↓vcD_sp 27, ↓vcOps_sp 36, ↓vcD_sp 36, ↓vcOps_sp 39, ↓vcD_sp 39, ↓vcOps_sp 88, ↓vcD_sp 88, ↓vcOps_sp 98, ↓vcD_sp 98, ↓vcOps_sp 113, ↓vcD_sp 113, ↓vcOps_sp 135, ↓vcD_sp 135, ↓vcOps_sp 141, ↓vcD_sp 141, VCA, pg_gl, ↓upd_none, Nat.reduceEqDiff, Nat.reduceBEq, Nat.reduceAdd, Nat.reduceSub, Nat.reduceMul, Nat.reduceLT, Nat.reduceLeDiff, ↓reduceIte, reduceCtorEq, rsOf, rootsOf, SOp.rd, SI.rd, SX.rd, rdL, rdO, rdP, okParts, eqCells, okEqCells, fillA, okFill, setAt, implies_true, forall_const, forall_eq, ne_eq, exists_eq_right_right, exists_eq_right, exists_eq_left, exists_eq_left', eAttr, eInt, eNode, eDoc, eBool, lit_eq, he1, he3, he6, he7, eDoc, eNode]
          refine ⟨by omega, ?_⟩
          rw [en]
          refine Br.ne (fun h1 => ?_) (fun h1 => ?_)
          · simp -dsimp -implicitDefEqProofs (disch := omega) only [↓vcOps_sp 27, ↓vcD_sp 27, ↓vcOps_sp 36, ↓vcD_sp 36, ↓vcOps_sp 39, ↓vcD_sp 39, ↓vcOps_sp 88, ↓vcD_sp 88, ↓vcOps_sp 98, ↓vcD_sp 98, ↓vcOps_sp 113, ↓vcD_sp 113, ↓vcOps_sp 135, ↓vcD_sp 135, ↓vcOps_sp 141, ↓vcD_sp 141, VCA, pg_gl, ↓upd_none, Nat.reduceEqDiff, Nat.reduceBEq, Nat.reduceAdd, Nat.reduceSub, Nat.reduceMul, Nat.reduceLT, Nat.reduceLeDiff, ↓reduceIte, reduceCtorEq, rsOf, rootsOf, SOp.rd, SI.rd, SX.rd, rdL, rdO, rdP, okParts, eqCells, okEqCells, fillA, okFill, setAt, implies_true, forall_const, forall_eq, ne_eq, exists_eq_right_right, exists_eq_right, exists_eq_left, exists_eq_left', eAttr, eInt, eNode, eDoc, eBool, lit_eq]
            exact ⟨Sub.refl _, bad 3 (by decide) (by rw [kdef, if_pos (.inr (.inl h1))])⟩
          · simp -dsimp -implicitDefEqProofs (disch := omega) only [↓vcOps_sp 27, ↓vcD_sp 27, ↓vcOps_sp 36, ↓vcD_sp 36, ↓vcOps_sp 39, ↓vcD_sp 39, ↓vcOps_sp 88, ↓vcD_sp 88, ↓vcOps_sp 98, ↓vcD_sp 98, ↓vcOps_sp 113, ↓vcD_sp 113, ↓vcOps_sp 135, ↓vcD_sp 135, ↓vcOps_sp 141, ↓vcD_sp 141, VCA, pg_gl, ↓upd_none, Nat.reduceEqDiff, Nat.reduceBEq, Nat.reduceAdd, Nat.reduceSub, Nat.reduceMul, Nat.reduceLT, Nat.reduceLeDiff, ↓reduceIte, reduceCtorEq, rsOf, rootsOf, SOp.rd, SI.rd, SX.rd, rdL, rdO, rdP, okParts, eqCells, okEqCells, fillA, okFill, setAt, implies_true, forall_const, forall_eq, ne_eq, exists_eq_right_right, exists_eq_right, exists_eq_left, exists_eq_left', eAttr, eInt, eNode, eDoc, eBool, lit_eq, he1, he3, he6, he7, eDoc, eNode]
            refine ⟨by omega, by omega, ?_⟩
            refine pcallE.of (hPl) ?_; simp -dsimp -implicitDefEqProofs (disch := omega) only [↓vcOps_sp 27, ↓vcD_sp 27, ↓vcOps_sp 36, ↓vcD_sp 36, ↓vcOps_sp 39, ↓vcD_sp 39, ↓vcOps_sp 88, ↓vcD_sp 88, ↓vcOps_sp 98, ↓vcD_sp 98, ↓vcOps_sp 113, ↓vcD_sp 113, ↓vcOps_sp 135, ↓vcD_sp 135, ↓vcOps_sp 141, ↓vcD_sp 141, VCA, pg_gl, ↓upd_none, Nat.reduceEqDiff, Nat.reduceBEq, Nat.reduceAdd, Nat.reduceSub, Nat.reduceMul, Nat.reduceLT, Nat.reduceLeDiff, ↓reduceIte, reduceCtorEq, rsOf, rootsOf, SOp.rd, SI.rd, SX.rd, rdL, rdO, rdP, okParts, eqCells, okEqCells, fillA, okFill, setAt, implies_true, forall_const, forall_eq, ne_eq, exists_eq_right_right, exists_eq_right, exists_eq_left, exists_eq_left', eAttr, eInt, eNode, eDoc, eBool, lit_eq, he1, he3, he6, he7, eDoc, eNode]
            refine Br.dec (fun h2 => ?_) (fun h2 => ?_)
            · simp -dsimp -implicitDefEqProofs (disch := omega) only [↓vcOps_sp 27, ↓vcD_sp 27, ↓vcOps_sp 36, ↓vcD_sp 36, ↓vcOps_sp 39, ↓vcD_sp 39, ↓vcOps_sp 88, ↓vcD_sp 88, ↓vcOps_sp 98, ↓vcD_sp 98, ↓vcOps_sp 113, ↓vcD_sp 113, ↓vcOps_sp 135, ↓vcD_sp 135, ↓vcOps_sp 141, ↓vcD_sp 141, VCA, pg_gl, ↓upd_none, Nat.reduceEqDiff, Nat.reduceBEq, Nat.reduceAdd, Nat.reduceSub, Nat.reduceMul, Nat.reduceLT, Nat.reduceLeDiff, ↓reduceIte, reduceCtorEq, rsOf, rootsOf, SOp.rd, SI.rd, SX.rd, rdL, rdO, rdP, okParts, eqCells, okEqCells, fillA, okFill, setAt, implies_true, forall_const, forall_eq, ne_eq, exists_eq_right_right, exists_eq_right, exists_eq_left, exists_eq_left', eAttr, eInt, eNode, eDoc, eBool, lit_eq]
              exact ⟨Sub.refl _, bad 3 (by decide) (by rw [kdef, if_pos (.inr (.inr (im.1 h2)))])⟩
            · have hno : ¬ (¬ inD d (nth (nth d.nodes i).kids k) ∨ (nd d (nth (nth d.nodes i).kids k)).parent ≠ i ∨ nth (nth d.nodes i).kids k ∈ (nth d.nodes i).kids.take k) := by
                rintro (hh | hh | hh)
                · exact hh hin
                · exact hh h1
                · exact h2 (im.2 hh)
              have e0 : ∀ h0 : i = 0, nth d.nodes (nth (nth d.nodes i).kids k).toNat = nd d (nth (nth d.nodes i).kids k) := fun _ => rfl
              simp -dsimp -implicitDefEqProofs (disch := omega) only [↓vcOps_sp 27, ↓vcD_sp 27, ↓vcOps_sp 36, ↓vcD_sp 36, ↓vcOps_sp 39, ↓vcD_sp 39, ↓vcOps_sp 88, ↓vcD_sp 88, ↓vcOps_sp 98, ↓vcD_sp 98, ↓vcOps_sp 113, ↓vcD_sp 113, ↓vcOps_sp 135, ↓vcD_sp 135, ↓vcOps_sp 141, ↓vcD_sp 141, VCA, pg_gl, ↓upd_none, Nat.reduceEqDiff, Nat.reduceBEq, Nat.reduceAdd, Nat.reduceSub, Nat.reduceMul, Nat.reduceLT, Nat.reduceLeDiff, ↓reduceIte, reduceCtorEq, rsOf, rootsOf, SOp.rd, SI.rd, SX.rd, rdL, rdO, rdP, okParts, eqCells, okEqCells, fillA, okFill, setAt, implies_true, forall_const, forall_eq, ne_eq, exists_eq_right_right, exists_eq_right, exists_eq_left, exists_eq_left', eAttr, eInt, eNode, eDoc, eBool, lit_eq, he1, he3, he6, he7, eDoc, eNode]
              repeat' (first | ((with_reducible refine Br.dec (fun _ => ?_) (fun _ => ?_)) <;> try (exfalso; omega)) | ((with_reducible refine Br.eq (fun _ => ?_) (fun _ => ?_)) <;> try (exfalso; omega)) | ((with_reducible refine Br.ne (fun _ => ?_) (fun _ => ?_)) <;> try (exfalso; omega)) | ((with_reducible refine brNdec (fun _ => ?_) (fun _ => ?_)) <;> try (exfalso; omega)) | ((with_reducible refine brNeq (fun _ => ?_) (fun _ => ?_)) <;> try (exfalso; omega)) | with_reducible refine Br.intro (fun _ => ?_) (fun _ => ?_) | (with_reducible refine And.intro ?_ ?_; · omega) | simp -dsimp -implicitDefEqProofs (disch := omega) only [↓vcOps_sp 27, ↓vcD_sp 27, ↓vcOps_sp 36, ↓vcD_sp 36, ↓vcOps_sp 39, ↓vcD_sp 39, ↓vcOps_sp 88, ↓vcD_sp 88, ↓vcOps_sp 98, ↓vcD_sp 98, ↓vcOps_sp 113, ↓vcD_sp 113, ↓vcOps_sp 135, ↓vcD_sp 135, ↓vcOps_sp 141, ↓vcD_sp 141, VCA, pg_gl, ↓upd_none, Nat.reduceEqDiff, Nat.reduceBEq, Nat.reduceAdd, Nat.reduceSub, Nat.reduceMul, Nat.reduceLT, Nat.reduceLeDiff, ↓reduceIte, reduceCtorEq, rsOf, rootsOf, SOp.rd, SI.rd, SX.rd, rdL, rdO, rdP, okParts, eqCells, okEqCells, fillA, okFill, setAt, implies_true, forall_const, forall_eq, ne_eq, exists_eq_right_right, exists_eq_right, exists_eq_left, exists_eq_left', eAttr, eInt, eNode, eDoc, eBool, lit_eq, he1, he3, he6, he7, eDoc, eNode])
              · rename_i g1 g2
                exact ⟨Sub.refl _, bad 7 (by decide) (by rw [kdef, if_neg hno, if_pos ⟨by omega, g2⟩])⟩
              · rename_i g1 g2
                exact ⟨_, by omega, k + 1, by omega, rfl, by omega, fun j => ok0 j (by rw [kdef, if_neg hno, if_neg (fun hh => g2 hh.2)])⟩
              · rename_i g1
                exact ⟨_, by omega, k + 1, by omega, rfl, by omega, fun j => ok0 j (by rw [kdef, if_neg hno, if_neg (fun hh => g1 (by omega))])⟩
      · obtain rfl : k = (nth d.nodes i).kids.length := by omega
        simp -dsimp -implicitDefEqProofs (disch := omega) only [↓vcOps_sp 27, ↓vcD_sp 27, ↓vcOps_sp 36, ↓vcD_sp 36, ↓vcOps_sp 39, ↓vcD_sp 39, ↓vcOps_sp 88, ↓vcD_sp 88, ↓vcOps_sp 98, ↓vcD_sp 98, ↓vcOps_sp 113, ↓vcD_sp 113, ↓vcOps_sp 135, ↓vcD_sp 135, ↓vcOps_sp 141, ↓vcD_sp 141, VCA, pg_gl, ↓upd_none, Nat.reduceEqDiff, Nat.reduceBEq, Nat.reduceAdd, Nat.reduceSub, Nat.reduceMul, Nat.reduceLT, Nat.reduceLeDiff, ↓reduceIte, reduceCtorEq, rsOf, rootsOf, SOp.rd, SI.rd, SX.rd, rdL, rdO, rdP, okParts, eqCells, okEqCells, fillA, okFill, setAt, implies_true, forall_const, forall_eq, ne_eq, exists_eq_right_right, exists_eq_right, exists_eq_left, exists_eq_left', eAttr, eInt, eNode, eDoc, eBool, lit_eq, he1, he3, he6]
        refine ⟨_, by omega, i + 1, by omega, rfl, by omega, fun j hj' => ?_⟩
        by_cases hji : j = i
        · subst hji; exact fe_none hk0
        · exact hj j (by omega)
    · obtain rfl : i = d.nodes.length := by omega
      simp -dsimp -implicitDefEqProofs (disch := omega) only [↓vcOps_sp 27, ↓vcD_sp 27, ↓vcOps_sp 36, ↓vcD_sp 36, ↓vcOps_sp 39, ↓vcD_sp 39, ↓vcOps_sp 88, ↓vcD_sp 88, ↓vcOps_sp 98, ↓vcD_sp 98, ↓vcOps_sp 113, ↓vcD_sp 113, ↓vcOps_sp 135, ↓vcD_sp 135, ↓vcOps_sp 141, ↓vcD_sp 141, VCA, pg_gl, ↓upd_none, Nat.reduceEqDiff, Nat.reduceBEq, Nat.reduceAdd, Nat.reduceSub, Nat.reduceMul, Nat.reduceLT, Nat.reduceLeDiff, ↓reduceIte, reduceCtorEq, rsOf, rootsOf, SOp.rd, SI.rd, SX.rd, rdL, rdO, rdP, okParts, eqCells, okEqCells, fillA, okFill, setAt, implies_true, forall_const, forall_eq, ne_eq, exists_eq_right_right, exists_eq_right, exists_eq_left, exists_eq_left', eAttr, eInt, eNode, eDoc, eBool, lit_eq]
      exact s6 (fe_none hj) hp _ he1 he3
  have s4 : 0 < d.nodes.length → ∀ e : Env, e 1 = .pin (eDoc d) → e 3 = aInt d.nodes.length → vc (Pg G) c17_s4 (retK [.tmp 2] fun r h' => r = aInt (if fe d.nodes.length (headE d) ≠ 0 then fe d.nodes.length (headE d) else if kidsAll d ≠ 0 then kidsAll d else fe d.nodes.length (deepE d)) ∧ h' = h) e h := by
    intro hp e he1 he3
    unfold c17_s4
    skip
    simp -dsimp -implicitDefEqProofs (disch := omega) only [↓vcOps_sp 27, ↓vcD_sp 27, ↓vcOps_sp 36, ↓vcD_sp 36, ↓vcOps_sp 39, ↓vcD_sp 39, ↓vcOps_sp 88, ↓vcD_sp 88, ↓vcOps_sp 98, ↓vcD_sp 98, ↓vcOps_sp 113, ↓vcD_sp 113, ↓vcOps_sp 135, ↓vcD_sp 135, ↓vcOps_sp 141, ↓vcD_sp 141, VCA, pg_gl, ↓upd_none, Nat.reduceEqDiff, Nat.reduceBEq, Nat.reduceAdd, Nat.reduceSub, Nat.reduceMul, Nat.reduceLT, Nat.reduceLeDiff, ↓reduceIte, reduceCtorEq, rsOf, rootsOf, SOp.rd, SI.rd, SX.rd, rdL, rdO, rdP, okParts, eqCells, okEqCells, fillA, okFill, setAt, implies_true, forall_const, forall_eq, ne_eq, exists_eq_right_right, exists_eq_right, exists_eq_left, exists_eq_left', eAttr, eInt, eNode, eDoc, eBool, lit_eq, he1, he3]
    refine LoopVC.intro (fun m e h' => ∃ i : Nat, i ≤ d.nodes.length ∧ m = d.nodes.length - i ∧ e 1 = .pin (eDoc d) ∧ e 3 = aInt d.nodes.length ∧ e 4 = aInt i ∧ h' = h ∧ ∀ j, j < i → headE d j = 0) d.nodes.length ⟨0, by omega, by omega, he1, he3, rfl, rfl, by omega⟩ ?_
    rintro m e h' ⟨i, hi, rfl, he1, he3, he4, rfl, hj⟩
    simp -dsimp -implicitDefEqProofs (disch := omega) only [↓vcOps_sp 27, ↓vcD_sp 27, ↓vcOps_sp 36, ↓vcD_sp 36, ↓vcOps_sp 39, ↓vcD_sp 39, ↓vcOps_sp 88, ↓vcD_sp 88, ↓vcOps_sp 98, ↓vcD_sp 98, ↓vcOps_sp 113, ↓vcD_sp 113, ↓vcOps_sp 135, ↓vcD_sp 135, ↓vcOps_sp 141, ↓vcD_sp 141, VCA, pg_gl, ↓upd_none, Nat.reduceEqDiff, Nat.reduceBEq, Nat.reduceAdd, Nat.reduceSub, Nat.reduceMul, Nat.reduceLT, Nat.reduceLeDiff, ↓reduceIte, reduceCtorEq, rsOf, rootsOf, SOp.rd, SI.rd, SX.rd, rdL, rdO, rdP, okParts, eqCells, okEqCells, fillA, okFill, setAt, implies_true, forall_const, forall_eq, ne_eq, exists_eq_right_right, exists_eq_right, exists_eq_left, exists_eq_left', eAttr, eInt, eNode, eDoc, eBool, lit_eq, he1, he3, he4]
    refine Br.dec (fun hlt => ?_) (fun hge => ?_)
    · have hi' : i < d.nodes.length := by omega
      have hdef : headE d i = if ¬ ((nth d.nodes i).kind = 1 ↔ i = 0) then 3 else nodeE (nth d.nodes i) := rfl
      have bad : ∀ x : Int, x ≠ 0 → headE d i = x → x = (if fe d.nodes.length (headE d) ≠ 0 then fe d.nodes.length (headE d) else if kidsAll d ≠ 0 then kidsAll d else fe d.nodes.length (deepE d)) := fun x hx he => by
        have : fe d.nodes.length (headE d) = x := by rw [fe_some hi' hj (by rw [he]; exact hx), he]
        rw [this, if_pos hx]
      have ok0 : headE d i = 0 → ∀ j, j < i + 1 → headE d j = 0 := fun h0 j hj' => by
        by_cases hji : j = i
        · subst hji; exact h0
        · exact hj j (by omega)
      have hO : PCalls (Pg G) 72 [.agg [aInt (nth d.nodes i).kind, .str (nth d.nodes i).name, sl eAttr (nth d.nodes i).attrs, .str (nth d.nodes i).text, aInt (nth d.nodes i).parent, sl eInt (nth d.nodes i).kids]] (aInt (nodeE (nth d.nodes i))) := nodeErr_ok _ (sm.nth i)
      simp -dsimp -implicitDefEqProofs (disch := omega) only [↓vcOps_sp 27, ↓vcD_sp 27, ↓vcOps_sp 36, ↓vcD_sp 36, ↓vcOps_sp 39, ↓vcD_sp 39, ↓vcOps_sp 88, ↓vcD_sp 88, ↓vcOps_sp 98, ↓vcD_sp 98, ↓vcOps_sp 113, ↓vcD_sp 113, ↓vcOps_sp 135, ↓vcD_sp 135, ↓vcOps_sp 141, ↓vcD_sp 141, VCA, pg_gl, ↓upd_none, Nat.reduceEqDiff, Nat.reduceBEq, Nat.reduceAdd, Nat.reduceSub, Nat.reduceMul, Nat.reduceLT, Nat.reduceLeDiff, ↓reduceIte, reduceCtorEq, rsOf, rootsOf, SOp.rd, SI.rd, SX.rd, rdL, rdO, rdP, okParts, eqCells, okEqCells, fillA, okFill, setAt, implies_true, forall_const, forall_eq, ne_eq, exists_eq_right_right, exists_eq_right, exists_eq_left, exists_eq_left', eAttr, eInt, eNode, eDoc, eBool, lit_eq, he1, he3, he4, eDoc, eNode]
      repeat' (first | ((with_reducible refine Br.dec (fun _ => ?_) (fun _ => ?_)) <;> try (exfalso; omega)) | ((with_reducible refine Br.eq (fun _ => ?_) (fun _ => ?_)) <;> try (exfalso; omega)) | ((with_reducible refine Br.ne (fun _ => ?_) (fun _ => ?_)) <;> try (exfalso; omega)) | ((with_reducible refine brNdec (fun _ => ?_) (fun _ => ?_)) <;> try (exfalso; omega)) | ((with_reducible refine brNeq (fun _ => ?_) (fun _ => ?_)) <;> try (exfalso; omega)) | with_reducible refine Br.intro (fun _ => ?_) (fun _ => ?_) | (with_reducible apply pcallE.of; · exact hO) | (with_reducible refine And.intro ?_ ?_; · omega) | simp -dsimp -implicitDefEqProofs (disch := omega) only [↓vcOps_sp 27, ↓vcD_sp 27, ↓vcOps_sp 36, ↓vcD_sp 36, ↓vcOps_sp 39, ↓vcD_sp 39, ↓vcOps_sp 88, ↓vcD_sp 88, ↓vcOps_sp 98, ↓vcD_sp 98, ↓vcOps_sp 113, ↓vcD_sp 113, ↓vcOps_sp 135, ↓vcD_sp 135, ↓vcOps_sp 141, ↓vcD_sp 141, VCA, pg_gl, ↓upd_none, Nat.reduceEqDiff, Nat.reduceBEq, Nat.reduceAdd, Nat.reduceSub, Nat.reduceMul, Nat.reduceLT, Nat.reduceLeDiff, ↓reduceIte, reduceCtorEq, rsOf, rootsOf, SOp.rd, SI.rd, SX.rd, rdL, rdO, rdP, okParts, eqCells, okEqCells, fillA, okFill, setAt, implies_true, forall_const, forall_eq, ne_eq, exists_eq_right_right, exists_eq_right, exists_eq_left, exists_eq_left', eAttr, eInt, eNode, eDoc, eBool, lit_eq, he1, he3, he4, eDoc, eNode])
      all_goals first
        | exact ⟨Sub.refl _, bad 3 (by decide) (by rw [hdef, if_pos (by omega)])⟩
        | (rename_i q; exact ⟨Sub.refl _, bad _ q (by rw [hdef, if_neg (by omega)])⟩)
        | (rename_i q; exact ⟨_, by omega, i + 1, by omega, rfl, by omega, ok0 (by rw [hdef, if_neg (by omega), q])⟩)
    · obtain rfl : i = d.nodes.length := by omega
      rw [fe_none hj, if_neg (by simp)]
      simp -dsimp -implicitDefEqProofs (disch := omega) only [↓vcOps_sp 27, ↓vcD_sp 27, ↓vcOps_sp 36, ↓vcD_sp 36, ↓vcOps_sp 39, ↓vcD_sp 39, ↓vcOps_sp 88, ↓vcD_sp 88, ↓vcOps_sp 98, ↓vcD_sp 98, ↓vcOps_sp 113, ↓vcD_sp 113, ↓vcOps_sp 135, ↓vcD_sp 135, ↓vcOps_sp 141, ↓vcD_sp 141, VCA, pg_gl, ↓upd_none, Nat.reduceEqDiff, Nat.reduceBEq, Nat.reduceAdd, Nat.reduceSub, Nat.reduceMul, Nat.reduceLT, Nat.reduceLeDiff, ↓reduceIte, reduceCtorEq, rsOf, rootsOf, SOp.rd, SI.rd, SX.rd, rdL, rdO, rdP, okParts, eqCells, okEqCells, fillA, okFill, setAt, implies_true, forall_const, forall_eq, ne_eq, exists_eq_right_right, exists_eq_right, exists_eq_left, exists_eq_left', eAttr, eInt, eNode, eDoc, eBool, lit_eq]
      exact s5 hp _ he1 he3
  rw [docE_kids]
  refine dcalls_of_vc Tryd.func17 hn17 hc17 (by rw [Tryd.ntmps17]; simp) (by rw [Tryd.ntmps17]; decide) ?_
  simp -dsimp -implicitDefEqProofs (disch := omega) only [↓vcOps_sp 27, ↓vcD_sp 27, ↓vcOps_sp 36, ↓vcD_sp 36, ↓vcOps_sp 39, ↓vcD_sp 39, ↓vcOps_sp 88, ↓vcD_sp 88, ↓vcOps_sp 98, ↓vcD_sp 98, ↓vcOps_sp 113, ↓vcD_sp 113, ↓vcOps_sp 135, ↓vcD_sp 135, ↓vcOps_sp 141, ↓vcD_sp 141, VCA, pg_gl, ↓upd_none, Nat.reduceEqDiff, Nat.reduceBEq, Nat.reduceAdd, Nat.reduceSub, Nat.reduceMul, Nat.reduceLT, Nat.reduceLeDiff, ↓reduceIte, reduceCtorEq, rsOf, rootsOf, SOp.rd, SI.rd, SX.rd, rdL, rdO, rdP, okParts, eqCells, okEqCells, fillA, okFill, setAt, implies_true, forall_const, forall_eq, ne_eq, exists_eq_right_right, exists_eq_right, exists_eq_left, exists_eq_left', eAttr, eInt, eNode, eDoc, eBool, lit_eq, c17, eDoc]
  refine Br.dec (fun h1 => ?_) (fun h1 => ?_)
  · rw [if_pos (by omega)]
    simp -dsimp -implicitDefEqProofs (disch := omega) only [↓vcOps_sp 27, ↓vcD_sp 27, ↓vcOps_sp 36, ↓vcD_sp 36, ↓vcOps_sp 39, ↓vcD_sp 39, ↓vcOps_sp 88, ↓vcD_sp 88, ↓vcOps_sp 98, ↓vcD_sp 98, ↓vcOps_sp 113, ↓vcD_sp 113, ↓vcOps_sp 135, ↓vcD_sp 135, ↓vcOps_sp 141, ↓vcD_sp 141, VCA, pg_gl, ↓upd_none, Nat.reduceEqDiff, Nat.reduceBEq, Nat.reduceAdd, Nat.reduceSub, Nat.reduceMul, Nat.reduceLT, Nat.reduceLeDiff, ↓reduceIte, reduceCtorEq, rsOf, rootsOf, SOp.rd, SI.rd, SX.rd, rdL, rdO, rdP, okParts, eqCells, okEqCells, fillA, okFill, setAt, implies_true, forall_const, forall_eq, ne_eq, exists_eq_right_right, exists_eq_right, exists_eq_left, exists_eq_left', eAttr, eInt, eNode, eDoc, eBool, lit_eq]
    exact Sub.refl _
  · rw [if_neg (by omega)]
    simp -dsimp -implicitDefEqProofs (disch := omega) only [↓vcOps_sp 27, ↓vcD_sp 27, ↓vcOps_sp 36, ↓vcD_sp 36, ↓vcOps_sp 39, ↓vcD_sp 39, ↓vcOps_sp 88, ↓vcD_sp 88, ↓vcOps_sp 98, ↓vcD_sp 98, ↓vcOps_sp 113, ↓vcD_sp 113, ↓vcOps_sp 135, ↓vcD_sp 135, ↓vcOps_sp 141, ↓vcD_sp 141, VCA, pg_gl, ↓upd_none, Nat.reduceEqDiff, Nat.reduceBEq, Nat.reduceAdd, Nat.reduceSub, Nat.reduceMul, Nat.reduceLT, Nat.reduceLeDiff, ↓reduceIte, reduceCtorEq, rsOf, rootsOf, SOp.rd, SI.rd, SX.rd, rdL, rdO, rdP, okParts, eqCells, okEqCells, fillA, okFill, setAt, implies_true, forall_const, forall_eq, ne_eq, exists_eq_right_right, exists_eq_right, exists_eq_left, exists_eq_left', eAttr, eInt, eNode, eDoc, eBool, lit_eq]
    refine Br.eq (fun h2 => ?_) (fun h2 => ?_)
    · rw [if_pos (by omega)]
      simp -dsimp -implicitDefEqProofs (disch := omega) only [↓vcOps_sp 27, ↓vcD_sp 27, ↓vcOps_sp 36, ↓vcD_sp 36, ↓vcOps_sp 39, ↓vcD_sp 39, ↓vcOps_sp 88, ↓vcD_sp 88, ↓vcOps_sp 98, ↓vcD_sp 98, ↓vcOps_sp 113, ↓vcD_sp 113, ↓vcOps_sp 135, ↓vcD_sp 135, ↓vcOps_sp 141, ↓vcD_sp 141, VCA, pg_gl, ↓upd_none, Nat.reduceEqDiff, Nat.reduceBEq, Nat.reduceAdd, Nat.reduceSub, Nat.reduceMul, Nat.reduceLT, Nat.reduceLeDiff, ↓reduceIte, reduceCtorEq, rsOf, rootsOf, SOp.rd, SI.rd, SX.rd, rdL, rdO, rdP, okParts, eqCells, okEqCells, fillA, okFill, setAt, implies_true, forall_const, forall_eq, ne_eq, exists_eq_right_right, exists_eq_right, exists_eq_left, exists_eq_left', eAttr, eInt, eNode, eDoc, eBool, lit_eq]
      exact Sub.refl _
    · rw [if_neg (by omega)]
      simp -dsimp -implicitDefEqProofs (disch := omega) only [↓vcOps_sp 27, ↓vcD_sp 27, ↓vcOps_sp 36, ↓vcD_sp 36, ↓vcOps_sp 39, ↓vcD_sp 39, ↓vcOps_sp 88, ↓vcD_sp 88, ↓vcOps_sp 98, ↓vcD_sp 98, ↓vcOps_sp 113, ↓vcD_sp 113, ↓vcOps_sp 135, ↓vcD_sp 135, ↓vcOps_sp 141, ↓vcD_sp 141, VCA, pg_gl, ↓upd_none, Nat.reduceEqDiff, Nat.reduceBEq, Nat.reduceAdd, Nat.reduceSub, Nat.reduceMul, Nat.reduceLT, Nat.reduceLeDiff, ↓reduceIte, reduceCtorEq, rsOf, rootsOf, SOp.rd, SI.rd, SX.rd, rdL, rdO, rdP, okParts, eqCells, okEqCells, fillA, okFill, setAt, implies_true, forall_const, forall_eq, ne_eq, exists_eq_right_right, exists_eq_right, exists_eq_left, exists_eq_left', eAttr, eInt, eNode, eDoc, eBool, lit_eq]
      exact s4 (by omega) _ rfl rfl
/-! ## sameness -/
def c15 : SFun := ⟨(.seq (.reg [⟨(some 2), (.box 24 2 (.t 0)), none⟩, ⟨(some 4), (.new 24 2 [.emp, (.bool false)]), none⟩]) (.seq (.reg [⟨(some 5), (.fldA 0 (.t 2)), none⟩, ⟨(some 6), (.ld 1 false (.t 5)), none⟩, ⟨(some 7), (.fldA 0 (.t 2)), none⟩, ⟨(some 8), (.ld 1 false (.t 7)), none⟩, ⟨(some 9), (.len (.t 8)), none⟩, ⟨(some 10), (.mv (.t 1)), none⟩, ⟨(some 11), (.min2 (.t 9) (.t 10)), none⟩, ⟨(some 12), (.slA 6 (.t 6) none (some (.t 11))), none⟩, ⟨(some 13), (.fldA 0 (.t 2)), none⟩, ⟨none, (.st 1 (.t 13) (.t 12)), none⟩]) (.seq (.reg [⟨(some 14), (.ld 2 true (.t 2)), none⟩, ⟨none, (.st 2 (.t 4) (.t 14)), none⟩]) .ret))), [(.cell 4 2 true)]⟩
theorem hc15 : toSF Tryd.prog {how := [(2, 6)]} Tryd.f15 = some c15 := by kernel_rfl
theorem hn15 : (Tryd.f15.name == "runtime.NumGoroutine") = false := by kernel_rfl
theorem few_ok (d : HDoc) (n : Nat) (sm : DocSm d) : PCalls (Pg G) 15 [.agg (eDoc d), aInt n] (.agg (eDoc ⟨d.nodes.take n, d.quirks⟩)) := fun h => by
  have l1 := sm.len
  refine dcalls_of_vc Tryd.func15 hn15 hc15 (by rw [Tryd.ntmps15]; simp) (by rw [Tryd.ntmps15]; decide) ?_
  simp -dsimp -implicitDefEqProofs (disch := omega) only [VCA, pg_gl, ↓upd_none, Nat.reduceEqDiff, Nat.reduceBEq, Nat.reduceAdd, Nat.reduceSub, Nat.reduceMul, Nat.reduceLT, Nat.reduceLeDiff, ↓reduceIte, reduceCtorEq, rsOf, rootsOf, SOp.rd, SI.rd, SX.rd, rdL, rdO, rdP, okParts, eqCells, okEqCells, fillA, okFill, setAt, implies_true, forall_const, forall_eq, ne_eq, exists_eq_right_right, exists_eq_right, exists_eq_left, exists_eq_left', eAttr, eInt, eNode, eDoc, eBool, lit_eq, c15, eDoc]
  intro r hr r1 hr1
  have ne : ¬ r = r1 := fun e => hr1.1 e.symm
  have ne' : ¬ r1 = r := hr1.1
  have et : d.nodes.take (min (d.nodes.length : Int) n).toNat = d.nodes.take n := by
    rw [show (min (d.nodes.length : Int) n).toNat = min n d.nodes.length from by omega, List.take_eq_take_iff]; omega
  simp -dsimp -implicitDefEqProofs (disch := omega) only [VCA, pg_gl, ↓upd_none, Nat.reduceEqDiff, Nat.reduceBEq, Nat.reduceAdd, Nat.reduceSub, Nat.reduceMul, Nat.reduceLT, Nat.reduceLeDiff, ↓reduceIte, reduceCtorEq, rsOf, rootsOf, SOp.rd, SI.rd, SX.rd, rdL, rdO, rdP, okParts, eqCells, okEqCells, fillA, okFill, setAt, implies_true, forall_const, forall_eq, ne_eq, exists_eq_right_right, exists_eq_right, exists_eq_left, exists_eq_left', eAttr, eInt, eNode, eDoc, eBool, lit_eq, ne, ne']
  exact ⟨by omega, ((((Sub.refl h).upd hr).upd hr1.2).upd hr).upd hr1.2, by rw [et]⟩
theorem DocSm.few {d : HDoc} (sm : DocSm d) (n : Nat) : DocSm ⟨d.nodes.take n, d.quirks⟩ := ⟨by have := sm.len; simp; omega, fun x hx => sm.each x (List.mem_of_mem_take hx)⟩
/-! ## above and below -/
/-- is a node another one, or below it? -/
def c26 : SFun := ⟨(.seq (.reg [⟨(some 3), (.boxF 24 2 (.t 0)), none⟩, ⟨(some 6), (.mv (.c (.bool false))), none⟩]) (.seq (.block 0 (.loop (.seq (.seq (.reg [⟨(some 7), (.mv (.t 1)), none⟩, ⟨(some 8), (.mv (.t 2)), none⟩, ⟨(some 9), (.bin .neq (.t 7) (.t 8)), none⟩, ⟨(some 10), (.mv (.t 9)), none⟩, ⟨(some 11), (.mv (.t 1)), (some (10, true))⟩, ⟨(some 12), (.bin .geq (.t 11) (.c (.int .i64 (0)))), (some (10, true))⟩, ⟨(some 13), (.pick (.t 10) (.t 12) (.c (.bool false))), none⟩]) (.cond (.t 13) .skip (.exit 0))) (.block 1 (.reg [⟨(some 14), (.fldA 0 (.t 3)), none⟩, ⟨(some 15), (.ld 1 false (.t 14)), none⟩, ⟨(some 16), (.mv (.t 1)), none⟩, ⟨(some 17), (.idxA 6 (.t 15) (.t 16)), none⟩, ⟨(some 18), (.fldA 4 (.t 17)), none⟩, ⟨(some 19), (.ld 1 false (.t 18)), none⟩, ⟨(some 1), (.mv (.t 19)), none⟩]))))) (.seq (.reg [⟨(some 20), (.mv (.t 1)), none⟩, ⟨(some 21), (.mv (.t 2)), none⟩, ⟨(some 22), (.bin .eql (.t 20) (.t 21)), none⟩, ⟨(some 6), (.mv (.t 22)), none⟩]) .ret))), [(.tmp 6)]⟩
theorem hc26 : toSF Tryd.prog {} Tryd.f26 = some c26 := by kernel_rfl
theorem hn26 : (Tryd.f26.name == "runtime.NumGoroutine") = false := by kernel_rfl
theorem under_ok (d : HDoc) (V : DV d) (n top : Int) (hn : inD d n) (ht : 0 ≤ top) : PCalls (Pg G) 26 [.agg (eDoc d), aInt n, aInt top] (.bool (decide (top ∈ chain d n))) := fun h => by
  have hl := V.len
  refine dcalls_of_vc Tryd.func26 hn26 hc26 (by rw [Tryd.ntmps26]; simp) (by rw [Tryd.ntmps26]; decide) ?_
  simp -dsimp -implicitDefEqProofs (disch := omega) only [↓vcOps_sp 10, ↓vcD_sp 10, VCA, pg_gl, ↓upd_none, Nat.reduceEqDiff, Nat.reduceBEq, Nat.reduceAdd, Nat.reduceSub, Nat.reduceMul, Nat.reduceLT, Nat.reduceLeDiff, ↓reduceIte, reduceCtorEq, rsOf, rootsOf, SOp.rd, SI.rd, SX.rd, rdL, rdO, rdP, okParts, eqCells, okEqCells, fillA, okFill, setAt, implies_true, forall_const, forall_eq, ne_eq, exists_eq_right_right, exists_eq_right, exists_eq_left, exists_eq_left', eAttr, eInt, eNode, eDoc, eBool, lit_eq, c26, eDoc]
  refine LoopVC.intro (fun m e h' => ∃ c : Int, m = (if c = -1 then 0 else up d c + 1) ∧ (c = -1 ∨ inD d c) ∧ e 1 = aInt c ∧ e 2 = aInt top ∧ e 3 = .pin (eDoc d) ∧ h' = h ∧ (c = -1 → top ∉ chain d n) ∧ (inD d c → (top ∈ chain d n ↔ top ∈ chain d c))) _ ⟨n, rfl, .inr hn, rfl, rfl, rfl, rfl, fun e => by have := hn.1; omega, fun _ => Iff.rfl⟩ ?_
  rintro m e h' ⟨c, rfl, hc, he1, he2, he3, rfl, hno, hyes⟩
  simp -dsimp -implicitDefEqProofs (disch := omega) only [↓vcOps_sp 10, ↓vcD_sp 10, VCA, pg_gl, ↓upd_none, Nat.reduceEqDiff, Nat.reduceBEq, Nat.reduceAdd, Nat.reduceSub, Nat.reduceMul, Nat.reduceLT, Nat.reduceLeDiff, ↓reduceIte, reduceCtorEq, rsOf, rootsOf, SOp.rd, SI.rd, SX.rd, rdL, rdO, rdP, okParts, eqCells, okEqCells, fillA, okFill, setAt, implies_true, forall_const, forall_eq, ne_eq, exists_eq_right_right, exists_eq_right, exists_eq_left, exists_eq_left', eAttr, eInt, eNode, eDoc, eBool, lit_eq, he1, he2, he3, eDoc]
  refine Br.ne (fun h1 => ?_) (fun h1 => ?_)
  · simp -dsimp -implicitDefEqProofs (disch := omega) only [↓vcOps_sp 10, ↓vcD_sp 10, VCA, pg_gl, ↓upd_none, Nat.reduceEqDiff, Nat.reduceBEq, Nat.reduceAdd, Nat.reduceSub, Nat.reduceMul, Nat.reduceLT, Nat.reduceLeDiff, ↓reduceIte, reduceCtorEq, rsOf, rootsOf, SOp.rd, SI.rd, SX.rd, rdL, rdO, rdP, okParts, eqCells, okEqCells, fillA, okFill, setAt, implies_true, forall_const, forall_eq, ne_eq, exists_eq_right_right, exists_eq_right, exists_eq_left, exists_eq_left', eAttr, eInt, eNode, eDoc, eBool, lit_eq, he1, he2, he3, eDoc]
    refine Br.dec (fun h2 => ?_) (fun h2 => ?_)
    · have hc : inD d c := hc.resolve_left (by omega)
      have hc0 := hc.1
      have hc1 := hc.2
      have e0 : nth d.nodes c.toNat = nd d c := rfl
      simp -dsimp -implicitDefEqProofs (disch := omega) only [↓vcOps_sp 10, ↓vcD_sp 10, VCA, pg_gl, ↓upd_none, Nat.reduceEqDiff, Nat.reduceBEq, Nat.reduceAdd, Nat.reduceSub, Nat.reduceMul, Nat.reduceLT, Nat.reduceLeDiff, ↓reduceIte, reduceCtorEq, rsOf, rootsOf, SOp.rd, SI.rd, SX.rd, rdL, rdO, rdP, okParts, eqCells, okEqCells, fillA, okFill, setAt, implies_true, forall_const, forall_eq, ne_eq, exists_eq_right_right, exists_eq_right, exists_eq_left, exists_eq_left', eAttr, eInt, eNode, eDoc, eBool, lit_eq, he1, he2, he3, eDoc, eNode]
      rw [e0]
      refine ⟨by omega, _, ?_, (nd d c).parent, rfl, ?_, rfl, ?_, ?_⟩
      · rw [if_neg (show ¬ c = -1 by omega)]
        split
        · omega
        · rename_i hp
          have := V.up_par hc (by have := V.par c hc; unfold inD at this; omega)
          omega
      · rcases V.par c hc with h | h
        · exact .inl h
        · exact .inr h.1
      · intro hp
        rw [hyes hc, chain_top V (by omega)]
        simp; exact fun e => h1 e.symm
      · intro hp
        rw [hyes hc, chain_up V hc hp.1]
        simp; exact fun e => absurd e.symm h1
    · have hc : c = -1 := hc.resolve_right (fun h => by have := h.1; omega)
      simp -dsimp -implicitDefEqProofs (disch := omega) only [↓vcOps_sp 10, ↓vcD_sp 10, VCA, pg_gl, ↓upd_none, Nat.reduceEqDiff, Nat.reduceBEq, Nat.reduceAdd, Nat.reduceSub, Nat.reduceMul, Nat.reduceLT, Nat.reduceLeDiff, ↓reduceIte, reduceCtorEq, rsOf, rootsOf, SOp.rd, SI.rd, SX.rd, rdL, rdO, rdP, okParts, eqCells, okEqCells, fillA, okFill, setAt, implies_true, forall_const, forall_eq, ne_eq, exists_eq_right_right, exists_eq_right, exists_eq_left, exists_eq_left', eAttr, eInt, eNode, eDoc, eBool, lit_eq, he1, he2]
      refine ⟨Sub.refl _, ?_⟩
      rw [decide_eq_false (hno hc)]
      simpa using h1
  · simp -dsimp -implicitDefEqProofs (disch := omega) only [↓vcOps_sp 10, ↓vcD_sp 10, VCA, pg_gl, ↓upd_none, Nat.reduceEqDiff, Nat.reduceBEq, Nat.reduceAdd, Nat.reduceSub, Nat.reduceMul, Nat.reduceLT, Nat.reduceLeDiff, ↓reduceIte, reduceCtorEq, rsOf, rootsOf, SOp.rd, SI.rd, SX.rd, rdL, rdO, rdP, okParts, eqCells, okEqCells, fillA, okFill, setAt, implies_true, forall_const, forall_eq, ne_eq, exists_eq_right_right, exists_eq_right, exists_eq_left, exists_eq_left', eAttr, eInt, eNode, eDoc, eBool, lit_eq, he1, he2]
    have hc : inD d c := hc.resolve_left (by omega)
    refine ⟨Sub.refl _, ?_⟩
    rw [decide_eq_true ((hyes hc).2 (by rw [h1]; exact chain_self _ _))]
    simpa using h1
def c25 : SFun := ⟨(.seq (.reg [⟨(some 2), (.boxF 24 2 (.t 0)), none⟩, ⟨(some 4), (.mv (.c .emp)), none⟩]) (.seq (.reg [⟨(some 7), (.mv (.t 1)), none⟩, ⟨(some 8), (.bldR 3 1 [(.t 7)]), none⟩, ⟨(some 5), (.mv (.t 8)), none⟩]) (.seq (.seq (.reg [⟨(some 6), (.mv (.c (.int .i64 (0)))), none⟩]) (.block 0 (.loop (.seq (.seq (.reg [⟨(some 9), (.mv (.t 6)), none⟩, ⟨(some 10), (.fldA 0 (.t 2)), none⟩, ⟨(some 11), (.ld 1 false (.t 10)), none⟩, ⟨(some 12), (.mv (.t 1)), none⟩, ⟨(some 13), (.idxA 6 (.t 11) (.t 12)), none⟩, ⟨(some 14), (.fldA 5 (.t 13)), none⟩, ⟨(some 15), (.ld 1 false (.t 14)), none⟩, ⟨(some 16), (.len (.t 15)), none⟩, ⟨(some 17), (.bin .lss (.t 9) (.t 16)), none⟩]) (.cond (.t 17) .skip (.exit 0))) (.seq (.block 1 (.dreg [(⟨(some 20), (.mv (.t 5)), none⟩, none), (⟨(some 21), (.ld 2 true (.t 2)), none⟩, none), (⟨(some 22), (.fldA 0 (.t 2)), none⟩, none), (⟨(some 23), (.ld 1 false (.t 22)), none⟩, none), (⟨(some 24), (.mv (.t 1)), none⟩, none), (⟨(some 25), (.idxA 6 (.t 23) (.t 24)), none⟩, none), (⟨(some 26), (.fldA 5 (.t 25)), none⟩, none), (⟨(some 27), (.ld 1 false (.t 26)), none⟩, none), (⟨(some 28), (.mv (.t 6)), none⟩, none), (⟨(some 29), (.idxA 1 (.t 27) (.t 28)), none⟩, none), (⟨(some 30), (.ld 1 false (.t 29)), none⟩, none), (⟨(some 31), (.pcall 25 [(.t 21), (.t 30)]), none⟩, none), (⟨(some 32), (.app 3 1 8 (.t 20) (.t 31)), none⟩, (some [21, 30, 27, 23])), (⟨(some 5), (.mv (.t 32)), none⟩, (some [21, 30, 27, 23]))])) (.reg [⟨(some 18), (.mv (.t 6)), none⟩, ⟨(some 19), (.bin .add (.t 18) (.c (.int .i64 (1)))), none⟩, ⟨(some 6), (.mv (.t 19)), none⟩])))))) (.seq (.reg [⟨(some 33), (.mv (.t 5)), none⟩, ⟨(some 4), (.mv (.t 33)), none⟩]) .ret)))), [(.tmp 4)]⟩
theorem hc25 : toSF Tryd.prog {pure := [25], how := [(8, 2)]} Tryd.f25 = some c25 := by kernel_rfl
theorem hn25 : (Tryd.f25.name == "runtime.NumGoroutine") = false := by kernel_rfl
theorem below_ok (d : HDoc) (V : DV d) (sm : DocSm d) : ∀ n, inD d n → PCalls (Pg G) 25 [.agg (eDoc d), aInt n] (sl eInt (below d n)) := V.down fun n hn ih => PCalls.acc (ty := 3) (sz := 1) fun h => by
  have hl := V.len
  have n0 := hn.1
  have n1 := hn.2
  have e0 : nth d.nodes n.toNat = nd d n := rfl
  have kl := (sm.nd n).kids
  refine dcalls_of_vc Tryd.func25 hn25 hc25 (by rw [Tryd.ntmps25]; simp) (by rw [Tryd.ntmps25]; decide) ?_
  simp -dsimp -implicitDefEqProofs (disch := omega) only [VCA, pg_gl, ↓upd_none, Nat.reduceEqDiff, Nat.reduceBEq, Nat.reduceAdd, Nat.reduceSub, Nat.reduceMul, Nat.reduceLT, Nat.reduceLeDiff, ↓reduceIte, reduceCtorEq, rsOf, rootsOf, SOp.rd, SI.rd, SX.rd, rdL, rdO, rdP, okParts, eqCells, okEqCells, fillA, okFill, setAt, implies_true, forall_const, forall_eq, ne_eq, exists_eq_right_right, exists_eq_right, exists_eq_left, exists_eq_left', eAttr, eInt, eNode, eDoc, eBool, lit_eq, c25, eDoc]
  intro r hr
  have bl := below_len V hn
  rw [below_eq V hn] at bl ⊢
  simp only [List.length_cons] at bl
  refine LoopVC.intro (fun m e h' => ∃ k : Nat, k ≤ (nd d n).kids.length ∧ m = (nd d n).kids.length - k ∧ e 1 = aInt n ∧ e 2 = .pin (eDoc d) ∧ e 6 = aInt k ∧ Acc h 3 1 ((n :: ((nd d n).kids.take k).flatMap (below d)).map eInt) (e 5) h' ∧ Sim.Sub h h') _ ⟨0, by omega, rfl, rfl, rfl, rfl, Acc.root hr (upd_same _ _ _), (Sub.refl h).upd hr⟩ ?_
  rintro m e h' ⟨k, hk, rfl, he1, he2, he6, A, S⟩
  simp -dsimp -implicitDefEqProofs (disch := omega) only [VCA, pg_gl, ↓upd_none, Nat.reduceEqDiff, Nat.reduceBEq, Nat.reduceAdd, Nat.reduceSub, Nat.reduceMul, Nat.reduceLT, Nat.reduceLeDiff, ↓reduceIte, reduceCtorEq, rsOf, rootsOf, SOp.rd, SI.rd, SX.rd, rdL, rdO, rdP, okParts, eqCells, okEqCells, fillA, okFill, setAt, implies_true, forall_const, forall_eq, ne_eq, exists_eq_right_right, exists_eq_right, exists_eq_left, exists_eq_left', eAttr, eInt, eNode, eDoc, eBool, lit_eq, he1, he2, he6, eDoc, eNode, e0]
  refine ⟨by omega, Br.dec (fun hlt => ?_) (fun hge => ?_)⟩
  · have hk' : k < (nd d n).kids.length := by omega
    have hB := ih _ (nth_mem' hk')
    unfold eDoc at hB
    have hfl : (((nd d n).kids.take (k + 1)).flatMap (below d)).length ≤ ((nd d n).kids.flatMap (below d)).length := by
      conv => rhs; rw [← List.take_append_drop (k + 1) (nd d n).kids, List.flatMap_append, List.length_append]
      omega
    rw [take_snoc hk', List.flatMap_append, List.length_append] at hfl
    simp only [List.flatMap_cons, List.flatMap_nil, List.append_nil] at hfl
    simp -dsimp -implicitDefEqProofs (disch := omega) only [VCA, pg_gl, ↓upd_none, Nat.reduceEqDiff, Nat.reduceBEq, Nat.reduceAdd, Nat.reduceSub, Nat.reduceMul, Nat.reduceLT, Nat.reduceLeDiff, ↓reduceIte, reduceCtorEq, rsOf, rootsOf, SOp.rd, SI.rd, SX.rd, rdL, rdO, rdP, okParts, eqCells, okEqCells, fillA, okFill, setAt, implies_true, forall_const, forall_eq, ne_eq, exists_eq_right_right, exists_eq_right, exists_eq_left, exists_eq_left', eAttr, eInt, eNode, eDoc, eBool, lit_eq, he1, he2, he6, eDoc, eNode, e0]
    refine ⟨by omega, by omega, ?_⟩
    refine pcallE.of (hB) ?_; simp -dsimp -implicitDefEqProofs (disch := omega) only [VCA, pg_gl, ↓upd_none, Nat.reduceEqDiff, Nat.reduceBEq, Nat.reduceAdd, Nat.reduceSub, Nat.reduceMul, Nat.reduceLT, Nat.reduceLeDiff, ↓reduceIte, reduceCtorEq, rsOf, rootsOf, SOp.rd, SI.rd, SX.rd, rdL, rdO, rdP, okParts, eqCells, okEqCells, fillA, okFill, setAt, implies_true, forall_const, forall_eq, ne_eq, exists_eq_right_right, exists_eq_right, exists_eq_left, exists_eq_left', eAttr, eInt, eNode, eDoc, eBool, lit_eq, he1, he2, he6, eDoc, eNode, e0]
    refine A.app S (by simp only [List.length_map, List.length_cons]; omega) (by simp only [List.length_map, List.length_cons]; omega) fun a' h'' A' S' => ?_
    simp -dsimp -implicitDefEqProofs (disch := omega) only [VCA, pg_gl, ↓upd_none, Nat.reduceEqDiff, Nat.reduceBEq, Nat.reduceAdd, Nat.reduceSub, Nat.reduceMul, Nat.reduceLT, Nat.reduceLeDiff, ↓reduceIte, reduceCtorEq, rsOf, rootsOf, SOp.rd, SI.rd, SX.rd, rdL, rdO, rdP, okParts, eqCells, okEqCells, fillA, okFill, setAt, implies_true, forall_const, forall_eq, ne_eq, exists_eq_right_right, exists_eq_right, exists_eq_left, exists_eq_left', eAttr, eInt, eNode, eDoc, eBool, lit_eq, he1, he2, he6]
    refine ⟨_, by omega, k + 1, by omega, rfl, by omega, ?_, S'⟩
    rw [take_snoc hk', List.flatMap_append]
    simpa [eInt] using A'
  · obtain rfl : k = (nd d n).kids.length := by omega
    simp -dsimp -implicitDefEqProofs (disch := omega) only [VCA, pg_gl, ↓upd_none, Nat.reduceEqDiff, Nat.reduceBEq, Nat.reduceAdd, Nat.reduceSub, Nat.reduceMul, Nat.reduceLT, Nat.reduceLeDiff, ↓reduceIte, reduceCtorEq, rsOf, rootsOf, SOp.rd, SI.rd, SX.rd, rdL, rdO, rdP, okParts, eqCells, okEqCells, fillA, okFill, setAt, implies_true, forall_const, forall_eq, ne_eq, exists_eq_right_right, exists_eq_right, exists_eq_left, exists_eq_left', eAttr, eInt, eNode, eDoc, eBool, lit_eq, he6]
    rw [List.take_length] at A
    exact ⟨_, Sub.refl _, A, S⟩
end Go.Proofs.K
end
section
/- Ways through a tree: contracts. -/
set_option linter.unusedSimpArgs false
set_option linter.unusedVariables false
namespace Go.Proofs.K
open Go Go.Sim Go.Proofs
variable {G : Glob}

def c111 : SFun := ⟨(.seq (.reg [⟨(some 4), (.mv (.t 0)), none⟩, ⟨(some 5), (.len (.t 4)), none⟩, ⟨(some 6), (.bin .sub (.t 5) (.c (.int .i64 (1)))), none⟩, ⟨(some 2), (.mv (.c (.int .i64 (0)))), none⟩, ⟨(some 3), (.mv (.t 6)), none⟩]) (.block 0 (.loop (.seq (.seq (.reg [⟨(some 7), (.mv (.t 2)), none⟩, ⟨(some 8), (.mv (.t 3)), none⟩, ⟨(some 9), (.bin .lss (.t 7) (.t 8)), none⟩]) (.cond (.t 9) .skip (.exit 0))) (.seq (.block 1 (.dreg [(⟨(some 14), (.mv (.t 0)), none⟩, none), (⟨(some 15), (.mv (.t 2)), none⟩, none), (⟨(some 16), (.mv (.t 0)), none⟩, none), (⟨(some 17), (.mv (.t 3)), none⟩, none), (⟨(some 18), (.mv (.t 0)), none⟩, none), (⟨(some 19), (.mv (.t 3)), none⟩, none), (⟨(some 20), (.idxA 1 (.t 18) (.t 19)), none⟩, none), (⟨(some 21), (.ld 1 false (.t 20)), none⟩, none), (⟨(some 22), (.mv (.t 0)), none⟩, none), (⟨(some 23), (.mv (.t 2)), none⟩, none), (⟨(some 24), (.idxA 1 (.t 22) (.t 23)), none⟩, none), (⟨(some 25), (.ld 1 false (.t 24)), none⟩, none), (⟨(some 26), (.idxA 1 (.t 14) (.t 15)), none⟩, none), (⟨none, (.st 1 (.t 26) (.t 21)), none⟩, (some [21, 25])), (⟨(some 27), (.idxA 1 (.t 16) (.t 17)), none⟩, none), (⟨none, (.st 1 (.t 27) (.t 25)), none⟩, (some [21, 25]))])) (.reg [⟨(some 10), (.mv (.t 2)), none⟩, ⟨(some 11), (.bin .add (.t 10) (.c (.int .i64 (1)))), none⟩, ⟨(some 12), (.mv (.t 3)), none⟩, ⟨(some 13), (.bin .sub (.t 12) (.c (.int .i64 (1)))), none⟩, ⟨(some 2), (.mv (.t 11)), none⟩, ⟨(some 3), (.mv (.t 13)), none⟩])))))), []⟩
theorem hc111 : toSF Tryd.prog {} Tryd.f111 = some c111 := by kernel_rfl
theorem hn111 : (Tryd.f111.name == "runtime.NumGoroutine") = false := by kernel_rfl
theorem reverseI_ok {h : Heap} {r : Nat} (L : List Int) (hr : h r = some ⟨3, 1, L.map eInt⟩) (hl : L.length ≤ 1073741824) :
    DCalls (Pg G) 111 [.osl r 1 0 L.length] h fun a h' => a = .tup [] ∧ h' = upd h r (some ⟨3, 1, L.reverse.map eInt⟩) := by
  refine dcalls_of_vc Tryd.func111 hn111 hc111 (by rw [Tryd.ntmps111]; simp) (by rw [Tryd.ntmps111]; decide) ?_
  simp -dsimp -implicitDefEqProofs (disch := omega) only [VCA, pg_gl, ↓upd_none, Nat.reduceEqDiff, Nat.reduceBEq, Nat.reduceAdd, Nat.reduceSub, Nat.reduceMul, Nat.reduceLT, Nat.reduceLeDiff, ↓reduceIte, reduceCtorEq, rsOf, rootsOf, SOp.rd, SI.rd, SX.rd, rdL, rdO, rdP, okParts, eqCells, okEqCells, fillA, okFill, setAt, implies_true, forall_const, forall_eq, ne_eq, exists_eq_right_right, exists_eq_right, exists_eq_left, exists_eq_left', eInt, eBool, lit_eq, c111]
  refine LoopVC.intro (fun m e h' => ∃ (i : Nat) (cs : List Int), i ≤ L.length ∧ 2 * i ≤ L.length + 1 ∧ m = L.length - i ∧ e 0 = .osl r 1 0 L.length ∧ e 2 = aInt i ∧ e 3 = aInt ((L.length : Int) - 1 - i) ∧ h' = upd h r (some ⟨3, 1, cs.map eInt⟩) ∧ cs.length = L.length ∧
    ∀ k, k < L.length → nth cs k = if k < i ∨ L.length ≤ k + i then nth L (L.length - 1 - k) else nth L k) L.length ⟨0, L, by omega, by omega, by omega, rfl, rfl, by simp, (upd_id hr).symm, rfl, fun k hk => by rw [if_neg (by omega)]⟩ ?_
  rintro m e h' ⟨i, cs, hi, hi2, rfl, he0, he2, he3, rfl, hcl, hcs⟩
  simp -dsimp -implicitDefEqProofs (disch := omega) only [VCA, pg_gl, ↓upd_none, Nat.reduceEqDiff, Nat.reduceBEq, Nat.reduceAdd, Nat.reduceSub, Nat.reduceMul, Nat.reduceLT, Nat.reduceLeDiff, ↓reduceIte, reduceCtorEq, rsOf, rootsOf, SOp.rd, SI.rd, SX.rd, rdL, rdO, rdP, okParts, eqCells, okEqCells, fillA, okFill, setAt, implies_true, forall_const, forall_eq, ne_eq, exists_eq_right_right, exists_eq_right, exists_eq_left, exists_eq_left', eInt, eBool, lit_eq, he0, he2, he3]
  refine Br.dec (fun hlt => ?_) (fun hge => ?_)
  · have ej : ((L.length : Int) - 1 - i).toNat = L.length - 1 - i := by omega
    have eS : ∀ (k : Nat) (x : Int), (cs.map eInt).set k [.int .i64 x] = (cs.set k x).map eInt := fun k x => by rw [List.map_set]; rfl
    have eT : ∀ (k k' : Nat) (x x' : Int), ((cs.set k' x').map eInt).set k [.int .i64 x] = ((cs.set k' x').set k x).map eInt := fun k k' x x' => by rw [show ([.int .i64 x] : List AVal) = eInt x from rfl, ← List.map_set]
    have gS : ∀ (k k' : Nat) (x : Int), k < cs.length → ((cs.set k' x).map eInt).getD k [] = eInt (nth (cs.set k' x) k) := fun k k' x hk => getD_map_enc (by rw [List.length_set]; exact hk)
    simp -dsimp -implicitDefEqProofs (disch := omega) only [VCA, pg_gl, ↓upd_none, Nat.reduceEqDiff, Nat.reduceBEq, Nat.reduceAdd, Nat.reduceSub, Nat.reduceMul, Nat.reduceLT, Nat.reduceLeDiff, ↓reduceIte, reduceCtorEq, rsOf, rootsOf, SOp.rd, SI.rd, SX.rd, rdL, rdO, rdP, okParts, eqCells, okEqCells, fillA, okFill, setAt, implies_true, forall_const, forall_eq, ne_eq, exists_eq_right_right, exists_eq_right, exists_eq_left, exists_eq_left', eInt, eBool, lit_eq, he0, he2, he3, upd_same, ej, eInt, eS, eT, List.length_set, gS]
    refine ⟨by omega, by omega, by omega, by omega, by omega, by omega, by omega, by omega, _, by omega, i + 1, (cs.set i (nth cs (L.length - 1 - i))).set (L.length - 1 - i) (nth cs i), by omega, by omega, rfl, by omega, by omega, rfl, by rw [List.length_set, List.length_set]; exact hcl, fun k hk => ?_⟩
    rw [nth_set _ _ _ _ (by rw [List.length_set]; omega), nth_set _ _ _ _ (by omega), hcs i (by omega), hcs (L.length - 1 - i) (by omega), hcs k hk]
    by_cases h1 : k = L.length - 1 - i
    · subst h1
      rw [if_pos rfl, if_neg (by omega), if_pos (by omega)]
      congr 1; omega
    · rw [if_neg h1]
      by_cases h2 : k = i
      · subst h2
        rw [if_pos rfl, if_neg (by omega), if_pos (by omega)]
      · rw [if_neg h2]
        by_cases h3 : k < i ∨ L.length ≤ k + i
        · rw [if_pos h3, if_pos (by omega)]
        · rw [if_neg h3, if_neg (by omega)]
  · simp -dsimp -implicitDefEqProofs (disch := omega) only [VCA, pg_gl, ↓upd_none, Nat.reduceEqDiff, Nat.reduceBEq, Nat.reduceAdd, Nat.reduceSub, Nat.reduceMul, Nat.reduceLT, Nat.reduceLeDiff, ↓reduceIte, reduceCtorEq, rsOf, rootsOf, SOp.rd, SI.rd, SX.rd, rdL, rdO, rdP, okParts, eqCells, okEqCells, fillA, okFill, setAt, implies_true, forall_const, forall_eq, ne_eq, exists_eq_right_right, exists_eq_right, exists_eq_left, exists_eq_left', eInt, eBool, lit_eq, he0]
    have : cs = L.reverse := by
      refine ext_nth (by rw [List.length_reverse]; exact hcl) fun k hk => ?_
      rw [hcs k (by omega)]
      have e : nth L.reverse k = nth L (L.length - 1 - k) := by
        unfold nth
        rw [List.getD_eq_getElem?_getD, List.getD_eq_getElem?_getD, List.getElem?_reverse (by omega)]
      rw [e]
      split
      · rfl
      · rename_i h3
        have : L.length - 1 - k = k := by omega
        rw [this]
    subst this
    exact Sub.refl _
def mW (d : HDoc) (c : Int) : Nat := if c = -1 then 0 else up d c + 1
section
variable {d : HDoc}
theorem mW_no : mW d (-1) = 0 := rfl
theorem mW_yes {n : Int} (hn : inD d n) : mW d n = up d n + 1 := by unfold mW; rw [if_neg]; have := hn.1; omega
theorem mW_par (V : DV d) {n : Int} (hn : inD d n) : mW d (nd d n).parent < mW d n ∧ ((nd d n).parent = -1 ∨ inD d (nd d n).parent) := by
  rw [mW_yes hn]
  rcases V.par n hn with h | h
  · rw [h]; exact ⟨by rw [mW_no]; omega, .inl rfl⟩
  · rw [mW_yes h.1, V.up_par hn h.1.1]; exact ⟨by omega, .inr h.1⟩
end
theorem getLastD_nth {l : List Int} (h : l ≠ []) (x : Int) : l.getLastD x = nth l (l.length - 1) := by
  rw [List.getLastD_eq_getLast?, List.getLast?_eq_getElem?]
  unfold nth
  rw [List.getD_eq_getElem?_getD, List.getElem?_eq_getElem (by have := List.length_pos_iff.2 h; omega)]; rfl
def c77 : SFun := ⟨(.seq (.reg [⟨(some 4), (.mv (.c (.int .i64 (0)))), none⟩]) (.seq (.seq (.reg [⟨(some 6), (.mv (.t 0)), none⟩, ⟨(some 7), (.len (.t 6)), none⟩, ⟨(some 8), (.mv (.c (.int .i64 (0)))), none⟩]) (.block 0 (.loop (.seq (.reg [⟨(some 9), (.bin .lss (.t 8) (.t 7)), none⟩]) (.seq (.cond (.t 9) .skip (.exit 0)) (.seq (.block 1 (.seq (.reg [⟨(some 10), (.mv (.t 8)), none⟩, ⟨(some 5), (.mv (.t 10)), none⟩]) (.seq (.reg [⟨(some 11), (.mv (.t 1)), none⟩, ⟨(some 12), (.mv (.t 0)), none⟩, ⟨(some 13), (.mv (.t 5)), none⟩, ⟨(some 14), (.idxA 1 (.t 12) (.t 13)), none⟩, ⟨(some 15), (.ld 1 false (.t 14)), none⟩, ⟨(some 16), (.bin .eql (.t 11) (.t 15)), none⟩]) (.cond (.t 16) (.seq (.reg [⟨(some 17), (.mv (.t 5)), none⟩, ⟨(some 4), (.mv (.t 17)), none⟩]) .ret) .skip)))) (.reg [⟨(some 18), (.bin .add (.t 8) (.c (.int .i64 (1)))), none⟩, ⟨(some 8), (.mv (.t 18)), none⟩]))))))) (.seq (.reg [⟨(some 4), (.mv (.c (.int .i64 (-1)))), none⟩]) .ret))), [(.tmp 4)]⟩
theorem hc77 : toSF Tryd.prog {} Tryd.f77 = some c77 := by kernel_rfl
theorem hn77 : (Tryd.f77.name == "runtime.NumGoroutine") = false := by kernel_rfl
theorem hasII_ok (l : List Int) (x : Int) (hl : l.length ≤ 1073741824) : PCalls (Pg G) 77 [sl eInt l, aInt x] (aInt (idxM (· == x) l)) := by
  intro h
  refine dcalls_of_vc Tryd.func77 hn77 hc77 (by rw [Tryd.ntmps77]; simp) (by rw [Tryd.ntmps77]; decide) ?_
  simp -dsimp -implicitDefEqProofs (disch := omega) only [VCA, pg_gl, ↓upd_none, Nat.reduceEqDiff, Nat.reduceBEq, Nat.reduceAdd, Nat.reduceSub, Nat.reduceMul, Nat.reduceLT, Nat.reduceLeDiff, ↓reduceIte, reduceCtorEq, rsOf, rootsOf, SOp.rd, SI.rd, SX.rd, rdL, rdO, rdP, okParts, eqCells, okEqCells, fillA, okFill, setAt, implies_true, forall_const, forall_eq, ne_eq, exists_eq_right_right, exists_eq_right, exists_eq_left, exists_eq_left', eInt, eBool, lit_eq, c77]
  refine LoopVC.intro (fun m e h' => ∃ k : Nat, k ≤ l.length ∧ m = l.length - k ∧ e 0 = sl eInt l ∧ e 1 = aInt x ∧ e 7 = aInt l.length ∧ e 8 = aInt k ∧ h' = h ∧ ∀ j, j < k → (nth l j == x) = false) l.length ⟨0, by omega, by omega, rfl, rfl, rfl, rfl, rfl, fun j hj => absurd hj (Nat.not_lt_zero j)⟩ ?_
  rintro m e h' ⟨k, hk, rfl, he0, he1, he7, he8, rfl, hj⟩
  simp -dsimp -implicitDefEqProofs (disch := omega) only [VCA, pg_gl, ↓upd_none, Nat.reduceEqDiff, Nat.reduceBEq, Nat.reduceAdd, Nat.reduceSub, Nat.reduceMul, Nat.reduceLT, Nat.reduceLeDiff, ↓reduceIte, reduceCtorEq, rsOf, rootsOf, SOp.rd, SI.rd, SX.rd, rdL, rdO, rdP, okParts, eqCells, okEqCells, fillA, okFill, setAt, implies_true, forall_const, forall_eq, ne_eq, exists_eq_right_right, exists_eq_right, exists_eq_left, exists_eq_left', eInt, eBool, lit_eq, he0, he1, he7, he8]
  refine Br.dec (fun hlt => ?_) (fun hge => ?_)
  · simp -dsimp -implicitDefEqProofs (disch := omega) only [VCA, pg_gl, ↓upd_none, Nat.reduceEqDiff, Nat.reduceBEq, Nat.reduceAdd, Nat.reduceSub, Nat.reduceMul, Nat.reduceLT, Nat.reduceLeDiff, ↓reduceIte, reduceCtorEq, rsOf, rootsOf, SOp.rd, SI.rd, SX.rd, rdL, rdO, rdP, okParts, eqCells, okEqCells, fillA, okFill, setAt, implies_true, forall_const, forall_eq, ne_eq, exists_eq_right_right, exists_eq_right, exists_eq_left, exists_eq_left', eInt, eBool, lit_eq, he0, he1, he7, he8]
    refine ⟨by omega, Br.eq (fun ht => ?_) (fun hf => ?_)⟩
    · simp -dsimp -implicitDefEqProofs (disch := omega) only [VCA, pg_gl, ↓upd_none, Nat.reduceEqDiff, Nat.reduceBEq, Nat.reduceAdd, Nat.reduceSub, Nat.reduceMul, Nat.reduceLT, Nat.reduceLeDiff, ↓reduceIte, reduceCtorEq, rsOf, rootsOf, SOp.rd, SI.rd, SX.rd, rdL, rdO, rdP, okParts, eqCells, okEqCells, fillA, okFill, setAt, implies_true, forall_const, forall_eq, ne_eq, exists_eq_right_right, exists_eq_right, exists_eq_left, exists_eq_left', eInt, eBool, lit_eq]
      rw [idxM_some (k := k) (by omega) hj (by simp [ht])]; exact ⟨Sub.refl _, rfl⟩
    · simp -dsimp -implicitDefEqProofs (disch := omega) only [VCA, pg_gl, ↓upd_none, Nat.reduceEqDiff, Nat.reduceBEq, Nat.reduceAdd, Nat.reduceSub, Nat.reduceMul, Nat.reduceLT, Nat.reduceLeDiff, ↓reduceIte, reduceCtorEq, rsOf, rootsOf, SOp.rd, SI.rd, SX.rd, rdL, rdO, rdP, okParts, eqCells, okEqCells, fillA, okFill, setAt, implies_true, forall_const, forall_eq, ne_eq, exists_eq_right_right, exists_eq_right, exists_eq_left, exists_eq_left', eInt, eBool, lit_eq, he0, he1, he7, he8]
      refine ⟨_, ?_, k + 1, by omega, rfl, by omega, fun j hj' => ?_⟩
      · omega
      · by_cases h1 : j = k
        · subst h1; simpa using fun e => hf e.symm
        · exact hj j (by omega)
  · simp -dsimp -implicitDefEqProofs (disch := omega) only [VCA, pg_gl, ↓upd_none, Nat.reduceEqDiff, Nat.reduceBEq, Nat.reduceAdd, Nat.reduceSub, Nat.reduceMul, Nat.reduceLT, Nat.reduceLeDiff, ↓reduceIte, reduceCtorEq, rsOf, rootsOf, SOp.rd, SI.rd, SX.rd, rdL, rdO, rdP, okParts, eqCells, okEqCells, fillA, okFill, setAt, implies_true, forall_const, forall_eq, ne_eq, exists_eq_right_right, exists_eq_right, exists_eq_left, exists_eq_left', eInt, eBool, lit_eq]
    rw [idxM_none (fun j hj' => hj j (by omega))]; exact ⟨Sub.refl _, rfl⟩
end Go.Proofs.K
end
section
/- Ways through a tree: check, Step; the reference. -/
set_option linter.unusedSimpArgs false
set_option linter.unusedVariables false
namespace Go.Proofs.K
open Go Go.Sim Go.Proofs
variable {G : Glob}
theorem eDoc_len (d : HDoc) : (eDoc d).length = 2 := rfl
theorem eDoc_take (d : HDoc) : (eDoc d).take 2 = eDoc d := rfl
theorem docE_DV {d : HDoc} (h : docE d = 0) : DV d := (docE_iff d).1 h
theorem chain_rev0 {d : HDoc} (V : DV d) : ∀ n, inD d n → (nth (chain d n).reverse 0 = 0 ↔ 0 ∈ chain d n) := V.rise fun n hn ih => by
  have hr : ∀ l : List Int, l ≠ [] → nth l.reverse 0 = l.getLastD (-1) := fun l hl => by
    rw [getLastD_nth hl]
    unfold nth
    rw [List.getD_eq_getElem?_getD, List.getD_eq_getElem?_getD, List.getElem?_reverse (List.length_pos_iff.2 hl)]
    simp
  have hne : ∀ m, chain d m ≠ [] := fun m => List.ne_nil_of_mem (chain_self d m)
  rw [hr _ (hne n)]
  by_cases hp : 0 ≤ (nd d n).parent
  · have ih := ih hp
    rw [hr _ (hne _)] at ih
    rw [chain_up V hn hp, show n :: chain d (nd d n).parent = [n] ++ chain d (nd d n).parent from rfl, getLastD_append (hne _), ih]
    have : ¬ (0 : Int) = n := fun e => by subst e; have := V.root; omega
    simp [this]
  · rw [chain_top V hp]
    simp
    exact eq_comm
end Go.Proofs.K
end
section
/- Ways through a tree: the reference's WalkStep; Common; what must be in any case. -/
set_option linter.unusedSimpArgs false
set_option linter.unusedVariables false
namespace Go.Proofs.K
open Go Go.Sim Go.Proofs
variable {G : Glob}
section
variable {d : HDoc} {n : Int} {A B : List Int}
end
/-! ## the common node -/
/-- a result's weaker reading -/
theorem DCalls.res {P : PG} {f : Nat} {args : List AVal} {h : Heap} {K K' : AVal → Heap → Prop} (hd : DCalls P f args h K) (hk : ∀ a h', K a h' → ∃ b, Wk a b ∧ K' b h') : DCalls P f args h K' :=
  ⟨hd.1, fun g w vs H GR V => (hd.2 g w vs H GR V).mono fun e w' ⟨v', a, h', g', he, k0, H', Va, S⟩ => by
    obtain ⟨b, hb, k1⟩ := hk a h' k0
    exact ⟨v', b, h', g', he, k1, H', hb.rel Va, S⟩⟩
end Go.Proofs.K
end
section
/- Ways through a tree: the law of Step. -/
set_option linter.unusedSimpArgs false
set_option linter.unusedVariables false
namespace Go.Proofs.K
open Go Go.Sim Go.Proofs
variable {G : Glob}
end Go.Proofs.K
end
section
/- Ways through a tree: pairs of nodes, plain law. -/
set_option linter.unusedSimpArgs false
set_option linter.unusedVariables false
namespace Go.Proofs.K
open Go Go.Sim Go.Proofs
section
variable {d : HDoc}
def path (d : HDoc) (n : Int) : List Int := (chain d n).reverse
theorem path_len (V : DV d) {n : Int} (hn : inD d n) : (path d n).length = up d n + 1 := by unfold path; rw [List.length_reverse, chain_len V n hn]
theorem path_up (V : DV d) {n : Int} (hn : inD d n) (hp : 0 ≤ (nd d n).parent) : path d n = path d (nd d n).parent ++ [n] := by unfold path; rw [chain_up V hn hp, List.reverse_cons]
theorem path_top (V : DV d) {n : Int} (hp : ¬ 0 ≤ (nd d n).parent) : path d n = [n] := by unfold path; rw [chain_top V hp]; rfl
theorem nth_snoc_lt {l : List Int} {x : Int} {j : Nat} (h : j < l.length) : nth (l ++ [x]) j = nth l j := by
  unfold nth; rw [List.getD_eq_getElem?_getD, List.getElem?_append_left h, ← List.getD_eq_getElem?_getD]
theorem nth_snoc_eq {l : List Int} {x : Int} : nth (l ++ [x]) l.length = x := by simp [nth, List.getD_eq_getElem?_getD]
theorem path_at (V : DV d) : ∀ n, inD d n → ∀ j, j ≤ up d n → nth (path d n) j ∈ chain d n ∧ up d (nth (path d n) j) = j := V.rise fun n hn ih j hj => by
  by_cases hp : 0 ≤ (nd d n).parent
  · have hu := V.up_par hn hp
    have hl := path_len V (V.par_in hn hp).1
    rw [path_up V hn hp]
    by_cases h1 : j = up d n
    · have : j = (path d (nd d n).parent).length := by omega
      rw [this, nth_snoc_eq]; exact ⟨chain_self _ _, by omega⟩
    · obtain ⟨h2, h3⟩ := ih hp j (by omega)
      rw [nth_snoc_lt (by omega)]
      exact ⟨by rw [chain_up V hn hp]; exact List.mem_cons_of_mem _ h2, h3⟩
  · have hu := V.up_top hp
    obtain rfl : j = 0 := by omega
    rw [path_top V hp]; exact ⟨chain_self _ _, hu⟩
theorem path_mem (V : DV d) {n y : Int} (hn : inD d n) (hy : y ∈ chain d n) : nth (path d n) (up d y) = y := by
  have h1 := path_at V n hn (up d y) (chain_le V n hn y hy).1
  exact chain_one V n hn _ h1.1 _ hy h1.2
/-- where the ways down to two nodes part -/
structure Part (d : HDoc) (a b : Int) (i : Nat) : Prop where
  pos : 1 ≤ i
  la : i ≤ (path d a).length
  lb : i ≤ (path d b).length
  eq : ∀ j, j < i → nth (path d a) j = nth (path d b) j
  ne : ¬ (i < (path d a).length ∧ i < (path d b).length ∧ nth (path d a) i = nth (path d b) i)
variable {a b : Int} {i : Nat}
theorem Part.node (V : DV d) (ha : inD d a) (hb : inD d b) (p : Part d a b i) : nth (path d a) (i - 1) ∈ chain d a ∧ nth (path d a) (i - 1) ∈ chain d b ∧ up d (nth (path d a) (i - 1)) = i - 1 := by
  have h1 := path_at V a ha (i - 1) (by have := p.la; rw [path_len V ha] at this; omega)
  have h2 := path_at V b hb (i - 1) (by have := p.lb; rw [path_len V hb] at this; omega)
  exact ⟨h1.1, by rw [p.eq _ (by have := p.pos; omega)]; exact h2.1, h1.2⟩
end
end Go.Proofs.K
end
section
/- Ways through a tree: Before, Within, Common, Place. -/
set_option linter.unusedSimpArgs false
set_option linter.unusedVariables false
namespace Go.Proofs.K
open Go Go.Sim Go.Proofs
variable {G : Glob}
end Go.Proofs.K
end
section
/- Ways through a tree: the law of pairs. -/
set_option linter.unusedSimpArgs false
set_option linter.unusedVariables false
namespace Go.Proofs.K
open Go Go.Sim Go.Proofs
variable {G : Glob}
end Go.Proofs.K
end
section
/- Ranges: paths of points, their order. -/
set_option linter.unusedSimpArgs false
set_option linter.unusedVariables false
namespace Go.Proofs.K
open Go Go.Sim Go.Proofs
variable {G : Glob}
structure HPoint where
  node : Int
  at' : Int
deriving DecidableEq, Inhabited
def eP (p : HPoint) : List AVal := [aInt p.node, aInt p.at']
instance : LenE eP 2 := ⟨fun _ => rfl⟩
structure HSpan where
  a : HPoint
  b : HPoint
deriving DecidableEq, Inhabited
def eS (s : HSpan) : List AVal := [aInt s.a.node, aInt s.a.at', aInt s.b.node, aInt s.b.at']
instance : LenE eS 4 := ⟨fun _ => rfl⟩
end Go.Proofs.K
end
section
/- Ranges: points, spans: contracts. -/
set_option linter.unusedSimpArgs false
set_option linter.unusedVariables false
namespace Go.Proofs.K
open Go Go.Sim Go.Proofs
variable {G : Glob}
/-- the way down to a node, from below: which kid each one is -/
def rkey (d : HDoc) (n : Int) : List Int := ((chain d n).filter (fun m => decide (0 < m))).map fun m => 2 * idxM (· == m) (nd d (nd d m).parent).kids + 1
def key (d : HDoc) (p : HPoint) : List Int := (2 * p.at' :: rkey d p.node).reverse
section
variable {d : HDoc}
end
end Go.Proofs.K
end
section
/- Ranges: the order of points, plain law. -/
set_option linter.unusedSimpArgs false
set_option linter.unusedVariables false
namespace Go.Proofs.K
open Go Go.Sim Go.Proofs
/-! ## lists by their order -/
/-! ## all points of a tree, in their order -/
section
variable {d : HDoc}
end
end Go.Proofs.K
end
section
/- Ranges: order, points, span, Check, Less; the reference's errors. -/
set_option linter.unusedSimpArgs false
set_option linter.unusedVariables false
namespace Go.Proofs.K
open Go Go.Sim Go.Proofs
variable {G : Glob}
end Go.Proofs.K
end
section
/- Ranges: the reference's marks, SpanErr. -/
set_option linter.unusedSimpArgs false
set_option linter.unusedVariables false
namespace Go.Proofs.K
open Go Go.Sim Go.Proofs
variable {G : Glob}
end Go.Proofs.K
end
section
/- Ranges: the tree's order, as a list. -/
set_option linter.unusedSimpArgs false
set_option linter.unusedVariables false
namespace Go.Proofs.K
open Go Go.Sim Go.Proofs
variable {G : Glob}
def c109 : SFun := ⟨(.seq (.reg [⟨(some 3), (.boxF 24 2 (.t 0)), none⟩, ⟨(some 6), (.mv (.c .emp)), none⟩]) (.seq (.reg [⟨(some 9), (.mv (.t 2)), none⟩, ⟨(some 10), (.mv (.t 1)), none⟩, ⟨(some 11), (.bldF 3 1 [(.t 10)]), none⟩, ⟨(some 12), (.app 3 1 8 (.t 9) (.t 11)), none⟩, ⟨(some 2), (.mv (.t 12)), none⟩]) (.seq (.seq (.reg [⟨(some 13), (.fldA 0 (.t 3)), none⟩, ⟨(some 14), (.ld 1 false (.t 13)), none⟩, ⟨(some 15), (.mv (.t 1)), none⟩, ⟨(some 16), (.idxA 6 (.t 14) (.t 15)), none⟩, ⟨(some 17), (.fldA 5 (.t 16)), none⟩, ⟨(some 18), (.ld 1 false (.t 17)), none⟩, ⟨(some 19), (.len (.t 18)), none⟩, ⟨(some 20), (.mv (.c (.int .i64 (0)))), none⟩]) (.block 0 (.loop (.seq (.reg [⟨(some 21), (.bin .lss (.t 20) (.t 19)), none⟩]) (.seq (.cond (.t 21) .skip (.exit 0)) (.seq (.block 1 (.seq (.reg [⟨(some 22), (.idxA 1 (.t 18) (.t 20)), none⟩, ⟨(some 23), (.ld 1 false (.t 22)), none⟩, ⟨(some 8), (.mv (.t 23)), none⟩]) (.reg [⟨(some 24), (.ld 2 true (.t 3)), none⟩, ⟨(some 25), (.mv (.t 8)), none⟩, ⟨(some 26), (.mv (.t 2)), none⟩, ⟨(some 27), (.call (.c (.fn 109 [] [])) [(.t 24), (.t 25), (.t 26)]), none⟩, ⟨(some 2), (.mv (.t 27)), none⟩]))) (.reg [⟨(some 28), (.bin .add (.t 20) (.c (.int .i64 (1)))), none⟩, ⟨(some 20), (.mv (.t 28)), none⟩]))))))) (.seq (.reg [⟨(some 29), (.mv (.t 2)), none⟩, ⟨(some 6), (.mv (.t 29)), none⟩]) .ret)))), [(.tmp 6)]⟩
theorem hc109 : toSF Tryd.prog {} Tryd.f109 = some c109 := by kernel_rfl
theorem hn109 : (Tryd.f109.name == "runtime.NumGoroutine") = false := by kernel_rfl
theorem walk_ok (d : HDoc) (V : DV d) (sm : DocSm d) : ∀ n, inD d n → ∀ (h h1 : Heap) (L : List Int) (a : AVal), Acc h 3 1 (L.map eInt) a h1 → Sim.Sub h h1 → L.length + (below d n).length ≤ 1000000 →
    DCalls (Pg G) 109 [.agg (eDoc d), aInt n, a] h1 fun r h2 => Acc h 3 1 ((L ++ below d n).map eInt) r h2 ∧ Sim.Sub h h2 := V.down fun n hn ih h h1 L a A S hL => by
  have hl := V.len
  have n0 := hn.1
  have n1 := hn.2
  have e0 : nth d.nodes n.toNat = nd d n := rfl
  have kl := (sm.nd n).kids
  have bl := below_len V hn
  have be := below_eq V hn
  refine dcalls_of_vc Tryd.func109 hn109 hc109 (by rw [Tryd.ntmps109]; simp) (by rw [Tryd.ntmps109]; decide) ?_
  simp -dsimp -implicitDefEqProofs (disch := omega) only [VCA, pg_gl, ↓upd_none, Nat.reduceEqDiff, Nat.reduceBEq, Nat.reduceAdd, Nat.reduceSub, Nat.reduceMul, Nat.reduceLT, Nat.reduceLeDiff, ↓reduceIte, reduceCtorEq, rsOf, rootsOf, SOp.rd, SI.rd, SX.rd, rdL, rdO, rdP, okParts, eqCells, okEqCells, fillA, okFill, setAt, implies_true, forall_const, forall_eq, ne_eq, exists_eq_right_right, exists_eq_right, exists_eq_left, exists_eq_left', eInt, eBool, lit_eq, c109, eDoc, eNode]
  refine A.app S (by simp only [List.length_map, List.length_cons, List.length_nil]; omega) (by simp only [List.length_map, List.length_cons, List.length_nil]; omega) fun a2 h2 A2 S2 => ?_
  simp -dsimp -implicitDefEqProofs (disch := omega) only [VCA, pg_gl, ↓upd_none, Nat.reduceEqDiff, Nat.reduceBEq, Nat.reduceAdd, Nat.reduceSub, Nat.reduceMul, Nat.reduceLT, Nat.reduceLeDiff, ↓reduceIte, reduceCtorEq, rsOf, rootsOf, SOp.rd, SI.rd, SX.rd, rdL, rdO, rdP, okParts, eqCells, okEqCells, fillA, okFill, setAt, implies_true, forall_const, forall_eq, ne_eq, exists_eq_right_right, exists_eq_right, exists_eq_left, exists_eq_left', eInt, eBool, lit_eq, eDoc, eNode, e0]
  refine ⟨by omega, ?_⟩
  have A0 : Acc h 3 1 ((L ++ n :: ((nd d n).kids.take 0).flatMap (below d)).map eInt) a2 h2 := by simpa [eInt] using A2
  have bel : (below d n).length = 1 + ((nd d n).kids.flatMap (below d)).length := by rw [be, List.length_cons]; omega
  refine LoopVC.intro (fun m e h' => ∃ k : Nat, k ≤ (nd d n).kids.length ∧ m = (nd d n).kids.length - k ∧ e 3 = .pin (eDoc d) ∧ e 18 = sl eInt (nd d n).kids ∧ e 19 = aInt (nd d n).kids.length ∧ e 20 = aInt k ∧ Acc h 3 1 ((L ++ n :: ((nd d n).kids.take k).flatMap (below d)).map eInt) (e 2) h' ∧ Sim.Sub h h') _ ⟨0, by omega, rfl, rfl, rfl, rfl, rfl, A0, S2⟩ ?_
  clear A0 A2 S2 A S
  rintro m e h' ⟨k, hk, rfl, he3, he18, he19, he20, A, S⟩
  simp -dsimp -implicitDefEqProofs (disch := omega) only [VCA, pg_gl, ↓upd_none, Nat.reduceEqDiff, Nat.reduceBEq, Nat.reduceAdd, Nat.reduceSub, Nat.reduceMul, Nat.reduceLT, Nat.reduceLeDiff, ↓reduceIte, reduceCtorEq, rsOf, rootsOf, SOp.rd, SI.rd, SX.rd, rdL, rdO, rdP, okParts, eqCells, okEqCells, fillA, okFill, setAt, implies_true, forall_const, forall_eq, ne_eq, exists_eq_right_right, exists_eq_right, exists_eq_left, exists_eq_left', eInt, eBool, lit_eq, he3, he18, he19, he20]
  refine Br.dec (fun hlt => ?_) (fun hge => ?_)
  · have hk' : k < (nd d n).kids.length := by omega
    have hfl : (((nd d n).kids.take (k + 1)).flatMap (below d)).length ≤ ((nd d n).kids.flatMap (below d)).length := by
      conv => rhs; rw [← List.take_append_drop (k + 1) (nd d n).kids, List.flatMap_append, List.length_append]
      omega
    rw [take_snoc hk', List.flatMap_append, List.length_append] at hfl
    simp only [List.flatMap_cons, List.flatMap_nil, List.append_nil] at hfl
    have hI := ih _ (nth_mem' hk') h h' (L ++ n :: ((nd d n).kids.take k).flatMap (below d)) (e 2) A S (by rw [List.length_append, List.length_cons]; omega)
    simp -dsimp -implicitDefEqProofs (disch := omega) only [VCA, pg_gl, ↓upd_none, Nat.reduceEqDiff, Nat.reduceBEq, Nat.reduceAdd, Nat.reduceSub, Nat.reduceMul, Nat.reduceLT, Nat.reduceLeDiff, ↓reduceIte, reduceCtorEq, rsOf, rootsOf, SOp.rd, SI.rd, SX.rd, rdL, rdO, rdP, okParts, eqCells, okEqCells, fillA, okFill, setAt, implies_true, forall_const, forall_eq, ne_eq, exists_eq_right_right, exists_eq_right, exists_eq_left, exists_eq_left', eInt, eBool, lit_eq, he3, he18, he19, he20, eDoc_len, eDoc_take]
    refine ⟨by omega, ?_⟩
    refine DCalls.of hI ?_
    rintro r h3 ⟨A3, S3⟩
    have A4 : Acc h 3 1 ((L ++ n :: ((nd d n).kids.take (k + 1)).flatMap (below d)).map eInt) r h3 := by
      rw [take_snoc hk', List.flatMap_append]
      simpa using A3
    simp -dsimp -implicitDefEqProofs (disch := omega) only [VCA, pg_gl, ↓upd_none, Nat.reduceEqDiff, Nat.reduceBEq, Nat.reduceAdd, Nat.reduceSub, Nat.reduceMul, Nat.reduceLT, Nat.reduceLeDiff, ↓reduceIte, reduceCtorEq, rsOf, rootsOf, SOp.rd, SI.rd, SX.rd, rdL, rdO, rdP, okParts, eqCells, okEqCells, fillA, okFill, setAt, implies_true, forall_const, forall_eq, ne_eq, exists_eq_right_right, exists_eq_right, exists_eq_left, exists_eq_left', eInt, eBool, lit_eq, he3, he18, he19, he20]
    exact ⟨_, by omega, k + 1, by omega, rfl, by omega, A4, S3⟩
  · obtain rfl : k = (nd d n).kids.length := by omega
    rw [List.take_length, ← be] at A
    simp -dsimp -implicitDefEqProofs (disch := omega) only [VCA, pg_gl, ↓upd_none, Nat.reduceEqDiff, Nat.reduceBEq, Nat.reduceAdd, Nat.reduceSub, Nat.reduceMul, Nat.reduceLT, Nat.reduceLeDiff, ↓reduceIte, reduceCtorEq, rsOf, rootsOf, SOp.rd, SI.rd, SX.rd, rdL, rdO, rdP, okParts, eqCells, okEqCells, fillA, okFill, setAt, implies_true, forall_const, forall_eq, ne_eq, exists_eq_right_right, exists_eq_right, exists_eq_left, exists_eq_left', eInt, eBool, lit_eq]
    exact ⟨_, Sub.refl _, A, S⟩
theorem walk0_ok (d : HDoc) (V : DV d) (sm : DocSm d) (n : Int) (hn : inD d n) : PCalls (Pg G) 109 [.agg (eDoc d), aInt n, .emp] (sl eInt (below d n)) := PCalls.acc (ty := 3) (sz := 1) fun h =>
  (walk_ok (G := G) d V sm n hn h h [] .emp .nil (Sub.refl _) (by have := below_len V hn; have := V.len; simp; omega)).mono fun r h' hh => by rw [List.nil_append] at hh; exact hh
def c59 : SFun := ⟨(.seq (.reg [⟨(some 1), (.boxF 24 2 (.t 0)), none⟩, ⟨(some 2), (.mv (.c .emp)), none⟩, ⟨(some 3), (.mv (.c (.int .i64 (0)))), none⟩]) (.seq (.seq (.reg [⟨(some 5), (.ld 2 true (.t 1)), none⟩, ⟨(some 6), (.pcall 52 [(.t 5)]), none⟩, ⟨(some 4), (.mv (.t 6)), none⟩]) (.seq (.reg [⟨(some 7), (.mv (.t 4)), none⟩, ⟨(some 8), (.bin .neq (.t 7) (.c (.int .i64 (0)))), none⟩]) (.cond (.t 8) (.seq (.reg [⟨(some 9), (.mv (.t 4)), none⟩, ⟨(some 2), (.mv (.c .emp)), none⟩, ⟨(some 3), (.mv (.t 9)), none⟩]) .ret) .skip))) (.seq (.reg [⟨(some 10), (.ld 2 true (.t 1)), none⟩, ⟨(some 11), (.pcall 109 [(.t 10), (.c (.int .i64 (0))), (.c .emp)]), none⟩, ⟨(some 2), (.mv (.t 11)), none⟩, ⟨(some 3), (.mv (.c (.int .i64 (0)))), none⟩]) .ret))), [(.tmp 2), (.tmp 3)]⟩
theorem hc59 : toSF Tryd.prog {pure := [52, 109]} Tryd.f59 = some c59 := by kernel_rfl
theorem hn59 : (Tryd.f59.name == "runtime.NumGoroutine") = false := by kernel_rfl
theorem domOrder_ok (d : HDoc) (V : DV d) (h0 : docE d = 0) (sm : DocSm d) : PCalls (Pg G) 59 [.agg (eDoc d)] (.tup [sl eInt (below d 0), aInt 0]) := fun h => by
  have hC := check_ok (G := G) d sm
  have hW := walk0_ok (G := G) d V sm 0 V.zero
  rw [h0] at hC
  refine dcalls_of_vc Tryd.func59 hn59 hc59 (by rw [Tryd.ntmps59]; simp) (by rw [Tryd.ntmps59]; decide) ?_
  simp -dsimp -implicitDefEqProofs (disch := omega) only [VCA, pg_gl, ↓upd_none, Nat.reduceEqDiff, Nat.reduceBEq, Nat.reduceAdd, Nat.reduceSub, Nat.reduceMul, Nat.reduceLT, Nat.reduceLeDiff, ↓reduceIte, reduceCtorEq, rsOf, rootsOf, SOp.rd, SI.rd, SX.rd, rdL, rdO, rdP, okParts, eqCells, okEqCells, fillA, okFill, setAt, implies_true, forall_const, forall_eq, ne_eq, exists_eq_right_right, exists_eq_right, exists_eq_left, exists_eq_left', eInt, eBool, lit_eq, c59, eDoc_len, eDoc_take]
  repeat' (first | ((with_reducible refine Br.dec (fun _ => ?_) (fun _ => ?_)) <;> try (exfalso; omega)) | ((with_reducible refine Br.eq (fun _ => ?_) (fun _ => ?_)) <;> try (exfalso; omega)) | ((with_reducible refine Br.ne (fun _ => ?_) (fun _ => ?_)) <;> try (exfalso; omega)) | ((with_reducible refine brNdec (fun _ => ?_) (fun _ => ?_)) <;> try (exfalso; omega)) | ((with_reducible refine brNeq (fun _ => ?_) (fun _ => ?_)) <;> try (exfalso; omega)) | with_reducible refine Br.intro (fun _ => ?_) (fun _ => ?_) | (with_reducible apply pcallE.of; · exact hC) | (with_reducible apply pcallE.of; · exact hW) | (with_reducible refine And.intro ?_ ?_; · omega) | simp -dsimp -implicitDefEqProofs (disch := omega) only [VCA, pg_gl, ↓upd_none, Nat.reduceEqDiff, Nat.reduceBEq, Nat.reduceAdd, Nat.reduceSub, Nat.reduceMul, Nat.reduceLT, Nat.reduceLeDiff, ↓reduceIte, reduceCtorEq, rsOf, rootsOf, SOp.rd, SI.rd, SX.rd, rdL, rdO, rdP, okParts, eqCells, okEqCells, fillA, okFill, setAt, implies_true, forall_const, forall_eq, ne_eq, exists_eq_right_right, exists_eq_right, exists_eq_left, exists_eq_left', eInt, eBool, lit_eq, eDoc_len, eDoc_take])
  all_goals exact Sub.refl _
end Go.Proofs.K
end
section
/- Edits of documents: what becomes of a document; whether it is still right. Plain law. -/
set_option linter.unusedSimpArgs false
set_option linter.unusedVariables false
namespace Go.Proofs.K
open Go Go.Sim Go.Proofs
/-! ## a node set -/
def setN (d : HDoc) (n : Int) (x : HNode) : HDoc := ⟨d.nodes.set n.toNat x, d.quirks⟩
section
variable {d : HDoc}
/-! ## how deep, by parents alone -/
theorem upF_congr {d' : HDoc} (V : DV d) (h : ∀ m, inD d m → (nd d' m).parent = (nd d m).parent) : ∀ (f : Nat) (n : Int), inD d n → upF f d' n = upF f d n
  | 0, _, _ => rfl
  | f + 1, n, hn => by
    unfold upF
    rw [h n hn]
    by_cases hp : 0 ≤ (nd d n).parent
    · rw [if_pos hp, if_pos hp, upF_congr V h f _ (V.par_in hn hp).1]
    · rw [if_neg hp, if_neg hp]
/-! ## a node more -/
def addN (d : HDoc) (x : HNode) : HDoc := ⟨d.nodes ++ [x], d.quirks⟩
theorem addN_len (x : HNode) : (addN d x).nodes.length = d.nodes.length + 1 := by simp [addN]
theorem nd_addN {x : HNode} {m : Int} (hm : inD d m) : nd (addN d x) m = nd d m := by
  have h := hm.nat
  unfold nd addN nth
  rw [List.getD_eq_getElem?_getD, List.getD_eq_getElem?_getD, List.getElem?_append_left h.1]
theorem nd_addN_new (x : HNode) : nd (addN d x) (d.nodes.length : Int) = x := by
  unfold nd addN nth
  rw [List.getD_eq_getElem?_getD]; simp
theorem inD_addN {x : HNode} {m : Int} : inD (addN d x) m ↔ inD d m ∨ m = d.nodes.length := by unfold inD; rw [addN_len]; omega
theorem up_addN (V : DV d) {x : HNode} {m : Int} (hm : inD d m) : up (addN d x) m = up d m := by
  have h1 : upF (d.nodes.length + 1 + 1) (addN d x) m = upF (d.nodes.length + 1 + 1) d m := upF_congr V (fun k hk => by rw [nd_addN hk]) _ m hm
  have h2 : up (addN d x) m = upF (d.nodes.length + 1 + 1) (addN d x) m := by unfold up; rw [addN_len]
  rw [h2, h1]
  have h3 := V.fin m hm
  exact upF_mono (f := d.nodes.length + 1) (by unfold up at h3; omega) (by omega)
theorem DV.add (V : DV d) {x : HNode} (hp : x.parent = -1) (hc : x.kids = []) (h1 : x.kind ≠ 1) : DV (addN d x) ↔ nodeE x = 0 ∧ d.nodes.length < 200 := by
  have new := nd_addN_new (d := d) x
  have inew : inD (addN d x) (d.nodes.length : Int) := inD_addN.2 (.inr rfl)
  constructor
  · intro W
    have h2 := W.node _ inew
    have h3 := W.len
    rw [new] at h2
    rw [addN_len] at h3
    exact ⟨h2, by omega⟩
  · rintro ⟨hx, hl⟩
    have z := V.pos
    have upn : up (addN d x) (d.nodes.length : Int) = 0 := by
      unfold up upF
      rw [new, if_neg (by omega)]
    refine ⟨by rw [addN_len]; omega, by rw [addN_len]; omega, fun m hm => ?_, fun m hm => ?_, fun m hm k hk' => ?_, fun m hm => ?_, fun k hk' => ?_, fun m hm => ?_, ?_, fun m hm => ?_, fun m hm => ?_⟩
    · rcases inD_addN.1 hm with hm | rfl
      · rw [nd_addN hm]; exact V.kind m hm
      · rw [new]; constructor
        · intro h; exact absurd h h1
        · intro h; omega
    · rcases inD_addN.1 hm with hm | rfl
      · rw [nd_addN hm]; exact V.node m hm
      · rw [new]; exact hx
    · rcases inD_addN.1 hm with hm | rfl
      · rw [nd_addN hm] at hk'
        obtain ⟨g1, g2⟩ := V.kid m hm k hk'
        exact ⟨inD_addN.2 (.inl g1), by rw [nd_addN g1]; exact g2⟩
      · rw [new, hc] at hk'; cases hk'
    · rcases inD_addN.1 hm with hm | rfl
      · rw [nd_addN hm]; exact V.nodup m hm
      · rw [new, hc]; exact .nil
    · rw [nd_addN V.zero] at hk'
      rw [nd_addN (V.kid 0 V.zero k hk').1]; exact V.top k hk'
    · rcases inD_addN.1 hm with hm | rfl
      · rw [nd_addN hm]
        rcases V.par m hm with h | ⟨g1, g2⟩
        · exact .inl h
        · exact .inr ⟨inD_addN.2 (.inl g1), by rw [nd_addN g1]; exact g2⟩
      · rw [new]; exact .inl hp
    · rw [nd_addN V.zero]; exact V.root
    · rcases inD_addN.1 hm with hm | rfl
      · rw [up_addN V hm, addN_len]; have := V.fin m hm; omega
      · rw [upn]; omega
    · rcases inD_addN.1 hm with hm | rfl
      · rw [up_addN V hm]; exact V.deep m hm
      · rw [upn]; omega
/-! ## a node hung up -/
def hung (d : HDoc) (at' to : Int) (i : Nat) : HDoc := setN (setN d at' { nd d at' with kids := (nd d at').kids.take i ++ to :: (nd d at').kids.drop i }) to { nd d to with parent := at' }
section
variable {a t : Int} {i : Nat}
end
/-! ## a node taken away -/
def cutN (d : HDoc) (n : Int) (i : Nat) : HDoc := setN (setN d (nd d n).parent { nd d (nd d n).parent with kids := (nd d (nd d n).parent).kids.take i ++ (nd d (nd d n).parent).kids.drop (i + 1) }) n { nd d n with parent := -1 }
section
variable {n : Int} {i : Nat}
end
end
end Go.Proofs.K
end
section
/- Edits of documents: what they do, and what is wrong with them: plain law. -/
set_option linter.unusedSimpArgs false
set_option linter.unusedVariables false
namespace Go.Proofs.K
open Go Go.Sim Go.Proofs
structure HEdit where
  do' : Int
  at' : Int
  to : Int
  before : Int
  name : List UInt8
  value : List UInt8
  node : HNode
deriving DecidableEq, Inhabited
def eEdit (e : HEdit) : List AVal := [aInt e.do', aInt e.at', aInt e.to, aInt e.before, .str e.name, .str e.value, aInt e.node.kind, .str e.node.name, sl eAttr e.node.attrs, .str e.node.text, aInt e.node.parent, sl eInt e.node.kids]
instance : LenE eEdit 12 := ⟨fun _ => rfl⟩
def eE0 (e : HEdit) : List AVal := [aInt e.do', aInt e.at', aInt e.to, aInt e.before, .str e.name, .str e.value, aInt e.node.kind, .str e.node.name, .emp, .str e.node.text, aInt e.node.parent, .emp]
structure EditSm (e : HEdit) : Prop where
  name : e.name.length ≤ 1073741824
  value : e.value.length ≤ 1073741824
  node : NodeSm e.node
/-! ## attributes -/
def setAttr (l : List HAttr) (name value : List UInt8) : List HAttr := if 0 ≤ attrAt l name then l.set (attrAt l name).toNat ⟨name, value⟩ else l ++ [⟨name, value⟩]
def dropAttr (l : List HAttr) (name : List UInt8) : List HAttr := l.take (attrAt l name).toNat ++ l.drop ((attrAt l name).toNat + 1)
theorem attrAt_mem (l : List HAttr) (name : List UInt8) : 0 ≤ attrAt l name ↔ name ∈ l.map (·.name) := by
  have := idxM_any (fun a : HAttr => a.name == name) l
  unfold attrAt
  rw [← decide_eq_true_iff (p := 0 ≤ idxM (fun a : HAttr => a.name == name) l), this, List.any_eq_true, List.mem_map]
  constructor
  · rintro ⟨a, h1, h2⟩; exact ⟨a, h1, by simpa using h2⟩
  · rintro ⟨a, h1, h2⟩; exact ⟨a, h1, by simpa using h2⟩
theorem attrAt_spec (l : List HAttr) (name : List UInt8) (h : 0 ≤ attrAt l name) : (attrAt l name).toNat < l.length ∧ (nth l (attrAt l name).toNat).name = name ∧ ((attrAt l name).toNat : Int) = attrAt l name := by
  unfold attrAt idxM at *
  cases hf : l.findIdx? (fun a : HAttr => a.name == name) with
  | none => rw [hf] at h; simp at h
  | some i =>
    simp only [hf] at h ⊢
    rw [List.findIdx?_eq_some_iff_getElem] at hf
    obtain ⟨h1, h2, _⟩ := hf
    refine ⟨by simpa using h1, ?_, by simp⟩
    have : nth l i = l[i] := by unfold nth; rw [List.getD_eq_getElem?_getD, List.getElem?_eq_getElem h1]; rfl
    show (nth l ((i : Int)).toNat).name = name
    rw [show ((i : Int)).toNat = i by simp, this]
    simpa using h2
theorem attrsE_iff (l : List HAttr) : attrsE l = 0 ↔ l.length ≤ 12 ∧ (∀ a ∈ l, nameOK false a.name = true ∧ a.value.length ≤ 400) ∧ (l.map (·.name)).Nodup := by
  have key : ∀ i, i < l.length → (attrE l i = 0 ↔ nameOK false (nth l i).name = true ∧ (nth l i).value.length ≤ 400 ∧ nth (l.map (·.name)) i ∉ (l.map (·.name)).take i) := fun i hi => by
    have hn : nth (l.map (·.name)) i = (nth l i).name := by
      unfold nth; rw [List.getD_eq_getElem?_getD, List.getD_eq_getElem?_getD, List.getElem?_map, List.getElem?_eq_getElem hi]; rfl
    have hm := attrAt_mem (l.take i) (nth l i).name
    rw [List.map_take] at hm
    rw [hn, ← hm]
    unfold attrE
    constructor
    · intro h
      split at h
      · omega
      · rename_i h1
        split at h
        · omega
        · rename_i h2
          split at h
          · omega
          · rename_i h3
            exact ⟨by simpa using h1, by omega, h3⟩
    · rintro ⟨h1, h2, h3⟩
      rw [if_neg (by simp [h1]), if_neg (by omega), if_neg h3]
  unfold attrsE
  constructor
  · intro h
    split at h
    · omega
    · rename_i hl
      have h := fe_zero h
      refine ⟨by omega, fun a ha => ?_, nodup_of_take fun k hk => ?_⟩
      · obtain ⟨k, hk, rfl⟩ := mem_nth ha
        have := (key k hk).1 (h k hk)
        exact ⟨this.1, this.2.1⟩
      · rw [List.length_map] at hk
        exact ((key k hk).1 (h k hk)).2.2
  · rintro ⟨h1, h2, h3⟩
    rw [if_neg (by omega)]
    refine fe_none fun k hk => (key k hk).2 ⟨(h2 _ (nth_mem' hk)).1, (h2 _ (nth_mem' hk)).2, take_of_nodup h3 (by rw [List.length_map]; exact hk)⟩
theorem nodeE_iff (x : HNode) : nodeE x = 0 ↔ (1 ≤ x.kind ∧ x.kind ≤ 5) ∧ bareM x = true ∧ (x.kind = 2 → nameOK true x.name = true) ∧ attrsE x.attrs = 0 ∧ x.text.length ≤ 400 ∧ x.name.length ≤ 400 := by
  unfold nodeE
  constructor
  · intro h
    split at h
    · omega
    · rename_i h1
      simp only [not_or] at h1
      split at h
      · omega
      · rename_i h2
        split at h
        · rename_i h3; exact absurd h h3
        · rename_i h3
          split at h
          · omega
          · rename_i h4
            refine ⟨by omega, by simpa using h1.2.2, fun h5 => ?_, by simpa using h3, by omega, by omega⟩
            cases hn : nameOK true x.name with
            | true => rfl
            | false => exact absurd ⟨h5, hn⟩ h2
  · rintro ⟨h1, h2, h3, h4, h5, h6⟩
    rw [if_neg (by rw [h2]; simp; omega), if_neg (by rintro ⟨h7, h8⟩; rw [h3 h7] at h8; cases h8), if_neg (by simpa using h4), if_neg (by omega)]
/-! ## how far what lies below a node goes -/
def lowF : Nat → HDoc → Int → Nat
  | 0, _, _ => 0
  | f + 1, d, n => ((nd d n).kids.map fun k => lowF f d k + 1).foldl max 0
def low (d : HDoc) (n : Int) : Nat := lowF (41 - up d n) d n
theorem foldl_max (l : List Nat) (c : Nat) : ∀ a, l.foldl max a ≤ c ↔ a ≤ c ∧ ∀ x ∈ l, x ≤ c := by
  induction l with
  | nil => intro a; simp
  | cons y l ih =>
    intro a
    rw [List.foldl_cons, ih]
    constructor
    · rintro ⟨h1, h2⟩
      refine ⟨by omega, fun x hx => ?_⟩
      rcases List.mem_cons.1 hx with rfl | hx
      · omega
      · exact h2 x hx
    · rintro ⟨h1, h2⟩
      have := h2 y List.mem_cons_self
      exact ⟨by omega, fun x hx => h2 x (List.mem_cons_of_mem _ hx)⟩
section
variable {d : HDoc}
theorem low_eq (V : DV d) {n : Int} (hn : inD d n) : low d n = ((nd d n).kids.map fun k => low d k + 1).foldl max 0 := by
  have h40 := V.deep n hn
  obtain ⟨f, hf⟩ : ∃ f, 41 - up d n = f + 1 := ⟨40 - up d n, by omega⟩
  have e : low d n = lowF (f + 1) d n := by unfold low; rw [hf]
  rw [e, lowF]
  congr 1
  refine List.map_congr_left fun k hk => ?_
  have hu := V.up_kid hn hk
  show _ = lowF (41 - up d k) d k + 1
  rw [show 41 - up d k = f by omega]
theorem low_le (V : DV d) : ∀ n, inD d n → ∀ c, low d n ≤ c ↔ ∀ m ∈ below d n, up d m ≤ up d n + c := V.down fun n hn ih c => by
  rw [low_eq V hn, foldl_max, below_eq V hn]
  constructor
  · rintro ⟨_, h⟩ m hm
    rcases List.mem_cons.1 hm with rfl | hm
    · omega
    · obtain ⟨k, hk, hm⟩ := List.mem_flatMap.1 hm
      have h1 := h _ (List.mem_map.2 ⟨k, hk, rfl⟩)
      have h2 := (ih k hk (c - 1)).1 (by omega) m hm
      have := V.up_kid hn hk
      omega
  · intro h
    refine ⟨by omega, fun x hx => ?_⟩
    obtain ⟨k, hk, rfl⟩ := List.mem_map.1 hx
    have hki := (V.kid n hn k hk).1
    have hu := V.up_kid hn hk
    have h0 := h k (List.mem_cons_of_mem _ (List.mem_flatMap.2 ⟨k, hk, below_self V hki⟩))
    have := (ih k hk (c - 1)).2 fun m hm => by
      have := h m (List.mem_cons_of_mem _ (List.mem_flatMap.2 ⟨k, hk, hm⟩))
      omega
    omega
theorem low_40 (V : DV d) {n : Int} (hn : inD d n) : low d n ≤ 40 := (low_le V n hn 40).2 fun m hm => by have := V.deep m (below_in V n hn m hm); omega
end
/-! ## the edits -/
def insAt (d : HDoc) (e : HEdit) : Nat := if e.before = -1 then (nd d e.at').kids.length else (idxM (· == e.before) (nd d e.at').kids).toNat
def editE (d : HDoc) (e : HEdit) : Int :=
  if e.do' = 1 then (if ¬ inD d e.at' then 5 else if (nd d e.at').kind ≠ 2 then 7 else if nameOK false e.name = false then 3
    else if 400 < e.value.length ∨ (¬ 0 ≤ attrAt (nd d e.at').attrs e.name ∧ (nd d e.at').attrs.length = 12) then 2 else 0)
  else if e.do' = 2 then (if ¬ inD d e.at' then 5 else if (nd d e.at').kind ≠ 2 then 7 else if ¬ 0 ≤ attrAt (nd d e.at').attrs e.name then 5 else 0)
  else if e.do' = 3 then (if ¬ inD d e.at' then 5 else if (nd d e.at').kind ≠ 3 ∧ (nd d e.at').kind ≠ 4 then 7 else if 400 < e.value.length then 2 else 0)
  else if e.do' = 4 then (if e.node.kids ≠ [] then 3 else if e.node.kind = 1 then 7 else if nodeE e.node ≠ 0 then nodeE e.node else if d.nodes.length = 200 then 2 else 0)
  else if e.do' = 5 then (if ¬ inD d e.at' ∨ ¬ inD d e.to then 5
    else if ¬ ((nd d e.at').kind = 1 ∨ (nd d e.at').kind = 2) ∨ (nd d e.to).kind = 1 ∨ ((nd d e.at').kind = 1 ∧ (nd d e.to).kind = 3) then 7
    else if 0 ≤ (nd d e.to).parent then 9 else if e.before ≠ -1 ∧ e.before ∉ (nd d e.at').kids then 5 else if e.to ∈ chain d e.at' then 8
    else if 40 < up d e.at' + 1 + low d e.to then 2 else 0)
  else if e.do' = 6 then (if ¬ inD d e.at' then 5 else if (nd d e.at').kind = 1 then 7 else if ¬ 0 ≤ (nd d e.at').parent then 5 else 0)
  else 1
def madeM (x : HNode) : HNode := ⟨x.kind, x.name, x.attrs, x.text, -1, []⟩
def editD (d : HDoc) (e : HEdit) : HDoc :=
  if e.do' = 1 then setN d e.at' { nd d e.at' with attrs := setAttr (nd d e.at').attrs e.name e.value }
  else if e.do' = 2 then setN d e.at' { nd d e.at' with attrs := dropAttr (nd d e.at').attrs e.name }
  else if e.do' = 3 then setN d e.at' { nd d e.at' with text := e.value }
  else if e.do' = 4 then addN d (madeM e.node)
  else if e.do' = 5 then hung d e.at' e.to (insAt d e)
  else cutN d e.at' (idxM (· == e.at') (nd d (nd d e.at').parent).kids).toNat
def editN (d : HDoc) (e : HEdit) : Int := if e.do' = 4 then d.nodes.length else 0
section
variable {d : HDoc}
theorem idxM_leK (l : List Int) (x : Int) : -1 ≤ idxM (· == x) l ∧ idxM (· == x) l < l.length ∧ (0 ≤ idxM (· == x) l → nth l (idxM (· == x) l).toNat = x) := by
  unfold idxM
  split
  · rename_i i hi
    rw [List.findIdx?_eq_some_iff_getElem] at hi
    obtain ⟨h1, h2, _⟩ := hi
    refine ⟨by omega, by omega, fun _ => ?_⟩
    have : nth l i = l[i] := by unfold nth; rw [List.getD_eq_getElem?_getD, List.getElem?_eq_getElem h1]; rfl
    rw [Int.toNat_natCast, this]; simpa using h2
  · refine ⟨by omega, by omega, fun h => by omega⟩
theorem idx_at {l : List Int} {x : Int} (h : x ∈ l) : (idxM (· == x) l).toNat < l.length ∧ nth l (idxM (· == x) l).toNat = x := by
  have h0 := (idx_mem l x).2 h
  have := idxM_leK l x
  exact ⟨by omega, this.2.2 h0⟩
end
end Go.Proofs.K
end
section
/- Asking a document: order, way, attributes. -/
set_option linter.unusedSimpArgs false
set_option linter.unusedVariables false
namespace Go.Proofs.K
open Go Go.Sim Go.Proofs
variable {G : Glob}
theorem eDoc_drp (d : HDoc) : (eDoc d).drop 2 = [] := rfl
def askE (d : HDoc) (n : Int) : Int := if docE d ≠ 0 then docE d else if ¬ inD d n then 1 else 0
def c110 : SFun := ⟨(.seq (.reg [⟨(some 2), (.boxF 24 2 (.t 0)), none⟩, ⟨(some 4), (.mv (.c (.int .i64 (0)))), none⟩]) (.seq (.reg [⟨(some 6), (.ld 2 true (.t 2)), none⟩, ⟨(some 7), (.pcall 52 [(.t 6)]), none⟩, ⟨(some 5), (.mv (.t 7)), none⟩]) (.seq (.seq (.reg [⟨(some 8), (.mv (.t 5)), none⟩, ⟨(some 9), (.bin .eql (.t 8) (.c (.int .i64 (0)))), none⟩, ⟨(some 10), (.mv (.t 9)), none⟩, ⟨(some 11), (.mv (.t 1)), (some (10, true))⟩, ⟨(some 12), (.bin .lss (.t 11) (.c (.int .i64 (0)))), (some (10, true))⟩, ⟨(some 13), (.mv (.t 12)), (some (10, true))⟩, ⟨(some 14), (.mv (.t 1)), (some (13, false))⟩, ⟨(some 15), (.fldA 0 (.t 2)), (some (13, false))⟩, ⟨(some 16), (.ld 1 false (.t 15)), (some (13, false))⟩, ⟨(some 17), (.len (.t 16)), (some (13, false))⟩, ⟨(some 18), (.bin .geq (.t 14) (.t 17)), (some (13, false))⟩, ⟨(some 19), (.pick (.t 13) (.c (.bool true)) (.t 18)), (some (10, true))⟩, ⟨(some 20), (.pick (.t 10) (.t 19) (.c (.bool false))), none⟩]) (.cond (.t 20) (.reg [⟨(some 5), (.mv (.c (.int .i64 (1)))), none⟩]) .skip)) (.seq (.reg [⟨(some 21), (.mv (.t 5)), none⟩, ⟨(some 4), (.mv (.t 21)), none⟩]) .ret)))), [(.tmp 4)]⟩
theorem hc110 : toSF Tryd.prog {pure := [52]} Tryd.f110 = some c110 := by kernel_rfl
theorem hn110 : (Tryd.f110.name == "runtime.NumGoroutine") = false := by kernel_rfl
theorem ask_ok (d : HDoc) (sm : DocSm d) (n : Int) : PCalls (Pg G) 110 [.agg (eDoc d), aInt n] (aInt (askE d n)) := fun h => by
  have hC := check_ok (G := G) d sm
  have hl := sm.len
  unfold eDoc at hC
  refine dcalls_of_vc Tryd.func110 hn110 hc110 (by rw [Tryd.ntmps110]; simp) (by rw [Tryd.ntmps110]; decide) ?_
  simp -dsimp -implicitDefEqProofs (disch := omega) only [↓vcOps_sp 10, ↓vcD_sp 10, ↓vcOps_sp 13, ↓vcD_sp 13, VCA, pg_gl, ↓upd_none, Nat.reduceEqDiff, Nat.reduceBEq, Nat.reduceAdd, Nat.reduceSub, Nat.reduceMul, Nat.reduceLT, Nat.reduceLeDiff, ↓reduceIte, reduceCtorEq, rsOf, rootsOf, SOp.rd, SI.rd, SX.rd, rdL, rdO, rdP, okParts, eqCells, okEqCells, fillA, okFill, setAt, implies_true, forall_const, forall_eq, ne_eq, exists_eq_right_right, exists_eq_right, exists_eq_left, exists_eq_left', eInt, eBool, lit_eq, c110, eDoc]
  by_cases h1 : docE d = 0
  · have aE : askE d n = if ¬ inD d n then 1 else 0 := by unfold askE; rw [if_neg (by simpa using h1)]
    rw [h1] at hC
    rw [aE]
    have t0 : ((0 : Int) == 0) = true := rfl
    by_cases h2 : n < 0
    · have b2 : decide (n < 0) = true := by simpa using h2
      repeat' (first | ((with_reducible refine Br.dec (fun _ => ?_) (fun _ => ?_)) <;> try (exfalso; omega)) | ((with_reducible refine Br.eq (fun _ => ?_) (fun _ => ?_)) <;> try (exfalso; omega)) | ((with_reducible refine Br.ne (fun _ => ?_) (fun _ => ?_)) <;> try (exfalso; omega)) | ((with_reducible refine brNdec (fun _ => ?_) (fun _ => ?_)) <;> try (exfalso; omega)) | ((with_reducible refine brNeq (fun _ => ?_) (fun _ => ?_)) <;> try (exfalso; omega)) | with_reducible refine Br.intro (fun _ => ?_) (fun _ => ?_) | (with_reducible apply pcallE.of; · exact hC) | (with_reducible refine And.intro ?_ ?_; · omega) | simp -dsimp -implicitDefEqProofs (disch := omega) only [↓vcOps_sp 10, ↓vcD_sp 10, ↓vcOps_sp 13, ↓vcD_sp 13, VCA, pg_gl, ↓upd_none, Nat.reduceEqDiff, Nat.reduceBEq, Nat.reduceAdd, Nat.reduceSub, Nat.reduceMul, Nat.reduceLT, Nat.reduceLeDiff, ↓reduceIte, reduceCtorEq, rsOf, rootsOf, SOp.rd, SI.rd, SX.rd, rdL, rdO, rdP, okParts, eqCells, okEqCells, fillA, okFill, setAt, implies_true, forall_const, forall_eq, ne_eq, exists_eq_right_right, exists_eq_right, exists_eq_left, exists_eq_left', eInt, eBool, lit_eq, eDoc, t0, b2])
      all_goals first | (exfalso; omega) | exact ⟨Sub.refl _, by rw [if_pos (by unfold inD; omega)]⟩ | trace_state
    · have b2 : decide (n < 0) = false := by simpa using h2
      by_cases h3 : n < d.nodes.length
      · have b3 : decide ((d.nodes.length : Int) ≤ n) = false := by simp; omega
        repeat' (first | ((with_reducible refine Br.dec (fun _ => ?_) (fun _ => ?_)) <;> try (exfalso; omega)) | ((with_reducible refine Br.eq (fun _ => ?_) (fun _ => ?_)) <;> try (exfalso; omega)) | ((with_reducible refine Br.ne (fun _ => ?_) (fun _ => ?_)) <;> try (exfalso; omega)) | ((with_reducible refine brNdec (fun _ => ?_) (fun _ => ?_)) <;> try (exfalso; omega)) | ((with_reducible refine brNeq (fun _ => ?_) (fun _ => ?_)) <;> try (exfalso; omega)) | with_reducible refine Br.intro (fun _ => ?_) (fun _ => ?_) | (with_reducible apply pcallE.of; · exact hC) | (with_reducible refine And.intro ?_ ?_; · omega) | simp -dsimp -implicitDefEqProofs (disch := omega) only [↓vcOps_sp 10, ↓vcD_sp 10, ↓vcOps_sp 13, ↓vcD_sp 13, VCA, pg_gl, ↓upd_none, Nat.reduceEqDiff, Nat.reduceBEq, Nat.reduceAdd, Nat.reduceSub, Nat.reduceMul, Nat.reduceLT, Nat.reduceLeDiff, ↓reduceIte, reduceCtorEq, rsOf, rootsOf, SOp.rd, SI.rd, SX.rd, rdL, rdO, rdP, okParts, eqCells, okEqCells, fillA, okFill, setAt, implies_true, forall_const, forall_eq, ne_eq, exists_eq_right_right, exists_eq_right, exists_eq_left, exists_eq_left', eInt, eBool, lit_eq, eDoc, t0, b2, b3])
        all_goals first | (exfalso; omega) | exact ⟨Sub.refl _, by rw [if_neg (by unfold inD; omega)]⟩ | trace_state
      · have b3 : decide ((d.nodes.length : Int) ≤ n) = true := by simp; omega
        repeat' (first | ((with_reducible refine Br.dec (fun _ => ?_) (fun _ => ?_)) <;> try (exfalso; omega)) | ((with_reducible refine Br.eq (fun _ => ?_) (fun _ => ?_)) <;> try (exfalso; omega)) | ((with_reducible refine Br.ne (fun _ => ?_) (fun _ => ?_)) <;> try (exfalso; omega)) | ((with_reducible refine brNdec (fun _ => ?_) (fun _ => ?_)) <;> try (exfalso; omega)) | ((with_reducible refine brNeq (fun _ => ?_) (fun _ => ?_)) <;> try (exfalso; omega)) | with_reducible refine Br.intro (fun _ => ?_) (fun _ => ?_) | (with_reducible apply pcallE.of; · exact hC) | (with_reducible refine And.intro ?_ ?_; · omega) | simp -dsimp -implicitDefEqProofs (disch := omega) only [↓vcOps_sp 10, ↓vcD_sp 10, ↓vcOps_sp 13, ↓vcD_sp 13, VCA, pg_gl, ↓upd_none, Nat.reduceEqDiff, Nat.reduceBEq, Nat.reduceAdd, Nat.reduceSub, Nat.reduceMul, Nat.reduceLT, Nat.reduceLeDiff, ↓reduceIte, reduceCtorEq, rsOf, rootsOf, SOp.rd, SI.rd, SX.rd, rdL, rdO, rdP, okParts, eqCells, okEqCells, fillA, okFill, setAt, implies_true, forall_const, forall_eq, ne_eq, exists_eq_right_right, exists_eq_right, exists_eq_left, exists_eq_left', eInt, eBool, lit_eq, eDoc, t0, b2, b3])
        all_goals first | (exfalso; omega) | exact ⟨Sub.refl _, by rw [if_pos (by unfold inD; omega)]⟩ | trace_state
  · have aE : askE d n = docE d := by unfold askE; rw [if_pos h1]
    have t0 : (docE d == 0) = false := by simpa using h1
    rw [aE]
    repeat' (first | ((with_reducible refine Br.dec (fun _ => ?_) (fun _ => ?_)) <;> try (exfalso; omega)) | ((with_reducible refine Br.eq (fun _ => ?_) (fun _ => ?_)) <;> try (exfalso; omega)) | ((with_reducible refine Br.ne (fun _ => ?_) (fun _ => ?_)) <;> try (exfalso; omega)) | ((with_reducible refine brNdec (fun _ => ?_) (fun _ => ?_)) <;> try (exfalso; omega)) | ((with_reducible refine brNeq (fun _ => ?_) (fun _ => ?_)) <;> try (exfalso; omega)) | with_reducible refine Br.intro (fun _ => ?_) (fun _ => ?_) | (with_reducible apply pcallE.of; · exact hC) | (with_reducible refine And.intro ?_ ?_; · omega) | simp -dsimp -implicitDefEqProofs (disch := omega) only [↓vcOps_sp 10, ↓vcD_sp 10, ↓vcOps_sp 13, ↓vcD_sp 13, VCA, pg_gl, ↓upd_none, Nat.reduceEqDiff, Nat.reduceBEq, Nat.reduceAdd, Nat.reduceSub, Nat.reduceMul, Nat.reduceLT, Nat.reduceLeDiff, ↓reduceIte, reduceCtorEq, rsOf, rootsOf, SOp.rd, SI.rd, SX.rd, rdL, rdO, rdP, okParts, eqCells, okEqCells, fillA, okFill, setAt, implies_true, forall_const, forall_eq, ne_eq, exists_eq_right_right, exists_eq_right, exists_eq_left, exists_eq_left', eInt, eBool, lit_eq, eDoc, t0, h1])
    all_goals first | exact Sub.refl _ | trace_state
theorem askE_zero {d : HDoc} {n : Int} (h : askE d n = 0) : docE d = 0 ∧ inD d n := by
  unfold askE at h
  split at h
  · contradiction
  · rename_i h1
    split at h
    · omega
    · rename_i h2; exact ⟨Classical.not_not.1 h1, Classical.not_not.1 h2⟩
def orderD (d : HDoc) : List Int := if docE d = 0 then below d 0 else []
theorem order2_ok (d : HDoc) (sm : DocSm d) : PCalls (Pg G) 59 [.agg (eDoc d)] (.tup [sl eInt (orderD d), aInt (docE d)]) := by
  by_cases h1 : docE d = 0
  · have h := domOrder_ok (G := G) d (docE_DV h1) h1 sm
    unfold orderD
    rw [if_pos h1, h1]
    exact h
  · intro h
    have hC := check_ok (G := G) d sm
    refine DCalls.res (K := fun a h' => a = .tup [.emp, aInt (docE d)] ∧ h' = h) ?_ ?_
    · refine dcalls_of_vc Tryd.func59 hn59 hc59 (by rw [Tryd.ntmps59]; simp) (by rw [Tryd.ntmps59]; decide) ?_
      simp -dsimp -implicitDefEqProofs (disch := omega) only [VCA, pg_gl, ↓upd_none, Nat.reduceEqDiff, Nat.reduceBEq, Nat.reduceAdd, Nat.reduceSub, Nat.reduceMul, Nat.reduceLT, Nat.reduceLeDiff, ↓reduceIte, reduceCtorEq, rsOf, rootsOf, SOp.rd, SI.rd, SX.rd, rdL, rdO, rdP, okParts, eqCells, okEqCells, fillA, okFill, setAt, implies_true, forall_const, forall_eq, ne_eq, exists_eq_right_right, exists_eq_right, exists_eq_left, exists_eq_left', eInt, eBool, lit_eq, c59, eDoc_len, eDoc_take]
      repeat' (first | ((with_reducible refine Br.dec (fun _ => ?_) (fun _ => ?_)) <;> try (exfalso; omega)) | ((with_reducible refine Br.eq (fun _ => ?_) (fun _ => ?_)) <;> try (exfalso; omega)) | ((with_reducible refine Br.ne (fun _ => ?_) (fun _ => ?_)) <;> try (exfalso; omega)) | ((with_reducible refine brNdec (fun _ => ?_) (fun _ => ?_)) <;> try (exfalso; omega)) | ((with_reducible refine brNeq (fun _ => ?_) (fun _ => ?_)) <;> try (exfalso; omega)) | with_reducible refine Br.intro (fun _ => ?_) (fun _ => ?_) | (with_reducible apply pcallE.of; · exact hC) | (with_reducible refine And.intro ?_ ?_; · omega) | simp -dsimp -implicitDefEqProofs (disch := omega) only [VCA, pg_gl, ↓upd_none, Nat.reduceEqDiff, Nat.reduceBEq, Nat.reduceAdd, Nat.reduceSub, Nat.reduceMul, Nat.reduceLT, Nat.reduceLeDiff, ↓reduceIte, reduceCtorEq, rsOf, rootsOf, SOp.rd, SI.rd, SX.rd, rdL, rdO, rdP, okParts, eqCells, okEqCells, fillA, okFill, setAt, implies_true, forall_const, forall_eq, ne_eq, exists_eq_right_right, exists_eq_right, exists_eq_left, exists_eq_left', eInt, eBool, lit_eq, eDoc_len, eDoc_take, h1])
      all_goals exact Sub.refl _
    · rintro a h' ⟨rfl, rfl⟩
      exact ⟨_, Wk.tup' (.cons (by unfold orderD; rw [if_neg h1]; exact .emp) (.cons (.refl _) .nil)), rfl, rfl⟩
def attrV (d : HDoc) (n : Int) (name : List UInt8) : List UInt8 × Bool × Int := if askE d n ≠ 0 then ([], false, askE d n) else if (nd d n).kind ≠ 2 then ([], false, 7) else ((attrOfM (nd d n).attrs name).1, (attrOfM (nd d n).attrs name).2, 0)
def c61 : SFun := ⟨(.seq (.reg [⟨(some 3), (.boxF 24 2 (.t 0)), none⟩, ⟨(some 6), (.mv (.c (.str []))), none⟩, ⟨(some 7), (.mv (.c (.bool false))), none⟩, ⟨(some 8), (.mv (.c (.int .i64 (0)))), none⟩]) (.seq (.reg [⟨(some 11), (.ld 2 true (.t 3)), none⟩, ⟨(some 12), (.mv (.t 1)), none⟩, ⟨(some 13), (.pcall 110 [(.t 11), (.t 12)]), none⟩, ⟨(some 9), (.mv (.t 13)), none⟩]) (.seq (.seq (.reg [⟨(some 14), (.mv (.t 9)), none⟩, ⟨(some 15), (.bin .eql (.t 14) (.c (.int .i64 (0)))), none⟩, ⟨(some 16), (.mv (.t 15)), none⟩, ⟨(some 17), (.fldA 0 (.t 3)), (some (16, true))⟩, ⟨(some 18), (.ld 1 false (.t 17)), (some (16, true))⟩, ⟨(some 19), (.mv (.t 1)), (some (16, true))⟩, ⟨(some 20), (.idxA 6 (.t 18) (.t 19)), (some (16, true))⟩, ⟨(some 21), (.fldA 0 (.t 20)), (some (16, true))⟩, ⟨(some 22), (.ld 1 false (.t 21)), (some (16, true))⟩, ⟨(some 23), (.bin .neq (.t 22) (.c (.int .i64 (2)))), (some (16, true))⟩, ⟨(some 24), (.pick (.t 16) (.t 23) (.c (.bool false))), none⟩]) (.cond (.t 24) (.reg [⟨(some 9), (.mv (.c (.int .i64 (7)))), none⟩]) .skip)) (.seq (.seq (.reg [⟨(some 25), (.mv (.t 9)), none⟩, ⟨(some 26), (.bin .neq (.t 25) (.c (.int .i64 (0)))), none⟩]) (.cond (.t 26) (.seq (.reg [⟨(some 27), (.mv (.t 9)), none⟩, ⟨(some 6), (.mv (.c (.str []))), none⟩, ⟨(some 7), (.mv (.c (.bool false))), none⟩, ⟨(some 8), (.mv (.t 27)), none⟩]) .ret) .skip)) (.seq (.reg [⟨(some 28), (.fldA 0 (.t 3)), none⟩, ⟨(some 29), (.ld 1 false (.t 28)), none⟩, ⟨(some 30), (.mv (.t 1)), none⟩, ⟨(some 31), (.idxA 6 (.t 29) (.t 30)), none⟩, ⟨(some 32), (.fldA 2 (.t 31)), none⟩, ⟨(some 33), (.ld 1 false (.t 32)), none⟩, ⟨(some 34), (.mv (.t 2)), none⟩, ⟨(some 35), (.pcall 112 [(.t 33), (.t 34)]), none⟩, ⟨(some 10), (.mv (.t 35)), none⟩]) (.seq (.seq (.reg [⟨(some 36), (.mv (.t 10)), none⟩, ⟨(some 37), (.bin .lss (.t 36) (.c (.int .i64 (0)))), none⟩]) (.cond (.t 37) (.seq (.reg [⟨(some 6), (.mv (.c (.str []))), none⟩, ⟨(some 7), (.mv (.c (.bool false))), none⟩, ⟨(some 8), (.mv (.c (.int .i64 (0)))), none⟩]) .ret) .skip)) (.seq (.reg [⟨(some 38), (.fldA 0 (.t 3)), none⟩, ⟨(some 39), (.ld 1 false (.t 38)), none⟩, ⟨(some 40), (.mv (.t 1)), none⟩, ⟨(some 41), (.idxA 6 (.t 39) (.t 40)), none⟩, ⟨(some 42), (.fldA 2 (.t 41)), none⟩, ⟨(some 43), (.ld 1 false (.t 42)), none⟩, ⟨(some 44), (.mv (.t 10)), none⟩, ⟨(some 45), (.idxA 2 (.t 43) (.t 44)), none⟩, ⟨(some 46), (.fldA 1 (.t 45)), none⟩, ⟨(some 47), (.ld 1 false (.t 46)), none⟩, ⟨(some 6), (.mv (.t 47)), none⟩, ⟨(some 7), (.mv (.c (.bool true))), none⟩, ⟨(some 8), (.mv (.c (.int .i64 (0)))), none⟩]) .ret))))))), [(.tmp 6), (.tmp 7), (.tmp 8)]⟩
theorem hc61 : toSF Tryd.prog {pure := [110, 112]} Tryd.f61 = some c61 := by kernel_rfl
theorem hn61 : (Tryd.f61.name == "runtime.NumGoroutine") = false := by kernel_rfl
theorem attr2_ok (d : HDoc) (sm : DocSm d) (n : Int) (name : List UInt8) : PCalls (Pg G) 61 [.agg (eDoc d), aInt n, .str name] (.tup [.str (attrV d n name).1, .bool (attrV d n name).2.1, aInt (attrV d n name).2.2]) := fun h => by
  have hC := ask_ok (G := G) d sm n
  have hl := sm.len
  have hF := find_ok (G := G) (nd d n).attrs name (sm.nd n).attrs
  have fl := attrAt_spec (nd d n).attrs name
  have e0 : nth d.nodes n.toNat = nd d n := rfl
  refine dcalls_of_vc Tryd.func61 hn61 hc61 (by rw [Tryd.ntmps61]; simp) (by rw [Tryd.ntmps61]; decide) ?_
  simp -dsimp -implicitDefEqProofs (disch := omega) only [↓vcOps_sp 16, ↓vcD_sp 16, VCA, pg_gl, ↓upd_none, Nat.reduceEqDiff, Nat.reduceBEq, Nat.reduceAdd, Nat.reduceSub, Nat.reduceMul, Nat.reduceLT, Nat.reduceLeDiff, ↓reduceIte, reduceCtorEq, rsOf, rootsOf, SOp.rd, SI.rd, SX.rd, rdL, rdO, rdP, okParts, eqCells, okEqCells, fillA, okFill, setAt, implies_true, forall_const, forall_eq, ne_eq, exists_eq_right_right, exists_eq_right, exists_eq_left, exists_eq_left', eInt, eBool, lit_eq, c61, eDoc_len, eDoc_take, eDoc_drp, List.append_nil]
  by_cases h1 : askE d n = 0
  · obtain ⟨hd, hn⟩ := askE_zero h1
    have n0 := hn.1
    have n1 := hn.2
    rw [h1] at hC
    have t0 : ((0 : Int) == 0) = true := rfl
    by_cases h2 : (nd d n).kind = 2
    · have aV : attrV d n name = ((attrOfM (nd d n).attrs name).1, (attrOfM (nd d n).attrs name).2, 0) := by unfold attrV; rw [if_neg (by simpa using h1), if_neg (by simpa using h2)]
      rw [aV]
      unfold attrOfM
      unfold attrAt at *
      repeat' (first | ((with_reducible refine Br.dec (fun _ => ?_) (fun _ => ?_)) <;> try (exfalso; omega)) | ((with_reducible refine Br.eq (fun _ => ?_) (fun _ => ?_)) <;> try (exfalso; omega)) | ((with_reducible refine Br.ne (fun _ => ?_) (fun _ => ?_)) <;> try (exfalso; omega)) | ((with_reducible refine brNdec (fun _ => ?_) (fun _ => ?_)) <;> try (exfalso; omega)) | ((with_reducible refine brNeq (fun _ => ?_) (fun _ => ?_)) <;> try (exfalso; omega)) | with_reducible refine Br.intro (fun _ => ?_) (fun _ => ?_) | (with_reducible apply pcallE.of; · exact hC) | (with_reducible apply pcallE.of; · exact hF) | (with_reducible refine And.intro ?_ ?_; · omega) | simp -dsimp -implicitDefEqProofs (disch := omega) only [↓vcOps_sp 16, ↓vcD_sp 16, VCA, pg_gl, ↓upd_none, Nat.reduceEqDiff, Nat.reduceBEq, Nat.reduceAdd, Nat.reduceSub, Nat.reduceMul, Nat.reduceLT, Nat.reduceLeDiff, ↓reduceIte, reduceCtorEq, rsOf, rootsOf, SOp.rd, SI.rd, SX.rd, rdL, rdO, rdP, okParts, eqCells, okEqCells, fillA, okFill, setAt, implies_true, forall_const, forall_eq, ne_eq, exists_eq_right_right, exists_eq_right, exists_eq_left, exists_eq_left', eInt, eBool, lit_eq, eDoc_len, eDoc_take, eDoc_drp, List.append_nil, eDoc, eNode, eAttr, e0, t0, h2])
      all_goals first | (rename_i q; exact ⟨Sub.refl _, by rw [if_neg (by omega)]⟩) | (rename_i q; exact ⟨Sub.refl _, by rw [if_pos (by omega)]⟩) | trace_state
    · have aV : attrV d n name = ([], false, 7) := by unfold attrV; rw [if_neg (by simpa using h1), if_pos h2]
      rw [aV]
      repeat' (first | ((with_reducible refine Br.dec (fun _ => ?_) (fun _ => ?_)) <;> try (exfalso; omega)) | ((with_reducible refine Br.eq (fun _ => ?_) (fun _ => ?_)) <;> try (exfalso; omega)) | ((with_reducible refine Br.ne (fun _ => ?_) (fun _ => ?_)) <;> try (exfalso; omega)) | ((with_reducible refine brNdec (fun _ => ?_) (fun _ => ?_)) <;> try (exfalso; omega)) | ((with_reducible refine brNeq (fun _ => ?_) (fun _ => ?_)) <;> try (exfalso; omega)) | with_reducible refine Br.intro (fun _ => ?_) (fun _ => ?_) | (with_reducible apply pcallE.of; · exact hC) | (with_reducible refine And.intro ?_ ?_; · omega) | simp -dsimp -implicitDefEqProofs (disch := omega) only [↓vcOps_sp 16, ↓vcD_sp 16, VCA, pg_gl, ↓upd_none, Nat.reduceEqDiff, Nat.reduceBEq, Nat.reduceAdd, Nat.reduceSub, Nat.reduceMul, Nat.reduceLT, Nat.reduceLeDiff, ↓reduceIte, reduceCtorEq, rsOf, rootsOf, SOp.rd, SI.rd, SX.rd, rdL, rdO, rdP, okParts, eqCells, okEqCells, fillA, okFill, setAt, implies_true, forall_const, forall_eq, ne_eq, exists_eq_right_right, exists_eq_right, exists_eq_left, exists_eq_left', eInt, eBool, lit_eq, eDoc, eNode, e0, t0, h2])
      all_goals first | exact Sub.refl _ | trace_state
  · have aV : attrV d n name = ([], false, askE d n) := by unfold attrV; rw [if_pos h1]
    have t0 : (askE d n == 0) = false := by simpa using h1
    rw [aV]
    repeat' (first | ((with_reducible refine Br.dec (fun _ => ?_) (fun _ => ?_)) <;> try (exfalso; omega)) | ((with_reducible refine Br.eq (fun _ => ?_) (fun _ => ?_)) <;> try (exfalso; omega)) | ((with_reducible refine Br.ne (fun _ => ?_) (fun _ => ?_)) <;> try (exfalso; omega)) | ((with_reducible refine brNdec (fun _ => ?_) (fun _ => ?_)) <;> try (exfalso; omega)) | ((with_reducible refine brNeq (fun _ => ?_) (fun _ => ?_)) <;> try (exfalso; omega)) | with_reducible refine Br.intro (fun _ => ?_) (fun _ => ?_) | (with_reducible apply pcallE.of; · exact hC) | (with_reducible refine And.intro ?_ ?_; · omega) | simp -dsimp -implicitDefEqProofs (disch := omega) only [↓vcOps_sp 16, ↓vcD_sp 16, VCA, pg_gl, ↓upd_none, Nat.reduceEqDiff, Nat.reduceBEq, Nat.reduceAdd, Nat.reduceSub, Nat.reduceMul, Nat.reduceLT, Nat.reduceLeDiff, ↓reduceIte, reduceCtorEq, rsOf, rootsOf, SOp.rd, SI.rd, SX.rd, rdL, rdO, rdP, okParts, eqCells, okEqCells, fillA, okFill, setAt, implies_true, forall_const, forall_eq, ne_eq, exists_eq_right_right, exists_eq_right, exists_eq_left, exists_eq_left', eInt, eBool, lit_eq, eDoc_len, eDoc_take, eDoc_drp, List.append_nil, t0, h1])
    all_goals first | exact Sub.refl _ | trace_state
def pathV (d : HDoc) (n : Int) : List Int × Int := if askE d n ≠ 0 then ([], askE d n) else if 0 ∈ chain d n then (path d n, 0) else ([], 5)
def c60 : SFun := ⟨(.seq (.reg [⟨(some 2), (.boxF 24 2 (.t 0)), none⟩, ⟨(some 4), (.mv (.c .emp)), none⟩, ⟨(some 5), (.mv (.c (.int .i64 (0)))), none⟩]) (.seq (.seq (.reg [⟨(some 8), (.ld 2 true (.t 2)), none⟩, ⟨(some 9), (.mv (.t 1)), none⟩, ⟨(some 10), (.pcall 110 [(.t 8), (.t 9)]), none⟩, ⟨(some 6), (.mv (.t 10)), none⟩]) (.seq (.reg [⟨(some 11), (.mv (.t 6)), none⟩, ⟨(some 12), (.bin .neq (.t 11) (.c (.int .i64 (0)))), none⟩]) (.cond (.t 12) (.seq (.reg [⟨(some 13), (.mv (.t 6)), none⟩, ⟨(some 4), (.mv (.c .emp)), none⟩, ⟨(some 5), (.mv (.t 13)), none⟩]) .ret) .skip))) (.seq (.reg [⟨(some 7), (.mv (.c .emp)), none⟩]) (.seq (.block 0 (.loop (.seq (.seq (.reg [⟨(some 14), (.mv (.t 1)), none⟩, ⟨(some 15), (.bin .geq (.t 14) (.c (.int .i64 (0)))), none⟩]) (.cond (.t 15) .skip (.exit 0))) (.seq (.block 1 (.reg [⟨(some 22), (.mv (.t 7)), none⟩, ⟨(some 23), (.mv (.t 1)), none⟩, ⟨(some 24), (.bldF 3 1 [(.t 23)]), none⟩, ⟨(some 25), (.app 3 1 8 (.t 22) (.t 24)), none⟩, ⟨(some 7), (.mv (.t 25)), none⟩])) (.reg [⟨(some 16), (.fldA 0 (.t 2)), none⟩, ⟨(some 17), (.ld 1 false (.t 16)), none⟩, ⟨(some 18), (.mv (.t 1)), none⟩, ⟨(some 19), (.idxA 6 (.t 17) (.t 18)), none⟩, ⟨(some 20), (.fldA 4 (.t 19)), none⟩, ⟨(some 21), (.ld 1 false (.t 20)), none⟩, ⟨(some 1), (.mv (.t 21)), none⟩]))))) (.seq (.seq (.reg [⟨(some 26), (.mv (.t 7)), none⟩, ⟨(some 27), (.mv (.t 7)), none⟩, ⟨(some 28), (.len (.t 27)), none⟩, ⟨(some 29), (.bin .sub (.t 28) (.c (.int .i64 (1)))), none⟩, ⟨(some 30), (.idxA 1 (.t 26) (.t 29)), none⟩, ⟨(some 31), (.ld 1 false (.t 30)), none⟩, ⟨(some 32), (.bin .neq (.t 31) (.c (.int .i64 (0)))), none⟩]) (.cond (.t 32) (.seq (.reg [⟨(some 4), (.mv (.c .emp)), none⟩, ⟨(some 5), (.mv (.c (.int .i64 (5)))), none⟩]) .ret) .skip)) (.seq (.reg [⟨(some 33), (.mv (.t 7)), none⟩, ⟨(some 34), (.call (.c (.fn 111 [] [])) [(.t 33)]), none⟩]) (.seq (.reg [⟨(some 35), (.mv (.t 7)), none⟩, ⟨(some 4), (.mv (.t 35)), none⟩, ⟨(some 5), (.mv (.c (.int .i64 (0)))), none⟩]) .ret))))))), [(.tmp 4), (.tmp 5)]⟩
theorem hc60 : toSF Tryd.prog {pure := [110]} Tryd.f60 = some c60 := by kernel_rfl
theorem hn60 : (Tryd.f60.name == "runtime.NumGoroutine") = false := by kernel_rfl
theorem path2_ok (d : HDoc) (sm : DocSm d) (n : Int) : PCalls (Pg G) 60 [.agg (eDoc d), aInt n] (.tup [sl eInt (pathV d n).1, aInt (pathV d n).2]) := PCalls.accT (ty := 3) (sz := 1) fun h => by
  have hC := ask_ok (G := G) d sm n
  have hl := sm.len
  unfold eDoc at hC
  by_cases h1' : askE d n = 0
  · obtain ⟨hd, hn⟩ := askE_zero h1'
    have V := docE_DV hd
    have vl := V.len
    have cl := chain_len V n hn
    have cd := V.deep n hn
    rw [h1'] at hC
    refine dcalls_of_vc Tryd.func60 hn60 hc60 (by rw [Tryd.ntmps60]; simp) (by rw [Tryd.ntmps60]; decide) ?_
    simp -dsimp -implicitDefEqProofs (disch := omega) only [VCA, pg_gl, ↓upd_none, Nat.reduceEqDiff, Nat.reduceBEq, Nat.reduceAdd, Nat.reduceSub, Nat.reduceMul, Nat.reduceLT, Nat.reduceLeDiff, ↓reduceIte, reduceCtorEq, rsOf, rootsOf, SOp.rd, SI.rd, SX.rd, rdL, rdO, rdP, okParts, eqCells, okEqCells, fillA, okFill, setAt, implies_true, forall_const, forall_eq, ne_eq, exists_eq_right_right, exists_eq_right, exists_eq_left, exists_eq_left', eInt, eBool, lit_eq, c60, eDoc]
    repeat' (first | ((with_reducible refine Br.dec (fun _ => ?_) (fun _ => ?_)) <;> try (exfalso; omega)) | ((with_reducible refine Br.eq (fun _ => ?_) (fun _ => ?_)) <;> try (exfalso; omega)) | ((with_reducible refine Br.ne (fun _ => ?_) (fun _ => ?_)) <;> try (exfalso; omega)) | ((with_reducible refine brNdec (fun _ => ?_) (fun _ => ?_)) <;> try (exfalso; omega)) | ((with_reducible refine brNeq (fun _ => ?_) (fun _ => ?_)) <;> try (exfalso; omega)) | with_reducible refine Br.intro (fun _ => ?_) (fun _ => ?_) | (with_reducible apply pcallE.of; · exact hC) | (with_reducible refine And.intro ?_ ?_; · omega) | simp -dsimp -implicitDefEqProofs (disch := omega) only [VCA, pg_gl, ↓upd_none, Nat.reduceEqDiff, Nat.reduceBEq, Nat.reduceAdd, Nat.reduceSub, Nat.reduceMul, Nat.reduceLT, Nat.reduceLeDiff, ↓reduceIte, reduceCtorEq, rsOf, rootsOf, SOp.rd, SI.rd, SX.rd, rdL, rdO, rdP, okParts, eqCells, okEqCells, fillA, okFill, setAt, implies_true, forall_const, forall_eq, ne_eq, exists_eq_right_right, exists_eq_right, exists_eq_left, exists_eq_left', eInt, eBool, lit_eq, eDoc])
    refine LoopVC.intro (fun m e h' => ∃ (c : Int) (L : List Int), m = mW d c ∧ (c = -1 ∨ inD d c) ∧ e 2 = .pin (eDoc d) ∧ e 1 = aInt c ∧ Acc h 3 1 (L.map eInt) (e 7) h' ∧ Sim.Sub h h' ∧ L.length ≤ 41 ∧ (c = -1 → L = chain d n) ∧ (inD d c → L ++ chain d c = chain d n)) _ ⟨n, [], rfl, .inr hn, rfl, rfl, .nil, Sub.refl _, by simp, fun e => by have := hn.1; omega, fun _ => rfl⟩ ?_
    rintro m e h' ⟨c, L, rfl, hc, he2, he1, A, S, hL, hno, hyes⟩
    simp -dsimp -implicitDefEqProofs (disch := omega) only [VCA, pg_gl, ↓upd_none, Nat.reduceEqDiff, Nat.reduceBEq, Nat.reduceAdd, Nat.reduceSub, Nat.reduceMul, Nat.reduceLT, Nat.reduceLeDiff, ↓reduceIte, reduceCtorEq, rsOf, rootsOf, SOp.rd, SI.rd, SX.rd, rdL, rdO, rdP, okParts, eqCells, okEqCells, fillA, okFill, setAt, implies_true, forall_const, forall_eq, ne_eq, exists_eq_right_right, exists_eq_right, exists_eq_left, exists_eq_left', eInt, eBool, lit_eq, he2, he1]
    refine Br.dec (fun h1 => ?_) (fun h1 => ?_)
    · have hc : inD d c := hc.resolve_left (by omega)
      have c0 := hc.1
      have c1 := hc.2
      have hp := mW_par V hc
      have e0 : nth d.nodes c.toNat = nd d c := rfl
      have hy := hyes hc
      have hyl : L.length + (chain d c).length = (chain d n).length := by rw [← hy, List.length_append]
      simp -dsimp -implicitDefEqProofs (disch := omega) only [VCA, pg_gl, ↓upd_none, Nat.reduceEqDiff, Nat.reduceBEq, Nat.reduceAdd, Nat.reduceSub, Nat.reduceMul, Nat.reduceLT, Nat.reduceLeDiff, ↓reduceIte, reduceCtorEq, rsOf, rootsOf, SOp.rd, SI.rd, SX.rd, rdL, rdO, rdP, okParts, eqCells, okEqCells, fillA, okFill, setAt, implies_true, forall_const, forall_eq, ne_eq, exists_eq_right_right, exists_eq_right, exists_eq_left, exists_eq_left', eInt, eBool, lit_eq, he2, he1, eDoc]
      refine A.app S (by simp only [List.length_map, List.length_cons, List.length_nil]; omega) (by simp only [List.length_map, List.length_cons, List.length_nil]; omega) fun a' h'' A' S' => ?_
      simp -dsimp -implicitDefEqProofs (disch := omega) only [VCA, pg_gl, ↓upd_none, Nat.reduceEqDiff, Nat.reduceBEq, Nat.reduceAdd, Nat.reduceSub, Nat.reduceMul, Nat.reduceLT, Nat.reduceLeDiff, ↓reduceIte, reduceCtorEq, rsOf, rootsOf, SOp.rd, SI.rd, SX.rd, rdL, rdO, rdP, okParts, eqCells, okEqCells, fillA, okFill, setAt, implies_true, forall_const, forall_eq, ne_eq, exists_eq_right_right, exists_eq_right, exists_eq_left, exists_eq_left', eInt, eBool, lit_eq, he2, he1, eDoc, eNode]
      rw [e0]
      refine ⟨by omega, _, hp.1, (nd d c).parent, L ++ [c], rfl, hp.2, rfl, by simpa [eInt] using A', S', ?_, ?_, ?_⟩
      · have := chain_len V c hc; simp; omega
      · intro hq; rw [← hy, chain_top V (by omega)]
      · intro hq; rw [← hy, chain_up V hc hq.1]; simp
    · obtain rfl : c = -1 := hc.resolve_right (fun h => by have := h.1; omega)
      obtain rfl := hno rfl
      obtain ⟨r, h0, hr, he⟩ := A.pos (by rw [List.length_map]; omega)
      rw [List.length_map] at he
      have hg : ((chain d n).map eInt).getD (up d n) [] = [aInt (nth (chain d n) (up d n))] := getD_map_enc (by omega)
      have z0 := chain_rev0 V n hn
      rw [show nth (chain d n).reverse 0 = nth (chain d n) (up d n) by
        unfold nth
        rw [List.getD_eq_getElem?_getD, List.getD_eq_getElem?_getD, List.getElem?_reverse (by omega)]
        congr 2; omega] at z0
      simp -dsimp -implicitDefEqProofs (disch := omega) only [VCA, pg_gl, ↓upd_none, Nat.reduceEqDiff, Nat.reduceBEq, Nat.reduceAdd, Nat.reduceSub, Nat.reduceMul, Nat.reduceLT, Nat.reduceLeDiff, ↓reduceIte, reduceCtorEq, rsOf, rootsOf, SOp.rd, SI.rd, SX.rd, rdL, rdO, rdP, okParts, eqCells, okEqCells, fillA, okFill, setAt, implies_true, forall_const, forall_eq, ne_eq, exists_eq_right_right, exists_eq_right, exists_eq_left, exists_eq_left', eInt, eBool, lit_eq, he, cl, hr, hg]
      refine ⟨by omega, by omega, Br.ne (fun hz => ?_) (fun hz => ?_)⟩
      · have aV : pathV d n = ([], 5) := by unfold pathV; rw [if_neg (by simpa using h1'), if_neg (fun hh => hz (z0.2 hh))]
        rw [aV]
        simp -dsimp -implicitDefEqProofs (disch := omega) only [VCA, pg_gl, ↓upd_none, Nat.reduceEqDiff, Nat.reduceBEq, Nat.reduceAdd, Nat.reduceSub, Nat.reduceMul, Nat.reduceLT, Nat.reduceLeDiff, ↓reduceIte, reduceCtorEq, rsOf, rootsOf, SOp.rd, SI.rd, SX.rd, rdL, rdO, rdP, okParts, eqCells, okEqCells, fillA, okFill, setAt, implies_true, forall_const, forall_eq, ne_eq, exists_eq_right_right, exists_eq_right, exists_eq_left, exists_eq_left', eInt, eBool, lit_eq, he, cl, hr, hg]
        exact ⟨_, S, _, rfl, .nil, Sub.refl _⟩
      · have aV : pathV d n = (path d n, 0) := by unfold pathV; rw [if_neg (by simpa using h1'), if_pos (z0.1 hz)]
        rw [aV]
        simp -dsimp -implicitDefEqProofs (disch := omega) only [VCA, pg_gl, ↓upd_none, Nat.reduceEqDiff, Nat.reduceBEq, Nat.reduceAdd, Nat.reduceSub, Nat.reduceMul, Nat.reduceLT, Nat.reduceLeDiff, ↓reduceIte, reduceCtorEq, rsOf, rootsOf, SOp.rd, SI.rd, SX.rd, rdL, rdO, rdP, okParts, eqCells, okEqCells, fillA, okFill, setAt, implies_true, forall_const, forall_eq, ne_eq, exists_eq_right_right, exists_eq_right, exists_eq_left, exists_eq_left', eInt, eBool, lit_eq, he, cl, hr, hg]
        rw [← cl]
        refine DCalls.of (reverseI_ok (chain d n) hr (by omega)) ?_
        rintro a h'' ⟨rfl, rfl⟩
        simp -dsimp -implicitDefEqProofs (disch := omega) only [VCA, pg_gl, ↓upd_none, Nat.reduceEqDiff, Nat.reduceBEq, Nat.reduceAdd, Nat.reduceSub, Nat.reduceMul, Nat.reduceLT, Nat.reduceLeDiff, ↓reduceIte, reduceCtorEq, rsOf, rootsOf, SOp.rd, SI.rd, SX.rd, rdL, rdO, rdP, okParts, eqCells, okEqCells, fillA, okFill, setAt, implies_true, forall_const, forall_eq, ne_eq, exists_eq_right_right, exists_eq_right, exists_eq_left, exists_eq_left', eInt, eBool, lit_eq, he]
        have hlr : ((chain d n).reverse.map eInt).length = (chain d n).length := by simp
        have := Acc.root (h := h) (h' := upd h' r (some ⟨3, 1, (chain d n).reverse.map eInt⟩)) h0 (upd_same _ _ _)
        rw [hlr] at this
        exact ⟨_, Sub.refl _, _, rfl, this, S.upd h0⟩
  · have h1 := h1'
    have aV : pathV d n = ([], askE d n) := by unfold pathV; rw [if_pos h1]
    rw [aV]
    refine dcalls_of_vc Tryd.func60 hn60 hc60 (by rw [Tryd.ntmps60]; simp) (by rw [Tryd.ntmps60]; decide) ?_
    simp -dsimp -implicitDefEqProofs (disch := omega) only [VCA, pg_gl, ↓upd_none, Nat.reduceEqDiff, Nat.reduceBEq, Nat.reduceAdd, Nat.reduceSub, Nat.reduceMul, Nat.reduceLT, Nat.reduceLeDiff, ↓reduceIte, reduceCtorEq, rsOf, rootsOf, SOp.rd, SI.rd, SX.rd, rdL, rdO, rdP, okParts, eqCells, okEqCells, fillA, okFill, setAt, implies_true, forall_const, forall_eq, ne_eq, exists_eq_right_right, exists_eq_right, exists_eq_left, exists_eq_left', eInt, eBool, lit_eq, c60, eDoc]
    repeat' (first | ((with_reducible refine Br.dec (fun _ => ?_) (fun _ => ?_)) <;> try (exfalso; omega)) | ((with_reducible refine Br.eq (fun _ => ?_) (fun _ => ?_)) <;> try (exfalso; omega)) | ((with_reducible refine Br.ne (fun _ => ?_) (fun _ => ?_)) <;> try (exfalso; omega)) | ((with_reducible refine brNdec (fun _ => ?_) (fun _ => ?_)) <;> try (exfalso; omega)) | ((with_reducible refine brNeq (fun _ => ?_) (fun _ => ?_)) <;> try (exfalso; omega)) | with_reducible refine Br.intro (fun _ => ?_) (fun _ => ?_) | (with_reducible apply pcallE.of; · exact hC) | (with_reducible refine And.intro ?_ ?_; · omega) | simp -dsimp -implicitDefEqProofs (disch := omega) only [VCA, pg_gl, ↓upd_none, Nat.reduceEqDiff, Nat.reduceBEq, Nat.reduceAdd, Nat.reduceSub, Nat.reduceMul, Nat.reduceLT, Nat.reduceLeDiff, ↓reduceIte, reduceCtorEq, rsOf, rootsOf, SOp.rd, SI.rd, SX.rd, rdL, rdO, rdP, okParts, eqCells, okEqCells, fillA, okFill, setAt, implies_true, forall_const, forall_eq, ne_eq, exists_eq_right_right, exists_eq_right, exists_eq_left, exists_eq_left', eInt, eBool, lit_eq, eDoc, h1])
    exact ⟨_, Sub.refl _, _, rfl, .nil, Sub.refl _⟩
/-! ## text -/
/-- the letters of texts among nodes -/
def lettersM (d : HDoc) (l : List Int) : List UInt8 := l.flatMap fun k => if (nd d k).kind = 3 then (nd d k).text else []
def textUM (d : HDoc) (n : Int) : List UInt8 := if (nd d n).kind = 3 ∨ (nd d n).kind = 4 then (nd d n).text else lettersM d (below d n)
theorem letters_len {d : HDoc} (V : DV d) : ∀ l : List Int, (∀ k ∈ l, inD d k) → (lettersM d l).length ≤ 400 * l.length
  | [], _ => by simp [lettersM]
  | n :: l, h => by
    have ih := letters_len V l fun k hk => h k (List.mem_cons_of_mem _ hk)
    have h1 := ((nodeE_iff _).1 (V.node n (h n List.mem_cons_self))).2.2.2.2.1
    have h2 : (if (nd d n).kind = 3 then (nd d n).text else []).length ≤ 400 := by split; exact h1; simp
    unfold lettersM at *
    rw [List.flatMap_cons, List.length_append, List.length_cons]
    omega
theorem bare_kids {d : HDoc} (V : DV d) {n : Int} (hn : inD d n) (hk : 2 < (nd d n).kind) : (nd d n).kids = [] := by
  have hb := ((nodeE_iff _).1 (V.node n hn)).2.1
  unfold bareM at hb
  apply Classical.byContradiction
  intro h
  simp only [Bool.and_eq_true, Bool.or_eq_true, decide_eq_true_eq] at hb
  revert hb
  simp [h]
  omega
def kidText (d : HDoc) (k : Int) : List UInt8 := if (nd d k).kind ≠ 4 then textUM d k else []
theorem letters_app (d : HDoc) (l m : List Int) : lettersM d (l ++ m) = lettersM d l ++ lettersM d m := by unfold lettersM; rw [List.flatMap_append]
theorem letters_one {d : HDoc} (V : DV d) {n : Int} (hn : inD d n) (hk : 2 < (nd d n).kind) : lettersM d (below d n) = if (nd d n).kind = 3 then (nd d n).text else [] := by
  rw [below_eq V hn, bare_kids V hn hk]
  simp [lettersM]
theorem letters_kid {d : HDoc} (V : DV d) {n : Int} (hn : inD d n) : lettersM d (below d n) = kidText d n := by
  unfold kidText textUM
  by_cases h3 : (nd d n).kind = 3
  · rw [letters_one V hn (by omega), if_pos h3, if_pos (by omega), if_pos (.inl h3)]
  · by_cases h4 : (nd d n).kind = 4
    · rw [letters_one V hn (by omega), if_neg h3, if_neg (by simpa using h4)]
    · rw [if_pos h4, if_neg (by omega)]
theorem letters_flat {d : HDoc} (V : DV d) : ∀ l : List Int, (∀ k ∈ l, inD d k) → lettersM d (l.flatMap (below d)) = l.flatMap (kidText d)
  | [], _ => rfl
  | n :: l, h => by rw [List.flatMap_cons, List.flatMap_cons, letters_app, letters_kid V (h n List.mem_cons_self), letters_flat V l fun k hk => h k (List.mem_cons_of_mem _ hk)]
theorem textU_eq {d : HDoc} (V : DV d) {n : Int} (hn : inD d n) (h : ¬ ((nd d n).kind = 3 ∨ (nd d n).kind = 4)) : textUM d n = (nd d n).kids.flatMap (kidText d) := by
  unfold textUM
  rw [if_neg h, below_eq V hn, ← letters_flat V _ fun k hk => (V.kid n hn k hk).1]
  show lettersM d ([n] ++ _) = _
  rw [letters_app]
  have : lettersM d [n] = [] := by unfold lettersM; simp; intro h3; exact absurd (.inl h3) h
  rw [this]; rfl
theorem textU_len {d : HDoc} (V : DV d) {n : Int} (hn : inD d n) : (textUM d n).length ≤ 80000 := by
  unfold textUM
  have h1 := ((nodeE_iff _).1 (V.node n hn)).2.2.2.2.1
  split
  · omega
  · have h2 := letters_len V (below d n) fun k hk => below_in V n hn k hk
    have := below_len V hn
    have := V.len
    omega
def c63 : SFun := ⟨(.seq (.reg [⟨(some 2), (.boxF 24 2 (.t 0)), none⟩, ⟨(some 4), (.mv (.c (.str []))), none⟩]) (.seq (.seq (.reg [⟨(some 8), (.fldA 0 (.t 2)), none⟩, ⟨(some 9), (.ld 1 false (.t 8)), none⟩, ⟨(some 10), (.mv (.t 1)), none⟩, ⟨(some 11), (.idxA 6 (.t 9) (.t 10)), none⟩, ⟨(some 12), (.fldA 0 (.t 11)), none⟩, ⟨(some 13), (.ld 1 false (.t 12)), none⟩, ⟨(some 14), (.bin .eql (.t 13) (.c (.int .i64 (3)))), none⟩, ⟨(some 15), (.mv (.t 14)), none⟩, ⟨(some 16), (.fldA 0 (.t 2)), (some (15, false))⟩, ⟨(some 17), (.ld 1 false (.t 16)), (some (15, false))⟩, ⟨(some 18), (.mv (.t 1)), (some (15, false))⟩, ⟨(some 19), (.idxA 6 (.t 17) (.t 18)), (some (15, false))⟩, ⟨(some 20), (.fldA 0 (.t 19)), (some (15, false))⟩, ⟨(some 21), (.ld 1 false (.t 20)), (some (15, false))⟩, ⟨(some 22), (.bin .eql (.t 21) (.c (.int .i64 (4)))), (some (15, false))⟩, ⟨(some 23), (.pick (.t 15) (.c (.bool true)) (.t 22)), none⟩]) (.cond (.t 23) (.seq (.reg [⟨(some 24), (.fldA 0 (.t 2)), none⟩, ⟨(some 25), (.ld 1 false (.t 24)), none⟩, ⟨(some 26), (.mv (.t 1)), none⟩, ⟨(some 27), (.idxA 6 (.t 25) (.t 26)), none⟩, ⟨(some 28), (.fldA 3 (.t 27)), none⟩, ⟨(some 29), (.ld 1 false (.t 28)), none⟩, ⟨(some 4), (.mv (.t 29)), none⟩]) .ret) .skip)) (.seq (.reg [⟨(some 5), (.mv (.c (.str []))), none⟩]) (.seq (.seq (.reg [⟨(some 6), (.mv (.c (.int .i64 (0)))), none⟩]) (.block 0 (.loop (.seq (.seq (.reg [⟨(some 30), (.mv (.t 6)), none⟩, ⟨(some 31), (.fldA 0 (.t 2)), none⟩, ⟨(some 32), (.ld 1 false (.t 31)), none⟩, ⟨(some 33), (.mv (.t 1)), none⟩, ⟨(some 34), (.idxA 6 (.t 32) (.t 33)), none⟩, ⟨(some 35), (.fldA 5 (.t 34)), none⟩, ⟨(some 36), (.ld 1 false (.t 35)), none⟩, ⟨(some 37), (.len (.t 36)), none⟩, ⟨(some 38), (.bin .lss (.t 30) (.t 37)), none⟩]) (.cond (.t 38) .skip (.exit 0))) (.seq (.block 1 (.seq (.reg [⟨(some 41), (.fldA 0 (.t 2)), none⟩, ⟨(some 42), (.ld 1 false (.t 41)), none⟩, ⟨(some 43), (.mv (.t 1)), none⟩, ⟨(some 44), (.idxA 6 (.t 42) (.t 43)), none⟩, ⟨(some 45), (.fldA 5 (.t 44)), none⟩, ⟨(some 46), (.ld 1 false (.t 45)), none⟩, ⟨(some 47), (.mv (.t 6)), none⟩, ⟨(some 48), (.idxA 1 (.t 46) (.t 47)), none⟩, ⟨(some 49), (.ld 1 false (.t 48)), none⟩, ⟨(some 7), (.mv (.t 49)), none⟩]) (.seq (.reg [⟨(some 50), (.fldA 0 (.t 2)), none⟩, ⟨(some 51), (.ld 1 false (.t 50)), none⟩, ⟨(some 52), (.mv (.t 7)), none⟩, ⟨(some 53), (.idxA 6 (.t 51) (.t 52)), none⟩, ⟨(some 54), (.fldA 0 (.t 53)), none⟩, ⟨(some 55), (.ld 1 false (.t 54)), none⟩, ⟨(some 56), (.bin .neq (.t 55) (.c (.int .i64 (4)))), none⟩]) (.cond (.t 56) (.reg [⟨(some 57), (.mv (.t 5)), none⟩, ⟨(some 58), (.ld 2 true (.t 2)), none⟩, ⟨(some 59), (.mv (.t 7)), none⟩, ⟨(some 60), (.pcall 63 [(.t 58), (.t 59)]), none⟩, ⟨(some 61), (.bin .add (.t 57) (.t 60)), none⟩, ⟨(some 5), (.mv (.t 61)), none⟩]) .skip)))) (.reg [⟨(some 39), (.mv (.t 6)), none⟩, ⟨(some 40), (.bin .add (.t 39) (.c (.int .i64 (1)))), none⟩, ⟨(some 6), (.mv (.t 40)), none⟩])))))) (.seq (.reg [⟨(some 62), (.mv (.t 5)), none⟩, ⟨(some 4), (.mv (.t 62)), none⟩]) .ret))))), [(.tmp 4)]⟩
theorem hc63 : toSF Tryd.prog {pure := [63]} Tryd.f63 = some c63 := by kernel_rfl
theorem hn63 : (Tryd.f63.name == "runtime.NumGoroutine") = false := by kernel_rfl
theorem textUnder_ok (d : HDoc) (V : DV d) (sm : DocSm d) : ∀ n, inD d n → PCalls (Pg G) 63 [.agg (eDoc d), aInt n] (.str (textUM d n)) := V.down fun n hn ih h => by
  have hl := V.len
  have n0 := hn.1
  have n1 := hn.2
  have e0 : nth d.nodes n.toNat = nd d n := rfl
  have kl := (sm.nd n).kids
  have tl := textU_len V hn
  refine dcalls_of_vc Tryd.func63 hn63 hc63 (by rw [Tryd.ntmps63]; simp) (by rw [Tryd.ntmps63]; decide) ?_
  by_cases h3 : (nd d n).kind = 3
  · have b3 : ((nd d n).kind == 3) = true := by simpa using h3
    have eT : textUM d n = (nd d n).text := by unfold textUM; rw [if_pos (.inl h3)]
    simp -dsimp -implicitDefEqProofs (disch := omega) only [↓vcOps_sp 15, ↓vcD_sp 15, VCA, pg_gl, ↓upd_none, Nat.reduceEqDiff, Nat.reduceBEq, Nat.reduceAdd, Nat.reduceSub, Nat.reduceMul, Nat.reduceLT, Nat.reduceLeDiff, ↓reduceIte, reduceCtorEq, rsOf, rootsOf, SOp.rd, SI.rd, SX.rd, rdL, rdO, rdP, okParts, eqCells, okEqCells, fillA, okFill, setAt, implies_true, forall_const, forall_eq, ne_eq, exists_eq_right_right, exists_eq_right, exists_eq_left, exists_eq_left', eInt, eBool, lit_eq, c63, eDoc, eNode, e0, b3]
    exact ⟨by omega, by omega, Sub.refl _, eT.symm⟩
  · have b3 : ((nd d n).kind == 3) = false := by simpa using h3
    by_cases h4 : (nd d n).kind = 4
    · have b4 : ((nd d n).kind == 4) = true := by simpa using h4
      have eT : textUM d n = (nd d n).text := by unfold textUM; rw [if_pos (.inr h4)]
      simp -dsimp -implicitDefEqProofs (disch := omega) only [↓vcOps_sp 15, ↓vcD_sp 15, VCA, pg_gl, ↓upd_none, Nat.reduceEqDiff, Nat.reduceBEq, Nat.reduceAdd, Nat.reduceSub, Nat.reduceMul, Nat.reduceLT, Nat.reduceLeDiff, ↓reduceIte, reduceCtorEq, rsOf, rootsOf, SOp.rd, SI.rd, SX.rd, rdL, rdO, rdP, okParts, eqCells, okEqCells, fillA, okFill, setAt, implies_true, forall_const, forall_eq, ne_eq, exists_eq_right_right, exists_eq_right, exists_eq_left, exists_eq_left', eInt, eBool, lit_eq, c63, eDoc, eNode, e0, b3, b4]
      exact ⟨by omega, by omega, by omega, Sub.refl _, eT.symm⟩
    · have b4 : ((nd d n).kind == 4) = false := by simpa using h4
      have eT := textU_eq V hn (by omega)
      have fl : ∀ k, k ≤ (nd d n).kids.length → (((nd d n).kids.take k).flatMap (kidText d)).length ≤ 80000 := fun k hk => by
        have : (((nd d n).kids.take k).flatMap (kidText d)).length ≤ ((nd d n).kids.flatMap (kidText d)).length := by
          conv => rhs; rw [← List.take_append_drop k (nd d n).kids, List.flatMap_append, List.length_append]
          omega
        rw [← eT] at this; omega
      simp -dsimp -implicitDefEqProofs (disch := omega) only [↓vcOps_sp 15, ↓vcD_sp 15, VCA, pg_gl, ↓upd_none, Nat.reduceEqDiff, Nat.reduceBEq, Nat.reduceAdd, Nat.reduceSub, Nat.reduceMul, Nat.reduceLT, Nat.reduceLeDiff, ↓reduceIte, reduceCtorEq, rsOf, rootsOf, SOp.rd, SI.rd, SX.rd, rdL, rdO, rdP, okParts, eqCells, okEqCells, fillA, okFill, setAt, implies_true, forall_const, forall_eq, ne_eq, exists_eq_right_right, exists_eq_right, exists_eq_left, exists_eq_left', eInt, eBool, lit_eq, c63, eDoc, eNode, e0, b3, b4]
      refine ⟨by omega, by omega, ?_⟩
      refine LoopVC.intro (fun m e h' => ∃ k : Nat, k ≤ (nd d n).kids.length ∧ m = (nd d n).kids.length - k ∧ e 1 = aInt n ∧ e 2 = .pin (eDoc d) ∧ e 5 = .str (((nd d n).kids.take k).flatMap (kidText d)) ∧ e 6 = aInt k ∧ h' = h) (nd d n).kids.length ⟨0, by omega, by omega, rfl, rfl, rfl, rfl, rfl⟩ ?_
      rintro m e h' ⟨k, hk, rfl, e1, e2, e5, e6, rfl⟩
      simp -dsimp -implicitDefEqProofs (disch := omega) only [↓vcOps_sp 15, ↓vcD_sp 15, VCA, pg_gl, ↓upd_none, Nat.reduceEqDiff, Nat.reduceBEq, Nat.reduceAdd, Nat.reduceSub, Nat.reduceMul, Nat.reduceLT, Nat.reduceLeDiff, ↓reduceIte, reduceCtorEq, rsOf, rootsOf, SOp.rd, SI.rd, SX.rd, rdL, rdO, rdP, okParts, eqCells, okEqCells, fillA, okFill, setAt, implies_true, forall_const, forall_eq, ne_eq, exists_eq_right_right, exists_eq_right, exists_eq_left, exists_eq_left', eInt, eBool, lit_eq, e1, e2, e5, e6, eDoc, eNode, e0]
      refine ⟨by omega, ?_⟩
      refine Br.dec (fun hlt => ?_) (fun hge => ?_)
      · have hk' : k < (nd d n).kids.length := by omega
        have hx := V.kid n hn _ (nth_mem' hk')
        have ihk := ih _ (nth_mem' hk')
        have f1 := fl (k + 1) (by omega)
        obtain ⟨x, hxx⟩ : ∃ x, nth (nd d n).kids k = x := ⟨_, rfl⟩
        rw [hxx] at hx ihk
        have x0 := hx.1.1
        have x1 := hx.1.2
        have ex : nth d.nodes x.toNat = nd d x := rfl
        have tk : ((nd d n).kids.take (k + 1)).flatMap (kidText d) = ((nd d n).kids.take k).flatMap (kidText d) ++ kidText d x := by rw [take_snoc hk', hxx, List.flatMap_append]; simp
        rw [tk, List.length_append] at f1
        unfold eDoc at ihk
        by_cases h5 : (nd d x).kind = 4
        · have b5 : ((nd d x).kind != 4) = false := by simpa using h5
          have tx : kidText d x = [] := by unfold kidText; rw [if_neg (by simpa using h5)]
          simp -dsimp -implicitDefEqProofs (disch := omega) only [↓vcOps_sp 15, ↓vcD_sp 15, VCA, pg_gl, ↓upd_none, Nat.reduceEqDiff, Nat.reduceBEq, Nat.reduceAdd, Nat.reduceSub, Nat.reduceMul, Nat.reduceLT, Nat.reduceLeDiff, ↓reduceIte, reduceCtorEq, rsOf, rootsOf, SOp.rd, SI.rd, SX.rd, rdL, rdO, rdP, okParts, eqCells, okEqCells, fillA, okFill, setAt, implies_true, forall_const, forall_eq, ne_eq, exists_eq_right_right, exists_eq_right, exists_eq_left, exists_eq_left', eInt, eBool, lit_eq, e1, e2, e5, e6, eDoc, eNode, e0, hxx, ex, b5]
          exact ⟨by omega, by omega, by omega, _, by omega, k + 1, by omega, rfl, by rw [tk, tx, List.append_nil], by omega⟩
        · have b5 : ((nd d x).kind != 4) = true := by simpa using h5
          have tx : kidText d x = textUM d x := by unfold kidText; rw [if_pos h5]
          rw [tx] at f1
          simp -dsimp -implicitDefEqProofs (disch := omega) only [↓vcOps_sp 15, ↓vcD_sp 15, VCA, pg_gl, ↓upd_none, Nat.reduceEqDiff, Nat.reduceBEq, Nat.reduceAdd, Nat.reduceSub, Nat.reduceMul, Nat.reduceLT, Nat.reduceLeDiff, ↓reduceIte, reduceCtorEq, rsOf, rootsOf, SOp.rd, SI.rd, SX.rd, rdL, rdO, rdP, okParts, eqCells, okEqCells, fillA, okFill, setAt, implies_true, forall_const, forall_eq, ne_eq, exists_eq_right_right, exists_eq_right, exists_eq_left, exists_eq_left', eInt, eBool, lit_eq, e1, e2, e5, e6, eDoc, eNode, e0, hxx, ex, b5]
          repeat' (first | ((with_reducible refine Br.dec (fun _ => ?_) (fun _ => ?_)) <;> try (exfalso; omega)) | ((with_reducible refine Br.eq (fun _ => ?_) (fun _ => ?_)) <;> try (exfalso; omega)) | ((with_reducible refine Br.ne (fun _ => ?_) (fun _ => ?_)) <;> try (exfalso; omega)) | ((with_reducible refine brNdec (fun _ => ?_) (fun _ => ?_)) <;> try (exfalso; omega)) | ((with_reducible refine brNeq (fun _ => ?_) (fun _ => ?_)) <;> try (exfalso; omega)) | with_reducible refine Br.intro (fun _ => ?_) (fun _ => ?_) | (with_reducible apply pcallE.of; · exact ihk) | (with_reducible refine And.intro ?_ ?_; · omega) | simp -dsimp -implicitDefEqProofs (disch := omega) only [↓vcOps_sp 15, ↓vcD_sp 15, VCA, pg_gl, ↓upd_none, Nat.reduceEqDiff, Nat.reduceBEq, Nat.reduceAdd, Nat.reduceSub, Nat.reduceMul, Nat.reduceLT, Nat.reduceLeDiff, ↓reduceIte, reduceCtorEq, rsOf, rootsOf, SOp.rd, SI.rd, SX.rd, rdL, rdO, rdP, okParts, eqCells, okEqCells, fillA, okFill, setAt, implies_true, forall_const, forall_eq, ne_eq, exists_eq_right_right, exists_eq_right, exists_eq_left, exists_eq_left', eInt, eBool, lit_eq, e1, e2, e5, e6, eDoc, eNode, e0, hxx, ex, b5])
          exact ⟨_, by omega, k + 1, by omega, rfl, by rw [tk, tx], by omega⟩
      · obtain rfl : k = (nd d n).kids.length := by omega
        simp -dsimp -implicitDefEqProofs (disch := omega) only [↓vcOps_sp 15, ↓vcD_sp 15, VCA, pg_gl, ↓upd_none, Nat.reduceEqDiff, Nat.reduceBEq, Nat.reduceAdd, Nat.reduceSub, Nat.reduceMul, Nat.reduceLT, Nat.reduceLeDiff, ↓reduceIte, reduceCtorEq, rsOf, rootsOf, SOp.rd, SI.rd, SX.rd, rdL, rdO, rdP, okParts, eqCells, okEqCells, fillA, okFill, setAt, implies_true, forall_const, forall_eq, ne_eq, exists_eq_right_right, exists_eq_right, exists_eq_left, exists_eq_left', eInt, eBool, lit_eq, e1, e2, e5, e6]
        exact ⟨Sub.refl _, eT.symm⟩
def textOfV (d : HDoc) (n : Int) : List UInt8 := if askE d n ≠ 0 then [] else textUM d n
def c62 : SFun := ⟨(.seq (.reg [⟨(some 2), (.boxF 24 2 (.t 0)), none⟩, ⟨(some 4), (.mv (.c (.str []))), none⟩, ⟨(some 5), (.mv (.c (.int .i64 (0)))), none⟩]) (.seq (.seq (.reg [⟨(some 10), (.ld 2 true (.t 2)), none⟩, ⟨(some 11), (.mv (.t 1)), none⟩, ⟨(some 12), (.pcall 110 [(.t 10), (.t 11)]), none⟩, ⟨(some 6), (.mv (.t 12)), none⟩]) (.seq (.reg [⟨(some 13), (.mv (.t 6)), none⟩, ⟨(some 14), (.bin .neq (.t 13) (.c (.int .i64 (0)))), none⟩]) (.cond (.t 14) (.seq (.reg [⟨(some 15), (.mv (.t 6)), none⟩, ⟨(some 4), (.mv (.c (.str []))), none⟩, ⟨(some 5), (.mv (.t 15)), none⟩]) .ret) .skip))) (.seq (.seq (.reg [⟨(some 16), (.fldA 0 (.t 2)), none⟩, ⟨(some 17), (.ld 1 false (.t 16)), none⟩, ⟨(some 18), (.mv (.t 1)), none⟩, ⟨(some 19), (.idxA 6 (.t 17) (.t 18)), none⟩, ⟨(some 20), (.fldA 0 (.t 19)), none⟩, ⟨(some 21), (.ld 1 false (.t 20)), none⟩, ⟨(some 22), (.bin .eql (.t 21) (.c (.int .i64 (4)))), none⟩]) (.cond (.t 22) (.seq (.reg [⟨(some 23), (.fldA 0 (.t 2)), none⟩, ⟨(some 24), (.ld 1 false (.t 23)), none⟩, ⟨(some 25), (.mv (.t 1)), none⟩, ⟨(some 26), (.idxA 6 (.t 24) (.t 25)), none⟩, ⟨(some 27), (.fldA 3 (.t 26)), none⟩, ⟨(some 28), (.ld 1 false (.t 27)), none⟩, ⟨(some 4), (.mv (.t 28)), none⟩, ⟨(some 5), (.mv (.c (.int .i64 (0)))), none⟩]) .ret) .skip)) (.seq (.reg [⟨(some 7), (.mv (.c (.str []))), none⟩]) (.seq (.seq (.reg [⟨(some 29), (.ld 2 true (.t 2)), none⟩, ⟨(some 30), (.mv (.t 1)), none⟩, ⟨(some 31), (.pcall 109 [(.t 29), (.t 30), (.c .emp)]), none⟩, ⟨(some 32), (.len (.t 31)), none⟩, ⟨(some 33), (.mv (.c (.int .i64 (0)))), none⟩]) (.block 0 (.loop (.seq (.reg [⟨(some 34), (.bin .lss (.t 33) (.t 32)), none⟩]) (.seq (.cond (.t 34) .skip (.exit 0)) (.seq (.block 1 (.seq (.reg [⟨(some 35), (.idxA 1 (.t 31) (.t 33)), none⟩, ⟨(some 36), (.ld 1 false (.t 35)), none⟩, ⟨(some 9), (.mv (.t 36)), none⟩]) (.seq (.reg [⟨(some 37), (.fldA 0 (.t 2)), none⟩, ⟨(some 38), (.ld 1 false (.t 37)), none⟩, ⟨(some 39), (.mv (.t 9)), none⟩, ⟨(some 40), (.idxA 6 (.t 38) (.t 39)), none⟩, ⟨(some 41), (.fldA 0 (.t 40)), none⟩, ⟨(some 42), (.ld 1 false (.t 41)), none⟩, ⟨(some 43), (.bin .eql (.t 42) (.c (.int .i64 (3)))), none⟩]) (.cond (.t 43) (.reg [⟨(some 44), (.mv (.t 7)), none⟩, ⟨(some 45), (.fldA 0 (.t 2)), none⟩, ⟨(some 46), (.ld 1 false (.t 45)), none⟩, ⟨(some 47), (.mv (.t 9)), none⟩, ⟨(some 48), (.idxA 6 (.t 46) (.t 47)), none⟩, ⟨(some 49), (.fldA 3 (.t 48)), none⟩, ⟨(some 50), (.ld 1 false (.t 49)), none⟩, ⟨(some 51), (.bin .add (.t 44) (.t 50)), none⟩, ⟨(some 7), (.mv (.t 51)), none⟩]) .skip)))) (.reg [⟨(some 52), (.bin .add (.t 33) (.c (.int .i64 (1)))), none⟩, ⟨(some 33), (.mv (.t 52)), none⟩]))))))) (.seq (.reg [⟨(some 53), (.mv (.t 7)), none⟩, ⟨(some 4), (.mv (.t 53)), none⟩, ⟨(some 5), (.mv (.c (.int .i64 (0)))), none⟩]) .ret)))))), [(.tmp 4), (.tmp 5)]⟩
theorem hc62 : toSF Tryd.prog {pure := [110, 109]} Tryd.f62 = some c62 := by kernel_rfl
theorem hn62 : (Tryd.f62.name == "runtime.NumGoroutine") = false := by kernel_rfl
theorem textOf_ok (d : HDoc) (sm : DocSm d) (n : Int) : PCalls (Pg G) 62 [.agg (eDoc d), aInt n] (.tup [.str (textOfV d n), aInt (askE d n)]) := fun h => by
  have hC := ask_ok (G := G) d sm n
  unfold eDoc at hC
  by_cases h1 : askE d n = 0
  · obtain ⟨hd, hn⟩ := askE_zero h1
    have V := docE_DV hd
    have vl := V.len
    have n0 := hn.1
    have n1 := hn.2
    have e0 : nth d.nodes n.toNat = nd d n := rfl
    have hW := walk0_ok (G := G) d V sm n hn
    unfold eDoc at hW
    have aV : textOfV d n = textUM d n := by unfold textOfV; rw [if_neg (by simpa using h1)]
    rw [aV]
    rw [h1] at hC ⊢
    have z0 : ((0 : Int) != 0) = false := rfl
    by_cases h4 : (nd d n).kind = 4
    · have b4 : ((nd d n).kind == 4) = true := by simpa using h4
      have eT : textUM d n = (nd d n).text := by unfold textUM; rw [if_pos (.inr h4)]
      refine dcalls_of_vc Tryd.func62 hn62 hc62 (by rw [Tryd.ntmps62]; simp) (by rw [Tryd.ntmps62]; decide) ?_
      simp -dsimp -implicitDefEqProofs (disch := omega) only [VCA, pg_gl, ↓upd_none, Nat.reduceEqDiff, Nat.reduceBEq, Nat.reduceAdd, Nat.reduceSub, Nat.reduceMul, Nat.reduceLT, Nat.reduceLeDiff, ↓reduceIte, reduceCtorEq, rsOf, rootsOf, SOp.rd, SI.rd, SX.rd, rdL, rdO, rdP, okParts, eqCells, okEqCells, fillA, okFill, setAt, implies_true, forall_const, forall_eq, ne_eq, exists_eq_right_right, exists_eq_right, exists_eq_left, exists_eq_left', eInt, eBool, lit_eq, c62, eDoc]
      repeat' (first | ((with_reducible refine Br.dec (fun _ => ?_) (fun _ => ?_)) <;> try (exfalso; omega)) | ((with_reducible refine Br.eq (fun _ => ?_) (fun _ => ?_)) <;> try (exfalso; omega)) | ((with_reducible refine Br.ne (fun _ => ?_) (fun _ => ?_)) <;> try (exfalso; omega)) | ((with_reducible refine brNdec (fun _ => ?_) (fun _ => ?_)) <;> try (exfalso; omega)) | ((with_reducible refine brNeq (fun _ => ?_) (fun _ => ?_)) <;> try (exfalso; omega)) | with_reducible refine Br.intro (fun _ => ?_) (fun _ => ?_) | (with_reducible apply pcallE.of; · exact hC) | (with_reducible refine And.intro ?_ ?_; · omega) | simp -dsimp -implicitDefEqProofs (disch := omega) only [VCA, pg_gl, ↓upd_none, Nat.reduceEqDiff, Nat.reduceBEq, Nat.reduceAdd, Nat.reduceSub, Nat.reduceMul, Nat.reduceLT, Nat.reduceLeDiff, ↓reduceIte, reduceCtorEq, rsOf, rootsOf, SOp.rd, SI.rd, SX.rd, rdL, rdO, rdP, okParts, eqCells, okEqCells, fillA, okFill, setAt, implies_true, forall_const, forall_eq, ne_eq, exists_eq_right_right, exists_eq_right, exists_eq_left, exists_eq_left', eInt, eBool, lit_eq, eDoc, eNode, e0, b4, z0])
      all_goals first | exact ⟨Sub.refl _, by rw [eT]⟩ | trace_state
    · have b4 : ((nd d n).kind == 4) = false := by simpa using h4
      have eT : textUM d n = lettersM d (below d n) := by
        rw [letters_kid V hn]; unfold kidText; rw [if_pos h4]
      have bi := below_in V n hn
      have bl := below_len V hn
      have fl : ∀ k, (lettersM d ((below d n).take k)).length ≤ 80000 := fun k => by
        have := letters_len V ((below d n).take k) fun x hx => bi x (List.mem_of_mem_take hx)
        rw [List.length_take] at this
        omega
      refine dcalls_of_vc Tryd.func62 hn62 hc62 (by rw [Tryd.ntmps62]; simp) (by rw [Tryd.ntmps62]; decide) ?_
      simp -dsimp -implicitDefEqProofs (disch := omega) only [VCA, pg_gl, ↓upd_none, Nat.reduceEqDiff, Nat.reduceBEq, Nat.reduceAdd, Nat.reduceSub, Nat.reduceMul, Nat.reduceLT, Nat.reduceLeDiff, ↓reduceIte, reduceCtorEq, rsOf, rootsOf, SOp.rd, SI.rd, SX.rd, rdL, rdO, rdP, okParts, eqCells, okEqCells, fillA, okFill, setAt, implies_true, forall_const, forall_eq, ne_eq, exists_eq_right_right, exists_eq_right, exists_eq_left, exists_eq_left', eInt, eBool, lit_eq, c62, eDoc]
      repeat' (first | ((with_reducible refine Br.dec (fun _ => ?_) (fun _ => ?_)) <;> try (exfalso; omega)) | ((with_reducible refine Br.eq (fun _ => ?_) (fun _ => ?_)) <;> try (exfalso; omega)) | ((with_reducible refine Br.ne (fun _ => ?_) (fun _ => ?_)) <;> try (exfalso; omega)) | ((with_reducible refine brNdec (fun _ => ?_) (fun _ => ?_)) <;> try (exfalso; omega)) | ((with_reducible refine brNeq (fun _ => ?_) (fun _ => ?_)) <;> try (exfalso; omega)) | with_reducible refine Br.intro (fun _ => ?_) (fun _ => ?_) | (with_reducible apply pcallE.of; · exact hC) | (with_reducible apply pcallE.of; · exact hW) | (with_reducible refine And.intro ?_ ?_; · omega) | simp -dsimp -implicitDefEqProofs (disch := omega) only [VCA, pg_gl, ↓upd_none, Nat.reduceEqDiff, Nat.reduceBEq, Nat.reduceAdd, Nat.reduceSub, Nat.reduceMul, Nat.reduceLT, Nat.reduceLeDiff, ↓reduceIte, reduceCtorEq, rsOf, rootsOf, SOp.rd, SI.rd, SX.rd, rdL, rdO, rdP, okParts, eqCells, okEqCells, fillA, okFill, setAt, implies_true, forall_const, forall_eq, ne_eq, exists_eq_right_right, exists_eq_right, exists_eq_left, exists_eq_left', eInt, eBool, lit_eq, eDoc, eNode, e0, b4, z0])
      refine LoopVC.intro (fun m e h' => ∃ k : Nat, k ≤ (below d n).length ∧ m = (below d n).length - k ∧ e 2 = .pin (eDoc d) ∧ e 31 = sl eInt (below d n) ∧ e 32 = aInt (below d n).length ∧ e 33 = aInt k ∧ e 7 = .str (lettersM d ((below d n).take k)) ∧ h' = h) (below d n).length ⟨0, by omega, by omega, rfl, rfl, rfl, rfl, rfl, rfl⟩ ?_
      rintro m e h' ⟨k, hk, rfl, e2, e31, e32, e33, e7, rfl⟩
      simp -dsimp -implicitDefEqProofs (disch := omega) only [VCA, pg_gl, ↓upd_none, Nat.reduceEqDiff, Nat.reduceBEq, Nat.reduceAdd, Nat.reduceSub, Nat.reduceMul, Nat.reduceLT, Nat.reduceLeDiff, ↓reduceIte, reduceCtorEq, rsOf, rootsOf, SOp.rd, SI.rd, SX.rd, rdL, rdO, rdP, okParts, eqCells, okEqCells, fillA, okFill, setAt, implies_true, forall_const, forall_eq, ne_eq, exists_eq_right_right, exists_eq_right, exists_eq_left, exists_eq_left', eInt, eBool, lit_eq, e2, e31, e32, e33, e7]
      refine Br.dec (fun hlt => ?_) (fun hge => ?_)
      · have hk' : k < (below d n).length := by omega
        have hx := bi _ (nth_mem' hk')
        have f1 := fl (k + 1)
        obtain ⟨x, hxx⟩ : ∃ x, nth (below d n) k = x := ⟨_, rfl⟩
        rw [hxx] at hx
        have x0 := hx.1
        have x1 := hx.2
        have ex : nth d.nodes x.toNat = nd d x := rfl
        have tk : lettersM d ((below d n).take (k + 1)) = lettersM d ((below d n).take k) ++ (if (nd d x).kind = 3 then (nd d x).text else []) := by rw [take_snoc hk', hxx, letters_app]; simp [lettersM]
        rw [tk, List.length_append] at f1
        by_cases h5 : (nd d x).kind = 3
        · have b5 : ((nd d x).kind == 3) = true := by simpa using h5
          rw [if_pos h5] at tk f1
          simp -dsimp -implicitDefEqProofs (disch := omega) only [VCA, pg_gl, ↓upd_none, Nat.reduceEqDiff, Nat.reduceBEq, Nat.reduceAdd, Nat.reduceSub, Nat.reduceMul, Nat.reduceLT, Nat.reduceLeDiff, ↓reduceIte, reduceCtorEq, rsOf, rootsOf, SOp.rd, SI.rd, SX.rd, rdL, rdO, rdP, okParts, eqCells, okEqCells, fillA, okFill, setAt, implies_true, forall_const, forall_eq, ne_eq, exists_eq_right_right, exists_eq_right, exists_eq_left, exists_eq_left', eInt, eBool, lit_eq, e2, e31, e32, e33, e7, eDoc, eNode, hxx, ex, b5]
          repeat' (first | ((with_reducible refine Br.dec (fun _ => ?_) (fun _ => ?_)) <;> try (exfalso; omega)) | ((with_reducible refine Br.eq (fun _ => ?_) (fun _ => ?_)) <;> try (exfalso; omega)) | ((with_reducible refine Br.ne (fun _ => ?_) (fun _ => ?_)) <;> try (exfalso; omega)) | ((with_reducible refine brNdec (fun _ => ?_) (fun _ => ?_)) <;> try (exfalso; omega)) | ((with_reducible refine brNeq (fun _ => ?_) (fun _ => ?_)) <;> try (exfalso; omega)) | with_reducible refine Br.intro (fun _ => ?_) (fun _ => ?_) | (with_reducible refine And.intro ?_ ?_; · omega) | simp -dsimp -implicitDefEqProofs (disch := omega) only [VCA, pg_gl, ↓upd_none, Nat.reduceEqDiff, Nat.reduceBEq, Nat.reduceAdd, Nat.reduceSub, Nat.reduceMul, Nat.reduceLT, Nat.reduceLeDiff, ↓reduceIte, reduceCtorEq, rsOf, rootsOf, SOp.rd, SI.rd, SX.rd, rdL, rdO, rdP, okParts, eqCells, okEqCells, fillA, okFill, setAt, implies_true, forall_const, forall_eq, ne_eq, exists_eq_right_right, exists_eq_right, exists_eq_left, exists_eq_left', eInt, eBool, lit_eq, e2, e31, e32, e33, e7, eDoc, eNode, hxx, ex, b5])
          exact ⟨_, by omega, k + 1, by omega, rfl, by omega, by rw [tk]⟩
        · have b5 : ((nd d x).kind == 3) = false := by simpa using h5
          rw [if_neg h5, List.append_nil] at tk
          simp -dsimp -implicitDefEqProofs (disch := omega) only [VCA, pg_gl, ↓upd_none, Nat.reduceEqDiff, Nat.reduceBEq, Nat.reduceAdd, Nat.reduceSub, Nat.reduceMul, Nat.reduceLT, Nat.reduceLeDiff, ↓reduceIte, reduceCtorEq, rsOf, rootsOf, SOp.rd, SI.rd, SX.rd, rdL, rdO, rdP, okParts, eqCells, okEqCells, fillA, okFill, setAt, implies_true, forall_const, forall_eq, ne_eq, exists_eq_right_right, exists_eq_right, exists_eq_left, exists_eq_left', eInt, eBool, lit_eq, e2, e31, e32, e33, e7, eDoc, eNode, hxx, ex, b5]
          exact ⟨by omega, by omega, _, by omega, k + 1, by omega, rfl, by omega, by rw [tk]⟩
      · obtain rfl : k = (below d n).length := by omega
        simp -dsimp -implicitDefEqProofs (disch := omega) only [VCA, pg_gl, ↓upd_none, Nat.reduceEqDiff, Nat.reduceBEq, Nat.reduceAdd, Nat.reduceSub, Nat.reduceMul, Nat.reduceLT, Nat.reduceLeDiff, ↓reduceIte, reduceCtorEq, rsOf, rootsOf, SOp.rd, SI.rd, SX.rd, rdL, rdO, rdP, okParts, eqCells, okEqCells, fillA, okFill, setAt, implies_true, forall_const, forall_eq, ne_eq, exists_eq_right_right, exists_eq_right, exists_eq_left, exists_eq_left', eInt, eBool, lit_eq, e2, e31, e32, e33, e7]
        exact ⟨Sub.refl _, by rw [eT]⟩
  · have aV : textOfV d n = [] := by unfold textOfV; rw [if_pos h1]
    rw [aV]
    refine dcalls_of_vc Tryd.func62 hn62 hc62 (by rw [Tryd.ntmps62]; simp) (by rw [Tryd.ntmps62]; decide) ?_
    simp -dsimp -implicitDefEqProofs (disch := omega) only [VCA, pg_gl, ↓upd_none, Nat.reduceEqDiff, Nat.reduceBEq, Nat.reduceAdd, Nat.reduceSub, Nat.reduceMul, Nat.reduceLT, Nat.reduceLeDiff, ↓reduceIte, reduceCtorEq, rsOf, rootsOf, SOp.rd, SI.rd, SX.rd, rdL, rdO, rdP, okParts, eqCells, okEqCells, fillA, okFill, setAt, implies_true, forall_const, forall_eq, ne_eq, exists_eq_right_right, exists_eq_right, exists_eq_left, exists_eq_left', eInt, eBool, lit_eq, c62, eDoc]
    repeat' (first | ((with_reducible refine Br.dec (fun _ => ?_) (fun _ => ?_)) <;> try (exfalso; omega)) | ((with_reducible refine Br.eq (fun _ => ?_) (fun _ => ?_)) <;> try (exfalso; omega)) | ((with_reducible refine Br.ne (fun _ => ?_) (fun _ => ?_)) <;> try (exfalso; omega)) | ((with_reducible refine brNdec (fun _ => ?_) (fun _ => ?_)) <;> try (exfalso; omega)) | ((with_reducible refine brNeq (fun _ => ?_) (fun _ => ?_)) <;> try (exfalso; omega)) | with_reducible refine Br.intro (fun _ => ?_) (fun _ => ?_) | (with_reducible apply pcallE.of; · exact hC) | (with_reducible refine And.intro ?_ ?_; · omega) | simp -dsimp -implicitDefEqProofs (disch := omega) only [VCA, pg_gl, ↓upd_none, Nat.reduceEqDiff, Nat.reduceBEq, Nat.reduceAdd, Nat.reduceSub, Nat.reduceMul, Nat.reduceLT, Nat.reduceLeDiff, ↓reduceIte, reduceCtorEq, rsOf, rootsOf, SOp.rd, SI.rd, SX.rd, rdL, rdO, rdP, okParts, eqCells, okEqCells, fillA, okFill, setAt, implies_true, forall_const, forall_eq, ne_eq, exists_eq_right_right, exists_eq_right, exists_eq_left, exists_eq_left', eInt, eBool, lit_eq, eDoc, h1])
    all_goals first | exact Sub.refl _ | trace_state
end Go.Proofs.K
end
section
/- Documents of one's own: nodes in a root, lists of each node in roots of their own. -/
set_option linter.unusedSimpArgs false
set_option linter.unusedVariables false
namespace Go.Proofs.K
open Go Go.Sim Go.Proofs
variable {G : Glob}
def rootOf : AVal → Option Nat
  | .osl r _ _ _ => some r
  | _ => none
/-- a list of one's own; or data -/
def OwnS (h : Heap) (ty sz : Nat) (cells : List (List AVal)) (a : AVal) : Prop :=
  (cells = [] ∧ a = .emp) ∨ (a = .slc cells ∧ ∀ e ∈ cells, e.length = sz) ∨ ∃ r es, a = .osl r sz 0 cells.length ∧ h r = some ⟨ty, sz, es⟩ ∧ cells.length ≤ es.length ∧ es.take cells.length = cells
def Mut (a : AVal) : Prop := ∀ es, a ≠ .slc es
theorem OwnS.live {h : Heap} {ty sz : Nat} {cells : List (List AVal)} {a : AVal} (O : OwnS h ty sz cells a) (M : Mut a) : (cells = [] ∧ a = .emp) ∨ ∃ r es, a = .osl r sz 0 cells.length ∧ h r = some ⟨ty, sz, es⟩ ∧ cells.length ≤ es.length ∧ es.take cells.length = cells := by
  rcases O with O | O | O
  · exact .inl O
  · exact absurd O.1 (M _)
  · exact .inr O
theorem OwnS.keep {h h2 : Heap} {ty sz : Nat} {cells : List (List AVal)} {a : AVal} (O : OwnS h ty sz cells a) (hk : ∀ r o, rootOf a = some r → h r = some o → h2 r = some o) : OwnS h2 ty sz cells a := by
  rcases O with O | O | ⟨r, es, ha, hr, h1, h2⟩
  · exact .inl O
  · exact .inr (.inl O)
  · exact .inr (.inr ⟨r, es, ha, hk r _ (by rw [ha]; rfl) hr, h1, h2⟩)
theorem OwnS.of_acc {h h' : Heap} {ty sz : Nat} {cells : List (List AVal)} {a : AVal} (A : Acc h ty sz cells a h') : OwnS h' ty sz cells a ∧ (∀ r, rootOf a = some r → h r = none) ∧ Mut a := by
  rcases A with ⟨h1, h2⟩ | ⟨r, h0, h1, h2⟩
  · exact ⟨.inl ⟨h1, h2⟩, fun r hr => by (rw [h2] at hr; cases hr), fun es e => by rw [h2] at e; cases e⟩
  · exact ⟨.inr (.inr ⟨r, _, h2, h1, Nat.le_refl _, by rw [List.take_length]⟩), fun r' hr => by (rw [h2] at hr; cases hr; exact h0), fun es e => by rw [h2] at e; cases e⟩
theorem OwnS.len {h : Heap} {ty sz : Nat} {cells : List (List AVal)} {a : AVal} (O : OwnS h ty sz cells a) : aLen a = aInt cells.length ∧ okLen a = True := by
  rcases O with ⟨h1, h2⟩ | ⟨h2, _⟩ | ⟨r, es, ha, _⟩
  · subst h1; subst h2; exact ⟨rfl, rfl⟩
  · subst h2; exact ⟨rfl, rfl⟩
  · subst ha; exact ⟨rfl, rfl⟩
theorem OwnS.isV {h : Heap} {ty sz : Nat} {cells : List (List AVal)} {a : AVal} (O : OwnS h ty sz cells a) : isV a = true ∧ cellsOf a = [a] := by
  rcases O with ⟨h1, h2⟩ | ⟨h2, _⟩ | ⟨r, es, ha, _⟩
  · subst h2; exact ⟨rfl, rfl⟩
  · subst h2; exact ⟨rfl, rfl⟩
  · subst ha; exact ⟨rfl, rfl⟩
theorem OwnS.root {h : Heap} {ty sz : Nat} {cells : List (List AVal)} {a : AVal} (O : OwnS h ty sz cells a) {r : Nat} (hr : rootOf a = some r) : ∃ o, h r = some o := by
  rcases O with ⟨h1, h2⟩ | ⟨h2, _⟩ | ⟨r', es, ha, h1, _⟩
  · subst h2; cases hr
  · subst h2; cases hr
  · subst ha; cases hr; exact ⟨_, h1⟩
/-- .. lent to a reader -/
theorem OwnS.vw {α : Type} [Inhabited α] {enc : α → List AVal} {h : Heap} {ty sz : Nat} [LenE enc sz] {l : List α} {a : AVal} (O : OwnS h ty sz (l.map enc) a) : Vw h a (sl enc l) := by
  rcases O with ⟨h1, h2⟩ | ⟨h2, _⟩ | ⟨r, es, ha, hr, h1, h2⟩
  · have : l = [] := by simpa using h1
    subst this; subst h2; exact .emp
  · subst h2; exact .refl _
  · subst ha
    refine .osl r sz 0 _ ⟨ty, sz, es⟩ (l.map enc) hr (by simpa using h1) rfl (fun f hf => by obtain ⟨x, _, rfl⟩ := List.mem_map.1 hf; exact LenE.len x) fun k j e f x y he hf hx hy => ?_
    have hk : k < (l.map enc).length := (List.getElem?_eq_some_iff.1 hf).1
    simp only [Nat.zero_add] at he
    have he' : (es.take (l.map enc).length)[k]? = some e := by rw [List.getElem?_take, if_pos hk]; exact he
    rw [h2] at he'
    rw [he'] at hf
    cases hf
    rw [hx] at hy; cases hy; exact .refl _
def rowA (x : HNode) (a k : AVal) : List AVal := [aInt x.kind, .str x.name, a, .str x.text, aInt x.parent, k]
def rowsA (d : HDoc) (sl : Nat → AVal) : List (List AVal) := (List.range d.nodes.length).map fun i => rowA (nth d.nodes i) (sl (2 * i)) (sl (2 * i + 1))
theorem rowsA_len (d : HDoc) (sl : Nat → AVal) : (rowsA d sl).length = d.nodes.length := by simp [rowsA]
theorem rowsA_get {d : HDoc} {sl : Nat → AVal} {i : Nat} (hi : i < d.nodes.length) : (rowsA d sl).getD i [] = rowA (nth d.nodes i) (sl (2 * i)) (sl (2 * i + 1)) := by
  rw [List.getD_eq_getElem?_getD, rowsA, List.getElem?_map, List.getElem?_range hi]; rfl
structure Dw (X : List Nat) (h0 h : Heap) (rN : Nat) (d : HDoc) (sl : Nat → AVal) : Prop where
  sub : Sim.Sub h0 h
  nodes : h rN = some ⟨43, 6, rowsA d sl⟩
  new : h0 rN = none ∧ rN ∉ X
  own : ∀ i, i < d.nodes.length → OwnS h 122 2 ((nth d.nodes i).attrs.map eAttr) (sl (2 * i)) ∧ OwnS h 3 1 ((nth d.nodes i).kids.map eInt) (sl (2 * i + 1))
  fresh : ∀ k, k < 2 * d.nodes.length → ∀ r, rootOf (sl k) = some r → h0 r = none ∧ r ≠ rN ∧ r ∉ X
  sep : ∀ j k, j < 2 * d.nodes.length → k < 2 * d.nodes.length → j ≠ k → ∀ r, rootOf (sl j) = some r → rootOf (sl k) ≠ some r
  keep : ∀ r ∈ X, ∃ o, h r = some o
theorem Dw.slot {X : List Nat} {h0 h : Heap} {rN : Nat} {d : HDoc} {sl : Nat → AVal} (E : Dw X h0 h rN d sl) {k : Nat} (hk : k < 2 * d.nodes.length) {r : Nat} (hr : rootOf (sl k) = some r) : ∃ o, h r = some o := by
  have hi : k / 2 < d.nodes.length := by omega
  obtain ⟨h1, h2⟩ := E.own _ hi
  rcases (by omega : k = 2 * (k / 2) ∨ k = 2 * (k / 2) + 1) with h | h
  · rw [h] at hr; exact h1.root hr
  · rw [h] at hr; exact h2.root hr
/-- A node is changed: its row, its lists. -/
theorem Dw.put {X : List Nat} {h0 h h2 : Heap} {rN : Nat} {d : HDoc} {sl sl' : Nat → AVal} (E : Dw X h0 h rN d sl) {i : Nat} (hi : i < d.nodes.length) {x' : HNode}
    (hs : ∀ j, j ≠ 2 * i → j ≠ 2 * i + 1 → sl' j = sl j)
    (hN : h2 rN = some ⟨43, 6, (rowsA d sl).set i (rowA x' (sl' (2 * i)) (sl' (2 * i + 1)))⟩)
    (hk : ∀ r o, h r = some o → r ≠ rN → rootOf (sl (2 * i)) ≠ some r → rootOf (sl (2 * i + 1)) ≠ some r → h2 r = some o)
    (hA : OwnS h2 122 2 (x'.attrs.map eAttr) (sl' (2 * i))) (hK : OwnS h2 3 1 (x'.kids.map eInt) (sl' (2 * i + 1)))
    (hf : ∀ r, rootOf (sl' (2 * i)) = some r ∨ rootOf (sl' (2 * i + 1)) = some r → rootOf (sl (2 * i)) = some r ∨ rootOf (sl (2 * i + 1)) = some r ∨ h r = none)
    (hd : ∀ r, rootOf (sl' (2 * i)) = some r → rootOf (sl' (2 * i + 1)) ≠ some r) : Dw X h0 h2 rN ⟨d.nodes.set i x', d.quirks⟩ sl' := by
  have hl : (d.nodes.set i x').length = d.nodes.length := by simp
  have fr : ∀ r, rootOf (sl' (2 * i)) = some r ∨ rootOf (sl' (2 * i + 1)) = some r → h0 r = none ∧ r ≠ rN ∧ r ∉ X := fun r hr => by
    rcases hf r hr with h | h | h
    · exact E.fresh _ (by omega) r h
    · exact E.fresh _ (by omega) r h
    · refine ⟨E.sub.none h, fun e => ?_, fun hx => ?_⟩
      · rw [e, E.nodes] at h; cases h
      · obtain ⟨o, ho⟩ := E.keep r hx; rw [h] at ho; cases ho
  have oth : ∀ j, j < 2 * d.nodes.length → j ≠ 2 * i → j ≠ 2 * i + 1 → ∀ r, rootOf (sl j) = some r → rootOf (sl' (2 * i)) ≠ some r ∧ rootOf (sl' (2 * i + 1)) ≠ some r := fun j hj h1 h2 r hr => by
    have key : ¬ (rootOf (sl (2 * i)) = some r ∨ rootOf (sl (2 * i + 1)) = some r ∨ h r = none) := by
      rintro (h | h | h)
      · exact E.sep j (2 * i) hj (by omega) h1 r hr h
      · exact E.sep j (2 * i + 1) hj (by omega) h2 r hr h
      · obtain ⟨o, ho⟩ := E.slot hj hr; rw [h] at ho; cases ho
    exact ⟨fun h => key (hf r (.inl h)), fun h => key (hf r (.inr h))⟩
  refine ⟨fun t o ht => ?_, ?_, E.new, fun j hj => ?_, fun k hk' r hr => ?_, fun j k hj hk' hne r hr => ?_, fun r hr => ?_⟩
  · have hne : t ≠ rN := fun e => by rw [e, E.new.1] at ht; cases ht
    refine hk t o (E.sub t o ht) hne (fun h => ?_) (fun h => ?_)
    · have := (E.fresh _ (by omega) t h).1; rw [this] at ht; cases ht
    · have := (E.fresh _ (by omega) t h).1; rw [this] at ht; cases ht
  · rw [hN]
    congr 2
    apply List.ext_getElem?
    intro j
    rw [List.getElem?_set]
    show _ = (rowsA ⟨d.nodes.set i x', d.quirks⟩ sl')[j]?
    unfold rowsA
    simp only [hl]
    by_cases hij : i = j
    · subst hij
      rw [if_pos rfl, if_pos (by simpa using hi), List.getElem?_map, List.getElem?_range hi, Option.map_some, nth_set _ _ _ _ hi, if_pos rfl]
    · rw [if_neg hij]
      by_cases hj : j < d.nodes.length
      · rw [List.getElem?_map, List.getElem?_map, List.getElem?_range hj, Option.map_some, Option.map_some, nth_set _ _ _ _ hi, if_neg (fun e => hij e.symm), hs (2 * j) (by omega) (by omega), hs (2 * j + 1) (by omega) (by omega)]
      · rw [List.getElem?_eq_none (by simp; omega), List.getElem?_eq_none (by simp; omega)]
  · simp only [hl] at hj
    show OwnS h2 _ _ ((nth (d.nodes.set i x') j).attrs.map eAttr) _ ∧ OwnS h2 _ _ ((nth (d.nodes.set i x') j).kids.map eInt) _
    rw [nth_set _ _ _ _ hi]
    by_cases hij : j = i
    · subst hij; rw [if_pos rfl]; exact ⟨hA, hK⟩
    · rw [if_neg hij, hs (2 * j) (by omega) (by omega), hs (2 * j + 1) (by omega) (by omega)]
      obtain ⟨g1, g2⟩ := E.own j hj
      exact ⟨g1.keep fun r o hr ho => hk r o ho (E.fresh _ (by omega) r hr).2.1 (fun h => E.sep (2 * j) (2 * i) (by omega) (by omega) (by omega) r hr h) (fun h => E.sep (2 * j) (2 * i + 1) (by omega) (by omega) (by omega) r hr h),
        g2.keep fun r o hr ho => hk r o ho (E.fresh _ (by omega) r hr).2.1 (fun h => E.sep (2 * j + 1) (2 * i) (by omega) (by omega) (by omega) r hr h) (fun h => E.sep (2 * j + 1) (2 * i + 1) (by omega) (by omega) (by omega) r hr h)⟩
  · simp only [hl] at hk'
    by_cases e1 : k = 2 * i
    · subst e1; exact fr r (.inl hr)
    · by_cases e2 : k = 2 * i + 1
      · subst e2; exact fr r (.inr hr)
      · rw [hs k e1 e2] at hr; exact E.fresh k hk' r hr
  · simp only [hl] at hj hk'
    by_cases j1 : j = 2 * i <;> by_cases j2 : j = 2 * i + 1 <;> by_cases k1 : k = 2 * i <;> by_cases k2 : k = 2 * i + 1
    all_goals first
      | (exfalso; omega)
      | (subst j1; subst k2; exact hd r hr)
      | (subst j2; subst k1; exact fun h => hd r h hr)
      | (subst j1; rw [hs k k1 k2]; exact fun h => (oth k hk' k1 k2 r h).1 hr)
      | (subst j2; rw [hs k k1 k2]; exact fun h => (oth k hk' k1 k2 r h).2 hr)
      | (subst k1; rw [hs j j1 j2] at hr; exact (oth j hj j1 j2 r hr).1)
      | (subst k2; rw [hs j j1 j2] at hr; exact (oth j hj j1 j2 r hr).2)
      | (rw [hs j j1 j2] at hr; rw [hs k k1 k2]; exact E.sep j k hj hk' hne r hr)
  · obtain ⟨o, ho⟩ := E.keep r hr
    refine ⟨o, hk r o ho (fun e => E.new.2 (e ▸ hr)) (fun h => ?_) (fun h => ?_)⟩
    · exact (E.fresh _ (by omega) r h).2.2 hr
    · exact (E.fresh _ (by omega) r h).2.2 hr
/-- a document lent to a reader -/
theorem Dw.vw {X : List Nat} {h0 h : Heap} {rN : Nat} {d : HDoc} {sl' : Nat → AVal} (E : Dw X h0 h rN d sl') : Vw h (.osl rN 6 0 d.nodes.length) (sl eNode d.nodes) := by
  refine Vw.osl0 E.nodes (by simp) (by rw [rowsA_len]; exact Nat.le_refl _) (fun f hf => by obtain ⟨x, _, rfl⟩ := List.mem_map.1 hf; rfl) ?_
  show F2 (F2 (Vw h)) ((rowsA d sl').take d.nodes.length) (d.nodes.map eNode)
  rw [List.take_of_length_le (by rw [rowsA_len]; exact Nat.le_refl _)]
  have key : ∀ (i : Nat), i < d.nodes.length → F2 (Vw h) (rowA (nth d.nodes i) (sl' (2 * i)) (sl' (2 * i + 1))) (eNode (nth d.nodes i)) := fun i hi => by
    obtain ⟨g1, g2⟩ := E.own i hi
    exact .cons (.refl _) (.cons (.refl _) (.cons g1.vw (.cons (.refl _) (.cons (.refl _) (.cons g2.vw .nil)))))
  have e : d.nodes.map eNode = (List.range d.nodes.length).map fun i => eNode (nth d.nodes i) := by
    apply List.ext_getElem?
    intro j
    by_cases hj : j < d.nodes.length
    · rw [List.getElem?_map, List.getElem?_map, List.getElem?_range hj, nth_some hj]; rfl
    · rw [List.getElem?_eq_none (by simp; omega), List.getElem?_eq_none (by simp; omega)]
  rw [e]
  unfold rowsA
  have gen : ∀ l : List Nat, (∀ i ∈ l, i < d.nodes.length) → F2 (F2 (Vw h)) (l.map fun i => rowA (nth d.nodes i) (sl' (2 * i)) (sl' (2 * i + 1))) (l.map fun i => eNode (nth d.nodes i)) := fun l => by
    induction l with
    | nil => intro _; exact .nil
    | cons i l ih => intro hl; exact .cons (key i (hl i List.mem_cons_self)) (ih fun j hj => hl j (List.mem_cons_of_mem _ hj))
  exact gen _ fun i hi => List.mem_range.1 hi
/-- another root's contents are changed -/
theorem Dw.other {X : List Nat} {h0 h : Heap} {rN : Nat} {d : HDoc} {sl : Nat → AVal} (E : Dw X h0 h rN d sl) {r : Nat} (hr : r ∈ X) (h0r : h0 r = none) (o : AObj) : Dw X h0 (upd h r (some o)) rN d sl := by
  have hne : rN ≠ r := fun e => E.new.2 (e ▸ hr)
  refine ⟨E.sub.upd h0r, by rw [upd_ne _ _ hne]; exact E.nodes, E.new, fun i hi => ?_, E.fresh, E.sep, fun t ht => ?_⟩
  · obtain ⟨g1, g2⟩ := E.own i hi
    exact ⟨g1.keep fun t ob ht ho => by rw [upd_ne _ _ (fun e => (E.fresh _ (by omega) t ht).2.2 (by rw [e]; exact hr))]; exact ho, g2.keep fun t ob ht ho => by rw [upd_ne _ _ (fun e => (E.fresh _ (by omega) t ht).2.2 (by rw [e]; exact hr))]; exact ho⟩
  · by_cases e : t = r
    · subst e; exact ⟨o, upd_same _ _ _⟩
    · rw [upd_ne _ _ e]; exact E.keep t ht
theorem Dw.less {X X' : List Nat} {h0 h : Heap} {rN : Nat} {d : HDoc} {sl : Nat → AVal} (E : Dw X h0 h rN d sl) (hx : ∀ r ∈ X', r ∈ X) : Dw X' h0 h rN d sl :=
  ⟨E.sub, E.nodes, ⟨E.new.1, fun h => E.new.2 (hx _ h)⟩, E.own, fun k hk r hr => ⟨(E.fresh k hk r hr).1, (E.fresh k hk r hr).2.1, fun h => (E.fresh k hk r hr).2.2 (hx _ h)⟩, E.sep, fun r hr => E.keep r (hx r hr)⟩
/-- .. a root more that is not to be touched -/
theorem Dw.more {X : List Nat} {h0 h : Heap} {rN : Nat} {d : HDoc} {sl : Nat → AVal} (E : Dw X h0 h rN d sl) {r : Nat} (hr : h r = none) (o : AObj) : Dw (r :: X) h0 (upd h r (some o)) rN d sl := by
  have hne : rN ≠ r := fun e => by have := E.nodes; rw [e, hr] at this; cases this
  have sn : ∀ k, k < 2 * d.nodes.length → ∀ t, rootOf (sl k) = some t → t ≠ r := fun k hk t ht e => by
    obtain ⟨o', ho⟩ := E.slot hk ht; rw [e, hr] at ho; cases ho
  refine ⟨E.sub.upd (E.sub.none hr), by rw [upd_ne _ _ hne]; exact E.nodes, ⟨E.new.1, fun h => ?_⟩, fun i hi => ?_, fun k hk t ht => ⟨(E.fresh k hk t ht).1, (E.fresh k hk t ht).2.1, fun h => ?_⟩, E.sep, fun t ht => ?_⟩
  · rcases List.mem_cons.1 h with h | h
    · exact hne h
    · exact E.new.2 h
  · obtain ⟨g1, g2⟩ := E.own i hi
    exact ⟨g1.keep fun t ob ht ho => by rw [upd_ne _ _ (sn _ (by omega) t ht)]; exact ho, g2.keep fun t ob ht ho => by rw [upd_ne _ _ (sn _ (by omega) t ht)]; exact ho⟩
  · rcases List.mem_cons.1 h with h | h
    · exact sn k hk t ht h
    · exact (E.fresh k hk t ht).2.2 h
  · by_cases e : t = r
    · subst e; exact ⟨o, upd_same _ _ _⟩
    · rw [upd_ne _ _ e]; exact E.keep t ((List.mem_cons.1 ht).resolve_left e)
theorem getD_set_same {es : List (List AVal)} {k : Nat} {x : List AVal} (hk : k < es.length) : (es.set k x).getD k [] = x := by
  rw [List.getD_eq_getElem?_getD, List.getElem?_set]; simp [hk]
theorem set_set_same {es : List (List AVal)} {k : Nat} {x y : List AVal} : (es.set k x).set k y = es.set k y := by simp
end Go.Proofs.K
end
section
/- The editor: own, node, element. -/
set_option linter.unusedSimpArgs false
set_option linter.unusedVariables false
namespace Go.Proofs.K
open Go Go.Sim Go.Proofs
variable {G : Glob}
theorem Dw.cong {X : List Nat} {h0 h : Heap} {rN : Nat} {d d' : HDoc} {sl : Nat → AVal} (E : Dw X h0 h rN d sl) (h1 : d = d') : Dw X h0 h rN d' sl := h1 ▸ E
def c139 : SFun := ⟨(.seq (.reg [⟨(some 2), (.mv (.c .emp)), none⟩]) (.seq (.seq (.reg [⟨(some 3), (.mv (.t 0)), none⟩, ⟨(some 4), (.isnil 0 false (.t 3)), none⟩]) (.cond (.t 4) (.seq (.reg [⟨(some 2), (.mv (.c .emp)), none⟩]) .ret) .skip)) (.seq (.reg [⟨(some 5), (.bldF 43 6 []), none⟩, ⟨(some 6), (.mv (.t 0)), none⟩, ⟨(some 7), (.app 43 6 96 (.t 5) (.t 6)), none⟩, ⟨(some 2), (.mv (.t 7)), none⟩]) .ret))), [(.tmp 2)]⟩
theorem hc139 : toSF Tryd.prog {} Tryd.f139 = some c139 := by kernel_rfl
theorem hn139 : (Tryd.f139.name == "runtime.NumGoroutine") = false := by kernel_rfl
theorem cloneN_own {h : Heap} (l : List HNode) (hl : l.length ≤ 1073741824) : DCalls (Pg G) 139 [sl eNode l] h (AccK h 43 6 (l.map eNode)) := by
  refine dcalls_of_vc Tryd.func139 hn139 hc139 (by rw [Tryd.ntmps139]; simp) (by rw [Tryd.ntmps139]; decide) ?_
  simp -dsimp -implicitDefEqProofs (disch := omega) only [VCA, pg_gl, ↓upd_none, Nat.reduceEqDiff, Nat.reduceBEq, Nat.reduceAdd, Nat.reduceSub, Nat.reduceMul, Nat.reduceLT, Nat.reduceLeDiff, ↓reduceIte, reduceCtorEq, rsOf, rootsOf, SOp.rd, SI.rd, SX.rd, rdL, rdO, rdP, okParts, eqCells, okEqCells, fillA, okFill, setAt, implies_true, forall_const, forall_eq, ne_eq, exists_eq_right_right, exists_eq_right, exists_eq_left, exists_eq_left', eInt, eBool, lit_eq, c139]
  intro b hb
  refine Br.intro (fun ht => ?_) (fun hf => ?_)
  · simp -dsimp -implicitDefEqProofs (disch := omega) only [VCA, pg_gl, ↓upd_none, Nat.reduceEqDiff, Nat.reduceBEq, Nat.reduceAdd, Nat.reduceSub, Nat.reduceMul, Nat.reduceLT, Nat.reduceLeDiff, ↓reduceIte, reduceCtorEq, rsOf, rootsOf, SOp.rd, SI.rd, SX.rd, rdL, rdO, rdP, okParts, eqCells, okEqCells, fillA, okFill, setAt, implies_true, forall_const, forall_eq, ne_eq, exists_eq_right_right, exists_eq_right, exists_eq_left, exists_eq_left', eInt, eBool, lit_eq]
    have : l = [] := hb (by simpa using ht)
    subst this
    exact ⟨_, Sub.refl _, Acc.nil, Sub.refl _⟩
  · simp -dsimp -implicitDefEqProofs (disch := omega) only [VCA, pg_gl, ↓upd_none, Nat.reduceEqDiff, Nat.reduceBEq, Nat.reduceAdd, Nat.reduceSub, Nat.reduceMul, Nat.reduceLT, Nat.reduceLeDiff, ↓reduceIte, reduceCtorEq, rsOf, rootsOf, SOp.rd, SI.rd, SX.rd, rdL, rdO, rdP, okParts, eqCells, okEqCells, fillA, okFill, setAt, implies_true, forall_const, forall_eq, ne_eq, exists_eq_right_right, exists_eq_right, exists_eq_left, exists_eq_left', eInt, eBool, lit_eq]
    refine ⟨by omega, by omega, fun r hr => ?_⟩
    exact ⟨_, Sub.refl _, by simpa using Acc.root (cells := l.map eNode) hr (upd_same _ _ _), (Sub.refl _).upd hr⟩
def c81 : SFun := ⟨(.seq (.reg [⟨(some 2), (.mv (.c .emp)), none⟩]) (.seq (.seq (.reg [⟨(some 3), (.mv (.t 0)), none⟩, ⟨(some 4), (.isnil 0 false (.t 3)), none⟩]) (.cond (.t 4) (.seq (.reg [⟨(some 2), (.mv (.c .emp)), none⟩]) .ret) .skip)) (.seq (.reg [⟨(some 5), (.bldF 3 1 []), none⟩, ⟨(some 6), (.mv (.t 0)), none⟩, ⟨(some 7), (.app 3 1 8 (.t 5) (.t 6)), none⟩, ⟨(some 2), (.mv (.t 7)), none⟩]) .ret))), [(.tmp 2)]⟩
theorem hc81 : toSF Tryd.prog {} Tryd.f81 = some c81 := by kernel_rfl
theorem hn81 : (Tryd.f81.name == "runtime.NumGoroutine") = false := by kernel_rfl
theorem cloneZ_own {h : Heap} (l : List Int) (hl : l.length ≤ 1073741824) : DCalls (Pg G) 81 [sl eInt l] h (AccK h 3 1 (l.map eInt)) := by
  refine dcalls_of_vc Tryd.func81 hn81 hc81 (by rw [Tryd.ntmps81]; simp) (by rw [Tryd.ntmps81]; decide) ?_
  simp -dsimp -implicitDefEqProofs (disch := omega) only [VCA, pg_gl, ↓upd_none, Nat.reduceEqDiff, Nat.reduceBEq, Nat.reduceAdd, Nat.reduceSub, Nat.reduceMul, Nat.reduceLT, Nat.reduceLeDiff, ↓reduceIte, reduceCtorEq, rsOf, rootsOf, SOp.rd, SI.rd, SX.rd, rdL, rdO, rdP, okParts, eqCells, okEqCells, fillA, okFill, setAt, implies_true, forall_const, forall_eq, ne_eq, exists_eq_right_right, exists_eq_right, exists_eq_left, exists_eq_left', eInt, eBool, lit_eq, c81]
  intro b hb
  refine Br.intro (fun ht => ?_) (fun hf => ?_)
  · simp -dsimp -implicitDefEqProofs (disch := omega) only [VCA, pg_gl, ↓upd_none, Nat.reduceEqDiff, Nat.reduceBEq, Nat.reduceAdd, Nat.reduceSub, Nat.reduceMul, Nat.reduceLT, Nat.reduceLeDiff, ↓reduceIte, reduceCtorEq, rsOf, rootsOf, SOp.rd, SI.rd, SX.rd, rdL, rdO, rdP, okParts, eqCells, okEqCells, fillA, okFill, setAt, implies_true, forall_const, forall_eq, ne_eq, exists_eq_right_right, exists_eq_right, exists_eq_left, exists_eq_left', eInt, eBool, lit_eq]
    have : l = [] := hb (by simpa using ht)
    subst this
    exact ⟨_, Sub.refl _, Acc.nil, Sub.refl _⟩
  · simp -dsimp -implicitDefEqProofs (disch := omega) only [VCA, pg_gl, ↓upd_none, Nat.reduceEqDiff, Nat.reduceBEq, Nat.reduceAdd, Nat.reduceSub, Nat.reduceMul, Nat.reduceLT, Nat.reduceLeDiff, ↓reduceIte, reduceCtorEq, rsOf, rootsOf, SOp.rd, SI.rd, SX.rd, rdL, rdO, rdP, okParts, eqCells, okEqCells, fillA, okFill, setAt, implies_true, forall_const, forall_eq, ne_eq, exists_eq_right_right, exists_eq_right, exists_eq_left, exists_eq_left', eInt, eBool, lit_eq]
    refine ⟨by omega, by omega, fun r hr => ?_⟩
    exact ⟨_, Sub.refl _, by simpa using Acc.root (cells := l.map eInt) hr (upd_same _ _ _), (Sub.refl _).upd hr⟩
def c104 : SFun := ⟨(.seq (.reg [⟨(some 1), (.boxF 24 2 (.t 0)), none⟩, ⟨(some 2), (.new 24 2 [.emp, (.bool false)]), none⟩]) (.seq (.dreg [(⟨(some 6), (.fldA 0 (.t 1)), none⟩, none), (⟨(some 7), (.ld 1 false (.t 6)), none⟩, none), (⟨(some 9), (.fldA 1 (.t 1)), none⟩, none), (⟨(some 10), (.ld 1 false (.t 9)), none⟩, none), (⟨(some 8), (.call (.c (.fn 139 [] [])) [(.t 7)]), none⟩, (some [7])), (⟨(some 11), (.bld [.emp, (.bool false)] [(0, (1, (.t 8))), (1, (1, (.t 10)))]), none⟩, none), (⟨(some 3), (.new 24 2 [.emp, (.bool false)]), none⟩, (some [])), (⟨none, (.st 2 (.t 3) (.t 11)), none⟩, (some [10, 7]))]) (.seq (.seq (.reg [⟨(some 12), (.fldA 0 (.t 3)), none⟩, ⟨(some 13), (.ld 1 false (.t 12)), none⟩, ⟨(some 14), (.len (.t 13)), none⟩, ⟨(some 15), (.mv (.c (.int .i64 (0)))), none⟩]) (.block 0 (.loop (.seq (.reg [⟨(some 16), (.bin .lss (.t 15) (.t 14)), none⟩]) (.seq (.cond (.t 16) .skip (.exit 0)) (.seq (.block 1 (.seq (.reg [⟨(some 17), (.mv (.t 15)), none⟩, ⟨(some 4), (.mv (.t 17)), none⟩]) (.seq (.reg [⟨(some 18), (.fldA 0 (.t 3)), none⟩, ⟨(some 19), (.ld 1 false (.t 18)), none⟩, ⟨(some 20), (.mv (.t 4)), none⟩, ⟨(some 21), (.idxA 6 (.t 19) (.t 20)), none⟩, ⟨(some 5), (.mv (.t 21)), none⟩]) (.dreg [(⟨(some 22), (.mv (.t 5)), none⟩, none), (⟨(some 23), (.mv (.t 5)), none⟩, none), (⟨(some 24), (.mv (.t 5)), none⟩, none), (⟨(some 25), (.fldA 0 (.t 24)), none⟩, none), (⟨(some 26), (.fldA 2 (.t 25)), none⟩, none), (⟨(some 27), (.ld 1 false (.t 26)), none⟩, none), (⟨(some 29), (.mv (.t 5)), none⟩, none), (⟨(some 30), (.fldA 0 (.t 29)), none⟩, none), (⟨(some 31), (.fldA 5 (.t 30)), none⟩, none), (⟨(some 32), (.ld 1 false (.t 31)), none⟩, none), (⟨(some 28), (.call (.c (.fn 80 [] [])) [(.t 27)]), none⟩, (some [27])), (⟨(some 33), (.call (.c (.fn 81 [] [])) [(.t 32)]), none⟩, (some [32, 27])), (⟨(some 34), (.fldA 0 (.t 22)), none⟩, none), (⟨(some 35), (.fldA 2 (.t 34)), none⟩, none), (⟨none, (.st 1 (.t 35) (.t 28)), none⟩, (some [32, 27])), (⟨(some 36), (.fldA 0 (.t 23)), none⟩, none), (⟨(some 37), (.fldA 5 (.t 36)), none⟩, none), (⟨none, (.st 1 (.t 37) (.t 33)), none⟩, (some [32, 27]))])))) (.reg [⟨(some 38), (.bin .add (.t 15) (.c (.int .i64 (1)))), none⟩, ⟨(some 15), (.mv (.t 38)), none⟩]))))))) (.seq (.reg [⟨(some 39), (.ld 2 true (.t 3)), none⟩, ⟨none, (.st 2 (.t 2) (.t 39)), none⟩]) .ret)))), [(.cell 2 2 true)]⟩
theorem hc104 : toSF Tryd.prog {} Tryd.f104 = some c104 := by kernel_rfl
theorem hn104 : (Tryd.f104.name == "runtime.NumGoroutine") = false := by kernel_rfl
theorem own_ok' (d : HDoc) (sm : DocSm d) (hN : 0 < d.nodes.length) (h : Heap) : DCalls (Pg G) 104 [.agg (eDoc d)] h fun a h' => ∃ rN sl, a = .agg [.osl rN 6 0 d.nodes.length, .bool d.quirks] ∧ Dw [] h h' rN d sl ∧ ∀ k, k < 2 * d.nodes.length → Mut (sl k) := by
  have hl := sm.len
  refine dcalls_of_vc Tryd.func104 hn104 hc104 (by rw [Tryd.ntmps104]; simp) (by rw [Tryd.ntmps104]; decide) ?_
  simp -dsimp -implicitDefEqProofs (disch := omega) only [VCA, pg_gl, ↓upd_none, Nat.reduceEqDiff, Nat.reduceBEq, Nat.reduceAdd, Nat.reduceSub, Nat.reduceMul, Nat.reduceLT, Nat.reduceLeDiff, ↓reduceIte, reduceCtorEq, rsOf, rootsOf, SOp.rd, SI.rd, SX.rd, rdL, rdO, rdP, okParts, eqCells, okEqCells, fillA, okFill, setAt, implies_true, forall_const, forall_eq, ne_eq, exists_eq_right_right, exists_eq_right, exists_eq_left, exists_eq_left', eInt, eBool, lit_eq, c104, eDoc]
  intro r2 hr2
  refine DCalls.of (cloneN_own (G := G) d.nodes hl) ?_
  rintro a h1 ⟨A, S1⟩
  obtain ⟨rN, hn0, hn1, rfl⟩ := A.pos (by simpa using hN)
  rw [List.length_map]
  have n2N : ¬ rN = r2 := fun e => by rw [e] at hn0; simp [upd] at hn0
  have g2 : h1 r2 = some ⟨24, 2, [[.emp, .bool false]]⟩ := S1 _ _ (upd_same _ _ _)
  simp -dsimp -implicitDefEqProofs (disch := omega) only [VCA, pg_gl, ↓upd_none, Nat.reduceEqDiff, Nat.reduceBEq, Nat.reduceAdd, Nat.reduceSub, Nat.reduceMul, Nat.reduceLT, Nat.reduceLeDiff, ↓reduceIte, reduceCtorEq, rsOf, rootsOf, SOp.rd, SI.rd, SX.rd, rdL, rdO, rdP, okParts, eqCells, okEqCells, fillA, okFill, setAt, implies_true, forall_const, forall_eq, ne_eq, exists_eq_right_right, exists_eq_right, exists_eq_left, exists_eq_left', eInt, eBool, lit_eq]
  intro r3 hr3
  have n3N : ¬ rN = r3 := fun e => by rw [e, hr3] at hn1; cases hn1
  have n32 : ¬ r2 = r3 := fun e => by rw [e, hr3] at g2; cases g2
  have h0N : h rN = none := by rw [upd_ne _ _ n2N] at hn0; exact hn0
  have S01 : Sim.Sub h h1 := fun t o ht => S1 t o (by rw [upd_ne _ _ (fun e => by rw [e, hr2] at ht; cases ht)]; exact ht)
  have h03 : h r3 = none := S01.none hr3
  obtain ⟨sl0, hsl0⟩ : ∃ sl0 : Nat → AVal, ∀ i, sl0 (2 * i) = sl eAttr (nth d.nodes i).attrs ∧ sl0 (2 * i + 1) = sl eInt (nth d.nodes i).kids :=
    ⟨fun j => if j % 2 = 0 then sl eAttr (nth d.nodes (j / 2)).attrs else sl eInt (nth d.nodes (j / 2)).kids, fun i => by
      constructor
      · dsimp only; rw [if_pos (by omega), show 2 * i / 2 = i by omega]
      · dsimp only; rw [if_neg (by omega), show (2 * i + 1) / 2 = i by omega]⟩
  have rt : ∀ k r, rootOf (sl0 k) ≠ some r := fun k r => by
    rcases (by omega : k = 2 * (k / 2) ∨ k = 2 * (k / 2) + 1) with h | h
    · rw [h, (hsl0 _).1]; exact fun e => by cases e
    · rw [h, (hsl0 _).2]; exact fun e => by cases e
  have rows0 : rowsA d sl0 = d.nodes.map eNode := by
    apply List.ext_getElem?
    intro j
    unfold rowsA
    by_cases hj : j < d.nodes.length
    · rw [List.getElem?_map, List.getElem?_map, List.getElem?_range hj, nth_some hj, Option.map_some, Option.map_some, (hsl0 j).1, (hsl0 j).2]; rfl
    · rw [List.getElem?_eq_none (by simp; omega), List.getElem?_eq_none (by simp; omega)]
  have E0 : Dw [r2, r3] h (upd h1 r3 (some ⟨24, 2, [[.osl rN 6 0 d.nodes.length, .bool d.quirks]]⟩)) rN d sl0 := by
    refine ⟨S01.upd h03, by rw [upd_ne _ _ n3N, hn1, rows0], ⟨h0N, by simp [n2N, n3N]⟩, fun i hi => ?_, fun k _ r hr => absurd hr (rt k r), fun j k _ _ _ r hr => absurd hr (rt j r), fun r hr => ?_⟩
    · rw [(hsl0 i).1, (hsl0 i).2]
      exact ⟨.inr (.inl ⟨rfl, fun e he => by obtain ⟨x, _, rfl⟩ := List.mem_map.1 he; rfl⟩), .inr (.inl ⟨rfl, fun e he => by obtain ⟨x, _, rfl⟩ := List.mem_map.1 he; rfl⟩)⟩
    · simp only [List.mem_cons, List.mem_nil_iff, or_false] at hr
      rcases hr with rfl | rfl
      · exact ⟨_, by rw [upd_ne _ _ n32]; exact g2⟩
      · exact ⟨_, upd_same _ _ _⟩
  refine LoopVC.intro (fun m e h' => ∃ (k : Nat) (sl' : Nat → AVal), k ≤ d.nodes.length ∧ m = d.nodes.length - k ∧ e 2 = .vp r2 0 ∧ e 3 = .vp r3 0 ∧ e 14 = aInt d.nodes.length ∧ e 15 = aInt k ∧ Dw [r2, r3] h h' rN d sl' ∧
    h' r2 = some ⟨24, 2, [[.emp, .bool false]]⟩ ∧ h' r3 = some ⟨24, 2, [[.osl rN 6 0 d.nodes.length, .bool d.quirks]]⟩ ∧ (∀ j, j < 2 * k → Mut (sl' j)) ∧ ∀ j, 2 * k ≤ j → sl' j = sl0 j) d.nodes.length
    ⟨0, sl0, by omega, by omega, rfl, rfl, rfl, rfl, E0, by rw [upd_ne _ _ n32]; exact g2, upd_same _ _ _, by omega, fun _ _ => rfl⟩ ?_
  clear E0 hn1 A g2 hr3 hn0 rt rows0
  rintro m e h' ⟨k, sl', hk, rfl, he2, he3, he14, he15, E, g2, g3, hm, hs⟩
  simp -dsimp -implicitDefEqProofs (disch := omega) only [VCA, pg_gl, ↓upd_none, Nat.reduceEqDiff, Nat.reduceBEq, Nat.reduceAdd, Nat.reduceSub, Nat.reduceMul, Nat.reduceLT, Nat.reduceLeDiff, ↓reduceIte, reduceCtorEq, rsOf, rootsOf, SOp.rd, SI.rd, SX.rd, rdL, rdO, rdP, okParts, eqCells, okEqCells, fillA, okFill, setAt, implies_true, forall_const, forall_eq, ne_eq, exists_eq_right_right, exists_eq_right, exists_eq_left, exists_eq_left', eInt, eBool, lit_eq, he2, he3, he14, he15, g2, g3]
  refine Br.dec (fun hlt => ?_) (fun hge => ?_)
  · have hk' : k < d.nodes.length := by omega
    have gN := E.nodes
    have gk := rowsA_get (sl := sl') hk'
    have rl := rowsA_len d sl'
    rw [hs (2 * k) (by omega), hs (2 * k + 1) (by omega), (hsl0 k).1, (hsl0 k).2] at gk
    unfold rowA at gk
    have smk := sm.nth k
    simp -dsimp -implicitDefEqProofs (disch := omega) only [VCA, pg_gl, ↓upd_none, Nat.reduceEqDiff, Nat.reduceBEq, Nat.reduceAdd, Nat.reduceSub, Nat.reduceMul, Nat.reduceLT, Nat.reduceLeDiff, ↓reduceIte, reduceCtorEq, rsOf, rootsOf, SOp.rd, SI.rd, SX.rd, rdL, rdO, rdP, okParts, eqCells, okEqCells, fillA, okFill, setAt, implies_true, forall_const, forall_eq, ne_eq, exists_eq_right_right, exists_eq_right, exists_eq_left, exists_eq_left', eInt, eBool, lit_eq, he2, he3, he14, he15, g2, g3, gN, gk, rl]
    refine ⟨by omega, hk', hk', DCalls.of (cloneA_own (G := G) _ smk.attrs) ?_⟩
    rintro a h2 ⟨A1, T1⟩
    have gN2 := T1 _ _ gN
    simp -dsimp -implicitDefEqProofs (disch := omega) only [VCA, pg_gl, ↓upd_none, Nat.reduceEqDiff, Nat.reduceBEq, Nat.reduceAdd, Nat.reduceSub, Nat.reduceMul, Nat.reduceLT, Nat.reduceLeDiff, ↓reduceIte, reduceCtorEq, rsOf, rootsOf, SOp.rd, SI.rd, SX.rd, rdL, rdO, rdP, okParts, eqCells, okEqCells, fillA, okFill, setAt, implies_true, forall_const, forall_eq, ne_eq, exists_eq_right_right, exists_eq_right, exists_eq_left, exists_eq_left', eInt, eBool, lit_eq, he2, he3, he14, he15, g2, g3, gN, gN2, gk, rl]
    refine DCalls.of (cloneZ_own (G := G) _ smk.kids) ?_
    rintro a2 h3 ⟨A2, T2⟩
    have gN3 := T2 _ _ gN2
    obtain ⟨O1, f1, M1⟩ := OwnS.of_acc A1
    obtain ⟨O2, f2, M2⟩ := OwnS.of_acc A2
    obtain ⟨v1, c1⟩ := O1.isV
    obtain ⟨v2, c2⟩ := O2.isV
    simp -dsimp -implicitDefEqProofs (disch := omega) only [VCA, pg_gl, ↓upd_none, Nat.reduceEqDiff, Nat.reduceBEq, Nat.reduceAdd, Nat.reduceSub, Nat.reduceMul, Nat.reduceLT, Nat.reduceLeDiff, ↓reduceIte, reduceCtorEq, rsOf, rootsOf, SOp.rd, SI.rd, SX.rd, rdL, rdO, rdP, okParts, eqCells, okEqCells, fillA, okFill, setAt, implies_true, forall_const, forall_eq, ne_eq, exists_eq_right_right, exists_eq_right, exists_eq_left, exists_eq_left', eInt, eBool, lit_eq, he2, he3, he14, he15, g2, g3, gN, gN2, gN3, gk, rl, v1, c1, v2, c2, List.length_cons, List.length_nil, List.length_set, getD_set_same, set_set_same]
    have hki : (2 * k : Nat) ≠ 2 * k + 1 := by omega
    refine ⟨by omega, by omega, d.nodes.length - (k + 1), by omega, k + 1, upd (upd sl' (2 * k) a) (2 * k + 1) a2, by omega, rfl, by omega, ?_, ?_, ?_, ?_, ?_⟩
    · have u1 : upd (upd sl' (2 * k) a) (2 * k + 1) a2 (2 * k) = a := by rw [upd_ne _ _ hki, upd_same]
      have u2 : upd (upd sl' (2 * k) a) (2 * k + 1) a2 (2 * k + 1) = a2 := upd_same _ _ _
      have T : Sim.Sub h' h3 := T1.trans T2
      refine (E.put hk' (x' := nth d.nodes k) (fun j h1 h2 => by rw [upd_ne _ _ h2, upd_ne _ _ h1]) ?_ ?_ ?_ ?_ ?_ ?_).cong ?_
      · rw [u1, u2, upd_same]; rfl
      · intro r o ho hne _ _
        rw [upd_ne _ _ hne]
        exact T _ _ ho
      · rw [u1]
        exact O1.keep fun r o hr ho => by
          rw [upd_ne _ _ (fun e => by have := f1 r hr; rw [e, gN] at this; cases this)]
          exact T2 _ _ ho
      · rw [u2]
        exact O2.keep fun r o hr ho => by
          rw [upd_ne _ _ (fun e => by have := f2 r hr; rw [e, gN2] at this; cases this)]
          exact ho
      · rw [u1, u2]
        rintro r (hr | hr)
        · exact .inr (.inr (f1 r hr))
        · exact .inr (.inr (T1.none (f2 r hr)))
      · rw [u1, u2]
        intro r hr hr2
        obtain ⟨o, ho⟩ := O1.root hr
        have := f2 r hr2
        rw [ho] at this; cases this
      · have : d.nodes.set k (nth d.nodes k) = d.nodes := by
          apply List.ext_getElem?
          intro j
          rw [List.getElem?_set]
          split
          · rename_i h; subst h; first | (rw [if_pos hk', nth_some hk']) | (rw [nth_some hk'])
          · rfl
        rw [this]
    · rw [if_neg (fun e => n2N e.symm)]; exact (T1.trans T2) _ _ g2
    · rw [if_neg (fun e => n3N e.symm)]; exact (T1.trans T2) _ _ g3
    · intro j hj
      by_cases j1 : j = 2 * k + 1
      · subst j1; rw [upd_same]; exact M2
      · rw [upd_ne _ _ j1]
        by_cases j2 : j = 2 * k
        · subst j2; rw [upd_same]; exact M1
        · rw [upd_ne _ _ j2]; exact hm j (by omega)
    · intro j hj
      rw [upd_ne _ _ (by omega), upd_ne _ _ (by omega)]
      exact hs j (by omega)
  · simp -dsimp -implicitDefEqProofs (disch := omega) only [VCA, pg_gl, ↓upd_none, Nat.reduceEqDiff, Nat.reduceBEq, Nat.reduceAdd, Nat.reduceSub, Nat.reduceMul, Nat.reduceLT, Nat.reduceLeDiff, ↓reduceIte, reduceCtorEq, rsOf, rootsOf, SOp.rd, SI.rd, SX.rd, rdL, rdO, rdP, okParts, eqCells, okEqCells, fillA, okFill, setAt, implies_true, forall_const, forall_eq, ne_eq, exists_eq_right_right, exists_eq_right, exists_eq_left, exists_eq_left', eInt, eBool, lit_eq, he2, he3, he14, he15, g2, g3]
    obtain rfl : k = d.nodes.length := by omega
    exact ⟨_, Sub.refl _, rN, sl', rfl, (E.other (r := r2) (by simp) hr2 _).less (by simp), hm⟩
end Go.Proofs.K
end
section
/- The editor: node, element; lists grown. -/
set_option linter.unusedSimpArgs false
set_option linter.unusedVariables false
namespace Go.Proofs.K
open Go Go.Sim Go.Proofs
variable {G : Glob}
/-- a reader is lent what is the call's own -/
theorem DCalls.bor {P : PG} {f : Nat} {args args' : List AVal} {v : AVal} {h : Heap} (hp : PCalls P f args' v) (hs : Scal v) (hv : F2 (Vw h) args args') : DCalls P f args h fun r h' => r = v ∧ h' = h := hp.borrow hs hv.len hv.get
theorem OwnS.app {h : Heap} {ty sz b : Nat} {cells es2 : List (List AVal)} {a : AVal} (O : OwnS h ty sz cells a) (M : Mut a) (h1 : (cells.length + es2.length) * b ≤ 140737488355328) (h2 : cells.length + es2.length ≤ 140737488355328) {K : AVal → Heap → Prop}
    (hk : ∀ r' h'', h'' r' = some ⟨ty, sz, cells ++ es2⟩ → (rootOf a = some r' ∨ h r' = none) → (∀ r o, h r = some o → rootOf a ≠ some r → h'' r = some o) → K (.osl r' sz 0 (cells.length + es2.length)) h'') : Hd (appE ty sz b a es2 h) K .mk := by
  rcases O.live M with ⟨rfl, rfl⟩ | ⟨r, es, rfl, hr, hl, ht⟩
  · refine ⟨by simpa using h1, by simpa using h2, fun r hr => ?_⟩
    have := hk r (upd h r (some ⟨ty, sz, es2⟩)) (by simp) (.inr hr) (fun t o ho _ => by rw [upd_ne _ _ (fun e => by rw [e, hr] at ho; cases ho)]; exact ho)
    simpa using this
  · refine ⟨rfl, _, hr, rfl, by simpa using hl, h1, h2, fun r' hr' => ?_⟩
    have hr2 : r' = r ∨ h r' = none := by
      unfold del at hr'
      split at hr'
      · rename_i e; exact .inl e
      · exact .inr hr'
    refine hk r' _ (by simp [ht]) ?_ fun t o ho hne => ?_
    · rcases hr2 with e | e
      · left; rw [e]; rfl
      · exact .inr e
    · have e1 : t ≠ r := fun e => hne (by rw [e]; rfl)
      have e2 : t ≠ r' := fun e => by
        rcases hr2 with e3 | e3
        · exact e1 (e.trans e3)
        · rw [e, e3] at ho; cases ho
      rw [upd_ne _ _ e2]; unfold del; rw [if_neg e1]; exact ho
structure Ed (h0 h : Heap) (re rN : Nat) (d : HDoc) (sl : Nat → AVal) (made : Int) : Prop where
  dw : Dw [re] h0 h rN d sl
  ed : h re = some ⟨147, 3, [[.osl rN 6 0 d.nodes.length, .bool d.quirks, aInt made]]⟩
  new : h0 re = none
  live : ∀ k, k < 2 * d.nodes.length → Mut (sl k)
def nodeP (rN : Nat) (d : HDoc) (n : Int) : AVal := if inD d n then .ptr rN n.toNat 0 else .prim (.pointer none)
def c180 : SFun := ⟨(.seq (.reg [⟨(some 4), (.mv (.c (.prim (Value.pointer none)))), none⟩]) (.seq (.seq (.reg [⟨(some 5), (.mv (.t 1)), none⟩, ⟨(some 6), (.bin .lss (.t 5) (.c (.int .i64 (0)))), none⟩, ⟨(some 7), (.mv (.t 6)), none⟩, ⟨(some 8), (.mv (.t 1)), (some (7, false))⟩, ⟨(some 9), (.mv (.t 0)), (some (7, false))⟩, ⟨(some 10), (.fldA 0 (.t 9)), (some (7, false))⟩, ⟨(some 11), (.fldA 0 (.t 10)), (some (7, false))⟩, ⟨(some 12), (.fldA 0 (.t 11)), (some (7, false))⟩, ⟨(some 13), (.ld 1 false (.t 12)), (some (7, false))⟩, ⟨(some 14), (.len (.t 13)), (some (7, false))⟩, ⟨(some 15), (.bin .geq (.t 8) (.t 14)), (some (7, false))⟩, ⟨(some 16), (.pick (.t 7) (.c (.bool true)) (.t 15)), none⟩]) (.cond (.t 16) (.seq (.reg [⟨(some 4), (.mv (.c (.prim (Value.pointer none)))), none⟩]) .ret) .skip)) (.seq (.reg [⟨(some 17), (.mv (.t 0)), none⟩, ⟨(some 18), (.fldA 0 (.t 17)), none⟩, ⟨(some 19), (.fldA 0 (.t 18)), none⟩, ⟨(some 20), (.fldA 0 (.t 19)), none⟩, ⟨(some 21), (.ld 1 false (.t 20)), none⟩, ⟨(some 22), (.mv (.t 1)), none⟩, ⟨(some 23), (.idxA 6 (.t 21) (.t 22)), none⟩, ⟨(some 4), (.mv (.t 23)), none⟩]) .ret))), [(.tmp 4)]⟩
theorem hc180 : toSF Tryd.prog {} Tryd.f180 = some c180 := by kernel_rfl
theorem hn180 : (Tryd.f180.name == "runtime.NumGoroutine") = false := by kernel_rfl
theorem enode_ok {h0 h : Heap} {re rN : Nat} {d : HDoc} {sl : Nat → AVal} {made : Int} (E : Ed h0 h re rN d sl made) (n : Int) : DCalls (Pg G) 180 [.vp re 0, aInt n] h fun r h' => r = nodeP rN d n ∧ h' = h := by
  have g := E.ed
  refine dcalls_of_vc Tryd.func180 hn180 hc180 (by rw [Tryd.ntmps180]; simp) (by rw [Tryd.ntmps180]; decide) ?_
  unfold nodeP
  by_cases hn : inD d n
  · have n0 := hn.1
    have n1 := hn.2
    rw [if_pos hn]
    simp -dsimp -implicitDefEqProofs (disch := omega) only [↓vcOps_sp 7, ↓vcD_sp 7, VCA, pg_gl, ↓upd_none, Nat.reduceEqDiff, Nat.reduceBEq, Nat.reduceAdd, Nat.reduceSub, Nat.reduceMul, Nat.reduceLT, Nat.reduceLeDiff, ↓reduceIte, reduceCtorEq, rsOf, rootsOf, SOp.rd, SI.rd, SX.rd, rdL, rdO, rdP, okParts, eqCells, okEqCells, fillA, okFill, setAt, implies_true, forall_const, forall_eq, ne_eq, exists_eq_right_right, exists_eq_right, exists_eq_left, exists_eq_left', eInt, eBool, lit_eq, c180, g]
    repeat' (first | ((with_reducible refine Br.dec (fun _ => ?_) (fun _ => ?_)) <;> try (exfalso; omega)) | ((with_reducible refine Br.eq (fun _ => ?_) (fun _ => ?_)) <;> try (exfalso; omega)) | ((with_reducible refine Br.ne (fun _ => ?_) (fun _ => ?_)) <;> try (exfalso; omega)) | ((with_reducible refine brNdec (fun _ => ?_) (fun _ => ?_)) <;> try (exfalso; omega)) | ((with_reducible refine brNeq (fun _ => ?_) (fun _ => ?_)) <;> try (exfalso; omega)) | with_reducible refine Br.intro (fun _ => ?_) (fun _ => ?_) | (with_reducible refine And.intro ?_ ?_; · omega) | simp -dsimp -implicitDefEqProofs (disch := omega) only [↓vcOps_sp 7, ↓vcD_sp 7, VCA, pg_gl, ↓upd_none, Nat.reduceEqDiff, Nat.reduceBEq, Nat.reduceAdd, Nat.reduceSub, Nat.reduceMul, Nat.reduceLT, Nat.reduceLeDiff, ↓reduceIte, reduceCtorEq, rsOf, rootsOf, SOp.rd, SI.rd, SX.rd, rdL, rdO, rdP, okParts, eqCells, okEqCells, fillA, okFill, setAt, implies_true, forall_const, forall_eq, ne_eq, exists_eq_right_right, exists_eq_right, exists_eq_left, exists_eq_left', eInt, eBool, lit_eq, g])
    all_goals first | (exfalso; omega) | exact ⟨Sub.refl _, by simp⟩ | exact Sub.refl _
  · rw [if_neg hn]
    unfold inD at hn
    simp -dsimp -implicitDefEqProofs (disch := omega) only [↓vcOps_sp 7, ↓vcD_sp 7, VCA, pg_gl, ↓upd_none, Nat.reduceEqDiff, Nat.reduceBEq, Nat.reduceAdd, Nat.reduceSub, Nat.reduceMul, Nat.reduceLT, Nat.reduceLeDiff, ↓reduceIte, reduceCtorEq, rsOf, rootsOf, SOp.rd, SI.rd, SX.rd, rdL, rdO, rdP, okParts, eqCells, okEqCells, fillA, okFill, setAt, implies_true, forall_const, forall_eq, ne_eq, exists_eq_right_right, exists_eq_right, exists_eq_left, exists_eq_left', eInt, eBool, lit_eq, c180, g]
    repeat' (first | ((with_reducible refine Br.dec (fun _ => ?_) (fun _ => ?_)) <;> try (exfalso; omega)) | ((with_reducible refine Br.eq (fun _ => ?_) (fun _ => ?_)) <;> try (exfalso; omega)) | ((with_reducible refine Br.ne (fun _ => ?_) (fun _ => ?_)) <;> try (exfalso; omega)) | ((with_reducible refine brNdec (fun _ => ?_) (fun _ => ?_)) <;> try (exfalso; omega)) | ((with_reducible refine brNeq (fun _ => ?_) (fun _ => ?_)) <;> try (exfalso; omega)) | with_reducible refine Br.intro (fun _ => ?_) (fun _ => ?_) | (with_reducible refine And.intro ?_ ?_; · omega) | simp -dsimp -implicitDefEqProofs (disch := omega) only [↓vcOps_sp 7, ↓vcD_sp 7, VCA, pg_gl, ↓upd_none, Nat.reduceEqDiff, Nat.reduceBEq, Nat.reduceAdd, Nat.reduceSub, Nat.reduceMul, Nat.reduceLT, Nat.reduceLeDiff, ↓reduceIte, reduceCtorEq, rsOf, rootsOf, SOp.rd, SI.rd, SX.rd, rdL, rdO, rdP, okParts, eqCells, okEqCells, fillA, okFill, setAt, implies_true, forall_const, forall_eq, ne_eq, exists_eq_right_right, exists_eq_right, exists_eq_left, exists_eq_left', eInt, eBool, lit_eq, g])
    all_goals first | (exfalso; omega) | exact Sub.refl _
def elemE (d : HDoc) (n : Int) : Int := if ¬ inD d n then 5 else if (nd d n).kind ≠ 2 then 7 else 0
def c178 : SFun := ⟨(.seq (.reg [⟨(some 4), (.mv (.c (.prim (Value.pointer none)))), none⟩, ⟨(some 5), (.mv (.c (.int .i64 (0)))), none⟩]) (.seq (.reg [⟨(some 7), (.mv (.t 0)), none⟩, ⟨(some 8), (.mv (.t 1)), none⟩, ⟨(some 9), (.call (.c (.fn 180 [] [])) [(.t 7), (.t 8)]), none⟩, ⟨(some 6), (.mv (.t 9)), none⟩]) (.seq (.block 0 (.seq (.reg [⟨(some 11), (.mv (.t 6)), none⟩, ⟨(some 12), (.isnil 1 false (.t 11)), none⟩, ⟨(some 10), (.mv (.t 12)), none⟩]) (.cond (.t 10) (.seq (.reg [⟨(some 4), (.mv (.c (.prim (Value.pointer none)))), none⟩, ⟨(some 5), (.mv (.c (.int .i64 (5)))), none⟩]) .ret) (.seq (.reg [⟨(some 14), (.mv (.t 6)), none⟩, ⟨(some 15), (.fldA 0 (.t 14)), none⟩, ⟨(some 16), (.fldA 0 (.t 15)), none⟩, ⟨(some 17), (.ld 1 false (.t 16)), none⟩, ⟨(some 18), (.bin .neq (.t 17) (.c (.int .i64 (2)))), none⟩, ⟨(some 13), (.mv (.t 18)), none⟩]) (.cond (.t 13) (.seq (.reg [⟨(some 4), (.mv (.c (.prim (Value.pointer none)))), none⟩, ⟨(some 5), (.mv (.c (.int .i64 (7)))), none⟩]) .ret) .skip))))) (.seq (.reg [⟨(some 19), (.mv (.t 6)), none⟩, ⟨(some 4), (.mv (.t 19)), none⟩, ⟨(some 5), (.mv (.c (.int .i64 (0)))), none⟩]) .ret)))), [(.tmp 4), (.tmp 5)]⟩
theorem hc178 : toSF Tryd.prog {} Tryd.f178 = some c178 := by kernel_rfl
theorem hn178 : (Tryd.f178.name == "runtime.NumGoroutine") = false := by kernel_rfl
theorem element_ok {h0 h : Heap} {re rN : Nat} {d : HDoc} {sl : Nat → AVal} {made : Int} (E : Ed h0 h re rN d sl made) (n : Int) : DCalls (Pg G) 178 [.vp re 0, aInt n] h fun r h' => r = .tup [if elemE d n = 0 then .ptr rN n.toNat 0 else .prim (.pointer none), aInt (elemE d n)] ∧ h' = h := by
  have gN := E.dw.nodes
  have hE := enode_ok (G := G) E n
  unfold nodeP at hE
  refine dcalls_of_vc Tryd.func178 hn178 hc178 (by rw [Tryd.ntmps178]; simp) (by rw [Tryd.ntmps178]; decide) ?_
  simp -dsimp -implicitDefEqProofs (disch := omega) only [VCA, pg_gl, ↓upd_none, Nat.reduceEqDiff, Nat.reduceBEq, Nat.reduceAdd, Nat.reduceSub, Nat.reduceMul, Nat.reduceLT, Nat.reduceLeDiff, ↓reduceIte, reduceCtorEq, rsOf, rootsOf, SOp.rd, SI.rd, SX.rd, rdL, rdO, rdP, okParts, eqCells, okEqCells, fillA, okFill, setAt, implies_true, forall_const, forall_eq, ne_eq, exists_eq_right_right, exists_eq_right, exists_eq_left, exists_eq_left', eInt, eBool, lit_eq, c178]
  by_cases hn : inD d n
  · rw [if_pos hn] at hE
    have hn' := hn.nat.1
    have gk := rowsA_get (sl := sl) hn'
    have rl := rowsA_len d sl
    have e0 : nth d.nodes n.toNat = nd d n := rfl
    unfold rowA at gk
    have eE : elemE d n = if (nd d n).kind ≠ 2 then 7 else 0 := by unfold elemE; rw [if_neg (by simpa using hn)]
    refine DCalls.of hE ?_
    rintro _ _ ⟨rfl, rfl⟩
    rw [eE]
    repeat' (first | ((with_reducible refine Br.dec (fun _ => ?_) (fun _ => ?_)) <;> try (exfalso; omega)) | ((with_reducible refine Br.eq (fun _ => ?_) (fun _ => ?_)) <;> try (exfalso; omega)) | ((with_reducible refine Br.ne (fun _ => ?_) (fun _ => ?_)) <;> try (exfalso; omega)) | ((with_reducible refine brNdec (fun _ => ?_) (fun _ => ?_)) <;> try (exfalso; omega)) | ((with_reducible refine brNeq (fun _ => ?_) (fun _ => ?_)) <;> try (exfalso; omega)) | with_reducible refine Br.intro (fun _ => ?_) (fun _ => ?_) | (with_reducible refine And.intro ?_ ?_; · omega) | simp -dsimp -implicitDefEqProofs (disch := omega) only [VCA, pg_gl, ↓upd_none, Nat.reduceEqDiff, Nat.reduceBEq, Nat.reduceAdd, Nat.reduceSub, Nat.reduceMul, Nat.reduceLT, Nat.reduceLeDiff, ↓reduceIte, reduceCtorEq, rsOf, rootsOf, SOp.rd, SI.rd, SX.rd, rdL, rdO, rdP, okParts, eqCells, okEqCells, fillA, okFill, setAt, implies_true, forall_const, forall_eq, ne_eq, exists_eq_right_right, exists_eq_right, exists_eq_left, exists_eq_left', eInt, eBool, lit_eq, gN, gk, rl, e0])
    all_goals first | (refine ⟨Sub.refl _, ?_⟩; simp [*]; done) | trace_state
  · rw [if_neg hn] at hE
    have eE : elemE d n = 5 := by unfold elemE; rw [if_pos hn]
    refine DCalls.of hE ?_
    rintro _ _ ⟨rfl, rfl⟩
    rw [eE]
    repeat' (first | ((with_reducible refine Br.dec (fun _ => ?_) (fun _ => ?_)) <;> try (exfalso; omega)) | ((with_reducible refine Br.eq (fun _ => ?_) (fun _ => ?_)) <;> try (exfalso; omega)) | ((with_reducible refine Br.ne (fun _ => ?_) (fun _ => ?_)) <;> try (exfalso; omega)) | ((with_reducible refine brNdec (fun _ => ?_) (fun _ => ?_)) <;> try (exfalso; omega)) | ((with_reducible refine brNeq (fun _ => ?_) (fun _ => ?_)) <;> try (exfalso; omega)) | with_reducible refine Br.intro (fun _ => ?_) (fun _ => ?_) | (with_reducible refine And.intro ?_ ?_; · omega) | simp -dsimp -implicitDefEqProofs (disch := omega) only [VCA, pg_gl, ↓upd_none, Nat.reduceEqDiff, Nat.reduceBEq, Nat.reduceAdd, Nat.reduceSub, Nat.reduceMul, Nat.reduceLT, Nat.reduceLeDiff, ↓reduceIte, reduceCtorEq, rsOf, rootsOf, SOp.rd, SI.rd, SX.rd, rdL, rdO, rdP, okParts, eqCells, okEqCells, fillA, okFill, setAt, implies_true, forall_const, forall_eq, ne_eq, exists_eq_right_right, exists_eq_right, exists_eq_left, exists_eq_left', eInt, eBool, lit_eq])
    all_goals first | exact Sub.refl _ | exact ⟨Sub.refl _, rfl⟩ | trace_state
end Go.Proofs.K
end
section
/- The editor: text, drop, attr. -/
set_option linter.unusedSimpArgs false
set_option linter.unusedVariables false
namespace Go.Proofs.K
open Go Go.Sim Go.Proofs
variable {G : Glob}
/-- what an edit leaves behind -/
def EdR (h0 h : Heap) (re : Nat) (d : HDoc) (e : HEdit) (made : Int) (r : AVal) (h' : Heap) : Prop :=
  r = aInt (editE d e) ∧ ((editE d e ≠ 0 ∧ h' = h) ∨ (editE d e = 0 ∧ ∃ rN' sl', Ed h0 h' re rN' (editD d e) sl' (if e.do' = 4 then (d.nodes.length : Int) else made)))
theorem EdR.bad {h0 h : Heap} {re : Nat} {d : HDoc} {e : HEdit} {made v : Int} (h1 : editE d e = v) (h2 : v ≠ 0) : EdR h0 h re d e made (aInt v) h := ⟨by rw [h1], .inl ⟨by rw [h1]; exact h2, rfl⟩⟩
theorem EdR.good {h0 h h' : Heap} {re rN' : Nat} {d : HDoc} {sl' : Nat → AVal} {e : HEdit} {made m : Int} (h1 : editE d e = 0) (hm : m = if e.do' = 4 then (d.nodes.length : Int) else made) (E : Ed h0 h' re rN' (editD d e) sl' m) : EdR h0 h re d e made (aInt 0) h' :=
  ⟨by rw [h1], .inr ⟨h1, rN', sl', hm ▸ E⟩⟩
section
variable {h0 h : Heap} {re rN : Nat} {d : HDoc} {sl : Nat → AVal} {made : Int}
theorem Ed.ne (E : Ed h0 h re rN d sl made) : re ≠ rN := fun e => E.dw.new.2 (by simp [e])
/-- a node's row changed -/
theorem Ed.put (E : Ed h0 h re rN d sl made) {h2 : Heap} {sl' : Nat → AVal} {i : Nat} (hi : i < d.nodes.length) {x' : HNode}
    (hs : ∀ j, j ≠ 2 * i → j ≠ 2 * i + 1 → sl' j = sl j)
    (hN : h2 rN = some ⟨43, 6, (rowsA d sl).set i (rowA x' (sl' (2 * i)) (sl' (2 * i + 1)))⟩)
    (hk : ∀ r o, h r = some o → r ≠ rN → rootOf (sl (2 * i)) ≠ some r → rootOf (sl (2 * i + 1)) ≠ some r → h2 r = some o)
    (hA : OwnS h2 122 2 (x'.attrs.map eAttr) (sl' (2 * i))) (hK : OwnS h2 3 1 (x'.kids.map eInt) (sl' (2 * i + 1)))
    (hf : ∀ r, rootOf (sl' (2 * i)) = some r ∨ rootOf (sl' (2 * i + 1)) = some r → rootOf (sl (2 * i)) = some r ∨ rootOf (sl (2 * i + 1)) = some r ∨ h r = none)
    (hd : ∀ r, rootOf (sl' (2 * i)) = some r → rootOf (sl' (2 * i + 1)) ≠ some r)
    (hm : Mut (sl' (2 * i)) ∧ Mut (sl' (2 * i + 1))) : Ed h0 h2 re rN ⟨d.nodes.set i x', d.quirks⟩ sl' made := by
  have hl : (d.nodes.set i x').length = d.nodes.length := by simp
  refine ⟨E.dw.put hi hs hN hk hA hK hf hd, ?_, E.new, fun k hk' => ?_⟩
  · show h2 re = some ⟨_, 3, [[.osl rN 6 0 (d.nodes.set i x').length, _, _]]⟩
    rw [hl]
    refine hk re _ E.ed E.ne (fun h => (E.dw.fresh _ (by omega) re h).2.2 (by simp)) (fun h => (E.dw.fresh _ (by omega) re h).2.2 (by simp))
  · simp only [hl] at hk'
    by_cases e1 : k = 2 * i
    · rw [e1]; exact hm.1
    · by_cases e2 : k = 2 * i + 1
      · rw [e2]; exact hm.2
      · rw [hs k e1 e2]; exact E.live k hk'
/-- .. but for its lists -/
theorem Ed.cells (E : Ed h0 h re rN d sl made) {i : Nat} (hi : i < d.nodes.length) {x' : HNode} (hA : x'.attrs = (nth d.nodes i).attrs) (hK : x'.kids = (nth d.nodes i).kids) :
    Ed h0 (upd h rN (some ⟨43, 6, (rowsA d sl).set i (rowA x' (sl (2 * i)) (sl (2 * i + 1)))⟩)) re rN ⟨d.nodes.set i x', d.quirks⟩ sl made := by
  obtain ⟨g1, g2⟩ := E.dw.own i hi
  have k1 : ∀ k, k < 2 * d.nodes.length → ∀ r, rootOf (sl k) = some r → r ≠ rN := fun k hk r hr => (E.dw.fresh k hk r hr).2.1
  refine E.put hi (fun _ _ _ => rfl) (upd_same _ _ _) (fun r o ho hne _ _ => by rw [upd_ne _ _ hne]; exact ho) ?_ ?_ (fun r hr => by rcases hr with h | h; exact .inl h; exact .inr (.inl h)) (fun r hr => E.dw.sep _ _ (by omega) (by omega) (by omega) r hr) ⟨E.live _ (by omega), E.live _ (by omega)⟩
  · rw [hA]; exact g1.keep fun r o hr ho => by rw [upd_ne _ _ (k1 _ (by omega) r hr)]; exact ho
  · rw [hK]; exact g2.keep fun r o hr ho => by rw [upd_ne _ _ (k1 _ (by omega) r hr)]; exact ho
end
def c163 : SFun := ⟨(.seq (.reg [⟨(some 3), (.boxF 87 12 (.t 1)), none⟩, ⟨(some 4), (.mv (.c (.int .i64 (0)))), none⟩]) (.seq (.reg [⟨(some 6), (.mv (.t 0)), none⟩, ⟨(some 7), (.fldA 1 (.t 3)), none⟩, ⟨(some 8), (.ld 1 false (.t 7)), none⟩, ⟨(some 9), (.call (.c (.fn 180 [] [])) [(.t 6), (.t 8)]), none⟩, ⟨(some 5), (.mv (.t 9)), none⟩]) (.seq (.block 0 (.seq (.reg [⟨(some 11), (.mv (.t 5)), none⟩, ⟨(some 12), (.isnil 1 false (.t 11)), none⟩, ⟨(some 10), (.mv (.t 12)), none⟩]) (.cond (.t 10) (.seq (.reg [⟨(some 4), (.mv (.c (.int .i64 (5)))), none⟩]) .ret) (.seq (.reg [⟨(some 14), (.mv (.t 5)), none⟩, ⟨(some 15), (.fldA 0 (.t 14)), none⟩, ⟨(some 16), (.fldA 0 (.t 15)), none⟩, ⟨(some 17), (.ld 1 false (.t 16)), none⟩, ⟨(some 18), (.bin .neq (.t 17) (.c (.int .i64 (3)))), none⟩, ⟨(some 19), (.mv (.t 18)), none⟩, ⟨(some 20), (.mv (.t 5)), (some (19, true))⟩, ⟨(some 21), (.fldA 0 (.t 20)), (some (19, true))⟩, ⟨(some 22), (.fldA 0 (.t 21)), (some (19, true))⟩, ⟨(some 23), (.ld 1 false (.t 22)), (some (19, true))⟩, ⟨(some 24), (.bin .neq (.t 23) (.c (.int .i64 (4)))), (some (19, true))⟩, ⟨(some 25), (.pick (.t 19) (.t 24) (.c (.bool false))), none⟩, ⟨(some 13), (.mv (.t 25)), none⟩]) (.cond (.t 13) (.seq (.reg [⟨(some 4), (.mv (.c (.int .i64 (7)))), none⟩]) .ret) (.seq (.reg [⟨(some 27), (.fldA 5 (.t 3)), none⟩, ⟨(some 28), (.ld 1 false (.t 27)), none⟩, ⟨(some 29), (.lenS (.t 28)), none⟩, ⟨(some 30), (.bin .gtr (.t 29) (.c (.int .i64 (400)))), none⟩, ⟨(some 26), (.mv (.t 30)), none⟩]) (.cond (.t 26) (.seq (.reg [⟨(some 4), (.mv (.c (.int .i64 (2)))), none⟩]) .ret) .skip))))))) (.seq (.reg [⟨(some 31), (.mv (.t 5)), none⟩, ⟨(some 32), (.fldA 5 (.t 3)), none⟩, ⟨(some 33), (.ld 1 false (.t 32)), none⟩, ⟨(some 34), (.fldA 0 (.t 31)), none⟩, ⟨(some 35), (.fldA 3 (.t 34)), none⟩, ⟨none, (.st 1 (.t 35) (.t 33)), none⟩]) (.seq (.reg [⟨(some 4), (.mv (.c (.int .i64 (0)))), none⟩]) .ret))))), [(.tmp 4)]⟩
theorem hc163 : toSF Tryd.prog {} Tryd.f163 = some c163 := by kernel_rfl
theorem hn163 : (Tryd.f163.name == "runtime.NumGoroutine") = false := by kernel_rfl
theorem etext_ok {h0 h : Heap} {re rN : Nat} {d : HDoc} {sl : Nat → AVal} {made : Int} (E : Ed h0 h re rN d sl made) (e : HEdit) (he : EditSm e) (hdo : e.do' = 3) : DCalls (Pg G) 163 [.vp re 0, .agg (eEdit e)] h (EdR h0 h re d e made) := by
  have gN := E.dw.nodes
  have hE := enode_ok (G := G) E e.at'
  have vl := he.value
  unfold nodeP at hE
  have eE : editE d e = if ¬ inD d e.at' then 5 else if (nd d e.at').kind ≠ 3 ∧ (nd d e.at').kind ≠ 4 then 7 else if 400 < e.value.length then 2 else 0 := by unfold editE; rw [if_neg (by omega), if_neg (by omega), if_pos hdo]
  have eD : editD d e = setN d e.at' { nd d e.at' with text := e.value } := by unfold editD; rw [if_neg (by omega), if_neg (by omega), if_pos hdo]
  have hm4 : made = if e.do' = 4 then (d.nodes.length : Int) else made := by rw [if_neg (by omega)]
  refine dcalls_of_vc Tryd.func163 hn163 hc163 (by rw [Tryd.ntmps163]; simp) (by rw [Tryd.ntmps163]; decide) ?_
  simp -dsimp -implicitDefEqProofs (disch := omega) only [↓vcOps_sp 19, ↓vcD_sp 19, VCA, pg_gl, ↓upd_none, Nat.reduceEqDiff, Nat.reduceBEq, Nat.reduceAdd, Nat.reduceSub, Nat.reduceMul, Nat.reduceLT, Nat.reduceLeDiff, ↓reduceIte, reduceCtorEq, rsOf, rootsOf, SOp.rd, SI.rd, SX.rd, rdL, rdO, rdP, okParts, eqCells, okEqCells, fillA, okFill, setAt, implies_true, forall_const, forall_eq, ne_eq, exists_eq_right_right, exists_eq_right, exists_eq_left, exists_eq_left', eInt, eBool, lit_eq, c163, eEdit]
  by_cases hn : inD d e.at'
  · rw [if_pos hn] at hE
    have hn' := hn.nat.1
    have gk := rowsA_get (sl := sl) hn'
    have rl := rowsA_len d sl
    have e0 : nth d.nodes e.at'.toNat = nd d e.at' := rfl
    rw [e0] at gk
    have Ec := E.cells hn' (x' := { nd d e.at' with text := e.value }) rfl rfl
    unfold rowA at gk
    rw [if_neg (by simpa using hn)] at eE
    refine DCalls.of hE ?_
    rintro _ _ ⟨rfl, rfl⟩
    by_cases hk : (nd d e.at').kind ≠ 3 ∧ (nd d e.at').kind ≠ 4
    · rw [if_pos hk] at eE
      repeat' (first | ((with_reducible refine Br.dec (fun _ => ?_) (fun _ => ?_)) <;> try (exfalso; omega)) | ((with_reducible refine Br.eq (fun _ => ?_) (fun _ => ?_)) <;> try (exfalso; omega)) | ((with_reducible refine Br.ne (fun _ => ?_) (fun _ => ?_)) <;> try (exfalso; omega)) | ((with_reducible refine brNdec (fun _ => ?_) (fun _ => ?_)) <;> try (exfalso; omega)) | ((with_reducible refine brNeq (fun _ => ?_) (fun _ => ?_)) <;> try (exfalso; omega)) | with_reducible refine Br.intro (fun _ => ?_) (fun _ => ?_) | (with_reducible refine And.intro ?_ ?_; · omega) | simp -dsimp -implicitDefEqProofs (disch := omega) only [↓vcOps_sp 19, ↓vcD_sp 19, VCA, pg_gl, ↓upd_none, Nat.reduceEqDiff, Nat.reduceBEq, Nat.reduceAdd, Nat.reduceSub, Nat.reduceMul, Nat.reduceLT, Nat.reduceLeDiff, ↓reduceIte, reduceCtorEq, rsOf, rootsOf, SOp.rd, SI.rd, SX.rd, rdL, rdO, rdP, okParts, eqCells, okEqCells, fillA, okFill, setAt, implies_true, forall_const, forall_eq, ne_eq, exists_eq_right_right, exists_eq_right, exists_eq_left, exists_eq_left', eInt, eBool, lit_eq, gN, gk, rl, e0, eEdit])
      all_goals first | (exfalso; omega) | exact ⟨_, Sub.refl _, EdR.bad eE (by decide)⟩
    · rw [if_neg hk] at eE
      by_cases hv : 400 < e.value.length
      · rw [if_pos hv] at eE
        repeat' (first | ((with_reducible refine Br.dec (fun _ => ?_) (fun _ => ?_)) <;> try (exfalso; omega)) | ((with_reducible refine Br.eq (fun _ => ?_) (fun _ => ?_)) <;> try (exfalso; omega)) | ((with_reducible refine Br.ne (fun _ => ?_) (fun _ => ?_)) <;> try (exfalso; omega)) | ((with_reducible refine brNdec (fun _ => ?_) (fun _ => ?_)) <;> try (exfalso; omega)) | ((with_reducible refine brNeq (fun _ => ?_) (fun _ => ?_)) <;> try (exfalso; omega)) | with_reducible refine Br.intro (fun _ => ?_) (fun _ => ?_) | (with_reducible refine And.intro ?_ ?_; · omega) | simp -dsimp -implicitDefEqProofs (disch := omega) only [↓vcOps_sp 19, ↓vcD_sp 19, VCA, pg_gl, ↓upd_none, Nat.reduceEqDiff, Nat.reduceBEq, Nat.reduceAdd, Nat.reduceSub, Nat.reduceMul, Nat.reduceLT, Nat.reduceLeDiff, ↓reduceIte, reduceCtorEq, rsOf, rootsOf, SOp.rd, SI.rd, SX.rd, rdL, rdO, rdP, okParts, eqCells, okEqCells, fillA, okFill, setAt, implies_true, forall_const, forall_eq, ne_eq, exists_eq_right_right, exists_eq_right, exists_eq_left, exists_eq_left', eInt, eBool, lit_eq, gN, gk, rl, e0, eEdit])
        all_goals first | (exfalso; omega) | exact ⟨_, Sub.refl _, EdR.bad eE (by decide)⟩
      · rw [if_neg hv] at eE
        repeat' (first | ((with_reducible refine Br.dec (fun _ => ?_) (fun _ => ?_)) <;> try (exfalso; omega)) | ((with_reducible refine Br.eq (fun _ => ?_) (fun _ => ?_)) <;> try (exfalso; omega)) | ((with_reducible refine Br.ne (fun _ => ?_) (fun _ => ?_)) <;> try (exfalso; omega)) | ((with_reducible refine brNdec (fun _ => ?_) (fun _ => ?_)) <;> try (exfalso; omega)) | ((with_reducible refine brNeq (fun _ => ?_) (fun _ => ?_)) <;> try (exfalso; omega)) | with_reducible refine Br.intro (fun _ => ?_) (fun _ => ?_) | (with_reducible refine And.intro ?_ ?_; · omega) | simp -dsimp -implicitDefEqProofs (disch := omega) only [↓vcOps_sp 19, ↓vcD_sp 19, VCA, pg_gl, ↓upd_none, Nat.reduceEqDiff, Nat.reduceBEq, Nat.reduceAdd, Nat.reduceSub, Nat.reduceMul, Nat.reduceLT, Nat.reduceLeDiff, ↓reduceIte, reduceCtorEq, rsOf, rootsOf, SOp.rd, SI.rd, SX.rd, rdL, rdO, rdP, okParts, eqCells, okEqCells, fillA, okFill, setAt, implies_true, forall_const, forall_eq, ne_eq, exists_eq_right_right, exists_eq_right, exists_eq_left, exists_eq_left', eInt, eBool, lit_eq, gN, gk, rl, e0, eEdit])
        all_goals first | (exfalso; omega) | exact ⟨_, Sub.refl _, EdR.good eE hm4 (by rw [eD]; exact Ec)⟩
  · rw [if_neg hn] at hE
    rw [if_pos hn] at eE
    refine DCalls.of hE ?_
    rintro _ _ ⟨rfl, rfl⟩
    repeat' (first | ((with_reducible refine Br.dec (fun _ => ?_) (fun _ => ?_)) <;> try (exfalso; omega)) | ((with_reducible refine Br.eq (fun _ => ?_) (fun _ => ?_)) <;> try (exfalso; omega)) | ((with_reducible refine Br.ne (fun _ => ?_) (fun _ => ?_)) <;> try (exfalso; omega)) | ((with_reducible refine brNdec (fun _ => ?_) (fun _ => ?_)) <;> try (exfalso; omega)) | ((with_reducible refine brNeq (fun _ => ?_) (fun _ => ?_)) <;> try (exfalso; omega)) | with_reducible refine Br.intro (fun _ => ?_) (fun _ => ?_) | (with_reducible refine And.intro ?_ ?_; · omega) | simp -dsimp -implicitDefEqProofs (disch := omega) only [↓vcOps_sp 19, ↓vcD_sp 19, VCA, pg_gl, ↓upd_none, Nat.reduceEqDiff, Nat.reduceBEq, Nat.reduceAdd, Nat.reduceSub, Nat.reduceMul, Nat.reduceLT, Nat.reduceLeDiff, ↓reduceIte, reduceCtorEq, rsOf, rootsOf, SOp.rd, SI.rd, SX.rd, rdL, rdO, rdP, okParts, eqCells, okEqCells, fillA, okFill, setAt, implies_true, forall_const, forall_eq, ne_eq, exists_eq_right_right, exists_eq_right, exists_eq_left, exists_eq_left', eInt, eBool, lit_eq])
    all_goals exact ⟨_, Sub.refl _, EdR.bad eE (by decide)⟩
end Go.Proofs.K
end
section
/- The editor: drop, attr. -/
set_option linter.unusedSimpArgs false
set_option linter.unusedVariables false
namespace Go.Proofs.K
open Go Go.Sim Go.Proofs
variable {G : Glob}
def c179 : SFun := ⟨(.seq (.reg [⟨(some 6), (.mv (.c .emp)), none⟩]) (.seq (.reg [⟨(some 8), (.mv (.t 0)), none⟩, ⟨(some 9), (.mv (.t 1)), none⟩, ⟨(some 10), (.mv (.t 2)), none⟩, ⟨(some 11), (.mv (.t 0)), none⟩, ⟨(some 12), (.len (.t 11)), none⟩, ⟨(some 13), (.slM 2 (.t 8) (some (.t 9)) (some (.t 10)) (some (.t 12))), none⟩]) (.seq (.seq (.reg [⟨(some 14), (.mv (.t 1)), none⟩, ⟨(some 15), (.mv (.t 2)), none⟩, ⟨(some 16), (.bin .eql (.t 14) (.t 15)), none⟩]) (.cond (.t 16) (.seq (.reg [⟨(some 17), (.mv (.t 0)), none⟩, ⟨(some 6), (.mv (.t 17)), none⟩]) .ret) .skip)) (.seq (.reg [⟨(some 18), (.mv (.t 0)), none⟩, ⟨(some 19), (.len (.t 18)), none⟩, ⟨(some 7), (.mv (.t 19)), none⟩]) (.seq (.dreg [(⟨(some 20), (.mv (.t 0)), none⟩, none), (⟨(some 21), (.mv (.t 1)), none⟩, none), (⟨(some 22), (.slA 2 (.t 20) none (some (.t 21))), none⟩, none), (⟨(some 23), (.mv (.t 0)), none⟩, none), (⟨(some 24), (.mv (.t 2)), none⟩, none), (⟨(some 25), (.slA 2 (.t 23) (some (.t 24)) none), none⟩, none), (⟨(some 26), (.appIn 122 2 (.t 22) (.t 25)), none⟩, (some [])), (⟨(some 0), (.mv (.t 26)), none⟩, (some []))]) (.seq (.reg [⟨(some 27), (.mv (.t 0)), none⟩, ⟨(some 28), (.mv (.t 0)), none⟩, ⟨(some 29), (.len (.t 28)), none⟩, ⟨(some 30), (.mv (.t 7)), none⟩, ⟨(some 31), (.slX 2 (.t 27) (some (.t 29)) (some (.t 30))), none⟩, ⟨none, (.clear 2 [(.str []), (.str [])] (.t 31)), none⟩]) (.seq (.reg [⟨(some 32), (.mv (.t 0)), none⟩, ⟨(some 6), (.mv (.t 32)), none⟩]) .ret))))))), [(.tmp 6)]⟩
theorem hc179 : toSF Tryd.prog {how := [(26, 3), (31, 4)]} Tryd.f179 = some c179 := by kernel_rfl
theorem hn179 : (Tryd.f179.name == "runtime.NumGoroutine") = false := by kernel_rfl
theorem deleteA_ok {h : Heap} {r n i j : Nat} {es : List (List AVal)} (hr : h r = some ⟨122, 2, es⟩) (hn : n ≤ es.length) (hij : i < j) (hj : j ≤ n) (hl : n ≤ 1073741824) :
    DCalls (Pg G) 179 [.osl r 2 0 n, aInt i, aInt j] h fun a h' => a = .osl r 2 0 (n - (j - i)) ∧ ∃ es', h' = upd h r (some ⟨122, 2, es'⟩) ∧ n - (j - i) ≤ es'.length ∧ es'.take (n - (j - i)) = es.take i ++ (es.take n).drop j := by
  refine dcalls_of_vc Tryd.func179 hn179 hc179 (by rw [Tryd.ntmps179]; simp) (by rw [Tryd.ntmps179]; decide) ?_
  simp -dsimp -implicitDefEqProofs (disch := omega) only [VCA, pg_gl, ↓upd_none, Nat.reduceEqDiff, Nat.reduceBEq, Nat.reduceAdd, Nat.reduceSub, Nat.reduceMul, Nat.reduceLT, Nat.reduceLeDiff, ↓reduceIte, reduceCtorEq, rsOf, rootsOf, SOp.rd, SI.rd, SX.rd, rdL, rdO, rdP, okParts, eqCells, okEqCells, fillA, okFill, setAt, implies_true, forall_const, forall_eq, ne_eq, exists_eq_right_right, exists_eq_right, exists_eq_left, exists_eq_left', eInt, eBool, lit_eq, c179]
  refine ⟨by omega, Br.eq (fun h1 => by omega) (fun h1 => ?_)⟩
  simp -dsimp -implicitDefEqProofs (disch := omega) only [VCA, pg_gl, ↓upd_none, Nat.reduceEqDiff, Nat.reduceBEq, Nat.reduceAdd, Nat.reduceSub, Nat.reduceMul, Nat.reduceLT, Nat.reduceLeDiff, ↓reduceIte, reduceCtorEq, rsOf, rootsOf, SOp.rd, SI.rd, SX.rd, rdL, rdO, rdP, okParts, eqCells, okEqCells, fillA, okFill, setAt, implies_true, forall_const, forall_eq, ne_eq, exists_eq_right_right, exists_eq_right, exists_eq_left, exists_eq_left', eInt, eBool, lit_eq, hr, upd_same]
  have hL : (List.take (n - j) (List.drop j es)).length = n - j := by simp; omega
  have hT : (List.take i es).length = i := by simp; omega
  rw [hL]
  have e1 : i + (n - j) = n - (j - i) := by omega
  refine ⟨by omega, by omega, by omega, by omega, by omega, by omega, by simp; omega, by simp; omega, _, Sub.refl _, by rw [e1], _, rfl, ?_, ?_⟩
  · simp; omega
  · rw [← e1]
    have e2 : (List.take i es ++ List.take (n - j) (List.drop j es)).length = i + (n - j) := by rw [List.length_append, hT, hL]
    rw [List.take_append_of_le_length (by simp; omega), List.take_append_of_le_length (by rw [List.length_take, List.length_append, e2]; omega), List.take_take, Nat.min_eq_left (by omega), List.take_append_of_le_length (by omega), List.take_of_length_le (by omega), List.drop_take]
def c183 : SFun := ⟨(.seq (.reg [⟨(some 6), (.mv (.c .emp)), none⟩]) (.seq (.reg [⟨(some 8), (.mv (.t 0)), none⟩, ⟨(some 9), (.mv (.t 1)), none⟩, ⟨(some 10), (.mv (.t 2)), none⟩, ⟨(some 11), (.mv (.t 0)), none⟩, ⟨(some 12), (.len (.t 11)), none⟩, ⟨(some 13), (.slM 1 (.t 8) (some (.t 9)) (some (.t 10)) (some (.t 12))), none⟩]) (.seq (.seq (.reg [⟨(some 14), (.mv (.t 1)), none⟩, ⟨(some 15), (.mv (.t 2)), none⟩, ⟨(some 16), (.bin .eql (.t 14) (.t 15)), none⟩]) (.cond (.t 16) (.seq (.reg [⟨(some 17), (.mv (.t 0)), none⟩, ⟨(some 6), (.mv (.t 17)), none⟩]) .ret) .skip)) (.seq (.reg [⟨(some 18), (.mv (.t 0)), none⟩, ⟨(some 19), (.len (.t 18)), none⟩, ⟨(some 7), (.mv (.t 19)), none⟩]) (.seq (.dreg [(⟨(some 20), (.mv (.t 0)), none⟩, none), (⟨(some 21), (.mv (.t 1)), none⟩, none), (⟨(some 22), (.slA 1 (.t 20) none (some (.t 21))), none⟩, none), (⟨(some 23), (.mv (.t 0)), none⟩, none), (⟨(some 24), (.mv (.t 2)), none⟩, none), (⟨(some 25), (.slA 1 (.t 23) (some (.t 24)) none), none⟩, none), (⟨(some 26), (.appIn 3 1 (.t 22) (.t 25)), none⟩, (some [])), (⟨(some 0), (.mv (.t 26)), none⟩, (some []))]) (.seq (.reg [⟨(some 27), (.mv (.t 0)), none⟩, ⟨(some 28), (.mv (.t 0)), none⟩, ⟨(some 29), (.len (.t 28)), none⟩, ⟨(some 30), (.mv (.t 7)), none⟩, ⟨(some 31), (.slX 1 (.t 27) (some (.t 29)) (some (.t 30))), none⟩, ⟨none, (.clear 1 [(.int .i64 (0))] (.t 31)), none⟩]) (.seq (.reg [⟨(some 32), (.mv (.t 0)), none⟩, ⟨(some 6), (.mv (.t 32)), none⟩]) .ret))))))), [(.tmp 6)]⟩
theorem hc183 : toSF Tryd.prog {how := [(26, 3), (31, 4)]} Tryd.f183 = some c183 := by kernel_rfl
theorem hn183 : (Tryd.f183.name == "runtime.NumGoroutine") = false := by kernel_rfl
theorem deleteZ_ok {h : Heap} {r n i j : Nat} {es : List (List AVal)} (hr : h r = some ⟨3, 1, es⟩) (hn : n ≤ es.length) (hij : i < j) (hj : j ≤ n) (hl : n ≤ 1073741824) :
    DCalls (Pg G) 183 [.osl r 1 0 n, aInt i, aInt j] h fun a h' => a = .osl r 1 0 (n - (j - i)) ∧ ∃ es', h' = upd h r (some ⟨3, 1, es'⟩) ∧ n - (j - i) ≤ es'.length ∧ es'.take (n - (j - i)) = es.take i ++ (es.take n).drop j := by
  refine dcalls_of_vc Tryd.func183 hn183 hc183 (by rw [Tryd.ntmps183]; simp) (by rw [Tryd.ntmps183]; decide) ?_
  simp -dsimp -implicitDefEqProofs (disch := omega) only [VCA, pg_gl, ↓upd_none, Nat.reduceEqDiff, Nat.reduceBEq, Nat.reduceAdd, Nat.reduceSub, Nat.reduceMul, Nat.reduceLT, Nat.reduceLeDiff, ↓reduceIte, reduceCtorEq, rsOf, rootsOf, SOp.rd, SI.rd, SX.rd, rdL, rdO, rdP, okParts, eqCells, okEqCells, fillA, okFill, setAt, implies_true, forall_const, forall_eq, ne_eq, exists_eq_right_right, exists_eq_right, exists_eq_left, exists_eq_left', eInt, eBool, lit_eq, c183]
  refine ⟨by omega, Br.eq (fun h1 => by omega) (fun h1 => ?_)⟩
  simp -dsimp -implicitDefEqProofs (disch := omega) only [VCA, pg_gl, ↓upd_none, Nat.reduceEqDiff, Nat.reduceBEq, Nat.reduceAdd, Nat.reduceSub, Nat.reduceMul, Nat.reduceLT, Nat.reduceLeDiff, ↓reduceIte, reduceCtorEq, rsOf, rootsOf, SOp.rd, SI.rd, SX.rd, rdL, rdO, rdP, okParts, eqCells, okEqCells, fillA, okFill, setAt, implies_true, forall_const, forall_eq, ne_eq, exists_eq_right_right, exists_eq_right, exists_eq_left, exists_eq_left', eInt, eBool, lit_eq, hr, upd_same]
  have hL : (List.take (n - j) (List.drop j es)).length = n - j := by simp; omega
  have hT : (List.take i es).length = i := by simp; omega
  rw [hL]
  have e1 : i + (n - j) = n - (j - i) := by omega
  refine ⟨by omega, by omega, by omega, by omega, by omega, by omega, by simp; omega, by simp; omega, _, Sub.refl _, by rw [e1], _, rfl, ?_, ?_⟩
  · simp; omega
  · rw [← e1]
    have e2 : (List.take i es ++ List.take (n - j) (List.drop j es)).length = i + (n - j) := by rw [List.length_append, hT, hL]
    rw [List.take_append_of_le_length (by simp; omega), List.take_append_of_le_length (by rw [List.length_take, List.length_append, e2]; omega), List.take_take, Nat.min_eq_left (by omega), List.take_append_of_le_length (by omega), List.take_of_length_le (by omega), List.drop_take]
section
variable {h0 h : Heap} {re rN : Nat} {d : HDoc} {sl : Nat → AVal} {made : Int}
theorem Ed.root_ne (E : Ed h0 h re rN d sl made) {k : Nat} (hk : k < 2 * d.nodes.length) {r : Nat} (hr : rootOf (sl k) = some r) : r ≠ rN ∧ r ≠ re := ⟨(E.dw.fresh k hk r hr).2.1, fun e => (E.dw.fresh k hk r hr).2.2 (by simp [e])⟩
/-- attributes changed -/
theorem Ed.slotA (E : Ed h0 h re rN d sl made) {i : Nat} (hi : i < d.nodes.length) {h1 : Heap} {a' : AVal} {l' : List HAttr} (kp : ∀ r o, h r = some o → rootOf (sl (2 * i)) ≠ some r → h1 r = some o)
    (O : OwnS h1 122 2 (l'.map eAttr) a') (M : Mut a') (fr : ∀ r, rootOf a' = some r → rootOf (sl (2 * i)) = some r ∨ h r = none) :
    Ed h0 (upd h1 rN (some ⟨43, 6, (rowsA d sl).set i (rowA { nth d.nodes i with attrs := l' } a' (sl (2 * i + 1)))⟩)) re rN ⟨d.nodes.set i { nth d.nodes i with attrs := l' }, d.quirks⟩ (upd sl (2 * i) a') made := by
  have e1 : upd sl (2 * i) a' (2 * i) = a' := upd_same _ _ _
  have e2 : upd sl (2 * i) a' (2 * i + 1) = sl (2 * i + 1) := upd_ne _ _ (by omega)
  obtain ⟨g1, g2⟩ := E.dw.own i hi
  have fN : ∀ r, rootOf a' = some r → r ≠ rN := fun r hr e => by
    rcases fr r hr with h | h
    · exact (E.root_ne (by omega) h).1 e
    · rw [e, E.dw.nodes] at h; cases h
  refine E.put hi (fun j h1 _ => upd_ne _ _ h1) (by rw [e1, e2, upd_same]) (fun r o ho hne h2 _ => by rw [upd_ne _ _ hne]; exact kp r o ho h2) ?_ ?_ ?_ ?_ ?_
  · rw [e1]; exact O.keep fun r o hr ho => by rw [upd_ne _ _ (fN r hr)]; exact ho
  · rw [e2]; exact g2.keep fun r o hr ho => by
      rw [upd_ne _ _ (E.root_ne (by omega) hr).1]
      exact kp r o ho fun h => E.dw.sep _ _ (by omega) (by omega) (by omega) r h hr
  · rw [e1, e2]
    rintro r (hr | hr)
    · rcases fr r hr with h | h
      · exact .inl h
      · exact .inr (.inr h)
    · exact .inr (.inl hr)
  · rw [e1, e2]
    intro r hr hr2
    rcases fr r hr with h | h
    · exact E.dw.sep _ _ (by omega) (by omega) (by omega) r h hr2
    · obtain ⟨o, ho⟩ := g2.root hr2; rw [h] at ho; cases ho
  · rw [e1, e2]; exact ⟨M, E.live _ (by omega)⟩
/-- kids changed -/
theorem Ed.slotK (E : Ed h0 h re rN d sl made) {i : Nat} (hi : i < d.nodes.length) {h1 : Heap} {a' : AVal} {l' : List Int} (kp : ∀ r o, h r = some o → rootOf (sl (2 * i + 1)) ≠ some r → h1 r = some o)
    (O : OwnS h1 3 1 (l'.map eInt) a') (M : Mut a') (fr : ∀ r, rootOf a' = some r → rootOf (sl (2 * i + 1)) = some r ∨ h r = none) :
    Ed h0 (upd h1 rN (some ⟨43, 6, (rowsA d sl).set i (rowA { nth d.nodes i with kids := l' } (sl (2 * i)) a')⟩)) re rN ⟨d.nodes.set i { nth d.nodes i with kids := l' }, d.quirks⟩ (upd sl (2 * i + 1) a') made := by
  have e1 : upd sl (2 * i + 1) a' (2 * i + 1) = a' := upd_same _ _ _
  have e2 : upd sl (2 * i + 1) a' (2 * i) = sl (2 * i) := upd_ne _ _ (by omega)
  obtain ⟨g1, g2⟩ := E.dw.own i hi
  have fN : ∀ r, rootOf a' = some r → r ≠ rN := fun r hr e => by
    rcases fr r hr with h | h
    · exact (E.root_ne (by omega) h).1 e
    · rw [e, E.dw.nodes] at h; cases h
  refine E.put hi (fun j _ h2 => upd_ne _ _ h2) (by rw [e1, e2, upd_same]) (fun r o ho hne _ h2 => by rw [upd_ne _ _ hne]; exact kp r o ho h2) ?_ ?_ ?_ ?_ ?_
  · rw [e2]; exact g1.keep fun r o hr ho => by
      rw [upd_ne _ _ (E.root_ne (by omega) hr).1]
      exact kp r o ho fun h => E.dw.sep _ _ (by omega) (by omega) (by omega) r h hr
  · rw [e1]; exact O.keep fun r o hr ho => by rw [upd_ne _ _ (fN r hr)]; exact ho
  · rw [e1, e2]
    rintro r (hr | hr)
    · exact .inl hr
    · rcases fr r hr with h | h
      · exact .inr (.inl h)
      · exact .inr (.inr h)
  · rw [e1, e2]
    intro r hr hr2
    rcases fr r hr2 with h | h
    · exact E.dw.sep _ _ (by omega) (by omega) (by omega) r hr h
    · obtain ⟨o, ho⟩ := g1.root hr; rw [h] at ho; cases ho
  · rw [e1, e2]; exact ⟨E.live _ (by omega), M⟩
/-- attributes changed in place -/
theorem Ed.inA (E : Ed h0 h re rN d sl made) {i : Nat} (hi : i < d.nodes.length) {h1 : Heap} {l' : List HAttr} (kp : ∀ r o, h r = some o → rootOf (sl (2 * i)) ≠ some r → h1 r = some o)
    (O : OwnS h1 122 2 (l'.map eAttr) (sl (2 * i))) : Ed h0 h1 re rN ⟨d.nodes.set i { nth d.nodes i with attrs := l' }, d.quirks⟩ sl made := by
  have g := E.slotA hi kp O (E.live _ (by omega)) (fun r hr => .inl hr)
  have e : upd sl (2 * i) (sl (2 * i)) = sl := by
    funext j; unfold upd; split
    · rename_i h; rw [h]
    · rfl
  have hN : h1 rN = some ⟨43, 6, rowsA d sl⟩ := kp rN _ E.dw.nodes (fun h => (E.root_ne (by omega) h).1 rfl)
  have rs : (rowsA d sl).set i (rowA { nth d.nodes i with attrs := l' } (sl (2 * i)) (sl (2 * i + 1))) = rowsA d sl := by
    apply List.ext_getElem?
    intro j
    rw [List.getElem?_set]
    split
    · rename_i h; subst h
      rw [if_pos (by rw [rowsA_len]; exact hi)]
      unfold rowsA
      rw [List.getElem?_map, List.getElem?_range hi]; rfl
    · rfl
  rw [e, rs, upd_id hN] at g
  exact g
end
/-- reading an attribute's place in a list of one's own -/
theorem find_own {h : Heap} {l : List HAttr} {a : AVal} (O : OwnS h 122 2 (l.map eAttr) a) (name : List UInt8) (hl : l.length ≤ 1073741824) : DCalls (Pg G) 112 [a, .str name] h fun r h' => r = aInt (attrAt l name) ∧ h' = h :=
  DCalls.bor (find_ok (G := G) l name hl) (.int _ _) (.cons O.vw (.cons (.refl _) .nil))
def c162 : SFun := ⟨(.seq (.reg [⟨(some 3), (.boxF 87 12 (.t 1)), none⟩, ⟨(some 4), (.mv (.c (.int .i64 (0)))), none⟩]) (.seq (.reg [⟨(some 9), (.mv (.t 0)), none⟩, ⟨(some 10), (.fldA 1 (.t 3)), none⟩, ⟨(some 11), (.ld 1 false (.t 10)), none⟩, ⟨(some 12), (.call (.c (.fn 178 [] [])) [(.t 9), (.t 11)]), none⟩, ⟨(some 8), (.mv (.t 12)), none⟩, ⟨(some 13), (.ext (.t 8) 0), none⟩, ⟨(some 14), (.ext (.t 8) 1), none⟩, ⟨(some 5), (.mv (.t 13)), none⟩, ⟨(some 6), (.mv (.t 14)), none⟩]) (.seq (.seq (.reg [⟨(some 15), (.mv (.t 6)), none⟩, ⟨(some 16), (.bin .neq (.t 15) (.c (.int .i64 (0)))), none⟩]) (.cond (.t 16) (.seq (.reg [⟨(some 17), (.mv (.t 6)), none⟩, ⟨(some 4), (.mv (.t 17)), none⟩]) .ret) .skip)) (.seq (.dreg [(⟨(some 18), (.mv (.t 5)), none⟩, none), (⟨(some 19), (.fldA 0 (.t 18)), none⟩, none), (⟨(some 20), (.fldA 2 (.t 19)), none⟩, none), (⟨(some 21), (.ld 1 false (.t 20)), none⟩, none), (⟨(some 22), (.fldA 4 (.t 3)), none⟩, none), (⟨(some 23), (.ld 1 false (.t 22)), none⟩, none), (⟨(some 24), (.call (.c (.fn 112 [] [])) [(.t 21), (.t 23)]), none⟩, (some [21, 23])), (⟨(some 7), (.mv (.t 24)), none⟩, none)]) (.seq (.seq (.reg [⟨(some 25), (.mv (.t 7)), none⟩, ⟨(some 26), (.bin .lss (.t 25) (.c (.int .i64 (0)))), none⟩]) (.cond (.t 26) (.seq (.reg [⟨(some 4), (.mv (.c (.int .i64 (5)))), none⟩]) .ret) .skip)) (.seq (.reg [⟨(some 27), (.mv (.t 5)), none⟩, ⟨(some 28), (.mv (.t 5)), none⟩, ⟨(some 29), (.fldA 0 (.t 28)), none⟩, ⟨(some 30), (.fldA 2 (.t 29)), none⟩, ⟨(some 31), (.ld 1 false (.t 30)), none⟩, ⟨(some 32), (.mv (.t 7)), none⟩, ⟨(some 33), (.mv (.t 7)), none⟩, ⟨(some 34), (.bin .add (.t 33) (.c (.int .i64 (1)))), none⟩, ⟨(some 35), (.call (.c (.fn 179 [] [])) [(.t 31), (.t 32), (.t 34)]), none⟩, ⟨(some 36), (.fldA 0 (.t 27)), none⟩, ⟨(some 37), (.fldA 2 (.t 36)), none⟩, ⟨none, (.st 1 (.t 37) (.t 35)), none⟩]) (.seq (.reg [⟨(some 4), (.mv (.c (.int .i64 (0)))), none⟩]) .ret))))))), [(.tmp 4)]⟩
theorem hc162 : toSF Tryd.prog {} Tryd.f162 = some c162 := by kernel_rfl
theorem hn162 : (Tryd.f162.name == "runtime.NumGoroutine") = false := by kernel_rfl
theorem edrop_ok {h0 h : Heap} {re rN : Nat} {d : HDoc} {sl : Nat → AVal} {made : Int} (E : Ed h0 h re rN d sl made) (sm : DocSm d) (e : HEdit) (he : EditSm e) (hdo : e.do' = 2) : DCalls (Pg G) 162 [.vp re 0, .agg (eEdit e)] h (EdR h0 h re d e made) := by
  have gN := E.dw.nodes
  have hE := element_ok (G := G) E e.at'
  have eE : editE d e = if ¬ inD d e.at' then 5 else if (nd d e.at').kind ≠ 2 then 7 else if ¬ 0 ≤ attrAt (nd d e.at').attrs e.name then 5 else 0 := by unfold editE; rw [if_neg (by omega), if_pos hdo]
  have eD : editD d e = setN d e.at' { nd d e.at' with attrs := dropAttr (nd d e.at').attrs e.name } := by unfold editD; rw [if_neg (by omega), if_pos hdo]
  have hm4 : made = if e.do' = 4 then (d.nodes.length : Int) else made := by rw [if_neg (by omega)]
  refine dcalls_of_vc Tryd.func162 hn162 hc162 (by rw [Tryd.ntmps162]; simp) (by rw [Tryd.ntmps162]; decide) ?_
  simp -dsimp -implicitDefEqProofs (disch := omega) only [VCA, pg_gl, ↓upd_none, Nat.reduceEqDiff, Nat.reduceBEq, Nat.reduceAdd, Nat.reduceSub, Nat.reduceMul, Nat.reduceLT, Nat.reduceLeDiff, ↓reduceIte, reduceCtorEq, rsOf, rootsOf, SOp.rd, SI.rd, SX.rd, rdL, rdO, rdP, okParts, eqCells, okEqCells, fillA, okFill, setAt, implies_true, forall_const, forall_eq, ne_eq, exists_eq_right_right, exists_eq_right, exists_eq_left, exists_eq_left', eInt, eBool, lit_eq, c162, eEdit]
  by_cases hz : elemE d e.at' = 0
  · have hn : inD d e.at' := by
      unfold elemE at hz; split at hz
      · omega
      · rename_i h; exact Classical.not_not.1 h
    have hk : (nd d e.at').kind = 2 := by
      unfold elemE at hz; rw [if_neg (by simpa using hn)] at hz; split at hz
      · omega
      · rename_i h; exact Classical.not_not.1 h
    rw [hz, if_pos rfl] at hE
    rw [if_neg (by simpa using hn), if_neg (by simpa using hk)] at eE
    have hn' := hn.nat.1
    have gk := rowsA_get (sl := sl) hn'
    have rl := rowsA_len d sl
    have e0 : nth d.nodes e.at'.toNat = nd d e.at' := rfl
    rw [e0] at gk
    obtain ⟨oA, oK⟩ := E.dw.own _ hn'
    rw [e0] at oA
    have al := (sm.nd e.at').attrs
    have hF := find_own (G := G) oA e.name al
    have lv := E.live (2 * e.at'.toNat) (by omega)
    unfold rowA at gk
    by_cases hi0 : 0 ≤ attrAt (nd d e.at').attrs e.name
    · obtain ⟨g1, g2, g3⟩ := attrAt_spec _ _ hi0
      rw [if_neg (by simpa using hi0)] at eE
      have hda : dropAttr (nd d e.at').attrs e.name = (nd d e.at').attrs.take (attrAt (nd d e.at').attrs e.name).toNat ++ (nd d e.at').attrs.drop ((attrAt (nd d e.at').attrs e.name).toNat + 1) := rfl
      rw [← g3] at hF
      rcases oA.live lv with ⟨q, _⟩ | ⟨r, es, ha, hr, hl, ht⟩
      · have : (nd d e.at').attrs = [] := by simpa using q
        rw [this] at g1; simp at g1
      · rw [List.length_map] at ha hl ht
        have hD := deleteA_ok (G := G) (i := (attrAt (nd d e.at').attrs e.name).toNat) (j := (attrAt (nd d e.at').attrs e.name).toNat + 1) hr hl (by omega) (by omega) (by omega)
        have SA := fun h1 a' => E.slotA hn' (h1 := h1) (a' := a') (l' := dropAttr (nd d e.at').attrs e.name)
        rw [ha] at gk hF SA
        generalize (attrAt (nd d e.at').attrs e.name).toNat = i at *
        have hnr : ¬ rN = r := fun h => (E.root_ne (k := 2 * e.at'.toNat) (by omega) (by rw [ha]; rfl)).1 h.symm
        refine DCalls.of hE ?_
        rintro _ hh ⟨rfl, rfl⟩
        repeat' (first | ((with_reducible refine Br.dec (fun _ => ?_) (fun _ => ?_)) <;> try (exfalso; omega)) | ((with_reducible refine Br.eq (fun _ => ?_) (fun _ => ?_)) <;> try (exfalso; omega)) | ((with_reducible refine Br.ne (fun _ => ?_) (fun _ => ?_)) <;> try (exfalso; omega)) | ((with_reducible refine brNdec (fun _ => ?_) (fun _ => ?_)) <;> try (exfalso; omega)) | ((with_reducible refine brNeq (fun _ => ?_) (fun _ => ?_)) <;> try (exfalso; omega)) | with_reducible refine Br.intro (fun _ => ?_) (fun _ => ?_) | ((refine DCalls.of hF ?_; rintro _ hh ⟨rfl, rfl⟩)) | (with_reducible refine And.intro ?_ ?_; · omega) | simp -dsimp -implicitDefEqProofs (disch := omega) only [VCA, pg_gl, ↓upd_none, Nat.reduceEqDiff, Nat.reduceBEq, Nat.reduceAdd, Nat.reduceSub, Nat.reduceMul, Nat.reduceLT, Nat.reduceLeDiff, ↓reduceIte, reduceCtorEq, rsOf, rootsOf, SOp.rd, SI.rd, SX.rd, rdL, rdO, rdP, okParts, eqCells, okEqCells, fillA, okFill, setAt, implies_true, forall_const, forall_eq, ne_eq, exists_eq_right_right, exists_eq_right, exists_eq_left, exists_eq_left', eInt, eBool, lit_eq, gN, gk, rl, e0, eEdit])
        all_goals try (exfalso; omega)
        refine DCalls.of hD ?_
        rintro _ _ ⟨rfl, es', rfl, hl2, ht2⟩
        repeat' (first | ((with_reducible refine Br.dec (fun _ => ?_) (fun _ => ?_)) <;> try (exfalso; omega)) | ((with_reducible refine Br.eq (fun _ => ?_) (fun _ => ?_)) <;> try (exfalso; omega)) | ((with_reducible refine Br.ne (fun _ => ?_) (fun _ => ?_)) <;> try (exfalso; omega)) | ((with_reducible refine brNdec (fun _ => ?_) (fun _ => ?_)) <;> try (exfalso; omega)) | ((with_reducible refine brNeq (fun _ => ?_) (fun _ => ?_)) <;> try (exfalso; omega)) | with_reducible refine Br.intro (fun _ => ?_) (fun _ => ?_) | (with_reducible refine And.intro ?_ ?_; · omega) | simp -dsimp -implicitDefEqProofs (disch := omega) only [VCA, pg_gl, ↓upd_none, Nat.reduceEqDiff, Nat.reduceBEq, Nat.reduceAdd, Nat.reduceSub, Nat.reduceMul, Nat.reduceLT, Nat.reduceLeDiff, ↓reduceIte, reduceCtorEq, rsOf, rootsOf, SOp.rd, SI.rd, SX.rd, rdL, rdO, rdP, okParts, eqCells, okEqCells, fillA, okFill, setAt, implies_true, forall_const, forall_eq, ne_eq, exists_eq_right_right, exists_eq_right, exists_eq_left, exists_eq_left', eInt, eBool, lit_eq, gN, gk, rl, e0, hnr])
        have ln : (dropAttr (nd d e.at').attrs e.name).length = (nd d e.at').attrs.length - (i + 1 - i) := by
          rw [hda, List.length_append, List.length_take, List.length_drop]; omega
        have hO : OwnS (upd hh r (some ⟨122, 2, es'⟩)) 122 2 ((dropAttr (nd d e.at').attrs e.name).map eAttr) (.osl r 2 0 ((nd d e.at').attrs.length - (i + 1 - i))) :=
          .inr (.inr ⟨r, es', by rw [List.length_map, ln], upd_same _ _ _, by rw [List.length_map, ln]; exact hl2, by
            rw [List.length_map, ln, ht2, hda, List.map_append, List.map_take, List.map_drop, ← ht, List.take_take, Nat.min_eq_left (by omega)]⟩)
        refine ⟨_, Sub.refl _, EdR.good eE hm4 (by rw [eD]; exact SA _ _ (fun t o ho hne => by rw [upd_ne _ _ (fun e => hne (by rw [e]; rfl))]; exact ho) hO (fun es e => by cases e) (fun t ht => .inl ht))⟩
    · rw [if_pos hi0] at eE
      refine DCalls.of hE ?_
      rintro _ hh ⟨rfl, rfl⟩
      repeat' (first | ((with_reducible refine Br.dec (fun _ => ?_) (fun _ => ?_)) <;> try (exfalso; omega)) | ((with_reducible refine Br.eq (fun _ => ?_) (fun _ => ?_)) <;> try (exfalso; omega)) | ((with_reducible refine Br.ne (fun _ => ?_) (fun _ => ?_)) <;> try (exfalso; omega)) | ((with_reducible refine brNdec (fun _ => ?_) (fun _ => ?_)) <;> try (exfalso; omega)) | ((with_reducible refine brNeq (fun _ => ?_) (fun _ => ?_)) <;> try (exfalso; omega)) | with_reducible refine Br.intro (fun _ => ?_) (fun _ => ?_) | ((refine DCalls.of hF ?_; rintro _ hh ⟨rfl, rfl⟩)) | (with_reducible refine And.intro ?_ ?_; · omega) | simp -dsimp -implicitDefEqProofs (disch := omega) only [VCA, pg_gl, ↓upd_none, Nat.reduceEqDiff, Nat.reduceBEq, Nat.reduceAdd, Nat.reduceSub, Nat.reduceMul, Nat.reduceLT, Nat.reduceLeDiff, ↓reduceIte, reduceCtorEq, rsOf, rootsOf, SOp.rd, SI.rd, SX.rd, rdL, rdO, rdP, okParts, eqCells, okEqCells, fillA, okFill, setAt, implies_true, forall_const, forall_eq, ne_eq, exists_eq_right_right, exists_eq_right, exists_eq_left, exists_eq_left', eInt, eBool, lit_eq, gN, gk, rl, e0, eEdit])
      all_goals first | (exfalso; omega) | exact ⟨_, Sub.refl _, EdR.bad eE (by decide)⟩
  · rw [if_neg hz] at hE
    have eE2 : editE d e = elemE d e.at' := by
      unfold elemE at hz ⊢
      rw [eE]
      by_cases hn : inD d e.at'
      · rw [if_neg (by simpa using hn)] at hz ⊢
        by_cases hk : (nd d e.at').kind ≠ 2
        · rw [if_neg (show ¬ ¬ inD d e.at' from fun h => h hn)]; rw [if_pos hk]
          try rw [if_pos hk]
        · rw [if_neg hk] at hz; exact absurd rfl hz
      · rw [if_pos hn, if_pos hn]
    refine DCalls.of hE ?_
    rintro _ hh ⟨rfl, rfl⟩
    repeat' (first | ((with_reducible refine Br.dec (fun _ => ?_) (fun _ => ?_)) <;> try (exfalso; omega)) | ((with_reducible refine Br.eq (fun _ => ?_) (fun _ => ?_)) <;> try (exfalso; omega)) | ((with_reducible refine Br.ne (fun _ => ?_) (fun _ => ?_)) <;> try (exfalso; omega)) | ((with_reducible refine brNdec (fun _ => ?_) (fun _ => ?_)) <;> try (exfalso; omega)) | ((with_reducible refine brNeq (fun _ => ?_) (fun _ => ?_)) <;> try (exfalso; omega)) | with_reducible refine Br.intro (fun _ => ?_) (fun _ => ?_) | (with_reducible refine And.intro ?_ ?_; · omega) | simp -dsimp -implicitDefEqProofs (disch := omega) only [VCA, pg_gl, ↓upd_none, Nat.reduceEqDiff, Nat.reduceBEq, Nat.reduceAdd, Nat.reduceSub, Nat.reduceMul, Nat.reduceLT, Nat.reduceLeDiff, ↓reduceIte, reduceCtorEq, rsOf, rootsOf, SOp.rd, SI.rd, SX.rd, rdL, rdO, rdP, okParts, eqCells, okEqCells, fillA, okFill, setAt, implies_true, forall_const, forall_eq, ne_eq, exists_eq_right_right, exists_eq_right, exists_eq_left, exists_eq_left', eInt, eBool, lit_eq, hz])
    all_goals exact ⟨_, Sub.refl _, EdR.bad eE2 hz⟩
end Go.Proofs.K
end
