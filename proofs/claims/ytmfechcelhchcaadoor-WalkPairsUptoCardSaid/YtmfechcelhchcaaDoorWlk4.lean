/- Ways through a tree: the reference's WalkStep; Common; what must be in any case. -/
import Derived.Test.YtmfechcelhchcaaDoorWlk3
set_option linter.unusedSimpArgs false
set_option linter.unusedVariables false
namespace Go.Proofs.K
open Go Go.Sim Go.Proofs
variable {G : Glob}
/-- by a list, -1 beyond it -/
def atL (l : List Int) (i : Int) : Int := if i < 0 ∨ (l.length : Int) ≤ i then -1 else nth l i.toNat
theorem atL_head {l A R : List Int} (h : l = A ++ R) : atL l (A.length : Int) = R.headD (-1) := by
  subst h
  unfold atL
  cases R with
  | nil => rw [if_pos (by simp)]; rfl
  | cons x r =>
    rw [if_neg (by simp; omega)]
    simp [nth, List.getD_eq_getElem?_getD]
theorem atL_last {l A R : List Int} (h : l = A ++ R) (hR : R ≠ []) : atL l ((A.length : Int) - 1) = A.getLastD (-1) := by
  subst h
  unfold atL
  by_cases h0 : A = []
  · subst h0; rw [if_pos (by simp)]; rfl
  · have := List.length_pos_iff.2 h0
    have h1 := List.length_pos_iff.2 hR
    rw [if_neg (by rw [List.length_append]; omega), getLastD_nth h0]
    have e : ((A.length : Int) - 1).toNat = A.length - 1 := by omega
    rw [e]
    unfold nth
    rw [List.getD_eq_getElem?_getD, List.getElem?_append_left (by omega), ← List.getD_eq_getElem?_getD]
section
variable {d : HDoc} {n : Int} {A B : List Int}
theorem ctx_idx (V : DV d) (c : Ctx d n A B) : idxM (· == n) (below d 0) = A.length := by
  have hn := ctx_inD V c
  refine idx_nodup (below_nodup V 0 V.zero) (B := (nd d n).kids.flatMap (below d) ++ B) ?_
  rw [ctx_eq V c, below_eq V hn]; rfl
theorem ctx_at1 (V : DV d) (c : Ctx d n A B) : atL (below d 0) (A.length + 1) = nextW d n := by
  have hn := ctx_inD V c
  have : below d 0 = (A ++ [n]) ++ ((nd d n).kids.flatMap (below d) ++ B) := by rw [ctx_eq V c, below_eq V hn]; simp
  have := atL_head this
  rw [List.length_append] at this
  rw [ctx_next V c, ← this]; simp
theorem ctx_at2 (V : DV d) (c : Ctx d n A B) : atL (below d 0) (A.length - 1) = lastW d n := by
  have hn := ctx_inD V c
  rw [ctx_last V c]
  exact atL_last (ctx_eq V c) (by have := below_ne V hn; simp [this])
theorem ctx_at3 (V : DV d) (c : Ctx d n A B) : atL (below d 0) (A.length + (below d n).length) = overW d n := by
  have : below d 0 = (A ++ below d n) ++ B := by rw [ctx_eq V c]; simp
  have := atL_head this
  rw [List.length_append] at this
  rw [ctx_over V c, ← this]; simp
end
def c19_s8 : SCode := (.seq (.seq (.reg [⟨(some 121), (.mv (.t 8)), none⟩, ⟨(some 122), (.bin .lss (.t 121) (.c (.int .i64 (0)))), none⟩, ⟨(some 123), (.mv (.t 122)), none⟩, ⟨(some 124), (.mv (.t 8)), (some (123, false))⟩, ⟨(some 125), (.mv (.t 7)), (some (123, false))⟩, ⟨(some 126), (.len (.t 125)), (some (123, false))⟩, ⟨(some 127), (.bin .geq (.t 124) (.t 126)), (some (123, false))⟩, ⟨(some 128), (.pick (.t 123) (.c (.bool true)) (.t 127)), none⟩]) (.cond (.t 128) (.seq (.reg [⟨(some 6), (.mv (.c (.int .i64 (-1)))), none⟩]) .ret) .skip)) (.seq (.reg [⟨(some 129), (.mv (.t 7)), none⟩, ⟨(some 130), (.mv (.t 8)), none⟩, ⟨(some 131), (.idxA 1 (.t 129) (.t 130)), none⟩, ⟨(some 132), (.ld 1 false (.t 131)), none⟩, ⟨(some 6), (.mv (.t 132)), none⟩]) .ret))
def c19_s7 : SCode := (.seq (.seq (.reg [⟨(some 34), (.mv (.t 2)), none⟩]) (.block 0 (.seq (.reg [⟨(some 37), (.bin .eql (.t 34) (.c (.int .i64 (1)))), none⟩, ⟨(some 36), (.mv (.t 37)), none⟩]) (.cond (.t 36) (.reg [⟨(some 38), (.mv (.t 8)), none⟩, ⟨(some 39), (.bin .add (.t 38) (.c (.int .i64 (1)))), none⟩, ⟨(some 8), (.mv (.t 39)), none⟩]) (.seq (.reg [⟨(some 41), (.bin .eql (.t 34) (.c (.int .i64 (2)))), none⟩, ⟨(some 40), (.mv (.t 41)), none⟩]) (.cond (.t 40) (.reg [⟨(some 42), (.mv (.t 8)), none⟩, ⟨(some 43), (.bin .sub (.t 42) (.c (.int .i64 (1)))), none⟩, ⟨(some 8), (.mv (.t 43)), none⟩]) (.seq (.reg [⟨(some 45), (.bin .eql (.t 34) (.c (.int .i64 (3)))), none⟩, ⟨(some 44), (.mv (.t 45)), none⟩]) (.cond (.t 44) (.reg [⟨(some 46), (.mv (.t 8)), none⟩, ⟨(some 47), (.ld 2 true (.t 3)), none⟩, ⟨(some 48), (.mv (.t 1)), none⟩, ⟨(some 49), (.pcall 25 [(.t 47), (.t 48)]), none⟩, ⟨(some 50), (.len (.t 49)), none⟩, ⟨(some 51), (.bin .add (.t 46) (.t 50)), none⟩, ⟨(some 8), (.mv (.t 51)), none⟩]) (.seq (.reg [⟨(some 53), (.bin .eql (.t 34) (.c (.int .i64 (4)))), none⟩, ⟨(some 52), (.mv (.t 53)), none⟩]) (.cond (.t 52) (.seq (.seq (.reg [⟨(some 54), (.fldA 0 (.t 3)), none⟩, ⟨(some 55), (.ld 1 false (.t 54)), none⟩, ⟨(some 56), (.mv (.t 1)), none⟩, ⟨(some 57), (.idxA 6 (.t 55) (.t 56)), none⟩, ⟨(some 58), (.fldA 5 (.t 57)), none⟩, ⟨(some 59), (.ld 1 false (.t 58)), none⟩, ⟨(some 60), (.len (.t 59)), none⟩, ⟨(some 61), (.bin .eql (.t 60) (.c (.int .i64 (0)))), none⟩]) (.cond (.t 61) (.seq (.reg [⟨(some 6), (.mv (.c (.int .i64 (-1)))), none⟩]) .ret) .skip)) (.seq (.reg [⟨(some 62), (.fldA 0 (.t 3)), none⟩, ⟨(some 63), (.ld 1 false (.t 62)), none⟩, ⟨(some 64), (.mv (.t 1)), none⟩, ⟨(some 65), (.idxA 6 (.t 63) (.t 64)), none⟩, ⟨(some 66), (.fldA 5 (.t 65)), none⟩, ⟨(some 67), (.ld 1 false (.t 66)), none⟩, ⟨(some 68), (.idxA 1 (.t 67) (.c (.int .i64 (0)))), none⟩, ⟨(some 69), (.ld 1 false (.t 68)), none⟩, ⟨(some 6), (.mv (.t 69)), none⟩]) .ret)) (.seq (.reg [⟨(some 71), (.bin .eql (.t 34) (.c (.int .i64 (5)))), none⟩, ⟨(some 70), (.mv (.t 71)), none⟩]) (.cond (.t 70) (.seq (.seq (.reg [⟨(some 72), (.fldA 0 (.t 3)), none⟩, ⟨(some 73), (.ld 1 false (.t 72)), none⟩, ⟨(some 74), (.mv (.t 1)), none⟩, ⟨(some 75), (.idxA 6 (.t 73) (.t 74)), none⟩, ⟨(some 76), (.fldA 5 (.t 75)), none⟩, ⟨(some 77), (.ld 1 false (.t 76)), none⟩, ⟨(some 78), (.len (.t 77)), none⟩, ⟨(some 79), (.bin .eql (.t 78) (.c (.int .i64 (0)))), none⟩]) (.cond (.t 79) (.seq (.reg [⟨(some 6), (.mv (.c (.int .i64 (-1)))), none⟩]) .ret) .skip)) (.seq (.dreg [(⟨(some 80), (.fldA 0 (.t 3)), none⟩, none), (⟨(some 81), (.ld 1 false (.t 80)), none⟩, none), (⟨(some 82), (.mv (.t 1)), none⟩, none), (⟨(some 83), (.idxA 6 (.t 81) (.t 82)), none⟩, none), (⟨(some 84), (.fldA 5 (.t 83)), none⟩, none), (⟨(some 85), (.ld 1 false (.t 84)), none⟩, none), (⟨(some 86), (.fldA 0 (.t 3)), none⟩, none), (⟨(some 87), (.ld 1 false (.t 86)), none⟩, none), (⟨(some 88), (.mv (.t 1)), none⟩, none), (⟨(some 89), (.idxA 6 (.t 87) (.t 88)), none⟩, none), (⟨(some 90), (.fldA 5 (.t 89)), none⟩, none), (⟨(some 91), (.ld 1 false (.t 90)), none⟩, none), (⟨(some 92), (.len (.t 91)), none⟩, none), (⟨(some 93), (.bin .sub (.t 92) (.c (.int .i64 (1)))), none⟩, none), (⟨(some 94), (.idxA 1 (.t 85) (.t 93)), none⟩, none), (⟨(some 95), (.ld 1 false (.t 94)), none⟩, none), (⟨(some 6), (.mv (.t 95)), none⟩, none)]) .ret)) (.seq (.seq (.reg [⟨(some 97), (.bin .eql (.t 34) (.c (.int .i64 (6)))), none⟩, ⟨(some 96), (.mv (.t 97)), none⟩]) (.cond (.t 96) .skip (.reg [⟨(some 98), (.bin .eql (.t 34) (.c (.int .i64 (7)))), none⟩, ⟨(some 96), (.mv (.t 98)), none⟩]))) (.cond (.t 96) (.seq (.reg [⟨(some 99), (.mv (.t 11)), none⟩, ⟨(some 100), (.bin .add (.t 99) (.c (.int .i64 (1)))), none⟩, ⟨(some 11), (.mv (.t 100)), none⟩]) (.seq (.seq (.reg [⟨(some 101), (.mv (.t 2)), none⟩, ⟨(some 102), (.bin .eql (.t 101) (.c (.int .i64 (7)))), none⟩]) (.cond (.t 102) (.reg [⟨(some 103), (.mv (.t 11)), none⟩, ⟨(some 104), (.bin .sub (.t 103) (.c (.int .i64 (2)))), none⟩, ⟨(some 11), (.mv (.t 104)), none⟩]) .skip)) (.seq (.seq (.reg [⟨(some 105), (.mv (.t 9)), none⟩, ⟨(some 106), (.bin .lss (.t 105) (.c (.int .i64 (0)))), none⟩, ⟨(some 107), (.mv (.t 106)), none⟩, ⟨(some 108), (.mv (.t 11)), (some (107, false))⟩, ⟨(some 109), (.bin .lss (.t 108) (.c (.int .i64 (0)))), (some (107, false))⟩, ⟨(some 110), (.pick (.t 107) (.c (.bool true)) (.t 109)), none⟩, ⟨(some 111), (.mv (.t 110)), none⟩, ⟨(some 112), (.mv (.t 11)), (some (111, false))⟩, ⟨(some 113), (.mv (.t 10)), (some (111, false))⟩, ⟨(some 114), (.len (.t 113)), (some (111, false))⟩, ⟨(some 115), (.bin .geq (.t 112) (.t 114)), (some (111, false))⟩, ⟨(some 116), (.pick (.t 111) (.c (.bool true)) (.t 115)), none⟩]) (.cond (.t 116) (.seq (.reg [⟨(some 6), (.mv (.c (.int .i64 (-1)))), none⟩]) .ret) .skip)) (.seq (.reg [⟨(some 117), (.mv (.t 10)), none⟩, ⟨(some 118), (.mv (.t 11)), none⟩, ⟨(some 119), (.idxA 1 (.t 117) (.t 118)), none⟩, ⟨(some 120), (.ld 1 false (.t 119)), none⟩, ⟨(some 6), (.mv (.t 120)), none⟩]) .ret)))) (.seq (.reg [⟨(some 35), (.mv (.t 9)), none⟩, ⟨(some 6), (.mv (.t 35)), none⟩]) .ret))))))))))))))) c19_s8)
def c19 : SFun := ⟨(.seq (.reg [⟨(some 3), (.boxF 24 2 (.t 0)), none⟩, ⟨(some 6), (.mv (.c (.int .i64 (0)))), none⟩]) (.seq (.reg [⟨(some 12), (.ld 2 true (.t 3)), none⟩, ⟨(some 13), (.pcall 25 [(.t 12), (.c (.int .i64 (0)))]), none⟩, ⟨(some 7), (.mv (.t 13)), none⟩]) (.seq (.reg [⟨(some 14), (.mv (.t 7)), none⟩, ⟨(some 15), (.mv (.t 1)), none⟩, ⟨(some 16), (.pcall 74 [(.t 14), (.t 15)]), none⟩, ⟨(some 8), (.mv (.t 16)), none⟩]) (.seq (.reg [⟨(some 17), (.fldA 0 (.t 3)), none⟩, ⟨(some 18), (.ld 1 false (.t 17)), none⟩, ⟨(some 19), (.mv (.t 1)), none⟩, ⟨(some 20), (.idxA 6 (.t 18) (.t 19)), none⟩, ⟨(some 21), (.fldA 4 (.t 20)), none⟩, ⟨(some 22), (.ld 1 false (.t 21)), none⟩, ⟨(some 9), (.mv (.t 22)), none⟩]) (.seq (.reg [⟨(some 10), (.mv (.c .emp)), none⟩]) (.seq (.reg [⟨(some 11), (.mv (.c (.int .i64 (0)))), none⟩]) (.seq (.seq (.reg [⟨(some 23), (.mv (.t 9)), none⟩, ⟨(some 24), (.bin .geq (.t 23) (.c (.int .i64 (0)))), none⟩]) (.cond (.t 24) (.seq (.reg [⟨(some 25), (.fldA 0 (.t 3)), none⟩, ⟨(some 26), (.ld 1 false (.t 25)), none⟩, ⟨(some 27), (.mv (.t 9)), none⟩, ⟨(some 28), (.idxA 6 (.t 26) (.t 27)), none⟩, ⟨(some 29), (.fldA 5 (.t 28)), none⟩, ⟨(some 30), (.ld 1 false (.t 29)), none⟩, ⟨(some 10), (.mv (.t 30)), none⟩]) (.reg [⟨(some 31), (.mv (.t 10)), none⟩, ⟨(some 32), (.mv (.t 1)), none⟩, ⟨(some 33), (.pcall 74 [(.t 31), (.t 32)]), none⟩, ⟨(some 11), (.mv (.t 33)), none⟩])) .skip)) c19_s7))))))), [(.tmp 6)]⟩
theorem hc19 : toSF Tryd.prog {pure := [25, 74]} Tryd.f19 = some c19 := by kernel_rfl
theorem hn19 : (Tryd.f19.name == "runtime.NumGoroutine") = false := by kernel_rfl
theorem walkStep_ok (d : HDoc) (V : DV d) (sm : DocSm d) (n how : Int) (hn : inD d n) (h0 : 0 ∈ chain d n) : PCalls (Pg G) 19 [.agg (eDoc d), aInt n, aInt how] (aInt (stepW d n how)) := fun h => by
  obtain ⟨A, B, cx⟩ := ctx_of V n hn h0
  have hl := V.len
  have n0 := hn.1
  have n1 := hn.2
  have e0 : nth d.nodes n.toNat = nd d n := rfl
  have kl := (sm.nd n).kids
  have kl' : (nth d.nodes n.toNat).kids.length ≤ 1073741824 := kl
  have bl0 := below_len V V.zero
  have bln := below_len V hn
  have hi := ctx_idx V cx
  have hA : A.length ≤ (below d 0).length := by rw [ctx_eq V cx, List.length_append]; omega
  have hB0 := below_ok (G := G) d V sm 0 V.zero
  have hBn := below_ok (G := G) d V sm n hn
  have hP := placeIn_ok (G := G) (below d 0) n (by omega)
  rw [hi] at hP
  have s8 : ∀ (e : Env) (x : Int), e 7 = sl eInt (below d 0) → e 8 = aInt x → vc (Pg G) c19_s8 (retK [.tmp 6] fun r h' => r = aInt (atL (below d 0) x) ∧ h' = h) e h := by
    intro e x he7 he8
    unfold c19_s8
    skip
    simp -dsimp -implicitDefEqProofs (disch := omega) only [↓vcOps_sp 107, ↓vcD_sp 107, ↓vcOps_sp 111, ↓vcD_sp 111, ↓vcOps_sp 123, ↓vcD_sp 123, VCA, pg_gl, ↓upd_none, Nat.reduceEqDiff, Nat.reduceBEq, Nat.reduceAdd, Nat.reduceSub, Nat.reduceMul, Nat.reduceLT, Nat.reduceLeDiff, ↓reduceIte, reduceCtorEq, rsOf, rootsOf, SOp.rd, SI.rd, SX.rd, rdL, rdO, rdP, okParts, eqCells, okEqCells, fillA, okFill, setAt, implies_true, forall_const, forall_eq, ne_eq, exists_eq_right_right, exists_eq_right, exists_eq_left, exists_eq_left', eInt, eBool, lit_eq, he7, he8]
    repeat' (first | ((with_reducible refine Br.dec (fun _ => ?_) (fun _ => ?_)) <;> try (exfalso; omega)) | ((with_reducible refine Br.eq (fun _ => ?_) (fun _ => ?_)) <;> try (exfalso; omega)) | ((with_reducible refine Br.ne (fun _ => ?_) (fun _ => ?_)) <;> try (exfalso; omega)) | ((with_reducible refine brNdec (fun _ => ?_) (fun _ => ?_)) <;> try (exfalso; omega)) | ((with_reducible refine brNeq (fun _ => ?_) (fun _ => ?_)) <;> try (exfalso; omega)) | with_reducible refine Br.intro (fun _ => ?_) (fun _ => ?_) | (with_reducible refine And.intro ?_ ?_; · omega) | simp -dsimp -implicitDefEqProofs (disch := omega) only [↓vcOps_sp 107, ↓vcD_sp 107, ↓vcOps_sp 111, ↓vcD_sp 111, ↓vcOps_sp 123, ↓vcD_sp 123, VCA, pg_gl, ↓upd_none, Nat.reduceEqDiff, Nat.reduceBEq, Nat.reduceAdd, Nat.reduceSub, Nat.reduceMul, Nat.reduceLT, Nat.reduceLeDiff, ↓reduceIte, reduceCtorEq, rsOf, rootsOf, SOp.rd, SI.rd, SX.rd, rdL, rdO, rdP, okParts, eqCells, okEqCells, fillA, okFill, setAt, implies_true, forall_const, forall_eq, ne_eq, exists_eq_right_right, exists_eq_right, exists_eq_left, exists_eq_left', eInt, eBool, lit_eq, he7, he8])
    all_goals first | exact ⟨Sub.refl _, by unfold atL; rw [if_pos (by omega)]⟩ | exact ⟨Sub.refl _, by unfold atL; rw [if_neg (by omega)]⟩
  have s7 : ∀ (e : Env) (k : Int), e 1 = aInt n → e 2 = aInt how → e 3 = .pin (eDoc d) → e 7 = sl eInt (below d 0) → e 8 = aInt A.length → e 9 = aInt (nd d n).parent → e 11 = aInt k →
      ((nd d n).parent < 0 ∨ (0 ≤ (nd d n).parent ∧ e 10 = sl eInt (nd d (nd d n).parent).kids ∧ k = idxM (· == n) (nd d (nd d n).parent).kids)) → vc (Pg G) c19_s7 (retK [.tmp 6] fun r h' => r = aInt (stepW d n how) ∧ h' = h) e h := by
    intro e k he1 he2 he3 he7 he8 he9 he11 hk
    unfold c19_s7
    unfold stepW
    skip
    by_cases h1 : how = 1
    · rw [if_pos h1, ← ctx_at1 V cx]
      subst h1
      simp -dsimp -implicitDefEqProofs (disch := omega) only [↓vcOps_sp 107, ↓vcD_sp 107, ↓vcOps_sp 111, ↓vcD_sp 111, ↓vcOps_sp 123, ↓vcD_sp 123, VCA, pg_gl, ↓upd_none, Nat.reduceEqDiff, Nat.reduceBEq, Nat.reduceAdd, Nat.reduceSub, Nat.reduceMul, Nat.reduceLT, Nat.reduceLeDiff, ↓reduceIte, reduceCtorEq, rsOf, rootsOf, SOp.rd, SI.rd, SX.rd, rdL, rdO, rdP, okParts, eqCells, okEqCells, fillA, okFill, setAt, implies_true, forall_const, forall_eq, ne_eq, exists_eq_right_right, exists_eq_right, exists_eq_left, exists_eq_left', eInt, eBool, lit_eq, he1, he2, he3, he7, he8]
      repeat' (first | ((with_reducible refine Br.dec (fun _ => ?_) (fun _ => ?_)) <;> try (exfalso; omega)) | ((with_reducible refine Br.eq (fun _ => ?_) (fun _ => ?_)) <;> try (exfalso; omega)) | ((with_reducible refine Br.ne (fun _ => ?_) (fun _ => ?_)) <;> try (exfalso; omega)) | ((with_reducible refine brNdec (fun _ => ?_) (fun _ => ?_)) <;> try (exfalso; omega)) | ((with_reducible refine brNeq (fun _ => ?_) (fun _ => ?_)) <;> try (exfalso; omega)) | with_reducible refine Br.intro (fun _ => ?_) (fun _ => ?_) | (with_reducible refine And.intro ?_ ?_; · omega) | simp -dsimp -implicitDefEqProofs (disch := omega) only [↓vcOps_sp 107, ↓vcD_sp 107, ↓vcOps_sp 111, ↓vcD_sp 111, ↓vcOps_sp 123, ↓vcD_sp 123, VCA, pg_gl, ↓upd_none, Nat.reduceEqDiff, Nat.reduceBEq, Nat.reduceAdd, Nat.reduceSub, Nat.reduceMul, Nat.reduceLT, Nat.reduceLeDiff, ↓reduceIte, reduceCtorEq, rsOf, rootsOf, SOp.rd, SI.rd, SX.rd, rdL, rdO, rdP, okParts, eqCells, okEqCells, fillA, okFill, setAt, implies_true, forall_const, forall_eq, ne_eq, exists_eq_right_right, exists_eq_right, exists_eq_left, exists_eq_left', eInt, eBool, lit_eq, he1, he2, he3, he7, he8])
      exact s8 _ _ he7 rfl
    rw [if_neg h1]
    by_cases h2 : how = 2
    · rw [if_pos h2, ← ctx_at2 V cx]
      subst h2
      simp -dsimp -implicitDefEqProofs (disch := omega) only [↓vcOps_sp 107, ↓vcD_sp 107, ↓vcOps_sp 111, ↓vcD_sp 111, ↓vcOps_sp 123, ↓vcD_sp 123, VCA, pg_gl, ↓upd_none, Nat.reduceEqDiff, Nat.reduceBEq, Nat.reduceAdd, Nat.reduceSub, Nat.reduceMul, Nat.reduceLT, Nat.reduceLeDiff, ↓reduceIte, reduceCtorEq, rsOf, rootsOf, SOp.rd, SI.rd, SX.rd, rdL, rdO, rdP, okParts, eqCells, okEqCells, fillA, okFill, setAt, implies_true, forall_const, forall_eq, ne_eq, exists_eq_right_right, exists_eq_right, exists_eq_left, exists_eq_left', eInt, eBool, lit_eq, he1, he2, he3, he7, he8]
      repeat' (first | ((with_reducible refine Br.dec (fun _ => ?_) (fun _ => ?_)) <;> try (exfalso; omega)) | ((with_reducible refine Br.eq (fun _ => ?_) (fun _ => ?_)) <;> try (exfalso; omega)) | ((with_reducible refine Br.ne (fun _ => ?_) (fun _ => ?_)) <;> try (exfalso; omega)) | ((with_reducible refine brNdec (fun _ => ?_) (fun _ => ?_)) <;> try (exfalso; omega)) | ((with_reducible refine brNeq (fun _ => ?_) (fun _ => ?_)) <;> try (exfalso; omega)) | with_reducible refine Br.intro (fun _ => ?_) (fun _ => ?_) | (with_reducible refine And.intro ?_ ?_; · omega) | simp -dsimp -implicitDefEqProofs (disch := omega) only [↓vcOps_sp 107, ↓vcD_sp 107, ↓vcOps_sp 111, ↓vcD_sp 111, ↓vcOps_sp 123, ↓vcD_sp 123, VCA, pg_gl, ↓upd_none, Nat.reduceEqDiff, Nat.reduceBEq, Nat.reduceAdd, Nat.reduceSub, Nat.reduceMul, Nat.reduceLT, Nat.reduceLeDiff, ↓reduceIte, reduceCtorEq, rsOf, rootsOf, SOp.rd, SI.rd, SX.rd, rdL, rdO, rdP, okParts, eqCells, okEqCells, fillA, okFill, setAt, implies_true, forall_const, forall_eq, ne_eq, exists_eq_right_right, exists_eq_right, exists_eq_left, exists_eq_left', eInt, eBool, lit_eq, he1, he2, he3, he7, he8])
      exact s8 _ _ he7 rfl
    rw [if_neg h2]
    by_cases h3 : how = 3
    · rw [if_pos h3, ← ctx_at3 V cx]
      subst h3
      simp -dsimp -implicitDefEqProofs (disch := omega) only [↓vcOps_sp 107, ↓vcD_sp 107, ↓vcOps_sp 111, ↓vcD_sp 111, ↓vcOps_sp 123, ↓vcD_sp 123, VCA, pg_gl, ↓upd_none, Nat.reduceEqDiff, Nat.reduceBEq, Nat.reduceAdd, Nat.reduceSub, Nat.reduceMul, Nat.reduceLT, Nat.reduceLeDiff, ↓reduceIte, reduceCtorEq, rsOf, rootsOf, SOp.rd, SI.rd, SX.rd, rdL, rdO, rdP, okParts, eqCells, okEqCells, fillA, okFill, setAt, implies_true, forall_const, forall_eq, ne_eq, exists_eq_right_right, exists_eq_right, exists_eq_left, exists_eq_left', eInt, eBool, lit_eq, he1, he2, he3, he7, he8, eDoc_len, eDoc_take]
      repeat' (first | ((with_reducible refine Br.dec (fun _ => ?_) (fun _ => ?_)) <;> try (exfalso; omega)) | ((with_reducible refine Br.eq (fun _ => ?_) (fun _ => ?_)) <;> try (exfalso; omega)) | ((with_reducible refine Br.ne (fun _ => ?_) (fun _ => ?_)) <;> try (exfalso; omega)) | ((with_reducible refine brNdec (fun _ => ?_) (fun _ => ?_)) <;> try (exfalso; omega)) | ((with_reducible refine brNeq (fun _ => ?_) (fun _ => ?_)) <;> try (exfalso; omega)) | with_reducible refine Br.intro (fun _ => ?_) (fun _ => ?_) | (with_reducible apply pcallE.of; · exact hBn) | (with_reducible refine And.intro ?_ ?_; · omega) | simp -dsimp -implicitDefEqProofs (disch := omega) only [↓vcOps_sp 107, ↓vcD_sp 107, ↓vcOps_sp 111, ↓vcD_sp 111, ↓vcOps_sp 123, ↓vcD_sp 123, VCA, pg_gl, ↓upd_none, Nat.reduceEqDiff, Nat.reduceBEq, Nat.reduceAdd, Nat.reduceSub, Nat.reduceMul, Nat.reduceLT, Nat.reduceLeDiff, ↓reduceIte, reduceCtorEq, rsOf, rootsOf, SOp.rd, SI.rd, SX.rd, rdL, rdO, rdP, okParts, eqCells, okEqCells, fillA, okFill, setAt, implies_true, forall_const, forall_eq, ne_eq, exists_eq_right_right, exists_eq_right, exists_eq_left, exists_eq_left', eInt, eBool, lit_eq, he1, he2, he3, he7, he8, eDoc_len, eDoc_take])
      exact s8 _ _ he7 rfl
    rw [if_neg h3]
    by_cases h4 : how = 4
    · rw [if_pos h4]
      subst h4
      simp -dsimp -implicitDefEqProofs (disch := omega) only [↓vcOps_sp 107, ↓vcD_sp 107, ↓vcOps_sp 111, ↓vcD_sp 111, ↓vcOps_sp 123, ↓vcD_sp 123, VCA, pg_gl, ↓upd_none, Nat.reduceEqDiff, Nat.reduceBEq, Nat.reduceAdd, Nat.reduceSub, Nat.reduceMul, Nat.reduceLT, Nat.reduceLeDiff, ↓reduceIte, reduceCtorEq, rsOf, rootsOf, SOp.rd, SI.rd, SX.rd, rdL, rdO, rdP, okParts, eqCells, okEqCells, fillA, okFill, setAt, implies_true, forall_const, forall_eq, ne_eq, exists_eq_right_right, exists_eq_right, exists_eq_left, exists_eq_left', eInt, eBool, lit_eq, he1, he2, he3, he7, he8]
      repeat' (first | ((with_reducible refine Br.dec (fun _ => ?_) (fun _ => ?_)) <;> try (exfalso; omega)) | ((with_reducible refine Br.eq (fun _ => ?_) (fun _ => ?_)) <;> try (exfalso; omega)) | ((with_reducible refine Br.ne (fun _ => ?_) (fun _ => ?_)) <;> try (exfalso; omega)) | ((with_reducible refine brNdec (fun _ => ?_) (fun _ => ?_)) <;> try (exfalso; omega)) | ((with_reducible refine brNeq (fun _ => ?_) (fun _ => ?_)) <;> try (exfalso; omega)) | with_reducible refine Br.intro (fun _ => ?_) (fun _ => ?_) | (with_reducible refine And.intro ?_ ?_; · omega) | simp -dsimp -implicitDefEqProofs (disch := omega) only [↓vcOps_sp 107, ↓vcD_sp 107, ↓vcOps_sp 111, ↓vcD_sp 111, ↓vcOps_sp 123, ↓vcD_sp 123, VCA, pg_gl, ↓upd_none, Nat.reduceEqDiff, Nat.reduceBEq, Nat.reduceAdd, Nat.reduceSub, Nat.reduceMul, Nat.reduceLT, Nat.reduceLeDiff, ↓reduceIte, reduceCtorEq, rsOf, rootsOf, SOp.rd, SI.rd, SX.rd, rdL, rdO, rdP, okParts, eqCells, okEqCells, fillA, okFill, setAt, implies_true, forall_const, forall_eq, ne_eq, exists_eq_right_right, exists_eq_right, exists_eq_left, exists_eq_left', eInt, eBool, lit_eq, he1, he2, he3, he7, he8, eDoc, eNode])
      · rename_i q
        rw [e0] at q
        exact ⟨Sub.refl _, by rw [kid_no (List.eq_nil_of_length_eq_zero (by omega))]⟩
      · rename_i q
        rw [e0] at q ⊢
        have hne : (nd d n).kids ≠ [] := fun e => q (by rw [e]; rfl)
        exact ⟨Sub.refl _, by unfold kidW; rw [if_neg (by simp), headD_nth hne]⟩
    rw [if_neg h4]
    by_cases h5 : how = 5
    · rw [if_pos h5]
      subst h5
      simp -dsimp -implicitDefEqProofs (disch := omega) only [↓vcOps_sp 107, ↓vcD_sp 107, ↓vcOps_sp 111, ↓vcD_sp 111, ↓vcOps_sp 123, ↓vcD_sp 123, VCA, pg_gl, ↓upd_none, Nat.reduceEqDiff, Nat.reduceBEq, Nat.reduceAdd, Nat.reduceSub, Nat.reduceMul, Nat.reduceLT, Nat.reduceLeDiff, ↓reduceIte, reduceCtorEq, rsOf, rootsOf, SOp.rd, SI.rd, SX.rd, rdL, rdO, rdP, okParts, eqCells, okEqCells, fillA, okFill, setAt, implies_true, forall_const, forall_eq, ne_eq, exists_eq_right_right, exists_eq_right, exists_eq_left, exists_eq_left', eInt, eBool, lit_eq, he1, he2, he3, he7, he8]
      repeat' (first | ((with_reducible refine Br.dec (fun _ => ?_) (fun _ => ?_)) <;> try (exfalso; omega)) | ((with_reducible refine Br.eq (fun _ => ?_) (fun _ => ?_)) <;> try (exfalso; omega)) | ((with_reducible refine Br.ne (fun _ => ?_) (fun _ => ?_)) <;> try (exfalso; omega)) | ((with_reducible refine brNdec (fun _ => ?_) (fun _ => ?_)) <;> try (exfalso; omega)) | ((with_reducible refine brNeq (fun _ => ?_) (fun _ => ?_)) <;> try (exfalso; omega)) | with_reducible refine Br.intro (fun _ => ?_) (fun _ => ?_) | (with_reducible refine And.intro ?_ ?_; · omega) | simp -dsimp -implicitDefEqProofs (disch := omega) only [↓vcOps_sp 107, ↓vcD_sp 107, ↓vcOps_sp 111, ↓vcD_sp 111, ↓vcOps_sp 123, ↓vcD_sp 123, VCA, pg_gl, ↓upd_none, Nat.reduceEqDiff, Nat.reduceBEq, Nat.reduceAdd, Nat.reduceSub, Nat.reduceMul, Nat.reduceLT, Nat.reduceLeDiff, ↓reduceIte, reduceCtorEq, rsOf, rootsOf, SOp.rd, SI.rd, SX.rd, rdL, rdO, rdP, okParts, eqCells, okEqCells, fillA, okFill, setAt, implies_true, forall_const, forall_eq, ne_eq, exists_eq_right_right, exists_eq_right, exists_eq_left, exists_eq_left', eInt, eBool, lit_eq, he1, he2, he3, he7, he8, eDoc, eNode])
      · rename_i q
        rw [e0] at q
        exact ⟨Sub.refl _, by rw [kid_no (List.eq_nil_of_length_eq_zero (by omega))]⟩
      · rename_i q
        rw [e0] at q ⊢
        have hne : (nd d n).kids ≠ [] := fun e => q (by rw [e]; rfl)
        have := List.length_pos_iff.2 hne
        have e2 : ((nd d n).kids.length - 1 : Int).toNat = (nd d n).kids.length - 1 := by omega
        exact ⟨Sub.refl _, by unfold kidW; rw [if_pos rfl, getLastD_nth hne, e2]⟩
    rw [if_neg h5]
    have kz : ∀ b : Int, 0 ≤ (nd d n).parent → besideW d n b = if idxM (· == n) (nd d (nd d n).parent).kids + b < 0 ∨ ((nd d (nd d n).parent).kids.length : Int) ≤ idxM (· == n) (nd d (nd d n).parent).kids + b then -1 else nth (nd d (nd d n).parent).kids (idxM (· == n) (nd d (nd d n).parent).kids + b).toNat := fun b hb => by
      unfold besideW; rw [if_neg (by omega)]
    have hq := idxM_le (nd d (nd d n).parent).kids n
    have kp := (sm.nd (nd d n).parent).kids
    by_cases h6 : how = 6
    · rw [if_pos h6]
      subst h6
      rcases hk with hk | ⟨hk, he10, rfl⟩
      · rw [beside_top V hk]
        simp -dsimp -implicitDefEqProofs (disch := omega) only [↓vcOps_sp 107, ↓vcD_sp 107, ↓vcOps_sp 111, ↓vcD_sp 111, ↓vcOps_sp 123, ↓vcD_sp 123, VCA, pg_gl, ↓upd_none, Nat.reduceEqDiff, Nat.reduceBEq, Nat.reduceAdd, Nat.reduceSub, Nat.reduceMul, Nat.reduceLT, Nat.reduceLeDiff, ↓reduceIte, reduceCtorEq, rsOf, rootsOf, SOp.rd, SI.rd, SX.rd, rdL, rdO, rdP, okParts, eqCells, okEqCells, fillA, okFill, setAt, implies_true, forall_const, forall_eq, ne_eq, exists_eq_right_right, exists_eq_right, exists_eq_left, exists_eq_left', eInt, eBool, lit_eq, he1, he2, he3, he7, he8, he9, he11]
        repeat' (first | ((with_reducible refine Br.dec (fun _ => ?_) (fun _ => ?_)) <;> try (exfalso; omega)) | ((with_reducible refine Br.eq (fun _ => ?_) (fun _ => ?_)) <;> try (exfalso; omega)) | ((with_reducible refine Br.ne (fun _ => ?_) (fun _ => ?_)) <;> try (exfalso; omega)) | ((with_reducible refine brNdec (fun _ => ?_) (fun _ => ?_)) <;> try (exfalso; omega)) | ((with_reducible refine brNeq (fun _ => ?_) (fun _ => ?_)) <;> try (exfalso; omega)) | with_reducible refine Br.intro (fun _ => ?_) (fun _ => ?_) | (with_reducible refine And.intro ?_ ?_; · omega) | simp -dsimp -implicitDefEqProofs (disch := omega) only [↓vcOps_sp 107, ↓vcD_sp 107, ↓vcOps_sp 111, ↓vcD_sp 111, ↓vcOps_sp 123, ↓vcD_sp 123, VCA, pg_gl, ↓upd_none, Nat.reduceEqDiff, Nat.reduceBEq, Nat.reduceAdd, Nat.reduceSub, Nat.reduceMul, Nat.reduceLT, Nat.reduceLeDiff, ↓reduceIte, reduceCtorEq, rsOf, rootsOf, SOp.rd, SI.rd, SX.rd, rdL, rdO, rdP, okParts, eqCells, okEqCells, fillA, okFill, setAt, implies_true, forall_const, forall_eq, ne_eq, exists_eq_right_right, exists_eq_right, exists_eq_left, exists_eq_left', eInt, eBool, lit_eq, he1, he2, he3, he7, he8, he9, he11])
        all_goals first | exact Sub.refl _ | exact absurd hk (by omega)
      · rw [kz _ hk]
        generalize idxM (· == n) (nd d (nd d n).parent).kids = x at hq he11 ⊢
        simp -dsimp -implicitDefEqProofs (disch := omega) only [↓vcOps_sp 107, ↓vcD_sp 107, ↓vcOps_sp 111, ↓vcD_sp 111, ↓vcOps_sp 123, ↓vcD_sp 123, VCA, pg_gl, ↓upd_none, Nat.reduceEqDiff, Nat.reduceBEq, Nat.reduceAdd, Nat.reduceSub, Nat.reduceMul, Nat.reduceLT, Nat.reduceLeDiff, ↓reduceIte, reduceCtorEq, rsOf, rootsOf, SOp.rd, SI.rd, SX.rd, rdL, rdO, rdP, okParts, eqCells, okEqCells, fillA, okFill, setAt, implies_true, forall_const, forall_eq, ne_eq, exists_eq_right_right, exists_eq_right, exists_eq_left, exists_eq_left', eInt, eBool, lit_eq, he1, he2, he3, he7, he8, he9, he10, he11]
        repeat' (first | ((with_reducible refine Br.dec (fun _ => ?_) (fun _ => ?_)) <;> try (exfalso; omega)) | ((with_reducible refine Br.eq (fun _ => ?_) (fun _ => ?_)) <;> try (exfalso; omega)) | ((with_reducible refine Br.ne (fun _ => ?_) (fun _ => ?_)) <;> try (exfalso; omega)) | ((with_reducible refine brNdec (fun _ => ?_) (fun _ => ?_)) <;> try (exfalso; omega)) | ((with_reducible refine brNeq (fun _ => ?_) (fun _ => ?_)) <;> try (exfalso; omega)) | with_reducible refine Br.intro (fun _ => ?_) (fun _ => ?_) | (with_reducible refine And.intro ?_ ?_; · omega) | simp -dsimp -implicitDefEqProofs (disch := omega) only [↓vcOps_sp 107, ↓vcD_sp 107, ↓vcOps_sp 111, ↓vcD_sp 111, ↓vcOps_sp 123, ↓vcD_sp 123, VCA, pg_gl, ↓upd_none, Nat.reduceEqDiff, Nat.reduceBEq, Nat.reduceAdd, Nat.reduceSub, Nat.reduceMul, Nat.reduceLT, Nat.reduceLeDiff, ↓reduceIte, reduceCtorEq, rsOf, rootsOf, SOp.rd, SI.rd, SX.rd, rdL, rdO, rdP, okParts, eqCells, okEqCells, fillA, okFill, setAt, implies_true, forall_const, forall_eq, ne_eq, exists_eq_right_right, exists_eq_right, exists_eq_left, exists_eq_left', eInt, eBool, lit_eq, he1, he2, he3, he7, he8, he9, he10, he11])
        all_goals first | exact Sub.refl _ | exact absurd hk (by omega) | exact ⟨Sub.refl _, by rw [if_pos (by omega)]⟩ | exact ⟨Sub.refl _, by rw [if_neg (by omega), show x + 1 - 2 = x + -1 from by omega]⟩ | exact ⟨Sub.refl _, by rw [if_neg (by omega)]⟩
    rw [if_neg h6]
    by_cases h7 : how = 7
    · rw [if_pos h7]
      subst h7
      rcases hk with hk | ⟨hk, he10, rfl⟩
      · rw [beside_top V hk]
        simp -dsimp -implicitDefEqProofs (disch := omega) only [↓vcOps_sp 107, ↓vcD_sp 107, ↓vcOps_sp 111, ↓vcD_sp 111, ↓vcOps_sp 123, ↓vcD_sp 123, VCA, pg_gl, ↓upd_none, Nat.reduceEqDiff, Nat.reduceBEq, Nat.reduceAdd, Nat.reduceSub, Nat.reduceMul, Nat.reduceLT, Nat.reduceLeDiff, ↓reduceIte, reduceCtorEq, rsOf, rootsOf, SOp.rd, SI.rd, SX.rd, rdL, rdO, rdP, okParts, eqCells, okEqCells, fillA, okFill, setAt, implies_true, forall_const, forall_eq, ne_eq, exists_eq_right_right, exists_eq_right, exists_eq_left, exists_eq_left', eInt, eBool, lit_eq, he1, he2, he3, he7, he8, he9, he11]
        repeat' (first | ((with_reducible refine Br.dec (fun _ => ?_) (fun _ => ?_)) <;> try (exfalso; omega)) | ((with_reducible refine Br.eq (fun _ => ?_) (fun _ => ?_)) <;> try (exfalso; omega)) | ((with_reducible refine Br.ne (fun _ => ?_) (fun _ => ?_)) <;> try (exfalso; omega)) | ((with_reducible refine brNdec (fun _ => ?_) (fun _ => ?_)) <;> try (exfalso; omega)) | ((with_reducible refine brNeq (fun _ => ?_) (fun _ => ?_)) <;> try (exfalso; omega)) | with_reducible refine Br.intro (fun _ => ?_) (fun _ => ?_) | (with_reducible refine And.intro ?_ ?_; · omega) | simp -dsimp -implicitDefEqProofs (disch := omega) only [↓vcOps_sp 107, ↓vcD_sp 107, ↓vcOps_sp 111, ↓vcD_sp 111, ↓vcOps_sp 123, ↓vcD_sp 123, VCA, pg_gl, ↓upd_none, Nat.reduceEqDiff, Nat.reduceBEq, Nat.reduceAdd, Nat.reduceSub, Nat.reduceMul, Nat.reduceLT, Nat.reduceLeDiff, ↓reduceIte, reduceCtorEq, rsOf, rootsOf, SOp.rd, SI.rd, SX.rd, rdL, rdO, rdP, okParts, eqCells, okEqCells, fillA, okFill, setAt, implies_true, forall_const, forall_eq, ne_eq, exists_eq_right_right, exists_eq_right, exists_eq_left, exists_eq_left', eInt, eBool, lit_eq, he1, he2, he3, he7, he8, he9, he11])
        all_goals first | exact Sub.refl _ | exact absurd hk (by omega)
      · rw [kz _ hk]
        generalize idxM (· == n) (nd d (nd d n).parent).kids = x at hq he11 ⊢
        simp -dsimp -implicitDefEqProofs (disch := omega) only [↓vcOps_sp 107, ↓vcD_sp 107, ↓vcOps_sp 111, ↓vcD_sp 111, ↓vcOps_sp 123, ↓vcD_sp 123, VCA, pg_gl, ↓upd_none, Nat.reduceEqDiff, Nat.reduceBEq, Nat.reduceAdd, Nat.reduceSub, Nat.reduceMul, Nat.reduceLT, Nat.reduceLeDiff, ↓reduceIte, reduceCtorEq, rsOf, rootsOf, SOp.rd, SI.rd, SX.rd, rdL, rdO, rdP, okParts, eqCells, okEqCells, fillA, okFill, setAt, implies_true, forall_const, forall_eq, ne_eq, exists_eq_right_right, exists_eq_right, exists_eq_left, exists_eq_left', eInt, eBool, lit_eq, he1, he2, he3, he7, he8, he9, he10, he11]
        repeat' (first | ((with_reducible refine Br.dec (fun _ => ?_) (fun _ => ?_)) <;> try (exfalso; omega)) | ((with_reducible refine Br.eq (fun _ => ?_) (fun _ => ?_)) <;> try (exfalso; omega)) | ((with_reducible refine Br.ne (fun _ => ?_) (fun _ => ?_)) <;> try (exfalso; omega)) | ((with_reducible refine brNdec (fun _ => ?_) (fun _ => ?_)) <;> try (exfalso; omega)) | ((with_reducible refine brNeq (fun _ => ?_) (fun _ => ?_)) <;> try (exfalso; omega)) | with_reducible refine Br.intro (fun _ => ?_) (fun _ => ?_) | (with_reducible refine And.intro ?_ ?_; · omega) | simp -dsimp -implicitDefEqProofs (disch := omega) only [↓vcOps_sp 107, ↓vcD_sp 107, ↓vcOps_sp 111, ↓vcD_sp 111, ↓vcOps_sp 123, ↓vcD_sp 123, VCA, pg_gl, ↓upd_none, Nat.reduceEqDiff, Nat.reduceBEq, Nat.reduceAdd, Nat.reduceSub, Nat.reduceMul, Nat.reduceLT, Nat.reduceLeDiff, ↓reduceIte, reduceCtorEq, rsOf, rootsOf, SOp.rd, SI.rd, SX.rd, rdL, rdO, rdP, okParts, eqCells, okEqCells, fillA, okFill, setAt, implies_true, forall_const, forall_eq, ne_eq, exists_eq_right_right, exists_eq_right, exists_eq_left, exists_eq_left', eInt, eBool, lit_eq, he1, he2, he3, he7, he8, he9, he10, he11])
        all_goals first | exact Sub.refl _ | exact absurd hk (by omega) | exact ⟨Sub.refl _, by rw [if_pos (by omega)]⟩ | exact ⟨Sub.refl _, by rw [if_neg (by omega), show x + 1 - 2 = x + -1 from by omega]⟩ | exact ⟨Sub.refl _, by rw [if_neg (by omega)]⟩
    rw [if_neg h7]
    simp -dsimp -implicitDefEqProofs (disch := omega) only [↓vcOps_sp 107, ↓vcD_sp 107, ↓vcOps_sp 111, ↓vcD_sp 111, ↓vcOps_sp 123, ↓vcD_sp 123, VCA, pg_gl, ↓upd_none, Nat.reduceEqDiff, Nat.reduceBEq, Nat.reduceAdd, Nat.reduceSub, Nat.reduceMul, Nat.reduceLT, Nat.reduceLeDiff, ↓reduceIte, reduceCtorEq, rsOf, rootsOf, SOp.rd, SI.rd, SX.rd, rdL, rdO, rdP, okParts, eqCells, okEqCells, fillA, okFill, setAt, implies_true, forall_const, forall_eq, ne_eq, exists_eq_right_right, exists_eq_right, exists_eq_left, exists_eq_left', eInt, eBool, lit_eq, he1, he2, he3, he7, he8, he9, he11]
    repeat' (first | ((with_reducible refine Br.dec (fun _ => ?_) (fun _ => ?_)) <;> try (exfalso; omega)) | ((with_reducible refine Br.eq (fun _ => ?_) (fun _ => ?_)) <;> try (exfalso; omega)) | ((with_reducible refine Br.ne (fun _ => ?_) (fun _ => ?_)) <;> try (exfalso; omega)) | ((with_reducible refine brNdec (fun _ => ?_) (fun _ => ?_)) <;> try (exfalso; omega)) | ((with_reducible refine brNeq (fun _ => ?_) (fun _ => ?_)) <;> try (exfalso; omega)) | with_reducible refine Br.intro (fun _ => ?_) (fun _ => ?_) | (with_reducible refine And.intro ?_ ?_; · omega) | simp -dsimp -implicitDefEqProofs (disch := omega) only [↓vcOps_sp 107, ↓vcD_sp 107, ↓vcOps_sp 111, ↓vcD_sp 111, ↓vcOps_sp 123, ↓vcD_sp 123, VCA, pg_gl, ↓upd_none, Nat.reduceEqDiff, Nat.reduceBEq, Nat.reduceAdd, Nat.reduceSub, Nat.reduceMul, Nat.reduceLT, Nat.reduceLeDiff, ↓reduceIte, reduceCtorEq, rsOf, rootsOf, SOp.rd, SI.rd, SX.rd, rdL, rdO, rdP, okParts, eqCells, okEqCells, fillA, okFill, setAt, implies_true, forall_const, forall_eq, ne_eq, exists_eq_right_right, exists_eq_right, exists_eq_left, exists_eq_left', eInt, eBool, lit_eq, he1, he2, he3, he7, he8, he9, he11])
    all_goals exact Sub.refl _
  refine dcalls_of_vc Tryd.func19 hn19 hc19 (by rw [Tryd.ntmps19]; simp) (by rw [Tryd.ntmps19]; decide) ?_
  simp -dsimp -implicitDefEqProofs (disch := omega) only [↓vcOps_sp 107, ↓vcD_sp 107, ↓vcOps_sp 111, ↓vcD_sp 111, ↓vcOps_sp 123, ↓vcD_sp 123, VCA, pg_gl, ↓upd_none, Nat.reduceEqDiff, Nat.reduceBEq, Nat.reduceAdd, Nat.reduceSub, Nat.reduceMul, Nat.reduceLT, Nat.reduceLeDiff, ↓reduceIte, reduceCtorEq, rsOf, rootsOf, SOp.rd, SI.rd, SX.rd, rdL, rdO, rdP, okParts, eqCells, okEqCells, fillA, okFill, setAt, implies_true, forall_const, forall_eq, ne_eq, exists_eq_right_right, exists_eq_right, exists_eq_left, exists_eq_left', eInt, eBool, lit_eq, c19, eDoc_len, eDoc_take]
  refine pcallE.of (hB0) ?_; simp -dsimp -implicitDefEqProofs (disch := omega) only [↓vcOps_sp 107, ↓vcD_sp 107, ↓vcOps_sp 111, ↓vcD_sp 111, ↓vcOps_sp 123, ↓vcD_sp 123, VCA, pg_gl, ↓upd_none, Nat.reduceEqDiff, Nat.reduceBEq, Nat.reduceAdd, Nat.reduceSub, Nat.reduceMul, Nat.reduceLT, Nat.reduceLeDiff, ↓reduceIte, reduceCtorEq, rsOf, rootsOf, SOp.rd, SI.rd, SX.rd, rdL, rdO, rdP, okParts, eqCells, okEqCells, fillA, okFill, setAt, implies_true, forall_const, forall_eq, ne_eq, exists_eq_right_right, exists_eq_right, exists_eq_left, exists_eq_left', eInt, eBool, lit_eq, eDoc_len, eDoc_take]
  refine pcallE.of (hP) ?_; simp -dsimp -implicitDefEqProofs (disch := omega) only [↓vcOps_sp 107, ↓vcD_sp 107, ↓vcOps_sp 111, ↓vcD_sp 111, ↓vcOps_sp 123, ↓vcD_sp 123, VCA, pg_gl, ↓upd_none, Nat.reduceEqDiff, Nat.reduceBEq, Nat.reduceAdd, Nat.reduceSub, Nat.reduceMul, Nat.reduceLT, Nat.reduceLeDiff, ↓reduceIte, reduceCtorEq, rsOf, rootsOf, SOp.rd, SI.rd, SX.rd, rdL, rdO, rdP, okParts, eqCells, okEqCells, fillA, okFill, setAt, implies_true, forall_const, forall_eq, ne_eq, exists_eq_right_right, exists_eq_right, exists_eq_left, exists_eq_left', eInt, eBool, lit_eq, eDoc, eNode]
  rw [e0]
  refine ⟨by omega, ?_⟩
  refine Br.dec (fun h1 => ?_) (fun h1 => ?_)
  · have hp := (V.par_in hn h1).1
    have p0 := hp.1
    have p1 := hp.2
    have e1 : nth d.nodes (nd d n).parent.toNat = nd d (nd d n).parent := rfl
    have hP2 := placeIn_ok (G := G) (nd d (nd d n).parent).kids n (sm.nd _).kids
    simp -dsimp -implicitDefEqProofs (disch := omega) only [↓vcOps_sp 107, ↓vcD_sp 107, ↓vcOps_sp 111, ↓vcD_sp 111, ↓vcOps_sp 123, ↓vcD_sp 123, VCA, pg_gl, ↓upd_none, Nat.reduceEqDiff, Nat.reduceBEq, Nat.reduceAdd, Nat.reduceSub, Nat.reduceMul, Nat.reduceLT, Nat.reduceLeDiff, ↓reduceIte, reduceCtorEq, rsOf, rootsOf, SOp.rd, SI.rd, SX.rd, rdL, rdO, rdP, okParts, eqCells, okEqCells, fillA, okFill, setAt, implies_true, forall_const, forall_eq, ne_eq, exists_eq_right_right, exists_eq_right, exists_eq_left, exists_eq_left', eInt, eBool, lit_eq, eDoc, eNode]
    rw [e1]
    refine ⟨by omega, ?_⟩
    refine pcallE.of (hP2) ?_; simp -dsimp -implicitDefEqProofs (disch := omega) only [↓vcOps_sp 107, ↓vcD_sp 107, ↓vcOps_sp 111, ↓vcD_sp 111, ↓vcOps_sp 123, ↓vcD_sp 123, VCA, pg_gl, ↓upd_none, Nat.reduceEqDiff, Nat.reduceBEq, Nat.reduceAdd, Nat.reduceSub, Nat.reduceMul, Nat.reduceLT, Nat.reduceLeDiff, ↓reduceIte, reduceCtorEq, rsOf, rootsOf, SOp.rd, SI.rd, SX.rd, rdL, rdO, rdP, okParts, eqCells, okEqCells, fillA, okFill, setAt, implies_true, forall_const, forall_eq, ne_eq, exists_eq_right_right, exists_eq_right, exists_eq_left, exists_eq_left', eInt, eBool, lit_eq, eDoc, eNode]
    exact s7 _ _ rfl rfl rfl rfl rfl rfl rfl (.inr ⟨h1, rfl, rfl⟩)
  · simp -dsimp -implicitDefEqProofs (disch := omega) only [↓vcOps_sp 107, ↓vcD_sp 107, ↓vcOps_sp 111, ↓vcD_sp 111, ↓vcOps_sp 123, ↓vcD_sp 123, VCA, pg_gl, ↓upd_none, Nat.reduceEqDiff, Nat.reduceBEq, Nat.reduceAdd, Nat.reduceSub, Nat.reduceMul, Nat.reduceLT, Nat.reduceLeDiff, ↓reduceIte, reduceCtorEq, rsOf, rootsOf, SOp.rd, SI.rd, SX.rd, rdL, rdO, rdP, okParts, eqCells, okEqCells, fillA, okFill, setAt, implies_true, forall_const, forall_eq, ne_eq, exists_eq_right_right, exists_eq_right, exists_eq_left, exists_eq_left', eInt, eBool, lit_eq]
    exact s7 _ _ rfl rfl rfl rfl rfl rfl rfl (.inl (by omega))

/-! ## the common node -/
def cpl : List Int → List Int → Nat
  | x :: p, y :: q => if x = y then cpl p q + 1 else 0
  | _, _ => 0
theorem cpl_is : ∀ (i : Nat) (p q : List Int), i ≤ p.length → i ≤ q.length → (∀ j, j < i → nth p j = nth q j) → ¬ (i < p.length ∧ i < q.length ∧ nth p i = nth q i) → cpl p q = i
  | 0, p, q, _, _, _, h => by
    cases p with
    | nil => rfl
    | cons x p => cases q with
      | nil => rfl
      | cons y q =>
        unfold cpl
        rw [if_neg]
        intro e
        exact h ⟨by simp, by simp, e⟩
  | i + 1, p, q, hp, hq, hj, h => by
    cases p with
    | nil => simp at hp
    | cons x p => cases q with
      | nil => simp at hq
      | cons y q =>
        simp only [List.length_cons] at hp hq h
        unfold cpl
        rw [if_pos (show x = y from hj 0 (by omega)), cpl_is i p q (by omega) (by omega) (fun j hj' => hj (j + 1) (by omega)) (fun ⟨h1, h2, h3⟩ => h ⟨by omega, by omega, h3⟩)]
def commonM (d : HDoc) (a b : Int) : Int := nth (chain d a).reverse (cpl (chain d a).reverse (chain d b).reverse - 1)
def c23 : SFun := ⟨(.seq (.reg [⟨(some 3), (.boxF 24 2 (.t 0)), none⟩, ⟨(some 6), (.mv (.c (.int .i64 (0)))), none⟩, ⟨(some 7), (.mv (.c (.int .i64 (0)))), none⟩]) (.seq (.reg [⟨(some 14), (.ld 2 true (.t 3)), none⟩, ⟨(some 15), (.mv (.t 1)), none⟩, ⟨(some 16), (.mv (.t 2)), none⟩, ⟨(some 17), (.bldF 3 1 [(.t 15), (.t 16)]), none⟩, ⟨(some 18), (.pcall 70 [(.t 14), (.t 17)]), none⟩, ⟨(some 13), (.mv (.t 18)), none⟩, ⟨(some 19), (.ext (.t 13) 0), none⟩, ⟨(some 20), (.ext (.t 13) 1), none⟩, ⟨(some 8), (.mv (.t 19)), none⟩, ⟨(some 9), (.mv (.t 20)), none⟩]) (.seq (.seq (.reg [⟨(some 21), (.mv (.t 9)), none⟩, ⟨(some 22), (.bin .neq (.t 21) (.c (.int .i64 (0)))), none⟩]) (.cond (.t 22) (.seq (.reg [⟨(some 23), (.mv (.t 9)), none⟩, ⟨(some 6), (.mv (.c (.int .i64 (0)))), none⟩, ⟨(some 7), (.mv (.t 23)), none⟩]) .ret) .skip)) (.seq (.reg [⟨(some 24), (.mv (.t 8)), none⟩, ⟨(some 25), (.mv (.t 1)), none⟩, ⟨(some 26), (.pcall 76 [(.t 24), (.t 25)]), none⟩, ⟨(some 27), (.mv (.t 8)), none⟩, ⟨(some 28), (.mv (.t 2)), none⟩, ⟨(some 29), (.pcall 76 [(.t 27), (.t 28)]), none⟩, ⟨(some 10), (.mv (.t 26)), none⟩, ⟨(some 11), (.mv (.t 29)), none⟩]) (.seq (.reg [⟨(some 12), (.mv (.c (.int .i64 (0)))), none⟩]) (.seq (.block 0 (.loop (.seq (.seq (.dreg [(⟨(some 30), (.mv (.t 12)), none⟩, none), (⟨(some 31), (.mv (.t 10)), none⟩, none), (⟨(some 32), (.len (.t 31)), none⟩, none), (⟨(some 33), (.bin .lss (.t 30) (.t 32)), none⟩, none), (⟨(some 34), (.mv (.t 33)), none⟩, none), (⟨(some 35), (.mv (.t 12)), (some (34, true))⟩, none), (⟨(some 36), (.mv (.t 11)), (some (34, true))⟩, none), (⟨(some 37), (.len (.t 36)), (some (34, true))⟩, none), (⟨(some 38), (.bin .lss (.t 35) (.t 37)), (some (34, true))⟩, none), (⟨(some 39), (.pick (.t 34) (.t 38) (.c (.bool false))), none⟩, none), (⟨(some 40), (.mv (.t 39)), none⟩, none), (⟨(some 41), (.mv (.t 10)), (some (40, true))⟩, none), (⟨(some 42), (.mv (.t 12)), (some (40, true))⟩, none), (⟨(some 43), (.idxA 1 (.t 41) (.t 42)), (some (40, true))⟩, none), (⟨(some 44), (.ld 1 false (.t 43)), (some (40, true))⟩, none), (⟨(some 45), (.mv (.t 11)), (some (40, true))⟩, none), (⟨(some 46), (.mv (.t 12)), (some (40, true))⟩, none), (⟨(some 47), (.idxA 1 (.t 45) (.t 46)), (some (40, true))⟩, none), (⟨(some 48), (.ld 1 false (.t 47)), (some (40, true))⟩, none), (⟨(some 49), (.bin .eql (.t 44) (.t 48)), (some (40, true))⟩, none), (⟨(some 50), (.pick (.t 40) (.t 49) (.c (.bool false))), none⟩, none)]) (.cond (.t 50) .skip (.exit 0))) (.block 1 (.reg [⟨(some 51), (.mv (.t 12)), none⟩, ⟨(some 52), (.bin .add (.t 51) (.c (.int .i64 (1)))), none⟩, ⟨(some 12), (.mv (.t 52)), none⟩]))))) (.seq (.reg [⟨(some 53), (.mv (.t 10)), none⟩, ⟨(some 54), (.mv (.t 12)), none⟩, ⟨(some 55), (.bin .sub (.t 54) (.c (.int .i64 (1)))), none⟩, ⟨(some 56), (.idxA 1 (.t 53) (.t 55)), none⟩, ⟨(some 57), (.ld 1 false (.t 56)), none⟩, ⟨(some 6), (.mv (.t 57)), none⟩, ⟨(some 7), (.mv (.c (.int .i64 (0)))), none⟩]) .ret))))))), [(.tmp 6), (.tmp 7)]⟩
theorem hc23 : toSF Tryd.prog {pure := [70, 76]} Tryd.f23 = some c23 := by kernel_rfl
theorem hn23 : (Tryd.f23.name == "runtime.NumGoroutine") = false := by kernel_rfl
theorem common_ok (d : HDoc) (sm : DocSm d) (a b : Int) : PCalls (Pg G) 23 [.agg (eDoc d), aInt a, aInt b] (.tup [aInt (if walkE d [a, b] = 0 then commonM d a b else 0), aInt (walkE d [a, b])]) := fun h => by
  have hC : PCalls (Pg G) 70 [.agg (eDoc d), .slc [[.int .i64 a], [.int .i64 b]]] (.tup [wPin d (walkE d [a, b]), aInt (walkE d [a, b])]) := wcheck_ok (G := G) d sm [a, b] (by simp)
  refine dcalls_of_vc Tryd.func23 hn23 hc23 (by rw [Tryd.ntmps23]; simp) (by rw [Tryd.ntmps23]; decide) ?_
  simp -dsimp -implicitDefEqProofs (disch := omega) only [↓vcOps_sp 34, ↓vcD_sp 34, ↓vcOps_sp 40, ↓vcD_sp 40, VCA, pg_gl, ↓upd_none, Nat.reduceEqDiff, Nat.reduceBEq, Nat.reduceAdd, Nat.reduceSub, Nat.reduceMul, Nat.reduceLT, Nat.reduceLeDiff, ↓reduceIte, reduceCtorEq, rsOf, rootsOf, SOp.rd, SI.rd, SX.rd, rdL, rdO, rdP, okParts, eqCells, okEqCells, fillA, okFill, setAt, implies_true, forall_const, forall_eq, ne_eq, exists_eq_right_right, exists_eq_right, exists_eq_left, exists_eq_left', eInt, eBool, lit_eq, c23, eDoc_len, eDoc_take]
  refine pcallE.of (hC) ?_; simp -dsimp -implicitDefEqProofs (disch := omega) only [↓vcOps_sp 34, ↓vcD_sp 34, ↓vcOps_sp 40, ↓vcD_sp 40, VCA, pg_gl, ↓upd_none, Nat.reduceEqDiff, Nat.reduceBEq, Nat.reduceAdd, Nat.reduceSub, Nat.reduceMul, Nat.reduceLT, Nat.reduceLeDiff, ↓reduceIte, reduceCtorEq, rsOf, rootsOf, SOp.rd, SI.rd, SX.rd, rdL, rdO, rdP, okParts, eqCells, okEqCells, fillA, okFill, setAt, implies_true, forall_const, forall_eq, ne_eq, exists_eq_right_right, exists_eq_right, exists_eq_left, exists_eq_left', eInt, eBool, lit_eq]
  by_cases h1 : walkE d [a, b] = 0
  · obtain ⟨hd, hi, hc⟩ := walkE_zero h1
    have V := docE_DV hd
    have ha : inD d a := hi a (by simp)
    have hb : inD d b := hi b (by simp)
    have ca := (chain_rev0 V a ha).2 (hc a (by simp))
    have cb := (chain_rev0 V b hb).2 (hc b (by simp))
    have la := chain_len V a ha
    have lb := chain_len V b hb
    have da := V.deep a ha
    have db := V.deep b hb
    have hw0 : wPin d 0 = .pin (eDoc d) := rfl
    have hla : (chain d a).reverse.length = (chain d a).length := by simp
    have hlb : (chain d b).reverse.length = (chain d b).length := by simp
    have hA := path_ok (G := G) d V sm a ha
    have hB := path_ok (G := G) d V sm b hb
    have hcm : commonM d a b = nth (chain d a).reverse (cpl (chain d a).reverse (chain d b).reverse - 1) := rfl
    rw [h1]
    generalize (chain d a).reverse = p at *
    generalize (chain d b).reverse = q at *
    refine Br.ne (fun hh => absurd rfl hh) (fun _ => ?_)
    simp -dsimp -implicitDefEqProofs (disch := omega) only [↓vcOps_sp 34, ↓vcD_sp 34, ↓vcOps_sp 40, ↓vcD_sp 40, VCA, pg_gl, ↓upd_none, Nat.reduceEqDiff, Nat.reduceBEq, Nat.reduceAdd, Nat.reduceSub, Nat.reduceMul, Nat.reduceLT, Nat.reduceLeDiff, ↓reduceIte, reduceCtorEq, rsOf, rootsOf, SOp.rd, SI.rd, SX.rd, rdL, rdO, rdP, okParts, eqCells, okEqCells, fillA, okFill, setAt, implies_true, forall_const, forall_eq, ne_eq, exists_eq_right_right, exists_eq_right, exists_eq_left, exists_eq_left', eInt, eBool, lit_eq, hw0]
    refine pcallE.of (hA) ?_; simp -dsimp -implicitDefEqProofs (disch := omega) only [↓vcOps_sp 34, ↓vcD_sp 34, ↓vcOps_sp 40, ↓vcD_sp 40, VCA, pg_gl, ↓upd_none, Nat.reduceEqDiff, Nat.reduceBEq, Nat.reduceAdd, Nat.reduceSub, Nat.reduceMul, Nat.reduceLT, Nat.reduceLeDiff, ↓reduceIte, reduceCtorEq, rsOf, rootsOf, SOp.rd, SI.rd, SX.rd, rdL, rdO, rdP, okParts, eqCells, okEqCells, fillA, okFill, setAt, implies_true, forall_const, forall_eq, ne_eq, exists_eq_right_right, exists_eq_right, exists_eq_left, exists_eq_left', eInt, eBool, lit_eq]
    refine pcallE.of (hB) ?_; simp -dsimp -implicitDefEqProofs (disch := omega) only [↓vcOps_sp 34, ↓vcD_sp 34, ↓vcOps_sp 40, ↓vcD_sp 40, VCA, pg_gl, ↓upd_none, Nat.reduceEqDiff, Nat.reduceBEq, Nat.reduceAdd, Nat.reduceSub, Nat.reduceMul, Nat.reduceLT, Nat.reduceLeDiff, ↓reduceIte, reduceCtorEq, rsOf, rootsOf, SOp.rd, SI.rd, SX.rd, rdL, rdO, rdP, okParts, eqCells, okEqCells, fillA, okFill, setAt, implies_true, forall_const, forall_eq, ne_eq, exists_eq_right_right, exists_eq_right, exists_eq_left, exists_eq_left', eInt, eBool, lit_eq]
    refine LoopVC.intro (fun m e h' => ∃ i : Nat, i ≤ p.length ∧ i ≤ q.length ∧ m = p.length - i ∧ e 10 = sl eInt p ∧ e 11 = sl eInt q ∧ e 12 = aInt i ∧ h' = h ∧ ∀ j, j < i → nth p j = nth q j) p.length ⟨0, by omega, by omega, by omega, rfl, rfl, rfl, rfl, by omega⟩ ?_
    rintro m e h' ⟨i, hip, hiq, rfl, he10, he11, he12, rfl, hj⟩
    have fin : ¬ (i < p.length ∧ i < q.length ∧ nth p i = nth q i) → 1 ≤ i ∧ commonM d a b = nth p (i - 1) := fun hn => by
      have := cpl_is i p q hip hiq hj hn
      rw [hcm, this]
      refine ⟨?_, rfl⟩
      cases i with
      | zero => exact absurd ⟨by omega, by omega, by rw [ca, cb]⟩ hn
      | succ i => omega
    have ei : ((i : Int) - 1).toNat = i - 1 := by omega
    simp -dsimp -implicitDefEqProofs (disch := omega) only [↓vcOps_sp 34, ↓vcD_sp 34, ↓vcOps_sp 40, ↓vcD_sp 40, VCA, pg_gl, ↓upd_none, Nat.reduceEqDiff, Nat.reduceBEq, Nat.reduceAdd, Nat.reduceSub, Nat.reduceMul, Nat.reduceLT, Nat.reduceLeDiff, ↓reduceIte, reduceCtorEq, rsOf, rootsOf, SOp.rd, SI.rd, SX.rd, rdL, rdO, rdP, okParts, eqCells, okEqCells, fillA, okFill, setAt, implies_true, forall_const, forall_eq, ne_eq, exists_eq_right_right, exists_eq_right, exists_eq_left, exists_eq_left', eInt, eBool, lit_eq, he10, he11, he12]
    repeat' (first | ((with_reducible refine Br.dec (fun _ => ?_) (fun _ => ?_)) <;> try (exfalso; omega)) | ((with_reducible refine Br.eq (fun _ => ?_) (fun _ => ?_)) <;> try (exfalso; omega)) | ((with_reducible refine Br.ne (fun _ => ?_) (fun _ => ?_)) <;> try (exfalso; omega)) | ((with_reducible refine brNdec (fun _ => ?_) (fun _ => ?_)) <;> try (exfalso; omega)) | ((with_reducible refine brNeq (fun _ => ?_) (fun _ => ?_)) <;> try (exfalso; omega)) | with_reducible refine Br.intro (fun _ => ?_) (fun _ => ?_) | (with_reducible refine And.intro ?_ ?_; · omega) | simp -dsimp -implicitDefEqProofs (disch := omega) only [↓vcOps_sp 34, ↓vcD_sp 34, ↓vcOps_sp 40, ↓vcD_sp 40, VCA, pg_gl, ↓upd_none, Nat.reduceEqDiff, Nat.reduceBEq, Nat.reduceAdd, Nat.reduceSub, Nat.reduceMul, Nat.reduceLT, Nat.reduceLeDiff, ↓reduceIte, reduceCtorEq, rsOf, rootsOf, SOp.rd, SI.rd, SX.rd, rdL, rdO, rdP, okParts, eqCells, okEqCells, fillA, okFill, setAt, implies_true, forall_const, forall_eq, ne_eq, exists_eq_right_right, exists_eq_right, exists_eq_left, exists_eq_left', eInt, eBool, lit_eq, he10, he11, he12])
    · rename_i q1 q2 q3
      refine ⟨_, by omega, i + 1, by omega, by omega, rfl, by omega, fun j hj' => ?_⟩
      by_cases hji : j = i
      · subst hji; exact q3
      · exact hj j (by omega)
    all_goals exact ⟨Sub.refl _, by rw [(fin (by omega)).2, ei]⟩
  · repeat' (first | ((with_reducible refine Br.dec (fun _ => ?_) (fun _ => ?_)) <;> try (exfalso; omega)) | ((with_reducible refine Br.eq (fun _ => ?_) (fun _ => ?_)) <;> try (exfalso; omega)) | ((with_reducible refine Br.ne (fun _ => ?_) (fun _ => ?_)) <;> try (exfalso; omega)) | ((with_reducible refine brNdec (fun _ => ?_) (fun _ => ?_)) <;> try (exfalso; omega)) | ((with_reducible refine brNeq (fun _ => ?_) (fun _ => ?_)) <;> try (exfalso; omega)) | with_reducible refine Br.intro (fun _ => ?_) (fun _ => ?_) | (with_reducible refine And.intro ?_ ?_; · omega) | simp -dsimp -implicitDefEqProofs (disch := omega) only [↓vcOps_sp 34, ↓vcD_sp 34, ↓vcOps_sp 40, ↓vcD_sp 40, VCA, pg_gl, ↓upd_none, Nat.reduceEqDiff, Nat.reduceBEq, Nat.reduceAdd, Nat.reduceSub, Nat.reduceMul, Nat.reduceLT, Nat.reduceLeDiff, ↓reduceIte, reduceCtorEq, rsOf, rootsOf, SOp.rd, SI.rd, SX.rd, rdL, rdO, rdP, okParts, eqCells, okEqCells, fillA, okFill, setAt, implies_true, forall_const, forall_eq, ne_eq, exists_eq_right_right, exists_eq_right, exists_eq_left, exists_eq_left', eInt, eBool, lit_eq, h1])
    exact Sub.refl _
/-- a result's weaker reading -/
theorem DCalls.res {P : PG} {f : Nat} {args : List AVal} {h : Heap} {K K' : AVal → Heap → Prop} (hd : DCalls P f args h K) (hk : ∀ a h', K a h' → ∃ b, Wk a b ∧ K' b h') : DCalls P f args h K' :=
  ⟨hd.1, fun g w vs H GR V => (hd.2 g w vs H GR V).mono fun e w' ⟨v', a, h', g', he, k0, H', Va, S⟩ => by
    obtain ⟨b, hb, k1⟩ := hk a h' k0
    exact ⟨v', b, h', g', he, k1, H', hb.rel Va, S⟩⟩
def oneD : HDoc := ⟨[⟨1, [], [], [], -1, [1]⟩, ⟨2, [112], [⟨[97], [34]⟩], [], 0, [2]⟩, ⟨3, [], [], [60, 10], 1, []⟩], false⟩
theorem oneD_sm : DocSm oneD := ⟨by decide, by
  intro x hx
  have : x = ⟨1, [], [], [], -1, [1]⟩ ∨ x = ⟨2, [112], [⟨[97], [34]⟩], [], 0, [2]⟩ ∨ x = ⟨3, [], [], [60, 10], 1, []⟩ := by simpa [oneD] using hx
  rcases this with rfl | rfl | rfl <;> exact ⟨by decide, by decide, by decide, by decide, by decide⟩⟩
def c75 : SFun := ⟨(.seq (.reg [⟨(some 0), (.new 24 2 [.emp, (.bool false)]), none⟩]) (.seq (.reg [⟨(some 1), (.bldF 3 1 [(.c (.int .i64 (1)))]), none⟩, ⟨(some 2), (.bld [(.int .i64 (0)), (.str []), .emp, (.str []), (.int .i64 (0)), .emp] [(0, (1, (.c (.int .i64 (1))))), (4, (1, (.c (.int .i64 (-1))))), (5, (1, (.t 1)))]), none⟩, ⟨(some 3), (.bld [(.str []), (.str [])] [(0, (1, (.c (.str [97])))), (1, (1, (.c (.str [34]))))]), none⟩, ⟨(some 4), (.bldF 122 2 [(.t 3)]), none⟩, ⟨(some 5), (.bldF 3 1 [(.c (.int .i64 (2)))]), none⟩, ⟨(some 6), (.bld [(.int .i64 (0)), (.str []), .emp, (.str []), (.int .i64 (0)), .emp] [(0, (1, (.c (.int .i64 (2))))), (1, (1, (.c (.str [112])))), (2, (1, (.t 4))), (5, (1, (.t 5)))]), none⟩, ⟨(some 7), (.bld [(.int .i64 (0)), (.str []), .emp, (.str []), (.int .i64 (0)), .emp] [(0, (1, (.c (.int .i64 (3))))), (3, (1, (.c (.str [60, 10])))), (4, (1, (.c (.int .i64 (1)))))]), none⟩, ⟨(some 8), (.bldF 43 6 [(.t 2), (.t 6), (.t 7)]), none⟩, ⟨(some 9), (.bld [.emp, (.bool false)] [(0, (1, (.t 8)))]), none⟩, ⟨none, (.st 2 (.t 0) (.t 9)), none⟩]) .ret)), [(.cell 0 2 true)]⟩
theorem hc75 : toSF Tryd.prog {} Tryd.f75 = some c75 := by kernel_rfl
theorem hn75 : (Tryd.f75.name == "runtime.NumGoroutine") = false := by kernel_rfl
theorem oneP_ok : PCalls (Pg G) 75 [] (.agg (eDoc oneD)) := fun h => by
  refine DCalls.res (K := fun a h' => a = .agg [.slc [[.int .i64 1, .str [], .emp, .str [], .int .i64 (-1), .slc [[.int .i64 1]]], [.int .i64 2, .str [112], .slc [[.str [97], .str [34]]], .str [], .int .i64 0, .slc [[.int .i64 2]]], [.int .i64 3, .str [], .emp, .str [60, 10], .int .i64 1, .emp]], .bool false] ∧ h' = h) ?_ ?_
  · refine dcalls_of_vc Tryd.func75 hn75 hc75 (by rw [Tryd.ntmps75]; simp) (by rw [Tryd.ntmps75]; decide) ?_
    simp -dsimp -implicitDefEqProofs (disch := omega) only [VCA, pg_gl, ↓upd_none, Nat.reduceEqDiff, Nat.reduceBEq, Nat.reduceAdd, Nat.reduceSub, Nat.reduceMul, Nat.reduceLT, Nat.reduceLeDiff, ↓reduceIte, reduceCtorEq, rsOf, rootsOf, SOp.rd, SI.rd, SX.rd, rdL, rdO, rdP, okParts, eqCells, okEqCells, fillA, okFill, setAt, implies_true, forall_const, forall_eq, ne_eq, exists_eq_right_right, exists_eq_right, exists_eq_left, exists_eq_left', eInt, eBool, lit_eq, c75]
    intro r hr
    exact (Sub.refl _).upd hr
  · rintro a h' ⟨rfl, rfl⟩
    exact ⟨_, Wk.agg' (.cons (Wk.slc' (.cons (.cons (.refl _) (.cons (.refl _) (.cons .emp (.cons (.refl _) (.cons (.refl _) (.cons (.refl _) .nil)))))) (.cons (.cons (.refl _) (.cons (.refl _) (.cons (.refl _) (.cons (.refl _) (.cons (.refl _) (.cons (.refl _) .nil)))))) (.cons (.cons (.refl _) (.cons (.refl _) (.cons .emp (.cons (.refl _) (.cons (.refl _) (.cons .emp .nil)))))) .nil)))) (.cons (.refl _) .nil)), rfl, rfl⟩
theorem one_step : stepE oneD 1 1 = 0 ∧ stepW oneD 1 1 = 2 ∧ walkE oneD [1, 2] = 0 ∧ commonM oneD 1 2 = 1 := by decide +kernel
def c20 : SFun := ⟨(.seq (.reg [⟨(some 0), (.mv (.c (.bool false))), none⟩]) (.seq (.reg [⟨(some 7), (.pcall 75 []), none⟩, ⟨(some 8), (.pcall 16 [(.t 7), (.c (.int .i64 (1))), (.c (.int .i64 (1)))]), none⟩, ⟨(some 6), (.mv (.t 8)), none⟩, ⟨(some 9), (.ext (.t 6) 0), none⟩, ⟨(some 10), (.ext (.t 6) 1), none⟩, ⟨(some 11), (.ext (.t 6) 2), none⟩, ⟨(some 1), (.mv (.t 9)), none⟩, ⟨(some 2), (.mv (.t 10)), none⟩, ⟨(some 3), (.mv (.t 11)), none⟩]) (.seq (.reg [⟨(some 13), (.pcall 75 []), none⟩, ⟨(some 14), (.pcall 23 [(.t 13), (.c (.int .i64 (1))), (.c (.int .i64 (2)))]), none⟩, ⟨(some 12), (.mv (.t 14)), none⟩, ⟨(some 15), (.ext (.t 12) 0), none⟩, ⟨(some 16), (.ext (.t 12) 1), none⟩, ⟨(some 4), (.mv (.t 15)), none⟩, ⟨(some 5), (.mv (.t 16)), none⟩]) (.seq (.reg [⟨(some 17), (.mv (.t 1)), none⟩, ⟨(some 18), (.bin .eql (.t 17) (.c (.int .i64 (2)))), none⟩, ⟨(some 19), (.mv (.t 18)), none⟩, ⟨(some 20), (.mv (.t 2)), (some (19, true))⟩, ⟨(some 21), (.pick (.t 19) (.t 20) (.c (.bool false))), none⟩, ⟨(some 22), (.mv (.t 21)), none⟩, ⟨(some 23), (.mv (.t 3)), (some (22, true))⟩, ⟨(some 24), (.bin .eql (.t 23) (.c (.int .i64 (0)))), (some (22, true))⟩, ⟨(some 25), (.pick (.t 22) (.t 24) (.c (.bool false))), none⟩, ⟨(some 26), (.mv (.t 25)), none⟩, ⟨(some 27), (.mv (.t 4)), (some (26, true))⟩, ⟨(some 28), (.bin .eql (.t 27) (.c (.int .i64 (1)))), (some (26, true))⟩, ⟨(some 29), (.pick (.t 26) (.t 28) (.c (.bool false))), none⟩, ⟨(some 30), (.mv (.t 29)), none⟩, ⟨(some 31), (.mv (.t 5)), (some (30, true))⟩, ⟨(some 32), (.bin .eql (.t 31) (.c (.int .i64 (0)))), (some (30, true))⟩, ⟨(some 33), (.pick (.t 30) (.t 32) (.c (.bool false))), none⟩, ⟨(some 0), (.mv (.t 33)), none⟩]) .ret)))), [(.tmp 0)]⟩
theorem hc20 : toSF Tryd.prog {pure := [75, 16, 23]} Tryd.f20 = some c20 := by kernel_rfl
theorem hn20 : (Tryd.f20.name == "runtime.NumGoroutine") = false := by kernel_rfl
theorem walkBegun_ok : PCalls (Pg G) 20 [] (.bool true) := fun h => by
  have h1 : PCalls (Pg G) 16 [.agg (eDoc oneD), aInt 1, aInt 1] (.tup [aInt 2, .bool true, aInt 0]) := by
    have h := Step_ok (G := G) oneD oneD_sm 1 1
    rw [one_step.1, one_step.2.1] at h
    exact h
  have h2 : PCalls (Pg G) 23 [.agg (eDoc oneD), aInt 1, aInt 2] (.tup [aInt 1, aInt 0]) := by
    have h := common_ok (G := G) oneD oneD_sm 1 2
    rw [one_step.2.2.1, one_step.2.2.2] at h
    exact h
  refine dcalls_of_vc Tryd.func20 hn20 hc20 (by rw [Tryd.ntmps20]; simp) (by rw [Tryd.ntmps20]; decide) ?_
  simp -dsimp -implicitDefEqProofs (disch := omega) only [↓vcOps_sp 19, ↓vcD_sp 19, ↓vcOps_sp 22, ↓vcD_sp 22, ↓vcOps_sp 26, ↓vcD_sp 26, ↓vcOps_sp 30, ↓vcD_sp 30, VCA, pg_gl, ↓upd_none, Nat.reduceEqDiff, Nat.reduceBEq, Nat.reduceAdd, Nat.reduceSub, Nat.reduceMul, Nat.reduceLT, Nat.reduceLeDiff, ↓reduceIte, reduceCtorEq, rsOf, rootsOf, SOp.rd, SI.rd, SX.rd, rdL, rdO, rdP, okParts, eqCells, okEqCells, fillA, okFill, setAt, implies_true, forall_const, forall_eq, ne_eq, exists_eq_right_right, exists_eq_right, exists_eq_left, exists_eq_left', eInt, eBool, lit_eq, c20]
  repeat' (first | ((with_reducible refine Br.dec (fun _ => ?_) (fun _ => ?_)) <;> try (exfalso; omega)) | ((with_reducible refine Br.eq (fun _ => ?_) (fun _ => ?_)) <;> try (exfalso; omega)) | ((with_reducible refine Br.ne (fun _ => ?_) (fun _ => ?_)) <;> try (exfalso; omega)) | ((with_reducible refine brNdec (fun _ => ?_) (fun _ => ?_)) <;> try (exfalso; omega)) | ((with_reducible refine brNeq (fun _ => ?_) (fun _ => ?_)) <;> try (exfalso; omega)) | with_reducible refine Br.intro (fun _ => ?_) (fun _ => ?_) | (with_reducible apply pcallE.of; · exact oneP_ok (G := G)) | (with_reducible apply pcallE.of; · exact h1) | (with_reducible apply pcallE.of; · exact h2) | (with_reducible refine And.intro ?_ ?_; · omega) | simp -dsimp -implicitDefEqProofs (disch := omega) only [↓vcOps_sp 19, ↓vcD_sp 19, ↓vcOps_sp 22, ↓vcD_sp 22, ↓vcOps_sp 26, ↓vcD_sp 26, ↓vcOps_sp 30, ↓vcD_sp 30, VCA, pg_gl, ↓upd_none, Nat.reduceEqDiff, Nat.reduceBEq, Nat.reduceAdd, Nat.reduceSub, Nat.reduceMul, Nat.reduceLT, Nat.reduceLeDiff, ↓reduceIte, reduceCtorEq, rsOf, rootsOf, SOp.rd, SI.rd, SX.rd, rdL, rdO, rdP, okParts, eqCells, okEqCells, fillA, okFill, setAt, implies_true, forall_const, forall_eq, ne_eq, exists_eq_right_right, exists_eq_right, exists_eq_left, exists_eq_left', eInt, eBool, lit_eq])
  exact ⟨Sub.refl _, rfl⟩
end Go.Proofs.K
