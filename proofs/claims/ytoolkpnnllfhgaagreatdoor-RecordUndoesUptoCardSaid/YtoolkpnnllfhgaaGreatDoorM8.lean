/- Texts of this claim, one behind the other. -/
import Derived.Test.YtoolkpnnllfhgaaGreatDoorM6
import Derived.Test.YtoolkpnnllfhgaaGreatDoorM7
set_option maxHeartbeats 4000000
set_option maxRecDepth 100000
section
set_option linter.unusedSimpArgs false
set_option linter.unusedVariables false
namespace Go.Proofs.K
open Go Go.Sim Go.Proofs
variable {G : ZQ}
theorem applyE_errR {d : HDoc} (V : DV d) {e : HEdit} (h : K6 d e = 0) : ZZ d e = 0 := by
 apply Classical.byContradiction; intro h1
 rw [apply_err V h1] at h; exact h1 h
theorem applyD_is {d : HDoc} {e : HEdit} (h : K6 d e = 0) : X8 d e = X9 d e := by unfold X8; rw [if_pos h]
theorem put_at_is {d : HDoc} (V : DV d) {e : HEdit} (h5 : e.do' = 5) (h0 : ZZ d e = 0) : inD (JV d e.at' e.to (U7 d e)) e.at' /\ U1 (· == e.to) (nd (JV d e.at' e.to (U7 d e)) e.at').kids = U7 d e := by
 obtain ⟨_, _, ha, ht⟩ := errR_at h0 (by omega)
 have ht := ht h5
 obtain ⟨hc, hb⟩ := errR_5z h5 ha ht h0
 obtain ⟨i1, i2, i3⟩ := ins_room V h5 h0
 have hne : e.at' ≠ e.to := fun q => hc (q ▸ U5 d e.at')
 refine ⟨inD_hung.2 ha, ?_⟩
 rw [nd_hung ha ht hne ha, if_neg hne, if_pos rfl]
 refine idx_put ?_ fun hm => ?_
 ·by_cases hq : e.before = -1
  ·rw [i2 hq, i1]; exact Nat.le_refl _
  ·have := (i3 hq).2
   have := (idxM_le (nd d e.at').kids e.before).2.1
   omega
 ·have := (V.kid _ ha _ hm).2
  rw [errR_5 h5 ha ht] at h0
  split at h0
  ·omega
  split at h0
  ·omega
  ·have := ha.1; omega
def c40 : SFun := ⟨.seq (.reg [o 4 (.boxF 24 2 (.t 0)), o 5 (.boxF 24 2 (.t 1)), o 6 (.boxF 42 12 (.t 2)), o 8 (.new 44 16 [.int .i64 0, .int .i64 0, .int .i64 0, .int .i64 0, .str [], .str [], .int .i64 0, .str [], .emp, .str [], .int .i64 0, .emp, .bool false, .str [], .int .i64 0, .int .i64 0])]) (.seq (.reg [o 10 (.ld 12 true (.t 6)), o 11 (.bld [.int .i64 0, .int .i64 0, .int .i64 0, .int .i64 0, .str [], .str [], .int .i64 0, .str [], .emp, .str [], .int .i64 0, .emp, .bool false, .str [], .int .i64 0, .int .i64 0] [(0, (12, (.t 10)))]), o 9 (.new 44 16 [.int .i64 0, .int .i64 0, .int .i64 0, .int .i64 0, .str [], .str [], .int .i64 0, .str [], .emp, .str [], .int .i64 0, .emp, .bool false, .str [], .int .i64 0, .int .i64 0]), ⟨none, .st 16 (.t 9) (.t 11), none⟩]) (.seq (.seq (.reg [o 12 (.fldA 0 (.t 6)), o 13 (.ld 1 false (.t 12))]) (.block 0 (.seq (.seq (.reg [o 15 (.bin .eql (.t 13) (.c (.int .i64 1))), o 14 (.mv (.t 15))]) (.cond (.t 14) .skip (.reg [o 16 (.bin .eql (.t 13) (.c (.int .i64 2))), o 14 (.mv (.t 16))]))) (.cond (.t 14) (.reg [o 17 (.fldA 0 (.t 4)), o 18 (.ld 1 false (.t 17)), o 19 (.fldA 1 (.t 6)), o 20 (.ld 1 false (.t 19)), o 21 (.idxA 6 (.t 18) (.t 20)), o 22 (.ld 6 true (.t 21)), o 23 (.call (.c (.fn 79 [] [])) [.t 22, .t 9])]) (.seq (.reg [o 25 (.bin .eql (.t 13) (.c (.int .i64 3))), o 24 (.mv (.t 25))]) (.cond (.t 24) (.reg [o 26 (.fldA 0 (.t 4)), o 27 (.ld 1 false (.t 26)), o 28 (.fldA 1 (.t 6)), o 29 (.ld 1 false (.t 28)), o 30 (.idxA 6 (.t 27) (.t 29)), o 31 (.fldA 3 (.t 30)), o 32 (.ld 1 false (.t 31)), o 33 (.fldA 13 (.t 9)), ⟨none, .st 1 (.t 33) (.t 32), none⟩]) (.seq (.reg [o 35 (.bin .eql (.t 13) (.c (.int .i64 4))), o 34 (.mv (.t 35))]) (.cond (.t 34) (.reg [o 36 (.mv (.t 3)), o 37 (.fldA 15 (.t 9)), ⟨none, .st 1 (.t 37) (.t 36), none⟩]) (.seq (.reg [o 39 (.bin .eql (.t 13) (.c (.int .i64 5))), o 38 (.mv (.t 39))]) (.cond (.t 38) (.dreg [(o 40 (.fldA 0 (.t 5)), none), (o 41 (.ld 1 false (.t 40)), none), (o 42 (.fldA 1 (.t 6)), none), (o 43 (.ld 1 false (.t 42)), none), (o 44 (.idxA 6 (.t 41) (.t 43)), none), (o 45 (.fldA 5 (.t 44)), none), (o 46 (.ld 1 false (.t 45)), none), (o 47 (.fldA 2 (.t 6)), none), (o 48 (.ld 1 false (.t 47)), none), (o 49 (.pcall 80 [.t 46, .t 48]), none), (o 50 (.fldA 14 (.t 9)), none), (⟨none, .st 1 (.t 50) (.c (.int .i64 (-1))), none⟩, (some [46, 48, 41, 43])), (o 51 (.fldA 15 (.t 9)), none), (⟨none, .st 1 (.t 51) (.t 49), none⟩, (some [46, 48, 41, 43]))]) (.seq (.reg [o 53 (.bin .eql (.t 13) (.c (.int .i64 6))), o 52 (.mv (.t 53))]) (.cond (.t 52) (.seq (.reg [o 54 (.fldA 0 (.t 4)), o 55 (.ld 1 false (.t 54)), o 56 (.fldA 1 (.t 6)), o 57 (.ld 1 false (.t 56)), o 58 (.idxA 6 (.t 55) (.t 57)), o 59 (.fldA 4 (.t 58)), o 60 (.ld 1 false (.t 59)), o 61 (.fldA 14 (.t 9)), ⟨none, .st 1 (.t 61) (.t 60), none⟩]) (.dreg [(o 62 (.fldA 0 (.t 4)), none), (o 63 (.ld 1 false (.t 62)), none), (o 64 (.fldA 14 (.t 9)), none), (o 65 (.ld 1 false (.t 64)), none), (o 66 (.idxA 6 (.t 63) (.t 65)), none), (o 67 (.fldA 5 (.t 66)), none), (o 68 (.ld 1 false (.t 67)), none), (o 69 (.fldA 1 (.t 6)), none), (o 70 (.ld 1 false (.t 69)), none), (o 71 (.pcall 80 [.t 68, .t 70]), none), (o 72 (.fldA 15 (.t 9)), none), (⟨none, .st 1 (.t 72) (.t 71), none⟩, (some [68, 70, 63, 65]))])) .skip)))))))))))) (.seq (.dreg [(o 73 (.fldA 6 (.t 6)), none), (o 74 (.fldA 2 (.t 73)), none), (o 75 (.ld 1 false (.t 74)), none), (o 76 (.pcall 69 [.t 75]), none), (o 77 (.fldA 6 (.t 6)), none), (o 78 (.fldA 5 (.t 77)), none), (o 79 (.ld 1 false (.t 78)), none), (o 80 (.pcall 70 [.t 79]), none), (o 81 (.fldA 0 (.t 9)), none), (o 82 (.fldA 6 (.t 81)), none), (o 83 (.fldA 2 (.t 82)), none), (⟨none, .st 1 (.t 83) (.t 76), none⟩, (some [79, 75])), (o 84 (.fldA 0 (.t 9)), none), (o 85 (.fldA 6 (.t 84)), none), (o 86 (.fldA 5 (.t 85)), none), (⟨none, .st 1 (.t 86) (.t 80), none⟩, (some [79, 75]))]) (.seq (.reg [o 87 (.ld 16 true (.t 9)), ⟨none, .st 16 (.t 8) (.t 87), none⟩]) .ret)))), [.cell 8 16 true]⟩
theorem hc40 : X6 Tryz.prog {pure := [80, 69, 70]} Tryz.f40 = some c40 := by kernel_rfl
theorem noted_ok (d : HDoc) (V : DV d) (sm : DocSm d) (e : HEdit) (he : EditSm e) (hz : K6 d e = 0) : PCalls (Pg G) 40 [.agg (Z2 d), .agg (Z2 (X8 d e)), .agg (Z1 e), Q7 (ZT d e)] (.agg (Z9 (stepM d e))) := fun h => by
 have h0 := applyE_errR V hz
 have hC1 := cloneA_ok (G := G) e.node.attrs he.node.attrs
 have hC2 := cloneZ_ok (G := G) e.node.kids he.node.kids
 have vl := V.len
 unfold stepM
 refine Q4 Tryz.func40 (by kernel_rfl) hc40 (by rw [Tryz.ntmps40]; simp) (by rw [Tryz.ntmps40]; decide) ?_
 by_cases h4 : e.do' = 4
 ·rw [if_pos h4]
  have hN : ZT d e = d.nodes.length := by unfold ZT editN; rw [if_pos hz, if_pos h4]
  rw [hN]
  have b4 := bI_t h4
  have b1 : (e.do' == 1) = false := bI_f (by omega)
  have b2 : (e.do' == 2) = false := bI_f (by omega)
  have b3 : (e.do' == 3) = false := bI_f (by omega)
  have b5 : (e.do' == 5) = false := bI_f (by omega)
  have b6 : (e.do' == 6) = false := bI_f (by omega)
  simp -dsimp -implicitDefEqProofs (disch := omega) only [VCA, ↓Y4, Nat.reduceEqDiff, Nat.reduceAdd, Nat.reduceLT, Nat.reduceLeDiff, ↓reduceIte, J6, Q5, X4, Y0, Z0, ne_eq, exists_eq_left', Z8, c40, Z2, Z1, b1, b2, b3, b4]
  intro r8 hr8 r9 hr9
  have n1 : ¬ r8 = r9 := fun q => hr9.1 q.symm
  have n2 : ¬ r9 = r8 := hr9.1
  repeat' (first | ((with_reducible refine brC (fun _ => ?_) fun _ => ?_) <;> try (exfalso; omega)) | (with_reducible apply pcallE.of; · exact hC1) | (with_reducible apply pcallE.of; · exact hC2) | (with_reducible refine And.intro ?_ ?_; · omega) | simp -dsimp -implicitDefEqProofs (disch := omega) only [VCA, Nat.reduceEqDiff, Nat.reduceAdd, Nat.reduceLT, Nat.reduceLeDiff, ↓reduceIte, J6, Q5, SOp.rd, SI.rd, SX.rd, Z0, exists_eq_right_right, exists_eq_left', Z8, Z9, n1])
  all_goals (repeat' (first | exact Sub.refl _ | exact hr8 | exact hr9.2 | with_reducible refine Sub.upd ?_ ?_))
 rw [if_neg h4]
 have b4 := bI_f h4
 obtain ⟨do1, do6, hA, hT⟩ := errR_at h0 (by omega)
 have hA0 := hA.1
 have hA1 := hA.2
 have e0 : nth d.nodes e.at'.toNat = nd d e.at' := rfl
 have N0 := sm.nd e.at'
 by_cases h12 : e.do' = 1 \/ e.do' = 2
 ·rw [if_pos h12]
  have hM : ∀ (h : Q3) (r : Nat), h r = some ⟨.t 44, 16, [Z9 ⟨e, false, [], 0, 0⟩]⟩ -> _ := fun h r hr => attribute_ok (G := G) (h := h) (nd d e.at') N0 ⟨e, false, [], 0, 0⟩ r hr
  unfold attrM at hM
  have b12 : (e.do' == 1) = true \/ (e.do' == 1) = false /\ (e.do' == 2) = true := by
   rcases h12 with h | h
   ·exact .inl (bI_t h)
   ·exact .inr ⟨bI_f (by omega), bI_t h⟩
  have fin : ∀ (P : Prop), ((e.do' == 1) = true -> P) -> ((e.do' == 1) = false -> (e.do' == 2) = true -> P) -> P := fun P p q => b12.elim p fun h => q h.1 h.2
  by_cases hq : 0 <= Z4 (nd d e.at').attrs e.name
  ·rw [if_pos hq]
   simp only [if_pos hq] at hM
   apply fin
   ·intro b1
    simp -dsimp -implicitDefEqProofs (disch := omega) only [VCA, ↓Y4, Nat.reduceEqDiff, Nat.reduceAdd, Nat.reduceLT, Nat.reduceLeDiff, ↓reduceIte, X4, Y0, Z0, ne_eq, exists_eq_left', c40, Z2, Z1, b1]
    intro r8 hr8 r9 hr9
    have n1 : ¬ r8 = r9 := fun q => hr9.1 q.symm
    have n2 : ¬ r9 = r8 := hr9.1
    repeat' (first | ((with_reducible refine brC (fun _ => ?_) fun _ => ?_) <;> try (exfalso; omega)) | ((refine DCalls.of (hM _ r9 (Q2 _ _ _)) ?_; rintro _ _ rfl)) | (with_reducible apply pcallE.of; · exact hC1) | (with_reducible apply pcallE.of; · exact hC2) | (with_reducible refine And.intro ?_ ?_; · omega) | simp -dsimp -implicitDefEqProofs (disch := omega) only [VCA, Nat.reduceEqDiff, Nat.reduceAdd, Nat.reduceLT, Nat.reduceLeDiff, ↓reduceIte, J6, Q5, SOp.rd, SI.rd, SX.rd, Z0, exists_eq_right_right, exists_eq_left', Z8, Z9, e0, Q9, n1])
    all_goals (repeat' (first | exact Sub.refl _ | exact hr8 | exact hr9.2 | with_reducible refine Sub.upd ?_ ?_))
   ·intro b1 b2
    simp -dsimp -implicitDefEqProofs (disch := omega) only [VCA, ↓Y4, Nat.reduceEqDiff, Nat.reduceAdd, Nat.reduceLT, Nat.reduceLeDiff, ↓reduceIte, X4, Y0, Z0, ne_eq, exists_eq_left', c40, Z2, Z1, b1, b2]
    intro r8 hr8 r9 hr9
    have n1 : ¬ r8 = r9 := fun q => hr9.1 q.symm
    have n2 : ¬ r9 = r8 := hr9.1
    repeat' (first | ((with_reducible refine brC (fun _ => ?_) fun _ => ?_) <;> try (exfalso; omega)) | ((refine DCalls.of (hM _ r9 (Q2 _ _ _)) ?_; rintro _ _ rfl)) | (with_reducible apply pcallE.of; · exact hC1) | (with_reducible apply pcallE.of; · exact hC2) | (with_reducible refine And.intro ?_ ?_; · omega) | simp -dsimp -implicitDefEqProofs (disch := omega) only [VCA, Nat.reduceEqDiff, Nat.reduceAdd, Nat.reduceLT, Nat.reduceLeDiff, ↓reduceIte, J6, Q5, SOp.rd, SI.rd, SX.rd, Z0, exists_eq_right_right, exists_eq_left', Z8, Z9, e0, Q9, n1])
    all_goals (repeat' (first | exact Sub.refl _ | exact hr8 | exact hr9.2 | with_reducible refine Sub.upd ?_ ?_))
  ·rw [if_neg hq]
   simp only [if_neg hq] at hM
   apply fin
   ·intro b1
    simp -dsimp -implicitDefEqProofs (disch := omega) only [VCA, ↓Y4, Nat.reduceEqDiff, Nat.reduceAdd, Nat.reduceLT, Nat.reduceLeDiff, ↓reduceIte, X4, Y0, Z0, ne_eq, exists_eq_left', c40, Z2, Z1, b1]
    intro r8 hr8 r9 hr9
    have n1 : ¬ r8 = r9 := fun q => hr9.1 q.symm
    have n2 : ¬ r9 = r8 := hr9.1
    repeat' (first | ((with_reducible refine brC (fun _ => ?_) fun _ => ?_) <;> try (exfalso; omega)) | ((refine DCalls.of (hM _ r9 (Q2 _ _ _)) ?_; rintro _ _ rfl)) | (with_reducible apply pcallE.of; · exact hC1) | (with_reducible apply pcallE.of; · exact hC2) | (with_reducible refine And.intro ?_ ?_; · omega) | simp -dsimp -implicitDefEqProofs (disch := omega) only [VCA, Nat.reduceEqDiff, Nat.reduceAdd, Nat.reduceLT, Nat.reduceLeDiff, ↓reduceIte, J6, Q5, SOp.rd, SI.rd, SX.rd, Z0, exists_eq_right_right, exists_eq_left', Z8, Z9, e0, Q9, n1])
    all_goals (repeat' (first | exact Sub.refl _ | exact hr8 | exact hr9.2 | with_reducible refine Sub.upd ?_ ?_))
   ·intro b1 b2
    simp -dsimp -implicitDefEqProofs (disch := omega) only [VCA, ↓Y4, Nat.reduceEqDiff, Nat.reduceAdd, Nat.reduceLT, Nat.reduceLeDiff, ↓reduceIte, X4, Y0, Z0, ne_eq, exists_eq_left', c40, Z2, Z1, b1, b2]
    intro r8 hr8 r9 hr9
    have n1 : ¬ r8 = r9 := fun q => hr9.1 q.symm
    have n2 : ¬ r9 = r8 := hr9.1
    repeat' (first | ((with_reducible refine brC (fun _ => ?_) fun _ => ?_) <;> try (exfalso; omega)) | ((refine DCalls.of (hM _ r9 (Q2 _ _ _)) ?_; rintro _ _ rfl)) | (with_reducible apply pcallE.of; · exact hC1) | (with_reducible apply pcallE.of; · exact hC2) | (with_reducible refine And.intro ?_ ?_; · omega) | simp -dsimp -implicitDefEqProofs (disch := omega) only [VCA, Nat.reduceEqDiff, Nat.reduceAdd, Nat.reduceLT, Nat.reduceLeDiff, ↓reduceIte, J6, Q5, SOp.rd, SI.rd, SX.rd, Z0, exists_eq_right_right, exists_eq_left', Z8, Z9, e0, Q9, n1])
    all_goals (repeat' (first | exact Sub.refl _ | exact hr8 | exact hr9.2 | with_reducible refine Sub.upd ?_ ?_))
 rw [if_neg h12]
 have b1 : (e.do' == 1) = false := bI_f (by omega)
 have b2 : (e.do' == 2) = false := bI_f (by omega)
 by_cases h3 : e.do' = 3
 ·rw [if_pos h3]
  have b3 := bI_t h3
  simp -dsimp -implicitDefEqProofs (disch := omega) only [VCA, ↓Y4, Nat.reduceEqDiff, Nat.reduceAdd, Nat.reduceLT, Nat.reduceLeDiff, ↓reduceIte, J6, Q5, X4, Y0, Z0, ne_eq, exists_eq_left', Z8, c40, Z2, Z1, b1, b2, b3]
  intro r8 hr8 r9 hr9
  have n1 : ¬ r8 = r9 := fun q => hr9.1 q.symm
  have n2 : ¬ r9 = r8 := hr9.1
  repeat' (first | ((with_reducible refine brC (fun _ => ?_) fun _ => ?_) <;> try (exfalso; omega)) | (with_reducible apply pcallE.of; · exact hC1) | (with_reducible apply pcallE.of; · exact hC2) | (with_reducible refine And.intro ?_ ?_; · omega) | simp -dsimp -implicitDefEqProofs (disch := omega) only [VCA, Nat.reduceEqDiff, Nat.reduceAdd, Nat.reduceLT, Nat.reduceLeDiff, ↓reduceIte, J6, Q5, SOp.rd, SI.rd, SX.rd, Z0, exists_eq_right_right, exists_eq_left', Z8, Z9, e0, Q9, n1])
  all_goals (repeat' (first | exact Sub.refl _ | exact hr8 | exact hr9.2 | with_reducible refine Sub.upd ?_ ?_))
 rw [if_neg h3]
 have b3 := bI_f h3
 by_cases h5 : e.do' = 5
 ·rw [if_pos h5]
  have b5 := bI_t h5
  obtain ⟨p1, p2⟩ := put_at_is V h5 h0
  have aD : X8 d e = JV d e.at' e.to (U7 d e) := by
   rw [applyD_is hz]; unfold X9; rw [if_neg (by omega), if_neg (by omega), if_neg (by omega), if_neg (by omega), if_pos h5]
  have smA := apply_sm (d := d) sm he
  rw [aD] at smA ⊢
  have p10 := p1.1
  have p11 := p1.2
  have e1 : nth (JV d e.at' e.to (U7 d e)).nodes e.at'.toNat = nd (JV d e.at' e.to (U7 d e)) e.at' := rfl
  have hI := hasII_ok (G := G) (nd (JV d e.at' e.to (U7 d e)) e.at').kids e.to (smA.nd e.at').kids
  have p3 := p2
  rw [p2] at hI
  generalize JV d e.at' e.to (U7 d e) = D at *
  simp -dsimp -implicitDefEqProofs (disch := omega) only [VCA, ↓Y4, Nat.reduceEqDiff, Nat.reduceAdd, Nat.reduceLT, Nat.reduceLeDiff, ↓reduceIte, J6, Q5, X4, Y0, Z0, ne_eq, exists_eq_left', Z8, c40, Z2, Z1, b1, b2, b3, b4, b5]
  intro r8 hr8 r9 hr9
  have n1 : ¬ r8 = r9 := fun q => hr9.1 q.symm
  have n2 : ¬ r9 = r8 := hr9.1
  repeat' (first | ((with_reducible refine brC (fun _ => ?_) fun _ => ?_) <;> try (exfalso; omega)) | (with_reducible apply pcallE.of; · exact hI) | (with_reducible apply pcallE.of; · exact hC1) | (with_reducible apply pcallE.of; · exact hC2) | (with_reducible refine And.intro ?_ ?_; · omega) | simp -dsimp -implicitDefEqProofs (disch := omega) only [VCA, Nat.reduceEqDiff, Nat.reduceAdd, Nat.reduceLT, Nat.reduceLeDiff, ↓reduceIte, J6, Q5, SOp.rd, SI.rd, SX.rd, Z0, exists_eq_right_right, exists_eq_left', Z8, Z9, Q9, n1, e1])
  all_goals (repeat' (first | exact Sub.refl _ | exact hr8 | exact hr9.2 | with_reducible refine Sub.upd ?_ ?_))
 rw [if_neg h5]
 have b5 := bI_f h5
 have h6 : e.do' = 6 := by omega
 have b6 := bI_t h6
 have hpp : 0 <= (nd d e.at').parent := by
  rw [errR_6 h6 hA] at h0
  split at h0
  ·omega
  ·split at h0 <;> omega
 have hP := (V.par_in hA hpp).1
 have hP0 := hP.1
 have hP1 := hP.2
 have kl := (sm.nd (nd d e.at').parent).kids
 have hI := hasII_ok (G := G) (nd d (nd d e.at').parent).kids e.at' kl
 have e1 : nth d.nodes (nd d e.at').parent.toNat = nd d (nd d e.at').parent := rfl
 simp -dsimp -implicitDefEqProofs (disch := omega) only [VCA, ↓Y4, Nat.reduceEqDiff, Nat.reduceAdd, Nat.reduceLT, Nat.reduceLeDiff, ↓reduceIte, J6, Q5, X4, Y0, Z0, ne_eq, exists_eq_left', Z8, c40, Z2, Z1, b1, b2, b3, b4, b5, b6]
 intro r8 hr8 r9 hr9
 have n1 : ¬ r8 = r9 := fun q => hr9.1 q.symm
 have n2 : ¬ r9 = r8 := hr9.1
 repeat' (first | ((with_reducible refine brC (fun _ => ?_) fun _ => ?_) <;> try (exfalso; omega)) | (with_reducible apply pcallE.of; · exact hI) | (with_reducible apply pcallE.of; · exact hC1) | (with_reducible apply pcallE.of; · exact hC2) | (with_reducible refine And.intro ?_ ?_; · omega) | simp -dsimp -implicitDefEqProofs (disch := omega) only [VCA, Nat.reduceEqDiff, Nat.reduceBEq, Nat.reduceAdd, Nat.reduceLT, Nat.reduceLeDiff, ↓reduceIte, J6, Q5, SOp.rd, SI.rd, SX.rd, Z0, exists_eq_right_right, exists_eq_left', Z8, Z9, e0, Q9, n1, e1])
 all_goals (repeat' (first | exact Sub.refl _ | exact hr8 | exact hr9.2 | with_reducible refine Sub.upd ?_ ?_))
theorem _root_.Go.Sim.Acc.re {h1 h2 h1' h2' : Q3} {ty : TypeId} {sz : Nat} {cells : List (List AVal)} {a : AVal} (A : Acc h1 ty sz cells a h2) (hd : ∀ r o, h1 r = none -> h2 r = some o -> h1' r = none /\ h2' r = some o) : Acc h1' ty sz cells a h2' := by
 rcases A with h | ⟨r, h0, h1, h2⟩
 ·exact .inl h
 ·exact .inr ⟨r, (hd r _ h0 h1).1, (hd r _ h0 h1).2, h2⟩
theorem _root_.Go.Sim.Acc.keepA {h h1 : Q3} {ty : TypeId} {sz : Nat} {cells : List (List AVal)} {a : AVal} (A : Acc h ty sz cells a h1) {r2 : Nat} (hn : Q8 a ≠ some r2) (o : Option AObj) : Acc h ty sz cells a (upd h1 r2 o) := by
 rcases A with q | ⟨r, q0, q1, q2⟩
 ·exact .inl q
 ·have : r ≠ r2 := fun e => hn (by rw [q2, e]; rfl)
  exact .inr ⟨r, q0, by rw [Q1 _ _ this]; exact q1, q2⟩
theorem _root_.Go.Sim.Acc.vw {h h' : Q3} {ty : TypeId} {sz : Nat} {cells : List (List AVal)} {a : AVal} (A : Acc h ty sz cells a h') (hl : ∀ f ∈ cells, f.length = sz) : Vw (newH h h') a (.slc cells) := by
 rcases A with ⟨rfl, rfl⟩ | ⟨r, h0, h1, rfl⟩
 ·exact .emp
 ·exact Vw.osl0 (by rw [newH_none h0]; exact h1) rfl (Nat.le_refl _) hl (by rw [List.take_length]; exact F2.refl (F2.refl .refl) _)
theorem _root_.Go.Sim.Acc.appW {h h' : Q3} {ty : TypeId} {sz b : Nat} {cells es2 : List (List AVal)} {a : AVal} {K : AVal -> Q3 -> Prop} (A : Acc h ty sz cells a h') (S : Sub h h')
  (h1 : (cells.length + es2.length) * b <= 140737488355328) (h2 : cells.length + es2.length <= 140737488355328)
  (hk : ∀ a' h'', Acc h ty sz (cells ++ es2) a' h'' -> Sub h h'' -> (∀ r o, h' r = some o -> Q8 a ≠ some r -> h'' r = some o /\ Q8 a' ≠ some r) -> K a' h'') : Hd (appE ty sz b a es2 h') K .mk := by
 rcases A with ⟨rfl, rfl⟩ | ⟨r, h0, hr, rfl⟩
 ·refine ⟨by simpa using h1, by simpa using h2, fun r hr => hk _ _ ?_ (S.upd (S.none hr)) fun x o hx _ => ?_⟩
  ·exact .inr ⟨r, S.none hr, by simp, rfl⟩
  ·have : x ≠ r := fun e => by rw [e, hr] at hx; cases hx
   exact ⟨by rw [Q1 _ _ this]; exact hx, fun e => this (by cases e; rfl)⟩
 ·refine ⟨rfl, _, hr, rfl, by simp, h1, h2, fun r' hr' => hk _ _ ?_ ?_ fun x o hx hn => ?_⟩
  ·have hn : h r' = none := (S.del h0).none hr'
   refine .inr ⟨r', hn, by simp, by simp⟩
  ·exact (S.del h0).upd ((S.del h0).none hr')
  ·have hxr : x ≠ r := fun e => hn (by rw [e]; rfl)
   have hd : del h' r x = some o := by unfold del; rw [if_neg hxr]; exact hx
   have : x ≠ r' := fun e => by rw [e, hr'] at hd; cases hd
   exact ⟨by rw [Q1 _ _ this]; exact hd, fun e => this (by cases e; rfl)⟩
def c11 : SFun := ⟨.seq (.reg [o 2 (.box 24 2 (.t 0)), o 4 (.new 24 2 [.emp, .bool false]), o 5 (.mv (.c .emp)), o 6 (.mv (.c (.int .i64 0))), o 7 (.mv (.c (.int .i64 0)))]) (.seq (.seq (.reg [o 18 (.ld 2 true (.t 2)), o 19 (.mv (.t 1)), o 20 (.pcall 38 [.t 18, .t 19]), o 17 (.mv (.t 20)), o 21 (.ext (.t 17) 0), o 22 (.ext (.t 17) 1), o 23 (.ext (.t 17) 2), o 8 (.new 24 2 [.emp, .bool false]), ⟨none, .st 2 (.t 8) (.t 21), none⟩, o 9 (.mv (.t 22)), o 10 (.mv (.t 23))]) (.seq (.reg [o 24 (.mv (.t 10)), o 25 (.bin .neq (.t 24) (.c (.int .i64 0)))]) (.cond (.t 25) (.seq (.reg [o 26 (.bld [.emp, .bool false] []), o 27 (.mv (.t 9)), o 28 (.mv (.t 10)), ⟨none, .st 2 (.t 4) (.t 26), none⟩, o 5 (.mv (.c .emp)), o 6 (.mv (.t 27)), o 7 (.mv (.t 28))]) .ret) .skip))) (.seq (.reg [o 30 (.ld 2 true (.t 2)), o 31 (.pcall 38 [.t 30, .c .emp]), o 29 (.mv (.t 31)), o 32 (.ext (.t 29) 0), o 33 (.ext (.t 29) 1), o 34 (.ext (.t 29) 2), ⟨none, .st 2 (.t 2) (.t 32), none⟩]) (.seq (.reg [o 11 (.mv (.c .emp))]) (.seq (.seq (.reg [o 35 (.mv (.t 1)), o 36 (.len (.t 35)), o 37 (.mv (.c (.int .i64 0)))]) (.block 0 (.loop (.seq (.reg [o 38 (.bin .lss (.t 37) (.t 36))]) (.seq (.cond (.t 38) .skip (.exit 0)) (.seq (.block 1 (.seq (.reg [o 39 (.idxA 12 (.t 35) (.t 37)), o 40 (.ld 12 true (.t 39)), o 13 (.new 42 12 [.int .i64 0, .int .i64 0, .int .i64 0, .int .i64 0, .str [], .str [], .int .i64 0, .str [], .emp, .str [], .int .i64 0, .emp]), ⟨none, .st 12 (.t 13) (.t 40), none⟩]) (.seq (.reg [o 42 (.ld 2 true (.t 2)), o 43 (.ld 12 true (.t 13)), o 44 (.pcall 39 [.t 42, .t 43]), o 41 (.mv (.t 44)), o 45 (.ext (.t 41) 0), o 46 (.ext (.t 41) 1), o 47 (.ext (.t 41) 2), o 14 (.new 24 2 [.emp, .bool false]), ⟨none, .st 2 (.t 14) (.t 45), none⟩, o 15 (.mv (.t 46)), o 16 (.mv (.t 47))]) (.seq (.reg [o 48 (.mv (.t 11)), o 49 (.ld 2 true (.t 2)), o 50 (.ld 2 true (.t 14)), o 51 (.ld 12 true (.t 13)), o 52 (.mv (.t 15)), o 53 (.pcall 40 [.t 49, .t 50, .t 51, .t 52]), o 54 (.bldF 44 16 [.t 53]), o 55 (.app 44 16 200 (.t 48) (.t 54)), o 11 (.mv (.t 55))]) (.reg [o 56 (.ld 2 true (.t 14)), ⟨none, .st 2 (.t 2) (.t 56), none⟩]))))) (.reg [o 57 (.bin .add (.t 37) (.c (.int .i64 1))), o 37 (.mv (.t 57))]))))))) (.seq (.reg [o 58 (.ld 2 true (.t 2)), o 59 (.mv (.t 11)), ⟨none, .st 2 (.t 4) (.t 58), none⟩, o 5 (.mv (.t 59)), o 6 (.mv (.c (.int .i64 0))), o 7 (.mv (.c (.int .i64 0)))]) .ret))))), [.cell 4 2 true, .tmp 5, .tmp 6, .tmp 7]⟩
theorem hc11 : X6 Tryz.prog {pure := [38, 39, 40], how := [(2, 6)]} Tryz.f11 = some c11 := by kernel_rfl
theorem do_ok (d : HDoc) (sm : DocSm d) (l : List HEdit) (hl : ∀ e ∈ l, EditSm e) (ll : l.length <= 1073741824) : PCalls (Pg G) 11 [.agg (Z2 d), sl Z1 l] (doV d l) := PCalls.outV fun h => by
 have hAll := all_ok (G := G) d sm l hl ll
 have hNil := (all_ok (G := G) d sm [] (fun e he => by cases he) (Nat.zero_le _)).wk (.cons (.refl _) (.cons .emp .nil))
 unfold allV at hAll hNil
 unfold doV
 refine Q4 Tryz.func11 (by kernel_rfl) hc11 (by rw [Tryz.ntmps11]; simp) (by rw [Tryz.ntmps11]; decide) ?_
 simp -dsimp -implicitDefEqProofs (disch := omega) only [VCA, ↓Y4, Nat.reduceEqDiff, ↓reduceIte, ne_eq, c11, J1]
 intro r2 hr2 r4 hr4
 have n1 : ¬ r4 = r2 := hr4.1
 have n2 : ¬ r2 = r4 := fun q => n1 q.symm
 by_cases h0 : (W9 d l).2.2 = 0
 ·obtain ⟨hd, l40, aM⟩ := allM_zero h0
  rw [allM_nil hd] at hNil
  have V := docE_DV hd
  rw [if_pos h0]
  have b0 : ((W9 d l).2.2 != 0) = false := bN_f h0
  repeat' (first | ((with_reducible refine brC (fun _ => ?_) fun _ => ?_) <;> try (exfalso; omega)) | (with_reducible apply pcallE.of; · exact hAll) | (with_reducible refine And.intro ?_ ?_; · omega) | simp -dsimp -implicitDefEqProofs (disch := omega) only [VCA, ↓Y4, Nat.reduceEqDiff, Nat.reduceAdd, Nat.reduceLT, ↓reduceIte, Z0, ne_eq, exists_eq_left', J1, J4, n2, b0])
  intro r8 hr8
  have n3 : ¬ r8 = r4 := hr8.1
  have n4 : ¬ r4 = r8 := fun q => n3 q.symm
  have n5 : ¬ r8 = r2 := hr8.2.1
  have n6 : ¬ r2 = r8 := fun q => n5 q.symm
  repeat' (first | ((with_reducible refine brC (fun _ => ?_) fun _ => ?_) <;> try (exfalso; omega)) | (with_reducible apply pcallE.of; · exact hNil) | (with_reducible refine And.intro ?_ ?_; · omega) | simp -dsimp -implicitDefEqProofs (disch := omega) only [VCA, Nat.reduceEqDiff, Nat.reduceAdd, Nat.reduceLT, ↓reduceIte, Z0, exists_eq_left', J1, J4, eDoc_drop, n2, n6])
  refine LoopVC.intro (fun m E h' => ∃ (k : Nat) (D : HDoc) (a : AVal) (acc : List HStep), k <= l.length /\ m = l.length - k /\ acc.length = k /\ E 2 = .vp r2 0 /\ E 4 = .vp r4 0 /\ E 11 = a /\ E 35 = sl Z1 l /\ E 36 = Q7 l.length /\ E 37 = Q7 k /\ h' r2 = some ⟨.t 24, 2, [Z2 D]⟩ /\ h' r4 = some ⟨.t 24, 2, [[.emp, .bool false]]⟩ /\
    Acc h 44 16 (acc.map Z9) a h' /\ Sub h h' /\ Q8 a ≠ some r2 /\ Q8 a ≠ some r4 /\ DV D /\ DocSm D /\ runM D (l.drop k) k = W9 d l /\ acc ++ recM D (l.drop k) = recM d l) l.length
   ⟨0, d, .emp, [], by omega, by omega, rfl, rfl, rfl, rfl, rfl, rfl, rfl, ?_, ?_, .nil, ?_, (fun e => by cases e), (fun e => by cases e), V, sm, by rw [aM]; rfl, rfl⟩ ?_
  ·exact Q2 _ _ _
  ·simp only [upd, n1, n4, if_true, if_false]
  ·repeat' (first | exact Sub.refl _ | exact hr2 | exact hr4.2 | exact hr8.2.2 | with_reducible refine Sub.upd ?_ ?_)
  rintro m E h' ⟨k, D, a, acc, hk, rfl, la, E2, E4, E11, E35, E36, E37, g2, g4, A, S, na2, na4, W, smD, hrun, hrec⟩
  simp -dsimp -implicitDefEqProofs (disch := omega) only [VCA, ↓reduceIte, ne_eq, E36, E37]
  refine Br.dec (fun hlt => ?_) (fun hge => ?_)
  ·have hk' : k < l.length := by omega
   rw [runM_cons hk'] at hrun
   rw [recM_cons hk'] at hrec
   have hx := hl _ (W5 hk')
   obtain ⟨x, hxx⟩ : ∃ x, nth l k = x := ⟨_, rfl⟩
   rw [hxx] at hrun hrec hx
   have hz : K6 D x = 0 := by
    apply Classical.byContradiction; intro hn
    rw [if_pos hn] at hrun
    rw [<- hrun] at h0; exact hn h0
   rw [if_neg (by simpa using hz)] at hrun
   obtain ⟨W2, sm2, _, _⟩ := apply_step W smD hx hz
   have hAp := apply_ok (G := G) D smD x hx
   rw [hz] at hAp
   have hNo := noted_ok (G := G) D W smD x hx hz
   repeat' (first | ((with_reducible refine brC (fun _ => ?_) fun _ => ?_) <;> try (exfalso; omega)) | (with_reducible refine And.intro ?_ ?_; · omega) | simp -dsimp -implicitDefEqProofs (disch := omega) only [VCA, Nat.reduceEqDiff, Nat.reduceAdd, Nat.reduceLT, ↓reduceIte, Z0, exists_eq_left', E2, E35, E37, g2, hxx, eEdit_len', JZ])
   intro r13 hr13
   have k1 : ¬ r2 = r13 := fun q => by rw [<- q, g2] at hr13; cases hr13
   have k2 : ¬ r13 = r2 := fun q => k1 q.symm
   have k3 : ¬ r4 = r13 := fun q => by rw [<- q, g4] at hr13; cases hr13
   have k4 : ¬ r13 = r4 := fun q => k3 q.symm
   repeat' (first | ((with_reducible refine brC (fun _ => ?_) fun _ => ?_) <;> try (exfalso; omega)) | (with_reducible apply pcallE.of; · exact hAp) | (with_reducible refine And.intro ?_ ?_; · omega) | simp -dsimp -implicitDefEqProofs (disch := omega) only [VCA, ↓Y4, Nat.reduceEqDiff, Nat.reduceAdd, Nat.reduceLT, ↓reduceIte, Z0, ne_eq, exists_eq_left', E2, E11, g2, k1, JZ, J1, J4])
   intro r14 hr14
   have j1 : ¬ r2 = r14 := fun q => by rw [<- q, g2] at hr14; cases hr14.2
   have j2 : ¬ r14 = r2 := fun q => j1 q.symm
   have j3 : ¬ r4 = r14 := fun q => by rw [<- q, g4] at hr14; cases hr14.2
   have j4 : ¬ r14 = r4 := fun q => j3 q.symm
   have j5 : ¬ r14 = r13 := hr14.1
   have j6 : ¬ r13 = r14 := fun q => j5 q.symm
   have A1 : ∀ o o', Acc h 44 16 (acc.map Z9) a (upd (upd h' r13 (some o)) r14 (some o')) := fun o o' => A.re fun r ob q0 q1 =>
    ⟨q0, by rw [Q1 _ _ (fun e => by rw [e, hr14.2] at q1; cases q1), Q1 _ _ (fun e => by rw [e, hr13] at q1; cases q1)]; exact q1⟩
   have S1 : ∀ o o', Sub h (upd (upd h' r13 (some o)) r14 (some o')) := fun o o' => (S.upd (S.none hr13)).upd (S.none hr14.2)
   have m13 : Q8 a ≠ some r13 := fun q => by
    rcases A with ⟨_, rfl⟩ | ⟨r, _, q1, rfl⟩
    ·cases q
    ·cases q; rw [q1] at hr13; cases hr13
   have m14 : Q8 a ≠ some r14 := fun q => by
    rcases A with ⟨_, rfl⟩ | ⟨r, _, q1, rfl⟩
    ·cases q
    ·cases q; rw [q1] at hr14; cases hr14.2
   repeat' (first | ((with_reducible refine brC (fun _ => ?_) fun _ => ?_) <;> try (exfalso; omega)) | (with_reducible apply pcallE.of; · exact hNo) | ((refine (A1 _ _).appW (S1 _ _) (by simp; omega) (by simp; omega) (fun a' h3 A' S' kp => ?_))) | (with_reducible refine And.intro ?_ ?_; · omega) | simp -dsimp -implicitDefEqProofs (disch := omega) only [VCA, Nat.reduceEqDiff, Nat.reduceLT, ↓reduceIte, Y1, Z0, forall_eq, exists_eq_left, exists_eq_left', E2, E4, E35, E36, E37, j1, j6, eEdit_len', JZ, J1, J4, XV])
   obtain ⟨f2, p2⟩ := kp r2 ⟨24, 2, [Z2 D]⟩ (by simp only [upd, k1, j1, if_false]; exact g2) na2
   obtain ⟨f4, p4⟩ := kp r4 ⟨24, 2, [[.emp, .bool false]]⟩ (by simp only [upd, k3, j3, if_false]; exact g4) na4
   obtain ⟨f14, p14⟩ := kp r14 _ (Q2 _ _ _) m14
   repeat' (first | ((with_reducible refine brC (fun _ => ?_) fun _ => ?_) <;> try (exfalso; omega)) | (with_reducible refine And.intro ?_ ?_; · omega) | simp -dsimp -implicitDefEqProofs (disch := omega) only [VCA, Nat.reduceLT, exists_eq_left', f2, f4, f14, J1, J4, eDoc_drop])
   refine ⟨_, by omega, k + 1, X8 D x, a', acc ++ [stepM D x], by omega, rfl, by rw [List.length_append, la]; rfl, rfl, by omega, rfl, by rw [if_neg n1], ?_, S'.upd hr2, p2, p4, W2, sm2, ?_, ?_⟩
   ·rw [List.map_append]; exact A'.keepA p2 _
   ·rw [<- hrun]; congr 1
   ·rw [<- hrec, List.append_assoc]; rfl
  ·obtain rfl : k = l.length := by omega
   rw [List.drop_length, runM] at hrun
   rw [List.drop_length, recM, List.append_nil] at hrec
   rw [<- hrun, <- hrec]
   repeat' (first | ((with_reducible refine brC (fun _ => ?_) fun _ => ?_) <;> try (exfalso; omega)) | (with_reducible refine And.intro ?_ ?_; · omega) | simp -dsimp -implicitDefEqProofs (disch := omega) only [VCA, Nat.reduceEqDiff, Nat.reduceAdd, Nat.reduceLT, ↓reduceIte, Z0, exists_eq_left', E2, E4, E11, g2, g4, J1, J4])
   refine ⟨_, Sub.refl _, S.upd hr4.2, .tup' (.cons (.refl _) (.cons ?_ (.cons (.refl _) (.cons (.refl _) .nil))))⟩
   exact (A.keepA na4 _).vw fun f hf => by obtain ⟨x, _, rfl⟩ := List.mem_map.1 hf; rfl
 ·rw [if_neg h0]
  have b0 : ((W9 d l).2.2 != 0) = true := bN_t h0
  repeat' (first | ((with_reducible refine brC (fun _ => ?_) fun _ => ?_) <;> try (exfalso; omega)) | (with_reducible apply pcallE.of; · exact hAll) | (with_reducible refine And.intro ?_ ?_; · omega) | simp -dsimp -implicitDefEqProofs (disch := omega) only [VCA, ↓Y4, Nat.reduceEqDiff, Nat.reduceAdd, Nat.reduceLT, ↓reduceIte, X4, Y0, Z0, ne_eq, exists_eq_left', J1, J4, n2, b0])
  intro r8 hr8
  have n3 : ¬ r8 = r4 := hr8.1
  have n4 : ¬ r4 = r8 := fun q => n3 q.symm
  have n5 : ¬ r8 = r2 := hr8.2.1
  have n6 : ¬ r2 = r8 := fun q => n5 q.symm
  repeat' (first | ((with_reducible refine brC (fun _ => ?_) fun _ => ?_) <;> try (exfalso; omega)) | (with_reducible refine And.intro ?_ ?_; · omega) | simp -dsimp -implicitDefEqProofs (disch := omega) only [VCA, Nat.reduceAdd, Nat.reduceLT, ↓reduceIte, exists_eq_left', n4])
  exact ⟨_, Sub.refl _, (((Sub.refl h).upd hr2).upd hr4.2 |>.upd hr8.2.2).upd hr4.2, .tup' (.cons (K7 _) (.cons .emp (.cons (.refl _) (.cons (.refl _) .nil))))⟩
def begS : HStep := ⟨zE 3 2 [122], false, [60, 10], 0, 0⟩
def oneZ : HDoc := (W9 oneD [zE 3 2 [122]]).1
theorem begS_is : (W9 oneD [zE 3 2 [122]]).2.2 = 0 /\ recM oneD [zE 3 2 [122]] = [begS] /\ (nd oneZ 2).text = [122] /\ 2 < oneZ.nodes.length /\ QV oneZ [begS] = 0 /\ QW oneZ [begS] = oneD := by decide +kernel
theorem begS_sm : StepSm begS := ⟨⟨by decide, by decide, by decide, by decide, (fun a ha => by cases ha), by decide, by decide⟩, by decide⟩
def c13 : SFun := ⟨.seq (.reg [o 0 (.mv (.c (.bool false)))]) (.seq (.reg [o 8 (.pcall 42 []), o 9 (.bld [.int .i64 0, .int .i64 0, .int .i64 0, .int .i64 0, .str [], .str [], .int .i64 0, .str [], .emp, .str [], .int .i64 0, .emp] [(0, (1, (.c (.int .i64 3)))), (1, (1, (.c (.int .i64 2)))), (5, (1, (.c (.str [122]))))]), o 10 (.bldF 42 12 [.t 9]), o 11 (.pcall 11 [.t 8, .t 10]), o 7 (.mv (.t 11)), o 12 (.ext (.t 7) 0), o 13 (.ext (.t 7) 1), o 14 (.ext (.t 7) 2), o 15 (.ext (.t 7) 3), o 1 (.new 24 2 [.emp, .bool false]), ⟨none, .st 2 (.t 1) (.t 12), none⟩, o 2 (.mv (.t 13)), o 3 (.mv (.t 14)), o 4 (.mv (.t 15))]) (.seq (.reg [o 17 (.ld 2 true (.t 1)), o 18 (.mv (.t 2)), o 19 (.pcall 16 [.t 17, .t 18]), o 16 (.mv (.t 19)), o 20 (.ext (.t 16) 0), o 21 (.ext (.t 16) 1), o 5 (.new 24 2 [.emp, .bool false]), ⟨none, .st 2 (.t 5) (.t 20), none⟩, o 6 (.mv (.t 21))]) (.seq (.dreg [(o 22 (.mv (.t 3)), none), (o 23 (.bin .eql (.t 22) (.c (.int .i64 0))), none), (o 24 (.mv (.t 23)), none), (⟨some 25, .mv (.t 4), some (24, true)⟩, none), (⟨some 26, .bin .eql (.t 25) (.c (.int .i64 0)), some (24, true)⟩, none), (o 27 (.pick (.t 24) (.t 26) (.c (.bool false))), none), (o 28 (.mv (.t 27)), none), (⟨some 29, .mv (.t 2), some (28, true)⟩, none), (⟨some 30, .len (.t 29), some (28, true)⟩, none), (⟨some 31, .bin .eql (.t 30) (.c (.int .i64 1)), some (28, true)⟩, none), (o 32 (.pick (.t 28) (.t 31) (.c (.bool false))), none), (o 33 (.mv (.t 32)), none), (⟨some 34, .mv (.t 2), some (33, true)⟩, none), (⟨some 35, .idxA 16 (.t 34) (.c (.int .i64 0)), some (33, true)⟩, none), (⟨some 36, .fldA 13 (.t 35), some (33, true)⟩, none), (⟨some 37, .ld 1 false (.t 36), some (33, true)⟩, none), (⟨some 38, .bin .eql (.t 37) (.c (.str [60, 10])), some (33, true)⟩, none), (o 39 (.pick (.t 33) (.t 38) (.c (.bool false))), none), (o 40 (.mv (.t 39)), none), (⟨some 41, .fldA 0 (.t 1), some (40, true)⟩, none), (⟨some 42, .ld 1 false (.t 41), some (40, true)⟩, none), (⟨some 43, .idxA 6 (.t 42) (.c (.int .i64 2)), some (40, true)⟩, none), (⟨some 44, .fldA 3 (.t 43), some (40, true)⟩, none), (⟨some 45, .ld 1 false (.t 44), some (40, true)⟩, none), (⟨some 46, .bin .eql (.t 45) (.c (.str [122])), some (40, true)⟩, none), (o 47 (.pick (.t 40) (.t 46) (.c (.bool false))), none), (o 48 (.mv (.t 47)), none), (⟨some 49, .mv (.t 6), some (48, true)⟩, none), (⟨some 50, .bin .eql (.t 49) (.c (.int .i64 0)), some (48, true)⟩, none), (o 51 (.pick (.t 48) (.t 50) (.c (.bool false))), none), (o 52 (.mv (.t 51)), none), (⟨some 53, .ld 2 true (.t 5), some (52, true)⟩, none), (⟨some 54, .pcall 42 [], some (52, true)⟩, none), (⟨some 55, .pcall 14 [.t 53, .t 54], some (52, true)⟩, none), (o 56 (.pick (.t 52) (.t 55) (.c (.bool false))), none), (o 0 (.mv (.t 56)), none)]) .ret))), [.tmp 0]⟩
theorem hc13 : X6 Tryz.prog {pure := [42, 11, 16, 14]} Tryz.f13 = some c13 := by kernel_rfl
theorem recordBegun_ok : PCalls (Pg G) 13 [] (.bool true) := fun h => by
 obtain ⟨b1, b2, b3, b4, b5, b6⟩ := begS_is
 have sE : EditSm (zE 3 2 [122]) := begS_sm.edit
 have smZ : DocSm oneZ := allM_sm oneD_sm (fun e he => by simp at he; subst he; exact sE)
 have h1 : PCalls (Pg G) 11 [.agg (Z2 oneD), .slc [[.int .i64 3, .int .i64 2, .int .i64 0, .int .i64 0, .str [], .str [122], .int .i64 0, .str [], .emp, .str [], .int .i64 0, .emp]]] (.tup [.agg (Z2 oneZ), .slc [Z9 begS], Q7 0, Q7 0]) := by
  have h := (do_ok (G := G) oneD oneD_sm [zE 3 2 [122]] (fun e he => by simp at he; subst he; exact sE) (by decide)).wk (args := [.agg (Z2 oneD), .slc [eE0 (zE 3 2 [122])]]) (.cons (.refl _) (.cons (.slc' (show F2 (F2 Wk) ([zE 3 2 [122]].map eE0) ([zE 3 2 [122]].map Z1) from eE0_wks fun e he => by obtain rfl : e = zE 3 2 [122] := (by simpa using he); exact ⟨rfl, rfl⟩)) .nil))
  unfold doV at h
  rw [if_pos b1, b2] at h
  exact h
 have h2 : PCalls (Pg G) 16 [.agg (Z2 oneZ), .slc [Z9 begS]] (.tup [.agg (Z2 oneD), Q7 0]) := by
  have h := undo_text (G := G) oneZ smZ [begS] (fun s hs => by simp at hs; subst hs; exact begS_sm) (by decide) (fun s hs => by simp at hs; subst hs; rfl)
  rw [b5, b6] at h
  exact h
 have hO := oneP_ok (G := G)
 have h4 : PCalls (Pg G) 14 [.agg (Z2 oneD), .agg (Z2 oneD)] (.bool true) := by
  have h := sameDoc_ok (G := G) oneD oneD oneD_sm oneD_sm
  rwa [show (oneD == oneD) = true by simp] at h
 have e2 : nth oneZ.nodes (Int.toNat 2) = nd oneZ 2 := rfl
 have e0 : begS.was = [60, 10] := rfl
 generalize oneZ = Z at *
 refine Q4 Tryz.func13 (by kernel_rfl) hc13 (by rw [Tryz.ntmps13]; simp) (by rw [Tryz.ntmps13]; decide) ?_
 simp -dsimp -implicitDefEqProofs (disch := omega) only [VCA, c13]
 repeat' (first | ((with_reducible refine brC (fun _ => ?_) fun _ => ?_) <;> try (exfalso; omega)) | (with_reducible apply pcallE.of; · exact hO) | (with_reducible apply pcallE.of; · exact h1) | (with_reducible refine And.intro ?_ ?_; · omega) | simp -dsimp -implicitDefEqProofs (disch := omega) only [VCA, Nat.reduceEqDiff, Nat.reduceAdd, Nat.reduceLT, Nat.reduceLeDiff, ↓reduceIte, Y1, X4, Y0, Z0, exists_eq_left'])
 intro r1 hr1
 repeat' (first | ((with_reducible refine brC (fun _ => ?_) fun _ => ?_) <;> try (exfalso; omega)) | (with_reducible apply pcallE.of; · exact h2) | (with_reducible refine And.intro ?_ ?_; · omega) | simp -dsimp -implicitDefEqProofs (disch := omega) only [↓Z3 24, VCA, ↓Y4, Nat.reduceEqDiff, Nat.reduceAdd, Nat.reduceLT, ↓reduceIte, J6, Q5, Z0, ne_eq, exists_eq_left', Z8, J1, J4])
 intro r5 hr5
 have n1 : ¬ r5 = r1 := hr5.1
 have n2 : ¬ r1 = r5 := fun q => n1 q.symm
 unfold Z2 at hO h4
 repeat' (first | ((with_reducible refine brC (fun _ => ?_) fun _ => ?_) <;> try (exfalso; omega)) | (with_reducible apply pcallE.of; · exact hO) | (with_reducible apply pcallE.of; · exact h4) | (with_reducible refine And.intro ?_ ?_; · omega) | simp -dsimp -implicitDefEqProofs (disch := omega) only [↓Z3 28, ↓Z3 33, ↓Z3 40, ↓Z3 48, ↓Z3 52, VCA, Nat.reduceEqDiff, Nat.reduceAdd, Nat.reduceLT, Nat.reduceLeDiff, ↓reduceIte, J6, Q5, exists_eq_right_right, exists_eq_right, exists_eq_left', Z8, n2, Z2, Q9, Z9, e0, e2, b3])
 all_goals first | exact ((Sub.refl h).upd hr1).upd hr5.2 | exact ⟨((Sub.refl h).upd hr1).upd hr5.2, by simp⟩ | (exfalso; rename_i q; exact q rfl) | (exfalso; rename_i q; exact q b3) | trace_state
theorem backM_usm : ∀ (l : List HStep) (d : HDoc) (k : Nat) (D : HDoc), (∀ s ∈ l, StepSm s) -> USm k d -> k + l.length <= 1000 -> YU d l = some D -> DocSm D
 | [], d, k, D, _, U, _, h => by
  simp only [YU] at h; cases h; exact U.sm
 | s :: l, d, k, D, hl, U, hk, h => by
  simp only [YU] at h
  simp only [List.length_cons] at hk
  split at h
  ·rename_i hf
   exact backM_usm l _ (k + 1) D (fun x hx => hl x (List.mem_cons_of_mem _ hx)) (U.undo (hl s List.mem_cons_self) (by omega) hf) (by omega) h
  ·cases h
theorem noDoc_sm : DocSm QK := ⟨Nat.zero_le _, fun x hx => by cases hx⟩
theorem undoV_sm (d : HDoc) (sm : DocSm d) (l : List HStep) (hl : ∀ s ∈ l, StepSm s) : DocSm (QW d l) := by
 unfold QW
 split
 ·rename_i h0
  unfold QV at h0
  split at h0
  ·rename_i h1; exact absurd h0 h1
  ·rename_i h1
   split at h0
   ·omega
   ·rename_i h2
    have V := docE_DV (by simpa using h1 : T6 d = 0)
    cases hM : YU d l.reverse with
    | none => exact noDoc_sm
    | some D => exact backM_usm l.reverse d 0 D (fun s hs => hl s (List.mem_reverse.1 hs)) (V.usm sm) (by rw [List.length_reverse]; omega) hM
 ·exact noDoc_sm
def c4 : SFun := ⟨.seq (.reg [o 2 (.box 24 2 (.t 0)), o 4 (.mv (.c (.bool false)))]) (.seq (.dreg [(o 16 (.ld 2 true (.t 2)), none), (o 17 (.pcall 10 [.t 16, .c (.int .i64 40)]), none), (o 18 (.mv (.t 1)), none), (o 19 (.mv (.t 1)), none), (o 20 (.len (.t 19)), none), (o 21 (.min2 (.t 20) (.c (.int .i64 45))), none), (o 22 (.slA 16 (.t 18) none (some (.t 21))), none), (⟨none, .st 2 (.t 2) (.t 17), none⟩, (some [16])), (o 1 (.mv (.t 22)), (some [16]))]) (.seq (.reg [o 24 (.ld 2 true (.t 2)), o 25 (.mv (.t 1)), o 26 (.pcall 16 [.t 24, .t 25]), o 23 (.mv (.t 26)), o 27 (.ext (.t 23) 0), o 28 (.ext (.t 23) 1), o 5 (.new 24 2 [.emp, .bool false]), ⟨none, .st 2 (.t 5) (.t 27), none⟩, o 6 (.mv (.t 28))]) (.seq (.reg [o 30 (.ld 2 true (.t 2)), o 31 (.mv (.t 1)), o 32 (.pcall 17 [.t 30, .t 31]), o 29 (.mv (.t 32)), o 33 (.ext (.t 29) 0), o 34 (.ext (.t 29) 1), o 7 (.new 24 2 [.emp, .bool false]), ⟨none, .st 2 (.t 7) (.t 33), none⟩, o 8 (.mv (.t 34))]) (.seq (.reg [o 36 (.ld 2 true (.t 2)), o 37 (.mv (.t 1)), o 38 (.pcall 18 [.t 36, .t 37]), o 35 (.mv (.t 38)), o 39 (.ext (.t 35) 0), o 40 (.ext (.t 35) 1), o 9 (.new 24 2 [.emp, .bool false]), ⟨none, .st 2 (.t 9) (.t 39), none⟩, o 10 (.mv (.t 40))]) (.seq (.reg [o 11 (.mv (.c .emp))]) (.seq (.seq (.reg [o 12 (.mv (.c (.int .i64 0)))]) (.block 0 (.loop (.seq (.seq (.reg [o 41 (.mv (.t 12)), o 42 (.mv (.t 1)), o 43 (.len (.t 42)), o 44 (.bin .lss (.t 41) (.t 43))]) (.cond (.t 44) .skip (.exit 0))) (.seq (.block 1 (.reg [o 47 (.mv (.t 11)), o 48 (.mv (.t 1)), o 49 (.mv (.t 12)), o 50 (.idxA 16 (.t 48) (.t 49)), o 51 (.fldA 0 (.t 50)), o 52 (.ld 12 true (.t 51)), o 53 (.bldF 42 12 [.t 52]), o 54 (.app 42 12 160 (.t 47) (.t 53)), o 11 (.mv (.t 54))])) (.reg [o 45 (.mv (.t 12)), o 46 (.bin .add (.t 45) (.c (.int .i64 1))), o 12 (.mv (.t 46))])))))) (.seq (.reg [o 56 (.ld 2 true (.t 2)), o 57 (.frz (.t 11)), o 58 (.pcall 19 [.t 56, .t 57]), o 55 (.mv (.t 58)), o 59 (.ext (.t 55) 0), o 60 (.ext (.t 55) 1), o 61 (.ext (.t 55) 2), o 13 (.new 24 2 [.emp, .bool false]), ⟨none, .st 2 (.t 13) (.t 59), none⟩, o 14 (.mv (.t 60)), o 15 (.mv (.t 61))]) (.seq (.reg [o 62 (.pcall 13 []), o 63 (.mv (.t 62)), ⟨some 64, .ld 2 true (.t 5), some (63, true)⟩, ⟨some 65, .ld 2 true (.t 7), some (63, true)⟩, ⟨some 66, .pcall 14 [.t 64, .t 65], some (63, true)⟩, o 67 (.pick (.t 63) (.t 66) (.c (.bool false))), o 68 (.mv (.t 67)), ⟨some 69, .mv (.t 6), some (68, true)⟩, ⟨some 70, .mv (.t 8), some (68, true)⟩, ⟨some 71, .bin .eql (.t 69) (.t 70), some (68, true)⟩, o 72 (.pick (.t 68) (.t 71) (.c (.bool false))), o 73 (.mv (.t 72)), ⟨some 74, .ld 2 true (.t 9), some (73, true)⟩, ⟨some 75, .ld 2 true (.t 13), some (73, true)⟩, ⟨some 76, .pcall 14 [.t 74, .t 75], some (73, true)⟩, o 77 (.pick (.t 73) (.t 76) (.c (.bool false))), o 78 (.mv (.t 77)), ⟨some 79, .mv (.t 10), some (78, true)⟩, ⟨some 80, .mv (.t 15), some (78, true)⟩, ⟨some 81, .bin .eql (.t 79) (.t 80), some (78, true)⟩, o 82 (.pick (.t 78) (.t 81) (.c (.bool false))), o 4 (.mv (.t 82))]) .ret)))))))), [.tmp 4]⟩
theorem hc4 : X6 Tryz.prog {pure := [10, 13, 16, 17, 18, 19, 14], how := [(2, 6), (57, 8)]} Tryz.f4 = some c4 := by kernel_rfl
theorem recordUndoes_ok (d : HDoc) (sm : DocSm d) (l : List HStep) (hl : ∀ s ∈ l, StepSm s) (ll : l.length <= 1073741824) : PCalls (Pg G) 4 [.agg (Z2 d), sl Z9 l] (.bool true) := fun h => by
 have hF : PCalls (Pg G) 10 [.agg (Z2 d), .int .i64 40] (.agg (Z2 ⟨d.nodes.take 40, d.quirks⟩)) := few_ok (G := G) d 40 sm
 have fs := sm.few 40
 generalize (⟨d.nodes.take 40, d.quirks⟩ : HDoc) = f at *
 obtain ⟨L, hL⟩ : ∃ L, l.take (min (l.length : Int) 45).toNat = L := ⟨_, rfl⟩
 have hm : ∀ e ∈ L, StepSm e := fun e he => hl e (List.mem_of_mem_take (hL ▸ he))
 have ml : L.length <= 45 := by rw [<- hL, List.length_take]; omega
 have hA := undo_ok_of (G := G) f fs L hm (by omega) (fun s hs => undone_ok s (hm s hs))
 have hE := recordUndo_of (G := G) f fs L hm (by omega) (fun s hs => undoneR_ok s (hm s hs))
 have hR := redo_ok (G := G) f fs L hm (by omega)
 have hW := editedAll_ok (G := G) f fs (K3 L) (fun e he => by obtain ⟨s, hs, rfl⟩ := List.mem_map.1 he; exact (hm s hs).edit) (by unfold K3; rw [List.length_map]; omega)
 unfold allV at hW
 have asm := undoV_sm f fs L hm
 have bsm : DocSm (W9 f (K3 L)).1 := allM_sm fs (fun e he => by obtain ⟨s, hs, rfl⟩ := List.mem_map.1 he; exact (hm s hs).edit)
 unfold undoV at hA hE
 generalize QW f L = D at *
 generalize QV f L = X at *
 have hS2 : PCalls (Pg G) 14 [.agg (Z2 D), .agg (Z2 D)] (.bool true) := by
  have h := sameDoc_ok (G := G) D D asm asm
  rwa [show (D == D) = true by simp] at h
 have hS3 : PCalls (Pg G) 14 [.agg (Z2 (W9 f (K3 L)).1), .agg (Z2 (W9 f (K3 L)).1)] (.bool true) := by
  have h := sameDoc_ok (G := G) _ _ bsm bsm
  rwa [show ((W9 f (K3 L)).1 == (W9 f (K3 L)).1) = true by simp] at h
 have hB := recordBegun_ok (G := G)
 have n1 : (X == X) = true := by simp
 refine Q4 Tryz.func4 (by kernel_rfl) hc4 (by rw [Tryz.ntmps4]; simp) (by rw [Tryz.ntmps4]; decide) ?_
 simp -dsimp -implicitDefEqProofs (disch := omega) only [VCA, Nat.reduceEqDiff, Nat.reduceLT, ↓reduceIte, J6, Q5, exists_eq_left', Z8, c4, J1, J4]
 intro r2 hr2
 repeat' (first | ((with_reducible refine brC (fun _ => ?_) fun _ => ?_) <;> try (exfalso; omega)) | (with_reducible apply pcallE.of; · exact hF) | (with_reducible apply pcallE.of; · exact hA) | (with_reducible refine And.intro ?_ ?_; · omega) | simp -dsimp -implicitDefEqProofs (disch := omega) only [VCA, ↓Y4, Nat.reduceEqDiff, Nat.reduceBEq, Nat.reduceAdd, Nat.reduceLT, ↓reduceIte, J6, Q5, SOp.rd, SI.rd, SX.rd, Z0, ne_eq, exists_eq_left', Z8, J1, J4, eDoc_dr, hL])
 intro r5 hr5
 have m1 : ¬ r5 = r2 := hr5.1
 have m2 : ¬ r2 = r5 := fun h => m1 h.symm
 repeat' (first | ((with_reducible refine brC (fun _ => ?_) fun _ => ?_) <;> try (exfalso; omega)) | (with_reducible apply pcallE.of; · exact hE) | (with_reducible refine And.intro ?_ ?_; · omega) | simp -dsimp -implicitDefEqProofs (disch := omega) only [VCA, ↓Y4, Nat.reduceEqDiff, Nat.reduceAdd, Nat.reduceLT, ↓reduceIte, Z0, ne_eq, exists_eq_left', J1, J4, m2])
 intro r7 hr7
 have k1 : ¬ r7 = r2 := hr7.2.1
 have k2 : ¬ r2 = r7 := fun h => k1 h.symm
 have k3 : ¬ r7 = r5 := hr7.1
 have k4 : ¬ r5 = r7 := fun h => k3 h.symm
 repeat' (first | ((with_reducible refine brC (fun _ => ?_) fun _ => ?_) <;> try (exfalso; omega)) | (with_reducible apply pcallE.of; · exact hR) | (with_reducible refine And.intro ?_ ?_; · omega) | simp -dsimp -implicitDefEqProofs (disch := omega) only [VCA, ↓Y4, Nat.reduceEqDiff, Nat.reduceAdd, Nat.reduceLT, ↓reduceIte, Z0, ne_eq, exists_eq_left', J1, J4, k2])
 intro r9 hr9
 generalize hW1 : (W9 f (K3 L)).1 = W at *
 generalize (W9 f (K3 L)).2.1 = N at *
 generalize (W9 f (K3 L)).2.2 = Y at *
 obtain ⟨hb, hhb⟩ : ∃ hb, hb = upd (upd (upd (upd h r2 (some ⟨.t 24, 2, [Z2 f]⟩)) r5 (some ⟨.t 24, 2, [Z2 D]⟩)) r7 (some ⟨.t 24, 2, [Z2 D]⟩)) r9 (some ⟨.t 24, 2, [Z2 W]⟩) := ⟨_, rfl⟩
 have b2 : hb r2 = some ⟨.t 24, 2, [Z2 f]⟩ := by rw [hhb, Q1 _ _ (fun e => hr9.2.2.1 e.symm), Q1 _ _ k2, Q1 _ _ m2, Q2]
 have b5 : hb r5 = some ⟨.t 24, 2, [Z2 D]⟩ := by rw [hhb, Q1 _ _ (fun e => hr9.2.1 e.symm), Q1 _ _ k4, Q2]
 have b7 : hb r7 = some ⟨.t 24, 2, [Z2 D]⟩ := by rw [hhb, Q1 _ _ (fun e => hr9.1 e.symm), Q2]
 have b9 : hb r9 = some ⟨.t 24, 2, [Z2 W]⟩ := by rw [hhb, Q2]
 have Sb : Sub h hb := by rw [hhb]; exact ((((Sub.refl h).upd hr2).upd hr5.2).upd hr7.2.2).upd hr9.2.2.2
 refine LoopVC.intro (fun m E h' => ∃ k : Nat, k <= L.length /\ m = L.length - k /\ E 1 = sl Z9 L /\ E 2 = .vp r2 0 /\ E 5 = .vp r5 0 /\ E 6 = Q7 X /\ E 7 = .vp r7 0 /\ E 8 = Q7 X /\ E 9 = .vp r9 0 /\ E 10 = Q7 Y /\ E 12 = Q7 k /\ Acc hb 42 12 ((L.take k).map (fun s => Z1 s.edit)) (E 11) h' /\ Sub hb h') L.length
  ⟨0, by omega, by omega, rfl, rfl, rfl, rfl, rfl, rfl, rfl, rfl, rfl, .inl ⟨rfl, rfl⟩, by rw [hhb]; exact Sub.refl _⟩ ?_
 rintro m E h' ⟨k, hk, rfl, E1, E2, E5, E6, E7, E8, E9, E10, E12, A, S⟩
 simp -dsimp -implicitDefEqProofs (disch := omega) only [VCA, Nat.reduceEqDiff, ↓reduceIte, E1, E12]
 refine Br.dec (fun hlt => ?_) (fun hge => ?_)
 ·have hk' : k < L.length := by omega
  obtain ⟨x, hxx⟩ : ∃ x, nth L k = x := ⟨_, rfl⟩
  have ex : (Z9 x).take 12 = Z1 x.edit := rfl
  have tl : ((L.take k).map (fun s : HStep => Z1 s.edit)).length = k := by rw [List.length_map, List.length_take]; omega
  repeat' (first | ((with_reducible refine brC (fun _ => ?_) fun _ => ?_) <;> try (exfalso; omega)) | (with_reducible refine And.intro ?_ ?_; · omega) | simp -dsimp -implicitDefEqProofs (disch := omega) only [VCA, Nat.reduceEqDiff, Nat.reduceLeDiff, ↓reduceIte, Y1, forall_eq, exists_eq_left, E1, E12, hxx, XV, ex, eEdit_len])
  all_goals try (exfalso; omega)
  refine A.app S (by rw [tl, List.length_singleton]; omega) (by rw [tl, List.length_singleton]; omega) (fun a' h3 A' S3 => ?_)
  simp -dsimp -implicitDefEqProofs (disch := omega) only [VCA, Nat.reduceEqDiff, ↓reduceIte, E1, E2, E5, E6, E7, E8, E9, E10, E12]
  refine ⟨_, by omega, k + 1, by omega, rfl, by omega, ?_, S3⟩
  rw [KQ hk', List.map_append, hxx]
  exact A'
 ·obtain rfl : k = L.length := by omega
  rw [List.take_length] at A
  have hmap : L.map (fun s => Z1 s.edit) = (K3 L).map Z1 := by unfold K3; rw [List.map_map]; rfl
  rw [hmap] at A
  have p1 : ¬ r5 = r2 := m1
  have p2 : ¬ r7 = r2 := k1
  have p3 : ¬ r9 = r2 := hr9.2.2.1
  have p4 : ¬ r9 = r5 := hr9.2.1
  have p5 : ¬ r9 = r7 := hr9.1
  have y1 : (Y == Y) = true := by simp
  rcases A with ⟨q0, q1⟩ | ⟨rE, q0, q1, q2⟩
  ·have hL0 : K3 L = [] := by simpa using q0
   rw [hL0] at hW
   have c2 := S _ _ b2
   have c5 := S _ _ b5
   have c7 := S _ _ b7
   have c9 := S _ _ b9
   have hW' : PCalls (Pg G) 19 [.agg (Z2 f), .slc []] (.tup [.agg (Z2 W), Q7 N, Q7 Y]) := hW
   simp -dsimp -implicitDefEqProofs (disch := omega) only [VCA, Nat.reduceEqDiff, ↓reduceIte, E2, q1]
   repeat' (first | ((with_reducible refine brC (fun _ => ?_) fun _ => ?_) <;> try (exfalso; omega)) | (with_reducible apply pcallE.of; · exact hW') | (with_reducible refine And.intro ?_ ?_; · omega) | simp -dsimp -implicitDefEqProofs (disch := omega) only [VCA, Nat.reduceEqDiff, Nat.reduceAdd, Nat.reduceLT, ↓reduceIte, Z0, exists_eq_left', c2, J1, J4])
   intro r hr
   have z5 : ¬ r5 = r := fun e => by rw [<- e, c5] at hr; cases hr
   have z7 : ¬ r7 = r := fun e => by rw [<- e, c7] at hr; cases hr
   have z9 : ¬ r9 = r := fun e => by rw [<- e, c9] at hr; cases hr
   repeat' (first | ((with_reducible refine brC (fun _ => ?_) fun _ => ?_) <;> try (exfalso; omega)) | (with_reducible apply pcallE.of; · exact hB) | (with_reducible apply pcallE.of; · exact hS2) | (with_reducible apply pcallE.of; · exact hS3) | (with_reducible refine And.intro ?_ ?_; · omega) | simp -dsimp -implicitDefEqProofs (disch := omega) only [↓Q0 63, ↓Q0 68, ↓Q0 73, ↓Q0 78, VCA, Nat.reduceEqDiff, Nat.reduceLT, ↓reduceIte, exists_eq_right, exists_eq_left', E5, E6, E7, E8, E9, E10, c5, c7, c9, z5, z7, z9, J1, J4, n1, y1])
   all_goals exact (Sb.trans S).upd ((Sb.trans S).none hr)
  ·have SD := S.del q0
   have c2 := SD _ _ b2
   have c5 := SD _ _ b5
   have c7 := SD _ _ b7
   have c9 := SD _ _ b9
   have d2 := S _ _ b2
   have n3 : List.take (K3 L).length (List.map Z1 (K3 L)) = List.map Z1 (K3 L) := by rw [<- List.length_map (f := Z1), List.take_length]
   have hW' : PCalls (Pg G) 19 [.agg (Z2 f), .slc ((K3 L).map Z1)] (.tup [.agg (Z2 W), Q7 N, Q7 Y]) := hW
   simp -dsimp -implicitDefEqProofs (disch := omega) only [VCA, Nat.reduceEqDiff, ↓reduceIte, exists_eq_left', E2, q1, q2]
   repeat' (first | ((with_reducible refine brC (fun _ => ?_) fun _ => ?_) <;> try (exfalso; omega)) | (with_reducible apply pcallE.of; · exact hW') | (with_reducible refine And.intro ?_ ?_; · omega) | simp -dsimp -implicitDefEqProofs (disch := omega) only [VCA, Nat.reduceEqDiff, Nat.reduceAdd, Nat.reduceLT, ↓reduceIte, Z0, exists_eq_left', d2, n3, J1, J4])
   intro r hr
   have z5 : ¬ r5 = r := fun e => by rw [<- e, c5] at hr; cases hr
   have z7 : ¬ r7 = r := fun e => by rw [<- e, c7] at hr; cases hr
   have z9 : ¬ r9 = r := fun e => by rw [<- e, c9] at hr; cases hr
   repeat' (first | ((with_reducible refine brC (fun _ => ?_) fun _ => ?_) <;> try (exfalso; omega)) | (with_reducible apply pcallE.of; · exact hB) | (with_reducible apply pcallE.of; · exact hS2) | (with_reducible apply pcallE.of; · exact hS3) | (with_reducible refine And.intro ?_ ?_; · omega) | simp -dsimp -implicitDefEqProofs (disch := omega) only [↓Q0 63, ↓Q0 68, ↓Q0 73, ↓Q0 78, VCA, Nat.reduceEqDiff, Nat.reduceLT, ↓reduceIte, exists_eq_right, exists_eq_left', E5, E6, E7, E8, E9, E10, c5, c7, c9, z5, z7, z9, J1, J4, n1, y1])
   all_goals exact (Sb.trans SD).upd ((Sb.trans SD).none hr)
end Go.Proofs.K
end
