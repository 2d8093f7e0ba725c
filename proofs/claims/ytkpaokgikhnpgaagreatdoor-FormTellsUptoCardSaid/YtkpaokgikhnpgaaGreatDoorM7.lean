/- Texts of this claim, one behind the other. -/
import Derived.Test.YtkpaokgikhnpgaaGreatDoorM6
section
set_option linter.unusedSimpArgs false
set_option linter.unusedVariables false
namespace Go.Proofs.K
open Go Go.Sim Go.Proofs
variable {G : Glob}
theorem tells_one : tellsM formD 1 = ([⟨[113], [97, 32, 98]⟩], 0) := by decide +kernel
theorem coded_one : coded [⟨[113], [97, 32, 98]⟩] = ([113, 61, 97, 43, 98], 0) := by decide +kernel
theorem decoded_one : Go.Proofs.K.decoded [113, 61, 97, 43, 98] = ([⟨[113], [97, 32, 98]⟩], 0) := by decide +kernel
def c10 : SFun := ⟨.seq (.reg [⟨some 0, .mv (.c (.bool false)), none⟩]) (.seq (.reg [⟨some 8, .pcall 29 [], none⟩, ⟨some 9, .pcall 14 [.t 8, .c (.int .i64 1)], none⟩, ⟨some 7, .mv (.t 9), none⟩, ⟨some 10, .ext (.t 7) 0, none⟩, ⟨some 11, .ext (.t 7) 1, none⟩, ⟨some 1, .mv (.t 10), none⟩, ⟨some 2, .mv (.t 11), none⟩]) (.seq (.reg [⟨some 13, .mv (.t 1), none⟩, ⟨some 14, .pcall 7 [.t 13], none⟩, ⟨some 12, .mv (.t 14), none⟩, ⟨some 15, .ext (.t 12) 0, none⟩, ⟨some 16, .ext (.t 12) 1, none⟩, ⟨some 3, .mv (.t 15), none⟩, ⟨some 4, .mv (.t 16), none⟩]) (.seq (.reg [⟨some 18, .pcall 8 [.c (.str [113, 61, 97, 43, 98])], none⟩, ⟨some 17, .mv (.t 18), none⟩, ⟨some 19, .ext (.t 17) 0, none⟩, ⟨some 20, .ext (.t 17) 1, none⟩, ⟨some 5, .mv (.t 19), none⟩, ⟨some 6, .mv (.t 20), none⟩]) (.seq (.reg [⟨some 21, .mv (.t 2), none⟩, ⟨some 22, .bin .eql (.t 21) (.c (.int .i64 0)), none⟩, ⟨some 23, .mv (.t 22), none⟩, ⟨some 24, .mv (.t 3), some (23, true)⟩, ⟨some 25, .bin .eql (.t 24) (.c (.str [113, 61, 97, 43, 98])), some (23, true)⟩, ⟨some 26, .pick (.t 23) (.t 25) (.c (.bool false)), none⟩, ⟨some 27, .mv (.t 26), none⟩, ⟨some 28, .mv (.t 4), some (27, true)⟩, ⟨some 29, .bin .eql (.t 28) (.c (.int .i64 0)), some (27, true)⟩, ⟨some 30, .pick (.t 27) (.t 29) (.c (.bool false)), none⟩, ⟨some 31, .mv (.t 30), none⟩, ⟨some 32, .mv (.t 6), some (31, true)⟩, ⟨some 33, .bin .eql (.t 32) (.c (.int .i64 0)), some (31, true)⟩, ⟨some 34, .pick (.t 31) (.t 33) (.c (.bool false)), none⟩, ⟨some 35, .mv (.t 34), none⟩, ⟨some 36, .mv (.t 1), some (35, true)⟩, ⟨some 37, .mv (.t 5), some (35, true)⟩, ⟨some 38, .pcall 12 [.t 36, .t 37], some (35, true)⟩, ⟨some 39, .pick (.t 35) (.t 38) (.c (.bool false)), none⟩, ⟨some 40, .mv (.t 39), none⟩, ⟨some 41, .mv (.t 5), some (40, true)⟩, ⟨some 42, .len (.t 41), some (40, true)⟩, ⟨some 43, .bin .eql (.t 42) (.c (.int .i64 1)), some (40, true)⟩, ⟨some 44, .pick (.t 40) (.t 43) (.c (.bool false)), none⟩, ⟨some 0, .mv (.t 44), none⟩]) .ret)))), [.tmp 0]⟩
theorem hc10 : toSF Tryz.prog {pure := [29, 14, 7, 8, 12]} Tryz.f10 = some c10 := by kernel_rfl
theorem hn10 : (Tryz.f10.name == "runtime.NumGoroutine") = false := by kernel_rfl
theorem formBegun_ok (hG : MaxLenOK G) (hT : TabsOK G) : PCalls (Pg G) 10 [] (.bool true) := fun h => by
  have c1 := oneForm_ok (G := G)
  have c2 := fEntries_ok (G := G) hG hT formD formD_sm 1
  rw [tells_one] at c2
  have c3 := fEncode_ok (G := G) [⟨[113], [97, 32, 98]⟩] (by decide) (fun x hx => by rw [List.mem_singleton] at hx; subst hx; exact ⟨by decide, by decide⟩)
  rw [coded_one] at c3
  have c4 := fDecode_ok (G := G) hG [113, 61, 97, 43, 98] (by decide)
  rw [decoded_one] at c4
  have c5 := sameEnt_ok (G := G) [⟨[113], [97, 32, 98]⟩] (by decide)
  obtain ⟨L, hL⟩ : ∃ L : List HEnt, [⟨[113], [97, 32, 98]⟩] = L := ⟨_, rfl⟩
  have ll : L.length = 1 := by rw [← hL]; rfl
  rw [hL] at c2 c3 c4 c5
  have z0 : ((0 : Int) == 0) = true := rfl
  have z1 : ((1 : Int) == 1) = true := rfl
  generalize eDoc formD = D at *
  refine dcalls_of_vc Tryz.func10 hn10 hc10 (by rw [Tryz.ntmps10]; simp) (by rw [Tryz.ntmps10]; decide) ?_
  simp -dsimp -implicitDefEqProofs (disch := omega) only [VCA, c10]
  repeat' (first | ((with_reducible refine brC (fun _ => ?_) fun _ => ?_) <;> try (exfalso; omega)) | (with_reducible apply pcallE.of; · exact c1) | (with_reducible apply pcallE.of; · exact c2) | (with_reducible apply pcallE.of; · exact c3) | (with_reducible apply pcallE.of; · exact c4) | (with_reducible apply pcallE.of; · exact c5) | (with_reducible refine And.intro ?_ ?_; · omega) | simp -dsimp -implicitDefEqProofs (disch := omega) only [↓vcOps_sp 23, ↓vcOps_sp 27, ↓vcOps_sp 31, ↓vcOps_sp 35, ↓vcOps_sp 40, VCA, Nat.reduceEqDiff, Nat.reduceAdd, Nat.reduceLT, ↓reduceIte, exists_eq_right_right, ll, z0])
  all_goals first | exact ⟨Sub.refl _, rfl⟩ | (rename_i q; exact absurd rfl q)
end Go.Proofs.K
end
section
set_option linter.unusedSimpArgs false
set_option linter.unusedVariables false
namespace Go.Proofs.K
open Go Go.Sim Go.Proofs
variable {G : Glob}
def c4 : SFun := ⟨.seq (.reg [⟨some 2, .box 36 2 (.t 0), none⟩, ⟨some 4, .mv (.c (.bool false)), none⟩]) (.seq (.reg [⟨some 9, .ld 2 true (.t 2), none⟩, ⟨some 10, .pcall 13 [.t 9, .c (.int .i64 60)], none⟩, ⟨none, .st 2 (.t 2) (.t 10), none⟩]) (.seq (.reg [⟨some 12, .ld 2 true (.t 2), none⟩, ⟨some 13, .mv (.t 1), none⟩, ⟨some 14, .pcall 14 [.t 12, .t 13], none⟩, ⟨some 11, .mv (.t 14), none⟩, ⟨some 15, .ext (.t 11) 0, none⟩, ⟨some 16, .ext (.t 11) 1, none⟩, ⟨some 5, .mv (.t 15), none⟩, ⟨some 6, .mv (.t 16), none⟩]) (.seq (.reg [⟨some 17, .ld 2 true (.t 2), none⟩, ⟨some 18, .mv (.t 1), none⟩, ⟨some 19, .pcall 15 [.t 17, .t 18, .c (.bool true)], none⟩, ⟨some 7, .mv (.t 19), none⟩]) (.seq (.reg [⟨some 8, .mv (.c .emp), none⟩]) (.seq (.seq (.reg [⟨some 20, .mv (.t 7), none⟩, ⟨some 21, .bin .eql (.t 20) (.c (.int .i64 0)), none⟩]) (.cond (.t 21) (.reg [⟨some 22, .ld 2 true (.t 2), none⟩, ⟨some 23, .mv (.t 1), none⟩, ⟨some 24, .pcall 16 [.t 22, .t 23], none⟩, ⟨some 8, .mv (.t 24), none⟩]) .skip)) (.seq (.seq (.reg [⟨some 25, .mv (.t 8), none⟩, ⟨some 26, .len (.t 25), none⟩, ⟨some 27, .bin .gtr (.t 26) (.c (.int .i64 100)), none⟩]) (.cond (.t 27) (.reg [⟨some 8, .mv (.c .emp), none⟩, ⟨some 7, .mv (.c (.int .i64 2)), none⟩]) .skip)) (.seq (.reg [⟨some 28, .pcall 10 [], none⟩, ⟨some 29, .mv (.t 28), none⟩, ⟨some 30, .mv (.t 5), some (29, true)⟩, ⟨some 31, .mv (.t 8), some (29, true)⟩, ⟨some 32, .pcall 12 [.t 30, .t 31], some (29, true)⟩, ⟨some 33, .pick (.t 29) (.t 32) (.c (.bool false)), none⟩, ⟨some 34, .mv (.t 33), none⟩, ⟨some 35, .mv (.t 6), some (34, true)⟩, ⟨some 36, .mv (.t 7), some (34, true)⟩, ⟨some 37, .bin .eql (.t 35) (.t 36), some (34, true)⟩, ⟨some 38, .pick (.t 34) (.t 37) (.c (.bool false)), none⟩, ⟨some 4, .mv (.t 38), none⟩]) .ret))))))), [.tmp 4]⟩
theorem hc4 : toSF Tryz.prog {pure := [13, 14, 15, 16, 10, 12], how := [(2, 6)]} Tryz.f4 = some c4 := by kernel_rfl
theorem hn4 : (Tryz.f4.name == "runtime.NumGoroutine") = false := by kernel_rfl
set_option maxHeartbeats 2000000 in
theorem formTells_ok (hG : MaxLenOK G) (hT : TabsOK G) (d : HDoc) (sm : DocSm d) (n : Int) : PCalls (Pg G) 4 [.agg (eDoc d), aInt n] (.bool true) := fun h => by
  have hF : PCalls (Pg G) 13 [.agg (eDoc d), .int .i64 60] (.agg (eDoc ⟨d.nodes.take 60, d.quirks⟩)) := few_ok (G := G) d 60 sm
  have fs := sm.few 60
  generalize (⟨d.nodes.take 60, d.quirks⟩ : HDoc) = f at *
  have hB := formBegun_ok (G := G) hG hT
  have cE := fEntries_ok (G := G) hG hT f fs n
  have cR := formErr_ok (G := G) f fs n true
  rw [if_pos rfl] at cR
  have cN : PCalls (Pg G) 12 [sl eEnt [], .emp] (.bool true) := (sameEnt_ok (G := G) [] (by simp)).wk (.cons (.refl _) (.cons .emp .nil))
  have z2 : ((2 : Int) == 2) = true := rfl
  have z0 : ((0 : Int) == 0) = true := rfl
  unfold tellsM at cE
  by_cases h0 : ctlE f n [102, 111, 114, 109] = 0
  · rw [h0] at cR
    rw [if_neg (by simpa using h0)] at cE
    have hd0 : docE f = 0 := by
      unfold ctlE at h0
      split at h0
      · rename_i q; exact absurd h0 q
      · rename_i q; simpa using q
    have V := docE_DV hd0
    have hl := V.len
    have bl := below_len V V.zero
    have el := entL_len V n (below f 0) (below_in V 0 V.zero)
    have cW := refEntries_ok (G := G) f V fs n
    generalize entL f n (below f 0) = L at *
    have cS := sameEnt_ok (G := G) L (by omega)
    unfold eDoc at *
    by_cases h100 : 100 < L.length
    · have d1 : decide ((100 : Int) < (L.length : Int)) = true := decide_eq_true (by omega)
      rw [if_pos h100] at cE
      refine dcalls_of_vc Tryz.func4 hn4 hc4 (by rw [Tryz.ntmps4]; simp) (by rw [Tryz.ntmps4]; decide) ?_
      simp -dsimp -implicitDefEqProofs (disch := omega) only [VCA, Nat.reduceEqDiff, Nat.reduceAdd, Nat.reduceLT, ↓reduceIte, exists_eq_left', c4]
      intro r hr
      repeat' (first | ((with_reducible refine brC (fun _ => ?_) fun _ => ?_) <;> try (exfalso; omega)) | (with_reducible apply pcallE.of; · exact hF) | (with_reducible apply pcallE.of; · exact cE) | (with_reducible apply pcallE.of; · exact cR) | (with_reducible apply pcallE.of; · exact cW) | (with_reducible apply pcallE.of; · exact hB) | (with_reducible apply pcallE.of; · exact cN) | (with_reducible refine And.intro ?_ ?_; · omega) | simp -dsimp -implicitDefEqProofs (disch := omega) only [↓vcOps_sp 29, ↓vcOps_sp 34, VCA, Nat.reduceEqDiff, Nat.reduceAdd, Nat.reduceLT, ↓reduceIte, setAt, exists_eq_right, exists_eq_left', d1, z0, z2])
      all_goals exact (Sub.refl h).upd hr
    · have d1 : decide ((100 : Int) < (L.length : Int)) = false := decide_eq_false (by omega)
      rw [if_neg h100] at cE
      refine dcalls_of_vc Tryz.func4 hn4 hc4 (by rw [Tryz.ntmps4]; simp) (by rw [Tryz.ntmps4]; decide) ?_
      simp -dsimp -implicitDefEqProofs (disch := omega) only [VCA, Nat.reduceEqDiff, Nat.reduceAdd, Nat.reduceLT, ↓reduceIte, exists_eq_left', c4]
      intro r hr
      repeat' (first | ((with_reducible refine brC (fun _ => ?_) fun _ => ?_) <;> try (exfalso; omega)) | (with_reducible apply pcallE.of; · exact hF) | (with_reducible apply pcallE.of; · exact cE) | (with_reducible apply pcallE.of; · exact cR) | (with_reducible apply pcallE.of; · exact cW) | (with_reducible apply pcallE.of; · exact hB) | (with_reducible apply pcallE.of; · exact cS) | (with_reducible refine And.intro ?_ ?_; · omega) | simp -dsimp -implicitDefEqProofs (disch := omega) only [↓vcOps_sp 29, ↓vcOps_sp 34, VCA, Nat.reduceEqDiff, Nat.reduceAdd, Nat.reduceLT, ↓reduceIte, setAt, exists_eq_right, exists_eq_left', d1, z0])
      all_goals exact (Sub.refl h).upd hr
  · rw [if_pos h0] at cE
    generalize ctlE f n [102, 111, 114, 109] = x at *
    have bx : (x == 0) = false := by simpa using h0
    have bxx : (x == x) = true := by simp
    unfold eDoc at *
    refine dcalls_of_vc Tryz.func4 hn4 hc4 (by rw [Tryz.ntmps4]; simp) (by rw [Tryz.ntmps4]; decide) ?_
    simp -dsimp -implicitDefEqProofs (disch := omega) only [VCA, Nat.reduceEqDiff, Nat.reduceAdd, Nat.reduceLT, ↓reduceIte, exists_eq_left', c4]
    intro r hr
    repeat' (first | ((with_reducible refine brC (fun _ => ?_) fun _ => ?_) <;> try (exfalso; omega)) | (with_reducible apply pcallE.of; · exact hF) | (with_reducible apply pcallE.of; · exact cE) | (with_reducible apply pcallE.of; · exact cR) | (with_reducible apply pcallE.of; · exact hB) | (with_reducible apply pcallE.of; · exact cN) | (with_reducible refine And.intro ?_ ?_; · omega) | simp -dsimp -implicitDefEqProofs (disch := omega) only [↓vcOps_sp 29, ↓vcOps_sp 34, VCA, Nat.reduceEqDiff, Nat.reduceAdd, Nat.reduceLT, ↓reduceIte, setAt, exists_eq_right, exists_eq_left', bx, bxx])
    all_goals exact (Sub.refl h).upd hr
end Go.Proofs.K
end
