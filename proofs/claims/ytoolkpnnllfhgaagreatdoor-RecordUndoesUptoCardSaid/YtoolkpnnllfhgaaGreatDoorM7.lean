/- Texts of this claim, one behind the other. -/
import Derived.Test.YtoolkpnnllfhgaaGreatDoorM6
import Derived.Test.YtoolkpnnllfhgaaGreatDoorM5
import Derived.Shelf.Spec.SlicesInsert
import Derived.Shelf.Spec.SlicesInsertGrow
set_option maxHeartbeats 4000000
set_option maxRecDepth 100000
section
set_option linter.unusedSimpArgs false
set_option linter.unusedVariables false
namespace Go.Proofs.K
open Go Go.Sim Go.Proofs
variable {G : ZQ}
def c88 : SFun := ⟨.seq (.reg [o 3 (.boxF 44 16 (.t 1)), o 4 (.mv (.c (.bool false)))]) (.seq (.dreg [(o 7 (.mv (.t 0)), none), (o 8 (.fldA 14 (.t 3)), none), (o 9 (.ld 1 false (.t 8)), none), (o 11 (.mv (.t 0)), none), (o 12 (.fldA 0 (.t 3)), none), (o 13 (.fldA 1 (.t 12)), none), (o 14 (.ld 1 false (.t 13)), none), (o 10 (.call (.c (.fn 114 [] [])) [.t 7, .t 9]), (some [9])), (o 15 (.call (.c (.fn 114 [] [])) [.t 11, .t 14]), (some [14, 9])), (o 5 (.mv (.t 10)), none), (o 6 (.mv (.t 15)), none)]) (.seq (.seq (.dreg [(o 16 (.mv (.t 5)), none), (o 17 (.isnil 1 false (.t 16)), (some [])), (o 18 (.mv (.t 17)), none), (⟨some 19, .mv (.t 6), some (18, false)⟩, none), (⟨some 20, .isnil 1 false (.t 19), some (18, false)⟩, (some [])), (o 21 (.pick (.t 18) (.c (.bool true)) (.t 20)), none), (o 22 (.mv (.t 21)), none), (⟨some 23, .fldA 0 (.t 3), some (22, false)⟩, none), (⟨some 24, .fldA 1 (.t 23), some (22, false)⟩, none), (⟨some 25, .ld 1 false (.t 24), some (22, false)⟩, none), (⟨some 26, .bin .eql (.t 25) (.c (.int .i64 0)), some (22, false)⟩, none), (o 27 (.pick (.t 22) (.c (.bool true)) (.t 26)), none), (o 28 (.mv (.t 27)), none), (⟨some 29, .mv (.t 6), some (28, false)⟩, none), (⟨some 30, .fldA 0 (.t 29), some (28, false)⟩, none), (⟨some 31, .fldA 4 (.t 30), some (28, false)⟩, none), (⟨some 32, .ld 1 false (.t 31), some (28, false)⟩, none), (⟨some 33, .bin .neq (.t 32) (.c (.int .i64 (-1))), some (28, false)⟩, none), (o 34 (.pick (.t 28) (.c (.bool true)) (.t 33)), none), (o 35 (.mv (.t 34)), none), (⟨some 36, .fldA 15 (.t 3), some (35, false)⟩, none), (⟨some 37, .ld 1 false (.t 36), some (35, false)⟩, none), (⟨some 38, .bin .lss (.t 37) (.c (.int .i64 0)), some (35, false)⟩, none), (o 39 (.pick (.t 35) (.c (.bool true)) (.t 38)), none), (o 40 (.mv (.t 39)), none), (⟨some 41, .fldA 15 (.t 3), some (40, false)⟩, none), (⟨some 42, .ld 1 false (.t 41), some (40, false)⟩, none), (⟨some 43, .mv (.t 5), some (40, false)⟩, none), (⟨some 44, .fldA 0 (.t 43), some (40, false)⟩, none), (⟨some 45, .fldA 5 (.t 44), some (40, false)⟩, none), (⟨some 46, .ld 1 false (.t 45), some (40, false)⟩, none), (⟨some 47, .len (.t 46), some (40, false)⟩, none), (⟨some 48, .bin .gtr (.t 42) (.t 47), some (40, false)⟩, none), (o 49 (.pick (.t 40) (.c (.bool true)) (.t 48)), none)]) (.cond (.t 49) (.seq (.reg [o 4 (.mv (.c (.bool false)))]) .ret) .skip)) (.seq (.dreg [(o 50 (.mv (.t 5)), none), (o 51 (.mv (.t 6)), none), (o 52 (.mv (.t 5)), none), (o 53 (.fldA 0 (.t 52)), none), (o 54 (.fldA 5 (.t 53)), none), (o 55 (.ld 1 false (.t 54)), none), (o 56 (.fldA 15 (.t 3)), none), (o 57 (.ld 1 false (.t 56)), none), (o 58 (.fldA 0 (.t 3)), none), (o 59 (.fldA 1 (.t 58)), none), (o 60 (.ld 1 false (.t 59)), none), (o 63 (.fldA 14 (.t 3)), none), (o 64 (.ld 1 false (.t 63)), none), (o 61 (.bldR 3 1 [.t 60]), (some [60])), (o 62 (.call (.c (.fn 117 [] [])) [.t 55, .t 57, .t 61]), (some [55, 57, 60])), (o 65 (.fldA 0 (.t 50)), none), (o 66 (.fldA 5 (.t 65)), none), (⟨none, .st 1 (.t 66) (.t 62), none⟩, (some [55, 57, 60])), (o 67 (.fldA 0 (.t 51)), none), (o 68 (.fldA 4 (.t 67)), none), (⟨none, .st 1 (.t 68) (.t 64), none⟩, (some [64, 55, 57, 60]))]) (.seq (.reg [o 4 (.mv (.c (.bool true)))]) .ret)))), [.tmp 4]⟩
theorem hc88 : X6 Tryz.prog {how := [(61, 2)]} Tryz.f88 = some c88 := by kernel_rfl
theorem uremoved_ok {h0 h : Q3} {re rN : Nat} {d : HDoc} {n k0 : Nat} {sl : Nat -> AVal} (E : Un h0 h re rN d n sl) (hn : n <= 100000) (U : USm k0 (headD d n)) (hk0 : k0 <= 1000) (s : HStep) (hdo : s.edit.do' = 6) : DCalls (Pg G) 88 [.vp re 0, .agg (Z9 s)] h (UnR h0 h re (headD d n) s) := by
 have gN := E.dw.nodes
 have le := E.le
 have hE1 := unode_ok (G := G) E hn s.parent
 have hE2 := unode_ok (G := G) E hn s.edit.at'
 unfold nodeU at hE1 hE2
 have eF : Y3 (headD d n) s ↔ (0 <= s.parent /\ s.parent < n) /\ (0 <= s.edit.at' /\ s.edit.at' < n) /\ s.edit.at' ≠ 0 /\ (nd (headD d n) s.edit.at').parent = -1 /\ 0 <= s.place /\ s.place <= (nd (headD d n) s.parent).kids.length := by
  unfold Y3; rw [if_neg (by omega), if_neg (by omega), if_neg (by omega), if_neg (by omega), if_neg (by omega), if_pos hdo, inD_head le, inD_head le]
 have eD : U2 (headD d n) s = JT (headD d n) s.parent s.edit.at' (J9 (nd (headD d n) s.parent).kids s.place.toNat s.edit.at') s.parent := by unfold U2; rw [if_neg (by omega), if_neg (by omega), if_neg (by omega), if_neg (by omega), if_neg (by omega)]
 refine Q4 Tryz.func88 (by kernel_rfl) hc88 (by rw [Tryz.ntmps88]; simp) (by rw [Tryz.ntmps88]; decide) ?_
 simp -dsimp -implicitDefEqProofs (disch := omega) only [VCA, Nat.reduceEqDiff, Nat.reduceAdd, Nat.reduceLeDiff, ↓reduceIte, reduceCtorEq, J6, Q5, Z8, c88, Z9]
 by_cases hm : 0 <= s.parent /\ s.parent < n
 ·rw [if_pos hm] at hE1
  by_cases ht : 0 <= s.edit.at' /\ s.edit.at' < n
  ·rw [if_pos ht] at hE2
   have hn' : s.parent.toNat < d.nodes.length := by omega
   have ht' : s.edit.at'.toNat < d.nodes.length := by omega
   have gk := Y2 (sl := sl) hn'
   have gt := Y2 (sl := sl) ht'
   have rl := Y5 d sl
   have nh : nd (headD d n) s.parent = nd d s.parent := nd_head (by omega)
   have nt : nd (headD d n) s.edit.at' = nd d s.edit.at' := nd_head (by omega)
   have e0 : nth d.nodes s.parent.toNat = nd d s.parent := rfl
   have e1 : nth d.nodes s.edit.at'.toNat = nd d s.edit.at' := rfl
   have kl := U.kids s.parent
   rw [e0] at gk
   rw [e1] at gt
   rw [nh] at eF eD kl
   rw [nt] at eF
   obtain ⟨oA, oK⟩ := E.dw.own _ hn'
   rw [e0] at oK
   have oL := oK.len.1
   have oL2 := oK.len.2
   rw [List.length_map] at oL
   have lv := E.live (2 * s.parent.toNat + 1) (by omega)
   unfold X1 at gk gt
   by_cases hb : Y3 (headD d n) s
   ·obtain ⟨_, _, f3, f4, f5, f6⟩ := eF.1 hb
    have pl : ((s.place.toNat : Nat) : Int) = s.place := by omega
    have nr0 : ∀ t, Q8 (sl (2 * s.parent.toNat + 1)) = some t -> t ≠ rN := fun t ht => (E.root_ne (by omega) ht).1
    have hIns : ∀ rv, h rv = none -> _ := fun rv (hrv : h rv = none) => insertI_ok (G := G) (x := s.edit.at') (i := s.place.toNat) ((E.aside hrv ⟨.t 3, 1, [J8 s.edit.at']⟩).dw.own _ hn').2 lv (by rw [e0]; omega) (by rw [e0]; omega) (Q2 _ _ _) (fun h => by obtain ⟨o, ho⟩ := E.dw.slot (k := 2 * s.parent.toNat + 1) (by omega) h; rw [hrv] at ho; cases ho)
    rw [e0] at hIns
    unfold J8 at hIns
    rw [pl] at hIns
    have ln := putList_len (l := (nd d s.parent).kids) (i := s.place.toNat) (x := s.edit.at') (by omega)
    by_cases hne : s.parent = s.edit.at'
    ·have hto : s.edit.at' = s.parent := hne.symm
     rw [hto] at hE2
     have gss := fun (x : List AVal) => ZK (es := Y9 d sl) (x := x) (k := s.parent.toNat) (by rw [rl]; exact hn')
     rw [hto] at f4 hIns
     repeat' (first | ((with_reducible refine brC (fun _ => ?_) fun _ => ?_) <;> try (exfalso; omega)) | ((refine DCalls.of hE1 ?_; rintro _ hh ⟨rfl, rfl⟩)) | ((refine DCalls.of hE2 ?_; rintro _ hh ⟨rfl, rfl⟩)) | (with_reducible refine And.intro ?_ ?_; · omega) | simp -dsimp -implicitDefEqProofs (disch := omega) only [↓Z3 18, ↓Z3 22, ↓Z3 28, ↓Z3 35, ↓Z3 40, VCA, Nat.reduceEqDiff, Nat.reduceBEq, Nat.reduceAdd, Nat.reduceLeDiff, ↓reduceIte, J6, Q5, SOp.rd, SI.rd, SX.rd, rdL, Y1, forall_const, exists_eq_left', Z8, lit_eq, gN, gk, rl, oL, oL2, f4, hto])
     all_goals try (exfalso; omega)
     intro rv hrv
     have nr : ¬ rN = rv := fun h => by rw [<- h, gN] at hrv; cases hrv
     have E1 := E.aside hrv ⟨.t 3, 1, [[.int .i64 s.parent]]⟩
     have gN1 := E1.dw.nodes
     have I2 := hIns rv hrv
     repeat' (first | ((with_reducible refine brC (fun _ => ?_) fun _ => ?_) <;> try (exfalso; omega)) | ((refine DCalls.of I2 ?_; rintro _ h9 ⟨r', rfl, hr', hf, kp⟩)) | (with_reducible refine And.intro ?_ ?_; · omega) | simp -dsimp -implicitDefEqProofs (disch := omega) only [VCA, Nat.reduceEqDiff, Nat.reduceBEq, Nat.reduceAdd, ↓reduceIte, J6, Q5, SOp.rd, SI.rd, SX.rd, rdL, Z0, exists_eq_left', Z8, nr])
     have gN9 := kp rN _ gN1 (fun h => nr0 _ h rfl)
     repeat' (first | ((with_reducible refine brC (fun _ => ?_) fun _ => ?_) <;> try (exfalso; omega)) | (with_reducible refine And.intro ?_ ?_; · omega) | simp -dsimp -implicitDefEqProofs (disch := omega) only [VCA, Nat.reduceAdd, Nat.reduceLeDiff, exists_eq_left', gN9, gk, rl, gss, XY, List.length_set])
     rw [hto] at ln
     have hO : OwnS h9 3 1 ((J9 (nd d s.parent).kids s.place.toNat s.parent).map J8) (.osl r' 1 0 ((nd d s.parent).kids.length + 1)) :=
      .inr (.inr ⟨r', _, by rw [List.length_map, ln], hr', by unfold J9 at ln; rw [List.length_map, List.length_map, ln]; exact Nat.le_of_eq ln, by rw [List.length_map, ln]; unfold J9 at ln; rw [List.take_of_length_le (by rw [List.length_map, ln]; exact Nat.le_refl _)]; rfl⟩)
     have E2 := E1.slotK hn' (l' := J9 (nd d s.parent).kids s.place.toNat s.parent) kp hO (fun es e => by cases e) (fun t ht => by cases ht; exact hf)
     rw [e0] at E2
     have nn := E2.dw.rows_eq
     have n1 : nth (d.nodes.set s.parent.toNat { nd d s.parent with kids := J9 (nd d s.parent).kids s.place.toNat s.parent }) s.parent.toNat = { nd d s.parent with kids := J9 (nd d s.parent).kids s.place.toNat s.parent } := by
      rw [QZ _ _ _ _ hn', if_pos rfl]
     have E3 := E2.cells (i := s.parent.toNat) (by simpa using hn') (x' := { nd d s.parent with kids := J9 (nd d s.parent).kids s.place.toNat s.parent, parent := s.parent }) (by show _ = (nth (d.nodes.set _ _) _).attrs; rw [n1]) (by show _ = (nth (d.nodes.set _ _) _).kids; rw [n1])
     rw [<- nn] at E3
     have v1 : upd sl (2 * s.parent.toNat + 1) (AVal.osl r' 1 0 ((nd d s.parent).kids.length + 1)) (2 * s.parent.toNat) = sl (2 * s.parent.toNat) := Q1 _ _ (by omega)
     rw [v1, Q2, JW, List.set_set] at E3
     refine ⟨_, Sub.refl _, UnR.good hb E3 ?_⟩
     rw [eD]; unfold JT; rw [hto, nd_setN_eq (by rw [JU le]; omega), nh]
     exact head_set2
    ·have hnn : s.parent.toNat ≠ s.edit.at'.toNat := by omega
     have gne := fun (x : List AVal) => YY (es := Y9 d sl) (x := x) hnn
     repeat' (first | ((with_reducible refine brC (fun _ => ?_) fun _ => ?_) <;> try (exfalso; omega)) | ((refine DCalls.of hE1 ?_; rintro _ hh ⟨rfl, rfl⟩)) | ((refine DCalls.of hE2 ?_; rintro _ hh ⟨rfl, rfl⟩)) | (with_reducible refine And.intro ?_ ?_; · omega) | simp -dsimp -implicitDefEqProofs (disch := omega) only [↓Z3 18, ↓Z3 22, ↓Z3 28, ↓Z3 35, ↓Z3 40, VCA, Nat.reduceEqDiff, Nat.reduceBEq, Nat.reduceAdd, Nat.reduceLeDiff, ↓reduceIte, J6, Q5, SOp.rd, SI.rd, SX.rd, rdL, Y1, forall_const, exists_eq_left', Z8, lit_eq, gN, gk, gt, rl, oL, oL2, f4])
     all_goals try (exfalso; omega)
     intro rv hrv
     have nr : ¬ rN = rv := fun h => by rw [<- h, gN] at hrv; cases hrv
     have E1 := E.aside hrv ⟨.t 3, 1, [[.int .i64 s.edit.at']]⟩
     have gN1 := E1.dw.nodes
     have I2 := hIns rv hrv
     repeat' (first | ((with_reducible refine brC (fun _ => ?_) fun _ => ?_) <;> try (exfalso; omega)) | ((refine DCalls.of I2 ?_; rintro _ h9 ⟨r', rfl, hr', hf, kp⟩)) | (with_reducible refine And.intro ?_ ?_; · omega) | simp -dsimp -implicitDefEqProofs (disch := omega) only [VCA, Nat.reduceEqDiff, Nat.reduceBEq, Nat.reduceAdd, ↓reduceIte, J6, Q5, SOp.rd, SI.rd, SX.rd, rdL, Z0, exists_eq_left', Z8, nr])
     have gN9 := kp rN _ gN1 (fun h => nr0 _ h rfl)
     repeat' (first | ((with_reducible refine brC (fun _ => ?_) fun _ => ?_) <;> try (exfalso; omega)) | (with_reducible refine And.intro ?_ ?_; · omega) | simp -dsimp -implicitDefEqProofs (disch := omega) only [VCA, Nat.reduceAdd, Nat.reduceLeDiff, exists_eq_left', gN9, gk, gt, rl, gne, List.length_set])
     have hO : OwnS h9 3 1 ((J9 (nd d s.parent).kids s.place.toNat s.edit.at').map J8) (.osl r' 1 0 ((nd d s.parent).kids.length + 1)) :=
      .inr (.inr ⟨r', _, by rw [List.length_map, ln], hr', by unfold J9 at ln; rw [List.length_map, List.length_map, ln]; exact Nat.le_of_eq ln, by rw [List.length_map, ln]; unfold J9 at ln; rw [List.take_of_length_le (by rw [List.length_map, ln]; exact Nat.le_refl _)]; rfl⟩)
     have E2 := E1.slotK hn' (l' := J9 (nd d s.parent).kids s.place.toNat s.edit.at') kp hO (fun es e => by cases e) (fun t ht => by cases ht; exact hf)
     rw [e0] at E2
     have nn := E2.dw.rows_eq
     have n1 : nth (d.nodes.set s.parent.toNat { nd d s.parent with kids := J9 (nd d s.parent).kids s.place.toNat s.edit.at' }) s.edit.at'.toNat = nd d s.edit.at' := by
      rw [QZ _ _ _ _ hn', if_neg (fun h => hnn h.symm)]; rfl
     have E3 := E2.cells (i := s.edit.at'.toNat) (by simpa using ht') (x' := { nd d s.edit.at' with parent := s.parent }) (by show _ = (nth (d.nodes.set _ _) _).attrs; rw [n1]) (by show _ = (nth (d.nodes.set _ _) _).kids; rw [n1])
     rw [<- nn] at E3
     have v1 : upd sl (2 * s.parent.toNat + 1) (AVal.osl r' 1 0 ((nd d s.parent).kids.length + 1)) (2 * s.edit.at'.toNat) = sl (2 * s.edit.at'.toNat) := Q1 _ _ (by omega)
     have v2 : upd sl (2 * s.parent.toNat + 1) (AVal.osl r' 1 0 ((nd d s.parent).kids.length + 1)) (2 * s.edit.at'.toNat + 1) = sl (2 * s.edit.at'.toNat + 1) := Q1 _ _ (by omega)
     rw [v1, v2, JW] at E3
     refine ⟨_, Sub.refl _, UnR.good hb E3 ?_⟩
     rw [eD]; unfold JT; rw [nd_setN_ne hnn, nh, nt]
     exact head_set2
   ·have hx : s.edit.at' ≠ 0 -> (nd d s.edit.at').parent = -1 -> 0 <= s.place -> ¬ s.place <= (nd d s.parent).kids.length := fun q1 q2 q3 q4 => hb (eF.2 ⟨hm, ht, q1, q2, q3, q4⟩)
    repeat' (first | ((with_reducible refine brC (fun _ => ?_) fun _ => ?_) <;> try (exfalso; omega)) | ((refine DCalls.of hE1 ?_; rintro _ hh ⟨rfl, rfl⟩)) | ((refine DCalls.of hE2 ?_; rintro _ hh ⟨rfl, rfl⟩)) | (with_reducible refine And.intro ?_ ?_; · omega) | simp -dsimp -implicitDefEqProofs (disch := omega) only [↓Z3 18, ↓Z3 22, ↓Z3 28, ↓Z3 35, ↓Z3 40, VCA, Nat.reduceEqDiff, Nat.reduceAdd, Nat.reduceLeDiff, ↓reduceIte, J6, Q5, SOp.rd, SI.rd, SX.rd, rdL, exists_eq_left', Z8, gN, gk, gt, rl, oL, oL2])
    all_goals first | (exfalso; omega) | exact ⟨_, Sub.refl _, UnR.bad hb⟩ | (exfalso; exact hx (by omega) (by omega) (by omega) (by omega)) | trace_state
  ·rw [if_neg ht] at hE2
   have hb : ¬ Y3 (headD d n) s := fun h => ht (eF.1 h).2.1
   repeat' (first | ((with_reducible refine brC (fun _ => ?_) fun _ => ?_) <;> try (exfalso; omega)) | ((refine DCalls.of hE1 ?_; rintro _ hh ⟨rfl, rfl⟩)) | ((refine DCalls.of hE2 ?_; rintro _ hh ⟨rfl, rfl⟩)) | (with_reducible refine And.intro ?_ ?_; · omega) | simp -dsimp -implicitDefEqProofs (disch := omega) only [↓Z3 18, ↓Z3 22, ↓Z3 28, ↓Z3 35, ↓Z3 40, VCA, Nat.reduceEqDiff, ↓reduceIte, J6, Q5, SOp.rd, SI.rd, SX.rd, rdL, Z8])
   all_goals first | (exfalso; omega) | exact ⟨_, Sub.refl _, UnR.bad hb⟩ | trace_state
 ·rw [if_neg hm] at hE1
  have hb : ¬ Y3 (headD d n) s := fun h => hm (eF.1 h).1
  by_cases ht : 0 <= s.edit.at' /\ s.edit.at' < n
  ·rw [if_pos ht] at hE2
   repeat' (first | ((with_reducible refine brC (fun _ => ?_) fun _ => ?_) <;> try (exfalso; omega)) | ((refine DCalls.of hE1 ?_; rintro _ hh ⟨rfl, rfl⟩)) | ((refine DCalls.of hE2 ?_; rintro _ hh ⟨rfl, rfl⟩)) | (with_reducible refine And.intro ?_ ?_; · omega) | simp -dsimp -implicitDefEqProofs (disch := omega) only [↓Z3 18, ↓Z3 22, ↓Z3 28, ↓Z3 35, ↓Z3 40, VCA, Nat.reduceEqDiff, ↓reduceIte, J6, Q5, SOp.rd, SI.rd, SX.rd, rdL, Z8])
   all_goals first | (exfalso; omega) | exact ⟨_, Sub.refl _, UnR.bad hb⟩ | trace_state
  ·rw [if_neg ht] at hE2
   repeat' (first | ((with_reducible refine brC (fun _ => ?_) fun _ => ?_) <;> try (exfalso; omega)) | ((refine DCalls.of hE1 ?_; rintro _ hh ⟨rfl, rfl⟩)) | ((refine DCalls.of hE2 ?_; rintro _ hh ⟨rfl, rfl⟩)) | (with_reducible refine And.intro ?_ ?_; · omega) | simp -dsimp -implicitDefEqProofs (disch := omega) only [↓Z3 18, ↓Z3 22, ↓Z3 28, ↓Z3 35, ↓Z3 40, VCA, Nat.reduceEqDiff, ↓reduceIte, J6, Q5, SOp.rd, SI.rd, SX.rd, rdL, Z8])
   all_goals first | (exfalso; omega) | exact ⟨_, Sub.refl _, UnR.bad hb⟩ | trace_state
theorem undone_rest (s : HStep) (hs : StepSm s) (h2 : s.edit.do' ≠ 2) : UndoneOK G s := fun {h0 h re rN d n sl k} E U hk => by
 have hn : n <= 100000 := by have := U.len; rw [JU E.le] at this; omega
 have b2 : (s.edit.do' == 2) = false := by simp [h2]
 have wrap : ∀ {F : Nat}, DCalls (Pg G) F [.vp re 0, .agg (Z9 s)] h (UnR h0 h re (headD d n) s) -> DCalls (Pg G) F [.vp re 0, .agg (Z9 s)] h (UnR h0 h re (headD d n) s) := fun h => h
 by_cases h1 : s.edit.do' = 1
 ·have hT := uattr_ok (G := G) E hn U.sm s hs h1
  have b1 : (s.edit.do' == 1) = true := by simp [h1]
  refine Q4 Tryz.func46 hn46 hc46 (by rw [Tryz.ntmps46]; simp) (by rw [Tryz.ntmps46]; decide) ?_
  unfold Z9 at *
  simp -dsimp -implicitDefEqProofs (disch := omega) only [VCA, Nat.reduceEqDiff, Nat.reduceAdd, Nat.reduceLeDiff, ↓reduceIte, reduceCtorEq, c46, b1]
  refine DCalls.of hT ?_
  intro r h' hR
  simp -dsimp -implicitDefEqProofs (disch := omega) only [VCA, ↓reduceIte]
  exact ⟨_, Sub.refl _, hR⟩
 have b1 : (s.edit.do' == 1) = false := by simp [h1]
 by_cases h3 : s.edit.do' = 3
 ·have hT := utext_ok (G := G) E hn s hs h3
  have b3 : (s.edit.do' == 3) = true := by simp [h3]
  refine Q4 Tryz.func46 hn46 hc46 (by rw [Tryz.ntmps46]; simp) (by rw [Tryz.ntmps46]; decide) ?_
  unfold Z9 at *
  simp -dsimp -implicitDefEqProofs (disch := omega) only [VCA, Nat.reduceEqDiff, Nat.reduceAdd, Nat.reduceLeDiff, ↓reduceIte, reduceCtorEq, c46, b1, b2, b3]
  refine DCalls.of hT ?_
  intro r h' hR
  simp -dsimp -implicitDefEqProofs (disch := omega) only [VCA, ↓reduceIte]
  exact ⟨_, Sub.refl _, hR⟩
 have b3 : (s.edit.do' == 3) = false := by simp [h3]
 by_cases h4 : s.edit.do' = 4
 ·have hT := umade_ok (G := G) E hn s h4
  have b4 : (s.edit.do' == 4) = true := by simp [h4]
  refine Q4 Tryz.func46 hn46 hc46 (by rw [Tryz.ntmps46]; simp) (by rw [Tryz.ntmps46]; decide) ?_
  unfold Z9 at *
  simp -dsimp -implicitDefEqProofs (disch := omega) only [VCA, Nat.reduceEqDiff, Nat.reduceAdd, Nat.reduceLeDiff, ↓reduceIte, reduceCtorEq, c46, b1, b2, b3, b4]
  refine DCalls.of hT ?_
  intro r h' hR
  simp -dsimp -implicitDefEqProofs (disch := omega) only [VCA, ↓reduceIte]
  exact ⟨_, Sub.refl _, hR⟩
 have b4 : (s.edit.do' == 4) = false := by simp [h4]
 by_cases h5 : s.edit.do' = 5
 ·have hT := uinserted_ok (G := G) E hn U.sm s h5
  have b5 : (s.edit.do' == 5) = true := by simp [h5]
  refine Q4 Tryz.func46 hn46 hc46 (by rw [Tryz.ntmps46]; simp) (by rw [Tryz.ntmps46]; decide) ?_
  unfold Z9 at *
  simp -dsimp -implicitDefEqProofs (disch := omega) only [VCA, Nat.reduceEqDiff, Nat.reduceAdd, Nat.reduceLeDiff, ↓reduceIte, reduceCtorEq, c46, b1, b2, b3, b4, b5]
  refine DCalls.of hT ?_
  intro r h' hR
  simp -dsimp -implicitDefEqProofs (disch := omega) only [VCA, ↓reduceIte]
  exact ⟨_, Sub.refl _, hR⟩
 have b5 : (s.edit.do' == 5) = false := by simp [h5]
 by_cases h6 : s.edit.do' = 6
 ·have hT := uremoved_ok (G := G) E hn U hk s h6
  have b6 : (s.edit.do' == 6) = true := by simp [h6]
  refine Q4 Tryz.func46 hn46 hc46 (by rw [Tryz.ntmps46]; simp) (by rw [Tryz.ntmps46]; decide) ?_
  unfold Z9 at *
  simp -dsimp -implicitDefEqProofs (disch := omega) only [VCA, Nat.reduceEqDiff, Nat.reduceAdd, Nat.reduceLeDiff, ↓reduceIte, reduceCtorEq, c46, b1, b2, b3, b4, b5, b6]
  refine DCalls.of hT ?_
  intro r h' hR
  simp -dsimp -implicitDefEqProofs (disch := omega) only [VCA, ↓reduceIte]
  exact ⟨_, Sub.refl _, hR⟩
 ·have b6 : (s.edit.do' == 6) = false := by simp [h6]
  have hb : ¬ Y3 (headD d n) s := by unfold Y3; rw [if_neg h1, if_neg h2, if_neg h3, if_neg h4, if_neg h5, if_neg h6]; exact fun h => h
  refine Q4 Tryz.func46 hn46 hc46 (by rw [Tryz.ntmps46]; simp) (by rw [Tryz.ntmps46]; decide) ?_
  unfold Z9 at *
  simp -dsimp -implicitDefEqProofs (disch := omega) only [VCA, Nat.reduceEqDiff, Nat.reduceAdd, Nat.reduceLeDiff, ↓reduceIte, c46, b1, b2, b3, b4, b5, b6]
  exact ⟨_, Sub.refl _, UnR.bad hb⟩
end Go.Proofs.K
end
section
set_option linter.unusedSimpArgs false
set_option linter.unusedVariables false
namespace Go.Proofs.K
open Go Go.Proofs Go.Shelf Go.RowKit Go.Lib
section
variable {P : Program} {ρ : Ren}
noncomputable def bodyI (ρ : Ren) (nm : String) : Func := { Body2.n22 ρ with name := nm }
theorem bodyI_ntmps (ρ : Ren) (nm : String) : (bodyI ρ nm).ntmps = 95 := rfl
theorem copyN (w : World) (dT sT ty elem : TypeId) (b o dLen dCap : Nat) (a : Addr) (sLen sCap k sz : Nat) (cs : List Value)
  (hu : P.underlying dT = some (.slice elem)) (hs : (P.info? elem).map (·.size) = some sz) (hk : Nat.min sLen dLen = k) (hn : cs.length = k * sz)
  (hsrc : ∀ j v, cs[j]? = some v -> w.cell? (a.add j) = some v) (hc : ∀ j, j < cs.length -> (w.cell? ⟨b, o + j, none⟩).isSome = true) (hf : ∀ j, j < cs.length -> w.frozen? ⟨b, o + j, none⟩ = false) (h1 : ∀ v ∈ cs, v.oneCell' = true) :
  (Builtin.copy_ #[dT, sT] ty #[.slice (some ⟨b, o, none⟩) dLen dCap, .slice (some a) sLen sCap]).run P w = .ok (goInt k) (w.setCells b o cs) := by
 have hl := run_loadCells_list (P := P) w a cs hsrc
 have hst := run_storeCells_cells (P := P) b o cs 0 w (by simpa using hc) (by simpa using hf) h1
 cases hq : P.info? elem with
 | none => simp [hq] at hs
 | some i =>
  have hi : i.size = sz := by simpa [hq] using hs
  rw [hn] at hl
  simp [Builtin.copy_, run_underlying hu, Builtin.lenOf, Builtin.firstCells, sizeOf, typeInfo, hq, hi, hk, hl, hst]
structure LayI2 (P : Program) (ρ : Ren) (nm : String) (bytes : Nat) (z : Value) : Prop where
 mixed : P.follows .mixedOrders = true
 f22 : P.funcs[ρ.f 22]? = some (bodyI ρ nm)
 ov : ∀ args w, (callFunc (ρ.f 29) args).run P w = ((Extern.SlicesOverlaps.overlaps #[(ρ.t 24), (ρ.t 24)] #[(ρ.t 4)] args).run P w).andThen fun v w' => .ok (.value v) w'
 t0 : P.underlying (ρ.t 0) = some (TypeDesc.tuple #[])
 a0 : ∀ w, (isAgg (ρ.t 0)).run P w = .ok false w
 z0 : ∀ w, (Go.sizeOf (ρ.t 0)).run P w = .ok 1 w
 v0 : ∀ w, (zeroValue (ρ.t 0)).run P w = .ok (Value.tuple #[]) w
 t3 : P.underlying (ρ.t 3) = some (TypeDesc.int IntKind.i64)
 a3 : ∀ w, (isAgg (ρ.t 3)).run P w = .ok false w
 z3 : ∀ w, (Go.sizeOf (ρ.t 3)).run P w = .ok 1 w
 v3 : ∀ w, (zeroValue (ρ.t 3)).run P w = .ok (Value.int IntKind.i64 0) w
 t4 : P.underlying (ρ.t 4) = some (TypeDesc.bool)
 a4 : ∀ w, (isAgg (ρ.t 4)).run P w = .ok false w
 z4 : ∀ w, (Go.sizeOf (ρ.t 4)).run P w = .ok 1 w
 v4 : ∀ w, (zeroValue (ρ.t 4)).run P w = .ok (Value.bool false) w
 z9 : ∀ w, (Go.sizeOf (ρ.t 9)).run P w = .ok 2 w
 t24 : P.underlying (ρ.t 24) = some (TypeDesc.slice (ρ.t 9))
 a24 : ∀ w, (isAgg (ρ.t 24)).run P w = .ok false w
 z24 : ∀ w, (Go.sizeOf (ρ.t 24)).run P w = .ok 1 w
 v24 : ∀ w, (zeroValue (ρ.t 24)).run P w = .ok (Value.slice none 0 0) w
 i9 : (P.info? (ρ.t 9)).map (fun i => (i.zero, i.size, i.bytes)) = some (some z, 2, bytes)
theorem insShift2 {nm : String} {bytes : Nat} {z : Value} (L : LayI2 P ρ nm bytes z) (b off n c i vb voff m vc : Nat) (cs vs : List Value) (w : World) (hi : i < n) (hm : 0 < m) (hroom : n + m <= c) (hc63 : c <= 9223372036854775807) (hvb : vb ≠ b)
  (hcl : cs.length = n * 2) (hvl : vs.length = m * 2)
  (hcs : ∀ j v, cs[j]? = some v -> w.cell? ⟨b, off + j, none⟩ = some v) (hsp : ∀ j, j < (n + m) * 2 -> (w.cell? ⟨b, off + j, none⟩).isSome = true) (hfz : ∀ j, j < (n + m) * 2 -> w.frozen? ⟨b, off + j, none⟩ = false)
  (hvs : ∀ j v, vs[j]? = some v -> w.cell? ⟨vb, voff + j, none⟩ = some v) (h1c : ∀ v ∈ cs, v.oneCell' = true) (h1v : ∀ v ∈ vs, v.oneCell' = true)
  (tA tB : TypeId) (kA kB : Nat) (hsa : w.shape? vb = some (tA, kA)) (hsb : w.shape? b = some (tB, kB)) (hkB : kB ≠ 0) (hfa : w.frozen? ⟨vb, voff, none⟩ = false) (hfe : w.frozen? ⟨vb, kA, none⟩ = false) :
  Calls P (ρ.f 22) #[.slice (some ⟨b, off, none⟩) n c, .int .i64 i, .slice (some ⟨vb, voff, none⟩) m vc] w fun e w' =>
   e = .returned (.slice (some ⟨b, off, none⟩) (n + m) c) /\ w' = (w.drew.setCells b (off + (i + m) * 2) (cs.drop (i * 2))).setCells b (off + i * 2) vs := by
 have t0 := L.t0; have a0 := L.a0; have z0 := L.z0; have v0 := L.v0; have t3 := L.t3; have a3 := L.a3; have z3 := L.z3; have v3 := L.v3; have t4 := L.t4; have a4 := L.a4; have z4 := L.z4; have v4 := L.v4; have z9 := L.z9; have t24 := L.t24; have a24 := L.a24; have z24 := L.z24; have v24 := L.v24
 have u0 := run_underlying L.t0; have u3 := run_underlying L.t3; have u4 := run_underlying L.t4; have u24 := run_underlying L.t24
 have hz1 : ¬ ((m : Int) = 0) := by omega
 have hz2 : ¬ ((i : Int) = (n : Int)) := by omega
 have hsz : (P.info? (ρ.t 9)).map (·.size) = some 2 := by
  obtain ⟨i0, hi0, h0, h1, h2⟩ := info_parts L.i9
  rw [hi0]; simp [h1]
 have hov : ∀ lb cb, (callFunc (ρ.f 29) #[.slice (some ⟨vb, voff, none⟩) m vc, .slice (some ⟨b, off + (i + m) * 2, none⟩) lb cb]).run P w = .ok (.value (.bool false)) w := fun lb cb => by
  rw [L.ov,
   Lib.run_overlaps_apart w (ρ.t 24) (ρ.t 4) (ρ.t 9) L.t24 2 L.z9 ⟨vb, voff, none⟩ ⟨b, off + (i + m) * 2, none⟩ m vc lb cb hvb tA tB kA kB hsa hsb hkB hfa hfe]
  rfl
 have hdl : (cs.drop (i * 2)).length = (n - i) * 2 := by rw [List.length_drop, hcl]; omega
 have mixed := L.mixed
 have hw1 : IntKind.i64.wrap ((i : Int) + (m : Int)) = (i : Int) + (m : Int) := by rw [IntKind.wrap_i64]; omega
 have hb1 : (0 : Int) <= (i : Int) + (m : Int) := by omega
 have hin : i <= n := by omega
 have htn : ((i : Int) + (m : Int)).toNat = i + m := by omega
 have hb2 : ¬ (c = i + m) := by omega
 have hb3 : (i : Int) <= (n : Int) + (m : Int) := by omega
 have hb4 : ¬ (c = i) := by omega
 have hcp1 : ∀ ty dc sc, (Builtin.copy_ #[(ρ.t 24), (ρ.t 24)] ty #[.slice (some ⟨b, off + (i + m) * 2, none⟩) (n + m - (i + m)) dc, .slice (some ⟨b, off + i * 2, none⟩) (n + m - i) sc]).run P w.drew = .ok (goInt ((n - i : Nat) : Int)) (w.drew.setCells b (off + (i + m) * 2) (cs.drop (i * 2))) := fun ty dc sc =>
  copyN w.drew _ _ ty (ρ.t 9) b (off + (i + m) * 2) (n + m - (i + m)) dc ⟨b, off + i * 2, none⟩ (n + m - i) sc (n - i) 2 (cs.drop (i * 2)) L.t24 hsz (by simp only [Nat.min_def]; split <;> omega) hdl
   (fun j v hj => by rw [Addr.add_lit, Nat.add_assoc]; exact hcs (i * 2 + j) v (by rwa [List.getElem?_drop] at hj))
   (fun j hj => by rw [Nat.add_assoc]; exact hsp _ (by omega)) (fun j hj => by rw [Nat.add_assoc]; exact hfz _ (by omega)) (fun v hv => h1c v (List.mem_of_mem_drop hv))
 obtain ⟨W1, hW1⟩ : ∃ W1, W1 = w.drew.setCells b (off + (i + m) * 2) (cs.drop (i * 2)) := ⟨_, rfl⟩
 have hsp1 : ∀ k, k < (n + m) * 2 -> (W1.cell? ⟨b, off + k, none⟩).isSome = true := fun k hk => by
  rw [hW1]
  exact isSome_setCells b _ _ _ (fun j hj => by rw [Nat.add_assoc]; exact hsp _ (by omega)) _ (hsp k hk)
 have hcp2 : ∀ (W : World), (∀ x, W.cell? x = W1.cell? x) -> (∀ x, W.frozen? x = W1.frozen? x) -> ∀ ty dc, (Builtin.copy_ #[(ρ.t 24), (ρ.t 24)] ty #[.slice (some ⟨b, off + i * 2, none⟩) (n + m - i) dc, .slice (some ⟨vb, voff, none⟩) m vc]).run P W = .ok (goInt m) (W.setCells b (off + i * 2) vs) := fun W hWc hWf ty dc =>
  copyN W _ _ ty (ρ.t 9) b (off + i * 2) (n + m - i) dc ⟨vb, voff, none⟩ m vc m 2 vs L.t24 hsz (by simp only [Nat.min_def]; split <;> omega) hvl
   (fun j v hj => by
    rw [Addr.add_lit, hWc, hW1, World.cell?_setCells_out b _ _ _ _ (fun h _ => absurd h hvb)]
    exact hvs j v hj)
   (fun j hj => by rw [hWc, Nat.add_assoc]; exact hsp1 _ (by omega)) (fun j hj => by rw [hWf, hW1, World.frozen?_setCells, Nat.add_assoc]; exact hfz _ (by omega)) h1v
 rw [<- hW1] at hcp1
 go_enter L.f22, bodyI_ntmps ρ nm
 go_wp2_with (simp only [hov])
 go_region_law_o (refine step_copy_runI rfl _ _ (ρ.t 24) (ρ.t 24) rfl _ _ (by simp [Act.eval, Act.put]) (by simp [Act.eval, Act.put]) (hcp1 _ _ _) ?_)
 go_wp2_with (at_builtin; refine wpList_copy_runI _ rfl _ _ (ρ.t 24) (ρ.t 24) rfl _ _ rfl rfl (hcp2 _ (fun _ => rfl) (fun _ => rfl) _ _) ?_)
 go_ret
 first | exact ⟨rfl, rfl⟩ | exact ⟨rfl, by rw [hW1]⟩
theorem insEndRoom2 {nm : String} {bytes : Nat} {z : Value} (L : LayI2 P ρ nm bytes z) (b off n c vb voff m vc : Nat) (vs : List Value) (w : World) (hm : 0 < m) (hroom : n + m <= c) (hc63 : c <= 9223372036854775807)
  (hvl : vs.length = m * 2) (hsp : ∀ j, j < m * 2 -> (w.cell? ⟨b, off + n * 2 + j, none⟩).isSome = true) (hfz : ∀ j, j < m * 2 -> w.frozen? ⟨b, off + n * 2 + j, none⟩ = false)
  (hvs : ∀ j v, vs[j]? = some v -> w.cell? ⟨vb, voff + j, none⟩ = some v) (h1v : ∀ v ∈ vs, v.oneCell' = true) :
  Calls P (ρ.f 22) #[.slice (some ⟨b, off, none⟩) n c, .int .i64 n, .slice (some ⟨vb, voff, none⟩) m vc] w fun e w' =>
   e = .returned (.slice (some ⟨b, off, none⟩) (n + m) c) /\ w' = w.setCells b (off + n * 2) vs := by
 have t0 := L.t0; have a0 := L.a0; have z0 := L.z0; have v0 := L.v0; have t3 := L.t3; have a3 := L.a3; have z3 := L.z3; have v3 := L.v3; have t4 := L.t4; have a4 := L.a4; have z4 := L.z4; have v4 := L.v4; have z9 := L.z9; have t24 := L.t24; have a24 := L.a24; have z24 := L.z24; have v24 := L.v24
 have u0 := run_underlying L.t0; have u3 := run_underlying L.t3; have u4 := run_underlying L.t4; have u24 := run_underlying L.t24
 have mixed := L.mixed
 obtain ⟨i0, hi0, hzz, hzs, hzb⟩ := info_parts L.i9
 have hz1 : ¬ ((m : Int) = 0) := by omega
 have hsrc : Src P i0.size (ρ.t 24) (.slice (some ⟨vb, voff, none⟩) m vc) m vs w := by
  rw [hzs]; exact Src.ofSlice w L.t24 ⟨vb, voff, none⟩ m vc vs hvl (fun j u hj => by rw [Addr.add_lit]; exact hvs j u hj) h1v
 go_enter L.f22, bodyI_ntmps ρ nm
 go_wp2_with (at_builtin; refine wpList_append_room_src _ rfl _ _ (ρ.t 24) (ρ.t 24) rfl (ρ.t 9) i0 L.t24 hi0 b off n c rfl _ rfl m vs hsrc hroom (by rw [hvl, hzs]; exact hsp) (by rw [hvl, hzs]; exact hfz) ?_)
 go_ret
 first | exact ⟨rfl, rfl⟩ | exact ⟨rfl, by rw [hzs]⟩
theorem insEndGrow2 {nm : String} {bytes : Nat} {z : Value} (L : LayI2 P ρ nm bytes z) (base : Option Addr) (n c vb voff m vc : Nat) (cs vs : List Value) (w : World) (hm : 0 < m) (hnc : n <= c) (hroom : c < n + m) (h63 : n + m <= 9223372036854775807) (hbig : (n + m) * bytes <= 140737488355328)
  (hcl : cs.length = n * 2) (hvl : vs.length = m * 2) (hnil : base = none -> n = 0)
  (hcs : ∀ a, base = some a -> ∀ j v, cs[j]? = some v -> w.cell? (a.add j) = some v)
  (hvs : ∀ j v, vs[j]? = some v -> w.cell? ⟨vb, voff + j, none⟩ = some v) (h1v : ∀ v ∈ vs, v.oneCell' = true) :
  Calls P (ρ.f 22) #[.slice base n c, .int .i64 n, .slice (some ⟨vb, voff, none⟩) m vc] w fun e w' =>
   e = .returned (.slice (some ⟨w.heap.size, 0, none⟩) (n + m) (grownCap w (n + m) c (ρ.t 9))) /\
   w' = w.drew.alloc (.cells ((cs ++ vs).toArray ++ Builtin.zeroCells z.cells (grownCap w (n + m) c (ρ.t 9) - (n + m))) (ρ.t 9)) := by
 have t0 := L.t0; have a0 := L.a0; have z0 := L.z0; have v0 := L.v0; have t3 := L.t3; have a3 := L.a3; have z3 := L.z3; have v3 := L.v3; have t4 := L.t4; have a4 := L.a4; have z4 := L.z4; have v4 := L.v4; have z9 := L.z9; have t24 := L.t24; have a24 := L.a24; have z24 := L.z24; have v24 := L.v24
 have u0 := run_underlying L.t0; have u3 := run_underlying L.t3; have u4 := run_underlying L.t4; have u24 := run_underlying L.t24
 have mixed := L.mixed
 obtain ⟨i0, hi0, hzz, hzs, hzb⟩ := info_parts L.i9
 have hz1 : ¬ ((m : Int) = 0) := by omega
 have hsrc : Src P i0.size (ρ.t 24) (.slice (some ⟨vb, voff, none⟩) m vc) m vs w := by
  rw [hzs]
  exact Src.ofSlice w L.t24 ⟨vb, voff, none⟩ m vc vs hvl (fun j u hj => by rw [Addr.add_lit]; exact hvs j u hj) h1v
 have hold : (Builtin.firstCells i0.size n (.slice base n c)).run P w.drew = .ok cs.toArray w.drew := by
  rw [hzs]
  cases base with
  | none =>
   have h0 := hnil rfl
   subst h0
   rw [List.length_eq_zero_iff.1 (hcl.trans (Nat.zero_mul _))]
   exact run_firstCells_none w.drew 2 0 0 c
  | some a => exact run_firstCells_some w.drew 2 n a n c cs hcl (fun j v hj => hcs a rfl j v hj)
 have hrun : ∀ ty, (Builtin.append_ #[(ρ.t 24), (ρ.t 24)] ty #[.slice base n c, .slice (some ⟨vb, voff, none⟩) m vc]).run P w = _ := fun ty =>
  run_append_grow_src w (ρ.t 24) (ρ.t 24) ty (ρ.t 9) i0 _ L.t24 hi0 hzz base n c cs hold _ m vs hsrc hroom (by omega) (by rw [hzb]; exact growslice_fits hroom hbig)
 generalize z.cells = zc at *
 go_enter L.f22, bodyI_ntmps ρ nm
 cases base with
 | none =>
  have h0 := hnil rfl
  subst h0
  go_wp2_with (at_builtin; refine Lib.wpList_append_run _ rfl _ _ _ _ rfl _ _ rfl rfl _ _ (hrun _) ?_)
  go_ret
  exact ⟨rfl, rfl⟩
 | some a =>
  obtain ⟨ab, ao, asp⟩ := a
  go_wp2_with (at_builtin; refine Lib.wpList_append_run _ rfl _ _ _ _ rfl _ _ rfl rfl _ _ (hrun _) ?_)
  all_goals (go_ret; exact ⟨rfl, rfl⟩)
theorem insGrow2 {nm : String} {bytes : Nat} {z : Value} (L : LayI2 P ρ nm bytes z) (hzc : z.cells.size = 2) (b off n c i vb voff m vc : Nat) (cs vs : List Value) (w : World) (hi : i < n) (hm : 0 < m) (hnc : n <= c) (hroom : c < n + m) (h63 : n + m <= 4294967296) (hbig : (n + m) * bytes <= 140737488355328)
  (hcl : cs.length = n * 2) (hvl : vs.length = m * 2)
  (hcs : ∀ j v, cs[j]? = some v -> w.cell? ⟨b, off + j, none⟩ = some v)
  (hvs : ∀ j v, vs[j]? = some v -> w.cell? ⟨vb, voff + j, none⟩ = some v) (h1c : ∀ v ∈ cs, v.oneCell' = true) (h1v : ∀ v ∈ vs, v.oneCell' = true) :
  Calls P (ρ.f 22) #[.slice (some ⟨b, off, none⟩) n c, .int .i64 i, .slice (some ⟨vb, voff, none⟩) m vc] w fun e w' =>
   e = .returned (.slice (some ⟨w.heap.size, 0, none⟩) (n + m) (grownCap w (n + m) c (ρ.t 9))) /\
   w' = (((w.alloc (.cells ((cs.take (i * 2)).toArray ++ Builtin.zeroCells z.cells (n + m - i) ++ Builtin.zeroCells z.cells (grownCap w (n + m) c (ρ.t 9) - (n + m))) (ρ.t 9))).drew.setCells w.heap.size (i * 2) vs).drew).setCells w.heap.size ((i + m) * 2) (cs.drop (i * 2)) := by
 have t0 := L.t0; have a0 := L.a0; have z0 := L.z0; have v0 := L.v0; have t3 := L.t3; have a3 := L.a3; have z3 := L.z3; have v3 := L.v3; have t4 := L.t4; have a4 := L.a4; have z4 := L.z4; have v4 := L.v4; have z9 := L.z9; have t24 := L.t24; have a24 := L.a24; have z24 := L.z24; have v24 := L.v24
 have u0 := run_underlying L.t0; have u3 := run_underlying L.t3; have u4 := run_underlying L.t4; have u24 := run_underlying L.t24
 have mixed := L.mixed
 obtain ⟨i0, hi0, hzz, hzs, hzb⟩ := info_parts L.i9
 have hz1 : ¬ ((m : Int) = 0) := by omega
 have hz2 : ¬ ((i : Int) = (n : Int)) := by omega
 have hz3 : (c : Int) < (n : Int) + (m : Int) := by omega
 have hsz : (P.info? (ρ.t 9)).map (·.size) = some 2 := by rw [hi0]; simp [hzs]
 have hbw : b < w.heap.size := block_lt_of_cell (hcs 0 _ (List.getElem?_eq_getElem (by omega)))
 have hvw : vb < w.heap.size := block_lt_of_cell (hvs 0 _ (List.getElem?_eq_getElem (by omega)))
 have hkk : (n : Int) + (m : Int) - (i : Int) = ((n + m - i : Nat) : Int) := by omega
 have hik : i + (n + m - i) = n + m := by omega
 have hold : (Builtin.firstCells i0.size i (.slice (some ⟨b, off, none⟩) i c)).run P w.drew = .ok (cs.take (i * 2)).toArray w.drew := by
  rw [hzs]
  exact run_firstCells_some w.drew 2 i ⟨b, off, none⟩ i c (cs.take (i * 2)) (by rw [List.length_take]; omega) (fun j v hj => by
   rw [Addr.add_lit]
   rw [List.getElem?_take] at hj
   split at hj
   ·exact hcs j v hj
   ·cases hj)
 have hb48 : (n + m - i) * bytes <= 281474976710656 := Nat.le_trans (Nat.mul_le_mul_right _ (Nat.sub_le _ _)) (by omega)
 have hrz : ∀ ty, (Builtin.append_ #[(ρ.t 24), (ρ.t 3)] ty #[.slice (some ⟨b, off, none⟩) i c, .int .i64 ((n : Int) + (m : Int) - (i : Int))]).run P w =
   .ok (.slice (some ⟨w.heap.size, 0, none⟩) (n + m) (grownCap w (n + m) c (ρ.t 9))) (w.drew.alloc (.cells ((cs.take (i * 2)).toArray ++ Builtin.zeroCells z.cells (n + m - i) ++ Builtin.zeroCells z.cells (grownCap w (n + m) c (ρ.t 9) - (n + m))) (ρ.t 9))) := fun ty => by
  have h := Lib.run_append_grow_zeros w (ρ.t 24) (ρ.t 3) ty (ρ.t 9) i0 _ .i64 .i64 L.t24 L.t3 hi0 hzz (some ⟨b, off, none⟩) i c (cs.take (i * 2)) hold (n + m - i) (by omega) (by omega) (by omega) (by omega) (by rw [hzb]; exact hb48) (by rw [hzb, hik]; exact growslice_fits hroom hbig)
  rw [hik] at h
  rw [hkk]
  exact h
 obtain ⟨G, hG⟩ : ∃ G, G = grownCap w (n + m) c (ρ.t 9) := ⟨_, rfl⟩
 obtain ⟨ROW, hROW⟩ : ∃ ROW : Array Value, ROW = (cs.take (i * 2)).toArray ++ Builtin.zeroCells z.cells (n + m - i) ++ Builtin.zeroCells z.cells (G - (n + m)) := ⟨_, rfl⟩
 rw [<- hG] at hrz ⊢
 rw [<- hROW] at hrz ⊢
 have hRl : (n + m) * 2 <= ROW.size := by
  rw [hROW, Array.size_append, Array.size_append, size_zeroCells, size_zeroCells, hzc, List.size_toArray, List.length_take, hcl]
  omega
 obtain ⟨W1, hW1⟩ : ∃ W1, W1 = w.drew.alloc (.cells ROW (ρ.t 9)) := ⟨_, rfl⟩
 rw [<- hW1] at hrz
 have hN : ∀ j, j < (n + m) * 2 -> (W1.cell? ⟨w.heap.size, j, none⟩).isSome = true := fun j hj => by
  rw [hW1, World.cell?_alloc_at (w := w.drew) ROW _ w.heap.size j rfl, Array.getElem?_eq_getElem (by omega)]; rfl
 have hNf : ∀ j, W1.frozen? ⟨w.heap.size, j, none⟩ = false := fun j => by rw [hW1]; exact World.frozen?_alloc_at (w := w.drew) ROW _ w.heap.size j rfl
 have hOb : ∀ j v, w.cell? ⟨b, j, none⟩ = some v -> W1.cell? ⟨b, j, none⟩ = some v := fun j v h => by rw [hW1, World.cell?_alloc_past (w := w.drew) _ b j hbw]; exact h
 have hOv : ∀ j v, w.cell? ⟨vb, j, none⟩ = some v -> W1.cell? ⟨vb, j, none⟩ = some v := fun j v h => by rw [hW1, World.cell?_alloc_past (w := w.drew) _ vb j hvw]; exact h
 have hcpA : ∀ (W : World), (∀ x, W.cell? x = W1.cell? x) -> (∀ x, W.frozen? x = W1.frozen? x) -> ∀ ty dc, (Builtin.copy_ #[(ρ.t 24), (ρ.t 24)] ty #[.slice (some ⟨w.heap.size, i * 2, none⟩) (n + m - i) dc, .slice (some ⟨vb, voff, none⟩) m vc]).run P W = .ok (goInt m) (W.setCells w.heap.size (i * 2) vs) := fun W hWc hWf ty dc =>
  copyN W _ _ ty (ρ.t 9) w.heap.size (i * 2) (n + m - i) dc ⟨vb, voff, none⟩ m vc m 2 vs L.t24 hsz (by simp only [Nat.min_def]; split <;> omega) hvl
   (fun j v hj => by rw [Addr.add_lit, hWc]; exact hOv _ v (hvs j v hj))
   (fun j hj => by rw [hWc]; exact hN _ (by omega)) (fun j hj => by rw [hWf]; exact hNf _) h1v
 have hGn : n + m <= G := by rw [hG]; exact grownCap_ge w _ _ _
 have hG63 : G <= 9223372036854775807 := by
  have := grownCap_le_maxLen w (n + m) c (ρ.t 9) (by unfold maxLen; omega)
  rw [<- hG] at this
  unfold maxLen at this
  omega
 have hGi : ¬ (G = i) := by omega
 have hGim : ¬ (G = i + m) := by omega
 have hci : ¬ (c = i) := by omega
 have hbN : b ≠ w.heap.size := by omega
 have hdl : (cs.drop (i * 2)).length = (n - i) * 2 := by rw [List.length_drop, hcl]; omega
 have hcpB : ∀ (W : World), (∀ x, W.cell? x = (W1.setCells w.heap.size (i * 2) vs).cell? x) -> (∀ x, W.frozen? x = (W1.setCells w.heap.size (i * 2) vs).frozen? x) -> ∀ ty dc sc, (Builtin.copy_ #[(ρ.t 24), (ρ.t 24)] ty #[.slice (some ⟨w.heap.size, (i + m) * 2, none⟩) (n + m - (i + m)) dc, .slice (some ⟨b, off + i * 2, none⟩) (n - i) sc]).run P W = .ok (goInt ((n - i : Nat) : Int)) (W.setCells w.heap.size ((i + m) * 2) (cs.drop (i * 2))) := fun W hWc hWf ty dc sc =>
  copyN W _ _ ty (ρ.t 9) w.heap.size ((i + m) * 2) (n + m - (i + m)) dc ⟨b, off + i * 2, none⟩ (n - i) sc (n - i) 2 (cs.drop (i * 2)) L.t24 hsz (by simp only [Nat.min_def]; split <;> omega) hdl
   (fun j v hj => by
    rw [Addr.add_lit, hWc, World.cell?_setCells_out _ _ _ _ _ (fun h _ => absurd h hbN), Nat.add_assoc]
    exact hOb _ v (hcs (i * 2 + j) v (by rwa [List.getElem?_drop] at hj)))
   (fun j hj => by rw [hWc]; exact isSome_setCells _ _ _ _ (fun t ht => hN _ (by omega)) _ (hN _ (by omega)))
   (fun j hj => by rw [hWf, World.frozen?_setCells]; exact hNf _) (fun v hv => h1c v (List.mem_of_mem_drop hv))
 subst hW1
 have hE1 : ∀ x, ((w.alloc (.cells ROW (ρ.t 9))).drew).cell? x = (w.drew.alloc (.cells ROW (ρ.t 9))).cell? x := fun x => rfl
 have hE2 : ∀ x, ((w.alloc (.cells ROW (ρ.t 9))).drew).frozen? x = (w.drew.alloc (.cells ROW (ρ.t 9))).frozen? x := fun x => rfl
 have hF1 : ∀ x, (((w.alloc (.cells ROW (ρ.t 9))).drew.setCells w.heap.size (i * 2) vs).drew).cell? x = ((w.drew.alloc (.cells ROW (ρ.t 9))).setCells w.heap.size (i * 2) vs).cell? x := fun x => rfl
 have hF2 : ∀ x, (((w.alloc (.cells ROW (ρ.t 9))).drew.setCells w.heap.size (i * 2) vs).drew).frozen? x = ((w.drew.alloc (.cells ROW (ρ.t 9))).setCells w.heap.size (i * 2) vs).frozen? x := fun x => rfl
 have hw1 : IntKind.i64.wrap ((i : Int) + (m : Int)) = (i : Int) + (m : Int) := by rw [IntKind.wrap_i64]; omega
 have hb1 : (0 : Int) <= (i : Int) + (m : Int) := by omega
 have hin : i <= n := by omega
 have htn : ((i : Int) + (m : Int)).toNat = i + m := by omega
 have hb3 : (i : Int) <= (n : Int) := by omega
 clear hkk hik hold hROW hG hRl hb48
 go_enter L.f22, bodyI_ntmps ρ nm
 go_wp2_with (first
  | (at_builtin; refine Lib.wpList_append_run _ rfl _ _ _ _ rfl _ _ rfl rfl _ _ (hrz _) ?_)
  | (at_builtin; refine wpList_copy_runI _ rfl _ _ (ρ.t 24) (ρ.t 24) rfl _ _ rfl rfl (hcpA _ hE1 hE2 _ _) ?_)
  | (at_builtin; refine wpList_copy_runI _ rfl _ _ (ρ.t 24) (ρ.t 24) rfl _ _ rfl rfl (hcpB _ (fun _ => rfl) (fun _ => rfl) _ _ _) ?_))
 go_region_law_o (refine step_copy_runI rfl _ _ (ρ.t 24) (ρ.t 24) rfl (.slice (some ⟨w.heap.size, (i + m) * 2, none⟩) (n + m - (i + m)) (G - (i + m))) (.slice (some ⟨b, off + i * 2, none⟩) (n - i) (c - i)) (by simp [Act.eval, Act.put]) (by simp [Act.eval, Act.put]) (hcpB _ hF1 hF2 (ρ.t 3) (G - (i + m)) (c - i)) ?_)
 go_wp2
 go_ret
 exact ⟨rfl, rfl⟩
end
end Go.Proofs.K
end
section
set_option linter.unusedSimpArgs false
set_option linter.unusedVariables false
namespace Go.Proofs.K
open Go Go.Sim Go.Proofs Go.Shelf
variable {G : ZQ}
def insL {α : Type} (l : List α) (i : Nat) (x : α) : List α := l.take i ++ x :: l.drop i
theorem insL_len {α : Type} (l : List α) (i : Nat) (x : α) (hi : i <= l.length) : (insL l i x).length = l.length + 1 := by
 unfold insL; rw [List.length_append, List.length_cons, List.length_take, List.length_drop]; omega
theorem insL_all {es : List (List AVal)} {x : List AVal} {sz : Nat} (hes : ∀ e ∈ es, e.length = sz) (hx : x.length = sz) (i : Nat) : ∀ e ∈ insL es i x, e.length = sz := by
 intro e he
 unfold insL at he
 rcases List.mem_append.1 he with h | h
 ·exact hes e (List.mem_of_mem_take h)
 ·rcases List.mem_cons.1 h with h | h
  ·rw [h]; exact hx
  ·exact hes e (List.mem_of_mem_drop h)
theorem insL_map {α β : Type} (f : α -> β) (l : List α) (i : Nat) (x : α) : insL (l.map f) i (f x) = (insL l i x).map f := by
 unfold insL; simp [List.map_append, List.map_take, List.map_drop]
theorem insL_get {α : Type} (l : List α) (i : Nat) (x : α) (hi : i <= l.length) (k : Nat) : (insL l i x)[k]? = if k < i then l[k]? else if k = i then some x else l[k - 1]? := by
 unfold insL
 by_cases h1 : k < i
 ·rw [if_pos h1, List.getElem?_append_left (by rw [List.length_take]; omega), List.getElem?_take, if_pos h1]
 ·rw [if_neg h1, List.getElem?_append_right (by rw [List.length_take]; omega), List.length_take, Nat.min_eq_left hi]
  by_cases h2 : k = i
  ·rw [if_pos h2, h2]; simp
  ·rw [if_neg h2, show k - i = (k - i - 1) + 1 by omega, List.getElem?_cons_succ, List.getElem?_drop, show i + (k - i - 1) = k - 1 by omega]
def RowsAt (sz : Nat) (g : Ghost) (w : World) (cur : Array Value) (bo : Nat) (es : List (List AVal)) : Prop := ∀ (k j : Nat) (e : List AVal) (x : AVal), es[k]? = some e -> e[j]? = some x -> ∃ u : Value, cur[bo + (k * sz + j)]? = some u /\ u.oneCell' = true /\ VRel g w u x
theorem RowsAt.take {sz : Nat} {g : Ghost} {w : World} {cur : Array Value} {bo : Nat} {es : List (List AVal)} (I : RowsAt sz g w cur bo es) (n : Nat) : RowsAt sz g w cur bo (es.take n) := fun k j e x hk hx => by
 rw [List.getElem?_take] at hk
 split at hk
 ·exact I k j e x hk hx
 ·cases hk
def cellsL (cur : Array Value) (bo n : Nat) : List Value := (cur.toList.drop bo).take n
theorem cellsL_len {cur : Array Value} {bo n : Nat} (h : bo + n <= cur.size) : (cellsL cur bo n).length = n := by
 unfold cellsL; rw [List.length_take, List.length_drop, Array.length_toList]; omega
theorem cellsL_get {cur : Array Value} {bo n j : Nat} : (cellsL cur bo n)[j]? = if j < n then cur[bo + j]? else none := by
 unfold cellsL; rw [List.getElem?_take]
 split
 ·rw [List.getElem?_drop, Array.getElem?_toList]
 ·rfl
theorem cellsL_some {cur : Array Value} {bo n j : Nat} {v : Value} (h : (cellsL cur bo n)[j]? = some v) : j < n /\ cur[bo + j]? = some v := by
 rw [cellsL_get] at h
 split at h
 ·rename_i hq; exact ⟨hq, h⟩
 ·cases h
theorem RowsAt.one {sz n : Nat} {g : Ghost} {w : World} {cur : Array Value} {bo : Nat} {es : List (List AVal)} (I : RowsAt sz g w cur bo es) (hp : 0 < sz) (hes : ∀ e ∈ es, e.length = sz) (hn : n <= es.length * sz) : ∀ v ∈ cellsL cur bo n, v.oneCell' = true := by
 intro v hv
 obtain ⟨j, hj⟩ := List.getElem?_of_mem hv
 obtain ⟨h1, h2⟩ := cellsL_some hj
 have hk : j / sz < es.length := by rw [Nat.div_lt_iff_lt_mul hp]; omega
 have hm : j % sz < sz := Nat.mod_lt _ hp
 have he := hes _ (List.getElem_mem hk)
 obtain ⟨u, hu, h3, _⟩ := I (j / sz) (j % sz) _ ((es[j / sz])[j % sz]'(by rw [he]; exact hm)) (List.getElem?_eq_getElem hk) (List.getElem?_eq_getElem _)
 rw [Nat.mul_comm, Nat.div_add_mod, h2] at hu
 cases hu; exact h3
theorem rows_block {h : Q3} {g : Ghost} {w : World} (H : HRel h g w) {r sz : Nat} {ty : TypeId} {es : List (List AVal)} (hr : h r = some ⟨ty, sz, es⟩) (hc : g.cap r ≠ 0) :
  ∃ cur : Array Value, w.heap[g.eta r]? = some (.cells cur ty (0, 0)) /\ g.bo r + g.cap r * sz = cur.size /\ RowsAt sz g w cur (g.bo r) es := by
 have O := H.obj r _ hr
 rcases O.block with h0 | ⟨_, _, cur, hcur, hsz, hcell⟩
 ·exact absurd h0 hc
 ·exact ⟨cur, hcur, hsz, fun k j e x hk hx => hcell k j e x hk hx⟩
theorem new_rows {h : Q3} {g : Ghost} {w w' : World} (H : HRel h g w) {cells : Array Value} {cap sz : Nat} {ty : TypeId} {es : List (List AVal)} (hpos : 0 < sz) (hp : w'.heap = (w.alloc (.cells cells ty)).heap) (h1 : w'.os = w.os) (h2 : w'.tape = w.tape) (h3 : w'.output = w.output)
  (hcs : cells.size = cap * sz) (hlen : ∀ e ∈ es, e.length = sz) (hle : es.length <= cap) (hm : cap <= maxLen) (I : RowsAt sz g w cells 0 es) :
  ∃ g', GS g w g' w' /\ HRel (upd h g.nxt (some ⟨ty, sz, es⟩)) g' w' /\ VRel g' w' (.slice (some ⟨w.heap.size, 0, none⟩) es.length cap) (.osl g.nxt sz 0 es.length) := by
 obtain ⟨S1, H1⟩ := root_new H cells (ty := ty) (sz := sz) (cap := cap) (es := es) hpos hcs hle hlen (fun i j e x he hx => by
  have := I i j e x he hx
  simpa using this)
 obtain ⟨S2, H2⟩ := H1.ext (w' := w') (fun b _ => by rw [hp]) h1 h2 h3 (by rw [hp]; exact Nat.le_refl _)
 refine ⟨_, S1.trans S2, H2, ?_⟩
 have := VRel.osl (g := g.add w.heap.size 0 cap sz) (w := w') g.nxt sz 0 es.length cap 0 (Nat.lt_succ_self _) (by simp [Ghost.add]) hle hm (by simp [Ghost.add]) (fun _ => by simp [Ghost.add])
 simpa [Ghost.add] using this
theorem put_rows {h : Q3} {g : Ghost} {w w' : World} (H : HRel h g w) {r sz : Nat} {ty : TypeId} {es es' : List (List AVal)} (hpos : 0 < sz) (hr : h r = some ⟨ty, sz, es⟩) (hc : g.cap r ≠ 0) {cur' : Array Value} (hb : w'.heap[g.eta r]? = some (.cells cur' ty (0, 0)))
  (hs : ∀ b, b ≠ g.eta r -> w'.heap[b]? = w.heap[b]?) (hz : w'.heap.size = w.heap.size) (h1 : w'.os = w.os) (h2 : w'.tape = w.tape) (h3 : w'.output = w.output) (hsz : g.bo r + g.cap r * sz = cur'.size) (hlen : ∀ e ∈ es', e.length = sz) (hle : es'.length <= g.cap r) (hm : g.cap r <= maxLen) (I : RowsAt sz g w cur' (g.bo r) es') :
  ∃ g', GS g w g' w' /\ HRel (upd (del h r) g.nxt (some ⟨ty, sz, es'⟩)) g' w' /\ VRel g' w' (.slice (some ⟨g.eta r, g.bo r, none⟩) es'.length (g.cap r)) (.osl g.nxt sz 0 es'.length) := by
 have O := H.obj r _ hr
 rcases O.block with h0 | ⟨hlt, hnf, cur, hcur, _, _⟩
 ·exact absurd h0 hc
 ·obtain ⟨S, H1⟩ := root_touch H hr hc (w' := w') hs hz h1 h2 h3 ⟨_, _, _, hb⟩
  have H2 := H1.add (blk := g.eta r) (bo := g.bo r) (cap := g.cap r) (sz := sz) (ty := ty) (es := es') hpos hlen hle (.inr ⟨by rw [hz]; exact hlt, hnf, fun t ob ht h0 he => by
   unfold Sim.del at ht
   split at ht
   ·cases ht
   ·rename_i hne; exact hne (H.inj t r ob _ ht hr h0 hc he), cur', hb, hsz, fun k j e x hk hx => by
    obtain ⟨u, hu, h1, hV⟩ := I k j e x hk hx
    exact ⟨u, hu, h1, hV.step S.toGStep⟩⟩)
  refine ⟨_, S.addTo _ _ _ _ (.inr (.inl ⟨r, O.lt, hc, rfl⟩)), H2, ?_⟩
  have := VRel.osl (g := g.add (g.eta r) (g.bo r) (g.cap r) sz) (w := w') g.nxt sz 0 es'.length (g.cap r) (g.bo r) (Nat.lt_succ_self _) (by simp [Ghost.add]) hle hm (by simp [Ghost.add]) (fun _ => by simp [Ghost.add])
  simpa [Ghost.add] using this
theorem RowsAt.ins2 {g : Ghost} {w : World} {cur curv c2 : Array Value} {bo bv b2 i : Nat} {es : List (List AVal)} {x : List AVal} (I : RowsAt 2 g w cur bo es) (Iv : RowsAt 2 g w curv bv [x]) (hes : ∀ e ∈ es, e.length = 2) (hx : x.length = 2) (hi : i <= es.length)
  (hA : ∀ q, q < i * 2 -> c2[b2 + q]? = cur[bo + q]?) (hB : ∀ q, q < 2 -> c2[b2 + (i * 2 + q)]? = curv[bv + q]?) (hC : ∀ q, q < es.length * 2 - i * 2 -> c2[b2 + ((i + 1) * 2 + q)]? = cur[bo + i * 2 + q]?) : RowsAt 2 g w c2 b2 (insL es i x) := by
 intro k j e y hk hy
 rw [insL_get _ _ _ hi] at hk
 by_cases h1 : k < i
 ·rw [if_pos h1] at hk
  have hj := (List.getElem?_eq_some_iff.1 hy).1
  have he := hes e (List.mem_of_getElem? hk)
  obtain ⟨u, hu, h1, hV⟩ := I k j e y hk hy
  exact ⟨u, by rw [hA _ (by omega)]; exact hu, h1, hV⟩
 ·rw [if_neg h1] at hk
  by_cases h2 : k = i
  ·rw [if_pos h2] at hk
   cases hk
   have hj := (List.getElem?_eq_some_iff.1 hy).1
   obtain ⟨u, hu, h1, hV⟩ := Iv 0 j x y rfl hy
   rw [Nat.zero_mul, Nat.zero_add] at hu
   exact ⟨u, by rw [h2, hB _ (by omega)]; exact hu, h1, hV⟩
  ·rw [if_neg h2] at hk
   have hj := (List.getElem?_eq_some_iff.1 hy).1
   have hkl := (List.getElem?_eq_some_iff.1 hk).1
   have he := hes e (List.mem_of_getElem? hk)
   obtain ⟨u, hu, h1, hV⟩ := I (k - 1) j e y hk hy
   refine ⟨u, ?_, h1, hV⟩
   rw [<- hu, show k * 2 + j = (i + 1) * 2 + ((k - 1 - i) * 2 + j) by omega, hC _ (by omega)]
   congr 1; omega
def reninsertA : Ren := ⟨fun | 22 => 115 | 29 => 153 | 30 => 154 | 36 => 183 | 17 => 191 | n => n, fun | 0 => 0 | 3 => 3 | 4 => 4 | 9 => 96 | 24 => 37 | n => n, fun n => n⟩
theorem layinsertA : LayI2 Tryz.prog reninsertA Tryz.f115.name 32 (.agg #[.string ⟨#[]⟩, .string ⟨#[]⟩]) := {
 mixed := by kernel_rfl
 f22 := Tryz.func115.trans (congrArg some (by kernel_rfl))
 ov := fun args w => run_callFunc_extern Tryz.func153 (by kernel_rfl) (by kernel_rfl) (by kernel_rfl) (by kernel_rfl) args w
 t0 := Tryz.underlying0
 a0 := Tryz.isAgg0
 z0 := Tryz.sizeOf0
 v0 := Tryz.zeroValue0
 t3 := Tryz.underlying3
 a3 := Tryz.isAgg3
 z3 := Tryz.sizeOf3
 v3 := Tryz.zeroValue3
 t4 := Tryz.underlying4
 a4 := Tryz.isAgg4
 z4 := Tryz.sizeOf4
 v4 := Tryz.zeroValue4
 z9 := Tryz.sizeOf96
 t24 := Tryz.underlying37
 a24 := Tryz.isAgg37
 z24 := Tryz.sizeOf37
 v24 := Tryz.zeroValue37
 i9 := by kernel_rfl }
theorem insertA_rows {h : Q3} {a : AVal} {es : List (List AVal)} {x : List AVal} {i rv : Nat} (O : OwnS h 96 2 es a) (M : Mut a) (hes : ∀ e ∈ es, e.length = 2) (hx : x.length = 2) (hi : i <= es.length) (hl : es.length <= 100000) (hrv : h rv = some ⟨.t 96, 2, [x]⟩) (hne : Q8 a ≠ some rv) :
  DCalls (Pg G) 115 [a, Q7 i, .osl rv 2 0 1] h fun r h' => ∃ r', r = .osl r' 2 0 (es.length + 1) /\ h' r' = some ⟨.t 96, 2, insL es i x⟩ /\ (Q8 a = some r' \/ h r' = none) /\ (∀ t o, h t = some o -> Q8 a ≠ some t -> h' t = some o) := by
 refine ⟨⟨_, Tryz.func115, by kernel_rfl, by kernel_rfl⟩, fun g w vs H GR V => ?_⟩
 obtain ⟨va, vi, vv, rfl, ha, hvi, hv⟩ := vrel_three V
 rw [hvi.int_inv]
 obtain ⟨hrl, hszv, hc⟩ := hv.osl_inv
 rcases hc with ⟨_, _, h0, _⟩ | ⟨capv, offv, rfl, hncv, hmv, hiv, hoffv⟩
 ·omega
 have hcv : g.cap rv ≠ 0 := by omega
 obtain ⟨curv, hcurv, hszv, Iv⟩ := rows_block H hrv hcv
 have hov : offv = g.bo rv := by have := hoffv (by omega); omega
 subst hov
 obtain ⟨vs, hvs⟩ : ∃ vs, vs = cellsL curv (g.bo rv) 2 := ⟨_, rfl⟩
 have vl : vs.length = 2 := by rw [hvs]; exact cellsL_len (by omega)
 have cv : ∀ j v, vs[j]? = some v -> w.cell? ⟨g.eta rv, g.bo rv + j, none⟩ = some v := fun j v hj => by
  rw [hvs] at hj
  rw [cell_of_row w _ _ curv _ _ hcurv]; exact (cellsL_some hj).2
 have one1 : ∀ v ∈ vs, v.oneCell' = true := fun v hv => by
  rw [hvs] at hv
  exact Iv.one (by decide) (fun e he => by simp at he; rw [he]; exact hx) (by simp) v hv
 have gvs : ∀ q, q < 2 -> vs[q]? = curv[g.bo rv + q]? := fun q hq => by rw [hvs, cellsL_get, if_pos hq]
 have nx := H.none_nxt
 have insn := insL_len es i x hi
 have insl := insL_all hes hx i
 have one : 0 < 1 := by decide
 have empty : es = [] -> ∀ (A : Option Addr), va = .slice A 0 0 -> Calls Tryz.prog 115 #[va, .int .i64 i, .slice (some ⟨g.eta rv, g.bo rv, none⟩) 1 capv] w fun e w' => ∃ v r h' g', e = .returned v /\ (∃ r', r = .osl r' 2 0 (es.length + 1) /\ h' r' = some ⟨.t 96, 2, insL es i x⟩ /\ (Q8 a = some r' \/ h r' = none) /\ (∀ t o, h t = some o -> Q8 a ≠ some t -> h' t = some o)) /\ HRel h' g' w' /\ VRel g' w' v r /\ GS g w g' w' := by
  intro hl0 A hA
  subst hl0
  obtain rfl : i = 0 := by simpa using hi
  rw [hA]
  refine (insEndGrow2 layinsertA A 0 0 (g.eta rv) (g.bo rv) 1 capv [] vs w (by decide) (by decide) (by decide) (by decide) (by decide) rfl (by rw [vl]) (fun _ => rfl) (fun _ _ j v hj => by simp at hj) cv one1).mono fun e w' ⟨he, hw⟩ => ?_
  have ge := grownCap_ge w (0 + 1) 0 (reninsertA.t 9)
  have gm := grownCap_le_maxLen w (0 + 1) 0 (reninsertA.t 9) (by decide)
  generalize grownCap w (0 + 1) 0 (reninsertA.t 9) = gc at *
  obtain ⟨g', S, H', V'⟩ := new_rows (w' := w') (ty := 96) (sz := 2) (es := [x]) (cap := gc) H (by decide) (by rw [hw]; rfl) (by rw [hw]; rfl) (by rw [hw]; rfl) (by rw [hw]; rfl) (by rw [Array.size_append, size_zeroCells]; show vs.length + (gc - (0 + 1)) * 2 = gc * 2; omega) (fun e he => by simp at he; rw [he]; exact hx) (by simpa using ge) gm (fun k j e y hk hy => by
   have hk0 : k = 0 := by
    have := (List.getElem?_eq_some_iff.1 hk).1
    simpa using this
   subst hk0
   have hj := (List.getElem?_eq_some_iff.1 hy).1
   cases hk
   obtain ⟨u, hu, h1, hV⟩ := Iv 0 j x y rfl hy
   refine ⟨u, ?_, h1, hV⟩
   rw [<- hu, Array.getElem?_append_left (by show _ < vs.length; omega), List.nil_append, List.getElem?_toArray, Nat.zero_add, gvs _ (by omega)])
  refine ⟨_, .osl g.nxt 2 0 1, _, g', he, ⟨g.nxt, rfl, Q2 _ _ _, .inr nx, fun t o ht _ => by rw [Q1 _ _ (fun e => by rw [e, nx] at ht; cases ht)]; exact ht⟩, H', by simpa using V', S⟩
 rcases O.live M with ⟨hl0, rfl⟩ | ⟨r, rs, rfl, hr, hle, hte⟩
 ·obtain ⟨A, hA, _⟩ := ha.emp_inv
  exact empty hl0 A hA
 ·obtain ⟨_, _, hca⟩ := ha.osl_inv
  rcases hca with ⟨hA, _, h0, _⟩ | ⟨c, off, hA, hnc, hm, hic, hoff⟩
  ·exact empty (List.eq_nil_of_length_eq_zero h0) none (by rw [hA])
  ·have hcap : g.cap r = c := by omega
   have hle2 := (H.obj r _ hr).le
   by_cases hc0 : c = 0
   ·have hn0 : es.length = 0 := by omega
    subst hc0
    exact empty (List.eq_nil_of_length_eq_zero hn0) (some ⟨g.eta r, off, none⟩) (by rw [hA, hn0])
   ·have hof : off = g.bo r := by have := hoff (by omega); omega
    subst hof
    have hcr : g.cap r ≠ 0 := by omega
    obtain ⟨cur, hcur, hsz2, I0⟩ := rows_block H hr hcr
    have I : RowsAt 2 g w cur (g.bo r) es := by rw [<- hte]; exact I0.take _
    rw [hA]
    obtain ⟨cs, hcs⟩ : ∃ cs, cs = cellsL cur (g.bo r) (es.length * 2) := ⟨_, rfl⟩
    have cl : cs.length = es.length * 2 := by rw [hcs]; exact cellsL_len (by omega)
    have cg : ∀ j v, cs[j]? = some v -> w.cell? ⟨g.eta r, g.bo r + j, none⟩ = some v := fun j v hj => by
     rw [hcs] at hj
     rw [cell_of_row w _ _ cur _ _ hcur]; exact (cellsL_some hj).2
    have gcs : ∀ q, q < es.length * 2 -> cs[q]? = cur[g.bo r + q]? := fun q hq => by rw [hcs, cellsL_get, if_pos hq]
    have one2 : ∀ v ∈ cs, v.oneCell' = true := fun v hv => by
     rw [hcs] at hv
     exact I.one (by decide) hes (Nat.le_refl _) v hv
    have hnb : g.eta rv ≠ g.eta r := fun e => hne (by rw [H.inj rv r _ _ hrv hr hcv hcr e]; rfl)
    have sp : ∀ j, g.bo r + j < cur.size -> (w.cell? ⟨g.eta r, g.bo r + j, none⟩).isSome = true := fun j hj => by
     rw [cell_of_row w _ _ cur _ _ hcur, Array.getElem?_eq_getElem hj]; rfl
    have fzn : ∀ b k (cu : Array Value) t, w.heap[b]? = some (.cells cu t (0, 0)) -> w.frozen? ⟨b, k, none⟩ = false := fun b k cu t hb => by simp [World.frozen?, hb]
    have kp : ∀ (ob : AObj) t o, h t = some o -> Q8 (.osl r 2 0 es.length) ≠ some t -> upd (del h r) g.nxt (some ob) t = some o := fun ob t o ht hn => by
     rw [Q1 _ _ (fun e => by rw [e, nx] at ht; cases ht)]
     unfold del
     rw [if_neg (fun e => hn (by rw [e]; rfl))]; exact ht
    have kp2 : ∀ (ob : AObj) t o, h t = some o -> Q8 (.osl r 2 0 es.length) ≠ some t -> upd h g.nxt (some ob) t = some o := fun ob t o ht hn => by
     rw [Q1 _ _ (fun e => by rw [e, nx] at ht; cases ht)]; exact ht
    have dl : (cs.drop (i * 2)).length = es.length * 2 - i * 2 := by rw [List.length_drop, cl]
    by_cases hroom : es.length + 1 <= c
    ·by_cases hin : i < es.length
     ·refine (insShift2 layinsertA (g.eta r) (g.bo r) es.length c i (g.eta rv) (g.bo rv) 1 capv cs vs w hin (by decide) hroom (by simp only [maxLen] at hm; omega) hnb cl (by rw [vl]) cg (fun j hj => sp j (by omega)) (fun j _ => fzn _ _ _ _ hcur) cv one2 one1 96 96 curv.size cur.size (by simp [World.shape?, hcurv]) (by simp [World.shape?, hcur]) (by omega) (fzn _ _ _ _ hcurv) (fzn _ _ _ _ hcurv)).mono fun e w' ⟨he, hw⟩ => ?_
      obtain ⟨c1, b1, s1, k1, o1, z1, p1, p2, p3⟩ := K8 (g.eta r) (cs.drop (i * 2)) (g.bo r + (i + 1) * 2) w.drew cur _ _ hcur (by rw [dl]; omega)
      obtain ⟨c2, b2, s2, k2, o2, z2, q1, q2, q3⟩ := K8 (g.eta r) vs (g.bo r + i * 2) (w.drew.setCells (g.eta r) (g.bo r + (i + 1) * 2) (cs.drop (i * 2))) c1 _ _ b1 (by rw [vl]; omega)
      have I2 : RowsAt 2 g w c2 (g.bo r) (insL es i x) := I.ins2 Iv hes hx hi
       (fun q hq => by rw [k2, if_neg (by omega), k1, if_neg (by omega)])
       (fun q hq => by rw [k2, if_pos (by omega), <- gvs q hq]; congr 1; omega)
       (fun q hq => by rw [k2, if_neg (by omega), k1, if_pos (by omega), List.getElem?_drop]; refine (gcs _ (by omega)).trans ?_; congr 1; omega)
      obtain ⟨g', S, H', V'⟩ := put_rows (w' := w') (cur' := c2) H (by decide) hr hcr (by rw [hw]; exact b2) (fun b hb => by rw [hw, o2 b hb, o1 b hb]; rfl) (by rw [hw, z2, z1]; rfl) (by rw [hw, q1, p1]; rfl) (by rw [hw, q2, p2]; rfl) (by rw [hw, q3, p3]; rfl) (by omega) insl (by omega) (by omega) I2
      rw [insn, hcap] at V'
      exact ⟨_, .osl g.nxt 2 0 (es.length + 1), _, g', he, ⟨g.nxt, rfl, Q2 _ _ _, .inr nx, kp _⟩, H', V', S⟩
     ·obtain rfl : i = es.length := by omega
      refine (insEndRoom2 layinsertA (g.eta r) (g.bo r) es.length c (g.eta rv) (g.bo rv) 1 capv vs w (by decide) hroom (by simp only [maxLen] at hm; omega) (by rw [vl]) (fun j hj => by rw [Nat.add_assoc]; exact sp _ (by omega)) (fun j _ => fzn _ _ _ _ hcur) cv one1).mono fun e w' ⟨he, hw⟩ => ?_
      obtain ⟨c2, b2, s2, k2, o2, z2, q1, q2, q3⟩ := K8 (g.eta r) vs (g.bo r + es.length * 2) w cur _ _ hcur (by rw [vl]; omega)
      have I2 : RowsAt 2 g w c2 (g.bo r) (insL es es.length x) := I.ins2 Iv hes hx hi
       (fun q hq => by rw [k2, if_neg (by omega)])
       (fun q hq => by rw [k2, if_pos (by omega), <- gvs q hq]; congr 1; omega)
       (fun q hq => by omega)
      obtain ⟨g', S, H', V'⟩ := put_rows (w' := w') (cur' := c2) H (by decide) hr hcr (by rw [hw]; exact b2) (fun b hb => by rw [hw, o2 b hb]) (by rw [hw, z2]) (by rw [hw, q1]) (by rw [hw, q2]) (by rw [hw, q3]) (by omega) insl (by omega) (by omega) I2
      rw [insn, hcap] at V'
      exact ⟨_, .osl g.nxt 2 0 (es.length + 1), _, g', he, ⟨g.nxt, rfl, Q2 _ _ _, .inr nx, kp _⟩, H', V', S⟩
    ·have ge := grownCap_ge w (es.length + 1) c (reninsertA.t 9)
     have gm := grownCap_le_maxLen w (es.length + 1) c (reninsertA.t 9) (by simp only [maxLen]; omega)
     by_cases hin : i < es.length
     ·refine (insGrow2 layinsertA (by rfl) (g.eta r) (g.bo r) es.length c i (g.eta rv) (g.bo rv) 1 capv cs vs w hin (by decide) hnc (by omega) (by omega) (by omega) cl (by rw [vl]) cg cv one2 one1).mono fun e w' ⟨he, hw⟩ => ?_
      generalize grownCap w (es.length + 1) c (reninsertA.t 9) = gc at *
      have z0 : ∀ k, (Builtin.zeroCells (Value.cells (.agg #[.string ⟨#[]⟩, .string ⟨#[]⟩])) k).size = k * 2 := fun k => by rw [size_zeroCells]; rfl
      rw [show reninsertA.t 9 = 96 from rfl] at hw
      generalize hC0 : ((cs.take (i * 2)).toArray ++ Builtin.zeroCells (Value.cells (.agg #[.string ⟨#[]⟩, .string ⟨#[]⟩])) (es.length + 1 - i) ++ Builtin.zeroCells (Value.cells (.agg #[.string ⟨#[]⟩, .string ⟨#[]⟩])) (gc - (es.length + 1))) = C0 at hw
      have sC : C0.size = gc * 2 := by
       rw [<- hC0, Array.size_append, Array.size_append, z0, z0, List.size_toArray, List.length_take, cl]; omega
      have gC : ∀ q, q < i * 2 -> C0[q]? = cur[g.bo r + q]? := fun q hq => by
       rw [<- hC0, Array.append_assoc, Array.getElem?_append_left (by rw [List.size_toArray, List.length_take, cl]; omega), List.getElem?_toArray, List.getElem?_take, if_pos hq]
       exact gcs q (by omega)
      have hb0 : (w.alloc (.cells C0 96)).drew.heap[w.heap.size]? = some (.cells C0 96 (0, 0)) := K4 w _
      obtain ⟨c1, b1, s1, k1, o1, z1, p1, p2, p3⟩ := K8 w.heap.size vs (i * 2) (w.alloc (.cells C0 96)).drew C0 _ _ hb0 (by rw [vl]; omega)
      obtain ⟨c2, b2, s2, k2, o2, z2, q1, q2, q3⟩ := K8 w.heap.size (cs.drop (i * 2)) ((i + 1) * 2) ((w.alloc (.cells C0 96)).drew.setCells w.heap.size (i * 2) vs).drew c1 _ _ b1 (by rw [dl]; omega)
      have I2 : RowsAt 2 g w c2 0 (insL es i x) := I.ins2 Iv hes hx hi
       (fun q hq => by rw [Nat.zero_add, k2, if_neg (by omega), k1, if_neg (by omega), gC q hq])
       (fun q hq => by rw [Nat.zero_add, k2, if_neg (by omega), k1, if_pos (by omega), <- gvs q hq]; congr 1; omega)
       (fun q hq => by rw [Nat.zero_add, k2, if_pos (by omega), List.getElem?_drop]; refine (gcs _ (by omega)).trans ?_; congr 1; omega)
      have hp : w'.heap = (w.alloc (.cells c2 96)).heap := by
       rw [hw]
       apply Array.ext_getElem?
       intro b
       by_cases hb : b = w.heap.size
       ·subst hb; rw [b2]; exact (K4 w _).symm
       ·rw [o2 b hb]
        refine (o1 b hb).trans ?_
        show (w.heap.push _)[b]? = (w.heap.push _)[b]?
        rw [Array.getElem?_push, Array.getElem?_push, if_neg hb, if_neg hb]
      obtain ⟨g', S, H', V'⟩ := new_rows (w' := w') (cap := gc) H (by decide) hp (by rw [hw, q1]; exact p1) (by rw [hw, q2]; exact p2) (by rw [hw, q3]; exact p3) (by omega) insl (by omega) gm I2
      rw [insn] at V'
      exact ⟨_, .osl g.nxt 2 0 (es.length + 1), _, g', he, ⟨g.nxt, rfl, Q2 _ _ _, .inr nx, kp2 _⟩, H', V', S⟩
     ·obtain rfl : i = es.length := by omega
      refine (insEndGrow2 layinsertA (some ⟨g.eta r, g.bo r, none⟩) es.length c (g.eta rv) (g.bo rv) 1 capv cs vs w (by decide) hnc (by omega) (by omega) (by omega) cl (by rw [vl]) (fun h => by cases h) (fun a ha j v hj => by cases ha; rw [Addr.add_lit]; exact cg j v hj) cv one1).mono fun e w' ⟨he, hw⟩ => ?_
      generalize grownCap w (es.length + 1) c (reninsertA.t 9) = gc at *
      have z0 : ∀ k, (Builtin.zeroCells (Value.cells (.agg #[.string ⟨#[]⟩, .string ⟨#[]⟩])) k).size = k * 2 := fun k => by rw [size_zeroCells]; rfl
      obtain ⟨g', S, H', V'⟩ := new_rows (w' := w') (ty := 96) (sz := 2) (es := insL es es.length x) (cap := gc) H (by decide) (by rw [hw]; rfl) (by rw [hw]; rfl) (by rw [hw]; rfl) (by rw [hw]; rfl) (by rw [Array.size_append, z0, List.size_toArray, List.length_append, cl, vl]; omega) insl (by omega) gm
       (I.ins2 Iv hes hx hi
        (fun q hq => by rw [Nat.zero_add, Array.getElem?_append_left (by rw [List.size_toArray, List.length_append, cl, vl]; omega), List.getElem?_toArray, List.getElem?_append_left (by omega)]; exact gcs q hq)
        (fun q hq => by rw [Nat.zero_add, Array.getElem?_append_left (by rw [List.size_toArray, List.length_append, cl, vl]; omega), List.getElem?_toArray, List.getElem?_append_right (by omega), cl, <- gvs q hq]; congr 1; omega)
        (fun q hq => by omega))
      rw [insn] at V'
      exact ⟨_, .osl g.nxt 2 0 (es.length + 1), _, g', he, ⟨g.nxt, rfl, Q2 _ _ _, .inr nx, kp2 _⟩, H', V', S⟩
theorem insertA_ok {h : Q3} {a : AVal} {l : List HAttr} {x : HAttr} {i rv : Nat} (O : OwnS h 96 2 (l.map Z7) a) (M : Mut a) (hi : i <= l.length) (hl : l.length <= 100000) (hrv : h rv = some ⟨.t 96, 2, [Z7 x]⟩) (hne : Q8 a ≠ some rv) :
  DCalls (Pg G) 115 [a, Q7 i, .osl rv 2 0 1] h fun r h' => ∃ r', r = .osl r' 2 0 (l.length + 1) /\ h' r' = some ⟨.t 96, 2, (insL l i x).map Z7⟩ /\ (Q8 a = some r' \/ h r' = none) /\ (∀ t o, h t = some o -> Q8 a ≠ some t -> h' t = some o) := by
 have := insertA_rows (G := G) O M (fun e he => by obtain ⟨y, _, rfl⟩ := List.mem_map.1 he; rfl) (x := Z7 x) rfl (by simpa using hi) (by simpa using hl) hrv hne
 rw [List.length_map, insL_map] at this
 exact this
end Go.Proofs.K
end
section
set_option linter.unusedSimpArgs false
set_option linter.unusedVariables false
namespace Go.Proofs.K
open Go Go.Sim Go.Proofs
variable {G : ZQ}
theorem keepR_same (rd : List Nat) (rs : List (Nat × Nat)) (h : Q3) : keepR rd rs h h = True := eq_true fun _ _ _ => rfl
def c84 : SFun := ⟨.seq (.reg [o 3 (.boxF 44 16 (.t 1)), o 4 (.mv (.c (.bool false)))]) (.seq (.reg [o 6 (.mv (.t 0)), o 7 (.fldA 0 (.t 3)), o 8 (.fldA 1 (.t 7)), o 9 (.ld 1 false (.t 8)), o 10 (.call (.c (.fn 114 [] [])) [.t 6, .t 9]), o 5 (.mv (.t 10))]) (.seq (.seq (.dreg [(o 11 (.mv (.t 5)), none), (o 12 (.isnil 1 false (.t 11)), (some [])), (o 13 (.mv (.t 12)), none), (⟨some 14, .mv (.t 5), some (13, false)⟩, none), (⟨some 15, .fldA 0 (.t 14), some (13, false)⟩, none), (⟨some 16, .fldA 0 (.t 15), some (13, false)⟩, none), (⟨some 17, .ld 1 false (.t 16), some (13, false)⟩, none), (⟨some 18, .bin .neq (.t 17) (.c (.int .i64 2)), some (13, false)⟩, none), (o 19 (.pick (.t 13) (.c (.bool true)) (.t 18)), none), (o 20 (.mv (.t 19)), none), (⟨some 21, .fldA 15 (.t 3), some (20, false)⟩, none), (⟨some 22, .ld 1 false (.t 21), some (20, false)⟩, none), (⟨some 23, .bin .lss (.t 22) (.c (.int .i64 0)), some (20, false)⟩, none), (o 24 (.pick (.t 20) (.c (.bool true)) (.t 23)), none), (o 25 (.mv (.t 24)), none), (⟨some 26, .fldA 15 (.t 3), some (25, false)⟩, none), (⟨some 27, .ld 1 false (.t 26), some (25, false)⟩, none), (⟨some 28, .mv (.t 5), some (25, false)⟩, none), (⟨some 29, .fldA 0 (.t 28), some (25, false)⟩, none), (⟨some 30, .fldA 2 (.t 29), some (25, false)⟩, none), (⟨some 31, .ld 1 false (.t 30), some (25, false)⟩, none), (⟨some 32, .len (.t 31), some (25, false)⟩, none), (⟨some 33, .bin .gtr (.t 27) (.t 32), some (25, false)⟩, none), (o 34 (.pick (.t 25) (.c (.bool true)) (.t 33)), none), (o 35 (.mv (.t 34)), none), (⟨some 36, .mv (.t 5), some (35, false)⟩, none), (⟨some 37, .fldA 0 (.t 36), some (35, false)⟩, none), (⟨some 38, .fldA 2 (.t 37), some (35, false)⟩, none), (⟨some 39, .ld 1 false (.t 38), some (35, false)⟩, none), (⟨some 40, .fldA 0 (.t 3), some (35, false)⟩, none), (⟨some 41, .fldA 4 (.t 40), some (35, false)⟩, none), (⟨some 42, .ld 1 false (.t 41), some (35, false)⟩, none), (⟨some 43, .call (.c (.fn 113 [] [])) [.t 39, .t 42], some (35, false)⟩, (some [39, 42, 27, 31, 22, 17])), (⟨some 44, .bin .geq (.t 43) (.c (.int .i64 0)), some (35, false)⟩, none), (o 45 (.pick (.t 35) (.c (.bool true)) (.t 44)), none)]) (.cond (.t 45) (.seq (.reg [o 4 (.mv (.c (.bool false)))]) .ret) .skip)) (.seq (.dreg [(o 46 (.mv (.t 5)), none), (o 47 (.mv (.t 5)), none), (o 48 (.fldA 0 (.t 47)), none), (o 49 (.fldA 2 (.t 48)), none), (o 50 (.ld 1 false (.t 49)), none), (o 51 (.fldA 15 (.t 3)), none), (o 52 (.ld 1 false (.t 51)), none), (o 53 (.fldA 0 (.t 3)), none), (o 54 (.fldA 4 (.t 53)), none), (o 55 (.ld 1 false (.t 54)), none), (o 56 (.fldA 13 (.t 3)), none), (o 57 (.ld 1 false (.t 56)), none), (o 58 (.bld [.str [], .str []] [(0, (1, (.t 55))), (1, (1, (.t 57)))]), none), (o 59 (.bldR 96 2 [.t 58]), (some [55, 57])), (o 60 (.call (.c (.fn 115 [] [])) [.t 50, .t 52, .t 59]), (some [50, 52, 55, 57])), (o 61 (.fldA 0 (.t 46)), none), (o 62 (.fldA 2 (.t 61)), none), (⟨none, .st 1 (.t 62) (.t 60), none⟩, (some [50, 52, 55, 57]))]) (.seq (.reg [o 4 (.mv (.c (.bool true)))]) .ret)))), [.tmp 4]⟩
theorem hc84 : X6 Tryz.prog {how := [(59, 2)]} Tryz.f84 = some c84 := by kernel_rfl
theorem udropped_ok {h0 h : Q3} {re rN : Nat} {d : HDoc} {n k0 : Nat} {sl : Nat -> AVal} (E : Un h0 h re rN d n sl) (hn : n <= 100000) (U : USm k0 (headD d n)) (hk0 : k0 <= 1000) (s : HStep) (hdo : s.edit.do' = 2) : DCalls (Pg G) 84 [.vp re 0, .agg (Z9 s)] h (UnR h0 h re (headD d n) s) := by
 have gN := E.dw.nodes
 have le := E.le
 have hE := unode_ok (G := G) E hn s.edit.at'
 unfold nodeU at hE
 have eF : Y3 (headD d n) s ↔ (0 <= s.edit.at' /\ s.edit.at' < n) /\ (nd (headD d n) s.edit.at').kind = 2 /\ 0 <= s.place /\ s.place <= (nd (headD d n) s.edit.at').attrs.length /\ ¬ 0 <= Z4 (nd (headD d n) s.edit.at').attrs s.edit.name := by
  unfold Y3; rw [if_neg (by omega), if_pos hdo, inD_head le]
 have eD : U2 (headD d n) s = setN (headD d n) s.edit.at' { nd (headD d n) s.edit.at' with attrs := J9 (nd (headD d n) s.edit.at').attrs s.place.toNat ⟨s.edit.name, s.was⟩ } := by unfold U2; rw [if_neg (by omega), if_pos hdo]
 refine Q4 Tryz.func84 (by kernel_rfl) hc84 (by rw [Tryz.ntmps84]; simp) (by rw [Tryz.ntmps84]; decide) ?_
 simp -dsimp -implicitDefEqProofs (disch := omega) only [VCA, Nat.reduceEqDiff, Nat.reduceAdd, Nat.reduceLeDiff, ↓reduceIte, reduceCtorEq, c84, Z9]
 by_cases hm : 0 <= s.edit.at' /\ s.edit.at' < n
 ·rw [if_pos hm] at hE
  have hn' : s.edit.at'.toNat < d.nodes.length := by omega
  have gk := Y2 (sl := sl) hn'
  have rl := Y5 d sl
  have nh : nd (headD d n) s.edit.at' = nd d s.edit.at' := nd_head (by omega)
  have e0 : nth d.nodes s.edit.at'.toNat = nd d s.edit.at' := rfl
  have al := U.attrs s.edit.at'
  rw [e0] at gk
  rw [nh] at eF eD al
  obtain ⟨oA, oK⟩ := E.dw.own _ hn'
  rw [e0] at oA
  have oL := oA.len.1
  have oL2 := oA.len.2
  rw [List.length_map] at oL
  have hP := rplace_own (G := G) oA s.edit.name (by omega)
  have lv := E.live (2 * s.edit.at'.toNat) (by omega)
  unfold X1 at gk
  by_cases hb : Y3 (headD d n) s
  ·obtain ⟨_, f2, f3, f4, f5⟩ := eF.1 hb
   have pl : ((s.place.toNat : Nat) : Int) = s.place := by omega
   have nr0 : ∀ t, Q8 (sl (2 * s.edit.at'.toNat)) = some t -> t ≠ rN := fun t ht => (E.root_ne (by omega) ht).1
   have hIns : ∀ rv, h rv = none -> _ := fun rv (hrv : h rv = none) => insertA_ok (G := G) (x := ⟨s.edit.name, s.was⟩) (i := s.place.toNat) ((E.aside hrv ⟨.t 96, 2, [Z7 ⟨s.edit.name, s.was⟩]⟩).dw.own _ hn').1 lv (by rw [e0]; omega) (by rw [e0]; omega) (Q2 _ _ _) (fun h => by obtain ⟨o, ho⟩ := E.dw.slot (k := 2 * s.edit.at'.toNat) (by omega) h; rw [hrv] at ho; cases ho)
   rw [e0] at hIns
   unfold Z7 at hIns
   rw [pl] at hIns
   have ln := insL_len (nd d s.edit.at').attrs s.place.toNat (⟨s.edit.name, s.was⟩ : HAttr) (by omega)
   repeat' (first | ((with_reducible refine brC (fun _ => ?_) fun _ => ?_) <;> try (exfalso; omega)) | ((refine DCalls.of hE ?_; rintro _ hh ⟨rfl, rfl⟩)) | ((refine DCalls.of hP ?_; rintro _ hh ⟨rfl, rfl⟩)) | (with_reducible refine And.intro ?_ ?_; · omega) | simp -dsimp -implicitDefEqProofs (disch := omega) only [↓Z3 13, ↓Z3 20, ↓Z3 25, ↓Z3 35, VCA, Nat.reduceEqDiff, Nat.reduceBEq, Nat.reduceAdd, Nat.reduceLeDiff, ↓reduceIte, J6, Q5, SOp.rd, SI.rd, SX.rd, rdL, Y1, X4, Y0, forall_const, exists_eq_left', Z8, lit_eq, gN, gk, rl, oL, oL2, f2, keepR_same])
   all_goals try (exfalso; omega)
   intro rv hrv
   have nr : ¬ rN = rv := fun h => by rw [<- h, gN] at hrv; cases hrv
   have E1 := E.aside hrv ⟨.t 96, 2, [[.str s.edit.name, .str s.was]]⟩
   have gN1 := E1.dw.nodes
   have I2 := hIns rv hrv
   repeat' (first | ((with_reducible refine brC (fun _ => ?_) fun _ => ?_) <;> try (exfalso; omega)) | ((refine DCalls.of I2 ?_; rintro _ h9 ⟨r', rfl, hr', hf, kp⟩)) | (with_reducible refine And.intro ?_ ?_; · omega) | simp -dsimp -implicitDefEqProofs (disch := omega) only [VCA, Nat.reduceEqDiff, Nat.reduceBEq, Nat.reduceAdd, ↓reduceIte, J6, Q5, SOp.rd, SI.rd, SX.rd, rdL, Z0, Z8, nr, gN])
   have gN9 := kp rN _ gN1 (fun h => nr0 _ h rfl)
   repeat' (first | ((with_reducible refine brC (fun _ => ?_) fun _ => ?_) <;> try (exfalso; omega)) | (with_reducible refine And.intro ?_ ?_; · omega) | simp -dsimp -implicitDefEqProofs (disch := omega) only [VCA, Nat.reduceAdd, Nat.reduceLeDiff, exists_eq_left', gN9, gk, rl])
   have hO : OwnS h9 96 2 ((insL (nd d s.edit.at').attrs s.place.toNat ⟨s.edit.name, s.was⟩).map Z7) (.osl r' 2 0 ((nd d s.edit.at').attrs.length + 1)) :=
    .inr (.inr ⟨r', _, by rw [List.length_map, ln], hr', Nat.le_refl _, List.take_length (l := List.map Z7 (insL (nd d s.edit.at').attrs s.place.toNat ⟨s.edit.name, s.was⟩))⟩)
   have E2 := E1.slotA hn' (l' := insL (nd d s.edit.at').attrs s.place.toNat ⟨s.edit.name, s.was⟩) kp hO (fun es e => by cases e) (fun t ht => by cases ht; exact hf)
   exact ⟨_, Sub.refl _, UnR.good hb E2 (by rw [eD]; exact set_head)⟩
  ·have hx : (nd d s.edit.at').kind = 2 -> 0 <= s.place -> s.place <= (nd d s.edit.at').attrs.length -> 0 <= Z4 (nd d s.edit.at').attrs s.edit.name := fun q1 q2 q3 => Classical.byContradiction fun q4 => hb (eF.2 ⟨hm, q1, q2, q3, q4⟩)
   repeat' (first | ((with_reducible refine brC (fun _ => ?_) fun _ => ?_) <;> try (exfalso; omega)) | ((refine DCalls.of hE ?_; rintro _ hh ⟨rfl, rfl⟩)) | ((refine DCalls.of hP ?_; rintro _ hh ⟨rfl, rfl⟩)) | (with_reducible refine And.intro ?_ ?_; · omega) | simp -dsimp -implicitDefEqProofs (disch := omega) only [↓Z3 13, ↓Z3 20, ↓Z3 25, ↓Z3 35, VCA, Nat.reduceEqDiff, Nat.reduceBEq, Nat.reduceAdd, Nat.reduceLeDiff, ↓reduceIte, J6, Q5, SOp.rd, SI.rd, SX.rd, rdL, exists_eq_left', Z8, gN, gk, rl, oL, oL2, keepR_same])
   all_goals first | (exfalso; omega) | exact ⟨_, Sub.refl _, UnR.bad hb⟩ | (exfalso; have := hx (by omega) (by omega) (by omega); omega) | trace_state
 ·rw [if_neg hm] at hE
  have hb : ¬ Y3 (headD d n) s := fun h => hm (eF.1 h).1
  refine DCalls.of hE ?_
  rintro _ hh ⟨rfl, rfl⟩
  repeat' (first | ((with_reducible refine brC (fun _ => ?_) fun _ => ?_) <;> try (exfalso; omega)) | (with_reducible refine And.intro ?_ ?_; · omega) | simp -dsimp -implicitDefEqProofs (disch := omega) only [↓Z3 13, ↓Z3 20, ↓Z3 25, ↓Z3 35, VCA, Nat.reduceEqDiff, ↓reduceIte, J6, Q5, SOp.rd, SI.rd, SX.rd, rdL, Z8, keepR_same])
  all_goals exact ⟨_, Sub.refl _, UnR.bad hb⟩
theorem undone_ok (s : HStep) (hs : StepSm s) : UndoneOK G s := fun {h0 h re rN d n sl k} E U hk => by
 by_cases h2 : s.edit.do' = 2
 ·have hn : n <= 100000 := by have := U.len; rw [JU E.le] at this; omega
  have hT := udropped_ok (G := G) E hn U hk s h2
  have b1 : (s.edit.do' == 1) = false := by simp [h2]
  have b2 : (s.edit.do' == 2) = true := by simp [h2]
  refine Q4 Tryz.func46 hn46 hc46 (by rw [Tryz.ntmps46]; simp) (by rw [Tryz.ntmps46]; decide) ?_
  unfold Z9 at *
  simp -dsimp -implicitDefEqProofs (disch := omega) only [VCA, Nat.reduceEqDiff, Nat.reduceAdd, Nat.reduceLeDiff, ↓reduceIte, reduceCtorEq, c46, b1, b2]
  refine DCalls.of hT ?_
  intro r h' hR
  simp -dsimp -implicitDefEqProofs (disch := omega) only [VCA, ↓reduceIte]
  exact ⟨_, Sub.refl _, hR⟩
 ·exact undone_rest s hs h2 E U hk
def K3 (l : List HStep) : List HEdit := l.map (·.edit)
def zEd : List AVal := [.int .i64 0, .int .i64 0, .int .i64 0, .int .i64 0, .str [], .str [], .int .i64 0, .str [], .emp, .str [], .int .i64 0, .emp]
theorem zEd_len : zEd.length = 12 := rfl
def XJ (l : List HStep) (k : Nat) : List (List AVal) := (l.take k).map (fun s => Z1 s.edit) ++ List.replicate (l.length - k) zEd
theorem redoRow_len {l : List HStep} {k : Nat} (hk : k <= l.length) : (XJ l k).length = l.length := by
 unfold XJ; rw [List.length_append, List.length_map, List.length_take, List.length_replicate]; omega
theorem redoRow_set {l : List HStep} {k : Nat} (hk : k < l.length) : (XJ l k).set k (Z1 (nth l k).edit) = XJ l (k + 1) := by
 unfold XJ
 have e : nth l k = l[k] := by unfold nth; rw [List.getD_eq_getElem?_getD, List.getElem?_eq_getElem hk]; rfl
 have ht : l.take (k + 1) = l.take k ++ [nth l k] := by rw [e, List.take_succ_eq_append_getElem hk]
 have hr : List.replicate (l.length - k) zEd = zEd :: List.replicate (l.length - (k + 1)) zEd := by
  rw [show l.length - k = (l.length - (k + 1)) + 1 by omega, List.replicate_succ]
 rw [ht, hr, List.map_append, List.append_assoc, List.set_append_right _ _ (by rw [List.length_map, List.length_take]; omega)]
 rw [List.length_map, List.length_take, Nat.min_eq_left (by omega), Nat.sub_self]
 rfl
theorem redoRow_get {l : List HStep} {k : Nat} (hk : k < l.length) : (XJ l k).getD k [] = zEd := by
 unfold XJ
 rw [List.getD_eq_getElem?_getD, List.getElem?_append_right (by rw [List.length_map, List.length_take]; omega), List.length_map, List.length_take, Nat.min_eq_left (by omega), Nat.sub_self,
  show l.length - k = (l.length - (k + 1)) + 1 by omega, List.replicate_succ]
 rfl
theorem redoRow_end (l : List HStep) : XJ l l.length = (K3 l).map Z1 := by
 unfold XJ K3; rw [List.take_length, Nat.sub_self, List.replicate_zero, List.append_nil, List.map_map]; rfl
def c18 : SFun := ⟨.seq (.reg [o 2 (.boxF 24 2 (.t 0)), o 4 (.new 24 2 [.emp, .bool false]), o 5 (.mv (.c (.int .i64 0)))]) (.seq (.reg [o 12 (.mv (.t 1)), o 13 (.len (.t 12)), o 14 (.mks 42 12 160 [.int .i64 0, .int .i64 0, .int .i64 0, .int .i64 0, .str [], .str [], .int .i64 0, .str [], .emp, .str [], .int .i64 0, .emp] (.t 13) (.t 13)), o 6 (.mv (.t 14))]) (.seq (.seq (.reg [o 15 (.mv (.t 1)), o 16 (.len (.t 15)), o 17 (.mv (.c (.int .i64 0)))]) (.block 0 (.loop (.seq (.reg [o 18 (.bin .lss (.t 17) (.t 16))]) (.seq (.cond (.t 18) .skip (.exit 0)) (.seq (.block 1 (.seq (.reg [o 19 (.mv (.t 17)), o 20 (.idxA 16 (.t 15) (.t 17)), o 21 (.ld 16 true (.t 20)), o 8 (.new 44 16 [.int .i64 0, .int .i64 0, .int .i64 0, .int .i64 0, .str [], .str [], .int .i64 0, .str [], .emp, .str [], .int .i64 0, .emp, .bool false, .str [], .int .i64 0, .int .i64 0]), o 7 (.mv (.t 19)), ⟨none, .st 16 (.t 8) (.t 21), none⟩]) (.reg [o 22 (.mv (.t 6)), o 23 (.mv (.t 7)), o 24 (.fldA 0 (.t 8)), o 25 (.ld 12 true (.t 24)), o 26 (.idxA 12 (.t 22) (.t 23)), ⟨none, .st 12 (.t 26) (.t 25), none⟩]))) (.reg [o 27 (.bin .add (.t 17) (.c (.int .i64 1))), o 17 (.mv (.t 27))]))))))) (.seq (.reg [o 29 (.ld 2 true (.t 2)), o 30 (.frz (.t 6)), o 31 (.pcall 38 [.t 29, .t 30]), o 28 (.mv (.t 31)), o 32 (.ext (.t 28) 0), o 33 (.ext (.t 28) 1), o 34 (.ext (.t 28) 2), o 9 (.new 24 2 [.emp, .bool false]), ⟨none, .st 2 (.t 9) (.t 32), none⟩, o 10 (.mv (.t 33)), o 11 (.mv (.t 34))]) (.seq (.reg [o 35 (.ld 2 true (.t 9)), o 36 (.mv (.t 11)), ⟨none, .st 2 (.t 4) (.t 35), none⟩, o 5 (.mv (.t 36))]) .ret)))), [.cell 4 2 true, .tmp 5]⟩
theorem hc18 : X6 Tryz.prog {pure := [38], how := [(30, 8)]} Tryz.f18 = some c18 := by kernel_rfl
theorem redo_ok (d : HDoc) (sm : DocSm d) (l : List HStep) (hl : ∀ s ∈ l, StepSm s) (ll : l.length <= 100000) : PCalls (Pg G) 18 [.agg (Z2 d), sl Z9 l] (.tup [.agg (Z2 (W9 d (K3 l)).1), Q7 (W9 d (K3 l)).2.2]) := fun h => by
 have hAll := all_ok (G := G) d sm (K3 l) (fun e he => by obtain ⟨s, hs, rfl⟩ := List.mem_map.1 he; exact (hl s hs).edit) (by unfold K3; rw [List.length_map]; omega)
 unfold allV at hAll
 have hAll2 : PCalls (Pg G) 38 [.agg (Z2 d), .slc ((K3 l).map Z1)] (.tup [.agg (Z2 (W9 d (K3 l)).1), Q7 (W9 d (K3 l)).2.1, Q7 (W9 d (K3 l)).2.2]) := hAll
 have rs := redoRow_end l
 have el : (K3 l).length = l.length := by unfold K3; rw [List.length_map]
 refine Q4 Tryz.func18 (by kernel_rfl) hc18 (by rw [Tryz.ntmps18]; simp) (by rw [Tryz.ntmps18]; decide) ?_
 simp -dsimp -implicitDefEqProofs (disch := omega) only [VCA, ↓Y4, Nat.reduceEqDiff, ↓reduceIte, ne_eq, c18, J1]
 intro r4 hr4
 repeat' (first | ((with_reducible refine brC (fun _ => ?_) fun _ => ?_) <;> try (exfalso; omega)) | (with_reducible refine And.intro ?_ ?_; · omega) | simp -dsimp -implicitDefEqProofs (disch := omega) only [VCA, pg_gl, ↓Y4, Nat.reduceEqDiff, Nat.reduceBEq, Nat.reduceAdd, Nat.reduceSub, Nat.reduceMul, Nat.reduceLT, Nat.reduceLeDiff, ↓reduceIte, reduceCtorEq, J6, Q5, SOp.rd, SI.rd, SX.rd, rdL, rdO, rdP, Y1, U6, K9, X4, Y0, Z0, implies_true, forall_const, forall_eq, ne_eq, exists_eq_right_right, exists_eq_right, exists_eq_left, exists_eq_left', Z8, J8, eBool, lit_eq, J1, J4, eDoc_drop, List.append_nil])
 intro r14 hr14
 have n1 : ¬ r14 = r4 := hr14.1
 have n2 : ¬ r4 = r14 := fun q => n1 q.symm
 refine LoopVC.intro (fun m E h' => ∃ k : Nat, k <= l.length /\ m = l.length - k /\ E 2 = .pin (Z2 d) /\ E 4 = .vp r4 0 /\ E 6 = .osl r14 12 0 l.length /\ E 15 = sl Z9 l /\ E 16 = Q7 l.length /\ E 17 = Q7 k /\ h' r14 = some ⟨.t 42, 12, XJ l k⟩ /\ h' r4 = some ⟨.t 24, 2, [[.emp, .bool false]]⟩ /\ Sub h h') l.length
  ⟨0, by omega, by omega, rfl, rfl, ?_, rfl, rfl, rfl, ?_, ?_, ((Sub.refl h).upd hr4).upd hr14.2⟩ ?_
 ·simp [Sim.upd]
 ·rw [Q2]; unfold XJ zEd; simp
 ·rw [Q1 _ _ n2, Q2]
 rintro m E h' ⟨k, hk, rfl, E2, E4, E6, E15, E16, E17, g14, g4, S⟩
 simp -dsimp -implicitDefEqProofs (disch := omega) only [VCA, ↓reduceIte, E16, E17]
 refine Br.dec (fun hlt => ?_) (fun hge => ?_)
 ·have hk' : k < l.length := by omega
  have rl := redoRow_len (l := l) (k := k) (by omega)
  have rg := redoRow_get hk'
  have rset := redoRow_set hk'
  obtain ⟨x, hxx⟩ : ∃ x, nth l k = x := ⟨_, rfl⟩
  rw [hxx] at rset
  have ex : (Z9 x).take 12 = Z1 x.edit := rfl
  repeat' (first | ((with_reducible refine brC (fun _ => ?_) fun _ => ?_) <;> try (exfalso; omega)) | (with_reducible refine And.intro ?_ ?_; · omega) | simp -dsimp -implicitDefEqProofs (disch := omega) only [VCA, Nat.reduceEqDiff, Nat.reduceAdd, Nat.reduceLT, Nat.reduceLeDiff, ↓reduceIte, Z0, exists_eq_left', E2, E4, E6, E15, E16, E17, hxx, XV, eStep_all])
  intro r8 hr8
  have j1 : ¬ r14 = r8 := fun q => by rw [<- q, g14] at hr8; cases hr8
  have j2 : ¬ r8 = r14 := fun q => j1 q.symm
  have j3 : ¬ r4 = r8 := fun q => by rw [<- q, g4] at hr8; cases hr8
  repeat' (first | ((with_reducible refine brC (fun _ => ?_) fun _ => ?_) <;> try (exfalso; omega)) | (with_reducible refine And.intro ?_ ?_; · omega) | simp -dsimp -implicitDefEqProofs (disch := omega) only [VCA, ↓reduceIte, exists_eq_left', ex, eEdit_len, g14, j1, j3, n2, rl, rg, zEd_len, show List.drop 12 zEd = [] from rfl])
  refine ⟨_, by omega, k + 1, by omega, rfl, by omega, by rw [rset], g4, (S.upd (S.none hr8)).upd hr14.2⟩
 ·obtain rfl : k = l.length := by omega
  rw [rs] at g14
  have n3 : ((K3 l).map Z1).take l.length = (K3 l).map Z1 := by rw [<- el, <- List.length_map (f := Z1), List.take_length]
  have n4 : ((K3 l).map Z1).length = l.length := by rw [List.length_map, el]
  have d4 : del h' r14 r4 = some ⟨.t 24, 2, [[.emp, .bool false]]⟩ := by unfold Sim.del; rw [if_neg n2]; exact g4
  repeat' (first | ((with_reducible refine brC (fun _ => ?_) fun _ => ?_) <;> try (exfalso; omega)) | (with_reducible apply pcallE.of; · exact hAll2) | (with_reducible refine And.intro ?_ ?_; · omega) | simp -dsimp -implicitDefEqProofs (disch := omega) only [VCA, Nat.reduceEqDiff, Nat.reduceAdd, Nat.reduceLT, ↓reduceIte, Z0, exists_eq_right_right, exists_eq_left', E2, E4, E6, g14, d4, n3, n4, J1, J4])
  intro r9 hr9
  have m1 : ¬ r4 = r9 := fun q => by rw [<- q, d4] at hr9; cases hr9
  have Sd : Sub h (del h' r14) := S.del hr14.2
  repeat' (first | ((with_reducible refine brC (fun _ => ?_) fun _ => ?_) <;> try (exfalso; omega)) | (with_reducible refine And.intro ?_ ?_; · omega) | simp -dsimp -implicitDefEqProofs (disch := omega) only [VCA, Nat.reduceAdd, Nat.reduceLT, ↓reduceIte, exists_eq_left', m1, J1, J4])
  all_goals first | exact (Sd.upd (Sd.none hr9)).upd hr4 | exact ⟨(Sd.upd (Sd.none hr9)).upd hr4, rfl⟩ | trace_state
def rowsK (d : HDoc) (sl : Nat -> AVal) (k : Nat) : List (List AVal) := (List.range k).map fun i => X1 (nth d.nodes i) (sl (2 * i)) (sl (2 * i + 1))
theorem rowsK_len (d : HDoc) (sl : Nat -> AVal) (k : Nat) : (rowsK d sl k).length = k := by simp [rowsK]
theorem rowsK_cong {d : HDoc} {sl sl' : Nat -> AVal} {k : Nat} (h : ∀ j, j < 2 * k -> sl' j = sl j) : rowsK d sl' k = rowsK d sl k := by
 unfold rowsK
 apply List.map_congr_left
 intro i hi
 rw [List.mem_range] at hi
 rw [h _ (by omega), h _ (by omega)]
structure Cp (X : List Nat) (h h' : Q3) (d : HDoc) (k : Nat) (b : AVal) (sl : Nat -> AVal) : Prop where
 sub : Sim.Sub h h'
 nodes : (k = 0 /\ b = .emp) \/ ∃ rN, b = .osl rN 6 0 k /\ h rN = none /\ rN ∉ X /\ h' rN = some ⟨.t 40, 6, rowsK d sl k⟩
 own : ∀ i, i < k -> OwnS h' 96 2 ((nth d.nodes i).attrs.map Z7) (sl (2 * i)) /\ OwnS h' 3 1 ((nth d.nodes i).kids.map J8) (sl (2 * i + 1))
 fresh : ∀ j, j < 2 * k -> ∀ r, Q8 (sl j) = some r -> h r = none /\ Q8 b ≠ some r /\ r ∉ X
 sep : ∀ i j, i < 2 * k -> j < 2 * k -> i ≠ j -> ∀ r, Q8 (sl i) = some r -> Q8 (sl j) ≠ some r
 live : ∀ i, i < k -> Mut (sl (2 * i))
 keep : ∀ r ∈ X, h r = none /\ ∃ o, h' r = some o
section
variable {X : List Nat} {h h' : Q3} {d : HDoc} {k : Nat} {b : AVal} {sl : Nat -> AVal}
theorem Cp.slot (C : Cp X h h' d k b sl) {j : Nat} (hj : j < 2 * k) {r : Nat} (hr : Q8 (sl j) = some r) : ∃ o, h' r = some o := by
 obtain ⟨g1, g2⟩ := C.own (j / 2) (by omega)
 rcases (by omega : j = 2 * (j / 2) \/ j = 2 * (j / 2) + 1) with e | e
 ·rw [e] at hr; exact g1.root hr
 ·rw [e] at hr; exact g2.root hr
theorem Cp.base (C : Cp X h h' d k b sl) {r : Nat} (hr : Q8 b = some r) : h r = none /\ r ∉ X /\ ∃ o, h' r = some o := by
 rcases C.nodes with ⟨_, e⟩ | ⟨rN, e, h1, h2, h3⟩
 ·rw [e] at hr; cases hr
 ·rw [e] at hr; cases hr; exact ⟨h1, h2, _, h3⟩
theorem Cp.rows (C : Cp X h h' d k b sl) : OwnS h' 40 6 (rowsK d sl k) b /\ Mut b := by
 rcases C.nodes with ⟨e0, e⟩ | ⟨rN, e, h1, h2, h3⟩
 ·exact ⟨.inl ⟨by rw [e0]; rfl, e⟩, fun es q => by rw [e] at q; cases q⟩
 ·exact ⟨.inr (.inr ⟨rN, _, by rw [rowsK_len, e], h3, Nat.le_refl _, by rw [List.take_length]⟩), fun es q => by rw [e] at q; cases q⟩
theorem Cp.other (C : Cp X h h' d k b sl) {r : Nat} (hr : r ∈ X) (o : AObj) : Cp X h (upd h' r (some o)) d k b sl := by
 have ne : ∀ j, j < 2 * k -> ∀ t, Q8 (sl j) = some t -> t ≠ r := fun j hj t ht e => (C.fresh j hj t ht).2.2 (e ▸ hr)
 refine ⟨C.sub.upd (C.keep r hr).1, ?_, fun i hi => ?_, C.fresh, C.sep, C.live, fun t ht => ⟨(C.keep t ht).1, ?_⟩⟩
 ·rcases C.nodes with e | ⟨rN, e, h1, h2, h3⟩
  ·exact .inl e
  ·exact .inr ⟨rN, e, h1, h2, by rw [Q1 _ _ (fun q => h2 (by rw [q]; exact hr))]; exact h3⟩
 ·obtain ⟨g1, g2⟩ := C.own i hi
  exact ⟨g1.keep fun t o ht ho => by rw [Q1 _ _ (ne _ (by omega) t ht)]; exact ho, g2.keep fun t o ht ho => by rw [Q1 _ _ (ne _ (by omega) t ht)]; exact ho⟩
 ·by_cases e : t = r
  ·rw [e]; exact ⟨_, Q2 _ _ _⟩
  ·rw [Q1 _ _ e]; exact (C.keep t ht).2
theorem Cp.snoc (C : Cp X h h' d k b sl) {h2 h3 : Q3} {a1 a2 : AVal} {r' : Nat} (S2 : Sim.Sub h' h2)
  (O1 : OwnS h2 96 2 ((nth d.nodes k).attrs.map Z7) a1) (O2 : OwnS h2 3 1 ((nth d.nodes k).kids.map J8) a2) (M1 : Mut a1)
  (f1 : ∀ r, Q8 a1 = some r -> h' r = none) (f2 : ∀ r, Q8 a2 = some r -> h' r = none) (ne : ∀ r, Q8 a1 = some r -> Q8 a2 ≠ some r)
  (q1 : h3 r' = some ⟨.t 40, 6, rowsK d sl k ++ [X1 (nth d.nodes k) a1 a2]⟩) (q2 : Q8 b = some r' \/ h2 r' = none) (q3 : ∀ t o, h2 t = some o -> Q8 b ≠ some t -> h3 t = some o) :
  Cp X h h3 d (k + 1) (.osl r' 6 0 (k + 1)) (upd (upd sl (2 * k) a1) (2 * k + 1) a2) := by
 obtain ⟨sl', hsl⟩ : ∃ sl', sl' = upd (upd sl (2 * k) a1) (2 * k + 1) a2 := ⟨_, rfl⟩
 rw [<- hsl]
 have so : ∀ j, j < 2 * k -> sl' j = sl j := fun j hj => by rw [hsl, Q1 _ _ (by omega), Q1 _ _ (by omega)]
 have s1 : sl' (2 * k) = a1 := by rw [hsl, Q1 _ _ (by omega), Q2]
 have s2 : sl' (2 * k + 1) = a2 := by rw [hsl, Q2]
 have Sh2 : Sim.Sub h h2 := C.sub.trans S2
 have key : ∀ j, j < 2 * (k + 1) -> ∀ r, Q8 (sl' j) = some r -> (∃ o, h2 r = some o) /\ h r = none /\ Q8 b ≠ some r /\ r ∉ X := by
  intro j hj r hr
  have new : h' r = none -> (∃ o, h2 r = some o) -> (∃ o, h2 r = some o) /\ h r = none /\ Q8 b ≠ some r /\ r ∉ X := fun hn ho =>
   ⟨ho, C.sub.none hn, fun e => (by obtain ⟨_, _, o, q⟩ := C.base e; rw [hn] at q; cases q), fun e => (by obtain ⟨_, o, q⟩ := C.keep r e; rw [hn] at q; cases q)⟩
  by_cases j1 : j < 2 * k
  ·rw [so j j1] at hr
   obtain ⟨o, ho⟩ := C.slot j1 hr
   obtain ⟨g1, g2, g3⟩ := C.fresh j j1 r hr
   exact ⟨⟨o, S2 _ _ ho⟩, g1, g2, g3⟩
  ·by_cases j2 : j = 2 * k
   ·rw [j2, s1] at hr; exact new (f1 r hr) (O1.root hr)
   ·rw [show j = 2 * k + 1 by omega, s2] at hr; exact new (f2 r hr) (O2.root hr)
 have ner : ∀ j, j < 2 * (k + 1) -> ∀ r, Q8 (sl' j) = some r -> r' ≠ r := fun j hj r hr e => by
  obtain ⟨⟨o, ho⟩, _, g2, _⟩ := key j hj r hr
  rcases q2 with q | q
  ·exact g2 (e ▸ q)
  ·rw [e, ho] at q; cases q
 have hr' : h r' = none /\ r' ∉ X := by
  rcases q2 with q | q
  ·exact ⟨(C.base q).1, (C.base q).2.1⟩
  ·exact ⟨Sh2.none q, fun e => by obtain ⟨_, o, ho⟩ := C.keep r' e; rw [S2 _ _ ho] at q; cases q⟩
 have S3 : Sim.Sub h h3 := fun t o ht => q3 t o (Sh2 t o ht) (fun e => by rw [(C.base e).1] at ht; cases ht)
 have rk : rowsK d sl' (k + 1) = rowsK d sl k ++ [X1 (nth d.nodes k) a1 a2] := by
  rw [<- rowsK_cong so]
  unfold rowsK
  rw [List.range_succ, List.map_append, List.map_cons, List.map_nil, s1, s2]
 refine ⟨S3, .inr ⟨r', rfl, hr'.1, hr'.2, by rw [rk]; exact q1⟩, fun i hi => ?_, fun j hj r hr => ⟨(key j hj r hr).2.1, fun e => ner j hj r hr (by cases e; rfl), (key j hj r hr).2.2.2⟩, fun i j hi hj hne r hr hr2 => ?_, fun j hj => ?_, fun r hr => ⟨(C.keep r hr).1, ?_⟩⟩
 ·have kp : ∀ j, j < 2 * (k + 1) -> ∀ r o, Q8 (sl' j) = some r -> h2 r = some o -> h3 r = some o := fun j hj r o hr ho => q3 r o ho (key j hj r hr).2.2.1
  by_cases hk : i < k
  ·obtain ⟨g1, g2⟩ := C.own i hk
   refine ⟨?_, ?_⟩
   ·have := so (2 * i) (by omega)
    rw [this]
    exact (g1.keep fun r o _ ho => S2 _ _ ho).keep fun r o hr ho => kp (2 * i) (by omega) r o (by rw [this]; exact hr) ho
   ·have := so (2 * i + 1) (by omega)
    rw [this]
    exact (g2.keep fun r o _ ho => S2 _ _ ho).keep fun r o hr ho => kp (2 * i + 1) (by omega) r o (by rw [this]; exact hr) ho
  ·obtain rfl : i = k := by omega
   rw [s1, s2]
   exact ⟨O1.keep fun r o hr ho => kp (2 * i) (by omega) r o (by rw [s1]; exact hr) ho, O2.keep fun r o hr ho => kp (2 * i + 1) (by omega) r o (by rw [s2]; exact hr) ho⟩
 ·-- which are which
  have cls : ∀ j, j < 2 * (k + 1) -> ∀ r, Q8 (sl' j) = some r -> (j < 2 * k /\ Q8 (sl j) = some r /\ ∃ o, h' r = some o) \/ (j = 2 * k /\ Q8 a1 = some r /\ h' r = none) \/ (j = 2 * k + 1 /\ Q8 a2 = some r /\ h' r = none) := fun j hj r hr => by
   by_cases j1 : j < 2 * k
   ·rw [so j j1] at hr; exact .inl ⟨j1, hr, C.slot j1 hr⟩
   ·by_cases j2 : j = 2 * k
    ·rw [j2, s1] at hr; exact .inr (.inl ⟨j2, hr, f1 r hr⟩)
    ·rw [show j = 2 * k + 1 by omega, s2] at hr; exact .inr (.inr ⟨by omega, hr, f2 r hr⟩)
  rcases cls i hi r hr with ⟨i1, i2, o, i3⟩ | ⟨i1, i2, i3⟩ | ⟨i1, i2, i3⟩ <;> rcases cls j hj r hr2 with ⟨j1, j2, o', j3⟩ | ⟨j1, j2, j3⟩ | ⟨j1, j2, j3⟩
  ·exact C.sep i j i1 j1 hne r i2 j2
  ·rw [i3] at j3; cases j3
  ·rw [i3] at j3; cases j3
  ·rw [i3] at j3; cases j3
  ·omega
  ·exact ne r i2 j2
  ·rw [i3] at j3; cases j3
  ·exact ne r j2 i2
  ·omega
 ·by_cases j1 : j < k
  ·rw [so _ (by omega)]; exact C.live j j1
  ·rw [show j = k by omega, s1]; exact M1
 ·obtain ⟨_, o, ho⟩ := C.keep r hr
  exact ⟨o, q3 r o (S2 _ _ ho) (fun e => (C.base e).2.1 hr)⟩
theorem Cp.dw {rN : Nat} (C : Cp [] h h' d d.nodes.length (.osl rN 6 0 d.nodes.length) sl) (hp : 0 < d.nodes.length) : Dw [] h h' rN d sl := by
 have hN : h rN = none /\ h' rN = some ⟨.t 40, 6, Y9 d sl⟩ := by
  rcases C.nodes with ⟨e, _⟩ | ⟨rN', e, h1, h2, h3⟩
  ·omega
  ·cases e; exact ⟨h1, h3⟩
 exact ⟨C.sub, hN.2, ⟨hN.1, by simp⟩, C.own, fun j hj r hr => ⟨(C.fresh j hj r hr).1, fun e => (C.fresh j hj r hr).2.1 (by rw [e]; rfl), by simp⟩, C.sep, fun r hr => by cases hr⟩
theorem Cp.less {Y : List Nat} (C : Cp X h h' d k b sl) (hY : ∀ r ∈ Y, r ∈ X) : Cp Y h h' d k b sl := by
 refine ⟨C.sub, ?_, C.own, fun j hj r hr => ⟨(C.fresh j hj r hr).1, (C.fresh j hj r hr).2.1, fun e => (C.fresh j hj r hr).2.2 (hY r e)⟩, C.sep, C.live, fun r hr => C.keep r (hY r hr)⟩
 rcases C.nodes with e | ⟨rN, e, h1, h2, h3⟩
 ·exact .inl e
 ·exact .inr ⟨rN, e, h1, fun q => h2 (hY _ q), h3⟩
end
namespace Own
def c59 : SFun := ⟨.seq (.reg [o 1 (.boxF 24 2 (.t 0)), o 2 (.new 24 2 [.emp, .bool false])]) (.seq (.reg [o 6 (.fldA 1 (.t 1)), o 7 (.ld 1 false (.t 6)), o 8 (.bld [.emp, .bool false] [(1, (1, (.t 7)))]), o 3 (.new 24 2 [.emp, .bool false]), ⟨none, .st 2 (.t 3) (.t 8), none⟩]) (.seq (.seq (.reg [o 4 (.mv (.c (.int .i64 0)))]) (.block 0 (.loop (.seq (.seq (.reg [o 9 (.mv (.t 4)), o 10 (.fldA 0 (.t 1)), o 11 (.ld 1 false (.t 10)), o 12 (.len (.t 11)), o 13 (.bin .lss (.t 9) (.t 12))]) (.cond (.t 13) .skip (.exit 0))) (.seq (.block 1 (.seq (.reg [o 16 (.fldA 0 (.t 1)), o 17 (.ld 1 false (.t 16)), o 18 (.mv (.t 4)), o 19 (.idxA 6 (.t 17) (.t 18)), o 20 (.ld 6 true (.t 19)), o 5 (.new 40 6 [.int .i64 0, .str [], .emp, .str [], .int .i64 0, .emp]), ⟨none, .st 6 (.t 5) (.t 20), none⟩]) (.seq (.reg [o 21 (.bldF 96 2 []), o 22 (.fldA 2 (.t 5)), o 23 (.ld 1 false (.t 22)), o 24 (.app 96 2 32 (.t 21) (.t 23)), o 25 (.fldA 2 (.t 5)), ⟨none, .st 1 (.t 25) (.t 24), none⟩]) (.seq (.reg [o 26 (.bldF 3 1 []), o 27 (.fldA 5 (.t 5)), o 28 (.ld 1 false (.t 27)), o 29 (.appF 3 1 8 (.t 26) (.t 28)), o 30 (.fldA 5 (.t 5)), ⟨none, .st 1 (.t 30) (.t 29), none⟩]) (.reg [o 31 (.fldA 0 (.t 3)), o 32 (.ld 1 false (.t 31)), o 33 (.ld 6 true (.t 5)), o 34 (.bldF 40 6 [.t 33]), o 35 (.app 40 6 96 (.t 32) (.t 34)), o 36 (.fldA 0 (.t 3)), ⟨none, .st 1 (.t 36) (.t 35), none⟩]))))) (.reg [o 14 (.mv (.t 4)), o 15 (.bin .add (.t 14) (.c (.int .i64 1))), o 4 (.mv (.t 15))])))))) (.seq (.reg [o 37 (.ld 2 true (.t 3)), ⟨none, .st 2 (.t 2) (.t 37), none⟩]) .ret))), [.cell 2 2 true]⟩
theorem hc59 : X6 Tryz.prog {how := [(29, 8)]} Tryz.f59 = some c59 := by kernel_rfl
theorem hn59 : (Tryz.f59.name == "runtime.NumGoroutine") = false := by kernel_rfl
theorem copyDoc_own (d : HDoc) (sm : DocSm d) (h : Q3) : DCalls (Pg G) 59 [.agg (Z2 d)] h fun a h' => ∃ b sl', a = .agg [b, .bool d.quirks] /\ Cp [] h h' d d.nodes.length b sl' /\ (∀ i, i < d.nodes.length -> sl' (2 * i + 1) = sl J8 (nth d.nodes i).kids) /\ (d.nodes.length = 0 -> b = .emp) := by
 have hl := sm.len
 refine Q4 Tryz.func59 hn59 hc59 (by rw [Tryz.ntmps59]; simp) (by rw [Tryz.ntmps59]; decide) ?_
 simp -dsimp -implicitDefEqProofs (disch := omega) only [VCA, ↓Y4, Nat.reduceEqDiff, Nat.reduceAdd, Nat.reduceLT, ↓reduceIte, X4, Y0, Z0, ne_eq, exists_eq_left', Z2, c59, Z2]
 intro r2 hr2 r3 hr3
 have n32 : r3 ≠ r2 := hr3.1
 have g2 : ∀ x y, (upd (upd h r2 (some x)) r3 (some y)) r2 = some x := fun x y => by rw [Q1 _ _ (fun e => n32 e.symm), Q2]
 refine LoopVC.intro (fun m e h' => ∃ (k : Nat) (b : AVal) (sl' : Nat -> AVal), k <= d.nodes.length /\ m = d.nodes.length - k /\ e 1 = .pin (Z2 d) /\ e 2 = .vp r2 0 /\ e 3 = .vp r3 0 /\ e 4 = Q7 k /\ Cp [r2, r3] h h' d k b sl' /\
  h' r2 = some ⟨.t 24, 2, [[.emp, .bool false]]⟩ /\ h' r3 = some ⟨.t 24, 2, [[b, .bool d.quirks]]⟩ /\ (∀ i, i < k -> sl' (2 * i + 1) = sl J8 (nth d.nodes i).kids) /\ (k = 0 -> b = .emp)) d.nodes.length
  ⟨0, .emp, fun _ => .emp, by omega, by omega, rfl, rfl, rfl, rfl, ⟨((Sub.refl h).upd hr2).upd hr3.2, .inl ⟨rfl, rfl⟩, fun i hi => by omega, fun j hj => by omega, fun j i hj => by omega, fun j hj => by omega, fun r hr => by
   simp at hr
   rcases hr with rfl | rfl
   ·exact ⟨hr2, _, g2 _ _⟩
   ·exact ⟨hr3.2, _, Q2 _ _ _⟩⟩, g2 _ _, Q2 _ _ _, fun i hi => by omega, fun _ => rfl⟩ ?_
 rintro m e h' ⟨k, b, sl', hk, rfl, he1, he2, he3, he4, C, k2, k3, dat, dz⟩
 simp -dsimp -implicitDefEqProofs (disch := omega) only [VCA, Nat.reduceEqDiff, Nat.reduceAdd, Nat.reduceLeDiff, ↓reduceIte, Z2, he1, he4]
 refine Br.dec (fun hlt => ?_) (fun hge => ?_)
 ·have hk' : k < d.nodes.length := by omega
  have sx := sm.nth k
  have sa := sx.attrs
  have sk := sx.kids
  simp -dsimp -implicitDefEqProofs (disch := omega) only [VCA, ↓Y4, Nat.reduceEqDiff, Nat.reduceAdd, Nat.reduceLT, Nat.reduceLeDiff, ↓reduceIte, Y1, Z0, forall_eq, ne_eq, exists_eq_left, exists_eq_left', Z2, he1, he3, he4, k3, Q9]
  refine ⟨by omega, fun r5 hr5 => ⟨by omega, by omega, fun rA hrA => ?_⟩⟩
  have n35 : ¬ r3 = r5 := fun e => by rw [<- e, k3] at hr5; cases hr5
  have n25 : ¬ r2 = r5 := fun e => by rw [<- e, k2] at hr5; cases hr5
  have n3A : ¬ r3 = rA := fun e => by rw [<- e, k3] at hrA; cases hrA.2
  have n2A : ¬ r2 = rA := fun e => by rw [<- e, k2] at hrA; cases hrA.2
  have n5A : ¬ r5 = rA := fun e => hrA.1 e.symm
  have nA5 : ¬ rA = r5 := hrA.1
  simp -dsimp -implicitDefEqProofs (disch := omega) only [VCA, Nat.reduceAdd, Nat.reduceLT, Nat.reduceLeDiff, ↓reduceIte, exists_eq_left, exists_eq_left', n35, n3A, n5A]
  refine ⟨by omega, by omega, ?_⟩
  obtain ⟨O, MB⟩ := C.rows
  obtain ⟨h5, hh5⟩ : ∃ h5, h5 = upd (upd (upd h' r5 (some ⟨.t 40, 6, [Q9 (nth d.nodes k)]⟩)) rA (some ⟨.t 96, 2, (nth d.nodes k).attrs.map Z7⟩)) r5 (some ⟨.t 40, 6, [X1 (nth d.nodes k) (.osl rA 2 0 (nth d.nodes k).attrs.length) (sl J8 (nth d.nodes k).kids)]⟩) := ⟨_, rfl⟩
  show Hd (appE 40 6 96 b [X1 (nth d.nodes k) (.osl rA 2 0 (nth d.nodes k).attrs.length) (sl J8 (nth d.nodes k).kids)] (upd (upd (upd h' r5 (some ⟨.t 40, 6, [Q9 (nth d.nodes k)]⟩)) rA (some ⟨.t 96, 2, (nth d.nodes k).attrs.map Z7⟩)) r5 (some ⟨.t 40, 6, [X1 (nth d.nodes k) (.osl rA 2 0 (nth d.nodes k).attrs.length) (sl J8 (nth d.nodes k).kids)]⟩))) _ _
  rw [<- hh5]
  have k5 : ∀ t o, h' t = some o -> h5 t = some o := fun t o ht => by
   have t5 : t ≠ r5 := fun e => by rw [e, hr5] at ht; cases ht
   have tA : t ≠ rA := fun e => by rw [e, hrA.2] at ht; cases ht
   rw [hh5, Q1 _ _ t5, Q1 _ _ tA, Q1 _ _ t5]; exact ht
  have gA : h5 rA = some ⟨.t 96, 2, (nth d.nodes k).attrs.map Z7⟩ := by rw [hh5, Q1 _ _ nA5, Q2]
  refine (O.keep fun r o _ ho => k5 r o ho).app MB (by rw [rowsK_len, List.length_singleton]; omega) (by rw [rowsK_len, List.length_singleton]; omega) fun r' h2 q1 q2 q3 => ?_
  rw [rowsK_len, List.length_singleton]
  have C' := C.snoc (k := k) (h2 := h5) (h3 := h2) (a1 := .osl rA 2 0 (nth d.nodes k).attrs.length) (a2 := sl J8 (nth d.nodes k).kids) (r' := r') k5
   (.inr (.inr ⟨rA, _, by rw [List.length_map], gA, Nat.le_refl _, by rw [List.take_length]⟩)) (.inr (.inl ⟨rfl, fun e he => by obtain ⟨x, _, rfl⟩ := List.mem_map.1 he; rfl⟩)) (fun es e => by cases e)
   (fun r hr => by cases hr; exact hrA.2) (fun r hr => by cases hr) (fun r _ hr => by cases hr) q1 q2 q3
  have nb3 : Q8 b ≠ some r3 := fun e => (C.base e).2.1 (by simp)
  have nb2 : Q8 b ≠ some r2 := fun e => (C.base e).2.1 (by simp)
  have k32 := q3 _ _ (k5 _ _ k3) nb3
  have k22 := q3 _ _ (k5 _ _ k2) nb2
  simp -dsimp -implicitDefEqProofs (disch := omega) only [VCA, Nat.reduceEqDiff, Nat.reduceAdd, Nat.reduceLT, Nat.reduceLeDiff, ↓reduceIte, Z0, exists_eq_left', Z2, he1, he2, he3, he4, k32, k22]
  refine ⟨_, by omega, k + 1, .osl r' 6 0 (k + 1), _, by omega, rfl, by omega, C'.other (r := r3) (by simp) _, by rw [if_neg (fun e => n32 e.symm)], rfl, fun i hi => ?_, fun q => by omega⟩
  by_cases hik : i < k
  ·rw [Q1 _ _ (by omega), Q1 _ _ (by omega)]; exact dat i hik
  ·obtain rfl : i = k := by omega
   exact Q2 _ _ _
 ·simp -dsimp -implicitDefEqProofs (disch := omega) only [VCA, Nat.reduceEqDiff, Nat.reduceAdd, Nat.reduceLT, ↓reduceIte, Z0, exists_eq_left', he2, he3, k2, k3]
  obtain rfl : k = d.nodes.length := by omega
  exact ⟨_, Sub.refl _, b, sl', rfl, (C.other (r := r2) (by simp) _).less (by simp), dat, dz⟩
end Own
end Go.Proofs.K
end
section
set_option linter.unusedSimpArgs false
set_option linter.unusedVariables false
namespace Go.Proofs.K
open Go Go.Sim Go.Proofs
variable {G : ZQ}
def UndoneR (G : ZQ) (s : HStep) : Prop := ∀ (D : HDoc) (k : Nat), USm k D -> k <= 1000 -> PCalls (Pg G) 49 [.agg (Z2 D), .agg (Z9 s)] (.tup [.agg (Z2 (if Y3 D s then U2 D s else D)), .bool (decide (Y3 D s))])
def c17 : SFun := ⟨.seq (.reg [o 2 (.box 24 2 (.t 0)), o 4 (.new 24 2 [.emp, .bool false]), o 5 (.mv (.c (.int .i64 0)))]) (.seq (.reg [o 10 (.ld 2 true (.t 2)), o 11 (.pcall 48 [.t 10]), o 6 (.mv (.t 11))]) (.seq (.seq (.reg [o 12 (.mv (.t 6)), o 13 (.bin .eql (.t 12) (.c (.int .i64 0))), o 14 (.mv (.t 13)), ⟨some 15, .mv (.t 1), some (14, true)⟩, ⟨some 16, .len (.t 15), some (14, true)⟩, ⟨some 17, .bin .gtr (.t 16) (.c (.int .i64 40)), some (14, true)⟩, o 18 (.pick (.t 14) (.t 17) (.c (.bool false)))]) (.cond (.t 18) (.reg [o 6 (.mv (.c (.int .i64 2)))]) .skip)) (.seq (.seq (.reg [o 19 (.mv (.t 6)), o 20 (.bin .neq (.t 19) (.c (.int .i64 0)))]) (.cond (.t 20) (.seq (.reg [o 21 (.bld [.emp, .bool false] []), o 22 (.mv (.t 6)), ⟨none, .st 2 (.t 4) (.t 21), none⟩, o 5 (.mv (.t 22))]) .ret) .skip)) (.seq (.seq (.reg [o 23 (.mv (.t 1)), o 24 (.len (.t 23)), o 25 (.bin .sub (.t 24) (.c (.int .i64 1))), o 7 (.mv (.t 25))]) (.block 0 (.loop (.seq (.seq (.reg [o 26 (.mv (.t 7)), o 27 (.bin .geq (.t 26) (.c (.int .i64 0)))]) (.cond (.t 27) .skip (.exit 0))) (.seq (.block 1 (.seq (.dreg [(o 31 (.ld 2 true (.t 2)), none), (o 32 (.mv (.t 1)), none), (o 33 (.mv (.t 7)), none), (o 34 (.idxA 16 (.t 32) (.t 33)), none), (o 35 (.ld 16 true (.t 34)), none), (o 36 (.pcall 49 [.t 31, .t 35]), none), (o 30 (.mv (.t 36)), none), (o 37 (.ext (.t 30) 0), none), (o 38 (.ext (.t 30) 1), none), (o 8 (.new 24 2 [.emp, .bool false]), (some [])), (⟨none, .st 2 (.t 8) (.t 37), none⟩, (some [31, 35])), (o 9 (.mv (.t 38)), none)]) (.seq (.seq (.reg [o 39 (.mv (.t 9)), o 40 (.un .not (.t 39))]) (.cond (.t 40) (.seq (.reg [o 41 (.bld [.emp, .bool false] []), ⟨none, .st 2 (.t 4) (.t 41), none⟩, o 5 (.mv (.c (.int .i64 9)))]) .ret) .skip)) (.reg [o 42 (.ld 2 true (.t 8)), ⟨none, .st 2 (.t 2) (.t 42), none⟩])))) (.reg [o 28 (.mv (.t 7)), o 29 (.bin .sub (.t 28) (.c (.int .i64 1))), o 7 (.mv (.t 29))])))))) (.seq (.seq (.reg [o 43 (.ld 2 true (.t 2)), o 44 (.pcall 48 [.t 43]), o 45 (.bin .neq (.t 44) (.c (.int .i64 0)))]) (.cond (.t 45) (.seq (.reg [o 46 (.bld [.emp, .bool false] []), ⟨none, .st 2 (.t 4) (.t 46), none⟩, o 5 (.mv (.c (.int .i64 9)))]) .ret) .skip)) (.seq (.reg [o 47 (.ld 2 true (.t 2)), ⟨none, .st 2 (.t 4) (.t 47), none⟩, o 5 (.mv (.c (.int .i64 0)))]) .ret)))))), [.cell 4 2 true, .tmp 5]⟩
theorem hc17 : X6 Tryz.prog {pure := [48, 49], how := [(2, 6)]} Tryz.f17 = some c17 := by kernel_rfl
theorem recordUndo_of (d : HDoc) (sm : DocSm d) (l : List HStep) (hl : ∀ s ∈ l, StepSm s) (ll : l.length <= 1073741824) (hU : ∀ s ∈ l, UndoneR G s) : PCalls (Pg G) 17 [.agg (Z2 d), sl Z9 l] (undoV d l) := PCalls.outV fun h => by
 unfold undoV
 have hD := docErr_ok (G := G) d sm
 refine Q4 Tryz.func17 (by kernel_rfl) hc17 (by rw [Tryz.ntmps17]; simp) (by rw [Tryz.ntmps17]; decide) ?_
 simp -dsimp -implicitDefEqProofs (disch := omega) only [VCA, ↓Y4, Nat.reduceEqDiff, ↓reduceIte, ne_eq, c17, J1]
 intro r2 hr2 r4 hr4
 have n1 : ¬ r4 = r2 := hr4.1
 have n2 : ¬ r2 = r4 := fun q => n1 q.symm
 by_cases h0 : T6 d = 0
 ·have V := docE_DV h0
  rw [h0] at hD
  by_cases h40 : 40 < l.length
  ·have uE : QV d l = 2 := by unfold QV; rw [if_neg (by simpa using h0), if_pos h40]
   have uR : QW d l = QK := by unfold QW; rw [uE]; rfl
   rw [uE, uR]
   repeat' (first | ((with_reducible refine brC (fun _ => ?_) fun _ => ?_) <;> try (exfalso; omega)) | (with_reducible apply pcallE.of; · exact hD) | (with_reducible refine And.intro ?_ ?_; · omega) | simp -dsimp -implicitDefEqProofs (disch := omega) only [↓Q0 14, VCA, Nat.reduceEqDiff, Nat.reduceAdd, Nat.reduceLT, ↓reduceIte, X4, Y0, Z0, exists_eq_left', n2, J1, J4])
   all_goals first | (exfalso; omega) | exact ⟨_, Sub.refl _, ((Sub.refl h).upd hr2).upd hr4.2, .tup' (.cons (K7 _) (.cons (.refl _) .nil))⟩ | trace_state
  ·repeat' (first | ((with_reducible refine brC (fun _ => ?_) fun _ => ?_) <;> try (exfalso; omega)) | (with_reducible apply pcallE.of; · exact hD) | (with_reducible refine And.intro ?_ ?_; · omega) | simp -dsimp -implicitDefEqProofs (disch := omega) only [↓Q0 14, VCA, Nat.reduceEqDiff, Nat.reduceLT, ↓reduceIte, exists_eq_left', n2, J1, J4])
   all_goals try (exfalso; omega)
   refine LoopVC.intro (fun m E h' => ∃ (k : Nat) (D : HDoc), k <= l.length /\ m = l.length - k /\ E 1 = sl Z9 l /\ E 2 = .vp r2 0 /\ E 4 = .vp r4 0 /\ E 7 = Q7 ((l.length : Int) - 1 - k) /\ h' r2 = some ⟨.t 24, 2, [Z2 D]⟩ /\ h' r4 = some ⟨.t 24, 2, [[.emp, .bool false]]⟩ /\ Sub h h' /\ USm k D /\ YU d (l.reverse.take k) = some D) l.length
    ⟨0, d, by omega, by omega, rfl, rfl, rfl, ?_, ?_, ?_, ((Sub.refl h).upd hr2).upd hr4.2, V.usm sm, rfl⟩ ?_
   ·simp [Sim.upd]
   ·simp only [upd, n2, if_true, if_false]
   ·simp only [upd, n1, if_true, if_false]
   rintro m E h' ⟨k, D, hk, rfl, E1, E2, E4, E7, g2, g4, S, U, hM⟩
   simp -dsimp -implicitDefEqProofs (disch := omega) only [VCA, ↓reduceIte, E7]
   refine Br.dec (fun hlt => ?_) (fun hge => ?_)
   ·have hk' : k < l.length := by omega
    have hidx : l.length - 1 - k < l.length := by omega
    have i1 : ((l.length : Int) - 1 - k).toNat = l.length - 1 - k := by omega
    obtain ⟨x, hxx⟩ : ∃ x, nth l (l.length - 1 - k) = x := ⟨_, rfl⟩
    have hxm : x ∈ l := hxx ▸ W5 hidx
    have hs := hl x hxm
    have hV := hU x hxm D k U (by omega)
    have hrev : l.reverse.take (k + 1) = l.reverse.take k ++ [x] := by
     have e : l.reverse[k]'(by simpa using hk') = x := by
      rw [List.getElem_reverse, <- hxx]
      unfold nth; rw [List.getD_eq_getElem?_getD, List.getElem?_eq_getElem hidx]; rfl
     rw [<- e, List.take_succ_eq_append_getElem (by simpa using hk')]
    by_cases hf : Y3 D x
    ·rw [if_pos hf, decide_eq_true hf] at hV
     repeat' (first | ((with_reducible refine brC (fun _ => ?_) fun _ => ?_) <;> try (exfalso; omega)) | (with_reducible apply pcallE.of; · exact hV) | (with_reducible refine And.intro ?_ ?_; · omega) | simp -dsimp -implicitDefEqProofs (disch := omega) only [VCA, Nat.reduceEqDiff, Nat.reduceBEq, Nat.reduceAdd, Nat.reduceLT, ↓reduceIte, J6, Q5, SOp.rd, SI.rd, SX.rd, Z0, forall_const, exists_eq_left', Z8, E1, E2, E4, E7, i1, hxx, g2, g4, XV, eStep_all, J1, J4])
     intro r8 hr8
     have j1 : ¬ r2 = r8 := fun q => by rw [<- q, g2] at hr8; cases hr8
     have j2 : ¬ r4 = r8 := fun q => by rw [<- q, g4] at hr8; cases hr8
     repeat' (first | ((with_reducible refine brC (fun _ => ?_) fun _ => ?_) <;> try (exfalso; omega)) | (with_reducible refine And.intro ?_ ?_; · omega) | simp -dsimp -implicitDefEqProofs (disch := omega) only [VCA, Nat.reduceLT, ↓reduceIte, exists_eq_left', j1, j2, n1, J1, eDoc_drop])
     exact ⟨_, by omega, k + 1, U2 D x, by omega, rfl, by omega, rfl, (S.upd (S.none hr8)).upd hr2, U.undo hs (by omega) hf, by rw [hrev, backM_app, hM]; exact if_pos hf⟩
    ·rw [if_neg hf, decide_eq_false hf] at hV
     repeat' (first | ((with_reducible refine brC (fun _ => ?_) fun _ => ?_) <;> try (exfalso; omega)) | (with_reducible apply pcallE.of; · exact hV) | (with_reducible refine And.intro ?_ ?_; · omega) | simp -dsimp -implicitDefEqProofs (disch := omega) only [VCA, Nat.reduceEqDiff, Nat.reduceBEq, Nat.reduceAdd, Nat.reduceLT, ↓reduceIte, J6, Q5, SOp.rd, SI.rd, SX.rd, X4, Y0, Z0, forall_const, exists_eq_left', Z8, E1, E2, E4, E7, i1, hxx, g2, g4, XV, eStep_all, J1, J4])
     intro r8 hr8
     have j1 : ¬ r2 = r8 := fun q => by rw [<- q, g2] at hr8; cases hr8
     have j2 : ¬ r4 = r8 := fun q => by rw [<- q, g4] at hr8; cases hr8
     have uB : YU d l.reverse = none := by
      rw [<- List.take_append_drop (k + 1) l.reverse]
      exact backM_none _ _ _ (by rw [hrev, backM_app, hM]; exact if_neg hf)
     have uE : QV d l = 9 := by unfold QV; rw [if_neg (by simpa using h0), if_neg h40, uB]
     have uR : QW d l = QK := by unfold QW; rw [uE]; rfl
     rw [uE, uR]
     repeat' (first | ((with_reducible refine brC (fun _ => ?_) fun _ => ?_) <;> try (exfalso; omega)) | (with_reducible refine And.intro ?_ ?_; · omega) | simp -dsimp -implicitDefEqProofs (disch := omega) only [VCA, Nat.reduceAdd, Nat.reduceLT, ↓reduceIte, exists_eq_left', j1, j2])
     exact ⟨_, Sub.refl _, (S.upd (S.none hr8)).upd hr4.2, .tup' (.cons (K7 _) (.cons (.refl _) .nil))⟩
   ·obtain rfl : k = l.length := by omega
    rw [show l.length = l.reverse.length by simp, List.take_length] at hM
    have hD2 := docErr_ok (G := G) D U.sm
    by_cases hC : T6 D = 0
    ·have uE : QV d l = 0 := by unfold QV; rw [if_neg (by simpa using h0), if_neg h40, hM]; simp [hC]
     have uR : QW d l = D := by unfold QW; rw [uE, if_pos rfl, hM]; rfl
     rw [uE, uR]
     rw [hC] at hD2
     repeat' (first | ((with_reducible refine brC (fun _ => ?_) fun _ => ?_) <;> try (exfalso; omega)) | (with_reducible apply pcallE.of; · exact hD2) | (with_reducible refine And.intro ?_ ?_; · omega) | simp -dsimp -implicitDefEqProofs (disch := omega) only [VCA, Nat.reduceEqDiff, Nat.reduceAdd, Nat.reduceLT, ↓reduceIte, Z0, exists_eq_left', E2, E4, g2, g4, J1, J4])
     all_goals first | exact ⟨_, Sub.refl _, S.upd hr4.2, .tup' (.cons (.refl _) (.cons (.refl _) .nil))⟩ | trace_state
    ·have uE : QV d l = 9 := by unfold QV; rw [if_neg (by simpa using h0), if_neg h40, hM]; simp [hC]
     have uR : QW d l = QK := by unfold QW; rw [uE]; rfl
     rw [uE, uR]
     have bC : (T6 D != 0) = true := by simpa using hC
     repeat' (first | ((with_reducible refine brC (fun _ => ?_) fun _ => ?_) <;> try (exfalso; omega)) | (with_reducible apply pcallE.of; · exact hD2) | (with_reducible refine And.intro ?_ ?_; · omega) | simp -dsimp -implicitDefEqProofs (disch := omega) only [VCA, Nat.reduceEqDiff, Nat.reduceAdd, Nat.reduceLT, ↓reduceIte, X4, Y0, Z0, exists_eq_left', E2, E4, g2, g4, bC, J1, J4])
     all_goals first | exact ⟨_, Sub.refl _, S.upd hr4.2, .tup' (.cons (K7 _) (.cons (.refl _) .nil))⟩ | trace_state
 ·have uE : QV d l = T6 d := by unfold QV; rw [if_pos h0]
  have uR : QW d l = QK := by unfold QW; rw [uE, if_neg h0]
  rw [uE, uR]
  have b0 : (T6 d == 0) = false := by simpa using h0
  have b1 : (T6 d != 0) = true := by simpa using h0
  repeat' (first | ((with_reducible refine brC (fun _ => ?_) fun _ => ?_) <;> try (exfalso; omega)) | (with_reducible apply pcallE.of; · exact hD) | (with_reducible refine And.intro ?_ ?_; · omega) | simp -dsimp -implicitDefEqProofs (disch := omega) only [↓Q0 14, VCA, Nat.reduceEqDiff, Nat.reduceAdd, Nat.reduceLT, ↓reduceIte, X4, Y0, Z0, exists_eq_left', b0, b1, n2, J1, J4])
  all_goals first | (exfalso; omega) | exact ⟨_, Sub.refl _, ((Sub.refl h).upd hr2).upd hr4.2, .tup' (.cons (K7 _) (.cons (.refl _) .nil))⟩ | trace_state
section
variable {X : List Nat} {h0 h : Q3} {rN : Nat} {d : HDoc} {sl : Nat -> AVal}
theorem Dw.slotNe (E : Dw X h0 h rN d sl) {k : Nat} (hk : k < 2 * d.nodes.length) {r : Nat} (hr : Q8 (sl k) = some r) : r ≠ rN := (E.fresh k hk r hr).2.1
theorem Dw.cells (E : Dw X h0 h rN d sl) {i : Nat} (hi : i < d.nodes.length) {x' : HNode} (hA : x'.attrs = (nth d.nodes i).attrs) (hK : x'.kids = (nth d.nodes i).kids) :
  Dw X h0 (upd h rN (some ⟨.t 40, 6, (Y9 d sl).set i (X1 x' (sl (2 * i)) (sl (2 * i + 1)))⟩)) rN ⟨d.nodes.set i x', d.quirks⟩ sl := by
 obtain ⟨g1, g2⟩ := E.own i hi
 refine E.put hi (fun _ _ _ => rfl) (Q2 _ _ _) (fun r o ho hne _ _ => by rw [Q1 _ _ hne]; exact ho) ?_ ?_ (fun r hr => by rcases hr with h | h; exact .inl h; exact .inr (.inl h)) (fun r hr => E.sep _ _ (by omega) (by omega) (by omega) r hr)
 ·rw [hA]; exact g1.keep fun r o hr ho => by rw [Q1 _ _ (E.slotNe (by omega) hr)]; exact ho
 ·rw [hK]; exact g2.keep fun r o hr ho => by rw [Q1 _ _ (E.slotNe (by omega) hr)]; exact ho
theorem Dw.slotA (E : Dw X h0 h rN d sl) {i : Nat} (hi : i < d.nodes.length) {h1 : Q3} {a' : AVal} {l' : List HAttr} (kp : ∀ r o, h r = some o -> Q8 (sl (2 * i)) ≠ some r -> h1 r = some o)
  (O : OwnS h1 96 2 (l'.map Z7) a') (fr : ∀ r, Q8 a' = some r -> Q8 (sl (2 * i)) = some r \/ h r = none) :
  Dw X h0 (upd h1 rN (some ⟨.t 40, 6, (Y9 d sl).set i (X1 { nth d.nodes i with attrs := l' } a' (sl (2 * i + 1)))⟩)) rN ⟨d.nodes.set i { nth d.nodes i with attrs := l' }, d.quirks⟩ (upd sl (2 * i) a') := by
 have e1 : upd sl (2 * i) a' (2 * i) = a' := Q2 _ _ _
 have e2 : upd sl (2 * i) a' (2 * i + 1) = sl (2 * i + 1) := Q1 _ _ (by omega)
 obtain ⟨g1, g2⟩ := E.own i hi
 have fN : ∀ r, Q8 a' = some r -> r ≠ rN := fun r hr e => by
  rcases fr r hr with h | h
  ·exact E.slotNe (by omega) h e
  ·rw [e, E.nodes] at h; cases h
 refine E.put hi (fun j h1 _ => Q1 _ _ h1) (by rw [e1, e2, Q2]) (fun r o ho hne h2 _ => by rw [Q1 _ _ hne]; exact kp r o ho h2) ?_ ?_ ?_ ?_
 ·rw [e1]; exact O.keep fun r o hr ho => by rw [Q1 _ _ (fN r hr)]; exact ho
 ·rw [e2]; exact g2.keep fun r o hr ho => by
   rw [Q1 _ _ (E.slotNe (by omega) hr)]
   exact kp r o ho fun h => E.sep _ _ (by omega) (by omega) (by omega) r h hr
 ·rw [e1, e2]
  rintro r (hr | hr)
  ·rcases fr r hr with h | h
   ·exact .inl h
   ·exact .inr (.inr h)
  ·exact .inr (.inl hr)
 ·rw [e1, e2]
  intro r hr hr2
  rcases fr r hr with h | h
  ·exact E.sep _ _ (by omega) (by omega) (by omega) r h hr2
  ·obtain ⟨o, ho⟩ := g2.root hr2; rw [h] at ho; cases ho
theorem Dw.slotD (E : Dw X h0 h rN d sl) {i : Nat} (hi : i < d.nodes.length) {l' : List Int} :
  Dw X h0 (upd h rN (some ⟨.t 40, 6, (Y9 d sl).set i (X1 { nth d.nodes i with kids := l' } (sl (2 * i)) (Sim.sl J8 l'))⟩)) rN ⟨d.nodes.set i { nth d.nodes i with kids := l' }, d.quirks⟩ (upd sl (2 * i + 1) (Sim.sl J8 l')) := by
 have e1 : upd sl (2 * i + 1) (Sim.sl J8 l') (2 * i + 1) = Sim.sl J8 l' := Q2 _ _ _
 have e2 : upd sl (2 * i + 1) (Sim.sl J8 l') (2 * i) = sl (2 * i) := Q1 _ _ (by omega)
 obtain ⟨g1, g2⟩ := E.own i hi
 refine E.put hi (fun j _ h2 => Q1 _ _ h2) (by rw [e1, e2, Q2]) (fun r o ho hne _ _ => by rw [Q1 _ _ hne]; exact ho) ?_ ?_ ?_ ?_
 ·rw [e2]; exact g1.keep fun r o hr ho => by rw [Q1 _ _ (E.slotNe (by omega) hr)]; exact ho
 ·rw [e1]; exact .inr (.inl ⟨rfl, fun e he => by obtain ⟨x, _, rfl⟩ := List.mem_map.1 he; rfl⟩)
 ·rw [e1, e2]
  rintro r (hr | hr)
  ·exact .inl hr
  ·cases hr
 ·rw [e1, e2]
  intro r _ hr2
  cases hr2
end
def UdK (D : HDoc) (s : HStep) (h : Q3) (a : AVal) (h' : Q3) : Prop := Sub h h' /\ VwT (newH h h') a (.tup [.agg (Z2 (if Y3 D s then U2 D s else D)), .bool (decide (Y3 D s))])
theorem undoD_quirks (D : HDoc) (s : HStep) : (U2 D s).quirks = D.quirks := by
 unfold U2; (repeat' split) <;> rfl
theorem UdK.good {D d : HDoc} {s : HStep} {h hf : Q3} {X : List Nat} {rN n : Nat} {sl : Nat -> AVal} (hb : Y3 D s) (B : Dw X h hf rN d sl) (le : n <= d.nodes.length) (hD : headD d n = U2 D s) : UdK D s h (.tup [.agg [.osl rN 6 0 n, .bool D.quirks], .bool true]) hf := by
 have hq : D.quirks = d.quirks := by rw [<- undoD_quirks D s, <- hD]; rfl
 unfold UdK
 rw [if_pos hb, decide_eq_true hb, <- hD, hq]
 exact ⟨B.sub, .tup' (.cons (Vw.agg' (.cons (B.new'.vwH le) (.cons (.refl _) .nil))) (.cons (.refl _) .nil))⟩
theorem UdK.bad {D : HDoc} {s : HStep} {h hf : Q3} {X : List Nat} {rN : Nat} {sl : Nat -> AVal} (hb : ¬ Y3 D s) (B : Dw X h hf rN D sl) : UdK D s h (.tup [.agg [.osl rN 6 0 D.nodes.length, .bool D.quirks], .bool false]) hf := by
 unfold UdK
 rw [if_neg hb, decide_eq_false hb]
 exact ⟨B.sub, .tup' (.cons (Vw.agg' (.cons B.new'.vw (.cons (.refl _) .nil))) (.cons (.refl _) .nil))⟩
structure UdS (D : HDoc) (s : HStep) (h h0 h' : Q3) (r4 r6 r7 rN : Nat) (sl : Nat -> AVal) (E : Env) : Prop where
 e2 : E 2 = .pin (Z2 D)
 e3 : E 3 = .pin (Z9 s)
 e4 : E 4 = .vp r4 0
 e6 : E 6 = .vp r6 0
 e7 : E 7 = .vp r7 0
 e8 : E 8 = Q7 D.nodes.length
 s0 : h r4 = none /\ h0 = upd h r4 (some ⟨.t 24, 2, [[.emp, .bool false]]⟩)
 dw : Dw [r6, r7] h0 h' rN D sl
 new6 : h0 r6 = none
 g6 : h' r6 = some ⟨.t 24, 2, [[.osl rN 6 0 D.nodes.length, .bool D.quirks]]⟩
 g7 : h' r7 = some ⟨.t 42, 12, [Z1 s.edit]⟩
 live : ∀ i, i < D.nodes.length -> Mut (sl (2 * i))
 dat : ∀ i, i < D.nodes.length -> sl (2 * i + 1) = Sim.sl J8 (nth D.nodes i).kids
section
variable {D : HDoc} {s : HStep} {h h0 h' : Q3} {r4 r6 r7 rN : Nat} {sl : Nat -> AVal} {E : Env}
theorem UdS.g4 (U : UdS D s h h0 h' r4 r6 r7 rN sl E) : h' r4 = some ⟨.t 24, 2, [[.emp, .bool false]]⟩ := U.dw.sub _ _ (by rw [U.s0.2, Q2])
theorem UdS.fin {X : List Nat} {d : HDoc} {h1 : Q3} {sl1 : Nat -> AVal} (U : UdS D s h h0 h' r4 r6 r7 rN sl E) (B : Dw X h0 h1 rN d sl1) (hX : r4 ∉ X) (y : AObj) : Dw X h (upd h1 r4 (some y)) rN d sl1 :=
 B.beside (by rw [U.s0.2]; exact (Sub.refl h).upd U.s0.1) (by rw [U.s0.2, Q2]) U.s0.1 hX y
theorem UdS.bad (U : UdS D s h h0 h' r4 r6 r7 rN sl E) (hb : ¬ Y3 D s) {h1 : Q3} (S : Sub h' h1) (y : AObj) : UdK D s h (.tup [.agg [.osl rN 6 0 D.nodes.length, .bool D.quirks], .bool false]) (upd h1 r4 (some y)) :=
 UdK.bad hb (U.fin ((U.dw.mono S).less (X' := []) (by simp)) (by simp) y)
end
def c49_s8 : SCode := (.seq (.reg [o 331 (.fldA 0 (.t 6)), o 332 (.ld 1 false (.t 331)), o 333 (.fldA 1 (.t 7)), o 334 (.ld 1 false (.t 333)), o 335 (.ld 6 true (.t 9)), o 336 (.idxA 6 (.t 332) (.t 334)), ⟨none, .st 6 (.t 336) (.t 335), none⟩]) (.seq (.reg [o 337 (.ld 2 true (.t 6)), ⟨none, .st 2 (.t 4) (.t 337), none⟩, o 5 (.mv (.c (.bool true)))]) .ret))
def c49_s7 : SCode := (.seq (.seq (.reg [o 85 (.fldA 0 (.t 7)), o 86 (.ld 1 false (.t 85))]) (.block 0 (.seq (.reg [o 157 (.bin .eql (.t 86) (.c (.int .i64 1))), o 156 (.mv (.t 157))]) (.cond (.t 156) (.seq (.reg [o 159 (.fldA 2 (.t 9)), o 160 (.ld 1 false (.t 159)), o 161 (.fldA 4 (.t 7)), o 162 (.ld 1 false (.t 161)), o 163 (.call (.c (.fn 94 [] [])) [.t 160, .t 162]), o 158 (.mv (.t 163)), o 164 (.ext (.t 158) 0), o 165 (.ext (.t 158) 1), o 10 (.mv (.t 164)), o 11 (.mv (.t 165))]) (.seq (.reg [o 166 (.fldA 2 (.t 9)), o 167 (.ld 1 false (.t 166)), o 168 (.len (.t 167)), o 169 (.bin .sub (.t 168) (.c (.int .i64 1))), o 12 (.mv (.t 169))]) (.seq (.seq (.dreg [(o 170 (.mv (.t 11)), none), (o 171 (.un .not (.t 170)), none), (o 172 (.mv (.t 171)), none), (⟨some 173, .fldA 12 (.t 3), some (172, false)⟩, none), (⟨some 174, .ld 1 false (.t 173), some (172, false)⟩, none), (⟨some 175, .un .not (.t 174), some (172, false)⟩, none), (⟨some 176, .mv (.t 175), some (172, false)⟩, none), (⟨some 177, .fldA 2 (.t 9), some (176, true)⟩, none), (⟨some 178, .ld 1 false (.t 177), some (176, true)⟩, none), (⟨some 179, .mv (.t 12), some (176, true)⟩, none), (⟨some 180, .idxA 2 (.t 178) (.t 179), some (176, true)⟩, none), (⟨some 181, .fldA 0 (.t 180), some (176, true)⟩, none), (⟨some 182, .ld 1 false (.t 181), some (176, true)⟩, none), (⟨some 183, .fldA 4 (.t 7), some (176, true)⟩, none), (⟨some 184, .ld 1 false (.t 183), some (176, true)⟩, none), (⟨some 185, .bin .neq (.t 182) (.t 184), some (176, true)⟩, none), (⟨some 186, .pick (.t 176) (.t 185) (.c (.bool false)), some (172, false)⟩, none), (o 187 (.pick (.t 172) (.c (.bool true)) (.t 186)), none)]) (.cond (.t 187) (.seq (.reg [o 188 (.ld 2 true (.t 6)), ⟨none, .st 2 (.t 4) (.t 188), none⟩, o 5 (.mv (.c (.bool false)))]) .ret) .skip)) (.seq (.seq (.reg [o 189 (.fldA 12 (.t 3)), o 190 (.ld 1 false (.t 189)), o 191 (.un .not (.t 190))]) (.cond (.t 191) (.reg [o 192 (.fldA 2 (.t 9)), o 193 (.ld 1 false (.t 192)), o 194 (.mv (.t 12)), o 195 (.slA 2 (.t 193) none (some (.t 194))), o 196 (.fldA 2 (.t 9)), ⟨none, .st 1 (.t 196) (.t 195), none⟩]) .skip)) (.seq (.reg [o 13 (.mv (.c (.int .i64 0)))]) (.block 1 (.loop (.seq (.seq (.reg [o 197 (.mv (.t 13)), o 198 (.fldA 2 (.t 9)), o 199 (.ld 1 false (.t 198)), o 200 (.len (.t 199)), o 201 (.bin .lss (.t 197) (.t 200))]) (.cond (.t 201) .skip (.exit 1))) (.seq (.block 2 (.seq (.dreg [(o 204 (.fldA 2 (.t 9)), none), (o 205 (.ld 1 false (.t 204)), none), (o 206 (.mv (.t 13)), none), (o 207 (.idxA 2 (.t 205) (.t 206)), none), (o 208 (.fldA 0 (.t 207)), none), (o 209 (.ld 1 false (.t 208)), none), (o 210 (.fldA 4 (.t 7)), none), (o 211 (.ld 1 false (.t 210)), none), (o 212 (.bin .eql (.t 209) (.t 211)), none)]) (.cond (.t 212) (.reg [o 213 (.fldA 2 (.t 9)), o 214 (.ld 1 false (.t 213)), o 215 (.mv (.t 13)), o 216 (.fldA 13 (.t 3)), o 217 (.ld 1 false (.t 216)), o 218 (.idxA 2 (.t 214) (.t 215)), o 219 (.fldA 1 (.t 218)), ⟨none, .st 1 (.t 219) (.t 217), none⟩]) .skip))) (.reg [o 202 (.mv (.t 13)), o 203 (.bin .add (.t 202) (.c (.int .i64 1))), o 13 (.mv (.t 203))])))))))))) (.seq (.reg [o 221 (.bin .eql (.t 86) (.c (.int .i64 2))), o 220 (.mv (.t 221))]) (.cond (.t 220) (.seq (.seq (.reg [o 223 (.fldA 2 (.t 9)), o 224 (.ld 1 false (.t 223)), o 225 (.fldA 4 (.t 7)), o 226 (.ld 1 false (.t 225)), o 227 (.call (.c (.fn 94 [] [])) [.t 224, .t 226]), o 222 (.mv (.t 227)), o 228 (.ext (.t 222) 0), o 229 (.ext (.t 222) 1), o 14 (.mv (.t 228)), o 15 (.mv (.t 229))]) (.seq (.reg [o 230 (.mv (.t 15)), o 231 (.mv (.t 230)), ⟨some 232, .fldA 0 (.t 9), some (231, false)⟩, ⟨some 233, .ld 1 false (.t 232), some (231, false)⟩, ⟨some 234, .bin .neq (.t 233) (.c (.int .i64 2)), some (231, false)⟩, o 235 (.pick (.t 231) (.c (.bool true)) (.t 234)), o 236 (.mv (.t 235)), ⟨some 237, .fldA 15 (.t 3), some (236, false)⟩, ⟨some 238, .ld 1 false (.t 237), some (236, false)⟩, ⟨some 239, .fldA 2 (.t 9), some (236, false)⟩, ⟨some 240, .ld 1 false (.t 239), some (236, false)⟩, ⟨some 241, .len (.t 240), some (236, false)⟩, ⟨some 242, .pcall 76 [.t 238, .c (.int .i64 0), .t 241], some (236, false)⟩, ⟨some 243, .un .not (.t 242), some (236, false)⟩, o 244 (.pick (.t 236) (.c (.bool true)) (.t 243))]) (.cond (.t 244) (.seq (.reg [o 245 (.ld 2 true (.t 6)), ⟨none, .st 2 (.t 4) (.t 245), none⟩, o 5 (.mv (.c (.bool false)))]) .ret) .skip))) (.seq (.reg [o 246 (.bldF 96 2 []), o 247 (.fldA 2 (.t 9)), o 248 (.ld 1 false (.t 247)), o 249 (.fldA 15 (.t 3)), o 250 (.ld 1 false (.t 249)), o 251 (.slA 2 (.t 248) (some (.t 250)) none), o 252 (.appF 96 2 32 (.t 246) (.t 251)), o 16 (.mv (.t 252))]) (.dreg [(o 253 (.fldA 2 (.t 9)), none), (o 254 (.ld 1 false (.t 253)), none), (o 255 (.fldA 15 (.t 3)), none), (o 256 (.ld 1 false (.t 255)), none), (o 257 (.slA 2 (.t 254) none (some (.t 256))), none), (o 258 (.fldA 4 (.t 7)), none), (o 259 (.ld 1 false (.t 258)), none), (o 260 (.fldA 13 (.t 3)), none), (o 261 (.ld 1 false (.t 260)), none), (o 262 (.bld [.str [], .str []] [(0, (1, (.t 259))), (1, (1, (.t 261)))]), none), (o 263 (.bldF 96 2 [.t 262]), none), (o 265 (.mv (.t 16)), none), (o 264 (.app 96 2 32 (.t 257) (.t 263)), (some [254, 256, 259, 261])), (o 266 (.appF 96 2 32 (.t 264) (.t 265)), (some [254, 256, 259, 261])), (o 267 (.fldA 2 (.t 9)), none), (⟨none, .st 1 (.t 267) (.t 266), none⟩, (some [254, 256, 259, 261]))]))) (.seq (.reg [o 269 (.bin .eql (.t 86) (.c (.int .i64 3))), o 268 (.mv (.t 269))]) (.cond (.t 268) (.seq (.seq (.reg [o 270 (.fldA 0 (.t 9)), o 271 (.ld 1 false (.t 270)), o 272 (.bin .neq (.t 271) (.c (.int .i64 3))), o 273 (.mv (.t 272)), ⟨some 274, .fldA 0 (.t 9), some (273, true)⟩, ⟨some 275, .ld 1 false (.t 274), some (273, true)⟩, ⟨some 276, .bin .neq (.t 275) (.c (.int .i64 4)), some (273, true)⟩, o 277 (.pick (.t 273) (.t 276) (.c (.bool false)))]) (.cond (.t 277) (.seq (.reg [o 278 (.ld 2 true (.t 6)), ⟨none, .st 2 (.t 4) (.t 278), none⟩, o 5 (.mv (.c (.bool false)))]) .ret) .skip)) (.reg [o 279 (.fldA 13 (.t 3)), o 280 (.ld 1 false (.t 279)), o 281 (.fldA 3 (.t 9)), ⟨none, .st 1 (.t 281) (.t 280), none⟩])) (.seq (.reg [o 283 (.bin .eql (.t 86) (.c (.int .i64 5))), o 282 (.mv (.t 283))]) (.cond (.t 282) (.seq (.seq (.dreg [(o 284 (.fldA 2 (.t 7)), none), (o 285 (.ld 1 false (.t 284)), none), (o 286 (.mv (.t 8)), none), (o 287 (.bin .sub (.t 286) (.c (.int .i64 1))), none), (o 288 (.pcall 76 [.t 285, .c (.int .i64 0), .t 287]), none), (o 289 (.un .not (.t 288)), none), (o 290 (.mv (.t 289)), none), (⟨some 291, .fldA 15 (.t 3), some (290, false)⟩, none), (⟨some 292, .ld 1 false (.t 291), some (290, false)⟩, none), (⟨some 293, .fldA 5 (.t 9), some (290, false)⟩, none), (⟨some 294, .ld 1 false (.t 293), some (290, false)⟩, none), (⟨some 295, .len (.t 294), some (290, false)⟩, none), (⟨some 296, .bin .sub (.t 295) (.c (.int .i64 1)), some (290, false)⟩, none), (⟨some 297, .pcall 76 [.t 292, .c (.int .i64 0), .t 296], some (290, false)⟩, none), (⟨some 298, .un .not (.t 297), some (290, false)⟩, none), (o 299 (.pick (.t 290) (.c (.bool true)) (.t 298)), none), (o 300 (.mv (.t 299)), none), (⟨some 301, .fldA 5 (.t 9), some (300, false)⟩, none), (⟨some 302, .ld 1 false (.t 301), some (300, false)⟩, none), (⟨some 303, .fldA 15 (.t 3), some (300, false)⟩, none), (⟨some 304, .ld 1 false (.t 303), some (300, false)⟩, none), (⟨some 305, .idxA 1 (.t 302) (.t 304), some (300, false)⟩, none), (⟨some 306, .ld 1 false (.t 305), some (300, false)⟩, none), (⟨some 307, .fldA 2 (.t 7), some (300, false)⟩, none), (⟨some 308, .ld 1 false (.t 307), some (300, false)⟩, none), (⟨some 309, .bin .neq (.t 306) (.t 308), some (300, false)⟩, none), (o 310 (.pick (.t 300) (.c (.bool true)) (.t 309)), none)]) (.cond (.t 310) (.seq (.reg [o 311 (.ld 2 true (.t 6)), ⟨none, .st 2 (.t 4) (.t 311), none⟩, o 5 (.mv (.c (.bool false)))]) .ret) .skip)) (.seq (.reg [o 312 (.fldA 5 (.t 9)), o 313 (.ld 1 false (.t 312)), o 314 (.fldA 15 (.t 3)), o 315 (.ld 1 false (.t 314)), o 316 (.pcall 61 [.t 313, .t 315]), o 317 (.fldA 5 (.t 9)), ⟨none, .st 1 (.t 317) (.t 316), none⟩]) (.seq (.reg [o 318 (.fldA 0 (.t 6)), o 319 (.ld 1 false (.t 318)), o 320 (.fldA 1 (.t 7)), o 321 (.ld 1 false (.t 320)), o 322 (.ld 6 true (.t 9)), o 323 (.idxA 6 (.t 319) (.t 321)), ⟨none, .st 6 (.t 323) (.t 322), none⟩]) (.seq (.reg [o 324 (.fldA 0 (.t 6)), o 325 (.ld 1 false (.t 324)), o 326 (.fldA 2 (.t 7)), o 327 (.ld 1 false (.t 326)), o 328 (.idxA 6 (.t 325) (.t 327)), o 329 (.fldA 4 (.t 328)), ⟨none, .st 1 (.t 329) (.c (.int .i64 (-1))), none⟩]) (.seq (.reg [o 330 (.ld 2 true (.t 6)), ⟨none, .st 2 (.t 4) (.t 330), none⟩, o 5 (.mv (.c (.bool true)))]) .ret))))) (.seq (.seq (.dreg [(o 87 (.fldA 1 (.t 7)), none), (o 88 (.ld 1 false (.t 87)), none), (o 89 (.bin .eql (.t 88) (.c (.int .i64 0))), none), (o 90 (.mv (.t 89)), none), (⟨some 91, .fldA 4 (.t 9), some (90, false)⟩, none), (⟨some 92, .ld 1 false (.t 91), some (90, false)⟩, none), (⟨some 93, .bin .neq (.t 92) (.c (.int .i64 (-1))), some (90, false)⟩, none), (o 94 (.pick (.t 90) (.c (.bool true)) (.t 93)), none), (o 95 (.mv (.t 94)), none), (⟨some 96, .fldA 14 (.t 3), some (95, false)⟩, none), (⟨some 97, .ld 1 false (.t 96), some (95, false)⟩, none), (⟨some 98, .mv (.t 8), some (95, false)⟩, none), (⟨some 99, .bin .sub (.t 98) (.c (.int .i64 1)), some (95, false)⟩, none), (⟨some 100, .pcall 76 [.t 97, .c (.int .i64 0), .t 99], some (95, false)⟩, none), (⟨some 101, .un .not (.t 100), some (95, false)⟩, none), (o 102 (.pick (.t 95) (.c (.bool true)) (.t 101)), none), (o 103 (.mv (.t 102)), none), (⟨some 104, .fldA 15 (.t 3), some (103, false)⟩, none), (⟨some 105, .ld 1 false (.t 104), some (103, false)⟩, none), (⟨some 106, .fldA 0 (.t 6), some (103, false)⟩, none), (⟨some 107, .ld 1 false (.t 106), some (103, false)⟩, none), (⟨some 108, .fldA 14 (.t 3), some (103, false)⟩, none), (⟨some 109, .ld 1 false (.t 108), some (103, false)⟩, none), (⟨some 110, .idxA 6 (.t 107) (.t 109), some (103, false)⟩, none), (⟨some 111, .fldA 5 (.t 110), some (103, false)⟩, none), (⟨some 112, .ld 1 false (.t 111), some (103, false)⟩, none), (⟨some 113, .len (.t 112), some (103, false)⟩, none), (⟨some 114, .pcall 76 [.t 105, .c (.int .i64 0), .t 113], some (103, false)⟩, none), (⟨some 115, .un .not (.t 114), some (103, false)⟩, none), (o 116 (.pick (.t 103) (.c (.bool true)) (.t 115)), none)]) (.cond (.t 116) (.seq (.reg [o 117 (.ld 2 true (.t 6)), ⟨none, .st 2 (.t 4) (.t 117), none⟩, o 5 (.mv (.c (.bool false)))]) .ret) .skip)) (.seq (.reg [o 118 (.fldA 14 (.t 3)), o 119 (.ld 1 false (.t 118)), o 120 (.fldA 4 (.t 9)), ⟨none, .st 1 (.t 120) (.t 119), none⟩]) (.seq (.reg [o 121 (.fldA 0 (.t 6)), o 122 (.ld 1 false (.t 121)), o 123 (.fldA 1 (.t 7)), o 124 (.ld 1 false (.t 123)), o 125 (.ld 6 true (.t 9)), o 126 (.idxA 6 (.t 122) (.t 124)), ⟨none, .st 6 (.t 126) (.t 125), none⟩]) (.seq (.reg [o 127 (.fldA 0 (.t 6)), o 128 (.ld 1 false (.t 127)), o 129 (.fldA 14 (.t 3)), o 130 (.ld 1 false (.t 129)), o 131 (.idxA 6 (.t 128) (.t 130)), o 132 (.fldA 5 (.t 131)), o 133 (.ld 1 false (.t 132)), o 17 (.mv (.t 133))]) (.seq (.dreg [(o 134 (.fldA 0 (.t 6)), none), (o 135 (.ld 1 false (.t 134)), none), (o 136 (.fldA 14 (.t 3)), none), (o 137 (.ld 1 false (.t 136)), none), (o 138 (.bldF 3 1 []), none), (o 139 (.mv (.t 17)), none), (o 140 (.fldA 15 (.t 3)), none), (o 141 (.ld 1 false (.t 140)), none), (o 142 (.slA 1 (.t 139) none (some (.t 141))), none), (o 144 (.fldA 1 (.t 7)), none), (o 145 (.ld 1 false (.t 144)), none), (o 146 (.bldF 3 1 [.t 145]), none), (o 148 (.mv (.t 17)), none), (o 149 (.fldA 15 (.t 3)), none), (o 150 (.ld 1 false (.t 149)), none), (o 151 (.slA 1 (.t 148) (some (.t 150)) none), none), (o 143 (.app 3 1 8 (.t 138) (.t 142)), (some [141])), (o 147 (.app 3 1 8 (.t 143) (.t 146)), (some [145, 141])), (o 152 (.appF 3 1 8 (.t 147) (.t 151)), (some [150, 145, 141])), (o 153 (.idxA 6 (.t 135) (.t 137)), none), (o 154 (.fldA 5 (.t 153)), none), (⟨none, .st 1 (.t 154) (.t 152), none⟩, (some [135, 137, 150, 145, 141]))]) (.seq (.reg [o 155 (.ld 2 true (.t 6)), ⟨none, .st 2 (.t 4) (.t 155), none⟩, o 5 (.mv (.c (.bool true)))]) .ret)))))))))))))))) c49_s8)
def c49 : SFun := ⟨.seq (.reg [o 2 (.boxF 24 2 (.t 0)), o 3 (.boxF 44 16 (.t 1)), o 4 (.new 24 2 [.emp, .bool false]), o 5 (.mv (.c (.bool false)))]) (.seq (.reg [o 18 (.ld 2 true (.t 2)), o 19 (.call (.c (.fn 59 [] [])) [.t 18]), o 6 (.new 24 2 [.emp, .bool false]), ⟨none, .st 2 (.t 6) (.t 19), none⟩]) (.seq (.reg [o 20 (.fldA 0 (.t 3)), o 21 (.ld 12 true (.t 20)), o 7 (.new 42 12 [.int .i64 0, .int .i64 0, .int .i64 0, .int .i64 0, .str [], .str [], .int .i64 0, .str [], .emp, .str [], .int .i64 0, .emp]), ⟨none, .st 12 (.t 7) (.t 21), none⟩]) (.seq (.reg [o 22 (.fldA 0 (.t 2)), o 23 (.ld 1 false (.t 22)), o 24 (.len (.t 23)), o 8 (.mv (.t 24))]) (.seq (.seq (.reg [o 25 (.fldA 0 (.t 7)), o 26 (.ld 1 false (.t 25)), o 27 (.bin .eql (.t 26) (.c (.int .i64 4)))]) (.cond (.t 27) (.seq (.seq (.reg [o 28 (.fldA 15 (.t 3)), o 29 (.ld 1 false (.t 28)), o 30 (.mv (.t 8)), o 31 (.bin .sub (.t 30) (.c (.int .i64 1))), o 32 (.bin .neq (.t 29) (.t 31)), o 33 (.mv (.t 32)), ⟨some 34, .mv (.t 8), some (33, false)⟩, ⟨some 35, .bin .lss (.t 34) (.c (.int .i64 2)), some (33, false)⟩, o 36 (.pick (.t 33) (.c (.bool true)) (.t 35)), o 37 (.mv (.t 36)), ⟨some 38, .fldA 0 (.t 2), some (37, false)⟩, ⟨some 39, .ld 1 false (.t 38), some (37, false)⟩, ⟨some 40, .mv (.t 8), some (37, false)⟩, ⟨some 41, .bin .sub (.t 40) (.c (.int .i64 1)), some (37, false)⟩, ⟨some 42, .idxA 6 (.t 39) (.t 41), some (37, false)⟩, ⟨some 43, .fldA 4 (.t 42), some (37, false)⟩, ⟨some 44, .ld 1 false (.t 43), some (37, false)⟩, ⟨some 45, .bin .neq (.t 44) (.c (.int .i64 (-1))), some (37, false)⟩, o 46 (.pick (.t 37) (.c (.bool true)) (.t 45)), o 47 (.mv (.t 46)), ⟨some 48, .fldA 0 (.t 2), some (47, false)⟩, ⟨some 49, .ld 1 false (.t 48), some (47, false)⟩, ⟨some 50, .mv (.t 8), some (47, false)⟩, ⟨some 51, .bin .sub (.t 50) (.c (.int .i64 1)), some (47, false)⟩, ⟨some 52, .idxA 6 (.t 49) (.t 51), some (47, false)⟩, ⟨some 53, .fldA 5 (.t 52), some (47, false)⟩, ⟨some 54, .ld 1 false (.t 53), some (47, false)⟩, ⟨some 55, .len (.t 54), some (47, false)⟩, ⟨some 56, .bin .gtr (.t 55) (.c (.int .i64 0)), some (47, false)⟩, o 57 (.pick (.t 47) (.c (.bool true)) (.t 56))]) (.cond (.t 57) (.seq (.reg [o 58 (.ld 2 true (.t 6)), ⟨none, .st 2 (.t 4) (.t 58), none⟩, o 5 (.mv (.c (.bool false)))]) .ret) .skip)) (.seq (.reg [o 59 (.fldA 0 (.t 6)), o 60 (.ld 1 false (.t 59)), o 61 (.mv (.t 8)), o 62 (.bin .sub (.t 61) (.c (.int .i64 1))), o 63 (.slA 6 (.t 60) none (some (.t 62))), o 64 (.fldA 0 (.t 6)), ⟨none, .st 1 (.t 64) (.t 63), none⟩]) (.seq (.reg [o 65 (.ld 2 true (.t 6)), ⟨none, .st 2 (.t 4) (.t 65), none⟩, o 5 (.mv (.c (.bool true)))]) .ret))) .skip)) (.seq (.seq (.reg [o 66 (.fldA 0 (.t 7)), o 67 (.ld 1 false (.t 66)), o 68 (.pcall 76 [.t 67, .c (.int .i64 1), .c (.int .i64 6)]), o 69 (.un .not (.t 68)), o 70 (.mv (.t 69)), ⟨some 71, .fldA 1 (.t 7), some (70, false)⟩, ⟨some 72, .ld 1 false (.t 71), some (70, false)⟩, ⟨some 73, .mv (.t 8), some (70, false)⟩, ⟨some 74, .bin .sub (.t 73) (.c (.int .i64 1)), some (70, false)⟩, ⟨some 75, .pcall 76 [.t 72, .c (.int .i64 0), .t 74], some (70, false)⟩, ⟨some 76, .un .not (.t 75), some (70, false)⟩, o 77 (.pick (.t 70) (.c (.bool true)) (.t 76))]) (.cond (.t 77) (.seq (.reg [o 78 (.ld 2 true (.t 6)), ⟨none, .st 2 (.t 4) (.t 78), none⟩, o 5 (.mv (.c (.bool false)))]) .ret) .skip)) (.seq (.reg [o 79 (.fldA 0 (.t 6)), o 80 (.ld 1 false (.t 79)), o 81 (.fldA 1 (.t 7)), o 82 (.ld 1 false (.t 81)), o 83 (.idxA 6 (.t 80) (.t 82)), o 84 (.ld 6 true (.t 83)), o 9 (.new 40 6 [.int .i64 0, .str [], .emp, .str [], .int .i64 0, .emp]), ⟨none, .st 6 (.t 9) (.t 84), none⟩]) c49_s7)))))), [.cell 4 2 true, .tmp 5]⟩
theorem hc49 : X6 Tryz.prog {pure := [76, 61], how := [(252, 8), (266, 8), (152, 8)]} Tryz.f49 = some c49 := by kernel_rfl
theorem undone_s8 {D : HDoc} {s : HStep} {h h0 h' h3 : Q3} {r4 r6 r7 r9 rN : Nat} {sl sl1 : Nat -> AVal} {E0 E : Env} (U : UdS D s h h0 h' r4 r6 r7 rN sl E0) (hb : Y3 D s) (hin : inD D s.edit.at') {d : HDoc} {x : HNode} {a k : AVal}
  (e4 : E 4 = .vp r4 0) (e6 : E 6 = .vp r6 0) (e7 : E 7 = .vp r7 0) (e9 : E 9 = .vp r9 0)
  (g6 : h3 r6 = some ⟨.t 24, 2, [[.osl rN 6 0 D.nodes.length, .bool D.quirks]]⟩) (g7 : h3 r7 = some ⟨.t 42, 12, [Z1 s.edit]⟩) (g9 : h3 r9 = some ⟨.t 40, 6, [X1 x a k]⟩) (gN : h3 rN = some ⟨.t 40, 6, Y9 D sl⟩)
  (g4 : h3 r4 = some ⟨.t 24, 2, [[.emp, .bool false]]⟩)
  (B : Dw [] h0 (upd h3 rN (some ⟨.t 40, 6, (Y9 D sl).set s.edit.at'.toNat (X1 x a k)⟩)) rN d sl1) (hl : d.nodes.length = D.nodes.length) (hD : d = U2 D s) :
  vc (Pg G) c49_s8 (KW [.cell 4 2 true, .tmp 5] (UdK D s h)) E h3 := by
 have rl := Y5 D sl
 have a0 := hin.1
 have a1 := hin.2
 have n6 : ¬ r6 = rN := fun e => by rw [e, gN] at g6; cases g6
 have n7 : ¬ r7 = rN := fun e => by rw [e, gN] at g7; cases g7
 have n4 : ¬ r4 = rN := fun e => by rw [e, gN] at g4; cases g4
 have n46 : ¬ r4 = r6 := fun e => by have := U.dw.sub r4 _ (by rw [U.s0.2, Q2]); have h2 := U.new6; rw [<- e, U.s0.2, Q2] at h2; cases h2
 have fin := UdK.good hb (U.fin B (by simp) ⟨.t 24, 2, [[.osl rN 6 0 D.nodes.length, .bool D.quirks]]⟩) (n := D.nodes.length) (by omega) (by rw [<- hD, <- hl]; unfold headD; rw [List.take_length])
 have gk := Y2 (sl := sl) (i := s.edit.at'.toNat) (d := D) (by omega)
 unfold c49_s8
 unfold X1 Z1 at *
 skip
 simp -dsimp -implicitDefEqProofs (disch := omega) only [VCA, Nat.reduceEqDiff, Nat.reduceAdd, Nat.reduceLT, Nat.reduceLeDiff, ↓reduceIte, Z0, exists_eq_left', e4, e6, e7, e9, g6, g7, g9, gN, g4, gk, rl, n6, n4]
 exact ⟨⟨a0, a1⟩, by omega, _, Sub.refl _, fin⟩
theorem sub9 {h' : Q3} {r9 rN : Nat} {x y : AObj} (hr9 : h' r9 = none) : Sub (upd h' rN (some y)) (upd (upd h' r9 (some x)) rN (some y)) := fun t o ht => by
 by_cases e : t = rN
 ·subst e; rw [Q2] at ht ⊢; exact ht
 ·rw [Q1 _ _ e] at ht ⊢; rw [Q1 _ _ (fun q => by rw [q, hr9] at ht; cases ht)]; exact ht
theorem undone_3 {D : HDoc} {s : HStep} {h h0 h' : Q3} {r4 r6 r7 r9 rN : Nat} {sl : Nat -> AVal} {E : Env} (U : UdS D s h h0 h' r4 r6 r7 rN sl E) (hs : StepSm s) (hin : inD D s.edit.at') (h3 : s.edit.do' = 3)
  (e9 : E 9 = .vp r9 0) (hr9 : h' r9 = none) : vc (Pg G) c49_s7 (KW [.cell 4 2 true, .tmp 5] (UdK D s h)) E (upd h' r9 (some ⟨.t 40, 6, [X1 (nd D s.edit.at') (sl (2 * s.edit.at'.toNat)) (sl (2 * s.edit.at'.toNat + 1))]⟩)) := by
 have b1 : (s.edit.do' == 1) = false := by simp [h3]
 have b2 : (s.edit.do' == 2) = false := by simp [h3]
 have b3 : (s.edit.do' == 3) = true := by simp [h3]
 obtain ⟨e2, e3, e4, e6, e7, e8, s0, dw, new6, g6, g7, lv, dat⟩ := id U
 have g4 := U.g4
 have gN := dw.nodes
 have m4 : ¬ r4 = r9 := fun e => by rw [e, hr9] at g4; cases g4
 have m6 : ¬ r6 = r9 := fun e => by rw [e, hr9] at g6; cases g6
 have m7 : ¬ r7 = r9 := fun e => by rw [e, hr9] at g7; cases g7
 have mN : ¬ rN = r9 := fun e => by rw [e, hr9] at gN; cases gN
 have w4 : ¬ r9 = r4 := fun e => m4 e.symm
 have w6 : ¬ r9 = r6 := fun e => m6 e.symm
 have w7 : ¬ r9 = r7 := fun e => m7 e.symm
 have wN : ¬ r9 = rN := fun e => mN e.symm
 have n6 : ¬ r6 = rN := fun e => dw.new.2 (by simp [e])
 have n7 : ¬ r7 = rN := fun e => dw.new.2 (by simp [e])
 have n4 : ¬ r4 = rN := fun e => by have := dw.new.1; rw [<- e, s0.2, Q2] at this; cases this
 have n46 : ¬ r4 = r6 := fun e => by have h2 := new6; rw [<- e, s0.2, Q2] at h2; cases h2
 have v6 : ¬ rN = r6 := fun e => n6 e.symm
 have v7 : ¬ rN = r7 := fun e => n7 e.symm
 have v4 : ¬ rN = r4 := fun e => n4 e.symm
 have v46 : ¬ r6 = r4 := fun e => n46 e.symm
 have hat : s.edit.at'.toNat < D.nodes.length := by have := hin.1; have := hin.2; omega
 have a0 := hin.1
 have a1 := hin.2
 have rl := Y5 D sl
 have gk := Y2 (sl := sl) hat
 have e0 : nth D.nodes s.edit.at'.toNat = nd D s.edit.at' := rfl
 have hbad := fun (hb : ¬ Y3 D s) (h1 : Q3) (S : Sub h' h1) => U.bad hb S ⟨.t 24, 2, [[.osl rN 6 0 D.nodes.length, .bool D.quirks]]⟩
 have eF : Y3 D s ↔ inD D s.edit.at' /\ ((nd D s.edit.at').kind = 3 \/ (nd D s.edit.at').kind = 4) := by unfold Y3; rw [if_neg (by omega), if_neg (by omega), if_pos h3]
 have eD : U2 D s = setN D s.edit.at' { nd D s.edit.at' with text := s.was } := by unfold U2; rw [if_neg (by omega), if_neg (by omega), if_pos h3]
 unfold c49_s7
 by_cases hk : (nd D s.edit.at').kind = 3 \/ (nd D s.edit.at').kind = 4
 ·have hb : Y3 D s := eF.2 ⟨hin, hk⟩
  have B := (dw.cells hat (x' := { nd D s.edit.at' with text := s.was }) rfl rfl)
  unfold X1 Z1 Z9 at *
  skip
  repeat' (first | ((with_reducible refine brC (fun _ => ?_) fun _ => ?_) <;> try (exfalso; omega)) | (with_reducible refine And.intro ?_ ?_; · omega) | simp -dsimp -implicitDefEqProofs (disch := omega) only [↓Q0 273, VCA, Nat.reduceEqDiff, Nat.reduceAdd, Nat.reduceLT, Nat.reduceLeDiff, ↓reduceIte, Z0, exists_eq_left', e3, e7, e9, g7, m7, b1, b2, b3])
  all_goals try (exfalso; omega)
  all_goals exact undone_s8 U hb hin (x := { nd D s.edit.at' with text := s.was }) (a := sl (2 * s.edit.at'.toNat)) (k := sl (2 * s.edit.at'.toNat + 1)) e4 e6 e7 e9 (by rw [Q1 _ _ m6]; exact g6) (by rw [Q1 _ _ m7]; exact g7) (Q2 _ _ _) (by rw [Q1 _ _ mN]; exact gN) (by rw [Q1 _ _ m4]; exact g4) ((B.mono (sub9 hr9)).less (by simp)) (by simp) eD.symm
 ·have hb : ¬ Y3 D s := fun h => hk (eF.1 h).2
  unfold X1 Z1 Z9 at *
  skip
  repeat' (first | ((with_reducible refine brC (fun _ => ?_) fun _ => ?_) <;> try (exfalso; omega)) | (with_reducible refine And.intro ?_ ?_; · omega) | simp -dsimp -implicitDefEqProofs (disch := omega) only [↓Q0 273, VCA, Nat.reduceEqDiff, Nat.reduceAdd, Nat.reduceLT, Nat.reduceLeDiff, ↓reduceIte, Z0, exists_eq_left', e4, e6, e7, e9, g4, g6, g7, m4, m6, m7, b1, b2, b3])
  all_goals first | (exfalso; omega) | exact ⟨_, Sub.refl _, hbad hb _ ((Sub.refl h').upd hr9)⟩ | trace_state
end Go.Proofs.K
end
section
set_option linter.unusedSimpArgs false
set_option linter.unusedVariables false
namespace Go.Proofs.K
open Go Go.Sim Go.Proofs
variable {G : ZQ}
theorem betD (n a b : Int) : PCalls (Pg G) 76 [Q7 n, .int .i64 a, Q7 b] (.bool (decide (a <= n /\ n <= b))) := betwD_ok n a b
theorem undone_5 {D : HDoc} {s : HStep} {h h0 h' : Q3} {r4 r6 r7 r9 rN k0 : Nat} {sl : Nat -> AVal} {E : Env} (U : UdS D s h h0 h' r4 r6 r7 rN sl E) (hU : USm k0 D) (hk0 : k0 <= 1000) (hs : StepSm s) (hin : inD D s.edit.at') (h5 : s.edit.do' = 5)
  (e9 : E 9 = .vp r9 0) (hr9 : h' r9 = none) : vc (Pg G) c49_s7 (KW [.cell 4 2 true, .tmp 5] (UdK D s h)) E (upd h' r9 (some ⟨.t 40, 6, [X1 (nd D s.edit.at') (sl (2 * s.edit.at'.toNat)) (sl (2 * s.edit.at'.toNat + 1))]⟩)) := by
 have b1 : (s.edit.do' == 1) = false := by simp [h5]
 have b2 : (s.edit.do' == 2) = false := by simp [h5]
 have b3 : (s.edit.do' == 3) = false := by simp [h5]
 have b5 : (s.edit.do' == 5) = true := by simp [h5]
 obtain ⟨e2, e3, e4, e6, e7, e8, s0, dw, new6, g6, g7, lv, dat⟩ := id U
 have g4 := U.g4
 have gN := dw.nodes
 have m4 : ¬ r4 = r9 := fun e => by rw [e, hr9] at g4; cases g4
 have m6 : ¬ r6 = r9 := fun e => by rw [e, hr9] at g6; cases g6
 have m7 : ¬ r7 = r9 := fun e => by rw [e, hr9] at g7; cases g7
 have mN : ¬ rN = r9 := fun e => by rw [e, hr9] at gN; cases gN
 have w4 : ¬ r9 = r4 := fun e => m4 e.symm
 have w6 : ¬ r9 = r6 := fun e => m6 e.symm
 have w7 : ¬ r9 = r7 := fun e => m7 e.symm
 have wN : ¬ r9 = rN := fun e => mN e.symm
 have n6 : ¬ r6 = rN := fun e => dw.new.2 (by simp [e])
 have n7 : ¬ r7 = rN := fun e => dw.new.2 (by simp [e])
 have n4 : ¬ r4 = rN := fun e => by have := dw.new.1; rw [<- e, s0.2, Q2] at this; cases this
 have n46 : ¬ r4 = r6 := fun e => by have h2 := new6; rw [<- e, s0.2, Q2] at h2; cases h2
 have v6 : ¬ rN = r6 := fun e => n6 e.symm
 have v7 : ¬ rN = r7 := fun e => n7 e.symm
 have v4 : ¬ rN = r4 := fun e => n4 e.symm
 have v46 : ¬ r6 = r4 := fun e => n46 e.symm
 have hat : s.edit.at'.toNat < D.nodes.length := by have := hin.1; have := hin.2; omega
 have a0 := hin.1
 have a1 := hin.2
 have rl := Y5 D sl
 have gk := Y2 (sl := sl) hat
 have e0 : nth D.nodes s.edit.at'.toNat = nd D s.edit.at' := rfl
 have hbad := fun (hb : ¬ Y3 D s) (h1 : Q3) (S : Sub h' h1) => U.bad hb S ⟨.t 24, 2, [[.osl rN 6 0 D.nodes.length, .bool D.quirks]]⟩
 have kl := hU.kids s.edit.at'
 have dl := hU.len
 have eF : Y3 D s ↔ inD D s.edit.at' /\ inD D s.edit.to /\ 0 <= s.place /\ s.place < (nd D s.edit.at').kids.length /\ nth (nd D s.edit.at').kids s.place.toNat = s.edit.to := by unfold Y3; rw [if_neg (by omega), if_neg (by omega), if_neg (by omega), if_neg (by omega), if_pos h5]
 have eD : U2 D s = JT D s.edit.at' s.edit.to (X3 (nd D s.edit.at').kids s.place.toNat) (-1) := by unfold U2; rw [if_neg (by omega), if_neg (by omega), if_neg (by omega), if_neg (by omega), if_pos h5]
 have dk := dat _ hat
 rw [e0] at dk gk
 have hB1 := betD (G := G) s.edit.to 0 ((D.nodes.length : Int) - 1)
 have hB2 := betD (G := G) s.place 0 (((nd D s.edit.at').kids.length : Int) - 1)
 unfold c49_s7
 by_cases ht : inD D s.edit.to
 ·have t0 := ht.1
  have t1 := ht.2
  have ht' : s.edit.to.toNat < D.nodes.length := by omega
  have e1 : nth D.nodes s.edit.to.toNat = nd D s.edit.to := rfl
  have gt := Y2 (sl := sl) ht'
  rw [e1] at gt
  rw [decide_eq_true (by omega)] at hB1
  by_cases hp : 0 <= s.place /\ s.place < (nd D s.edit.at').kids.length
  ·have p0 := hp.1
   have p1 := hp.2
   have hW := without_ok (G := G) (nd D s.edit.at').kids s.place.toNat (by omega) (by omega)
   rw [show ((s.place.toNat : Nat) : Int) = s.place by omega] at hW
   rw [decide_eq_true (by omega)] at hB2
   by_cases hx : nth (nd D s.edit.at').kids s.place.toNat = s.edit.to
   ·have hb : Y3 D s := eF.2 ⟨hin, ht, hp.1, hp.2, hx⟩
    have E2 := dw.slotD hat (l' := X3 (nd D s.edit.at').kids s.place.toNat)
    rw [e0] at E2
    have nn := E2.rows_eq
    by_cases hne : s.edit.at' = s.edit.to
    ·have hto : s.edit.to = s.edit.at' := hne.symm
     have gss := fun (x : List AVal) => ZK (es := Y9 D sl) (x := x) (k := s.edit.at'.toNat) (by rw [rl]; exact hat)
     have n1 : nth (D.nodes.set s.edit.at'.toNat { nd D s.edit.at' with kids := X3 (nd D s.edit.at').kids s.place.toNat }) s.edit.at'.toNat = { nd D s.edit.at' with kids := X3 (nd D s.edit.at').kids s.place.toNat } := by
      rw [QZ _ _ _ _ hat, if_pos rfl]
     have E3 := E2.cells (i := s.edit.at'.toNat) (by simpa using hat) (x' := { nd D s.edit.at' with kids := X3 (nd D s.edit.at').kids s.place.toNat, parent := -1 }) (by show _ = (nth (D.nodes.set _ _) _).attrs; rw [n1]) (by show _ = (nth (D.nodes.set _ _) _).kids; rw [n1])
     rw [<- nn] at E3
     have v1 : upd sl (2 * s.edit.at'.toNat + 1) (Sim.sl J8 (X3 (nd D s.edit.at').kids s.place.toNat)) (2 * s.edit.at'.toNat) = sl (2 * s.edit.at'.toNat) := Q1 _ _ (by omega)
     rw [v1, Q2, JW, List.set_set] at E3
     have fin := UdK.good hb (U.fin ((E3.mono (sub9 (x := ⟨.t 40, 6, [X1 { nd D s.edit.at' with kids := X3 (nd D s.edit.at').kids s.place.toNat } (sl (2 * s.edit.at'.toNat)) (Sim.sl J8 (X3 (nd D s.edit.at').kids s.place.toNat))]⟩) hr9)).less (X' := []) (by simp)) (by simp) ⟨.t 24, 2, [[.osl rN 6 0 D.nodes.length, .bool D.quirks]]⟩) (n := D.nodes.length) (by simp) (by
      rw [eD]; unfold JT; rw [hto, nd_setN_eq hat]
      unfold headD setN; simp [List.take_of_length_le])
     rw [hto] at hB1 hx
     unfold X1 Z1 Z9 at *
     rw [dk] at gk
     skip
     repeat' (first | ((with_reducible refine brC (fun _ => ?_) fun _ => ?_) <;> try (exfalso; omega)) | (with_reducible apply pcallE.of; · exact hB1) | (with_reducible apply pcallE.of; · exact hB2) | (with_reducible apply pcallE.of; · exact hW) | (with_reducible refine And.intro ?_ ?_; · omega) | simp -dsimp -implicitDefEqProofs (disch := omega) only [↓Z3 290, ↓Z3 300, VCA, Nat.reduceEqDiff, Nat.reduceAdd, Nat.reduceLT, Nat.reduceLeDiff, ↓reduceIte, J6, Q5, Z0, exists_eq_left', Z8, J8, e3, e4, e6, e7, e8, e9, g4, g6, g7, gN, dk, gk, gss, hto, hx, rl, List.length_set, XY, m4, m6, m7, mN, n4, n6, n7, b1, b2, b3, b5])
     all_goals try (exfalso; omega)
     exact ⟨_, Sub.refl _, fin⟩
    ·have hnn : s.edit.at'.toNat ≠ s.edit.to.toNat := by omega
     have gne := fun (x : List AVal) => YY (es := Y9 D sl) (x := x) hnn
     have n1 : nth (D.nodes.set s.edit.at'.toNat { nd D s.edit.at' with kids := X3 (nd D s.edit.at').kids s.place.toNat }) s.edit.to.toNat = nd D s.edit.to := by
      rw [QZ _ _ _ _ hat, if_neg (fun h => hnn h.symm)]; rfl
     have E3 := E2.cells (i := s.edit.to.toNat) (by simpa using ht') (x' := { nd D s.edit.to with parent := -1 }) (by show _ = (nth (D.nodes.set _ _) _).attrs; rw [n1]) (by show _ = (nth (D.nodes.set _ _) _).kids; rw [n1])
     rw [<- nn] at E3
     have v1 : upd sl (2 * s.edit.at'.toNat + 1) (Sim.sl J8 (X3 (nd D s.edit.at').kids s.place.toNat)) (2 * s.edit.to.toNat) = sl (2 * s.edit.to.toNat) := Q1 _ _ (by omega)
     have v2 : upd sl (2 * s.edit.at'.toNat + 1) (Sim.sl J8 (X3 (nd D s.edit.at').kids s.place.toNat)) (2 * s.edit.to.toNat + 1) = sl (2 * s.edit.to.toNat + 1) := Q1 _ _ (by omega)
     rw [v1, v2, JW] at E3
     have fin := UdK.good hb (U.fin ((E3.mono (sub9 (x := ⟨.t 40, 6, [X1 { nd D s.edit.at' with kids := X3 (nd D s.edit.at').kids s.place.toNat } (sl (2 * s.edit.at'.toNat)) (Sim.sl J8 (X3 (nd D s.edit.at').kids s.place.toNat))]⟩) hr9)).less (X' := []) (by simp)) (by simp) ⟨.t 24, 2, [[.osl rN 6 0 D.nodes.length, .bool D.quirks]]⟩) (n := D.nodes.length) (by simp) (by
      rw [eD]; unfold JT; rw [nd_setN_ne hnn]
      unfold headD setN; simp [List.take_of_length_le])
     unfold X1 Z1 Z9 at *
     rw [dk] at gk
     skip
     repeat' (first | ((with_reducible refine brC (fun _ => ?_) fun _ => ?_) <;> try (exfalso; omega)) | (with_reducible apply pcallE.of; · exact hB1) | (with_reducible apply pcallE.of; · exact hB2) | (with_reducible apply pcallE.of; · exact hW) | (with_reducible refine And.intro ?_ ?_; · omega) | simp -dsimp -implicitDefEqProofs (disch := omega) only [↓Z3 290, ↓Z3 300, VCA, Nat.reduceEqDiff, Nat.reduceAdd, Nat.reduceLT, Nat.reduceLeDiff, ↓reduceIte, J6, Q5, Z0, exists_eq_left', Z8, J8, e3, e4, e6, e7, e8, e9, g4, g6, g7, gN, dk, gk, gt, gne, hx, rl, List.length_set, m4, m6, m7, mN, n4, n6, n7, b1, b2, b3, b5])
     all_goals try (exfalso; omega)
     exact ⟨_, Sub.refl _, fin⟩
   ·have hb : ¬ Y3 D s := fun h => hx (eF.1 h).2.2.2.2
    unfold X1 Z1 Z9 at *
    rw [dk] at gk
    skip
    repeat' (first | ((with_reducible refine brC (fun _ => ?_) fun _ => ?_) <;> try (exfalso; omega)) | (with_reducible apply pcallE.of; · exact hB1) | (with_reducible apply pcallE.of; · exact hB2) | (with_reducible refine And.intro ?_ ?_; · omega) | simp -dsimp -implicitDefEqProofs (disch := omega) only [↓Z3 290, ↓Z3 300, VCA, Nat.reduceEqDiff, Nat.reduceAdd, Nat.reduceLT, Nat.reduceLeDiff, ↓reduceIte, J6, Q5, Z0, exists_eq_left', Z8, J8, e3, e4, e6, e7, e8, e9, g4, g6, g7, dk, m4, m6, m7, b1, b2, b3, b5])
    all_goals first | (exfalso; omega) | (exfalso; rename_i q; exact hx q) | exact ⟨_, Sub.refl _, hbad hb _ ((Sub.refl h').upd hr9)⟩ | trace_state
  ·have hb : ¬ Y3 D s := fun h => hp ⟨(eF.1 h).2.2.1, (eF.1 h).2.2.2.1⟩
   rw [decide_eq_false (by omega)] at hB2
   unfold X1 Z1 Z9 at *
   skip
   repeat' (first | ((with_reducible refine brC (fun _ => ?_) fun _ => ?_) <;> try (exfalso; omega)) | (with_reducible apply pcallE.of; · exact hB1) | (with_reducible apply pcallE.of; · exact hB2) | (with_reducible refine And.intro ?_ ?_; · omega) | simp -dsimp -implicitDefEqProofs (disch := omega) only [↓Z3 290, ↓Z3 300, VCA, Nat.reduceEqDiff, Nat.reduceAdd, Nat.reduceLT, Nat.reduceLeDiff, ↓reduceIte, J6, Q5, Z0, exists_eq_left', Z8, e3, e4, e6, e7, e8, e9, g4, g6, g7, dk, m4, m6, m7, b1, b2, b3, b5])
   all_goals first | (exfalso; omega) | exact ⟨_, Sub.refl _, hbad hb _ ((Sub.refl h').upd hr9)⟩ | trace_state
 ·have hb : ¬ Y3 D s := fun h => ht (eF.1 h).2.1
  rw [decide_eq_false (by unfold inD at ht; omega)] at hB1
  unfold X1 Z1 Z9 at *
  skip
  repeat' (first | ((with_reducible refine brC (fun _ => ?_) fun _ => ?_) <;> try (exfalso; omega)) | (with_reducible apply pcallE.of; · exact hB1) | (with_reducible apply pcallE.of; · exact hB2) | (with_reducible refine And.intro ?_ ?_; · omega) | simp -dsimp -implicitDefEqProofs (disch := omega) only [↓Z3 290, ↓Z3 300, VCA, Nat.reduceEqDiff, Nat.reduceAdd, Nat.reduceLT, Nat.reduceLeDiff, ↓reduceIte, J6, Q5, Z0, exists_eq_left', Z8, e4, e6, e7, e8, g4, g6, g7, dk, m4, m6, m7, b1, b2, b3, b5])
  all_goals first | (exfalso; omega) | exact ⟨_, Sub.refl _, hbad hb _ ((Sub.refl h').upd hr9)⟩ | trace_state
theorem YZ {h : Q3} {r : Nat} {x : AObj} (hr : h r = none) : del (upd h r (some x)) r = h := by
 funext t
 by_cases e : t = r
 ·subst e; rw [hr]; simp [del]
 ·simp [del, upd, e]
theorem undone_6 {D : HDoc} {s : HStep} {h h0 h' : Q3} {r4 r6 r7 r9 rN k0 : Nat} {sl : Nat -> AVal} {E : Env} (U : UdS D s h h0 h' r4 r6 r7 rN sl E) (hU : USm k0 D) (hk0 : k0 <= 1000) (hs : StepSm s) (hin : inD D s.edit.at') (h6 : s.edit.do' = 6)
  (e9 : E 9 = .vp r9 0) (hr9 : h' r9 = none) : vc (Pg G) c49_s7 (KW [.cell 4 2 true, .tmp 5] (UdK D s h)) E (upd h' r9 (some ⟨.t 40, 6, [X1 (nd D s.edit.at') (sl (2 * s.edit.at'.toNat)) (sl (2 * s.edit.at'.toNat + 1))]⟩)) := by
 have b1 : (s.edit.do' == 1) = false := by simp [h6]
 have b2 : (s.edit.do' == 2) = false := by simp [h6]
 have b3 : (s.edit.do' == 3) = false := by simp [h6]
 have b5 : (s.edit.do' == 5) = false := by simp [h6]
 obtain ⟨e2, e3, e4, e6, e7, e8, s0, dw, new6, g6, g7, lv, dat⟩ := id U
 have g4 := U.g4
 have gN := dw.nodes
 have m4 : ¬ r4 = r9 := fun e => by rw [e, hr9] at g4; cases g4
 have m6 : ¬ r6 = r9 := fun e => by rw [e, hr9] at g6; cases g6
 have m7 : ¬ r7 = r9 := fun e => by rw [e, hr9] at g7; cases g7
 have mN : ¬ rN = r9 := fun e => by rw [e, hr9] at gN; cases gN
 have w4 : ¬ r9 = r4 := fun e => m4 e.symm
 have w6 : ¬ r9 = r6 := fun e => m6 e.symm
 have w7 : ¬ r9 = r7 := fun e => m7 e.symm
 have wN : ¬ r9 = rN := fun e => mN e.symm
 have n6 : ¬ r6 = rN := fun e => dw.new.2 (by simp [e])
 have n7 : ¬ r7 = rN := fun e => dw.new.2 (by simp [e])
 have n4 : ¬ r4 = rN := fun e => by have := dw.new.1; rw [<- e, s0.2, Q2] at this; cases this
 have n46 : ¬ r4 = r6 := fun e => by have h2 := new6; rw [<- e, s0.2, Q2] at h2; cases h2
 have v6 : ¬ rN = r6 := fun e => n6 e.symm
 have v7 : ¬ rN = r7 := fun e => n7 e.symm
 have v4 : ¬ rN = r4 := fun e => n4 e.symm
 have v46 : ¬ r6 = r4 := fun e => n46 e.symm
 have hat : s.edit.at'.toNat < D.nodes.length := by have := hin.1; have := hin.2; omega
 have a0 := hin.1
 have a1 := hin.2
 have rl := Y5 D sl
 have gk := Y2 (sl := sl) hat
 have e0 : nth D.nodes s.edit.at'.toNat = nd D s.edit.at' := rfl
 have hbad := fun (hb : ¬ Y3 D s) (h1 : Q3) (S : Sub h' h1) => U.bad hb S ⟨.t 24, 2, [[.osl rN 6 0 D.nodes.length, .bool D.quirks]]⟩
 have dl := hU.len
 have eF : Y3 D s ↔ inD D s.parent /\ inD D s.edit.at' /\ s.edit.at' ≠ 0 /\ (nd D s.edit.at').parent = -1 /\ 0 <= s.place /\ s.place <= (nd D s.parent).kids.length := by unfold Y3; rw [if_neg (by omega), if_neg (by omega), if_neg (by omega), if_neg (by omega), if_neg (by omega), if_pos h6]
 have eD : U2 D s = JT D s.parent s.edit.at' (J9 (nd D s.parent).kids s.place.toNat s.edit.at') s.parent := by unfold U2; rw [if_neg (by omega), if_neg (by omega), if_neg (by omega), if_neg (by omega), if_neg (by omega)]
 have dk := dat _ hat
 rw [e0] at dk gk
 have hB1 := betD (G := G) s.parent 0 ((D.nodes.length : Int) - 1)
 have hB2 := betD (G := G) s.place 0 ((nd D s.parent).kids.length : Int)
 unfold c49_s7
 by_cases hz : s.edit.at' ≠ 0 /\ (nd D s.edit.at').parent = -1
 ·obtain ⟨z0, z1⟩ := hz
  have bz0 : (s.edit.at' == 0) = false := by simp [z0]
  have bz1 : ((nd D s.edit.at').parent != -1) = false := by simp [z1]
  by_cases ht : inD D s.parent
  ·have t0 := ht.1
   have t1 := ht.2
   have ht' : s.parent.toNat < D.nodes.length := by omega
   have e1 : nth D.nodes s.parent.toNat = nd D s.parent := rfl
   have gt := Y2 (sl := sl) ht'
   have dt := dat _ ht'
   rw [e1] at gt dt
   have kl := hU.kids s.parent
   rw [decide_eq_true (by omega)] at hB1
   by_cases hp : 0 <= s.place /\ s.place <= (nd D s.parent).kids.length
   ·have p0 := hp.1
    have p1 := hp.2
    rw [decide_eq_true (by omega)] at hB2
    have hb : Y3 D s := eF.2 ⟨ht, hin, z0, z1, hp.1, hp.2⟩
    have E2 := dw.cells hat (x' := { nd D s.edit.at' with parent := s.parent }) rfl rfl
    have nn := E2.rows_eq
    by_cases hne : s.edit.at' = s.parent
    ·have hto : s.parent = s.edit.at' := hne.symm
     have gss := fun (x : List AVal) => ZK (es := Y9 D sl) (x := x) (k := s.edit.at'.toNat) (by rw [rl]; exact hat)
     have n1 : nth (D.nodes.set s.edit.at'.toNat { nd D s.edit.at' with parent := s.parent }) s.edit.at'.toNat = { nd D s.edit.at' with parent := s.parent } := by
      rw [QZ _ _ _ _ hat, if_pos rfl]
     have E3 := E2.slotD (i := s.edit.at'.toNat) (by simpa using hat) (l' := J9 (nd D s.edit.at').kids s.place.toNat s.edit.at')
     rw [<- nn] at E3
     dsimp only at E3
     rw [n1, JW, List.set_set, List.set_set] at E3
     have fin := UdK.good hb (U.fin ((E3.mono (sub9 (x := ⟨.t 40, 6, [X1 { nd D s.edit.at' with parent := s.parent } (sl (2 * s.edit.at'.toNat)) (sl (2 * s.edit.at'.toNat + 1))]⟩) hr9)).less (X' := []) (by simp)) (by simp) ⟨.t 24, 2, [[.osl rN 6 0 D.nodes.length, .bool D.quirks]]⟩) (n := D.nodes.length) (by simp) (by
      rw [eD]; unfold JT; rw [hto, nd_setN_eq hat]
      unfold headD setN; simp [List.take_of_length_le])
     rw [dk, hto] at fin
     rw [hto] at hB1 hB2 kl p1
     unfold X1 Z1 Z9 at *
     rw [dk] at gk
     skip
     repeat' (first | ((with_reducible refine brC (fun _ => ?_) fun _ => ?_) <;> try (exfalso; omega)) | (with_reducible apply pcallE.of; · exact hB1) | (with_reducible apply pcallE.of; · exact hB2) | (with_reducible refine And.intro ?_ ?_; · omega) | simp -dsimp -implicitDefEqProofs (disch := omega) only [↓Z3 90, ↓Z3 95, ↓Z3 103, VCA, ↓Y4, Nat.reduceEqDiff, Nat.reduceBEq, Nat.reduceAdd, Nat.reduceLT, Nat.reduceLeDiff, ↓reduceIte, J6, Q5, SOp.rd, SI.rd, SX.rd, Y1, Z0, implies_true, forall_const, forall_eq, ne_eq, exists_eq_left, exists_eq_left', Z8, e3, e4, e6, e7, e8, e9, g6, g7, gN, dk, gk, gss, hto, bz0, bz1, rl, List.length_set, m6, m7, mN, n4, n6, n7, b1, b2, b3, b5])
     all_goals try (exfalso; omega)
     have lt := List.length_take (i := s.place.toNat) (l := (nd D s.edit.at').kids)
     rw [Nat.min_eq_left (by omega)] at lt
     refine ⟨by omega, by omega, fun r hr => ?_⟩
     obtain ⟨q1, q2, q3⟩ := hr
     have q7 : ¬ r7 = r := fun e => by rw [<- e, g7] at q3; cases q3
     have q6 : ¬ r6 = r := fun e => by rw [<- e, g6] at q3; cases q3
     have q4 : ¬ r4 = r := fun e => by rw [<- e, g4] at q3; cases q3
     have dd : ∀ A B x, del (upd (upd (upd h' r9 (some A)) rN (some B)) r (some x)) r = upd (upd h' r9 (some A)) rN (some B) := fun A B x => YZ (by rw [Q1 _ _ q1, Q1 _ _ q2]; exact q3)
     simp only [dd, if_neg q6, if_neg q7]
     refine ⟨⟨trivial, trivial⟩, by omega, by omega, fun r' hr' => ?_⟩
     have j2 : ¬ r' = rN := fun e => by rw [e, Q2] at hr'; cases hr'
     rw [Q1 _ _ j2] at hr'
     have j9 : ¬ r' = r9 := fun e => by rw [e, Q2] at hr'; cases hr'
     rw [Q1 _ _ j9] at hr'
     have j6 : ¬ r6 = r' := fun e => by rw [<- e, g6] at hr'; cases hr'
     have j7 : ¬ r7 = r' := fun e => by rw [<- e, g7] at hr'; cases hr'
     have j4 : ¬ r4 = r' := fun e => by rw [<- e, g4] at hr'; cases hr'
     have jN : ¬ rN = r' := fun e => j2 e.symm
     have i9 : ¬ r9 = r' := fun e => j9 e.symm
     have dd2 : ∀ A B x, del (upd (upd (upd h' r9 (some A)) rN (some B)) r' (some x)) r' = upd (upd h' r9 (some A)) rN (some B) := fun A B x => YZ (by rw [Q1 _ _ j2, Q1 _ _ j9]; exact hr')
     have tl := List.length_drop (i := s.place.toNat) (l := (nd D s.edit.at').kids)
     have al : (List.map J8 (List.take s.place.toNat (nd D s.edit.at').kids) ++ [[AVal.int IntKind.i64 s.edit.at']]).length = s.place.toNat + 1 := by rw [List.length_append, List.length_map, lt]; rfl
     rw [if_neg j6, Q1 _ _ n6, Q1 _ _ m6, g6]
     refine ⟨rfl, by omega, by omega, by omega, ?_⟩
     simp only [dd2]
     simp -dsimp -implicitDefEqProofs (disch := omega) only [VCA, Nat.reduceAdd, Nat.reduceLT, ↓reduceIte, exists_eq_left', m4, m6, n4, n6, g4, g6, rl, List.length_set, gss, XY]
     refine ⟨⟨a0, a1⟩, hat, _, Sub.refl _, ?_⟩
     unfold J9 Sim.sl at fin
     simp only [List.map_append, List.map_cons] at fin
     rw [lt, List.take_of_length_le (Nat.le_of_eq al), List.append_assoc]
     exact fin
    ·have hnn : s.edit.at'.toNat ≠ s.parent.toNat := by omega
     have n1 : nth (D.nodes.set s.edit.at'.toNat { nd D s.edit.at' with parent := s.parent }) s.parent.toNat = nd D s.parent := by
      rw [QZ _ _ _ _ hat, if_neg (fun h => hnn h.symm)]; rfl
     have E3 := E2.slotD (i := s.parent.toNat) (by simpa using ht') (l' := J9 (nd D s.parent).kids s.place.toNat s.edit.at')
     rw [<- nn] at E3
     dsimp only at E3
     rw [n1, JW] at E3
     have fin := UdK.good hb (U.fin ((E3.mono (sub9 (x := ⟨.t 40, 6, [X1 { nd D s.edit.at' with parent := s.parent } (sl (2 * s.edit.at'.toNat)) (sl (2 * s.edit.at'.toNat + 1))]⟩) hr9)).less (X' := []) (by simp)) (by simp) ⟨.t 24, 2, [[.osl rN 6 0 D.nodes.length, .bool D.quirks]]⟩) (n := D.nodes.length) (by simp) (by
      rw [eD]; unfold JT; rw [nd_setN_ne (fun h => hnn h.symm)]
      unfold headD setN; rw [List.set_comm _ _ hnn]; simp [List.take_of_length_le])
     rw [dk] at fin
     have gne := fun (x : List AVal) => YY (es := Y9 D sl) (x := x) hnn
     unfold X1 Z1 Z9 at *
     rw [dk] at gk
     rw [dt] at gt
     skip
     repeat' (first | ((with_reducible refine brC (fun _ => ?_) fun _ => ?_) <;> try (exfalso; omega)) | (with_reducible apply pcallE.of; · exact hB1) | (with_reducible apply pcallE.of; · exact hB2) | (with_reducible refine And.intro ?_ ?_; · omega) | simp -dsimp -implicitDefEqProofs (disch := omega) only [↓Z3 90, ↓Z3 95, ↓Z3 103, VCA, ↓Y4, Nat.reduceEqDiff, Nat.reduceBEq, Nat.reduceAdd, Nat.reduceLT, Nat.reduceLeDiff, ↓reduceIte, J6, Q5, SOp.rd, SI.rd, SX.rd, Y1, Z0, implies_true, forall_const, forall_eq, ne_eq, exists_eq_left, exists_eq_left', Z8, e3, e4, e6, e7, e8, e9, g6, g7, gN, dk, gk, gt, gne, bz0, bz1, rl, List.length_set, m6, m7, mN, n4, n6, n7, b1, b2, b3, b5])
     all_goals try (exfalso; omega)
     have lt := List.length_take (i := s.place.toNat) (l := (nd D s.parent).kids)
     rw [Nat.min_eq_left (by omega)] at lt
     refine ⟨by omega, by omega, fun r hr => ?_⟩
     obtain ⟨q1, q2, q3⟩ := hr
     have q7 : ¬ r7 = r := fun e => by rw [<- e, g7] at q3; cases q3
     have q6 : ¬ r6 = r := fun e => by rw [<- e, g6] at q3; cases q3
     have q4 : ¬ r4 = r := fun e => by rw [<- e, g4] at q3; cases q3
     have dd : ∀ A B x, del (upd (upd (upd h' r9 (some A)) rN (some B)) r (some x)) r = upd (upd h' r9 (some A)) rN (some B) := fun A B x => YZ (by rw [Q1 _ _ q1, Q1 _ _ q2]; exact q3)
     simp only [dd, if_neg q6, if_neg q7]
     refine ⟨⟨trivial, trivial⟩, by omega, by omega, fun r' hr' => ?_⟩
     have j2 : ¬ r' = rN := fun e => by rw [e, Q2] at hr'; cases hr'
     rw [Q1 _ _ j2] at hr'
     have j9 : ¬ r' = r9 := fun e => by rw [e, Q2] at hr'; cases hr'
     rw [Q1 _ _ j9] at hr'
     have j6 : ¬ r6 = r' := fun e => by rw [<- e, g6] at hr'; cases hr'
     have j7 : ¬ r7 = r' := fun e => by rw [<- e, g7] at hr'; cases hr'
     have j4 : ¬ r4 = r' := fun e => by rw [<- e, g4] at hr'; cases hr'
     have jN : ¬ rN = r' := fun e => j2 e.symm
     have i9 : ¬ r9 = r' := fun e => j9 e.symm
     have dd2 : ∀ A B x, del (upd (upd (upd h' r9 (some A)) rN (some B)) r' (some x)) r' = upd (upd h' r9 (some A)) rN (some B) := fun A B x => YZ (by rw [Q1 _ _ j2, Q1 _ _ j9]; exact hr')
     have tl := List.length_drop (i := s.place.toNat) (l := (nd D s.parent).kids)
     have al : (List.map J8 (List.take s.place.toNat (nd D s.parent).kids) ++ [[AVal.int IntKind.i64 s.edit.at']]).length = s.place.toNat + 1 := by rw [List.length_append, List.length_map, lt]; rfl
     rw [if_neg j6, Q1 _ _ n6, Q1 _ _ m6, g6]
     refine ⟨rfl, by omega, by omega, by omega, ?_⟩
     simp only [dd2]
     simp -dsimp -implicitDefEqProofs (disch := omega) only [VCA, Nat.reduceAdd, Nat.reduceLT, ↓reduceIte, exists_eq_left', m4, m6, n4, n6, g4, g6, rl, List.length_set, gne, gt]
     refine ⟨⟨t0, t1⟩, ht', _, Sub.refl _, ?_⟩
     unfold J9 Sim.sl at fin
     simp only [List.map_append, List.map_cons] at fin
     rw [lt, List.take_of_length_le (Nat.le_of_eq al), List.append_assoc]
     exact fin
   ·have hb : ¬ Y3 D s := fun h => hp ⟨(eF.1 h).2.2.2.2.1, (eF.1 h).2.2.2.2.2⟩
    rw [decide_eq_false (by omega)] at hB2
    unfold X1 Z1 Z9 at *
    rw [dt] at gt
    skip
    repeat' (first | ((with_reducible refine brC (fun _ => ?_) fun _ => ?_) <;> try (exfalso; omega)) | (with_reducible apply pcallE.of; · exact hB1) | (with_reducible apply pcallE.of; · exact hB2) | (with_reducible refine And.intro ?_ ?_; · omega) | simp -dsimp -implicitDefEqProofs (disch := omega) only [↓Z3 90, ↓Z3 95, ↓Z3 103, VCA, Nat.reduceEqDiff, Nat.reduceAdd, Nat.reduceLT, Nat.reduceLeDiff, ↓reduceIte, J6, Q5, Z0, exists_eq_left', Z8, e3, e4, e6, e7, e8, e9, g4, g6, g7, gN, gt, bz0, bz1, rl, m4, m6, m7, mN, b1, b2, b3, b5])
    all_goals first | (exfalso; omega) | exact ⟨_, Sub.refl _, hbad hb _ ((Sub.refl h').upd hr9)⟩ | trace_state
  ·have hb : ¬ Y3 D s := fun h => ht (eF.1 h).1
   rw [decide_eq_false (by unfold inD at ht; omega)] at hB1
   unfold X1 Z1 Z9 at *
   skip
   repeat' (first | ((with_reducible refine brC (fun _ => ?_) fun _ => ?_) <;> try (exfalso; omega)) | (with_reducible apply pcallE.of; · exact hB1) | (with_reducible apply pcallE.of; · exact hB2) | (with_reducible refine And.intro ?_ ?_; · omega) | simp -dsimp -implicitDefEqProofs (disch := omega) only [↓Z3 90, ↓Z3 95, ↓Z3 103, VCA, Nat.reduceEqDiff, Nat.reduceAdd, Nat.reduceLT, Nat.reduceLeDiff, ↓reduceIte, J6, Q5, Z0, exists_eq_left', Z8, e3, e4, e6, e7, e8, e9, g4, g6, g7, bz0, bz1, m4, m6, m7, b1, b2, b3, b5])
   all_goals first | (exfalso; omega) | exact ⟨_, Sub.refl _, hbad hb _ ((Sub.refl h').upd hr9)⟩ | trace_state
 ·have hb : ¬ Y3 D s := fun h => hz ⟨(eF.1 h).2.2.1, (eF.1 h).2.2.2.1⟩
  unfold X1 Z1 Z9 at *
  skip
  by_cases z0 : s.edit.at' = 0
  ·have bz0 : (s.edit.at' == 0) = true := by simp [z0]
   repeat' (first | ((with_reducible refine brC (fun _ => ?_) fun _ => ?_) <;> try (exfalso; omega)) | (with_reducible refine And.intro ?_ ?_; · omega) | simp -dsimp -implicitDefEqProofs (disch := omega) only [↓Z3 90, ↓Z3 95, ↓Z3 103, VCA, Nat.reduceEqDiff, Nat.reduceAdd, Nat.reduceLT, Nat.reduceLeDiff, ↓reduceIte, J6, Q5, Z0, exists_eq_left', Z8, e4, e6, e7, g4, g6, g7, bz0, m4, m6, m7, b1, b2, b3, b5])
   all_goals first | (exfalso; omega) | exact ⟨_, Sub.refl _, hbad hb _ ((Sub.refl h').upd hr9)⟩ | trace_state
  ·have bz0 : (s.edit.at' == 0) = false := by simp [z0]
   have bz1 : ((nd D s.edit.at').parent != -1) = true := by simp; exact fun e => hz ⟨z0, e⟩
   repeat' (first | ((with_reducible refine brC (fun _ => ?_) fun _ => ?_) <;> try (exfalso; omega)) | (with_reducible refine And.intro ?_ ?_; · omega) | simp -dsimp -implicitDefEqProofs (disch := omega) only [↓Z3 90, ↓Z3 95, ↓Z3 103, VCA, Nat.reduceEqDiff, Nat.reduceAdd, Nat.reduceLT, Nat.reduceLeDiff, ↓reduceIte, J6, Q5, Z0, exists_eq_left', Z8, e4, e6, e7, e9, g4, g6, g7, bz0, bz1, m4, m6, m7, b1, b2, b3, b5])
   all_goals first | (exfalso; omega) | exact ⟨_, Sub.refl _, hbad hb _ ((Sub.refl h').upd hr9)⟩ | trace_state
theorem scalAt (a : List UInt8) (b : Bool) : Scal (.tup [.str a, .bool b]) := .tup _ fun j x hj => by
 match j, hj with
 | 0, h => cases h; exact .str _
 | 1, h => cases h; exact .bool _
theorem attrOf_own {h : Q3} {l : List HAttr} {a : AVal} (O : OwnS h 96 2 (l.map Z7) a) (name : List UInt8) (hl : l.length <= 1073741824) : DCalls (Pg G) 94 [a, .str name] h fun r h' => r = .tup [.str (UY l name).1, .bool (decide (0 <= Z4 l name))] /\ h' = h := by
 have h1 := attrOf_ok (G := G) l name hl
 rw [attrOf_has] at h1
 exact DCalls.bor h1 (scalAt _ _) (.cons O.vw (.cons (.refl _) .nil))
theorem sub9d {h' : Q3} {r9 rA rN : Nat} {x y z : AObj} (hr9 : h' r9 = none) : Sub (upd (del h' rA) rN (some y)) (upd (upd (del (upd h' r9 (some z)) rA) r9 (some x)) rN (some y)) := fun t o ht => by
 by_cases e : t = rN
 ·subst e; rw [Q2] at ht ⊢; exact ht
 ·rw [Q1 _ _ e] at ht ⊢
  have h1 : t ≠ rA /\ h' t = some o := by
   unfold del at ht
   split at ht
   ·cases ht
   ·exact ⟨by assumption, ht⟩
  have h2 : t ≠ r9 := fun q => by rw [q, hr9] at h1; cases h1.2
  rw [Q1 _ _ h2]
  unfold del
  rw [if_neg h1.1, Q1 _ _ h2]; exact h1.2
theorem undone_2 {D : HDoc} {s : HStep} {h h0 h' : Q3} {r4 r6 r7 r9 rN k0 : Nat} {sl : Nat -> AVal} {E : Env} (U : UdS D s h h0 h' r4 r6 r7 rN sl E) (hU : USm k0 D) (hk0 : k0 <= 1000) (hs : StepSm s) (hin : inD D s.edit.at') (h2 : s.edit.do' = 2)
  (e9 : E 9 = .vp r9 0) (hr9 : h' r9 = none) : vc (Pg G) c49_s7 (KW [.cell 4 2 true, .tmp 5] (UdK D s h)) E (upd h' r9 (some ⟨.t 40, 6, [X1 (nd D s.edit.at') (sl (2 * s.edit.at'.toNat)) (sl (2 * s.edit.at'.toNat + 1))]⟩)) := by
 have b1 : (s.edit.do' == 1) = false := by simp [h2]
 have b2 : (s.edit.do' == 2) = true := by simp [h2]
 obtain ⟨e2, e3, e4, e6, e7, e8, s0, dw, new6, g6, g7, lv, dat⟩ := id U
 have g4 := U.g4
 have gN := dw.nodes
 have m4 : ¬ r4 = r9 := fun e => by rw [e, hr9] at g4; cases g4
 have m6 : ¬ r6 = r9 := fun e => by rw [e, hr9] at g6; cases g6
 have m7 : ¬ r7 = r9 := fun e => by rw [e, hr9] at g7; cases g7
 have mN : ¬ rN = r9 := fun e => by rw [e, hr9] at gN; cases gN
 have w4 : ¬ r9 = r4 := fun e => m4 e.symm
 have w6 : ¬ r9 = r6 := fun e => m6 e.symm
 have w7 : ¬ r9 = r7 := fun e => m7 e.symm
 have wN : ¬ r9 = rN := fun e => mN e.symm
 have n6 : ¬ r6 = rN := fun e => dw.new.2 (by simp [e])
 have n7 : ¬ r7 = rN := fun e => dw.new.2 (by simp [e])
 have n4 : ¬ r4 = rN := fun e => by have := dw.new.1; rw [<- e, s0.2, Q2] at this; cases this
 have n46 : ¬ r4 = r6 := fun e => by have h2 := new6; rw [<- e, s0.2, Q2] at h2; cases h2
 have v6 : ¬ rN = r6 := fun e => n6 e.symm
 have v7 : ¬ rN = r7 := fun e => n7 e.symm
 have v4 : ¬ rN = r4 := fun e => n4 e.symm
 have v46 : ¬ r6 = r4 := fun e => n46 e.symm
 have hat : s.edit.at'.toNat < D.nodes.length := by have := hin.1; have := hin.2; omega
 have a0 := hin.1
 have a1 := hin.2
 have rl := Y5 D sl
 have gk := Y2 (sl := sl) hat
 have e0 : nth D.nodes s.edit.at'.toNat = nd D s.edit.at' := rfl
 have hbad := fun (hb : ¬ Y3 D s) (h1 : Q3) (S : Sub h' h1) => U.bad hb S ⟨.t 24, 2, [[.osl rN 6 0 D.nodes.length, .bool D.quirks]]⟩
 have al := hU.attrs s.edit.at'
 have eF : Y3 D s ↔ inD D s.edit.at' /\ (nd D s.edit.at').kind = 2 /\ 0 <= s.place /\ s.place <= (nd D s.edit.at').attrs.length /\ ¬ 0 <= Z4 (nd D s.edit.at').attrs s.edit.name := by unfold Y3; rw [if_neg (by omega), if_pos h2]
 have eD : U2 D s = setN D s.edit.at' { nd D s.edit.at' with attrs := J9 (nd D s.edit.at').attrs s.place.toNat ⟨s.edit.name, s.was⟩ } := by unfold U2; rw [if_neg (by omega), if_pos h2]
 obtain ⟨oA, oK⟩ := dw.own _ hat
 rw [e0] at oA gk
 have oL := oA.len.1
 have oL2 := oA.len.2
 rw [List.length_map] at oL
 have lv2 := lv _ hat
 have hB := betD (G := G) s.place 0 ((nd D s.edit.at').attrs.length : Int)
 have hAt := attrOf_own (G := G) (oA.keep (h2 := upd h' r9 (some ⟨.t 40, 6, [X1 (nd D s.edit.at') (sl (2 * s.edit.at'.toNat)) (sl (2 * s.edit.at'.toNat + 1))]⟩)) fun r o _ ho => by rw [Q1 _ _ (fun e => by rw [e, hr9] at ho; cases ho)]; exact ho) s.edit.name (by omega)
 unfold c49_s7
 by_cases ha : 0 <= Z4 (nd D s.edit.at').attrs s.edit.name
 ·have hb : ¬ Y3 D s := fun h => (eF.1 h).2.2.2.2 ha
  rw [decide_eq_true ha] at hAt
  unfold X1 Z1 Z9 at *
  skip
  repeat' (first | ((with_reducible refine brC (fun _ => ?_) fun _ => ?_) <;> try (exfalso; omega)) | ((refine DCalls.of hAt ?_; rintro _ _ ⟨rfl, rfl⟩)) | (with_reducible refine And.intro ?_ ?_; · omega) | simp -dsimp -implicitDefEqProofs (disch := omega) only [↓Q0 231, ↓Q0 236, VCA, Nat.reduceEqDiff, Nat.reduceAdd, Nat.reduceLT, Nat.reduceLeDiff, ↓reduceIte, Z0, exists_eq_left', e4, e6, e7, e9, g4, g6, g7, m4, m6, m7, b1, b2])
  all_goals first | (exfalso; omega) | exact ⟨_, Sub.refl _, hbad hb _ ((Sub.refl h').upd hr9)⟩ | trace_state
 ·rw [decide_eq_false ha] at hAt
  by_cases hk : (nd D s.edit.at').kind = 2
  ·have bk : ((nd D s.edit.at').kind != 2) = false := by simp [hk]
   by_cases hp : 0 <= s.place /\ s.place <= (nd D s.edit.at').attrs.length
   ·have p0 := hp.1
    have p1 := hp.2
    rw [decide_eq_true (by omega)] at hB
    have hb : Y3 D s := eF.2 ⟨hin, hk, hp.1, hp.2, ha⟩
    rcases oA.live lv2 with ⟨q0, q1⟩ | ⟨rA, es, q1, q2, q3, q4⟩
    ·have q0' : (nd D s.edit.at').attrs = [] := by simpa using q0
     rw [q1] at hAt gk
     have p2 : s.place = 0 := by rw [q0'] at p1; simp at p1; omega
     have hB := betD (G := G) 0 0 0
     rw [decide_eq_true (by omega)] at hB
     have p3 : s.place.toNat = 0 := by omega
     unfold X1 Z1 Z9 at *
     skip
     repeat' (first | ((with_reducible refine brC (fun _ => ?_) fun _ => ?_) <;> try (exfalso; omega)) | (with_reducible apply pcallE.of; · exact hB) | ((refine DCalls.of hAt ?_; rintro _ _ ⟨rfl, rfl⟩)) | (with_reducible refine And.intro ?_ ?_; · omega) | simp -dsimp -implicitDefEqProofs (disch := omega) only [↓Q0 231, ↓Q0 236, VCA, ↓Y4, Nat.reduceEqDiff, Nat.reduceBEq, Nat.reduceAdd, Nat.reduceMul, Nat.reduceLT, Nat.reduceLeDiff, ↓reduceIte, J6, Q5, SOp.rd, SI.rd, SX.rd, Y1, X4, Y0, Z0, implies_true, forall_eq, ne_eq, exists_eq_left, exists_eq_left', Z8, e3, e7, e9, g7, q1, p2, bk, m7, b1, b2])
     all_goals try (exfalso; omega)
     intro r hr
     obtain ⟨q2, q3⟩ := hr
     have dd : ∀ A x, del (upd (upd h' r9 (some A)) r (some x)) r = upd h' r9 (some A) := fun A x => YZ (by rw [Q1 _ _ q2]; exact q3)
     simp only [dd]
     simp -dsimp -implicitDefEqProofs (disch := omega) only [VCA, Nat.reduceAdd, Nat.reduceLT, Nat.reduceLeDiff, ↓reduceIte, exists_eq_left']
     have B := dw.slotA hat (h1 := h') (l' := J9 (nd D s.edit.at').attrs s.place.toNat ⟨s.edit.name, s.was⟩) (a' := Sim.sl Z7 (J9 (nd D s.edit.at').attrs s.place.toNat ⟨s.edit.name, s.was⟩)) (fun r o h _ => h) (.inr (.inl ⟨rfl, fun e he => by obtain ⟨x, _, rfl⟩ := List.mem_map.1 he; rfl⟩)) (fun r hr => by cases hr)
     rw [q0', p3] at B
     exact undone_s8 U hb hin (x := { nd D s.edit.at' with attrs := [⟨s.edit.name, s.was⟩] }) (a := Sim.sl Z7 [⟨s.edit.name, s.was⟩]) (k := sl (2 * s.edit.at'.toNat + 1)) e4 e6 e7 e9 (by rw [Q1 _ _ m6]; exact g6) (by rw [Q1 _ _ m7]; exact g7) (Q2 _ _ _) (by rw [Q1 _ _ mN]; exact gN) (by rw [Q1 _ _ m4]; exact g4) ((B.mono (sub9 hr9)).less (by simp)) (by simp) (by rw [eD, q0', p3]; rfl)
    ·rw [List.length_map] at q1 q3 q4
     obtain ⟨f0, f1, f2⟩ := dw.fresh (2 * s.edit.at'.toNat) (by omega) rA (by rw [q1]; rfl)
     have uN : ¬ rA = rN := f1
     have u6 : ¬ rA = r6 := fun e => f2 (by simp [e])
     have u7 : ¬ rA = r7 := fun e => f2 (by simp [e])
     have u9 : ¬ rA = r9 := fun e => by rw [e, hr9] at q2; cases q2
     have u4 : ¬ rA = r4 := fun e => by rw [e, s0.2, Q2] at f0; cases f0
     have hdr : List.take ((nd D s.edit.at').attrs.length - s.place.toNat) (List.drop s.place.toNat es) = ((nd D s.edit.at').attrs.drop s.place.toNat).map Z7 := by rw [<- List.drop_take, q4, List.map_drop]
     have htk : List.take s.place.toNat es = ((nd D s.edit.at').attrs.take s.place.toNat).map Z7 := by rw [List.map_take, <- q4, List.take_take, Nat.min_eq_left (by omega)]
     have ldr : ((nd D s.edit.at').attrs.drop s.place.toNat).length = (nd D s.edit.at').attrs.length - s.place.toNat := List.length_drop
     have ltk : ((nd D s.edit.at').attrs.take s.place.toNat).length = s.place.toNat := by rw [List.length_take]; omega
     rw [q1] at hAt gk
     unfold X1 Z1 Z9 at *
     skip
     repeat' (first | ((with_reducible refine brC (fun _ => ?_) fun _ => ?_) <;> try (exfalso; omega)) | (with_reducible apply pcallE.of; · exact hB) | ((refine DCalls.of hAt ?_; rintro _ _ ⟨rfl, rfl⟩)) | (with_reducible refine And.intro ?_ ?_; · omega) | simp -dsimp -implicitDefEqProofs (disch := omega) only [↓Q0 231, ↓Q0 236, VCA, Nat.reduceEqDiff, Nat.reduceBEq, Nat.reduceAdd, Nat.reduceLT, Nat.reduceLeDiff, ↓reduceIte, J6, Q5, SOp.rd, SI.rd, SX.rd, Y1, X4, Y0, Z0, forall_eq, exists_eq_left, exists_eq_left', Z8, e3, e7, e9, g7, q1, q2, u9, hdr, htk, ldr, bk, m7, b1, b2])
     all_goals try (exfalso; omega)
     intro r' hr'
     have jr : r' = rA \/ (r' ≠ r9 /\ h' r' = none) := by
      by_cases e : r' = rA
      ·exact .inl e
      ·right
       unfold del at hr'
       rw [if_neg e] at hr'
       have e9 : r' ≠ r9 := fun q => by rw [q, Q2] at hr'; cases hr'
       rw [Q1 _ _ e9] at hr'
       exact ⟨e9, hr'⟩
     have jn : ∀ A, del (upd h' r9 (some A)) rA r' = none := fun A => by
      unfold del
      rcases jr with e | ⟨j1, j2⟩
      ·rw [if_pos e]
      ·split
       ·rfl
       ·rw [Q1 _ _ j1]; exact j2
     have dd : ∀ A x, del (upd (del (upd h' r9 (some A)) rA) r' (some x)) r' = del (upd h' r9 (some A)) rA := fun A x => YZ (jn A)
     have lq : (List.map Z7 (List.take s.place.toNat (nd D s.edit.at').attrs) ++ [[AVal.str s.edit.name, AVal.str s.was]]).length = s.place.toNat + 1 := by rw [List.length_append, List.length_map, ltk]; rfl
     have d9 : ∀ A, del (upd h' r9 (some A)) rA r9 = some A := fun A => by unfold Sim.del; rw [if_neg (fun e => u9 e.symm), Q2]
     have kd : ∀ t o, h' t = some o -> t ≠ rA -> del h' rA t = some o := fun t o ht hn => by unfold Sim.del; rw [if_neg hn]; exact ht
     have kd9 : ∀ A B t o, h' t = some o -> t ≠ rA -> t ≠ r9 -> upd (del (upd h' r9 (some A)) rA) r9 (some B) t = some o := fun A B t o ht h1 h2 => by rw [Q1 _ _ h2]; unfold Sim.del; rw [if_neg h1, Q1 _ _ h2]; exact ht
     refine ⟨_, ⟨rfl, fun e he => by obtain ⟨x, _, rfl⟩ := List.mem_map.1 he; rfl⟩, by rw [lq]; exact Nat.le_refl _, by rw [List.length_map, ldr]; omega, by rw [List.length_map, ldr]; omega, ?_⟩
     simp only [dd]
     simp -dsimp -implicitDefEqProofs (disch := omega) only [VCA, Nat.reduceAdd, Nat.reduceLT, Nat.reduceLeDiff, exists_eq_left', d9, List.take_of_length_le (Nat.le_of_eq lq)]
     have B := dw.slotA hat (h1 := del h' rA) (l' := J9 (nd D s.edit.at').attrs s.place.toNat ⟨s.edit.name, s.was⟩) (a' := Sim.sl Z7 (J9 (nd D s.edit.at').attrs s.place.toNat ⟨s.edit.name, s.was⟩)) (fun r o h hn => kd r o h (fun e => hn (by rw [q1, e]; rfl))) (.inr (.inl ⟨rfl, fun e he => by obtain ⟨x, _, rfl⟩ := List.mem_map.1 he; rfl⟩)) (fun r hr => by cases hr)
     refine undone_s8 U hb hin (x := { nd D s.edit.at' with attrs := J9 (nd D s.edit.at').attrs s.place.toNat ⟨s.edit.name, s.was⟩ }) (a := Sim.sl Z7 (J9 (nd D s.edit.at').attrs s.place.toNat ⟨s.edit.name, s.was⟩)) (k := sl (2 * s.edit.at'.toNat + 1)) e4 e6 e7 e9 (kd9 _ _ _ _ g6 (fun e => u6 e.symm) m6) (kd9 _ _ _ _ g7 (fun e => u7 e.symm) m7) ?_ (kd9 _ _ _ _ gN (fun e => uN e.symm) mN) (kd9 _ _ _ _ g4 (fun e => u4 e.symm) m4) ((B.mono (sub9d hr9)).less (by simp)) (by simp) eD.symm
     have eP : List.map Z7 (List.take s.place.toNat (nd D s.edit.at').attrs) ++ [[AVal.str s.edit.name, AVal.str s.was]] ++ List.map Z7 (List.drop s.place.toNat (nd D s.edit.at').attrs) = (J9 (nd D s.edit.at').attrs s.place.toNat ⟨s.edit.name, s.was⟩).map Z7 := by
      unfold J9; rw [List.map_append, List.map_cons, List.append_assoc]; rfl
     rw [Q2, eP]; rfl
   ·have hb : ¬ Y3 D s := fun h => hp ⟨(eF.1 h).2.2.1, (eF.1 h).2.2.2.1⟩
    rw [decide_eq_false (by omega)] at hB
    unfold X1 Z1 Z9 at *
    skip
    repeat' (first | ((with_reducible refine brC (fun _ => ?_) fun _ => ?_) <;> try (exfalso; omega)) | (with_reducible apply pcallE.of; · exact hB) | ((refine DCalls.of hAt ?_; rintro _ _ ⟨rfl, rfl⟩)) | (with_reducible refine And.intro ?_ ?_; · omega) | simp -dsimp -implicitDefEqProofs (disch := omega) only [↓Q0 231, ↓Q0 236, VCA, Nat.reduceEqDiff, Nat.reduceAdd, Nat.reduceLT, Nat.reduceLeDiff, ↓reduceIte, Z0, exists_eq_left', e3, e4, e6, e7, e9, g4, g6, g7, oL, oL2, bk, m4, m6, m7, b1, b2])
    all_goals first | (exfalso; omega) | exact ⟨_, Sub.refl _, hbad hb _ ((Sub.refl h').upd hr9)⟩ | trace_state
  ·have hb : ¬ Y3 D s := fun h => hk (eF.1 h).2.1
   have bk : ((nd D s.edit.at').kind != 2) = true := by simp [hk]
   unfold X1 Z1 Z9 at *
   skip
   repeat' (first | ((with_reducible refine brC (fun _ => ?_) fun _ => ?_) <;> try (exfalso; omega)) | ((refine DCalls.of hAt ?_; rintro _ _ ⟨rfl, rfl⟩)) | (with_reducible refine And.intro ?_ ?_; · omega) | simp -dsimp -implicitDefEqProofs (disch := omega) only [↓Q0 231, ↓Q0 236, VCA, Nat.reduceEqDiff, Nat.reduceAdd, Nat.reduceLT, Nat.reduceLeDiff, ↓reduceIte, Z0, exists_eq_left', e4, e6, e7, e9, g4, g6, g7, bk, m4, m6, m7, b1, b2])
   all_goals first | (exfalso; omega) | exact ⟨_, Sub.refl _, hbad hb _ ((Sub.refl h').upd hr9)⟩ | trace_state
def reF (name was : List UInt8) (a : HAttr) : HAttr := if a.name = name then ⟨a.name, was⟩ else a
def upto (name was : List UInt8) (l : List HAttr) (k : Nat) : List HAttr := (l.take k).map (reF name was) ++ l.drop k
theorem upto_len {name was : List UInt8} {l : List HAttr} {k : Nat} : (upto name was l k).length = l.length := by
 unfold upto; rw [List.length_append, List.length_map, List.length_take, List.length_drop]; omega
theorem upto_at {name was : List UInt8} {l : List HAttr} {k : Nat} (hk : k < l.length) : nth (upto name was l k) k = nth l k := by
 unfold upto nth
 rw [List.getD_eq_getElem?_getD, List.getD_eq_getElem?_getD, List.getElem?_append_right (by rw [List.length_map, List.length_take]; omega), List.length_map, List.length_take, Nat.min_eq_left (by omega), Nat.sub_self, List.getElem?_drop, Nat.add_zero]
theorem upto_succ {name was : List UInt8} {l : List HAttr} {k : Nat} (hk : k < l.length) : upto name was l (k + 1) = (upto name was l k).set k (reF name was (nth l k)) := by
 have ed : l.drop k = nth l k :: l.drop (k + 1) := by
  rw [List.drop_eq_getElem_cons hk]
  congr 1
  unfold nth; rw [List.getD_eq_getElem?_getD, List.getElem?_eq_getElem hk]; rfl
 unfold upto
 rw [ed, List.set_append_right _ _ (by rw [List.length_map, List.length_take]; omega), List.length_map, List.length_take, Nat.min_eq_left (by omega), Nat.sub_self, KQ hk, List.map_append, List.append_assoc]
 rfl
theorem upto_all {name was : List UInt8} {l : List HAttr} : upto name was l l.length = l.map (reF name was) := by
 unfold upto; rw [List.take_length, List.drop_length, List.append_nil]
theorem names_inj {l : List HAttr} (h : (l.map (·.name)).Nodup) {i j : Nat} (hi : i < l.length) (hj : j < l.length) (he : (nth l i).name = (nth l j).name) : i = j := by
 have ei : (nth l i) = l[i] := by unfold nth; rw [List.getD_eq_getElem?_getD, List.getElem?_eq_getElem hi]; rfl
 have ej : (nth l j) = l[j] := by unfold nth; rw [List.getD_eq_getElem?_getD, List.getElem?_eq_getElem hj]; rfl
 rw [ei, ej] at he
 have hp := List.pairwise_iff_getElem.1 h
 rcases Nat.lt_trichotomy i j with q | q | q
 ·exact absurd (by rw [List.getElem_map, List.getElem_map]; exact he) (hp i j (by simpa using hi) (by simpa using hj) q)
 ·exact q
 ·exact absurd (by rw [List.getElem_map, List.getElem_map]; exact he.symm) (hp j i (by simpa using hj) (by simpa using hi) q)
theorem reF_all {name was : List UInt8} {l : List HAttr} (h : ∀ a ∈ l, a.name ≠ name) : l.map (reF name was) = l := by
 induction l with
 | nil => rfl
 | cons a l ih =>
  rw [List.map_cons, ih fun b hb => h b (List.mem_cons_of_mem _ hb)]
  unfold reF; rw [if_neg (h a List.mem_cons_self)]
theorem set_nth_same {α : Type} [Inhabited α] {l : List α} {k : Nat} (hk : k < l.length) : l.set k (nth l k) = l := by
 apply List.ext_getElem?
 intro j
 rw [List.getElem?_set]
 split
 ·rename_i h; subst h; first | rw [if_pos hk, X7 hk] | rw [X7 hk]
 ·rfl
theorem sub9e {h' : Q3} {r9 rA rN : Nat} {x y z : AObj} (hr9 : h' r9 = none) : Sub (upd (upd h' rA (some z)) rN (some y)) (upd (upd (upd h' r9 (some x)) rA (some z)) rN (some y)) := fun t o ht => by
 by_cases e : t = rN
 ·subst e; rw [Q2] at ht ⊢; exact ht
 ·rw [Q1 _ _ e] at ht ⊢
  by_cases e2 : t = rA
  ·subst e2; rw [Q2] at ht ⊢; exact ht
  ·rw [Q1 _ _ e2] at ht ⊢
   rw [Q1 _ _ (fun q => by rw [q, hr9] at ht; cases ht)]; exact ht
theorem undone_1 {D : HDoc} {s : HStep} {h h0 h' : Q3} {r4 r6 r7 r9 rN k0 : Nat} {sl : Nat -> AVal} {E : Env} (U : UdS D s h h0 h' r4 r6 r7 rN sl E) (hU : USm k0 D) (hk0 : k0 <= 1000) (hs : StepSm s) (hin : inD D s.edit.at') (h1 : s.edit.do' = 1)
  (e9 : E 9 = .vp r9 0) (hr9 : h' r9 = none) : vc (Pg G) c49_s7 (KW [.cell 4 2 true, .tmp 5] (UdK D s h)) E (upd h' r9 (some ⟨.t 40, 6, [X1 (nd D s.edit.at') (sl (2 * s.edit.at'.toNat)) (sl (2 * s.edit.at'.toNat + 1))]⟩)) := by
 have b1 : (s.edit.do' == 1) = true := by simp [h1]
 obtain ⟨e2, e3, e4, e6, e7, e8, s0, dw, new6, g6, g7, lv, dat⟩ := id U
 have g4 := U.g4
 have gN := dw.nodes
 have m4 : ¬ r4 = r9 := fun e => by rw [e, hr9] at g4; cases g4
 have m6 : ¬ r6 = r9 := fun e => by rw [e, hr9] at g6; cases g6
 have m7 : ¬ r7 = r9 := fun e => by rw [e, hr9] at g7; cases g7
 have mN : ¬ rN = r9 := fun e => by rw [e, hr9] at gN; cases gN
 have w4 : ¬ r9 = r4 := fun e => m4 e.symm
 have w6 : ¬ r9 = r6 := fun e => m6 e.symm
 have w7 : ¬ r9 = r7 := fun e => m7 e.symm
 have wN : ¬ r9 = rN := fun e => mN e.symm
 have n6 : ¬ r6 = rN := fun e => dw.new.2 (by simp [e])
 have n7 : ¬ r7 = rN := fun e => dw.new.2 (by simp [e])
 have n4 : ¬ r4 = rN := fun e => by have := dw.new.1; rw [<- e, s0.2, Q2] at this; cases this
 have n46 : ¬ r4 = r6 := fun e => by have h2 := new6; rw [<- e, s0.2, Q2] at h2; cases h2
 have v6 : ¬ rN = r6 := fun e => n6 e.symm
 have v7 : ¬ rN = r7 := fun e => n7 e.symm
 have v4 : ¬ rN = r4 := fun e => n4 e.symm
 have v46 : ¬ r6 = r4 := fun e => n46 e.symm
 have hat : s.edit.at'.toNat < D.nodes.length := by have := hin.1; have := hin.2; omega
 have a0 := hin.1
 have a1 := hin.2
 have rl := Y5 D sl
 have gk := Y2 (sl := sl) hat
 have e0 : nth D.nodes s.edit.at'.toNat = nd D s.edit.at' := rfl
 have hbad := fun (hb : ¬ Y3 D s) (h1 : Q3) (S : Sub h' h1) => U.bad hb S ⟨.t 24, 2, [[.osl rN 6 0 D.nodes.length, .bool D.quirks]]⟩
 have al := hU.attrs s.edit.at'
 have nod := hU.names s.edit.at'
 have eF : Y3 D s ↔ inD D s.edit.at' /\ 0 <= Z4 (nd D s.edit.at').attrs s.edit.name /\ (s.had = true \/ Z4 (nd D s.edit.at').attrs s.edit.name = ((nd D s.edit.at').attrs.length : Int) - 1) := by unfold Y3; rw [if_pos h1]
 have eD : U2 D s = setN D s.edit.at' { nd D s.edit.at' with attrs := if s.had = true then (nd D s.edit.at').attrs.set (Z4 (nd D s.edit.at').attrs s.edit.name).toNat ⟨s.edit.name, s.was⟩ else (nd D s.edit.at').attrs.take (Z4 (nd D s.edit.at').attrs s.edit.name).toNat } := by unfold U2; rw [if_pos h1]
 obtain ⟨oA, oK⟩ := dw.own _ hat
 rw [e0] at oA gk
 have oL := oA.len.1
 have oL2 := oA.len.2
 rw [List.length_map] at oL
 have lv2 := lv _ hat
 have hAt := attrOf_own (G := G) (oA.keep (h2 := upd h' r9 (some ⟨.t 40, 6, [X1 (nd D s.edit.at') (sl (2 * s.edit.at'.toNat)) (sl (2 * s.edit.at'.toNat + 1))]⟩)) fun r o _ ho => by rw [Q1 _ _ (fun e => by rw [e, hr9] at ho; cases ho)]; exact ho) s.edit.name (by omega)
 unfold c49_s7
 by_cases ha : 0 <= Z4 (nd D s.edit.at').attrs s.edit.name
 ·rw [decide_eq_true ha] at hAt
  obtain ⟨i0, i1, i2⟩ := T0 _ _ ha
  rcases oA.live lv2 with ⟨q0, q1⟩ | ⟨rA, es, q1, q2, q3, q4⟩
  ·have : (nd D s.edit.at').attrs = [] := by simpa using q0
   rw [this] at i0; simp at i0
  rw [List.length_map] at q1 q3 q4
  obtain ⟨f0, f1, f2⟩ := dw.fresh (2 * s.edit.at'.toNat) (by omega) rA (by rw [q1]; rfl)
  have uN : ¬ rA = rN := f1
  have u6 : ¬ rA = r6 := fun e => f2 (by simp [e])
  have u7 : ¬ rA = r7 := fun e => f2 (by simp [e])
  have u9 : ¬ rA = r9 := fun e => by rw [e, hr9] at q2; cases q2
  have u4 : ¬ rA = r4 := fun e => by rw [e, s0.2, Q2] at f0; cases f0
  rw [q1] at hAt gk
  have fr : ∀ m, ∀ r, Q8 (AVal.osl rA 2 0 m) = some r -> Q8 (sl (2 * s.edit.at'.toNat)) = some r \/ h' r = none := fun m r hr => by cases hr; left; rw [q1]; rfl
  have kp : ∀ o', ∀ r o, h' r = some o -> Q8 (sl (2 * s.edit.at'.toNat)) ≠ some r -> upd h' rA (some o') r = some o := fun o' r o ho hn => by rw [Q1 _ _ (fun e => hn (by rw [q1, e]; rfl))]; exact ho
  by_cases hw : s.had = true
  ·have hb : Y3 D s := eF.2 ⟨hin, ha, .inl hw⟩
   rw [if_pos hw] at eD
   unfold X1 Z1 Z9 at *
   skip
   repeat' (first | ((with_reducible refine brC (fun _ => ?_) fun _ => ?_) <;> try (exfalso; omega)) | ((refine DCalls.of hAt ?_; rintro _ _ ⟨rfl, rfl⟩)) | (with_reducible refine And.intro ?_ ?_; · omega) | simp -dsimp -implicitDefEqProofs (disch := omega) only [↓Z3 172, ↓Z3 176, VCA, Nat.reduceEqDiff, Nat.reduceAdd, Nat.reduceLT, Nat.reduceLeDiff, ↓reduceIte, J6, Q5, exists_eq_left', Z8, e3, e7, e9, g7, q1, hw, m7, b1])
   all_goals try (exfalso; omega)
   obtain ⟨L0, hL0⟩ : ∃ L0, L0 = (nd D s.edit.at').attrs := ⟨_, rfl⟩
   have M0 : L0.length = (nd D s.edit.at').attrs.length := by rw [hL0]
   have q5 : es.take (nd D s.edit.at').attrs.length = L0.map Z7 := by rw [hL0]; exact q4
   have q6 : (nd D s.edit.at').attrs.length <= es.length := by omega
   have hfin : L0.map (reF s.edit.name s.was) = (nd D s.edit.at').attrs.set (Z4 (nd D s.edit.at').attrs s.edit.name).toNat ⟨s.edit.name, s.was⟩ := by
    rw [hL0]
    have hsm := setAttr_map (l := (nd D s.edit.at').attrs) (name := s.edit.name) (value := s.was) nod
    rw [if_pos ha, List.append_nil] at hsm
    unfold U3 at hsm
    rw [if_pos ha] at hsm
    exact hsm.symm
   obtain ⟨R9, hR9⟩ : ∃ R9 : AObj, R9 = ⟨.t 40, 6, [[Q7 (nd D s.edit.at').kind, .str (nd D s.edit.at').name, .osl rA 2 0 (nd D s.edit.at').attrs.length, .str (nd D s.edit.at').text, Q7 (nd D s.edit.at').parent, sl (2 * s.edit.at'.toNat + 1)]]⟩ := ⟨_, rfl⟩
   refine LoopVC.intro (fun m E h2 => ∃ (k : Nat) (es' : List (List AVal)), k <= (nd D s.edit.at').attrs.length /\ m = (nd D s.edit.at').attrs.length - k /\ E 2 = .pin (Z2 D) /\ E 3 = .pin (Z9 s) /\ E 4 = .vp r4 0 /\ E 6 = .vp r6 0 /\ E 7 = .vp r7 0 /\ E 9 = .vp r9 0 /\ E 13 = Q7 k /\ h2 = upd (upd h' r9 (some R9)) rA (some ⟨.t 96, 2, es'⟩) /\ es'.length = es.length /\ es'.take (nd D s.edit.at').attrs.length = (upto s.edit.name s.was L0 k).map Z7) (nd D s.edit.at').attrs.length
    ⟨0, es, by omega, by omega, e2, e3, e4, e6, e7, e9, rfl, by rw [hR9]; exact (upd_id (by rw [Q1 _ _ u9]; exact q2)).symm, rfl, by rw [q5]; rfl⟩ ?_
   clear e2 e3 e4 e6 e7 e9
   rintro m E h2 ⟨k, es', hk, rfl, e2, e3, e4, e6, e7, e9, e13, hh2, l', t'⟩
   have g9' : h2 r9 = some ⟨.t 40, 6, [[Q7 (nd D s.edit.at').kind, .str (nd D s.edit.at').name, .osl rA 2 0 (nd D s.edit.at').attrs.length, .str (nd D s.edit.at').text, Q7 (nd D s.edit.at').parent, sl (2 * s.edit.at'.toNat + 1)]]⟩ := by rw [hh2, Q1 _ _ (fun e => u9 e.symm), Q2, hR9]
   have gA' : h2 rA = some ⟨.t 96, 2, es'⟩ := by rw [hh2, Q2]
   have g7' : h2 r7 = some ⟨.t 42, 12, [Z1 s.edit]⟩ := by rw [hh2, Q1 _ _ (fun e => u7 e.symm), Q1 _ _ m7]; exact g7
   have uu : ∀ x, upd h2 rA x = upd (upd h' r9 (some R9)) rA x := fun x => by rw [hh2]; exact JW _ _ _ _
   unfold Z1 at g7'
   unfold Z9 at e3
   simp -dsimp -implicitDefEqProofs (disch := omega) only [VCA, Nat.reduceEqDiff, Nat.reduceAdd, Nat.reduceLT, Nat.reduceLeDiff, ↓reduceIte, exists_eq_left', Z2, e9, e13, g9']
   refine Br.dec (fun hlt => ?_) (fun hge => ?_)
   ·have hk' : k < (nd D s.edit.at').attrs.length := by omega
    have gi := ZU t' (k := k) (by rw [upto_len]; omega)
    rw [upto_at (by omega)] at gi
    obtain ⟨x, hxx⟩ : ∃ x, nth L0 k = x := ⟨_, rfl⟩
    rw [hxx] at gi
    have us := upto_succ (name := s.edit.name) (was := s.was) (l := L0) (k := k) (by omega)
    rw [hxx] at us
    unfold Z7 at gi
    by_cases hxn : x.name = s.edit.name
    ·have bn : (x.name == s.edit.name) = true := by simp [hxn]
     have rx : reF s.edit.name s.was x = ⟨x.name, s.was⟩ := by unfold reF; rw [if_pos hxn]
     repeat' (first | ((with_reducible refine brC (fun _ => ?_) fun _ => ?_) <;> try (exfalso; omega)) | (with_reducible refine And.intro ?_ ?_; · omega) | simp -dsimp -implicitDefEqProofs (disch := omega) only [VCA, Nat.reduceEqDiff, Nat.reduceAdd, Nat.reduceLT, Nat.reduceLeDiff, ↓reduceIte, J6, Q5, Z0, exists_eq_left', Z8, Z2, e2, e3, e4, e6, e7, e9, e13, g9', g7', gA', gi, l', bn, uu])
     all_goals try (exfalso; omega)
     refine ⟨_, by omega, k + 1, es'.set k [.str x.name, .str s.was], by omega, rfl, rfl, by omega, rfl, by rw [List.length_set]; exact l', ?_⟩
     rw [List.take_set, t', us, rx, List.map_set]; rfl
    ·have bn : (x.name == s.edit.name) = false := by simp [hxn]
     have rx : reF s.edit.name s.was x = x := by unfold reF; rw [if_neg hxn]
     repeat' (first | ((with_reducible refine brC (fun _ => ?_) fun _ => ?_) <;> try (exfalso; omega)) | (with_reducible refine And.intro ?_ ?_; · omega) | simp -dsimp -implicitDefEqProofs (disch := omega) only [VCA, Nat.reduceEqDiff, Nat.reduceAdd, Nat.reduceLT, Nat.reduceLeDiff, ↓reduceIte, J6, Q5, exists_eq_left', Z8, Z2, e2, e3, e4, e6, e7, e9, e13, g9', g7', gA', gi, l', bn])
     all_goals try (exfalso; omega)
     refine ⟨_, by omega, k + 1, es', by omega, rfl, rfl, by omega, hh2, l', ?_⟩
     rw [t', us, rx, <- hxx, <- upto_at (name := s.edit.name) (was := s.was) (by omega : k < L0.length), set_nth_same (by rw [upto_len]; omega)]
   ·obtain rfl : k = (nd D s.edit.at').attrs.length := by omega
    rw [<- M0, upto_all, hfin] at t'
    have lT : ((nd D s.edit.at').attrs.set (Z4 (nd D s.edit.at').attrs s.edit.name).toNat ⟨s.edit.name, s.was⟩).length = (nd D s.edit.at').attrs.length := by rw [<- hfin, List.length_map]; exact M0
    have B := dw.slotA hat (h1 := upd h' rA (some ⟨.t 96, 2, es'⟩)) (l' := (nd D s.edit.at').attrs.set (Z4 (nd D s.edit.at').attrs s.edit.name).toNat ⟨s.edit.name, s.was⟩) (a' := .osl rA 2 0 (nd D s.edit.at').attrs.length) (kp _) (.inr (.inr ⟨rA, es', by rw [List.length_map, lT], Q2 _ _ _, by rw [List.length_map, lT]; omega, by rw [List.length_map, lT, <- M0]; exact t'⟩)) (fr _)
    simp -dsimp -implicitDefEqProofs (disch := omega) only [VCA, ↓reduceIte]
    exact undone_s8 U hb hin (x := { nd D s.edit.at' with attrs := (nd D s.edit.at').attrs.set (Z4 (nd D s.edit.at').attrs s.edit.name).toNat ⟨s.edit.name, s.was⟩ }) (a := .osl rA 2 0 (nd D s.edit.at').attrs.length) (k := sl (2 * s.edit.at'.toNat + 1)) e4 e6 e7 e9 (by rw [hh2, Q1 _ _ (fun e => u6 e.symm), Q1 _ _ m6]; exact g6) g7' g9' (by rw [hh2, Q1 _ _ (fun e => uN e.symm), Q1 _ _ mN]; exact gN) (by rw [hh2, Q1 _ _ (fun e => u4 e.symm), Q1 _ _ m4]; exact g4) (by rw [hh2]; exact (B.mono (sub9e hr9)).less (by simp)) (by unfold setN; simp) eD.symm
  ·have hw' : s.had = false := by simpa using hw
   rw [if_neg hw] at eD
   have gl := ZU q4 (k := (nd D s.edit.at').attrs.length - 1) (by omega)
   have li : (((nd D s.edit.at').attrs.length : Int) - 1).toNat = (nd D s.edit.at').attrs.length - 1 := by omega
   obtain ⟨y, hy⟩ : ∃ y, nth (nd D s.edit.at').attrs ((nd D s.edit.at').attrs.length - 1) = y := ⟨_, rfl⟩
   rw [hy] at gl
   by_cases hx : y.name = s.edit.name
   ·have il : (Z4 (nd D s.edit.at').attrs s.edit.name).toNat = (nd D s.edit.at').attrs.length - 1 := names_inj nod i0 (by omega) (by rw [i1, hy, hx])
    have hb : Y3 D s := eF.2 ⟨hin, ha, .inr (by omega)⟩
    have bx : (y.name != s.edit.name) = false := by simp [hx]
    unfold X1 Z1 Z9 at *
    unfold Z7 at gl
    skip
    repeat' (first | ((with_reducible refine brC (fun _ => ?_) fun _ => ?_) <;> try (exfalso; omega)) | ((refine DCalls.of hAt ?_; rintro _ _ ⟨rfl, rfl⟩)) | (with_reducible refine And.intro ?_ ?_; · omega) | simp -dsimp -implicitDefEqProofs (disch := omega) only [↓Z3 172, ↓Z3 176, VCA, Nat.reduceEqDiff, Nat.reduceAdd, Nat.reduceLT, Nat.reduceLeDiff, ↓reduceIte, J6, Q5, Z0, exists_eq_left', Z8, e3, e7, e9, g7, q1, q2, u9, hw', gl, li, bx, m7, b1])
    all_goals try (exfalso; omega)
    obtain ⟨L0, hL0⟩ : ∃ L0, L0 = (nd D s.edit.at').attrs.take ((nd D s.edit.at').attrs.length - 1) := ⟨_, rfl⟩
    have M0 : L0.length = ((nd D s.edit.at').attrs.length - 1) := by rw [hL0, List.length_take]; omega
    have q5 : es.take ((nd D s.edit.at').attrs.length - 1) = L0.map Z7 := by rw [hL0]; rw [List.map_take, <- q4, List.take_take, Nat.min_eq_left (by omega)]
    have q6 : ((nd D s.edit.at').attrs.length - 1) <= es.length := by omega
    have hfin : L0.map (reF s.edit.name s.was) = (nd D s.edit.at').attrs.take (Z4 (nd D s.edit.at').attrs s.edit.name).toNat := by
     rw [hL0]
     rw [il]
     refine reF_all fun a ha' he => ?_
     obtain ⟨j, hj, rfl⟩ := List.getElem_of_mem ha'
     rw [List.length_take] at hj
     rw [List.getElem_take] at he
     have : j = (nd D s.edit.at').attrs.length - 1 := names_inj nod (by omega) (by omega) (by
      rw [hy, hx, <- he]; unfold nth; rw [List.getD_eq_getElem?_getD, List.getElem?_eq_getElem (by omega)]; rfl)
     omega
    obtain ⟨R9, hR9⟩ : ∃ R9 : AObj, R9 = ⟨.t 40, 6, [[Q7 (nd D s.edit.at').kind, .str (nd D s.edit.at').name, .osl rA 2 0 ((nd D s.edit.at').attrs.length - 1), .str (nd D s.edit.at').text, Q7 (nd D s.edit.at').parent, sl (2 * s.edit.at'.toNat + 1)]]⟩ := ⟨_, rfl⟩
    refine LoopVC.intro (fun m E h2 => ∃ (k : Nat) (es' : List (List AVal)), k <= ((nd D s.edit.at').attrs.length - 1) /\ m = ((nd D s.edit.at').attrs.length - 1) - k /\ E 2 = .pin (Z2 D) /\ E 3 = .pin (Z9 s) /\ E 4 = .vp r4 0 /\ E 6 = .vp r6 0 /\ E 7 = .vp r7 0 /\ E 9 = .vp r9 0 /\ E 13 = Q7 k /\ h2 = upd (upd h' r9 (some R9)) rA (some ⟨.t 96, 2, es'⟩) /\ es'.length = es.length /\ es'.take ((nd D s.edit.at').attrs.length - 1) = (upto s.edit.name s.was L0 k).map Z7) ((nd D s.edit.at').attrs.length - 1)
     ⟨0, es, by omega, by omega, e2, e3, e4, e6, e7, e9, rfl, by rw [hR9]; exact (upd_id (by rw [Q1 _ _ u9]; exact q2)).symm, rfl, by rw [q5]; rfl⟩ ?_
    clear e2 e3 e4 e6 e7 e9
    rintro m E h2 ⟨k, es', hk, rfl, e2, e3, e4, e6, e7, e9, e13, hh2, l', t'⟩
    have g9' : h2 r9 = some ⟨.t 40, 6, [[Q7 (nd D s.edit.at').kind, .str (nd D s.edit.at').name, .osl rA 2 0 ((nd D s.edit.at').attrs.length - 1), .str (nd D s.edit.at').text, Q7 (nd D s.edit.at').parent, sl (2 * s.edit.at'.toNat + 1)]]⟩ := by rw [hh2, Q1 _ _ (fun e => u9 e.symm), Q2, hR9]
    have gA' : h2 rA = some ⟨.t 96, 2, es'⟩ := by rw [hh2, Q2]
    have g7' : h2 r7 = some ⟨.t 42, 12, [Z1 s.edit]⟩ := by rw [hh2, Q1 _ _ (fun e => u7 e.symm), Q1 _ _ m7]; exact g7
    have uu : ∀ x, upd h2 rA x = upd (upd h' r9 (some R9)) rA x := fun x => by rw [hh2]; exact JW _ _ _ _
    unfold Z1 at g7'
    unfold Z9 at e3
    simp -dsimp -implicitDefEqProofs (disch := omega) only [VCA, Nat.reduceEqDiff, Nat.reduceAdd, Nat.reduceLT, Nat.reduceLeDiff, ↓reduceIte, exists_eq_left', Z2, e9, e13, g9']
    refine Br.dec (fun hlt => ?_) (fun hge => ?_)
    ·have hk' : k < ((nd D s.edit.at').attrs.length - 1) := by omega
     have gi := ZU t' (k := k) (by rw [upto_len]; omega)
     rw [upto_at (by omega)] at gi
     obtain ⟨x, hxx⟩ : ∃ x, nth L0 k = x := ⟨_, rfl⟩
     rw [hxx] at gi
     have us := upto_succ (name := s.edit.name) (was := s.was) (l := L0) (k := k) (by omega)
     rw [hxx] at us
     unfold Z7 at gi
     by_cases hxn : x.name = s.edit.name
     ·have bn : (x.name == s.edit.name) = true := by simp [hxn]
      have rx : reF s.edit.name s.was x = ⟨x.name, s.was⟩ := by unfold reF; rw [if_pos hxn]
      repeat' (first | ((with_reducible refine brC (fun _ => ?_) fun _ => ?_) <;> try (exfalso; omega)) | (with_reducible refine And.intro ?_ ?_; · omega) | simp -dsimp -implicitDefEqProofs (disch := omega) only [VCA, Nat.reduceEqDiff, Nat.reduceAdd, Nat.reduceLT, Nat.reduceLeDiff, ↓reduceIte, J6, Q5, Z0, exists_eq_left', Z8, Z2, e2, e3, e4, e6, e7, e9, e13, g9', g7', gA', gi, l', bn, uu])
      all_goals try (exfalso; omega)
      refine ⟨_, by omega, k + 1, es'.set k [.str x.name, .str s.was], by omega, rfl, rfl, by omega, rfl, by rw [List.length_set]; exact l', ?_⟩
      rw [List.take_set, t', us, rx, List.map_set]; rfl
     ·have bn : (x.name == s.edit.name) = false := by simp [hxn]
      have rx : reF s.edit.name s.was x = x := by unfold reF; rw [if_neg hxn]
      repeat' (first | ((with_reducible refine brC (fun _ => ?_) fun _ => ?_) <;> try (exfalso; omega)) | (with_reducible refine And.intro ?_ ?_; · omega) | simp -dsimp -implicitDefEqProofs (disch := omega) only [VCA, Nat.reduceEqDiff, Nat.reduceAdd, Nat.reduceLT, Nat.reduceLeDiff, ↓reduceIte, J6, Q5, exists_eq_left', Z8, Z2, e2, e3, e4, e6, e7, e9, e13, g9', g7', gA', gi, l', bn])
      all_goals try (exfalso; omega)
      refine ⟨_, by omega, k + 1, es', by omega, rfl, rfl, by omega, hh2, l', ?_⟩
      rw [t', us, rx, <- hxx, <- upto_at (name := s.edit.name) (was := s.was) (by omega : k < L0.length), set_nth_same (by rw [upto_len]; omega)]
    ·obtain rfl : k = ((nd D s.edit.at').attrs.length - 1) := by omega
     rw [<- M0, upto_all, hfin] at t'
     have lT : ((nd D s.edit.at').attrs.take (Z4 (nd D s.edit.at').attrs s.edit.name).toNat).length = ((nd D s.edit.at').attrs.length - 1) := by rw [<- hfin, List.length_map]; exact M0
     have B := dw.slotA hat (h1 := upd h' rA (some ⟨.t 96, 2, es'⟩)) (l' := (nd D s.edit.at').attrs.take (Z4 (nd D s.edit.at').attrs s.edit.name).toNat) (a' := .osl rA 2 0 ((nd D s.edit.at').attrs.length - 1)) (kp _) (.inr (.inr ⟨rA, es', by rw [List.length_map, lT], Q2 _ _ _, by rw [List.length_map, lT]; omega, by rw [List.length_map, lT, <- M0]; exact t'⟩)) (fr _)
     simp -dsimp -implicitDefEqProofs (disch := omega) only [VCA, ↓reduceIte]
     exact undone_s8 U hb hin (x := { nd D s.edit.at' with attrs := (nd D s.edit.at').attrs.take (Z4 (nd D s.edit.at').attrs s.edit.name).toNat }) (a := .osl rA 2 0 ((nd D s.edit.at').attrs.length - 1)) (k := sl (2 * s.edit.at'.toNat + 1)) e4 e6 e7 e9 (by rw [hh2, Q1 _ _ (fun e => u6 e.symm), Q1 _ _ m6]; exact g6) g7' g9' (by rw [hh2, Q1 _ _ (fun e => uN e.symm), Q1 _ _ mN]; exact gN) (by rw [hh2, Q1 _ _ (fun e => u4 e.symm), Q1 _ _ m4]; exact g4) (by rw [hh2]; exact (B.mono (sub9e hr9)).less (by simp)) (by unfold setN; simp) eD.symm
   ·have hb : ¬ Y3 D s := fun hf => by
     rcases (eF.1 hf).2.2 with q | q
     ·exact hw q
     ·have : (Z4 (nd D s.edit.at').attrs s.edit.name).toNat = (nd D s.edit.at').attrs.length - 1 := by omega
      rw [this, hy] at i1
      exact hx i1
    have bx : (y.name != s.edit.name) = true := by simp [hx]
    unfold X1 Z1 Z9 at *
    unfold Z7 at gl
    skip
    repeat' (first | ((with_reducible refine brC (fun _ => ?_) fun _ => ?_) <;> try (exfalso; omega)) | ((refine DCalls.of hAt ?_; rintro _ _ ⟨rfl, rfl⟩)) | (with_reducible refine And.intro ?_ ?_; · omega) | simp -dsimp -implicitDefEqProofs (disch := omega) only [↓Z3 172, ↓Z3 176, VCA, Nat.reduceEqDiff, Nat.reduceAdd, Nat.reduceLT, Nat.reduceLeDiff, ↓reduceIte, J6, Q5, Z0, exists_eq_left', Z8, e3, e4, e6, e7, e9, g4, g6, g7, q1, q2, u9, hw', gl, li, bx, m4, m6, m7, b1])
    all_goals first | (exfalso; omega) | exact ⟨_, Sub.refl _, hbad hb _ ((Sub.refl h').upd hr9)⟩ | trace_state
 ·have hb : ¬ Y3 D s := fun h => ha (eF.1 h).2.1
  rw [decide_eq_false ha] at hAt
  unfold X1 Z1 Z9 at *
  skip
  repeat' (first | ((with_reducible refine brC (fun _ => ?_) fun _ => ?_) <;> try (exfalso; omega)) | ((refine DCalls.of hAt ?_; rintro _ _ ⟨rfl, rfl⟩)) | (with_reducible refine And.intro ?_ ?_; · omega) | simp -dsimp -implicitDefEqProofs (disch := omega) only [↓Z3 172, ↓Z3 176, VCA, Nat.reduceEqDiff, Nat.reduceAdd, Nat.reduceLT, Nat.reduceLeDiff, ↓reduceIte, J6, Q5, Z0, exists_eq_left', Z8, e4, e6, e7, e9, g4, g6, g7, oL, oL2, m4, m6, m7, b1])
  all_goals first | (exfalso; omega) | exact ⟨_, Sub.refl _, hbad hb _ ((Sub.refl h').upd hr9)⟩ | trace_state
theorem undoneR_ok (s : HStep) (hs : StepSm s) : UndoneR G s := fun D k U hk => PCalls.outV fun h => by
 have dl := U.len
 have hB1 : PCalls (Pg G) 76 [Q7 s.edit.do', .int .i64 1, .int .i64 6] (.bool (decide (1 <= s.edit.do' /\ s.edit.do' <= 6))) := betwD_ok (G := G) s.edit.do' 1 6
 have hB2 := betD (G := G) s.edit.at' 0 ((D.nodes.length : Int) - 1)
 show DCalls (Pg G) 49 _ h (UdK D s h)
 refine Q4 Tryz.func49 (by kernel_rfl) hc49 (by rw [Tryz.ntmps49]; simp) (by rw [Tryz.ntmps49]; decide) ?_
 unfold Z9
 simp -dsimp -implicitDefEqProofs (disch := omega) only [VCA, Nat.reduceEqDiff, Nat.reduceAdd, ↓reduceIte, Z2, c49]
 intro r4 hr4
 refine DCalls.of (Own.copyDoc_own (G := G) D U.sm _) ?_
 rintro a h1 ⟨b, sl, rfl, C, dat, dz⟩
 have g4 : h1 r4 = some ⟨.t 24, 2, [[.emp, .bool false]]⟩ := C.sub _ _ (Q2 _ _ _)
 by_cases hp : 0 < D.nodes.length
 ·obtain ⟨rN, rfl⟩ : ∃ rN, b = .osl rN 6 0 D.nodes.length := by
   rcases C.nodes with ⟨e, _⟩ | ⟨rN, e, _⟩
   ·omega
   ·exact ⟨rN, e⟩
  have dw0 := C.dw hp
  simp -dsimp -implicitDefEqProofs (disch := omega) only [VCA, ↓Y4, Nat.reduceEqDiff, Nat.reduceAdd, Nat.reduceLT, Nat.reduceLeDiff, ↓reduceIte, Z0, ne_eq, exists_eq_left']
  intro r6 hr6 r7 hr7
  have m4 : ¬ r4 = r6 := fun e => by rw [e, hr6] at g4; cases g4
  have m7 : ¬ r4 = r7 := fun e => by rw [e, hr7.2] at g4; cases g4
  have n67 : ¬ r6 = r7 := fun e => hr7.1 e.symm
  have gN := dw0.nodes
  have nN6 : ¬ rN = r6 := fun e => by rw [e, hr6] at gN; cases gN
  have nN7 : ¬ rN = r7 := fun e => by rw [e, hr7.2] at gN; cases gN
  have E1 := dw0.more (r := r6) hr6 ⟨.t 24, 2, [[.osl rN 6 0 D.nodes.length, .bool D.quirks]]⟩
  have E2 := (E1.more (r := r7) (by rw [Q1 _ _ hr7.1]; exact hr7.2) ⟨.t 42, 12, [Z1 s.edit]⟩).less (X' := [r6, r7]) (by intro r hr; simp at hr ⊢; omega)
  obtain ⟨hh, hhe⟩ : ∃ hh, hh = upd (upd h1 r6 (some ⟨.t 24, 2, [[.osl rN 6 0 D.nodes.length, .bool D.quirks]]⟩)) r7 (some ⟨.t 42, 12, [Z1 s.edit]⟩) := ⟨_, rfl⟩
  rw [<- hhe] at E2
  have k4 : hh r4 = some ⟨.t 24, 2, [[.emp, .bool false]]⟩ := by rw [hhe, Q1 _ _ m7, Q1 _ _ m4]; exact g4
  have k6 : hh r6 = some ⟨.t 24, 2, [[.osl rN 6 0 D.nodes.length, .bool D.quirks]]⟩ := by rw [hhe, Q1 _ _ n67, Q2]
  have k7 : hh r7 = some ⟨.t 42, 12, [Z1 s.edit]⟩ := by rw [hhe, Q2]
  have kN := E2.nodes
  have new6 : upd h r4 (some ⟨.t 24, 2, [[.emp, .bool false]]⟩) r6 = none := dw0.sub.none hr6
  have hfin := fun (X : List Nat) (d : HDoc) (hx : Q3) (sl1 : Nat -> AVal) (B : Dw X (upd h r4 (some ⟨.t 24, 2, [[.emp, .bool false]]⟩)) hx rN d sl1) (hX : r4 ∉ X) (y : AObj) => B.beside ((Sub.refl h).upd hr4) (Q2 _ _ _) hr4 hX y
  have nX : r4 ∉ [r6, r7] := by simp [m4, m7]
  have hbad := fun (hb : ¬ Y3 D s) => UdK.bad hb (hfin _ _ _ _ E2 nX ⟨.t 24, 2, [[.osl rN 6 0 D.nodes.length, .bool D.quirks]]⟩)
  have w46 : ¬ r6 = r4 := fun e => m4 e.symm
  have w47 : ¬ r7 = r4 := fun e => m7 e.symm
  subst hhe
  by_cases c4 : s.edit.do' = 4
  ·have b4 : (s.edit.do' == 4) = true := by simp [c4]
   have li : ((D.nodes.length : Int) - 1).toNat = D.nodes.length - 1 := by omega
   have eF : Y3 D s ↔ s.place = (D.nodes.length : Int) - 1 /\ 2 <= D.nodes.length /\ (nd D ((D.nodes.length : Int) - 1)).parent = -1 /\ (nd D ((D.nodes.length : Int) - 1)).kids = [] := by unfold Y3; rw [if_neg (by omega), if_neg (by omega), if_neg (by omega), if_pos c4]
   have eD : U2 D s = popN D := by unfold U2; rw [if_neg (by omega), if_neg (by omega), if_neg (by omega), if_pos c4]
   have en : nth D.nodes (D.nodes.length - 1) = nd D ((D.nodes.length : Int) - 1) := by unfold nd; rw [li]
   have o1 : (D.nodes.length : Int) - 1 < 2147483648 := by omega
   by_cases hb : Y3 D s
   ·obtain ⟨q1, q2, q3, q4⟩ := eF.1 hb
    have q5 : (nd D ((D.nodes.length : Int) - 1)).kids.length = 0 := by rw [q4]; rfl
    have E2o := E2.other (r := r6) (by simp) new6 ⟨.t 24, 2, [[.osl rN 6 0 (D.nodes.length - 1), .bool D.quirks]]⟩
    have good := UdK.good hb (hfin _ _ _ _ E2o nX ⟨.t 24, 2, [[.osl rN 6 0 (D.nodes.length - 1), .bool D.quirks]]⟩) (n := D.nodes.length - 1) (by omega) (by rw [eD]; rfl)
    repeat' (first | ((with_reducible refine brC (fun _ => ?_) fun _ => ?_) <;> try (exfalso; omega)) | (with_reducible refine And.intro ?_ ?_; · omega) | simp -dsimp -implicitDefEqProofs (disch := omega) only [↓Q0 33, ↓Q0 37, ↓Q0 47, VCA, Nat.reduceEqDiff, Nat.reduceAdd, Nat.reduceLT, Nat.reduceLeDiff, ↓reduceIte, Z0, exists_eq_left', g4, m4, m7, n67, b4, Q9, en, li])
    all_goals first | (exfalso; omega) | exact ⟨_, Sub.refl _, good⟩ | trace_state
   ·skip
    repeat' (first | ((with_reducible refine brC (fun _ => ?_) fun _ => ?_) <;> try (exfalso; omega)) | (with_reducible refine And.intro ?_ ?_; · omega) | simp -dsimp -implicitDefEqProofs (disch := omega) only [↓Q0 33, ↓Q0 37, ↓Q0 47, VCA, Nat.reduceEqDiff, Nat.reduceAdd, Nat.reduceLT, Nat.reduceLeDiff, ↓reduceIte, Z0, exists_eq_left', g4, m4, m7, n67, b4, Q9, en, li])
    all_goals first | (exfalso; omega) | exact ⟨_, Sub.refl _, hbad hb⟩ | (exfalso; exact hb (eF.2 ⟨by omega, by omega, by omega, List.eq_nil_of_length_eq_zero (by omega)⟩)) | trace_state
  ·have b4 : (s.edit.do' == 4) = false := by simp [c4]
   by_cases hin : (1 <= s.edit.do' /\ s.edit.do' <= 6) /\ inD D s.edit.at'
   ·obtain ⟨⟨d1, d6⟩, hin⟩ := hin
    have a0 := hin.1
    have a1 := hin.2
    have hat : s.edit.at'.toNat < D.nodes.length := by omega
    rw [decide_eq_true (by omega)] at hB1 hB2
    have rl := Y5 D sl
    have gk := Y2 (sl := sl) hat
    have e0 : nth D.nodes s.edit.at'.toNat = nd D s.edit.at' := rfl
    rw [e0] at gk
    unfold X1 at gk
    have U0 : ∀ E : Env, E 2 = .pin (Z2 D) -> E 3 = .pin (Z9 s) -> E 4 = .vp r4 0 -> E 6 = .vp r6 0 -> E 7 = .vp r7 0 -> E 8 = Q7 D.nodes.length -> UdS D s h _ _ r4 r6 r7 rN sl E := fun E e2 e3 e4 e6 e7 e8 => ⟨e2, e3, e4, e6, e7, e8, ⟨hr4, rfl⟩, E2, new6, k6, k7, C.live, dat⟩
    repeat' (first | ((with_reducible refine brC (fun _ => ?_) fun _ => ?_) <;> try (exfalso; omega)) | (with_reducible apply pcallE.of; · exact hB1) | (with_reducible apply pcallE.of; · exact hB2) | (with_reducible refine And.intro ?_ ?_; · omega) | simp -dsimp -implicitDefEqProofs (disch := omega) only [↓Q0 70, VCA, ↓Y4, Nat.reduceEqDiff, Nat.reduceAdd, Nat.reduceLT, Nat.reduceLeDiff, ↓reduceIte, Z0, ne_eq, exists_eq_left', gN, n67, nN6, nN7, b4, gk, rl])
    all_goals try (exfalso; omega)
    intro r9 hr9
    have hr9' : upd (upd h1 r6 (some ⟨.t 24, 2, [[.osl rN 6 0 D.nodes.length, .bool D.quirks]]⟩)) r7 (some ⟨.t 42, 12, [Z1 s.edit]⟩) r9 = none := by rw [Q1 _ _ hr9.1, Q1 _ _ hr9.2.1]; exact hr9.2.2
    by_cases c1 : s.edit.do' = 1
    ·exact undone_1 (U0 _ rfl rfl rfl rfl rfl rfl) U hk hs hin c1 rfl hr9'
    by_cases c2 : s.edit.do' = 2
    ·exact undone_2 (U0 _ rfl rfl rfl rfl rfl rfl) U hk hs hin c2 rfl hr9'
    by_cases c3 : s.edit.do' = 3
    ·exact undone_3 (U0 _ rfl rfl rfl rfl rfl rfl) hs hin c3 rfl hr9'
    by_cases c5 : s.edit.do' = 5
    ·exact undone_5 (U0 _ rfl rfl rfl rfl rfl rfl) U hk hs hin c5 rfl hr9'
    ·exact undone_6 (U0 _ rfl rfl rfl rfl rfl rfl) U hk hs hin (by omega) rfl hr9'
   ·have hb : ¬ Y3 D s := fun hf => by
     unfold Y3 at hf
     rw [if_neg c4] at hf
     (repeat' split at hf) <;> first | exact hin ⟨by omega, hf.1⟩ | exact hin ⟨by omega, hf.2.1⟩ | exact hf
    by_cases d16 : 1 <= s.edit.do' /\ s.edit.do' <= 6
    ·have ha : ¬ inD D s.edit.at' := fun h => hin ⟨d16, h⟩
     rw [decide_eq_true (by omega)] at hB1
     rw [decide_eq_false (by unfold inD at ha; omega)] at hB2
     repeat' (first | ((with_reducible refine brC (fun _ => ?_) fun _ => ?_) <;> try (exfalso; omega)) | (with_reducible apply pcallE.of; · exact hB1) | (with_reducible apply pcallE.of; · exact hB2) | (with_reducible refine And.intro ?_ ?_; · omega) | simp -dsimp -implicitDefEqProofs (disch := omega) only [↓Q0 70, VCA, Nat.reduceEqDiff, Nat.reduceAdd, Nat.reduceLT, Nat.reduceLeDiff, ↓reduceIte, Z0, exists_eq_left', g4, m4, m7, n67, b4])
     all_goals first | (exfalso; omega) | exact ⟨_, Sub.refl _, hbad hb⟩ | trace_state
    ·rw [decide_eq_false (by omega)] at hB1
     repeat' (first | ((with_reducible refine brC (fun _ => ?_) fun _ => ?_) <;> try (exfalso; omega)) | (with_reducible apply pcallE.of; · exact hB1) | (with_reducible refine And.intro ?_ ?_; · omega) | simp -dsimp -implicitDefEqProofs (disch := omega) only [↓Q0 70, VCA, Nat.reduceEqDiff, Nat.reduceAdd, Nat.reduceLT, Nat.reduceLeDiff, ↓reduceIte, Z0, exists_eq_left', g4, m4, m7, n67, b4])
     all_goals first | (exfalso; omega) | exact ⟨_, Sub.refl _, hbad hb⟩ | trace_state
 ·have hz : D.nodes = [] := List.eq_nil_of_length_eq_zero (by omega)
  have hl : D.nodes.length = 0 := by omega
  obtain rfl : b = .emp := dz hl
  have hb : ¬ Y3 D s := fun hf => by
   unfold Y3 inD at hf
   rw [hl] at hf
   (repeat' split at hf) <;> omega
  simp -dsimp -implicitDefEqProofs (disch := omega) only [VCA, ↓Y4, Nat.reduceEqDiff, Nat.reduceAdd, Nat.reduceLT, Nat.reduceLeDiff, ↓reduceIte, Z0, ne_eq, exists_eq_left']
  intro r6 hr6 r7 hr7
  have m4 : ¬ r4 = r6 := fun e => by rw [e, hr6] at g4; cases g4
  have m7 : ¬ r4 = r7 := fun e => by rw [e, hr7.2] at g4; cases g4
  have n67 : ¬ r6 = r7 := fun e => hr7.1 e.symm
  have w46 : ¬ r6 = r4 := fun e => m4 e.symm
  have w47 : ¬ r7 = r4 := fun e => m7 e.symm
  have S1 : Sub h h1 := fun t o ht => C.sub t o (by rw [Q1 _ _ (fun e => by rw [e, hr4] at ht; cases ht)]; exact ht)
  have hbad : ∀ x y z, UdK D s h (.tup [.agg [.emp, .bool D.quirks], .bool false]) (upd (upd (upd h1 r6 (some x)) r7 (some y)) r4 (some z)) := fun x y z => by
   unfold UdK
   rw [if_neg hb, decide_eq_false hb]
   refine ⟨((S1.upd (S1.none hr6)).upd (S1.none hr7.2)).upd hr4, .tup' (.cons (Vw.agg' (.cons ?_ (.cons (.refl _) .nil))) (.cons (.refl _) .nil))⟩
   rw [hz]; exact .emp
  by_cases c4 : s.edit.do' = 4
  ·have b4 : (s.edit.do' == 4) = true := by simp [c4]
   repeat' (first | ((with_reducible refine brC (fun _ => ?_) fun _ => ?_) <;> try (exfalso; omega)) | (with_reducible refine And.intro ?_ ?_; · omega) | simp -dsimp -implicitDefEqProofs (disch := omega) only [↓Q0 33, ↓Q0 37, ↓Q0 47, VCA, Nat.reduceEqDiff, Nat.reduceAdd, Nat.reduceLT, ↓reduceIte, Z0, exists_eq_left', g4, m4, m7, n67, b4])
   all_goals first | (exfalso; omega) | exact ⟨_, Sub.refl _, hbad _ _ _⟩ | trace_state
  ·have b4 : (s.edit.do' == 4) = false := by simp [c4]
   rw [decide_eq_false (by omega)] at hB2
   by_cases d16 : 1 <= s.edit.do' /\ s.edit.do' <= 6
   ·rw [decide_eq_true d16] at hB1
    repeat' (first | ((with_reducible refine brC (fun _ => ?_) fun _ => ?_) <;> try (exfalso; omega)) | (with_reducible apply pcallE.of; · exact hB1) | (with_reducible apply pcallE.of; · exact hB2) | (with_reducible refine And.intro ?_ ?_; · omega) | simp -dsimp -implicitDefEqProofs (disch := omega) only [↓Q0 70, VCA, Nat.reduceEqDiff, Nat.reduceAdd, Nat.reduceLT, Nat.reduceLeDiff, ↓reduceIte, Z0, exists_eq_left', g4, m4, m7, n67, b4])
    all_goals first | (exfalso; omega) | exact ⟨_, Sub.refl _, hbad _ _ _⟩ | trace_state
   ·rw [decide_eq_false d16] at hB1
    repeat' (first | ((with_reducible refine brC (fun _ => ?_) fun _ => ?_) <;> try (exfalso; omega)) | (with_reducible apply pcallE.of; · exact hB1) | (with_reducible apply pcallE.of; · exact hB2) | (with_reducible refine And.intro ?_ ?_; · omega) | simp -dsimp -implicitDefEqProofs (disch := omega) only [↓Q0 70, VCA, Nat.reduceEqDiff, Nat.reduceAdd, Nat.reduceLT, Nat.reduceLeDiff, ↓reduceIte, Z0, exists_eq_left', g4, m4, m7, n67, b4])
    all_goals first | (exfalso; omega) | exact ⟨_, Sub.refl _, hbad _ _ _⟩ | trace_state
theorem bI_t {a b : Int} (h : a = b) : (a == b) = true := by simpa using h
theorem bI_f {a b : Int} (h : ¬ a = b) : (a == b) = false := by simpa using h
theorem bN_t {a b : Int} (h : ¬ a = b) : (a != b) = true := by simpa using h
theorem bN_f {a b : Int} (h : a = b) : (a != b) = false := by simp [h]
end Go.Proofs.K
end
