/- Texts of this claim, one behind the other. -/
import Derived.Test.YtoolkpnnllfhgaaGreatDoorM5
import Derived.Test.YtoolkpnnllfhgaaGreatDoorM3
set_option maxHeartbeats 4000000
set_option maxRecDepth 100000
section
set_option linter.unusedSimpArgs false
set_option linter.unusedVariables false
namespace Go.Proofs.K
open Go Go.Sim Go.Proofs
variable {G : ZQ}
theorem betwD_ok (n a b : Int) : PCalls (Pg G) 76 [Q7 n, Q7 a, Q7 b] (.bool (decide (a <= n /\ n <= b))) := by
 have h := betw_ok (G := G) n a b
 have e : (decide (a <= n) && decide (n <= b)) = decide (a <= n /\ n <= b) := by simp
 rwa [e] at h
theorem errR_4 {d : HDoc} {e : HEdit} (h4 : e.do' = 4) : ZZ d e = if 0 < (e.node.kids.length : Int) then 3 else if e.node.kind = 1 then 7 else V6 e.node := by
 unfold ZZ
 rw [if_neg (by omega), if_pos h4]
 by_cases hk : e.node.kids = []
 ·rw [if_neg (by simpa using hk), if_neg (c := 0 < (e.node.kids.length : Int)) (by rw [hk]; simp)]
 ·rw [if_pos hk, if_pos]
  have := List.length_pos_iff.2 hk
  omega
theorem errR_in {d : HDoc} {e : HEdit} (h1 : 1 <= e.do') (h6 : e.do' <= 6) (h4 : e.do' ≠ 4) (hi : ¬ inD d e.at' \/ (e.do' = 5 /\ ¬ inD d e.to)) : ZZ d e = 5 := by
 unfold ZZ
 rw [if_neg (by omega), if_neg h4, if_pos hi]
theorem errR_1 {d : HDoc} {e : HEdit} (h : e.do' = 1) (ha : inD d e.at') : ZZ d e = if (nd d e.at').kind ≠ 2 then 7 else if (!K1 false e.name) = true then 3 else 0 := by
 unfold ZZ
 rw [if_neg (by omega), if_neg (by omega), if_neg (by simp [ha]; omega), if_pos h]
 cases K1 false e.name <;> simp
theorem errR_2 {d : HDoc} {e : HEdit} (h : e.do' = 2) (ha : inD d e.at') : ZZ d e = if (nd d e.at').kind ≠ 2 then 7 else if ¬ 0 <= Z4 (nd d e.at').attrs e.name then 5 else 0 := by
 unfold ZZ
 rw [if_neg (by omega), if_neg (by omega), if_neg (by simp [ha]; omega), if_neg (by omega), if_pos h]
theorem errR_3 {d : HDoc} {e : HEdit} (h : e.do' = 3) (ha : inD d e.at') : ZZ d e = if (nd d e.at').kind ≠ 3 /\ (nd d e.at').kind ≠ 4 then 7 else 0 := by
 unfold ZZ
 rw [if_neg (by omega), if_neg (by omega), if_neg (by simp [ha]; omega), if_neg (by omega), if_neg (by omega), if_pos h]
theorem errR_6 {d : HDoc} {e : HEdit} (h : e.do' = 6) (ha : inD d e.at') : ZZ d e = if e.at' = 0 then 7 else if (nd d e.at').parent < 0 then 5 else 0 := by
 unfold ZZ
 rw [if_neg (by omega), if_neg (by omega), if_neg (by simp [ha]; omega), if_neg (by omega), if_neg (by omega), if_neg (by omega), if_pos h]
theorem errR_5 {d : HDoc} {e : HEdit} (h : e.do' = 5) (ha : inD d e.at') (ht : inD d e.to) : ZZ d e = if 2 < (nd d e.at').kind \/ e.to = 0 \/ (e.at' = 0 /\ (nd d e.to).kind = 3) then 7 else if 0 <= (nd d e.to).parent then 9
  else if e.before ≠ -1 /\ U1 (· == e.before) (nd d e.at').kids < 0 then 5 else if decide (e.to ∈ X2 d e.at') = true then 8 else 0 := by
 have im := UK (nd d e.at').kids e.before
 unfold ZZ
 rw [if_neg (by omega), if_neg (by omega), if_neg (by simp [ha, ht]), if_neg (by omega), if_neg (by omega), if_neg (by omega), if_neg (by omega)]
 have : (e.before ∉ (nd d e.at').kids) = (U1 (· == e.before) (nd d e.at').kids < 0) := by rw [<- im]; exact propext (by omega)
 simp only [this, decide_eq_true_eq]
def c58_s7 : SCode := (.seq (.seq (.reg [o 65 (.fldA 0 (.t 3)), o 66 (.ld 1 false (.t 65))]) (.block 0 (.seq (.reg [o 112 (.bin .eql (.t 66) (.c (.int .i64 1))), o 111 (.mv (.t 112))]) (.cond (.t 111) (.seq (.seq (.reg [o 113 (.fldA 0 (.t 6)), o 114 (.ld 1 false (.t 113)), o 115 (.bin .neq (.t 114) (.c (.int .i64 2)))]) (.cond (.t 115) (.seq (.reg [o 4 (.mv (.c (.int .i64 7)))]) .ret) .skip)) (.seq (.reg [o 116 (.fldA 4 (.t 3)), o 117 (.ld 1 false (.t 116)), o 118 (.pcall 102 [.t 117, .c (.bool false)]), o 119 (.un .not (.t 118))]) (.cond (.t 119) (.seq (.reg [o 4 (.mv (.c (.int .i64 3)))]) .ret) .skip))) (.seq (.reg [o 121 (.bin .eql (.t 66) (.c (.int .i64 2))), o 120 (.mv (.t 121))]) (.cond (.t 120) (.seq (.seq (.reg [o 122 (.fldA 0 (.t 6)), o 123 (.ld 1 false (.t 122)), o 124 (.bin .neq (.t 123) (.c (.int .i64 2)))]) (.cond (.t 124) (.seq (.reg [o 4 (.mv (.c (.int .i64 7)))]) .ret) .skip)) (.seq (.reg [o 125 (.mv (.t 8)), o 126 (.un .not (.t 125))]) (.cond (.t 126) (.seq (.reg [o 4 (.mv (.c (.int .i64 5)))]) .ret) .skip))) (.seq (.reg [o 128 (.bin .eql (.t 66) (.c (.int .i64 3))), o 127 (.mv (.t 128))]) (.cond (.t 127) (.seq (.reg [o 129 (.fldA 0 (.t 6)), o 130 (.ld 1 false (.t 129)), o 131 (.bin .neq (.t 130) (.c (.int .i64 3))), o 132 (.mv (.t 131)), ⟨some 133, .fldA 0 (.t 6), some (132, true)⟩, ⟨some 134, .ld 1 false (.t 133), some (132, true)⟩, ⟨some 135, .bin .neq (.t 134) (.c (.int .i64 4)), some (132, true)⟩, o 136 (.pick (.t 132) (.t 135) (.c (.bool false)))]) (.cond (.t 136) (.seq (.reg [o 4 (.mv (.c (.int .i64 7)))]) .ret) .skip)) (.seq (.reg [o 138 (.bin .eql (.t 66) (.c (.int .i64 6))), o 137 (.mv (.t 138))]) (.cond (.t 137) (.seq (.seq (.reg [o 139 (.fldA 1 (.t 3)), o 140 (.ld 1 false (.t 139)), o 141 (.bin .eql (.t 140) (.c (.int .i64 0)))]) (.cond (.t 141) (.seq (.reg [o 4 (.mv (.c (.int .i64 7)))]) .ret) .skip)) (.seq (.reg [o 142 (.fldA 4 (.t 6)), o 143 (.ld 1 false (.t 142)), o 144 (.bin .lss (.t 143) (.c (.int .i64 0)))]) (.cond (.t 144) (.seq (.reg [o 4 (.mv (.c (.int .i64 5)))]) .ret) .skip))) (.seq (.reg [o 67 (.fldA 0 (.t 2)), o 68 (.ld 1 false (.t 67)), o 69 (.fldA 2 (.t 3)), o 70 (.ld 1 false (.t 69)), o 71 (.idxA 6 (.t 68) (.t 70)), o 72 (.ld 6 true (.t 71)), o 9 (.new 40 6 [.int .i64 0, .str [], .emp, .str [], .int .i64 0, .emp]), ⟨none, .st 6 (.t 9) (.t 72), none⟩]) (.seq (.seq (.reg [o 73 (.fldA 0 (.t 6)), o 74 (.ld 1 false (.t 73)), o 75 (.bin .gtr (.t 74) (.c (.int .i64 2))), o 76 (.mv (.t 75)), ⟨some 77, .fldA 2 (.t 3), some (76, false)⟩, ⟨some 78, .ld 1 false (.t 77), some (76, false)⟩, ⟨some 79, .bin .eql (.t 78) (.c (.int .i64 0)), some (76, false)⟩, o 80 (.pick (.t 76) (.c (.bool true)) (.t 79)), o 81 (.mv (.t 80)), ⟨some 82, .fldA 1 (.t 3), some (81, false)⟩, ⟨some 83, .ld 1 false (.t 82), some (81, false)⟩, ⟨some 84, .bin .eql (.t 83) (.c (.int .i64 0)), some (81, false)⟩, ⟨some 85, .mv (.t 84), some (81, false)⟩, ⟨some 86, .fldA 0 (.t 9), some (85, true)⟩, ⟨some 87, .ld 1 false (.t 86), some (85, true)⟩, ⟨some 88, .bin .eql (.t 87) (.c (.int .i64 3)), some (85, true)⟩, ⟨some 89, .pick (.t 85) (.t 88) (.c (.bool false)), some (81, false)⟩, o 90 (.pick (.t 81) (.c (.bool true)) (.t 89))]) (.cond (.t 90) (.seq (.reg [o 4 (.mv (.c (.int .i64 7)))]) .ret) .skip)) (.seq (.seq (.reg [o 91 (.fldA 4 (.t 9)), o 92 (.ld 1 false (.t 91)), o 93 (.bin .geq (.t 92) (.c (.int .i64 0)))]) (.cond (.t 93) (.seq (.reg [o 4 (.mv (.c (.int .i64 9)))]) .ret) .skip)) (.seq (.seq (.reg [o 94 (.fldA 3 (.t 3)), o 95 (.ld 1 false (.t 94)), o 96 (.bin .neq (.t 95) (.c (.int .i64 (-1)))), o 97 (.mv (.t 96)), ⟨some 98, .fldA 5 (.t 6), some (97, true)⟩, ⟨some 99, .ld 1 false (.t 98), some (97, true)⟩, ⟨some 100, .fldA 3 (.t 3), some (97, true)⟩, ⟨some 101, .ld 1 false (.t 100), some (97, true)⟩, ⟨some 102, .pcall 60 [.t 99, .t 101], some (97, true)⟩, ⟨some 103, .bin .lss (.t 102) (.c (.int .i64 0)), some (97, true)⟩, o 104 (.pick (.t 97) (.t 103) (.c (.bool false)))]) (.cond (.t 104) (.seq (.reg [o 4 (.mv (.c (.int .i64 5)))]) .ret) .skip)) (.seq (.reg [o 105 (.ld 2 true (.t 2)), o 106 (.fldA 1 (.t 3)), o 107 (.ld 1 false (.t 106)), o 108 (.fldA 2 (.t 3)), o 109 (.ld 1 false (.t 108)), o 110 (.pcall 62 [.t 105, .t 107, .t 109])]) (.cond (.t 110) (.seq (.reg [o 4 (.mv (.c (.int .i64 8)))]) .ret) .skip)))))))))))))))) (.seq (.reg [o 4 (.mv (.c (.int .i64 0)))]) .ret))
def c58_s4 : SCode := (.seq (.seq (.reg [o 32 (.fldA 1 (.t 3)), o 33 (.ld 1 false (.t 32)), o 34 (.mv (.t 5)), o 35 (.bin .sub (.t 34) (.c (.int .i64 1))), o 36 (.pcall 76 [.t 33, .c (.int .i64 0), .t 35]), o 37 (.un .not (.t 36)), o 38 (.mv (.t 37)), ⟨some 39, .fldA 0 (.t 3), some (38, false)⟩, ⟨some 40, .ld 1 false (.t 39), some (38, false)⟩, ⟨some 41, .bin .eql (.t 40) (.c (.int .i64 5)), some (38, false)⟩, ⟨some 42, .mv (.t 41), some (38, false)⟩, ⟨some 43, .fldA 2 (.t 3), some (42, true)⟩, ⟨some 44, .ld 1 false (.t 43), some (42, true)⟩, ⟨some 45, .mv (.t 5), some (42, true)⟩, ⟨some 46, .bin .sub (.t 45) (.c (.int .i64 1)), some (42, true)⟩, ⟨some 47, .pcall 76 [.t 44, .c (.int .i64 0), .t 46], some (42, true)⟩, ⟨some 48, .un .not (.t 47), some (42, true)⟩, ⟨some 49, .pick (.t 42) (.t 48) (.c (.bool false)), some (38, false)⟩, o 50 (.pick (.t 38) (.c (.bool true)) (.t 49))]) (.cond (.t 50) (.seq (.reg [o 4 (.mv (.c (.int .i64 5)))]) .ret) .skip)) (.seq (.reg [o 51 (.fldA 0 (.t 2)), o 52 (.ld 1 false (.t 51)), o 53 (.fldA 1 (.t 3)), o 54 (.ld 1 false (.t 53)), o 55 (.idxA 6 (.t 52) (.t 54)), o 56 (.ld 6 true (.t 55)), o 6 (.new 40 6 [.int .i64 0, .str [], .emp, .str [], .int .i64 0, .emp]), ⟨none, .st 6 (.t 6) (.t 56), none⟩]) (.seq (.reg [o 58 (.fldA 2 (.t 6)), o 59 (.ld 1 false (.t 58)), o 60 (.fldA 4 (.t 3)), o 61 (.ld 1 false (.t 60)), o 62 (.pcall 94 [.t 59, .t 61]), o 57 (.mv (.t 62)), o 63 (.ext (.t 57) 0), o 64 (.ext (.t 57) 1), o 7 (.mv (.t 63)), o 8 (.mv (.t 64))]) c58_s7)))
def c58 : SFun := ⟨.seq (.reg [o 2 (.boxF 24 2 (.t 0)), o 3 (.boxF 42 12 (.t 1)), o 4 (.mv (.c (.int .i64 0)))]) (.seq (.reg [o 10 (.fldA 0 (.t 2)), o 11 (.ld 1 false (.t 10)), o 12 (.len (.t 11)), o 5 (.mv (.t 12))]) (.seq (.seq (.reg [o 13 (.fldA 0 (.t 3)), o 14 (.ld 1 false (.t 13)), o 15 (.pcall 76 [.t 14, .c (.int .i64 1), .c (.int .i64 6)]), o 16 (.un .not (.t 15))]) (.cond (.t 16) (.seq (.reg [o 4 (.mv (.c (.int .i64 1)))]) .ret) .skip)) (.seq (.seq (.reg [o 17 (.fldA 0 (.t 3)), o 18 (.ld 1 false (.t 17)), o 19 (.bin .eql (.t 18) (.c (.int .i64 4)))]) (.cond (.t 19) (.seq (.seq (.reg [o 20 (.fldA 6 (.t 3)), o 21 (.fldA 5 (.t 20)), o 22 (.ld 1 false (.t 21)), o 23 (.len (.t 22)), o 24 (.bin .gtr (.t 23) (.c (.int .i64 0)))]) (.cond (.t 24) (.seq (.reg [o 4 (.mv (.c (.int .i64 3)))]) .ret) .skip)) (.seq (.seq (.reg [o 25 (.fldA 6 (.t 3)), o 26 (.fldA 0 (.t 25)), o 27 (.ld 1 false (.t 26)), o 28 (.bin .eql (.t 27) (.c (.int .i64 1)))]) (.cond (.t 28) (.seq (.reg [o 4 (.mv (.c (.int .i64 7)))]) .ret) .skip)) (.seq (.reg [o 29 (.fldA 6 (.t 3)), o 30 (.ld 6 true (.t 29)), o 31 (.pcall 92 [.t 30]), o 4 (.mv (.t 31))]) .ret))) .skip)) c58_s4))), [.tmp 4]⟩
theorem hc58 : X6 Tryz.prog {pure := [76, 92, 60, 94, 102, 62]} Tryz.f58 = some c58 := by kernel_rfl
theorem editErr_ok (d : HDoc) (V : DV d) (sm : DocSm d) (e : HEdit) (he : EditSm e) : PCalls (Pg G) 58 [.agg (Z2 d), .agg (Z1 e)] (Q7 (ZZ d e)) := fun h => by
 have hl := sm.len
 have hN := nodeErr_ok (G := G) e.node he.node
 have hB1 : PCalls (Pg G) 76 [Q7 e.do', .int .i64 1, .int .i64 6] (.bool (decide (1 <= e.do' /\ e.do' <= 6))) := betwD_ok (G := G) e.do' 1 6
 have hB2 : PCalls (Pg G) 76 [Q7 e.at', .int .i64 0, Q7 ((d.nodes.length : Int) - 1)] (.bool (decide (0 <= e.at' /\ e.at' <= (d.nodes.length : Int) - 1))) := betwD_ok (G := G) e.at' 0 ((d.nodes.length : Int) - 1)
 have hB3 : PCalls (Pg G) 76 [Q7 e.to, .int .i64 0, Q7 ((d.nodes.length : Int) - 1)] (.bool (decide (0 <= e.to /\ e.to <= (d.nodes.length : Int) - 1))) := betwD_ok (G := G) e.to 0 ((d.nodes.length : Int) - 1)
 have s7 : inD d e.at' -> (e.do' = 5 -> inD d e.to) -> 1 <= e.do' -> e.do' <= 6 -> e.do' ≠ 4 -> ∀ (E : Env) (h2 : Q3) (r6 : Nat), h2 r6 = some ⟨.t 40, 6, [Q9 (nd d e.at')]⟩ -> Sim.Sub h h2 -> E 2 = .pin (Z2 d) -> E 3 = .pin (Z1 e) -> E 6 = .vp r6 0 -> E 8 = .bool (decide (0 <= Z4 (nd d e.at').attrs e.name)) -> vc (Pg G) c58_s7 (KW [.tmp 4] fun r h' => r = Q7 (ZZ d e) /\ h' = h) E h2 := by
  intro ha hto h1 h6 h4 E h2 r6 hr6 S he2 he3 he6 he8
  unfold Q9 at hr6
  unfold c58_s7
  skip
  have a0 := ha.1
  have a1 := ha.2
  have ea : nth d.nodes e.at'.toNat = nd d e.at' := rfl
  have et : nth d.nodes e.to.toNat = nd d e.to := rfl
  have hD : PCalls (Pg G) 102 [.str e.name, .bool false] (.bool (K1 false e.name)) := domName_ok (G := G) e.name false he.name
  have hP : PCalls (Pg G) 60 [sl J8 (nd d e.at').kids, Q7 e.before] (Q7 (U1 (· == e.before) (nd d e.at').kids)) := placeIn_ok (G := G) _ _ (sm.nd _).kids
  have im := UK (nd d e.at').kids e.before
  have hU : e.do' = 5 -> PCalls (Pg G) 62 [.agg [sl Q9 d.nodes, .bool d.quirks], Q7 e.at', Q7 e.to] (.bool (decide (e.to ∈ X2 d e.at'))) := fun h5 => under_ok (G := G) d V e.at' e.to ha (hto h5).1
  by_cases c1 : e.do' = 1
  ·have hE := errR_1 c1 ha
   generalize K1 false e.name = bn at *
   cases bn
   all_goals
    simp -dsimp -implicitDefEqProofs (disch := omega) only [VCA, Nat.reduceAdd, Nat.reduceLeDiff, ↓reduceIte, he3, Z1, c1]
    repeat' (first | ((with_reducible refine brC (fun _ => ?_) fun _ => ?_) <;> try (exfalso; omega)) | (with_reducible apply pcallE.of; · exact hD) | (with_reducible refine And.intro ?_ ?_; · omega) | simp -dsimp -implicitDefEqProofs (disch := omega) only [VCA, Nat.reduceEqDiff, Nat.reduceAdd, Nat.reduceLT, Nat.reduceLeDiff, ↓reduceIte, exists_eq_right_right, exists_eq_left', he3, he6, hr6, Z1, c1])
   all_goals first | (rw [hE]; ((repeat' split) <;> first | with_reducible rfl | (exfalso; omega) | contradiction); done) | (refine ⟨S, ?_⟩; rw [hE]; ((repeat' split) <;> first | with_reducible rfl | (exfalso; omega) | contradiction); done) | trace_state
  by_cases c2 : e.do' = 2
  ·have hE := errR_2 c2 ha
   by_cases hat : 0 <= Z4 (nd d e.at').attrs e.name
   all_goals
    first
     | rw [decide_eq_true hat] at he8
     | rw [decide_eq_false hat] at he8
    simp -dsimp -implicitDefEqProofs (disch := omega) only [VCA, Nat.reduceAdd, Nat.reduceLeDiff, ↓reduceIte, he3, Z1, c2]
    repeat' (first | ((with_reducible refine brC (fun _ => ?_) fun _ => ?_) <;> try (exfalso; omega)) | (with_reducible refine And.intro ?_ ?_; · omega) | simp -dsimp -implicitDefEqProofs (disch := omega) only [VCA, Nat.reduceEqDiff, Nat.reduceAdd, Nat.reduceLT, Nat.reduceLeDiff, ↓reduceIte, exists_eq_right_right, exists_eq_left', he6, he8, hr6])
   all_goals first | (rw [hE]; ((repeat' split) <;> first | with_reducible rfl | (exfalso; omega) | contradiction); done) | (refine ⟨S, ?_⟩; rw [hE]; ((repeat' split) <;> first | with_reducible rfl | (exfalso; omega) | contradiction); done) | trace_state
  by_cases c3 : e.do' = 3
  ·have hE := errR_3 c3 ha
   simp -dsimp -implicitDefEqProofs (disch := omega) only [VCA, Nat.reduceAdd, Nat.reduceLeDiff, ↓reduceIte, he3, Z1, c3]
   repeat' (first | ((with_reducible refine brC (fun _ => ?_) fun _ => ?_) <;> try (exfalso; omega)) | (with_reducible refine And.intro ?_ ?_; · omega) | simp -dsimp -implicitDefEqProofs (disch := omega) only [↓Q0 132, VCA, Nat.reduceEqDiff, Nat.reduceAdd, Nat.reduceLT, Nat.reduceLeDiff, ↓reduceIte, exists_eq_right_right, exists_eq_left', he6, hr6])
   all_goals first | (rw [hE]; ((repeat' split) <;> first | with_reducible rfl | (exfalso; omega) | contradiction); done) | (refine ⟨S, ?_⟩; rw [hE]; ((repeat' split) <;> first | with_reducible rfl | (exfalso; omega) | contradiction); done) | trace_state
  by_cases c6 : e.do' = 6
  ·have hE := errR_6 c6 ha
   simp -dsimp -implicitDefEqProofs (disch := omega) only [VCA, Nat.reduceAdd, Nat.reduceLeDiff, ↓reduceIte, he3, Z1, c6]
   repeat' (first | ((with_reducible refine brC (fun _ => ?_) fun _ => ?_) <;> try (exfalso; omega)) | (with_reducible refine And.intro ?_ ?_; · omega) | simp -dsimp -implicitDefEqProofs (disch := omega) only [VCA, Nat.reduceEqDiff, Nat.reduceAdd, Nat.reduceLT, Nat.reduceLeDiff, ↓reduceIte, exists_eq_right_right, exists_eq_left', he3, he6, hr6, Z1, c6])
   all_goals first | (rw [hE]; ((repeat' split) <;> first | with_reducible rfl | (exfalso; omega) | contradiction); done) | (refine ⟨S, ?_⟩; rw [hE]; ((repeat' split) <;> first | with_reducible rfl | (exfalso; omega) | contradiction); done) | trace_state
  have c5 : e.do' = 5 := by omega
  have t0 := (hto c5).1
  have t1 := (hto c5).2
  have hU := hU c5
  have hE := errR_5 c5 ha (hto c5)
  clear im hD hB1 hB2 hB3 hN
  generalize decide (e.to ∈ X2 d e.at') = bc at *
  cases bc
  all_goals
   simp -dsimp -implicitDefEqProofs (disch := omega) only [VCA, Nat.reduceAdd, Nat.reduceLeDiff, ↓reduceIte, he3, Z1, c5]
   repeat' (first | ((with_reducible refine brC (fun _ => ?_) fun _ => ?_) <;> try (exfalso; omega)) | (with_reducible refine And.intro ?_ ?_; · omega) | simp -dsimp -implicitDefEqProofs (disch := omega) only [↓Q0 76, VCA, Nat.reduceEqDiff, Nat.reduceAdd, Nat.reduceLT, Nat.reduceLeDiff, ↓reduceIte, Z0, exists_eq_left', Z2, he2, he3, he6, hr6, Z1, Q9, c5])
   intro r9 hr9
   have n69 : ¬ r6 = r9 := fun e => by rw [<- e, hr6] at hr9; cases hr9
   have n96 : ¬ r9 = r6 := fun e => n69 e.symm
   repeat' (first | ((with_reducible refine brC (fun _ => ?_) fun _ => ?_) <;> try (exfalso; omega)) | (with_reducible apply pcallE.of; · exact hP) | (with_reducible apply pcallE.of; · exact hU) | (with_reducible refine And.intro ?_ ?_; · omega) | simp -dsimp -implicitDefEqProofs (disch := omega) only [↓Q0 81, ↓Q0 85, ↓Q0 97, VCA, Nat.reduceEqDiff, Nat.reduceAdd, Nat.reduceLT, Nat.reduceLeDiff, ↓reduceIte, exists_eq_right_right, exists_eq_left', Z2, he2, he3, he6, hr6, n69, Z1, c5, et])
   all_goals first | (rw [hE]; ((repeat' split) <;> first | with_reducible rfl | (exfalso; omega) | contradiction); done) | (refine ⟨S.upd (S.none hr9), ?_⟩; rw [hE]; ((repeat' split) <;> first | with_reducible rfl | (exfalso; omega) | contradiction); done) | trace_state
 have s4 : 1 <= e.do' -> e.do' <= 6 -> e.do' ≠ 4 -> ∀ E : Env, E 2 = .pin (Z2 d) -> E 3 = .pin (Z1 e) -> E 5 = Q7 d.nodes.length -> vc (Pg G) c58_s4 (KW [.tmp 4] fun r h' => r = Q7 (ZZ d e) /\ h' = h) E h := by
  intro h1 h6 h4 E he2 he3 he5
  unfold c58_s4
  skip
  have ea : nth d.nodes e.at'.toNat = nd d e.at' := rfl
  have hA : PCalls (Pg G) 94 [sl Z7 (nd d e.at').attrs, .str e.name] (.tup [.str (UY (nd d e.at').attrs e.name).1, .bool (UY (nd d e.at').attrs e.name).2]) := attrOf_ok (G := G) _ e.name (sm.nd _).attrs
  rw [attrOf_has] at hA
  simp -dsimp -implicitDefEqProofs (disch := omega) only [VCA, Nat.reduceEqDiff, Nat.reduceAdd, Nat.reduceLeDiff, ↓reduceIte, he3, he5, Z1]
  repeat' (first | ((with_reducible refine brC (fun _ => ?_) fun _ => ?_) <;> try (exfalso; omega)) | (with_reducible apply pcallE.of; · exact hB2) | (with_reducible apply pcallE.of; · exact hB3) | (with_reducible refine And.intro ?_ ?_; · omega) | simp -dsimp -implicitDefEqProofs (disch := omega) only [↓Q0 38, ↓Q0 42, VCA, Nat.reduceEqDiff, Nat.reduceAdd, Nat.reduceLT, Nat.reduceLeDiff, ↓reduceIte, Z0, exists_eq_right_right, exists_eq_left', Z2, he2, he3, he5, Z1, Q9, ea])
  ·exact ⟨Sub.refl _, (errR_in h1 h6 h4 (.inl (by unfold inD; omega))).symm⟩
  ·exact ⟨Sub.refl _, (errR_in h1 h6 h4 (.inr (by unfold inD; omega))).symm⟩
  all_goals
   rename_i qq
   intro r6 hr6
   repeat' (first | ((with_reducible refine brC (fun _ => ?_) fun _ => ?_) <;> try (exfalso; omega)) | (with_reducible apply pcallE.of; · exact hA) | (with_reducible refine And.intro ?_ ?_; · omega) | simp -dsimp -implicitDefEqProofs (disch := omega) only [VCA, Nat.reduceEqDiff, Nat.reduceAdd, Nat.reduceLT, ↓reduceIte])
   exact s7 (by unfold inD; omega) (fun h5 => by unfold inD; omega) h1 h6 h4 _ _ r6 (Q2 _ _ _) ((Sub.refl _).upd hr6) he2 he3 rfl rfl
 refine Q4 Tryz.func58 (by kernel_rfl) hc58 (by rw [Tryz.ntmps58]; simp) (by rw [Tryz.ntmps58]; decide) ?_
 simp -dsimp -implicitDefEqProofs (disch := omega) only [VCA, Nat.reduceEqDiff, Nat.reduceAdd, Nat.reduceLeDiff, ↓reduceIte, Z2, c58, Z1]
 unfold Q9 at hN
 repeat' (first | ((with_reducible refine brC (fun _ => ?_) fun _ => ?_) <;> try (exfalso; omega)) | (with_reducible apply pcallE.of; · exact hB1) | (with_reducible apply pcallE.of; · exact hN) | (with_reducible refine And.intro ?_ ?_; · omega) | simp -dsimp -implicitDefEqProofs (disch := omega) only [VCA, Nat.reduceEqDiff, Nat.reduceAdd, Nat.reduceLeDiff, ↓reduceIte, exists_eq_right_right])
 ·rename_i q
  exact ⟨Sub.refl _, by unfold ZZ; rw [if_pos q]⟩
 ·rename_i q1 q2 q3
  exact ⟨Sub.refl _, by rw [errR_4 q2, if_pos q3]⟩
 ·rename_i q1 q2 q3 q4
  exact ⟨Sub.refl _, by rw [errR_4 q2, if_neg q3, if_pos q4]⟩
 ·rename_i q1 q2 q3 q4
  exact ⟨Sub.refl _, by rw [errR_4 q2, if_neg q3, if_neg q4]⟩
 ·rename_i q1 q2
  exact s4 q1.1 q1.2 q2 _ rfl rfl rfl
theorem DocSm.setN {d : HDoc} {x : HNode} {n : Int} (sm : DocSm d) (hx : NodeSm x) : DocSm (setN d n x) := ⟨by rw [QU]; exact sm.len, fun y hy => by
 rcases List.mem_or_eq_of_mem_set hy with h | h
 ·exact sm.each y h
 ·exact h ▸ hx⟩
theorem edit_sm {d : HDoc} (V : DV d) (sm : DocSm d) {e : HEdit} (he : EditSm e) (h0 : ZZ d e = 0) : DocSm (X9 d e) := by
 have kl : ∀ n, (nd d n).kids.length <= 1073741823 := fun n => by
  by_cases hn : inD d n
  ·have := XT d.nodes.length (nd d n).kids (V.nodup n hn) (fun k hk => (V.kid n hn k hk).1)
   have := V.len
   omega
  ·have : (nd d n).kids = [] \/ inD d n.toNat := by
    by_cases h : n.toNat < d.nodes.length
    ·exact .inr (inD_nat.2 h)
    ·left; unfold nd; rw [nth_def h]; rfl
   rcases this with h | h
   ·rw [h]; decide
   ·have h2 := XT d.nodes.length (nd d n.toNat).kids (V.nodup _ h) (fun k hk => (V.kid _ h k hk).1)
    have : nd d (n.toNat : Int) = nd d n := by unfold nd; rw [Int.toNat_natCast]
    rw [this] at h2
    have := V.len
    omega
 have ns := fun n => sm.nd n
 unfold X9
 split
 ·rename_i h1
  have ha : inD d e.at' := by
   apply Classical.byContradiction; intro ha
   rw [errR_in (by omega) (by omega) (by omega) (.inl ha)] at h0; omega
  have al := ((W4 _).1 ((U8 _).1 (V.node _ ha)).2.2.2.1).1
  refine sm.setN ⟨(ns _).name, ?_, ?_, (ns _).text, (ns _).kids⟩
  ·unfold U3; split
   ·rw [List.length_set]; omega
   ·rw [List.length_append, List.length_singleton]; omega
  ·intro a ha
   have : a ∈ (nd d e.at').attrs \/ a = ⟨e.name, e.value⟩ := by
    unfold U3 at ha; split at ha
    ·exact List.mem_or_eq_of_mem_set ha
    ·rcases List.mem_append.1 ha with h | h
     ·exact .inl h
     ·exact .inr (by simpa using h)
   rcases this with h | h
   ·exact (ns _).each a h
   ·subst h; exact ⟨he.name, he.value⟩
 split
 ·refine sm.setN ⟨(ns _).name, ?_, ?_, (ns _).text, (ns _).kids⟩
  ·have := (ns e.at').attrs
   unfold V5; rw [List.length_append, List.length_take, List.length_drop]; omega
  ·intro a ha
   refine (ns e.at').each a ?_
   unfold V5 at ha
   rcases List.mem_append.1 ha with h | h
   ·exact List.mem_of_mem_take h
   ·exact List.mem_of_mem_drop h
 split
 ·exact sm.setN ⟨(ns _).name, (ns _).attrs, (ns _).each, he.value, (ns _).kids⟩
 split
 ·refine ⟨by rw [QJ]; have := V.len; omega, fun y hy => ?_⟩
  rcases List.mem_append.1 hy with h | h
  ·exact sm.each y h
  ·have : y = madeM e.node := by simpa using h
   subst this
   exact ⟨he.node.name, he.node.attrs, he.node.each, he.node.text, Nat.zero_le _⟩
 split
 ·unfold JV
  refine DocSm.setN (DocSm.setN sm ⟨(ns e.at').name, (ns e.at').attrs, (ns e.at').each, (ns e.at').text, ?_⟩) ⟨(ns e.to).name, (ns e.to).attrs, (ns e.to).each, (ns e.to).text, (ns e.to).kids⟩
  have := kl e.at'
  show (List.take _ _ ++ _ :: List.drop _ _).length <= _
  rw [List.length_append, List.length_cons, List.length_take, List.length_drop]; omega
 ·unfold cutN
  refine DocSm.setN (DocSm.setN sm ⟨(ns (nd d e.at').parent).name, (ns (nd d e.at').parent).attrs, (ns (nd d e.at').parent).each, (ns (nd d e.at').parent).text, ?_⟩) ⟨(ns e.at').name, (ns e.at').attrs, (ns e.at').each, (ns e.at').text, (ns e.at').kids⟩
  show (List.take _ _ ++ List.drop _ _).length <= _
  have := kl (nd d e.at').parent
  rw [List.length_append, List.length_take, List.length_drop]; omega
theorem apply_by {d : HDoc} (V : DV d) {e : HEdit} (h0 : ZZ d e = 0) : (T6 (X9 d e) ≠ 0 -> K6 d e = 2) /\ (T6 (X9 d e) = 0 -> K6 d e = 0) := by
 have hd := (KK d).2 V
 have aE : K6 d e = U4 d e := by unfold K6; rw [if_neg (by simpa using hd)]
 have h1 := edit_DV V e h0
 rw [<- KK] at h1
 rw [aE]
 refine ⟨fun h => ?_, fun h => h1.1 h⟩
 rcases (editE_errR V e).2 h0 with h2 | h2
 ·exact absurd (h1.2 h2) h
 ·exact h2
theorem apply_err {d : HDoc} (V : DV d) {e : HEdit} (h0 : ZZ d e ≠ 0) : K6 d e = ZZ d e := by
 have hd := (KK d).2 V
 unfold K6; rw [if_neg (by simpa using hd)]
 exact (editE_errR V e).1 h0
theorem Fresh.vw {α : Type} [Inhabited α] {enc : α -> List AVal} {h h' : Q3} {ty sz : Nat} [LenE enc sz] {l : List α} {a : AVal} (F : Fresh h h' ty sz (l.map enc) a) : Vw (newH h h') a (sl enc l) :=
 (F.own.keep fun r o hr ho => by rw [newH_none (F.new r hr)]; exact ho).vw
def Vz (a b : AVal) : Prop := ∀ h, Vw h a b
theorem Vz.refl (a : AVal) : Vz a a := fun h => .refl a
theorem Vz.emp : Vz .emp (.slc []) := fun h => .emp
theorem F2.imp' {α : Type} {R S : α -> α -> Prop} (hi : ∀ a b, R a b -> S a b) {l m : List α} (h : F2 R l m) : F2 S l m := by
 induction h with
 | nil => exact .nil
 | cons h _ ih => exact .cons (hi _ _ h) ih
theorem F2.app {α : Type} {R : α -> α -> Prop} {l m l2 m2 : List α} (h : F2 R l m) (h2 : F2 R l2 m2) : F2 R (l ++ l2) (m ++ m2) := by
 induction h with
 | nil => exact h2
 | cons h _ ih => exact .cons h ih
theorem OwnS.vwk {α : Type} [Inhabited α] {enc : α -> List AVal} {h : Q3} {ty sz : Nat} [LenE enc sz] {l : List α} {cells : List (List AVal)} {a : AVal} (O : OwnS h ty sz cells a) (M : Mut a) (hc : F2 (F2 Vz) cells (l.map enc)) : Vw h a (sl enc l) := by
 rcases O.live M with ⟨h1, h2⟩ | ⟨r, es, ha, hr, h1, h2⟩
 ·subst h1
  have : l = [] := by
   have := hc.len
   rw [List.length_map] at this
   exact List.eq_nil_of_length_eq_zero this.symm
  subst this; subst h2; exact .emp
 ·subst ha
  refine Vw.osl0 hr hc.len.symm h1 (fun f hf => by obtain ⟨x, _, rfl⟩ := List.mem_map.1 hf; exact LenE.len x) ?_
  show F2 _ (es.take _) _
  rw [h2]
  exact F2.imp' (fun _ _ hb => F2.imp' (fun _ _ hw => hw h) hb) hc
theorem Fresh.vwk {α : Type} [Inhabited α] {enc : α -> List AVal} {h h' : Q3} {ty sz : Nat} [LenE enc sz] {l : List α} {cells : List (List AVal)} {a : AVal} (F : Fresh h h' ty sz cells a) (hc : F2 (F2 Vz) cells (l.map enc)) : Vw (newH h h') a (sl enc l) :=
 OwnS.vwk (F.own.keep fun r o hr ho => by rw [newH_none (F.new r hr)]; exact ho) F.live hc
theorem wks_refl (l : List (List AVal)) : F2 (F2 Vz) l l := F2.refl (fun a => F2.refl (fun x => .refl x) a) l
def edR (d : HDoc) (e : HEdit) : AVal := .tup [.agg (Z2 (X8 d e)), Q7 (ZT d e), Q7 (K6 d e)]
def EdK (d : HDoc) (e : HEdit) (h : Q3) (a : AVal) (h' : Q3) : Prop := Sub h h' /\ VwT (newH h h') a (edR d e)
def c26_s6 : SCode := (.seq (.seq (.reg [o 199 (.ld 2 true (.t 8)), o 200 (.call (.c (.fn 48 [] [])) [.t 199]), o 201 (.bin .neq (.t 200) (.c (.int .i64 0)))]) (.cond (.t 201) (.seq (.reg [o 202 (.bld [.emp, .bool false] []), ⟨none, .st 2 (.t 4) (.t 202), none⟩, o 5 (.mv (.c (.int .i64 0))), o 6 (.mv (.c (.int .i64 2)))]) .ret) .skip)) (.seq (.reg [o 203 (.ld 2 true (.t 8)), o 204 (.mv (.t 9)), ⟨none, .st 2 (.t 4) (.t 203), none⟩, o 5 (.mv (.t 204)), o 6 (.mv (.c (.int .i64 0)))]) .ret))
def c26_s5 : SCode := (.seq (.seq (.reg [o 26 (.fldA 0 (.t 3)), o 27 (.ld 1 false (.t 26)), o 28 (.bin .eql (.t 27) (.c (.int .i64 4)))]) (.cond (.t 28) (.seq (.reg [o 29 (.fldA 0 (.t 8)), o 30 (.ld 1 false (.t 29)), o 31 (.len (.t 30)), o 9 (.mv (.t 31))]) (.dreg [(o 32 (.fldA 0 (.t 8)), none), (o 33 (.ld 1 false (.t 32)), none), (o 34 (.fldA 6 (.t 3)), none), (o 35 (.fldA 0 (.t 34)), none), (o 36 (.ld 1 false (.t 35)), none), (o 37 (.fldA 6 (.t 3)), none), (o 38 (.fldA 1 (.t 37)), none), (o 39 (.ld 1 false (.t 38)), none), (o 40 (.bldF 96 2 []), none), (o 41 (.fldA 6 (.t 3)), none), (o 42 (.fldA 2 (.t 41)), none), (o 43 (.ld 1 false (.t 42)), none), (o 45 (.fldA 6 (.t 3)), none), (o 46 (.fldA 3 (.t 45)), none), (o 47 (.ld 1 false (.t 46)), none), (o 44 (.appF 96 2 32 (.t 40) (.t 43)), (some [43])), (o 48 (.bld [.int .i64 0, .str [], .emp, .str [], .int .i64 0, .emp] [(0, (1, (.t 36))), (1, (1, (.t 39))), (2, (1, (.t 44))), (3, (1, (.t 47))), (4, (1, (.c (.int .i64 (-1)))))]), none), (o 49 (.bldF 40 6 [.t 48]), none), (o 50 (.app 40 6 96 (.t 33) (.t 49)), (some [33, 36, 39, 47, 43])), (o 51 (.fldA 0 (.t 8)), none), (⟨none, .st 1 (.t 51) (.t 50), none⟩, (some [33, 36, 39, 47, 43]))])) (.seq (.reg [o 52 (.fldA 0 (.t 8)), o 53 (.ld 1 false (.t 52)), o 54 (.fldA 1 (.t 3)), o 55 (.ld 1 false (.t 54)), o 56 (.idxA 6 (.t 53) (.t 55)), o 57 (.ld 6 true (.t 56)), o 10 (.new 40 6 [.int .i64 0, .str [], .emp, .str [], .int .i64 0, .emp]), ⟨none, .st 6 (.t 10) (.t 57), none⟩]) (.seq (.reg [o 11 (.mv (.c .emp))]) (.seq (.reg [o 12 (.mv (.c (.bool false)))]) (.seq (.seq (.reg [o 13 (.mv (.c (.int .i64 0)))]) (.block 0 (.loop (.seq (.seq (.reg [o 58 (.mv (.t 13)), o 59 (.fldA 2 (.t 10)), o 60 (.ld 1 false (.t 59)), o 61 (.len (.t 60)), o 62 (.bin .lss (.t 58) (.t 61))]) (.cond (.t 62) .skip (.exit 0))) (.seq (.block 1 (.seq (.reg [o 65 (.fldA 2 (.t 10)), o 66 (.ld 1 false (.t 65)), o 67 (.mv (.t 13)), o 68 (.idxA 2 (.t 66) (.t 67)), o 69 (.ld 2 true (.t 68)), o 14 (.new 96 2 [.str [], .str []]), ⟨none, .st 2 (.t 14) (.t 69), none⟩]) (.seq (.seq (.reg [o 70 (.fldA 0 (.t 14)), o 71 (.ld 1 false (.t 70)), o 72 (.fldA 4 (.t 3)), o 73 (.ld 1 false (.t 72)), o 74 (.bin .eql (.t 71) (.t 73)), o 75 (.mv (.t 74)), ⟨some 76, .fldA 0 (.t 3), some (75, true)⟩, ⟨some 77, .ld 1 false (.t 76), some (75, true)⟩, ⟨some 78, .bin .eql (.t 77) (.c (.int .i64 1)), some (75, true)⟩, o 79 (.pick (.t 75) (.t 78) (.c (.bool false)))]) (.cond (.t 79) (.seq (.reg [o 80 (.fldA 5 (.t 3)), o 81 (.ld 1 false (.t 80)), o 82 (.fldA 1 (.t 14)), ⟨none, .st 1 (.t 82) (.t 81), none⟩]) (.reg [o 12 (.mv (.c (.bool true)))])) .skip)) (.seq (.reg [o 83 (.fldA 0 (.t 14)), o 84 (.ld 1 false (.t 83)), o 85 (.fldA 4 (.t 3)), o 86 (.ld 1 false (.t 85)), o 87 (.bin .neq (.t 84) (.t 86)), o 88 (.mv (.t 87)), ⟨some 89, .fldA 0 (.t 3), some (88, false)⟩, ⟨some 90, .ld 1 false (.t 89), some (88, false)⟩, ⟨some 91, .bin .neq (.t 90) (.c (.int .i64 2)), some (88, false)⟩, o 92 (.pick (.t 88) (.c (.bool true)) (.t 91))]) (.cond (.t 92) (.reg [o 93 (.mv (.t 11)), o 94 (.ld 2 true (.t 14)), o 95 (.bldF 96 2 [.t 94]), o 96 (.app 96 2 32 (.t 93) (.t 95)), o 11 (.mv (.t 96))]) .skip))))) (.reg [o 63 (.mv (.t 13)), o 64 (.bin .add (.t 63) (.c (.int .i64 1))), o 13 (.mv (.t 64))])))))) (.seq (.seq (.reg [o 97 (.fldA 0 (.t 3)), o 98 (.ld 1 false (.t 97)), o 99 (.bin .eql (.t 98) (.c (.int .i64 1))), o 100 (.mv (.t 99)), ⟨some 101, .mv (.t 12), some (100, true)⟩, ⟨some 102, .un .not (.t 101), some (100, true)⟩, o 103 (.pick (.t 100) (.t 102) (.c (.bool false)))]) (.cond (.t 103) (.reg [o 104 (.mv (.t 11)), o 105 (.fldA 4 (.t 3)), o 106 (.ld 1 false (.t 105)), o 107 (.fldA 5 (.t 3)), o 108 (.ld 1 false (.t 107)), o 109 (.bld [.str [], .str []] [(0, (1, (.t 106))), (1, (1, (.t 108)))]), o 110 (.bldF 96 2 [.t 109]), o 111 (.app 96 2 32 (.t 104) (.t 110)), o 11 (.mv (.t 111))]) .skip)) (.seq (.seq (.reg [o 112 (.fldA 0 (.t 3)), o 113 (.ld 1 false (.t 112)), o 114 (.bin .eql (.t 113) (.c (.int .i64 1))), o 115 (.mv (.t 114)), ⟨some 116, .fldA 0 (.t 3), some (115, false)⟩, ⟨some 117, .ld 1 false (.t 116), some (115, false)⟩, ⟨some 118, .bin .eql (.t 117) (.c (.int .i64 2)), some (115, false)⟩, o 119 (.pick (.t 115) (.c (.bool true)) (.t 118))]) (.cond (.t 119) (.reg [o 120 (.frz (.t 11)), o 121 (.fldA 2 (.t 10)), ⟨none, .st 1 (.t 121) (.t 120), none⟩]) .skip)) (.seq (.seq (.reg [o 122 (.fldA 0 (.t 3)), o 123 (.ld 1 false (.t 122)), o 124 (.bin .eql (.t 123) (.c (.int .i64 3)))]) (.cond (.t 124) (.reg [o 125 (.fldA 5 (.t 3)), o 126 (.ld 1 false (.t 125)), o 127 (.fldA 3 (.t 10)), ⟨none, .st 1 (.t 127) (.t 126), none⟩]) .skip)) (.seq (.seq (.reg [o 128 (.fldA 0 (.t 3)), o 129 (.ld 1 false (.t 128)), o 130 (.bin .eql (.t 129) (.c (.int .i64 5)))]) (.cond (.t 130) (.seq (.reg [o 131 (.fldA 5 (.t 10)), o 132 (.ld 1 false (.t 131)), o 133 (.len (.t 132)), o 15 (.mv (.t 133))]) (.seq (.seq (.reg [o 134 (.fldA 3 (.t 3)), o 135 (.ld 1 false (.t 134)), o 136 (.bin .neq (.t 135) (.c (.int .i64 (-1))))]) (.cond (.t 136) (.reg [o 137 (.fldA 5 (.t 10)), o 138 (.ld 1 false (.t 137)), o 139 (.fldA 3 (.t 3)), o 140 (.ld 1 false (.t 139)), o 141 (.pcall 60 [.t 138, .t 140]), o 15 (.mv (.t 141))]) .skip)) (.seq (.dreg [(o 142 (.bldF 3 1 []), none), (o 143 (.fldA 5 (.t 10)), none), (o 144 (.ld 1 false (.t 143)), none), (o 145 (.mv (.t 15)), none), (o 146 (.slA 1 (.t 144) none (some (.t 145))), none), (o 148 (.fldA 2 (.t 3)), none), (o 149 (.ld 1 false (.t 148)), none), (o 150 (.bldF 3 1 [.t 149]), none), (o 152 (.fldA 5 (.t 10)), none), (o 153 (.ld 1 false (.t 152)), none), (o 154 (.mv (.t 15)), none), (o 155 (.slA 1 (.t 153) (some (.t 154)) none), none), (o 147 (.app 3 1 8 (.t 142) (.t 146)), (some [144])), (o 151 (.app 3 1 8 (.t 147) (.t 150)), (some [149, 144])), (o 156 (.appF 3 1 8 (.t 151) (.t 155)), (some [153, 149, 144])), (o 157 (.fldA 5 (.t 10)), none), (⟨none, .st 1 (.t 157) (.t 156), none⟩, (some [153, 149, 144]))]) (.reg [o 158 (.fldA 0 (.t 8)), o 159 (.ld 1 false (.t 158)), o 160 (.fldA 2 (.t 3)), o 161 (.ld 1 false (.t 160)), o 162 (.fldA 1 (.t 3)), o 163 (.ld 1 false (.t 162)), o 164 (.idxA 6 (.t 159) (.t 161)), o 165 (.fldA 4 (.t 164)), ⟨none, .st 1 (.t 165) (.t 163), none⟩])))) .skip)) (.seq (.seq (.reg [o 166 (.fldA 0 (.t 3)), o 167 (.ld 1 false (.t 166)), o 168 (.bin .eql (.t 167) (.c (.int .i64 6)))]) (.cond (.t 168) (.seq (.reg [o 169 (.fldA 4 (.t 10)), o 170 (.ld 1 false (.t 169)), o 16 (.mv (.t 170))]) (.seq (.dreg [(o 171 (.fldA 0 (.t 8)), none), (o 172 (.ld 1 false (.t 171)), none), (o 173 (.mv (.t 16)), none), (o 174 (.fldA 0 (.t 8)), none), (o 175 (.ld 1 false (.t 174)), none), (o 176 (.mv (.t 16)), none), (o 177 (.idxA 6 (.t 175) (.t 176)), none), (o 178 (.fldA 5 (.t 177)), none), (o 179 (.ld 1 false (.t 178)), none), (o 180 (.fldA 0 (.t 8)), none), (o 181 (.ld 1 false (.t 180)), none), (o 182 (.mv (.t 16)), none), (o 183 (.idxA 6 (.t 181) (.t 182)), none), (o 184 (.fldA 5 (.t 183)), none), (o 185 (.ld 1 false (.t 184)), none), (o 186 (.fldA 1 (.t 3)), none), (o 187 (.ld 1 false (.t 186)), none), (o 188 (.pcall 60 [.t 185, .t 187]), none), (o 189 (.pcall 61 [.t 179, .t 188]), none), (o 190 (.idxA 6 (.t 172) (.t 173)), none), (o 191 (.fldA 5 (.t 190)), none), (⟨none, .st 1 (.t 191) (.t 189), none⟩, (some [172, 179, 175, 185, 187, 181]))]) (.reg [o 192 (.fldA 4 (.t 10)), ⟨none, .st 1 (.t 192) (.c (.int .i64 (-1))), none⟩]))) .skip)) (.reg [o 193 (.fldA 0 (.t 8)), o 194 (.ld 1 false (.t 193)), o 195 (.fldA 1 (.t 3)), o 196 (.ld 1 false (.t 195)), o 197 (.ld 6 true (.t 10)), o 198 (.idxA 6 (.t 194) (.t 196)), ⟨none, .st 6 (.t 198) (.t 197), none⟩])))))))))))) c26_s6)
def c26 : SFun := ⟨.seq (.reg [o 2 (.boxF 24 2 (.t 0)), o 3 (.boxF 42 12 (.t 1)), o 4 (.new 24 2 [.emp, .bool false]), o 5 (.mv (.c (.int .i64 0))), o 6 (.mv (.c (.int .i64 0)))]) (.seq (.reg [o 17 (.ld 2 true (.t 2)), o 18 (.ld 12 true (.t 3)), o 19 (.pcall 58 [.t 17, .t 18]), o 7 (.mv (.t 19))]) (.seq (.seq (.reg [o 20 (.mv (.t 7)), o 21 (.bin .neq (.t 20) (.c (.int .i64 0)))]) (.cond (.t 21) (.seq (.reg [o 22 (.bld [.emp, .bool false] []), o 23 (.mv (.t 7)), ⟨none, .st 2 (.t 4) (.t 22), none⟩, o 5 (.mv (.c (.int .i64 0))), o 6 (.mv (.t 23))]) .ret) .skip)) (.seq (.reg [o 24 (.ld 2 true (.t 2)), o 25 (.call (.c (.fn 59 [] [])) [.t 24]), o 8 (.new 24 2 [.emp, .bool false]), ⟨none, .st 2 (.t 8) (.t 25), none⟩]) (.seq (.reg [o 9 (.mv (.c (.int .i64 0)))]) c26_s5)))), [.cell 4 2 true, .tmp 5, .tmp 6]⟩
theorem hc26 : X6 Tryz.prog {pure := [58, 60, 61], how := [(44, 8), (120, 8), (156, 8)]} Tryz.f26 = some c26 := by kernel_rfl
theorem edited_end {d : HDoc} (V : DV d) (sm : DocSm d) {e : HEdit} (he : EditSm e) (h0 : ZZ d e = 0) {h h2 : Q3} {b : AVal} {cells : List (List AVal)} {E : Env} {r4 r8 : Nat}
  (S : Sub h h2) (F : Fresh h h2 40 6 cells b) (hc : F2 (F2 Vz) cells ((X9 d e).nodes.map Q9)) (h4 : h r4 = none) (g4 : h2 r4 = some ⟨.t 24, 2, [[.emp, .bool false]]⟩) (g8 : h2 r8 = some ⟨.t 24, 2, [[b, .bool d.quirks]]⟩) (n4 : Q8 b ≠ some r4)
  (e4 : E 4 = .vp r4 0) (e8 : E 8 = .vp r8 0) (e9 : E 9 = Q7 (editN d e)) :
  vc (Pg G) c26_s6 (KW [.cell 4 2 true, .tmp 5, .tmp 6] (EdK d e h)) E h2 := by
 have sE := edit_sm V sm he h0
 have hD := docErr_ok (G := G) (X9 d e) sE
 have hq : (X9 d e).quirks = d.quirks := by unfold X9; (repeat' split) <;> rfl
 obtain ⟨a1, a2⟩ := apply_by V h0
 have hB := DCalls.bor hD (h := h2) (args := [.agg [b, .bool d.quirks]]) (.int _ _) (.cons (Vw.agg' (.cons (F.own.vwk F.live hc) (.cons (by rw [hq]; exact .refl _) .nil))) .nil)
 unfold c26_s6
 skip
 simp -dsimp -implicitDefEqProofs (disch := omega) only [VCA, Nat.reduceEqDiff, Nat.reduceAdd, Nat.reduceLT, ↓reduceIte, exists_eq_left', e8, g8]
 refine DCalls.of hB ?_
 rintro _ h3 ⟨rfl, rfl⟩
 simp -dsimp -implicitDefEqProofs (disch := omega) only [VCA, ↓reduceIte]
 refine Br.ne (fun h1 => ?_) (fun h1 => ?_)
 ·have aE := a1 h1
  have aD : X8 d e = QK := by unfold X8; rw [aE]; rfl
  have aN : ZT d e = 0 := by unfold ZT; rw [aE]; rfl
  simp -dsimp -implicitDefEqProofs (disch := omega) only [VCA, Nat.reduceEqDiff, Nat.reduceAdd, Nat.reduceLT, ↓reduceIte, X4, Y0, Z0, exists_eq_left', e4, g4]
  refine ⟨_, Sub.refl _, S.upd h4, ?_⟩
  unfold edR
  rw [aD, aN, aE]
  exact .tup' (.cons (K7 _) (.cons (.refl _) (.cons (.refl _) .nil)))
 ·have aE := a2 h1
  have aD : X8 d e = X9 d e := by unfold X8; rw [if_pos aE]
  have aN : ZT d e = editN d e := by unfold ZT; rw [if_pos aE]
  simp -dsimp -implicitDefEqProofs (disch := omega) only [VCA, Nat.reduceEqDiff, Nat.reduceAdd, Nat.reduceLT, ↓reduceIte, Z0, exists_eq_left', e4, e8, e9, g4, g8]
  refine ⟨_, Sub.refl _, S.upd h4, ?_⟩
  unfold edR
  rw [aD, aN, aE]
  have F2 := F.keep (h2 := upd h3 r4 (some ⟨.t 24, 2, [[b, .bool d.quirks]]⟩)) fun r o hr ho => by rw [Q1 _ _ (fun e => n4 (by rw [hr, e]))]; exact ho
  exact .tup' (.cons (Vw.agg' (.cons (F2.vwk hc) (.cons (by rw [hq]; exact .refl _) .nil))) (.cons (.refl _) (.cons (.refl _) .nil)))
theorem edited_make {d : HDoc} (V : DV d) (sm : DocSm d) {e : HEdit} (he : EditSm e) (h0 : ZZ d e = 0) (c4 : e.do' = 4) {h h2 : Q3} {b : AVal} {E : Env} {r4 r8 : Nat}
  (S : Sub h h2) (F : Fresh h h2 40 6 (d.nodes.map Q9) b) (h4 : h r4 = none) (h8 : h r8 = none) (g4 : h2 r4 = some ⟨.t 24, 2, [[.emp, .bool false]]⟩) (g8 : h2 r8 = some ⟨.t 24, 2, [[b, .bool d.quirks]]⟩) (n4 : Q8 b ≠ some r4) (n8 : Q8 b ≠ some r8) (n48 : r4 ≠ r8)
  (e3 : E 3 = .pin (Z1 e)) (e4 : E 4 = .vp r4 0) (e8 : E 8 = .vp r8 0) :
  vc (Pg G) c26_s5 (KW [.cell 4 2 true, .tmp 5, .tmp 6] (EdK d e h)) E h2 := by
 have hl := F.own.len
 have vl := V.len
 have sa := he.node.attrs
 unfold c26_s5
 skip
 have hl1 := hl.1
 have hl2 := hl.2
 rw [List.length_map] at hl1
 simp -dsimp -implicitDefEqProofs (disch := omega) only [VCA, Nat.reduceAdd, Nat.reduceLeDiff, ↓reduceIte, e3, Z1, c4]
 refine Br.eq (fun _ => ?_) (fun h1 => absurd rfl h1)
 simp -dsimp -implicitDefEqProofs (disch := omega) only [VCA, Nat.reduceEqDiff, Nat.reduceBEq, Nat.reduceAdd, Nat.reduceLT, Nat.reduceLeDiff, ↓reduceIte, J6, Q5, SOp.rd, SI.rd, SX.rd, Y1, X4, Y0, forall_eq, exists_eq_left, exists_eq_left', Z8, e3, e8, g8, Z1, c4, hl1, hl2]
 refine ⟨by omega, by omega, ?_⟩
 refine F.own.app F.live (by rw [List.length_map, List.length_singleton]; omega) (by rw [List.length_map, List.length_singleton]; omega) fun r' h3 q1 q2 q3 => ?_
 have k8 := q3 _ _ g8 n8
 have k4 := q3 _ _ g4 n4
 simp -dsimp -implicitDefEqProofs (disch := omega) only [VCA, Nat.reduceEqDiff, Nat.reduceBEq, Nat.reduceAdd, Nat.reduceLT, Nat.reduceLeDiff, ↓reduceIte, J6, Q5, SOp.rd, SI.rd, SX.rd, Z0, exists_eq_left', Z8, e8, k8]
 have hr' : h r' = none := by
  rcases q2 with e | e
  ·exact F.new _ e
  ·exact S.none e
 have m4 : r' ≠ r4 := fun e => by
  rcases q2 with e' | e'
  ·exact n4 (by rw [e', e])
  ·rw [e, g4] at e'; cases e'
 have m8 : r' ≠ r8 := fun e => by
  rcases q2 with e' | e'
  ·exact n8 (by rw [e', e])
  ·rw [e, g8] at e'; cases e'
 have eD : X9 d e = XK d (madeM e.node) := by unfold X9; rw [if_neg (by omega), if_neg (by omega), if_neg (by omega), if_pos c4]
 have eN : editN d e = d.nodes.length := by unfold editN; rw [if_pos c4]
 refine edited_end V sm he h0 (cells := d.nodes.map Q9 ++ [[.int .i64 e.node.kind, .str e.node.name, .slc (e.node.attrs.map Z7), .str e.node.text, .int .i64 (-1), .emp]]) (b := .osl r' 6 0 (d.nodes.length + 1)) (r4 := r4) (r8 := r8) (Sub.upd (fun t o ht => ?_) h8) ⟨.inr ⟨r', hr', (Q1 _ _ m8).trans q1, ?_⟩⟩ ?_ h4 (by rw [Q1 _ _ n48]; exact k4) (Q2 _ _ _) (fun e => m4 (by cases e; rfl)) e4 e8 ?_
 ·refine q3 t o (S _ _ ht) (fun e => ?_)
  rw [F.new t e] at ht; cases ht
 ·rw [List.length_append, List.length_map]; rfl
 ·rw [eD]
  show F2 (F2 Vz) _ ((d.nodes ++ [madeM e.node]).map Q9)
  rw [List.map_append]
  exact F2.app (wks_refl _) (.cons (.cons (.refl _) (.cons (.refl _) (.cons (.refl _) (.cons (.refl _) (.cons (.refl _) (.cons .emp .nil)))))) .nil)
 ·rw [eN]; rfl
theorem wks_eq {l m : List (List AVal)} (h : l = m) : F2 (F2 Vz) l m := h ▸ wks_refl l
theorem errR_at {d : HDoc} {e : HEdit} (h0 : ZZ d e = 0) (h4 : e.do' ≠ 4) : 1 <= e.do' /\ e.do' <= 6 /\ inD d e.at' /\ (e.do' = 5 -> inD d e.to) := by
 have h16 : 1 <= e.do' /\ e.do' <= 6 := by
  apply Classical.byContradiction; intro h
  unfold ZZ at h0; rw [if_pos h] at h0; omega
 refine ⟨h16.1, h16.2, ?_, fun h5 => ?_⟩
 ·apply Classical.byContradiction; intro h
  rw [errR_in h16.1 h16.2 h4 (.inl h)] at h0; omega
 ·apply Classical.byContradiction; intro h
  rw [errR_in h16.1 h16.2 h4 (.inr ⟨h5, h⟩)] at h0; omega
def T7 (e : HEdit) (a : HAttr) : List HAttr := if a.name ≠ e.name \/ e.do' ≠ 2 then [if a.name = e.name /\ e.do' = 1 then ⟨a.name, e.value⟩ else a] else []
def setA (e : HEdit) (l : List HAttr) : Bool := decide (e.do' = 1) && l.any fun a => a.name == e.name
theorem stepA_len (e : HEdit) (l : List HAttr) : (l.flatMap (T7 e)).length <= l.length := by
 induction l with
 | nil => simp
 | cons a l ih =>
  rw [List.flatMap_cons, List.length_append, List.length_cons]
  have : (T7 e a).length <= 1 := by unfold T7; split <;> simp
  omega
theorem errR_5z {d : HDoc} {e : HEdit} (h : e.do' = 5) (ha : inD d e.at') (ht : inD d e.to) (h0 : ZZ d e = 0) : e.to ∉ X2 d e.at' /\ ¬ (e.before ≠ -1 /\ U1 (· == e.before) (nd d e.at').kids < 0) := by
 rw [errR_5 h ha ht] at h0
 split at h0
 ·omega
 split at h0
 ·omega
 split at h0
 ·omega
 rename_i h3
 split at h0
 ·omega
 rename_i h4
 exact ⟨by simpa using h4, h3⟩
theorem edited_else {d : HDoc} (V : DV d) (sm : DocSm d) {e : HEdit} (he : EditSm e) (h0 : ZZ d e = 0) (c4 : e.do' ≠ 4) {h h2 : Q3} {b : AVal} {E : Env} {r4 r8 : Nat}
  (S : Sub h h2) (F : Fresh h h2 40 6 (d.nodes.map Q9) b) (h4 : h r4 = none) (h8 : h r8 = none) (g4 : h2 r4 = some ⟨.t 24, 2, [[.emp, .bool false]]⟩) (g8 : h2 r8 = some ⟨.t 24, 2, [[b, .bool d.quirks]]⟩) (n4 : Q8 b ≠ some r4) (n8 : Q8 b ≠ some r8) (n48 : r4 ≠ r8)
  (e3 : E 3 = .pin (Z1 e)) (e4 : E 4 = .vp r4 0) (e8 : E 8 = .vp r8 0) (e9 : E 9 = Q7 0) :
  vc (Pg G) c26_s5 (KW [.cell 4 2 true, .tmp 5, .tmp 6] (EdK d e h)) E h2 := by
 have vl := V.len
 obtain ⟨d1, d6, ha, hto⟩ := errR_at h0 c4
 have a0 := ha.1
 have a1 := ha.2
 have ea : nth d.nodes e.at'.toNat = nd d e.at' := rfl
 obtain ⟨rN, hN0, gN, rfl⟩ := F.acc.pos (by rw [List.length_map]; exact V.pos)
 rw [List.length_map] at *
 have nN4 : rN ≠ r4 := fun e => n4 (by rw [e]; rfl)
 have nN8 : rN ≠ r8 := fun e => n8 (by rw [e]; rfl)
 unfold c26_s5
 skip
 simp -dsimp -implicitDefEqProofs (disch := omega) only [VCA, Nat.reduceAdd, Nat.reduceLeDiff, ↓reduceIte, e3, Z1]
 refine Br.eq (fun h1 => absurd h1 c4) (fun _ => ?_)
 simp -dsimp -implicitDefEqProofs (disch := omega) only [VCA, Nat.reduceEqDiff, Nat.reduceAdd, Nat.reduceLT, Nat.reduceLeDiff, ↓reduceIte, Z0, exists_eq_left', e3, e8, g8, gN, Z1, Q9, ea]
 refine ⟨by omega, by omega, fun r10 hr10 => ?_⟩
 have n10 : ∀ t o, h2 t = some o -> ¬ t = r10 := fun t o ht e => by rw [e, hr10] at ht; cases ht
 have n410 := n10 _ _ g4
 have n810 := n10 _ _ g8
 have nN10 := n10 _ _ gN
 have al := ((W4 _).1 ((U8 _).1 (V.node _ ha)).2.2.2.1).1
 have anod := ((W4 _).1 ((U8 _).1 (V.node _ ha)).2.2.2.1).2.2
 have Sb : Sub h2 (upd h2 r10 (some ⟨.t 40, 6, [Q9 (nd d e.at')]⟩)) := (Sub.refl h2).upd hr10
 have gb := Q2 h2 r10 (some ⟨.t 40, 6, [Q9 (nd d e.at')]⟩)
 show LoopVC _ _ _ (upd h2 r10 (some ⟨.t 40, 6, [Q9 (nd d e.at')]⟩))
 generalize upd h2 r10 (some ⟨.t 40, 6, [Q9 (nd d e.at')]⟩) = hb at *
 refine LoopVC.intro (fun m E h' => ∃ k : Nat, k <= (nd d e.at').attrs.length /\ m = (nd d e.at').attrs.length - k /\ E 3 = .pin (Z1 e) /\ E 4 = .vp r4 0 /\ E 8 = .vp r8 0 /\ E 9 = Q7 0 /\ E 10 = .vp r10 0 /\ E 12 = .bool (setA e ((nd d e.at').attrs.take k)) /\ E 13 = Q7 k /\
  Acc hb 96 2 ((((nd d e.at').attrs.take k).flatMap (T7 e)).map Z7) (E 11) h' /\ Sub hb h') (nd d e.at').attrs.length
  ⟨0, by omega, by omega, e3, e4, e8, e9, rfl, by (show AVal.bool false = _); simp [setA], rfl, .inl ⟨rfl, rfl⟩, Sub.refl _⟩ ?_
 clear e3 e4 e8 e9
 rintro m E h' ⟨k, hk, rfl, e3, e4, e8, e9, e10, e12, e13, A, S'⟩
 have g10 := S' _ _ gb
 unfold Q9 at g10
 simp -dsimp -implicitDefEqProofs (disch := omega) only [VCA, Nat.reduceEqDiff, Nat.reduceAdd, Nat.reduceLT, Nat.reduceLeDiff, ↓reduceIte, exists_eq_left', e10, e13, g10, Z1]
 refine Br.dec (fun hlt => ?_) (fun hge => ?_)
 ·have hk' : k < (nd d e.at').attrs.length := by omega
  have tk : ((nd d e.at').attrs.take (k + 1)).flatMap (T7 e) = ((nd d e.at').attrs.take k).flatMap (T7 e) ++ T7 e (nth (nd d e.at').attrs k) := by rw [KQ hk', List.flatMap_append]; simp
  have ts : setA e ((nd d e.at').attrs.take (k + 1)) = (setA e ((nd d e.at').attrs.take k) || (decide (e.do' = 1) && ((nth (nd d e.at').attrs k).name == e.name))) := by unfold setA; rw [KQ hk', List.any_append]; cases decide (e.do' = 1) <;> simp
  have tl := stepA_len e ((nd d e.at').attrs.take k)
  rw [List.length_take] at tl
  have tm : ((((nd d e.at').attrs.take k).flatMap (T7 e)).map Z7).length <= 12 := by rw [List.length_map]; omega
  obtain ⟨x, hx⟩ : ∃ x, nth (nd d e.at').attrs k = x := ⟨_, rfl⟩
  rw [hx] at tk ts
  have A14 : ∀ r y, h' r = none -> Acc hb 96 2 ((((nd d e.at').attrs.take k).flatMap (T7 e)).map Z7) (E 11) (upd h' r (some y)) := fun r y hr => by
   rcases A with q | ⟨r', q0, q1, q2⟩
   ·exact .inl q
   ·exact .inr ⟨r', q0, by rw [Q1 _ _ (fun e => by rw [e, hr] at q1; cases q1)]; exact q1, q2⟩
  obtain ⟨sx, tk0⟩ : ∃ sx, T7 e x = sx := ⟨_, rfl⟩
  rw [tk0] at tk
  have nx : (x.name == e.name) = true ↔ x.name = e.name := by simp
  cases bn : (x.name == e.name)
  ·by_cases c1 : e.do' = 1
   ·have b1 : (e.do' == 1) = true := by simp; omega
    have b2 : (e.do' == 2) = false := by simp; omega
    have b2' : (e.do' != 2) = true := by simp; omega
    have bn' : (x.name != e.name) = true := by simp [bne, bn]
    simp -dsimp -implicitDefEqProofs (disch := omega) only [VCA, Nat.reduceEqDiff, Nat.reduceAdd, Nat.reduceLT, Nat.reduceLeDiff, ↓reduceIte, Y1, Z0, forall_eq, exists_eq_left, exists_eq_left', e3, e10, e13, g10, Z1, Z7, hx, bn, bn']
    refine ⟨by omega, fun r14 hr14 => ?_⟩
    refine (A14 _ _ hr14).app (S'.upd (S'.none hr14)) (by rw [List.length_singleton]; omega) (by rw [List.length_singleton]; omega) (fun a' h3 A' S3 => ?_)
    rw [show T7 e x = [x] from by unfold T7; rw [if_pos (.inl (fun h => by rw [nx.2 h] at bn; cases bn)), if_neg (fun h => by rw [nx.2 h.1] at bn; cases bn)]] at tk0
    simp -dsimp -implicitDefEqProofs (disch := omega) only [VCA, Nat.reduceEqDiff, ↓reduceIte, e3, e4, e8, e9, e10, e12, e13, Z1]
    refine ⟨_, by omega, k + 1, by omega, rfl, by rw [ts, bn]; simp, by omega, ?_, S3⟩
    rw [tk, <- tk0, List.map_append]
    exact A'
   ·by_cases c2 : e.do' = 2
    ·have b1 : (e.do' == 1) = false := by simp; omega
     have b2 : (e.do' == 2) = true := by simp; omega
     have b2' : (e.do' != 2) = false := by simp; omega
     have bn' : (x.name != e.name) = true := by simp [bne, bn]
     simp -dsimp -implicitDefEqProofs (disch := omega) only [VCA, Nat.reduceEqDiff, Nat.reduceAdd, Nat.reduceLT, Nat.reduceLeDiff, ↓reduceIte, Y1, Z0, forall_eq, exists_eq_left, exists_eq_left', e3, e10, e13, g10, Z1, Z7, hx, bn, bn']
     refine ⟨by omega, fun r14 hr14 => ?_⟩
     refine (A14 _ _ hr14).app (S'.upd (S'.none hr14)) (by rw [List.length_singleton]; omega) (by rw [List.length_singleton]; omega) (fun a' h3 A' S3 => ?_)
     rw [show T7 e x = [x] from by unfold T7; rw [if_pos (.inl (fun h => by rw [nx.2 h] at bn; cases bn)), if_neg (fun h => by rw [nx.2 h.1] at bn; cases bn)]] at tk0
     simp -dsimp -implicitDefEqProofs (disch := omega) only [VCA, Nat.reduceEqDiff, ↓reduceIte, e3, e4, e8, e9, e10, e12, e13, Z1]
     refine ⟨_, by omega, k + 1, by omega, rfl, by rw [ts, bn]; simp, by omega, ?_, S3⟩
     rw [tk, <- tk0, List.map_append]
     exact A'
    ·have b1 : (e.do' == 1) = false := by simp; omega
     have b2 : (e.do' == 2) = false := by simp; omega
     have b2' : (e.do' != 2) = true := by simp; omega
     have bn' : (x.name != e.name) = true := by simp [bne, bn]
     simp -dsimp -implicitDefEqProofs (disch := omega) only [VCA, Nat.reduceEqDiff, Nat.reduceAdd, Nat.reduceLT, Nat.reduceLeDiff, ↓reduceIte, Y1, Z0, forall_eq, exists_eq_left, exists_eq_left', e3, e10, e13, g10, Z1, Z7, hx, bn, bn']
     refine ⟨by omega, fun r14 hr14 => ?_⟩
     refine (A14 _ _ hr14).app (S'.upd (S'.none hr14)) (by rw [List.length_singleton]; omega) (by rw [List.length_singleton]; omega) (fun a' h3 A' S3 => ?_)
     rw [show T7 e x = [x] from by unfold T7; rw [if_pos (.inr c2), if_neg (fun h => c1 h.2)]] at tk0
     simp -dsimp -implicitDefEqProofs (disch := omega) only [VCA, Nat.reduceEqDiff, ↓reduceIte, e3, e4, e8, e9, e10, e12, e13, Z1]
     refine ⟨_, by omega, k + 1, by omega, rfl, by rw [ts, bn]; simp, by omega, ?_, S3⟩
     rw [tk, <- tk0, List.map_append]
     exact A'
  ·by_cases c1 : e.do' = 1
   ·have b1 : (e.do' == 1) = true := by simp; omega
    have b2 : (e.do' == 2) = false := by simp; omega
    have b2' : (e.do' != 2) = true := by simp; omega
    have bn' : (x.name != e.name) = false := by simp [bne, bn]
    simp -dsimp -implicitDefEqProofs (disch := omega) only [VCA, Nat.reduceEqDiff, Nat.reduceAdd, Nat.reduceLT, Nat.reduceLeDiff, ↓reduceIte, Y1, Z0, forall_eq, exists_eq_left, exists_eq_left', e3, e10, e13, g10, Z1, Z7, hx, bn, bn', b1, b2']
    refine ⟨by omega, fun r14 hr14 => ?_⟩
    refine (A14 _ _ hr14).app (S'.upd (S'.none hr14)) (by rw [List.length_singleton]; omega) (by rw [List.length_singleton]; omega) (fun a' h3 A' S3 => ?_)
    rw [show T7 e x = [⟨x.name, e.value⟩] from by unfold T7; rw [if_pos (.inr (by omega)), if_pos ⟨nx.1 bn, c1⟩]] at tk0
    simp -dsimp -implicitDefEqProofs (disch := omega) only [VCA, Nat.reduceEqDiff, ↓reduceIte, e3, e4, e8, e9, e10, e13, Z1]
    refine ⟨_, by omega, k + 1, by omega, rfl, by rw [ts, bn]; simp [c1], by omega, ?_, S3⟩
    rw [tk, <- tk0, List.map_append]
    exact A'
   ·by_cases c2 : e.do' = 2
    ·have b1 : (e.do' == 1) = false := by simp; omega
     have b2 : (e.do' == 2) = true := by simp; omega
     have b2' : (e.do' != 2) = false := by simp; omega
     have bn' : (x.name != e.name) = false := by simp [bne, bn]
     rw [show T7 e x = [] from by unfold T7; rw [if_neg (fun h => h.elim (fun h => h (nx.1 bn)) (fun h => h c2))]] at tk0
     simp -dsimp -implicitDefEqProofs (disch := omega) only [VCA, Nat.reduceEqDiff, Nat.reduceAdd, Nat.reduceLT, Nat.reduceLeDiff, ↓reduceIte, Z0, exists_eq_left', e3, e4, e8, e9, e10, e12, e13, g10, Z1, Z7, hx, bn, bn', b1, b2']
     refine ⟨by omega, fun r14 hr14 => ?_⟩
     refine ⟨_, by omega, k + 1, by omega, rfl, by rw [ts]; simp [c1], by omega, ?_, S'.upd (S'.none hr14)⟩
     rw [tk, <- tk0, List.append_nil]
     exact A14 _ _ hr14
    ·have b1 : (e.do' == 1) = false := by simp; omega
     have b2 : (e.do' == 2) = false := by simp; omega
     have b2' : (e.do' != 2) = true := by simp; omega
     have bn' : (x.name != e.name) = false := by simp [bne, bn]
     simp -dsimp -implicitDefEqProofs (disch := omega) only [VCA, Nat.reduceEqDiff, Nat.reduceAdd, Nat.reduceLT, Nat.reduceLeDiff, ↓reduceIte, Y1, Z0, forall_eq, exists_eq_left, exists_eq_left', e3, e10, e13, g10, Z1, Z7, hx, bn, bn', b1, b2']
     refine ⟨by omega, fun r14 hr14 => ?_⟩
     refine (A14 _ _ hr14).app (S'.upd (S'.none hr14)) (by rw [List.length_singleton]; omega) (by rw [List.length_singleton]; omega) (fun a' h3 A' S3 => ?_)
     rw [show T7 e x = [x] from by unfold T7; rw [if_pos (.inr c2), if_neg (fun h => c1 h.2)]] at tk0
     simp -dsimp -implicitDefEqProofs (disch := omega) only [VCA, Nat.reduceEqDiff, ↓reduceIte, e3, e4, e8, e9, e10, e12, e13, Z1]
     refine ⟨_, by omega, k + 1, by omega, rfl, by rw [ts]; simp [c1], by omega, ?_, S3⟩
     rw [tk, <- tk0, List.map_append]
     exact A'
 ·obtain rfl : k = (nd d e.at').attrs.length := by omega
  rw [List.take_length] at A e12
  have eN0 : editN d e = 0 := by unfold editN; rw [if_neg c4]
  have qq : ∀ x' : HNode, Q9 x' = [Q7 x'.kind, .str x'.name, sl Z7 x'.attrs, .str x'.text, Q7 x'.parent, sl J8 x'.kids] := fun _ => rfl
  have gbN := Sb _ _ gN
  have gb4 := Sb _ _ g4
  have gb8 := Sb _ _ g8
  have fin : ∀ (h5 : Q3) (E5 : Env) (cells' : List (List AVal)), h5 rN = some ⟨.t 40, 6, cells'⟩ -> cells'.length = d.nodes.length -> (∀ t o, hb t = some o -> t ≠ rN -> t ≠ r10 -> h5 t = some o) -> F2 (F2 Vz) cells' ((X9 d e).nodes.map Q9) -> E5 4 = .vp r4 0 -> E5 8 = .vp r8 0 -> E5 9 = Q7 0 ->
    vc (Pg G) c26_s6 (KW [.cell 4 2 true, .tmp 5, .tmp 6] (EdK d e h)) E5 h5 := fun h5 E5 cells' q1 q2 q3 q4 q5 q6 q7 => by
   refine edited_end V sm he h0 (cells := cells') (b := .osl rN 6 0 d.nodes.length) (r4 := r4) (r8 := r8) (fun t o ht => ?_) ⟨.inr ⟨rN, hN0, q1, by rw [q2]⟩⟩ q4 h4 (q3 _ _ gb4 (fun e => nN4 e.symm) n410) (q3 _ _ gb8 (fun e => nN8 e.symm) n810) (fun e => nN4 (by cases e; rfl)) q5 q6 (by rw [eN0]; exact q7)
   exact q3 t o (Sb _ _ (S _ _ ht)) (fun e => by rw [e, hN0] at ht; cases ht) (n10 _ _ (S _ _ ht))
  have hN' := S' _ _ gbN
  have h4' := S' _ _ gb4
  have h8' := S' _ _ gb8
  have lenN : (d.nodes.map Q9).length = d.nodes.length := by rw [List.length_map]
  have b4 : (e.do' == 4) = false := by simp [c4]
  have m810 : ¬ r10 = r8 := fun h => n810 (Eq.symm h)
  have m410 : ¬ r10 = r4 := fun h => n410 (Eq.symm h)
  have mN10 : ¬ r10 = rN := fun h => nN10 (Eq.symm h)
  have nN8' : ¬ rN = r8 := nN8
  have nN4' : ¬ rN = r4 := nN4
  have mN8 : ¬ r8 = rN := fun h => nN8 h.symm
  have mN4 : ¬ r4 = rN := fun h => nN4 h.symm
  have gat : (d.nodes.map Q9).getD e.at'.toNat [] = [Q7 (nd d e.at').kind, .str (nd d e.at').name, sl Z7 (nd d e.at').attrs, .str (nd d e.at').text, Q7 (nd d e.at').parent, sl J8 (nd d e.at').kids] := UX (by omega)
  by_cases c3 : e.do' = 3
  ·have b1 : (e.do' == 1) = false := by simp; omega
   have b2 : (e.do' == 2) = false := by simp; omega
   have b3 : (e.do' == 3) = true := by simp; omega
   have b5 : (e.do' == 5) = false := by simp; omega
   have b6 : (e.do' == 6) = false := by simp; omega
   simp -dsimp -implicitDefEqProofs (disch := omega) only [VCA, Nat.reduceEqDiff, Nat.reduceAdd, Nat.reduceLT, Nat.reduceLeDiff, ↓reduceIte, Z0, exists_eq_left', e3, e8, e10, g10, hN', h8', Z1, b1, b2, b3, b5, b6, lenN, gat, n810, nN10]
   have eD : X9 d e = setN d e.at' { nd d e.at' with text := e.value } := by unfold X9; rw [if_neg (by omega), if_neg (by omega), if_pos c3]
   refine ⟨by omega, by omega, fin _ _ _ (Q2 _ _ _) (by rw [List.length_set]; exact lenN) (fun t o ht h1 h2 => by rw [Q1 _ _ h1, Q1 _ _ h2]; exact S' _ _ ht) ?_ e4 e8 e9⟩
   rw [eD]
   show F2 (F2 Vz) _ ((d.nodes.set _ _).map Q9)
   rw [List.map_set]
   exact wks_refl _
  by_cases c6 : e.do' = 6
  ·have b1 : (e.do' == 1) = false := by simp; omega
   have b2 : (e.do' == 2) = false := by simp; omega
   have b3 : (e.do' == 3) = false := by simp; omega
   have b5 : (e.do' == 5) = false := by simp; omega
   have b6 : (e.do' == 6) = true := by simp; omega
   have hE := h0
   rw [errR_6 c6 ha] at hE
   have hz : ¬ e.at' = 0 := fun h => by rw [if_pos h] at hE; omega
   rw [if_neg hz] at hE
   have hp : 0 <= (nd d e.at').parent := by
    apply Classical.byContradiction; intro h
    rw [if_pos (by omega)] at hE; omega
   have pin := (V.par_in ha hp).1
   have p1 := pin.2
   have gp : (d.nodes.map Q9).getD (nd d e.at').parent.toNat [] = [Q7 (nd d (nd d e.at').parent).kind, .str (nd d (nd d e.at').parent).name, sl Z7 (nd d (nd d e.at').parent).attrs, .str (nd d (nd d e.at').parent).text, Q7 (nd d (nd d e.at').parent).parent, sl J8 (nd d (nd d e.at').parent).kids] := UX (by omega)
   have hi := idx_at (V.par_in ha hp).2
   have hk0 := (UK (nd d (nd d e.at').parent).kids e.at').2 (V.par_in ha hp).2
   have hPl := placeIn_ok (G := G) (nd d (nd d e.at').parent).kids e.at' (sm.nd _).kids
   have eD : X9 d e = cutN d e.at' (U1 (· == e.at') (nd d (nd d e.at').parent).kids).toNat := by unfold X9; rw [if_neg (by omega), if_neg (by omega), if_neg (by omega), if_neg (by omega), if_neg (by omega)]
   obtain ⟨i, hii⟩ : ∃ i : Nat, U1 (· == e.at') (nd d (nd d e.at').parent).kids = i := ⟨(U1 (· == e.at') (nd d (nd d e.at').parent).kids).toNat, by omega⟩
   rw [hii] at hPl eD hi
   rw [Int.toNat_natCast] at eD hi
   have hne : (nd d e.at').parent.toNat ≠ e.at'.toNat := fun h => by
    have := V.up_par ha hp
    have e2 : (nd d e.at').parent = e.at' := by omega
    rw [e2] at this; omega
   have gs : ∀ row : List AVal, ((d.nodes.map Q9).set (nd d e.at').parent.toNat row).getD e.at'.toNat [] = [Q7 (nd d e.at').kind, .str (nd d e.at').name, sl Z7 (nd d e.at').attrs, .str (nd d e.at').text, Q7 (nd d e.at').parent, sl J8 (nd d e.at').kids] := fun row => by
    rw [List.getD_eq_getElem?_getD, List.getElem?_set_ne hne, <- List.getD_eq_getElem?_getD]; exact gat
   have hW := without_ok (G := G) (nd d (nd d e.at').parent).kids i hi.1 (sm.nd _).kids
   simp -dsimp -implicitDefEqProofs (disch := omega) only [VCA, Nat.reduceEqDiff, Nat.reduceAdd, Nat.reduceLT, Nat.reduceLeDiff, ↓reduceIte, J6, Q5, exists_eq_left', Z8, e3, e8, e10, g10, hN', h8', Z1, b1, b2, b3, b5, b6, lenN, gp]
   repeat' (first | ((with_reducible refine brC (fun _ => ?_) fun _ => ?_) <;> try (exfalso; omega)) | (with_reducible apply pcallE.of; · exact hPl) | (with_reducible apply pcallE.of; · exact hW) | (with_reducible refine And.intro ?_ ?_; · omega) | simp -dsimp -implicitDefEqProofs (disch := omega) only [VCA, Nat.reduceEqDiff, Nat.reduceBEq, Nat.reduceAdd, Nat.reduceLT, Nat.reduceLeDiff, ↓reduceIte, J6, Q5, SOp.rd, SI.rd, SX.rd, Z0, implies_true, exists_eq_left', Z8, e3, e8, e10, g10, hN', h8', Z1, lenN, gp, gs, List.length_set, n810, nN10, mN10, mN8])
   refine fin _ _ _ (Q2 _ _ _) (by rw [List.length_set, List.length_set]; exact lenN) (fun t o ht h1 h2 => by rw [Q1 _ _ h1, Q1 _ _ h2, Q1 _ _ h1]; exact S' _ _ ht) ?_ e4 e8 e9
   rw [eD]
   show F2 (F2 Vz) _ (((d.nodes.set _ _).set _ _).map Q9)
   rw [List.map_set, List.map_set]
   exact wks_refl _
  by_cases c5 : e.do' = 5
  ·have b1 : (e.do' == 1) = false := by simp; omega
   have b2 : (e.do' == 2) = false := by simp; omega
   have b3 : (e.do' == 3) = false := by simp; omega
   have b5 : (e.do' == 5) = true := by simp; omega
   have b6 : (e.do' == 6) = false := by simp; omega
   have ht := hto c5
   have t0 := ht.1
   have t1 := ht.2
   obtain ⟨hc, hbe⟩ := errR_5z c5 ha ht h0
   have gt : (d.nodes.map Q9).getD e.to.toNat [] = [Q7 (nd d e.to).kind, .str (nd d e.to).name, sl Z7 (nd d e.to).attrs, .str (nd d e.to).text, Q7 (nd d e.to).parent, sl J8 (nd d e.to).kids] := UX (by omega)
   have hne : e.to.toNat ≠ e.at'.toNat := fun h => hc (by rw [show e.to = e.at' by omega]; exact U5 d _)
   have gs : ∀ row : List AVal, ((d.nodes.map Q9).set e.to.toNat row).getD e.at'.toNat [] = [Q7 (nd d e.at').kind, .str (nd d e.at').name, sl Z7 (nd d e.at').attrs, .str (nd d e.at').text, Q7 (nd d e.at').parent, sl J8 (nd d e.at').kids] := fun row => by
    rw [List.getD_eq_getElem?_getD, List.getElem?_set_ne hne, <- List.getD_eq_getElem?_getD]; exact gat
   have eD : X9 d e = JV d e.at' e.to (U7 d e) := by unfold X9; rw [if_neg (by omega), if_neg (by omega), if_neg (by omega), if_neg (by omega), if_pos c5]
   have hPl := placeIn_ok (G := G) (nd d e.at').kids e.before (sm.nd _).kids
   have kl := XT d.nodes.length (nd d e.at').kids (V.nodup _ ha) (fun k hk => (V.kid _ ha k hk).1)
   cases bb : (e.before != -1)
   ·simp -dsimp -implicitDefEqProofs (disch := omega) only [VCA, Nat.reduceEqDiff, Nat.reduceBEq, Nat.reduceAdd, Nat.reduceLT, Nat.reduceLeDiff, ↓reduceIte, J6, Q5, SOp.rd, SI.rd, SX.rd, Y1, Z0, forall_const, forall_eq, exists_eq_left, exists_eq_left', Z8, e3, e8, e10, g10, Z1, b1, b2, b3, b5, bb, n810]
    refine ⟨by omega, by omega, by omega, by omega, fun r hr => ?_⟩
    have nr : ¬ r10 = r := fun e => by rw [<- e, g10] at hr; cases hr
    have dd := fun x => YZ (h := h') (r := r) (o := x) hr
    simp -dsimp -implicitDefEqProofs (disch := omega) only [VCA, Nat.reduceLeDiff, ↓reduceIte, g10, nr, dd, List.drop_length, List.length_append]
    refine ⟨by omega, by omega, fun r' hr' => ?_⟩
    have nr' : ¬ r10 = r' := fun e => by rw [<- e, g10] at hr'; cases hr'
    have dd' := fun x => YZ (h := h') (r := r') (o := x) hr'
    simp -dsimp -implicitDefEqProofs (disch := omega) only [VCA, Nat.reduceEqDiff, Nat.reduceAdd, Nat.reduceLT, Nat.reduceLeDiff, ↓reduceIte, Z0, exists_eq_left', e3, e8, e10, g10, hN', h8', Z1, b6, lenN, gt, gs, List.length_set, n810, nN10, mN10, mN8, nr', dd, dd', List.drop_length]
    have eI : U7 d e = (nd d e.at').kids.length := by unfold U7; rw [if_pos (by simpa using bb)]
    refine ⟨by omega, by omega, by omega, by omega, by omega, by omega, fin _ _ _ (Q2 _ _ _) (by rw [List.length_set, List.length_set]; exact lenN) (fun t o ht h1 h2 => by rw [Q1 _ _ h1, Q1 _ _ h2]; exact S' _ _ ht) (wks_eq ?_) e4 e8 e9⟩
    rw [eD, eI]
    show _ = ((d.nodes.set _ _).set _ _).map Q9
    rw [List.map_set, List.map_set, List.set_comm _ _ hne.symm]
    refine congrArg (List.set _ _) ?_
    rw [qq]
    simp only [List.take_length, List.drop_length, sl, List.map_append, List.map_cons, List.map_nil]
    rw [List.take_of_length_le (i := (nd d e.at').kids.length + 1) (by simp)]
    rfl
   ·have hi := idxM_leK (nd d e.at').kids e.before
    have bb' : e.before ≠ -1 := by simpa using bb
    obtain ⟨i, hii⟩ : ∃ i : Nat, U1 (· == e.before) (nd d e.at').kids = i := ⟨(U1 (· == e.before) (nd d e.at').kids).toNat, by omega⟩
    rw [hii] at hPl hi
    have lt : ((nd d e.at').kids.take i).length = i := by rw [List.length_take]; omega
    have ld : ((nd d e.at').kids.drop i).length = (nd d e.at').kids.length - i := List.length_drop
    simp -dsimp -implicitDefEqProofs (disch := omega) only [VCA, Nat.reduceEqDiff, Nat.reduceAdd, Nat.reduceLT, Nat.reduceLeDiff, ↓reduceIte, exists_eq_left', e3, e10, g10, Z1, b1, b2, b3, b5, bb]
    refine pcallE.of (hPl) ?_; simp -dsimp -implicitDefEqProofs (disch := omega) only [VCA, Nat.reduceEqDiff, Nat.reduceBEq, Nat.reduceAdd, Nat.reduceLT, Nat.reduceLeDiff, ↓reduceIte, J6, Q5, SOp.rd, SI.rd, SX.rd, Y1, Z0, forall_const, forall_eq, exists_eq_left, exists_eq_left', Z8, e3, e8, e10, g10, Z1, n810]
    simp -dsimp -implicitDefEqProofs (disch := omega) only [lt, ld]
    refine ⟨by omega, by omega, by omega, by omega, fun r hr => ?_⟩
    have nr : ¬ r10 = r := fun e => by rw [<- e, g10] at hr; cases hr
    have dd := fun x => YZ (h := h') (r := r) (o := x) hr
    simp -dsimp -implicitDefEqProofs (disch := omega) only [VCA, ↓reduceIte, g10, nr, dd, lt, List.length_append]
    refine ⟨by omega, by omega, fun r' hr' => ?_⟩
    have nr' : ¬ r10 = r' := fun e => by rw [<- e, g10] at hr'; cases hr'
    have dd' := fun x => YZ (h := h') (r := r') (o := x) hr'
    simp -dsimp -implicitDefEqProofs (disch := omega) only [VCA, Nat.reduceEqDiff, Nat.reduceAdd, Nat.reduceLT, Nat.reduceLeDiff, ↓reduceIte, Z0, exists_eq_left', e3, e8, e10, g10, hN', h8', Z1, b6, lenN, gt, gs, List.length_set, n810, nN10, mN10, mN8, nr', dd, dd', lt]
    have eI : U7 d e = i := by unfold U7; rw [if_neg bb', hii]; rfl
    refine ⟨by omega, by omega, by omega, by omega, by omega, by omega, fin _ _ _ (Q2 _ _ _) (by rw [List.length_set, List.length_set]; exact lenN) (fun t o ht h1 h2 => by rw [Q1 _ _ h1, Q1 _ _ h2]; exact S' _ _ ht) (wks_eq ?_) e4 e8 e9⟩
    rw [eD, eI]
    show _ = ((d.nodes.set _ _).set _ _).map Q9
    rw [List.map_set, List.map_set, List.set_comm _ _ hne.symm]
    refine congrArg (List.set _ _) ?_
    rw [qq]
    simp only [sl, List.map_append, List.map_cons]
    rw [List.take_of_length_le (i := i + 1) (by simp; omega), List.append_assoc]
    rfl
  have tS := stepA_len e (nd d e.at').attrs
  by_cases c2 : e.do' = 2
  ·have b1 : (e.do' == 1) = false := by simp; omega
   have b2 : (e.do' == 2) = true := by simp; omega
   have b3 : (e.do' == 3) = false := by simp; omega
   have b5 : (e.do' == 5) = false := by simp; omega
   have b6 : (e.do' == 6) = false := by simp; omega
   have hat : 0 <= Z4 (nd d e.at').attrs e.name := by
    have hE := h0
    rw [errR_2 c2 ha] at hE
    split at hE
    ·omega
    split at hE
    ·omega
    ·rename_i q; exact Classical.not_not.1 q
   have eL : (nd d e.at').attrs.flatMap (T7 e) = V5 (nd d e.at').attrs e.name := by
    rw [dropAttr_filter anod hat]
    generalize (nd d e.at').attrs = l
    induction l with
    | nil => rfl
    | cons a l ih =>
     rw [List.flatMap_cons, List.filter_cons, ih]
     unfold T7
     by_cases q : a.name = e.name
     ·rw [if_neg (by simp [q, c2])]; simp [q]
     ·rw [if_pos (.inl q), if_neg (fun h => q h.1)]; simp [q]
   have eD : X9 d e = setN d e.at' { nd d e.at' with attrs := V5 (nd d e.at').attrs e.name } := by unfold X9; rw [if_neg (by omega), if_pos c2]
   rw [eL] at A tS
   rcases A with ⟨q0, q1⟩ | ⟨rA, q0, q1, q2⟩
   ·simp -dsimp -implicitDefEqProofs (disch := omega) only [VCA, Nat.reduceEqDiff, Nat.reduceAdd, Nat.reduceLT, Nat.reduceLeDiff, ↓reduceIte, Z0, exists_eq_left', e3, e8, e10, g10, hN', h8', Z1, b1, b2, b3, b5, b6, lenN, gat, n810, nN10, q1]
    refine ⟨by omega, by omega, fin _ _ _ (Q2 _ _ _) (by rw [List.length_set]; exact lenN) (fun t o ht h1 h2 => by rw [Q1 _ _ h1, Q1 _ _ h2]; exact S' _ _ ht) (wks_eq ?_) e4 e8 e9⟩
    rw [eD]
    show _ = (d.nodes.set _ _).map Q9
    rw [List.map_set]
    refine congrArg (List.set _ _) ?_
    rw [qq]
    have : V5 (nd d e.at').attrs e.name = [] := by simpa using q0
    simp only [this]
    rfl
   ·have SD := S'.del q0
    have dA10 := SD _ _ gb
    have dA8 := SD _ _ gb8
    have dAN := SD _ _ gbN
    unfold Q9 at dA10
    simp -dsimp -implicitDefEqProofs (disch := omega) only [VCA, Nat.reduceEqDiff, Nat.reduceAdd, Nat.reduceLT, Nat.reduceLeDiff, ↓reduceIte, Z0, exists_eq_left', e3, e8, e10, Z1, b1, b2, b3, b5, b6, lenN, gat, n810, nN10, q1, q2, dA10, dA8, dAN]
    refine ⟨by omega, by omega, fin _ _ _ (Q2 _ _ _) (by rw [List.length_set]; exact lenN) (fun t o ht h1 h2 => by rw [Q1 _ _ h1, Q1 _ _ h2]; exact SD _ _ ht) (wks_eq ?_) e4 e8 e9⟩
    rw [eD]
    show _ = (d.nodes.set _ _).map Q9
    rw [List.map_set]
    refine congrArg (List.set _ _) ?_
    rw [qq]
    rw [List.take_of_length_le (by rw [List.length_map]; exact Nat.le_refl _)]
    rfl
  have c1 : e.do' = 1 := by omega
  have b1 : (e.do' == 1) = true := by simp; omega
  have b2 : (e.do' == 2) = false := by simp; omega
  have b3 : (e.do' == 3) = false := by simp; omega
  have b5 : (e.do' == 5) = false := by simp; omega
  have b6 : (e.do' == 6) = false := by simp; omega
  have hsA : setA e (nd d e.at').attrs = decide (0 <= Z4 (nd d e.at').attrs e.name) := by
   unfold setA Z4
   rw [idxM_any, c1]; simp
  have eL := setAttr_map (l := (nd d e.at').attrs) (name := e.name) (value := e.value) anod
  have eM : ((nd d e.at').attrs.map fun a => if a.name = e.name then (⟨a.name, e.value⟩ : HAttr) else a) = (nd d e.at').attrs.flatMap (T7 e) := by
   generalize (nd d e.at').attrs = l
   induction l with
   | nil => rfl
   | cons a l ih =>
    rw [List.flatMap_cons, List.map_cons, ih]
    unfold T7
    by_cases q : a.name = e.name
    ·rw [if_pos q, if_pos (.inr (by omega)), if_pos ⟨q, c1⟩]; rfl
    ·rw [if_neg q, if_pos (.inl q), if_neg (fun h => q h.1)]; rfl
  rw [eM] at eL
  have eD : X9 d e = setN d e.at' { nd d e.at' with attrs := U3 (nd d e.at').attrs e.name e.value } := by unfold X9; rw [if_pos c1]
  by_cases hat : 0 <= Z4 (nd d e.at').attrs e.name
  ·rw [if_pos hat, List.append_nil] at eL
   rw [hsA, decide_eq_true hat] at e12
   rw [<- eL] at A tS
   clear eL
   rcases A with ⟨q0, q1⟩ | ⟨rA, q0, q1, q2⟩
   ·simp -dsimp -implicitDefEqProofs (disch := omega) only [VCA, Nat.reduceEqDiff, Nat.reduceAdd, Nat.reduceLT, Nat.reduceLeDiff, ↓reduceIte, Z0, exists_eq_left', e3, e8, e10, e12, g10, hN', h8', Z1, b1, b3, b5, b6, lenN, gat, n810, nN10, q1]
    refine ⟨by omega, by omega, fin _ _ _ (Q2 _ _ _) (by rw [List.length_set]; exact lenN) (fun t o ht h1 h2 => by rw [Q1 _ _ h1, Q1 _ _ h2]; exact S' _ _ ht) (wks_eq ?_) e4 e8 e9⟩
    rw [eD]
    show _ = (d.nodes.set _ _).map Q9
    rw [List.map_set]
    refine congrArg (List.set _ _) ?_
    rw [qq]
    have : U3 (nd d e.at').attrs e.name e.value = [] := by simpa using q0
    simp only [this]
    rfl
   ·have SD := S'.del q0
    have dA10 := SD _ _ gb
    have dA8 := SD _ _ gb8
    have dAN := SD _ _ gbN
    unfold Q9 at dA10
    simp -dsimp -implicitDefEqProofs (disch := omega) only [VCA, Nat.reduceEqDiff, Nat.reduceAdd, Nat.reduceLT, Nat.reduceLeDiff, ↓reduceIte, Z0, exists_eq_left', e3, e8, e10, e12, Z1, b1, b3, b5, b6, lenN, gat, n810, nN10, q1, q2, dA10, dA8, dAN]
    refine ⟨by omega, by omega, fin _ _ _ (Q2 _ _ _) (by rw [List.length_set]; exact lenN) (fun t o ht h1 h2 => by rw [Q1 _ _ h1, Q1 _ _ h2]; exact SD _ _ ht) (wks_eq ?_) e4 e8 e9⟩
    rw [eD]
    show _ = (d.nodes.set _ _).map Q9
    rw [List.map_set]
    refine congrArg (List.set _ _) ?_
    rw [qq]
    rw [List.take_of_length_le (by rw [List.length_map]; exact Nat.le_refl _)]
    rfl
  ·rw [if_neg hat] at eL
   rw [hsA, decide_eq_false hat] at e12
   simp -dsimp -implicitDefEqProofs (disch := omega) only [VCA, Nat.reduceEqDiff, Nat.reduceAdd, Nat.reduceLeDiff, ↓reduceIte, Y1, X4, Y0, forall_eq, exists_eq_left, e3, e12, Z1, b1]
   have tL : (((nd d e.at').attrs.flatMap (T7 e)).map Z7).length <= 12 := by rw [List.length_map]; omega
   refine A.app S' (by rw [List.length_singleton]; omega) (by rw [List.length_singleton]; omega) (fun a' h3 A' S3 => ?_)
   have eT : ((nd d e.at').attrs.flatMap (T7 e)).map Z7 ++ [[.str e.name, .str e.value]] = (U3 (nd d e.at').attrs e.name e.value).map Z7 := by rw [eL, List.map_append]; rfl
   rw [eT] at A'
   clear eL eT A
   have hN3 := S3 _ _ gbN
   have h43 := S3 _ _ gb4
   have h83 := S3 _ _ gb8
   have k10 := S3 _ _ gb
   unfold Q9 at k10
   rcases A' with ⟨q0, q1⟩ | ⟨rA, q0, q1, q2⟩
   ·simp -dsimp -implicitDefEqProofs (disch := omega) only [VCA, Nat.reduceEqDiff, Nat.reduceAdd, Nat.reduceLT, Nat.reduceLeDiff, ↓reduceIte, Z0, exists_eq_left', e3, e8, e10, k10, hN3, h83, Z1, b1, b3, b5, b6, lenN, gat, n810, nN10, q1]
    refine ⟨by omega, by omega, fin _ _ _ (Q2 _ _ _) (by rw [List.length_set]; exact lenN) (fun t o ht h1 h2 => by rw [Q1 _ _ h1, Q1 _ _ h2]; exact S3 _ _ ht) (wks_eq ?_) e4 e8 e9⟩
    rw [eD]
    show _ = (d.nodes.set _ _).map Q9
    rw [List.map_set]
    refine congrArg (List.set _ _) ?_
    rw [qq]
    have : U3 (nd d e.at').attrs e.name e.value = [] := by simpa using q0
    simp only [this]
    rfl
   ·have SD := S3.del q0
    have dA10 := SD _ _ gb
    have dA8 := SD _ _ gb8
    have dAN := SD _ _ gbN
    unfold Q9 at dA10
    simp -dsimp -implicitDefEqProofs (disch := omega) only [VCA, Nat.reduceEqDiff, Nat.reduceAdd, Nat.reduceLT, Nat.reduceLeDiff, ↓reduceIte, Z0, exists_eq_left', e3, e8, e10, Z1, b1, b3, b5, b6, lenN, gat, n810, nN10, q1, q2, dA10, dA8, dAN]
    refine ⟨by omega, by omega, fin _ _ _ (Q2 _ _ _) (by rw [List.length_set]; exact lenN) (fun t o ht h1 h2 => by rw [Q1 _ _ h1, Q1 _ _ h2]; exact SD _ _ ht) (wks_eq ?_) e4 e8 e9⟩
    rw [eD]
    show _ = (d.nodes.set _ _).map Q9
    rw [List.map_set]
    refine congrArg (List.set _ _) ?_
    rw [qq]
    rw [List.take_of_length_le (by rw [List.length_map]; exact Nat.le_refl _)]
    rfl
theorem edited_ok (d : HDoc) (V : DV d) (sm : DocSm d) (e : HEdit) (he : EditSm e) : PCalls (Pg G) 26 [.agg (Z2 d), .agg (Z1 e)] (edR d e) := PCalls.outV fun h => by
 have hE := editErr_ok (G := G) d V sm e he
 unfold Z1 Z2 at hE
 have hCp := copyDoc_ok (G := G) d sm
 unfold Z2 at hCp
 show DCalls _ _ _ h (EdK d e h)
 refine Q4 Tryz.func26 (by kernel_rfl) hc26 (by rw [Tryz.ntmps26]; simp) (by rw [Tryz.ntmps26]; decide) ?_
 simp -dsimp -implicitDefEqProofs (disch := omega) only [VCA, Nat.reduceEqDiff, Nat.reduceAdd, ↓reduceIte, Z2, c26, Z1]
 intro r4 hr4
 refine pcallE.of (hE) ?_; simp -dsimp -implicitDefEqProofs (disch := omega) only [VCA, ↓reduceIte]
 refine Br.ne (fun h0 => ?_) (fun h0 => ?_)
 ·have aE := apply_err V h0
  have aD : X8 d e = QK := by unfold X8; rw [aE, if_neg h0]
  have aN : ZT d e = 0 := by unfold ZT; rw [aE, if_neg h0]
  simp -dsimp -implicitDefEqProofs (disch := omega) only [VCA, Nat.reduceEqDiff, Nat.reduceAdd, Nat.reduceLT, ↓reduceIte, X4, Y0, Z0, exists_eq_left']
  refine ⟨_, Sub.refl _, (Sub.refl h).upd hr4, ?_⟩
  unfold edR
  rw [aD, aN, aE]
  exact .tup' (.cons (K7 _) (.cons (.refl _) (.cons (.refl _) .nil)))
 ·simp -dsimp -implicitDefEqProofs (disch := omega) only [VCA, Nat.reduceEqDiff, Nat.reduceAdd, ↓reduceIte]
  refine DCalls.of (hCp _) ?_
  rintro a h2 ⟨b, rfl, F, S⟩
  have S4 : ∀ x, Sub h (upd h r4 (some x)) := fun x => (Sub.refl h).upd hr4
  have n4 : Q8 b ≠ some r4 := fun e => by have := F.new _ e; rw [Q2] at this; cases this
  have F' : Fresh h h2 40 6 (d.nodes.map Q9) b := ⟨F.acc.mono (S4 _)⟩
  have g4 := S _ _ (Q2 _ _ _)
  simp -dsimp -implicitDefEqProofs (disch := omega) only [VCA, Nat.reduceEqDiff, Nat.reduceAdd, Nat.reduceLT, ↓reduceIte, Z0, exists_eq_left']
  intro r8 hr8
  have n8 : Q8 b ≠ some r8 := fun e => by
   obtain ⟨o, ho⟩ := F.own.root e
   rw [ho] at hr8; cases hr8
  have n48 : r4 ≠ r8 := fun e => by rw [<- e, g4] at hr8; cases hr8
  have Sh : Sub h h2 := (S4 _).trans S
  have h8 : h r8 = none := Sh.none hr8
  have F2 : ∀ y, Fresh h (upd h2 r8 (some y)) 40 6 (d.nodes.map Q9) b := fun y => F'.keep fun r o hr ho => by rw [Q1 _ _ (fun e => n8 (by rw [hr, e]))]; exact ho
  by_cases c4 : e.do' = 4
  ·exact edited_make V sm he h0 c4 (Sh.upd h8) (F2 _) hr4 h8 (by rw [Q1 _ _ n48]; exact g4) (Q2 _ _ _) n4 n8 n48 rfl rfl rfl
  ·exact edited_else V sm he h0 c4 (Sh.upd h8) (F2 _) hr4 h8 (by rw [Q1 _ _ n48]; exact g4) (Q2 _ _ _) n4 n8 n48 rfl rfl rfl rfl
theorem apply_sm {d : HDoc} (sm : DocSm d) {e : HEdit} (he : EditSm e) : DocSm (X8 d e) := by
 by_cases h0 : K6 d e = 0
 ·have aD : X8 d e = X9 d e := by unfold X8; rw [if_pos h0]
  rw [aD]
  unfold K6 at h0
  by_cases h1 : T6 d = 0
  ·rw [if_neg (by simpa using h1)] at h0
   have V := (KK d).1 h1
   refine edit_sm V sm he (Classical.byContradiction fun h => ?_)
   rw [(editE_errR V e).1 h] at h0
   exact h h0
  ·rw [if_pos h1] at h0; exact absurd h0 h1
 ·have aD : X8 d e = QK := by unfold X8; rw [if_neg h0]
  rw [aD]; exact ⟨by decide, fun x hx => by cases hx⟩
theorem eEdit_len' (e : HEdit) : (Z1 e).length = 12 := rfl
theorem JZ (e : HEdit) : (Z1 e).take 12 = Z1 e := rfl
def runM : HDoc -> List HEdit -> Int -> HDoc × Int × Int
 | d, [], _ => (d, 0, 0)
 | d, e :: l, i => if K6 d e ≠ 0 then (QK, i, K6 d e) else runM (X8 d e) l (i + 1)
def W9 (d : HDoc) (l : List HEdit) : HDoc × Int × Int := if T6 d ≠ 0 then (QK, 0, T6 d) else if 40 < l.length then (QK, 0, 2) else runM d l 0
def allV (x : HDoc × Int × Int) : AVal := .tup [.agg (Z2 x.1), Q7 x.2.1, Q7 x.2.2]
theorem apply_step {d : HDoc} (V : DV d) (sm : DocSm d) {e : HEdit} (he : EditSm e) (h0 : K6 d e = 0) : DV (X8 d e) /\ DocSm (X8 d e) /\ X8 d e = X9 d e /\ U4 d e = 0 := by
 have hd := (KK d).2 V
 have aE : K6 d e = U4 d e := by unfold K6; rw [if_neg (by simpa using hd)]
 have aD : X8 d e = X9 d e := by unfold X8; rw [if_pos h0]
 have h1 : U4 d e = 0 := by rw [<- aE]; exact h0
 have h2 : ZZ d e = 0 := Classical.byContradiction fun h => by
  rw [(editE_errR V e).1 h] at h1; exact h h1
 exact ⟨by rw [aD]; exact (edit_DV V e h2).2 h1, by rw [aD]; exact edit_sm V sm he h2, aD, h1⟩
theorem runM_cons {d : HDoc} {l : List HEdit} {k : Nat} (hk : k < l.length) (i : Int) : runM d (l.drop k) i = if K6 d (nth l k) ≠ 0 then (QK, i, K6 d (nth l k)) else runM (X8 d (nth l k)) (l.drop (k + 1)) (i + 1) := by
 have : l.drop k = nth l k :: l.drop (k + 1) := by
  have e : nth l k = l[k] := by unfold nth; rw [List.getD_eq_getElem?_getD, List.getElem?_eq_getElem hk]; rfl
  rw [e, List.getElem_cons_drop]
 rw [this, runM]
theorem runM_sm : ∀ (l : List HEdit) (d : HDoc) (i : Int), DV d -> DocSm d -> (∀ e ∈ l, EditSm e) -> DocSm (runM d l i).1
 | [], d, i, V, sm, hl => sm
 | e :: l, d, i, V, sm, hl => by
  unfold runM
  by_cases h : K6 d e ≠ 0
  ·rw [if_pos h]; exact ⟨Nat.zero_le _, fun x hx => by cases hx⟩
  ·rw [if_neg h]
   have := apply_step V sm (hl e List.mem_cons_self) (Classical.not_not.1 h)
   exact runM_sm l _ _ this.1 this.2.1 fun x hx => hl x (List.mem_cons_of_mem _ hx)
theorem allM_sm {d : HDoc} {l : List HEdit} (sm : DocSm d) (hl : ∀ e ∈ l, EditSm e) : DocSm (W9 d l).1 := by
 unfold W9
 split
 ·exact ⟨Nat.zero_le _, fun x hx => by cases hx⟩
 rename_i h
 split
 ·exact ⟨Nat.zero_le _, fun x hx => by cases hx⟩
 ·exact runM_sm l d 0 ((KK d).1 (Classical.not_not.1 h)) sm hl
theorem Ed.aside {h0 h : Q3} {re rN r : Nat} {d : HDoc} {sl : Nat -> AVal} {made : Int} (E : Ed h0 h re rN d sl made) (hr : h r = none) (o : AObj) : Ed h0 (upd h r (some o)) re rN d sl made :=
 ⟨(E.dw.more hr o).less (fun x hx => by simp at hx; subst hx; simp), by rw [Q1 _ _ (fun e => by have := E.ed; rw [e, hr] at this; cases this)]; exact E.ed, E.new, E.live⟩
def c38 : SFun := ⟨.seq (.reg [o 2 (.boxF 24 2 (.t 0)), o 4 (.new 24 2 [.emp, .bool false]), o 5 (.mv (.c (.int .i64 0))), o 6 (.mv (.c (.int .i64 0)))]) (.seq (.reg [o 12 (.ld 2 true (.t 2)), o 13 (.pcall 47 [.t 12]), o 7 (.mv (.t 13))]) (.seq (.seq (.reg [o 14 (.mv (.t 7)), o 15 (.bin .eql (.t 14) (.c (.int .i64 0))), o 16 (.mv (.t 15)), ⟨some 17, .mv (.t 1), some (16, true)⟩, ⟨some 18, .len (.t 17), some (16, true)⟩, ⟨some 19, .bin .gtr (.t 18) (.c (.int .i64 40)), some (16, true)⟩, o 20 (.pick (.t 16) (.t 19) (.c (.bool false)))]) (.cond (.t 20) (.reg [o 7 (.mv (.c (.int .i64 2)))]) .skip)) (.seq (.seq (.reg [o 21 (.mv (.t 7)), o 22 (.bin .neq (.t 21) (.c (.int .i64 0)))]) (.cond (.t 22) (.seq (.reg [o 23 (.bld [.emp, .bool false] []), o 24 (.mv (.t 7)), ⟨none, .st 2 (.t 4) (.t 23), none⟩, o 5 (.mv (.c (.int .i64 0))), o 6 (.mv (.t 24))]) .ret) .skip)) (.seq (.reg [o 25 (.ld 2 true (.t 2)), o 26 (.call (.c (.fn 77 [] [])) [.t 25]), o 27 (.bld [.emp, .bool false, .int .i64 0] [(0, (2, (.t 26)))]), o 28 (.box 118 3 (.t 27)), o 8 (.mv (.t 28))]) (.seq (.seq (.reg [o 29 (.mv (.t 1)), o 30 (.len (.t 29)), o 31 (.mv (.c (.int .i64 0)))]) (.block 0 (.loop (.seq (.reg [o 32 (.bin .lss (.t 31) (.t 30))]) (.seq (.cond (.t 32) .skip (.exit 0)) (.seq (.block 1 (.seq (.reg [o 33 (.mv (.t 31)), o 34 (.idxA 12 (.t 29) (.t 31)), o 35 (.ld 12 true (.t 34)), o 10 (.new 42 12 [.int .i64 0, .int .i64 0, .int .i64 0, .int .i64 0, .str [], .str [], .int .i64 0, .str [], .emp, .str [], .int .i64 0, .emp]), o 9 (.mv (.t 33)), ⟨none, .st 12 (.t 10) (.t 35), none⟩]) (.seq (.reg [o 36 (.mv (.t 8)), o 37 (.ld 12 true (.t 10)), o 38 (.call (.c (.fn 78 [] [])) [.t 36, .t 37]), o 11 (.mv (.t 38))]) (.seq (.reg [o 39 (.mv (.t 11)), o 40 (.bin .neq (.t 39) (.c (.int .i64 0)))]) (.cond (.t 40) (.seq (.reg [o 41 (.bld [.emp, .bool false] []), o 42 (.mv (.t 9)), o 43 (.mv (.t 11)), ⟨none, .st 2 (.t 4) (.t 41), none⟩, o 5 (.mv (.t 42)), o 6 (.mv (.t 43))]) .ret) .skip))))) (.reg [o 44 (.bin .add (.t 31) (.c (.int .i64 1))), o 31 (.mv (.t 44))]))))))) (.seq (.reg [o 45 (.mv (.t 8)), o 46 (.fldA 0 (.t 45)), o 47 (.fldA 0 (.t 46)), o 48 (.ld 2 true (.t 47)), ⟨none, .st 2 (.t 4) (.t 48), none⟩, o 5 (.mv (.c (.int .i64 0))), o 6 (.mv (.c (.int .i64 0)))]) .ret)))))), [.cell 4 2 true, .tmp 5, .tmp 6]⟩
theorem hc38 : X6 Tryz.prog {pure := [47], how := [(28, 6)]} Tryz.f38 = some c38 := by kernel_rfl
theorem all_ok (d : HDoc) (sm : DocSm d) (l : List HEdit) (hl : ∀ e ∈ l, EditSm e) (ll : l.length <= 1073741824) : PCalls (Pg G) 38 [.agg (Z2 d), sl Z1 l] (allV (W9 d l)) := PCalls.outV fun h => by
 have hC := check_ok (G := G) d sm
 refine Q4 Tryz.func38 (by kernel_rfl) hc38 (by rw [Tryz.ntmps38]; simp) (by rw [Tryz.ntmps38]; decide) ?_
 simp -dsimp -implicitDefEqProofs (disch := omega) only [VCA, Nat.reduceEqDiff, ↓reduceIte, c38, J1, J4]
 intro r4 hr4
 have S4 : ∀ x, Sim.Sub h (upd h r4 (some x)) := fun x => (Sub.refl h).upd hr4
 by_cases h1 : T6 d = 0
 ·have V := docE_DV h1
  rw [h1] at hC
  have hOwn := fun hp => own_ok' (G := G) d sm V.pos hp
  by_cases h40 : 40 < l.length
  ·have aM : W9 d l = (QK, 0, 2) := by unfold W9; rw [if_neg (by simpa using h1), if_pos h40]
   repeat' (first | ((with_reducible refine brC (fun _ => ?_) fun _ => ?_) <;> try (exfalso; omega)) | (with_reducible apply pcallE.of; · exact hC) | (with_reducible refine And.intro ?_ ?_; · omega) | simp -dsimp -implicitDefEqProofs (disch := omega) only [↓Q0 16, VCA, Nat.reduceEqDiff, Nat.reduceAdd, Nat.reduceLT, ↓reduceIte, X4, Y0, Z0, exists_eq_left'])
   rw [aM]
   exact ⟨_, Sub.refl _, S4 _, .tup' (.cons (K7 _) (.cons (.refl _) (.cons (.refl _) .nil)))⟩
  ·have aM : W9 d l = runM d l 0 := by unfold W9; rw [if_neg (by simpa using h1), if_neg h40]
   repeat' (first | ((with_reducible refine brC (fun _ => ?_) fun _ => ?_) <;> try (exfalso; omega)) | (with_reducible apply pcallE.of; · exact hC) | (with_reducible refine And.intro ?_ ?_; · omega) | simp -dsimp -implicitDefEqProofs (disch := omega) only [↓Q0 16, VCA, Nat.reduceEqDiff, ↓reduceIte, J1, J4])
   have hOwn := hOwn (upd h r4 (some ⟨.t 24, 2, [[.emp, .bool false]]⟩))
   generalize hhb : upd h r4 (some ⟨.t 24, 2, [[.emp, .bool false]]⟩) = hb at *
   have gb4 : hb r4 = some ⟨.t 24, 2, [[.emp, .bool false]]⟩ := by rw [<- hhb]; exact Q2 _ _ _
   have Sb : Sub h hb := by rw [<- hhb]; exact S4 _
   refine DCalls.of hOwn ?_
   rintro a h2 ⟨rN, sl0, rfl, Dw1, M1⟩
   simp -dsimp -implicitDefEqProofs (disch := omega) only [VCA, Nat.reduceEqDiff, Nat.reduceAdd, Nat.reduceLeDiff, ↓reduceIte, X4, Y0]
   intro re hre
   have E0 := Ed.begin Dw1 M1 hre
   rw [aM]
   refine LoopVC.intro (fun m e h' => ∃ (k : Nat) (rN : Nat) (sl' : Nat -> AVal) (D : HDoc) (made : Int), k <= l.length /\ m = l.length - k /\ e 4 = .vp r4 0 /\ e 8 = .vp re 0 /\ e 29 = sl Z1 l /\ e 30 = Q7 l.length /\ e 31 = Q7 k /\ Ed hb h' re rN D sl' made /\ DV D /\ DocSm D /\ D.quirks = d.quirks /\ runM D (l.drop k) k = runM d l 0) l.length
    ⟨0, rN, sl0, d, 0, by omega, by omega, rfl, rfl, rfl, rfl, rfl, E0, V, sm, rfl, rfl⟩ ?_
   clear E0 Dw1 M1 hre hOwn hhb
   rintro m e h' ⟨k, rN, sl', D, made, hk, rfl, e4, e8, e29, e30, e31, E, W, smD, hq, hr⟩
   have g4 := E.dw.sub _ _ gb4
   simp -dsimp -implicitDefEqProofs (disch := omega) only [VCA, ↓reduceIte, e30, e31]
   refine Br.dec (fun hlt => ?_) (fun hge => ?_)
   ·have hk' : k < l.length := by omega
    rw [runM_cons hk'] at hr
    have hx := hl _ (W5 hk')
    obtain ⟨x, hxx⟩ : ∃ x, nth l k = x := ⟨_, rfl⟩
    rw [hxx] at hr hx
    simp -dsimp -implicitDefEqProofs (disch := omega) only [VCA, Nat.reduceEqDiff, Nat.reduceAdd, Nat.reduceLT, ↓reduceIte, Z0, exists_eq_left', e8, e29, e31, hxx, eEdit_len', JZ]
    refine ⟨by omega, fun r10 hr10 => ?_⟩
    have hd := (KK D).2 W
    have aE : K6 D x = U4 D x := by unfold K6; rw [if_neg (by simpa using hd)]
    refine DCalls.of (eedit_ok (G := G) (E.aside hr10 _) W smD x hx) ?_
    rintro a h3 ⟨rfl, hR⟩
    rcases hR with ⟨hne, rfl⟩ | ⟨hz, rN', sl2, E3⟩
    ·have g4' : upd h' r10 (some ⟨.t 42, 12, [Z1 x]⟩) r4 = some ⟨.t 24, 2, [[.emp, .bool false]]⟩ := by rw [Q1 _ _ (fun e => by rw [e, hr10] at g4; cases g4)]; exact g4
     have S10 : Sub h (upd h' r10 (some ⟨.t 42, 12, [Z1 x]⟩)) := (Sb.trans E.dw.sub).upd ((Sb.trans E.dw.sub).none hr10)
     rw [<- aE] at hne
     rw [if_pos hne] at hr
     generalize upd h' r10 (some ⟨.t 42, 12, [Z1 x]⟩) = h5 at *
     rw [<- aE, <- hr]
     repeat' (first | ((with_reducible refine brC (fun _ => ?_) fun _ => ?_) <;> try (exfalso; omega)) | (with_reducible refine And.intro ?_ ?_; · omega) | simp -dsimp -implicitDefEqProofs (disch := omega) only [VCA, Nat.reduceEqDiff, Nat.reduceAdd, Nat.reduceLT, ↓reduceIte, X4, Y0, Z0, exists_eq_left', e4, JZ, g4'])
     all_goals try (exfalso; omega)
     exact ⟨_, Sub.refl _, S10.upd hr4, .tup' (.cons (K7 _) (.cons (.refl _) (.cons (.refl _) .nil)))⟩
    ·rw [<- aE] at hz
     rw [if_neg (by simpa using hz)] at hr
     obtain ⟨W2, sm2, aD, _⟩ := apply_step W smD hx hz
     rw [<- aE, hz]
     rw [<- aD] at E3
     repeat' (first | ((with_reducible refine brC (fun _ => ?_) fun _ => ?_) <;> try (exfalso; omega)) | (with_reducible refine And.intro ?_ ?_; · omega) | simp -dsimp -implicitDefEqProofs (disch := omega) only [VCA, Nat.reduceEqDiff, ↓reduceIte, e4, e8, e29, e30, e31, JZ])
     all_goals try (exfalso; omega)
     refine ⟨_, by omega, k + 1, rN', sl2, X8 D x, _, by omega, rfl, by omega, E3, W2, sm2, ?_, ?_⟩
     ·rw [aD, <- hq]; unfold X9; (repeat' split) <;> rfl
     ·rw [<- hr]; congr 1
   ·obtain rfl : k = l.length := by omega
    have gE := E.ed
    simp -dsimp -implicitDefEqProofs (disch := omega) only [VCA, Nat.reduceEqDiff, Nat.reduceAdd, Nat.reduceLT, Nat.reduceLeDiff, ↓reduceIte, Z0, exists_eq_left', e4, e8, g4, gE]
    rw [List.drop_length, runM] at hr
    rw [<- hr]
    have nre : r4 ∉ [re] := fun h => by
     have h : r4 = re := by simpa using h
     have := E.new
     rw [<- h, gb4] at this; cases this
    exact ⟨_, Sub.refl _, (Sb.trans E.dw.sub).upd hr4, .tup' (.cons (Vw.agg' (.cons (E.dw.beside Sb gb4 hr4 nre _).new'.vw (.cons (.refl _) .nil))) (.cons (.refl _) (.cons (.refl _) .nil)))⟩
 ·have aM : W9 d l = (QK, 0, T6 d) := by unfold W9; rw [if_pos h1]
  repeat' (first | ((with_reducible refine brC (fun _ => ?_) fun _ => ?_) <;> try (exfalso; omega)) | (with_reducible apply pcallE.of; · exact hC) | (with_reducible refine And.intro ?_ ?_; · omega) | simp -dsimp -implicitDefEqProofs (disch := omega) only [↓Q0 16, VCA, Nat.reduceEqDiff, Nat.reduceAdd, Nat.reduceLT, ↓reduceIte, X4, Y0, Z0, exists_eq_left'])
  rw [aM]
  exact ⟨_, Sub.refl _, S4 _, .tup' (.cons (K7 _) (.cons (.refl _) (.cons (.refl _) .nil)))⟩
section
variable {d : HDoc} {n : Int} {A B : List Int}
end
theorem DCalls.res {P : PG} {f : Nat} {args : List AVal} {h : Q3} {K K' : AVal -> Q3 -> Prop} (hd : DCalls P f args h K) (hk : ∀ a h', K a h' -> ∃ b, Wk a b /\ K' b h') : DCalls P f args h K' :=
 ⟨hd.1, fun g w vs H GR V => (hd.2 g w vs H GR V).mono fun e w' ⟨v', a, h', g', he, k0, H', Va, S⟩ => by
  obtain ⟨b, hb, k1⟩ := hk a h' k0
  exact ⟨v', b, h', g', he, k1, H', hb.rel Va, S⟩⟩
def oneD : HDoc := ⟨[⟨1, [], [], [], -1, [1]⟩, ⟨2, [112], [⟨[97], [34]⟩], [], 0, [2]⟩, ⟨3, [], [], [60, 10], 1, []⟩], false⟩
theorem oneD_sm : DocSm oneD := ⟨by decide, by
 intro x hx
 have : x = ⟨1, [], [], [], -1, [1]⟩ \/ x = ⟨2, [112], [⟨[97], [34]⟩], [], 0, [2]⟩ \/ x = ⟨3, [], [], [60, 10], 1, []⟩ := by simpa [oneD] using hx
 rcases this with rfl | rfl | rfl <;> exact ⟨by decide, by decide, by decide, by decide, by decide⟩⟩
def c42 : SFun := ⟨.seq (.reg [o 0 (.new 24 2 [.emp, .bool false])]) (.seq (.reg [o 1 (.bldF 3 1 [.c (.int .i64 1)]), o 2 (.bld [.int .i64 0, .str [], .emp, .str [], .int .i64 0, .emp] [(0, (1, (.c (.int .i64 1)))), (4, (1, (.c (.int .i64 (-1))))), (5, (1, (.t 1)))]), o 3 (.bld [.str [], .str []] [(0, (1, (.c (.str [97])))), (1, (1, (.c (.str [34]))))]), o 4 (.bldF 96 2 [.t 3]), o 5 (.bldF 3 1 [.c (.int .i64 2)]), o 6 (.bld [.int .i64 0, .str [], .emp, .str [], .int .i64 0, .emp] [(0, (1, (.c (.int .i64 2)))), (1, (1, (.c (.str [112])))), (2, (1, (.t 4))), (5, (1, (.t 5)))]), o 7 (.bld [.int .i64 0, .str [], .emp, .str [], .int .i64 0, .emp] [(0, (1, (.c (.int .i64 3)))), (3, (1, (.c (.str [60, 10])))), (4, (1, (.c (.int .i64 1))))]), o 8 (.bldF 40 6 [.t 2, .t 6, .t 7]), o 9 (.bld [.emp, .bool false] [(0, (1, (.t 8)))]), ⟨none, .st 2 (.t 0) (.t 9), none⟩]) .ret), [.cell 0 2 true]⟩
theorem hc42 : X6 Tryz.prog {} Tryz.f42 = some c42 := by kernel_rfl
theorem oneP_ok : PCalls (Pg G) 42 [] (.agg (Z2 oneD)) := fun h => by
 refine DCalls.res (K := fun a h' => a = .agg [.slc [[.int .i64 1, .str [], .emp, .str [], .int .i64 (-1), .slc [[.int .i64 1]]], [.int .i64 2, .str [112], .slc [[.str [97], .str [34]]], .str [], .int .i64 0, .slc [[.int .i64 2]]], [.int .i64 3, .str [], .emp, .str [60, 10], .int .i64 1, .emp]], .bool false] /\ h' = h) ?_ ?_
 ·refine Q4 Tryz.func42 (by kernel_rfl) hc42 (by rw [Tryz.ntmps42]; simp) (by rw [Tryz.ntmps42]; decide) ?_
  simp -dsimp -implicitDefEqProofs (disch := omega) only [VCA, Nat.reduceEqDiff, Nat.reduceAdd, Nat.reduceLT, Nat.reduceLeDiff, ↓reduceIte, reduceCtorEq, Y1, X4, Y0, Z0, exists_eq_right_right, exists_eq_left', c42]
  intro r hr
  exact (Sub.refl _).upd hr
 ·rintro a h' ⟨rfl, rfl⟩
  exact ⟨_, Wk.agg' (.cons (Wk.slc' (.cons (.cons (.refl _) (.cons (.refl _) (.cons .emp (.cons (.refl _) (.cons (.refl _) (.cons (.refl _) .nil)))))) (.cons (.cons (.refl _) (.cons (.refl _) (.cons (.refl _) (.cons (.refl _) (.cons (.refl _) (.cons (.refl _) .nil)))))) (.cons (.cons (.refl _) (.cons (.refl _) (.cons .emp (.cons (.refl _) (.cons (.refl _) (.cons .emp .nil)))))) .nil)))) (.cons (.refl _) .nil)), rfl, rfl⟩
end Go.Proofs.K
end
section
set_option linter.unusedSimpArgs false
set_option linter.unusedVariables false
namespace Go.Proofs.K
open Go Go.Sim Go.Proofs
variable {G : ZQ}
theorem eDoc_drop (d : HDoc) : (Z2 d).drop 2 = [] := rfl
section
variable {d : HDoc}
def path (d : HDoc) (n : Int) : List Int := (X2 d n).reverse
theorem path_len (V : DV d) {n : Int} (hn : inD d n) : (path d n).length = up d n + 1 := by unfold path; rw [List.length_reverse, chain_len V n hn]
theorem path_up (V : DV d) {n : Int} (hn : inD d n) (hp : 0 <= (nd d n).parent) : path d n = path d (nd d n).parent ++ [n] := by unfold path; rw [V4 V hn hp, List.reverse_cons]
theorem path_top (V : DV d) {n : Int} (hp : ¬ 0 <= (nd d n).parent) : path d n = [n] := by unfold path; rw [QY V hp]; rfl
theorem nth_snoc_lt {l : List Int} {x : Int} {j : Nat} (h : j < l.length) : nth (l ++ [x]) j = nth l j := by
 unfold nth; rw [List.getD_eq_getElem?_getD, List.getElem?_append_left h, <- List.getD_eq_getElem?_getD]
theorem nth_snoc_eq {l : List Int} {x : Int} : nth (l ++ [x]) l.length = x := by simp [nth, List.getD_eq_getElem?_getD]
theorem path_at (V : DV d) : ∀ n, inD d n -> ∀ j, j <= up d n -> nth (path d n) j ∈ X2 d n /\ up d (nth (path d n) j) = j := V.rise fun n hn ih j hj => by
 by_cases hp : 0 <= (nd d n).parent
 ·have hu := V.up_par hn hp
  have hl := path_len V (V.par_in hn hp).1
  rw [path_up V hn hp]
  by_cases h1 : j = up d n
  ·have : j = (path d (nd d n).parent).length := by omega
   rw [this, nth_snoc_eq]; exact ⟨U5 _ _, by omega⟩
  ·obtain ⟨h2, h3⟩ := ih hp j (by omega)
   rw [nth_snoc_lt (by omega)]
   exact ⟨by rw [V4 V hn hp]; exact List.mem_cons_of_mem _ h2, h3⟩
 ·have hu := V.up_top hp
  obtain rfl : j = 0 := by omega
  rw [path_top V hp]; exact ⟨U5 _ _, hu⟩
structure Part (d : HDoc) (a b : Int) (i : Nat) : Prop where
 pos : 1 <= i
 la : i <= (path d a).length
 lb : i <= (path d b).length
 eq : ∀ j, j < i -> nth (path d a) j = nth (path d b) j
 ne : ¬ (i < (path d a).length /\ i < (path d b).length /\ nth (path d a) i = nth (path d b) i)
variable {a b : Int} {i : Nat}
theorem Part.node (V : DV d) (ha : inD d a) (hb : inD d b) (p : Part d a b i) : nth (path d a) (i - 1) ∈ X2 d a /\ nth (path d a) (i - 1) ∈ X2 d b /\ up d (nth (path d a) (i - 1)) = i - 1 := by
 have h1 := path_at V a ha (i - 1) (by have := p.la; rw [path_len V ha] at this; omega)
 have h2 := path_at V b hb (i - 1) (by have := p.lb; rw [path_len V hb] at this; omega)
 exact ⟨h1.1, by rw [p.eq _ (by have := p.pos; omega)]; exact h2.1, h1.2⟩
end
end Go.Proofs.K
end
section
set_option linter.unusedSimpArgs false
set_option linter.unusedVariables false
namespace Go.Proofs.K
open Go Go.Sim Go.Proofs
variable {G : ZQ}
structure HPoint where
 node : Int
 at' : Int
deriving DecidableEq, Inhabited
def eP (p : HPoint) : List AVal := [Q7 p.node, Q7 p.at']
instance : LenE eP 2 := ⟨fun _ => rfl⟩
structure HSpan where
 a : HPoint
 b : HPoint
deriving DecidableEq, Inhabited
def eS (s : HSpan) : List AVal := [Q7 s.a.node, Q7 s.a.at', Q7 s.b.node, Q7 s.b.at']
instance : LenE eS 4 := ⟨fun _ => rfl⟩
def roomM (d : HDoc) (n : Int) : Nat := if (nd d n).kind = 3 \/ (nd d n).kind = 4 then (nd d n).text.length else (nd d n).kids.length
def rkey (d : HDoc) (n : Int) : List Int := ((X2 d n).filter (fun m => decide (0 < m))).map fun m => 2 * U1 (· == m) (nd d (nd d m).parent).kids + 1
def key (d : HDoc) (p : HPoint) : List Int := (2 * p.at' :: rkey d p.node).reverse
section
variable {d : HDoc}
end
end Go.Proofs.K
end
section
set_option linter.unusedSimpArgs false
set_option linter.unusedVariables false
namespace Go.Proofs.K
open Go Go.Sim Go.Proofs
def textM (x : HNode) : List UInt8 := if x.kind = 5 then [] else x.text
def mkF : Nat -> HDoc -> Int -> List HPoint
 | 0, _, n => [⟨n, 0⟩]
 | f + 1, d, n => ⟨n, 0⟩ :: ((List.range (nd d n).kids.length).flatMap (fun i => mkF f d (nth (nd d n).kids i) ++ [⟨n, (i : Int) + 1⟩]) ++ (List.range (textM (nd d n)).length).map fun i => ⟨n, (i : Int) + 1⟩)
def marks (d : HDoc) (n : Int) : List HPoint := mkF (41 - up d n) d n
section
variable {d : HDoc}
def pre (d : HDoc) (n : Int) : List Int := (rkey d n).reverse
def markM (d : HDoc) (p : HPoint) : Int := U1 (· == p) (marks d 0)
end
end Go.Proofs.K
end
section
set_option linter.unusedSimpArgs false
set_option linter.unusedVariables false
namespace Go.Proofs.K
open Go Go.Sim Go.Proofs
variable {G : ZQ}
theorem eEdit_len (e : HEdit) : (Z1 e).length = 12 := rfl
def c19 : SFun := ⟨.seq (.reg [o 2 (.box 24 2 (.t 0)), o 4 (.new 24 2 [.emp, .bool false]), o 5 (.mv (.c (.int .i64 0))), o 6 (.mv (.c (.int .i64 0)))]) (.seq (.reg [o 12 (.ld 2 true (.t 2)), o 13 (.pcall 48 [.t 12]), o 7 (.mv (.t 13))]) (.seq (.seq (.reg [o 14 (.mv (.t 7)), o 15 (.bin .eql (.t 14) (.c (.int .i64 0))), o 16 (.mv (.t 15)), ⟨some 17, .mv (.t 1), some (16, true)⟩, ⟨some 18, .len (.t 17), some (16, true)⟩, ⟨some 19, .bin .gtr (.t 18) (.c (.int .i64 40)), some (16, true)⟩, o 20 (.pick (.t 16) (.t 19) (.c (.bool false)))]) (.cond (.t 20) (.reg [o 7 (.mv (.c (.int .i64 2)))]) .skip)) (.seq (.seq (.reg [o 21 (.mv (.t 7)), o 22 (.bin .neq (.t 21) (.c (.int .i64 0)))]) (.cond (.t 22) (.seq (.reg [o 23 (.bld [.emp, .bool false] []), o 24 (.mv (.t 7)), ⟨none, .st 2 (.t 4) (.t 23), none⟩, o 5 (.mv (.c (.int .i64 0))), o 6 (.mv (.t 24))]) .ret) .skip)) (.seq (.seq (.reg [o 8 (.mv (.c (.int .i64 0)))]) (.block 0 (.loop (.seq (.seq (.reg [o 25 (.mv (.t 8)), o 26 (.mv (.t 1)), o 27 (.len (.t 26)), o 28 (.bin .lss (.t 25) (.t 27))]) (.cond (.t 28) .skip (.exit 0))) (.seq (.block 1 (.seq (.dreg [(o 32 (.ld 2 true (.t 2)), none), (o 33 (.mv (.t 1)), none), (o 34 (.mv (.t 8)), none), (o 35 (.idxA 12 (.t 33) (.t 34)), none), (o 36 (.ld 12 true (.t 35)), none), (o 37 (.pcall 26 [.t 32, .t 36]), none), (o 31 (.mv (.t 37)), none), (o 38 (.ext (.t 31) 0), none), (o 39 (.ext (.t 31) 1), none), (o 40 (.ext (.t 31) 2), none), (o 9 (.new 24 2 [.emp, .bool false]), (some [])), (⟨none, .st 2 (.t 9) (.t 38), none⟩, (some [32, 36])), (o 10 (.mv (.t 39)), none), (o 11 (.mv (.t 40)), none)]) (.seq (.seq (.reg [o 41 (.mv (.t 11)), o 42 (.bin .neq (.t 41) (.c (.int .i64 0)))]) (.cond (.t 42) (.seq (.reg [o 43 (.bld [.emp, .bool false] []), o 44 (.mv (.t 8)), o 45 (.mv (.t 11)), ⟨none, .st 2 (.t 4) (.t 43), none⟩, o 5 (.mv (.t 44)), o 6 (.mv (.t 45))]) .ret) .skip)) (.reg [o 46 (.ld 2 true (.t 9)), ⟨none, .st 2 (.t 2) (.t 46), none⟩])))) (.reg [o 29 (.mv (.t 8)), o 30 (.bin .add (.t 29) (.c (.int .i64 1))), o 8 (.mv (.t 30))])))))) (.seq (.reg [o 47 (.ld 2 true (.t 2)), ⟨none, .st 2 (.t 4) (.t 47), none⟩, o 5 (.mv (.c (.int .i64 0))), o 6 (.mv (.c (.int .i64 0)))]) .ret))))), [.cell 4 2 true, .tmp 5, .tmp 6]⟩
theorem hc19 : X6 Tryz.prog {pure := [48, 26], how := [(2, 6)]} Tryz.f19 = some c19 := by kernel_rfl
theorem editedAll_ok (d : HDoc) (sm : DocSm d) (l : List HEdit) (hl : ∀ e ∈ l, EditSm e) (ll : l.length <= 1073741824) : PCalls (Pg G) 19 [.agg (Z2 d), sl Z1 l] (allV (W9 d l)) := PCalls.outV fun h => by
 have hC := docErr_ok (G := G) d sm
 refine Q4 Tryz.func19 (by kernel_rfl) hc19 (by rw [Tryz.ntmps19]; simp) (by rw [Tryz.ntmps19]; decide) ?_
 simp -dsimp -implicitDefEqProofs (disch := omega) only [VCA, ↓Y4, Nat.reduceEqDiff, ↓reduceIte, ne_eq, c19, J1]
 intro r2 hr2 r4 hr4
 have m1 : ¬ r4 = r2 := hr4.1
 have m2 : ¬ r2 = r4 := fun h => m1 h.symm
 have S4 : ∀ x y, Sim.Sub h (upd (upd h r2 (some x)) r4 (some y)) := fun x y => ((Sub.refl h).upd hr2).upd hr4.2
 have nd0 := K7
 by_cases h1 : T6 d = 0
 ·have V := docE_DV h1
  rw [h1] at hC
  by_cases h40 : 40 < l.length
  ·have aM : W9 d l = (QK, 0, 2) := by unfold W9; rw [if_neg (by simpa using h1), if_pos h40]
   rw [aM]
   repeat' (first | ((with_reducible refine brC (fun _ => ?_) fun _ => ?_) <;> try (exfalso; omega)) | (with_reducible apply pcallE.of; · exact hC) | (with_reducible refine And.intro ?_ ?_; · omega) | simp -dsimp -implicitDefEqProofs (disch := omega) only [↓Q0 16, VCA, Nat.reduceEqDiff, Nat.reduceAdd, Nat.reduceLT, ↓reduceIte, X4, Y0, Z0, exists_eq_left', J1, J4, m2])
   exact ⟨_, Sub.refl _, S4 _ _, .tup' (.cons (K7 _) (.cons (.refl _) (.cons (.refl _) .nil)))⟩
  ·have aM : W9 d l = runM d l 0 := by unfold W9; rw [if_neg (by simpa using h1), if_neg h40]
   rw [aM]
   repeat' (first | ((with_reducible refine brC (fun _ => ?_) fun _ => ?_) <;> try (exfalso; omega)) | (with_reducible apply pcallE.of; · exact hC) | (with_reducible refine And.intro ?_ ?_; · omega) | simp -dsimp -implicitDefEqProofs (disch := omega) only [↓Q0 16, VCA, Nat.reduceEqDiff, Nat.reduceLT, ↓reduceIte, exists_eq_left', J1, J4, m2])
   refine LoopVC.intro (fun m e h' => ∃ (k : Nat) (D : HDoc), k <= l.length /\ m = l.length - k /\ e 1 = sl Z1 l /\ e 2 = .vp r2 0 /\ e 4 = .vp r4 0 /\ e 8 = Q7 k /\ h' r2 = some ⟨.t 24, 2, [Z2 D]⟩ /\ h' r4 = some ⟨.t 24, 2, [[.emp, .bool false]]⟩ /\ Sub h h' /\ DV D /\ DocSm D /\ runM D (l.drop k) k = runM d l 0) l.length
    ⟨0, d, by omega, by omega, rfl, rfl, rfl, rfl, by rw [Q1 _ _ m2, Q2], Q2 _ _ _, S4 _ _, V, sm, rfl⟩ ?_
   rintro m e h' ⟨k, D, hk, rfl, e1, e2, e4, e8, g2, g4, S, W, smD, hr⟩
   simp -dsimp -implicitDefEqProofs (disch := omega) only [VCA, Nat.reduceEqDiff, ↓reduceIte, e1, e8]
   refine Br.dec (fun hlt => ?_) (fun hge => ?_)
   ·have hk' : k < l.length := by omega
    rw [runM_cons hk'] at hr
    have hx := hl _ (W5 hk')
    obtain ⟨x, hxx⟩ : ∃ x, nth l k = x := ⟨_, rfl⟩
    rw [hxx] at hr hx
    have hE := edited_ok (G := G) D W smD x hx
    unfold edR at hE
    simp -dsimp -implicitDefEqProofs (disch := omega) only [VCA, Nat.reduceEqDiff, Nat.reduceLT, ↓reduceIte, J6, Q5, exists_eq_left', Z8, e1, e2, e8, g2, hxx, eEdit_len', JZ, J1, J4]
    refine ⟨by omega, ?_⟩
    by_cases h0 : K6 D x = 0
    ·rw [if_neg (by simpa using h0)] at hr
     rw [h0] at hE
     obtain ⟨W2, sm2, _, _⟩ := apply_step W smD hx h0
     repeat' (first | ((with_reducible refine brC (fun _ => ?_) fun _ => ?_) <;> try (exfalso; omega)) | (with_reducible apply pcallE.of; · exact hE) | (with_reducible refine And.intro ?_ ?_; · omega) | simp -dsimp -implicitDefEqProofs (disch := omega) only [VCA, Nat.reduceEqDiff, Nat.reduceBEq, Nat.reduceAdd, Nat.reduceLT, ↓reduceIte, J6, Q5, SOp.rd, SI.rd, SX.rd, Z0, forall_const, exists_eq_left', Z8, g2, J1])
     intro r9 hr9
     have k2 : ¬ r2 = r9 := fun e => by rw [<- e, g2] at hr9; cases hr9
     have k4 : ¬ r4 = r9 := fun e => by rw [<- e, g4] at hr9; cases hr9
     have k2' : ¬ r9 = r2 := fun e => k2 e.symm
     have k4' : ¬ r9 = r4 := fun e => k4 e.symm
     have n0 : ((0 : Int) != 0) = false := rfl
     repeat' (first | ((with_reducible refine brC (fun _ => ?_) fun _ => ?_) <;> try (exfalso; omega)) | (with_reducible refine And.intro ?_ ?_; · omega) | simp -dsimp -implicitDefEqProofs (disch := omega) only [VCA, Nat.reduceEqDiff, Nat.reduceLT, ↓reduceIte, Z0, exists_eq_left', e1, e2, e4, e8, g2, g4, J1, J4, eDoc_dr, k2, k4, n0])
     all_goals try (exfalso; omega)
     refine ⟨_, by omega, k + 1, X8 D x, by omega, rfl, by omega, rfl, by rw [if_neg m1], (S.upd (S.none hr9)).upd hr2, W2, sm2, by rw [<- hr]; congr 1⟩
    ·rw [if_pos h0] at hr
     repeat' (first | ((with_reducible refine brC (fun _ => ?_) fun _ => ?_) <;> try (exfalso; omega)) | (with_reducible apply pcallE.of; · exact hE) | (with_reducible refine And.intro ?_ ?_; · omega) | simp -dsimp -implicitDefEqProofs (disch := omega) only [VCA, Nat.reduceEqDiff, Nat.reduceBEq, Nat.reduceAdd, Nat.reduceLT, ↓reduceIte, J6, Q5, SOp.rd, SI.rd, SX.rd, Z0, forall_const, exists_eq_left', Z8, g2, J1])
     intro r9 hr9
     have k2 : ¬ r2 = r9 := fun e => by rw [<- e, g2] at hr9; cases hr9
     have k4 : ¬ r4 = r9 := fun e => by rw [<- e, g4] at hr9; cases hr9
     have k2' : ¬ r9 = r2 := fun e => k2 e.symm
     have k4' : ¬ r9 = r4 := fun e => k4 e.symm
     have n0 : ((0 : Int) != 0) = false := rfl
     repeat' (first | ((with_reducible refine brC (fun _ => ?_) fun _ => ?_) <;> try (exfalso; omega)) | (with_reducible refine And.intro ?_ ?_; · omega) | simp -dsimp -implicitDefEqProofs (disch := omega) only [VCA, Nat.reduceEqDiff, Nat.reduceAdd, Nat.reduceLT, ↓reduceIte, X4, Y0, Z0, exists_eq_left', e4, e8, g4, k2, k4])
     all_goals try (exfalso; omega)
     rw [<- hr]
     exact ⟨_, Sub.refl _, (S.upd (S.none hr9)).upd hr4.2, .tup' (.cons (K7 _) (.cons (.refl _) (.cons (.refl _) .nil)))⟩
   ·obtain rfl : k = l.length := by omega
    rw [List.drop_length, runM] at hr
    rw [<- hr]
    simp -dsimp -implicitDefEqProofs (disch := omega) only [VCA, Nat.reduceEqDiff, Nat.reduceAdd, Nat.reduceLT, ↓reduceIte, Z0, exists_eq_left', e2, e4, g2, g4, J1, J4]
    exact ⟨_, Sub.refl _, S.upd hr4.2, .tup' (.cons (.refl _) (.cons (.refl _) (.cons (.refl _) .nil)))⟩
 ·have aM : W9 d l = (QK, 0, T6 d) := by unfold W9; rw [if_pos h1]
  rw [aM]
  repeat' (first | ((with_reducible refine brC (fun _ => ?_) fun _ => ?_) <;> try (exfalso; omega)) | (with_reducible apply pcallE.of; · exact hC) | (with_reducible refine And.intro ?_ ?_; · omega) | simp -dsimp -implicitDefEqProofs (disch := omega) only [↓Q0 16, VCA, Nat.reduceEqDiff, Nat.reduceAdd, Nat.reduceLT, ↓reduceIte, X4, Y0, Z0, exists_eq_left', J1, J4, m2])
  exact ⟨_, Sub.refl _, S4 _ _, .tup' (.cons (K7 _) (.cons (.refl _) (.cons (.refl _) .nil)))⟩
def c63 : SFun := ⟨.seq (.reg [o 2 (.boxF 24 2 (.t 0)), o 3 (.boxF 52 4 (.t 1)), o 4 (.mv (.c (.str []))), o 5 (.mv (.c (.int .i64 0)))]) (.seq (.reg [o 14 (.ld 2 true (.t 2)), o 15 (.ld 4 true (.t 3)), o 16 (.pcall 54 [.t 14, .t 15]), o 13 (.mv (.t 16)), o 17 (.ext (.t 13) 0), o 18 (.ext (.t 13) 1), o 6 (.new 89 2 [.emp, .bool false]), ⟨none, .st 2 (.t 6) (.t 17), none⟩, o 7 (.mv (.t 18))]) (.seq (.seq (.reg [o 19 (.mv (.t 7)), o 20 (.bin .neq (.t 19) (.c (.int .i64 0)))]) (.cond (.t 20) (.seq (.reg [o 21 (.mv (.t 7)), o 4 (.mv (.c (.str []))), o 5 (.mv (.t 21))]) .ret) .skip)) (.seq (.reg [o 23 (.ld 2 true (.t 2)), o 24 (.pcall 95 [.t 23]), o 22 (.mv (.t 24)), o 25 (.ext (.t 22) 0), o 26 (.ext (.t 22) 1), o 8 (.mv (.t 25)), o 9 (.mv (.t 26))]) (.seq (.reg [o 10 (.mv (.c (.str [])))]) (.seq (.seq (.reg [o 27 (.mv (.t 8)), o 28 (.len (.t 27)), o 29 (.mv (.c (.int .i64 0)))]) (.block 0 (.loop (.seq (.reg [o 30 (.bin .lss (.t 29) (.t 28))]) (.seq (.cond (.t 30) .skip (.exit 0)) (.seq (.block 1 (.seq (.reg [o 31 (.idxA 1 (.t 27) (.t 29)), o 32 (.ld 1 false (.t 31)), o 12 (.mv (.t 32))]) (.seq (.reg [o 33 (.fldA 0 (.t 2)), o 34 (.ld 1 false (.t 33)), o 35 (.mv (.t 12)), o 36 (.idxA 6 (.t 34) (.t 35)), o 37 (.fldA 0 (.t 36)), o 38 (.ld 1 false (.t 37)), o 39 (.bin .eql (.t 38) (.c (.int .i64 3)))]) (.cond (.t 39) (.reg [o 40 (.mv (.t 10)), o 41 (.ld 2 true (.t 6)), o 42 (.mv (.t 12)), o 43 (.ld 4 true (.t 3)), o 44 (.pcall 103 [.t 41, .t 42, .t 43]), o 45 (.bin .add (.t 40) (.t 44)), o 10 (.mv (.t 45))]) .skip)))) (.reg [o 46 (.bin .add (.t 29) (.c (.int .i64 1))), o 29 (.mv (.t 46))]))))))) (.seq (.reg [o 47 (.mv (.t 10)), o 4 (.mv (.t 47)), o 5 (.mv (.c (.int .i64 0)))]) .ret)))))), [.tmp 4, .tmp 5]⟩
theorem hc63 : X6 Tryz.prog {pure := [54, 95, 103]} Tryz.f63 = some c63 := by kernel_rfl
section
variable {d : HDoc}
end
end Go.Proofs.K
end
section
set_option linter.unusedSimpArgs false
set_option linter.unusedVariables false
namespace Go.Proofs.K
open Go Go.Sim Go.Proofs
section
variable {d : HDoc}
end
end Go.Proofs.K
end
section
set_option linter.unusedSimpArgs false
set_option linter.unusedVariables false
namespace Go.Proofs.K
open Go Go.Sim Go.Proofs
variable {G : ZQ}
def zE (do' at' : Int) (v : List UInt8) : HEdit := ⟨do', at', 0, 0, [], v, ⟨0, [], [], [], 0, []⟩⟩
section
variable {d : HDoc}
end
end Go.Proofs.K
end
section
set_option linter.unusedSimpArgs false
set_option linter.unusedVariables false
namespace Go.Proofs.K
open Go Go.Sim Go.Proofs
variable {G : ZQ}
section
variable {d : HDoc}
def liesM (d : HDoc) (s : HSpan) (n : Int) : Prop :=
 0 <= (nd d n).parent /\ n ∉ X2 d s.a.node /\ n ∉ X2 d s.b.node /\ markM d s.a <= markM d ⟨(nd d n).parent, U1 (· == n) (nd d (nd d n).parent).kids⟩ /\ markM d ⟨(nd d n).parent, U1 (· == n) (nd d (nd d n).parent).kids + 1⟩ <= markM d s.b
instance (d : HDoc) (s : HSpan) (n : Int) : Decidable (liesM d s n) := by unfold liesM; infer_instance
end
end Go.Proofs.K
end
section
set_option linter.unusedSimpArgs false
set_option linter.unusedVariables false
namespace Go.Proofs.K
open Go Go.Sim Go.Proofs
variable {G : ZQ}
def noNode (e : HEdit) : Prop := e.node = ⟨0, [], [], [], 0, []⟩
theorem noNode.bare {e : HEdit} (h : noNode e) : bareE e := by unfold noNode at h; unfold bareE; rw [h]; exact ⟨rfl, rfl⟩
theorem noNode.sm {e : HEdit} (h : noNode e) : NodeSm e.node := by unfold noNode at h; rw [h]; exact ⟨by simp, by simp, (fun a ha => by cases ha), by simp, by simp⟩
structure HStep where
 edit : HEdit
 had : Bool
 was : List UInt8
 parent : Int
 place : Int
deriving DecidableEq, Inhabited
def Z9 (s : HStep) : List AVal := [Q7 s.edit.do', Q7 s.edit.at', Q7 s.edit.to, Q7 s.edit.before, .str s.edit.name, .str s.edit.value, Q7 s.edit.node.kind, .str s.edit.node.name, sl Z7 s.edit.node.attrs, .str s.edit.node.text, Q7 s.edit.node.parent, sl J8 s.edit.node.kids, .bool s.had, .str s.was, Q7 s.parent, Q7 s.place]
instance : LenE Z9 16 := ⟨fun _ => rfl⟩
structure StepSm (s : HStep) : Prop where
 edit : EditSm s.edit
 was : s.was.length <= 1073741824
theorem XV (s : HStep) : (Z9 s).length = 16 := rfl
theorem eStep_all (s : HStep) : (Z9 s).take 16 = Z9 s := rfl
def stepM (d : HDoc) (e : HEdit) : HStep :=
 if e.do' = 4 then ⟨e, false, [], 0, d.nodes.length⟩
 else if e.do' = 1 \/ e.do' = 2 then (if 0 <= Z4 (nd d e.at').attrs e.name then ⟨e, true, (nth (nd d e.at').attrs (Z4 (nd d e.at').attrs e.name).toNat).value, 0, Z4 (nd d e.at').attrs e.name⟩ else ⟨e, false, [], 0, 0⟩)
 else if e.do' = 3 then ⟨e, false, (nd d e.at').text, 0, 0⟩
 else if e.do' = 5 then ⟨e, false, [], -1, U7 d e⟩
 else ⟨e, false, [], (nd d e.at').parent, U1 (· == e.at') (nd d (nd d e.at').parent).kids⟩
def recM : HDoc -> List HEdit -> List HStep
 | _, [] => []
 | d, e :: l => stepM d e :: recM (X8 d e) l
theorem recM_cons {d : HDoc} {l : List HEdit} {k : Nat} (hk : k < l.length) : recM d (l.drop k) = stepM d (nth l k) :: recM (X8 d (nth l k)) (l.drop (k + 1)) := by
 have : l.drop k = nth l k :: l.drop (k + 1) := by
  have e : nth l k = l[k] := by unfold nth; rw [List.getD_eq_getElem?_getD, List.getElem?_eq_getElem hk]; rfl
  rw [e, List.getElem_cons_drop]
 rw [this, recM]
theorem allM_zero {d : HDoc} {l : List HEdit} (h : (W9 d l).2.2 = 0) : T6 d = 0 /\ l.length <= 40 /\ W9 d l = runM d l 0 := by
 unfold W9 at h ⊢
 split at h
 ·rename_i h1; exact absurd h h1
 ·rename_i h1
  split at h
  ·cases h
  ·rename_i h2
   rw [if_neg h1, if_neg h2]
   exact ⟨Classical.not_not.1 h1, by omega, rfl⟩
theorem allM_nil {d : HDoc} (h : T6 d = 0) : W9 d [] = (d, 0, 0) := by
 unfold W9; rw [if_neg (by simpa using h), if_neg (by simp)]; rfl
def doV (d : HDoc) (l : List HEdit) : AVal :=
 if (W9 d l).2.2 = 0 then .tup [.agg (Z2 (W9 d l).1), sl Z9 (recM d l), Q7 0, Q7 0] else .tup [.agg (Z2 QK), sl Z9 [], Q7 (W9 d l).2.1, Q7 (W9 d l).2.2]
end Go.Proofs.K
end
section
set_option linter.unusedSimpArgs false
set_option linter.unusedVariables false
namespace Go.Proofs.YtoolkpnnllfhgaaGreatDoor
open Go Go.Sim Go.Proofs Go.Proofs.K Go.ChangeShapes Go.WideShapes Go.ChangeAt Go.RowKit
variable {H : Type} {enc : TypeId × Value -> H} {w : World}
def goodS (k : Nat) (x : HStep) : Prop := goodE k x.edit /\ x.was.length <= k
theorem mS : Mono goodS := fun _ _ _ h1 h2 => ⟨mE _ _ _ h1 h2.1, Nat.le_trans h2.2 h1⟩
theorem rStep : Rdr enc Tryz.prog w Rows.uptoBulk 44 Z9 goodS := by
 have hB := bulk H
 have r := Rdr.struct (eh := enc) (w := w) hB Tryz.underlying44 (by kernel_rfl) (.cons (sz := 12) rfl (by kernel_rfl) mE rEdit (.cons (sz := 1) rfl (by kernel_rfl) (fun _ _ _ _ _ => trivial) rBool (.cons (sz := 1) rfl (by kernel_rfl) mStr rStr
  (.cons (sz := 1) rfl (by kernel_rfl) mInt rInt (.cons (sz := 1) rfl (by kernel_rfl) mInt rInt (.nil _))))))
 exact r.map (fun p => (⟨p.1, p.2.1, p.2.2.1, p.2.2.2.1, p.2.2.2.2.1⟩ : HStep)) (fun _ => rfl) (fun _ _ h => ⟨h.1, h.2.2.1⟩)
theorem stepSm_of {k : Nat} {s : HStep} (hk : k <= 1073741824) (g : goodS k s) : StepSm s := ⟨editSm_of hk g.1, Nat.le_trans g.2 hk⟩
def goodSs (k : Nat) (l : List HStep) : Prop := l.length <= k /\ ∀ e ∈ l, goodS k e
theorem rSteps : Rdr enc Tryz.prog w Rows.uptoBulk 27 (fun l => [sl Z9 l]) goodSs :=
 Rdr.slice (eh := enc) (w := w) (bulk H) mS (sz := 16) (enc := Z9) Tryz.underlying27 (by kernel_rfl) (by decide) (fun _ => rfl) (rStep (H := H))
end Go.Proofs.YtoolkpnnllfhgaaGreatDoor
end
section
set_option linter.unusedSimpArgs false
set_option linter.unusedVariables false
namespace Go.Proofs.K
open Go Go.Sim Go.Proofs
def X3 {α : Type} (l : List α) (i : Nat) : List α := l.take i ++ l.drop (i + 1)
def J9 {α : Type} (l : List α) (i : Nat) (x : α) : List α := l.take i ++ x :: l.drop i
def popN (d : HDoc) : HDoc := ⟨d.nodes.take (d.nodes.length - 1), d.quirks⟩
def Y3 (d : HDoc) (s : HStep) : Prop :=
 if s.edit.do' = 1 then inD d s.edit.at' /\ 0 <= Z4 (nd d s.edit.at').attrs s.edit.name /\ (s.had = true \/ Z4 (nd d s.edit.at').attrs s.edit.name = ((nd d s.edit.at').attrs.length : Int) - 1)
 else if s.edit.do' = 2 then inD d s.edit.at' /\ (nd d s.edit.at').kind = 2 /\ 0 <= s.place /\ s.place <= (nd d s.edit.at').attrs.length /\ ¬ 0 <= Z4 (nd d s.edit.at').attrs s.edit.name
 else if s.edit.do' = 3 then inD d s.edit.at' /\ ((nd d s.edit.at').kind = 3 \/ (nd d s.edit.at').kind = 4)
 else if s.edit.do' = 4 then s.place = (d.nodes.length : Int) - 1 /\ 2 <= d.nodes.length /\ (nd d ((d.nodes.length : Int) - 1)).parent = -1 /\ (nd d ((d.nodes.length : Int) - 1)).kids = []
 else if s.edit.do' = 5 then inD d s.edit.at' /\ inD d s.edit.to /\ 0 <= s.place /\ s.place < (nd d s.edit.at').kids.length /\ nth (nd d s.edit.at').kids s.place.toNat = s.edit.to
 else if s.edit.do' = 6 then inD d s.parent /\ inD d s.edit.at' /\ s.edit.at' ≠ 0 /\ (nd d s.edit.at').parent = -1 /\ 0 <= s.place /\ s.place <= (nd d s.parent).kids.length
 else False
instance (d : HDoc) (s : HStep) : Decidable (Y3 d s) := by unfold Y3 inD; infer_instance
def JT (d : HDoc) (a t : Int) (l : List Int) (p : Int) : HDoc :=
 setN (setN d a { nd d a with kids := l }) t { nd (setN d a { nd d a with kids := l }) t with parent := p }
def U2 (d : HDoc) (s : HStep) : HDoc :=
 if s.edit.do' = 1 then setN d s.edit.at' { nd d s.edit.at' with attrs := if s.had = true then (nd d s.edit.at').attrs.set (Z4 (nd d s.edit.at').attrs s.edit.name).toNat ⟨s.edit.name, s.was⟩ else (nd d s.edit.at').attrs.take (Z4 (nd d s.edit.at').attrs s.edit.name).toNat }
 else if s.edit.do' = 2 then setN d s.edit.at' { nd d s.edit.at' with attrs := J9 (nd d s.edit.at').attrs s.place.toNat ⟨s.edit.name, s.was⟩ }
 else if s.edit.do' = 3 then setN d s.edit.at' { nd d s.edit.at' with text := s.was }
 else if s.edit.do' = 4 then popN d
 else if s.edit.do' = 5 then JT d s.edit.at' s.edit.to (X3 (nd d s.edit.at').kids s.place.toNat) (-1)
 else JT d s.parent s.edit.at' (J9 (nd d s.parent).kids s.place.toNat s.edit.at') s.parent
structure USm (k : Nat) (d : HDoc) : Prop where
 len : d.nodes.length <= 200
 sm : DocSm d
 kids : ∀ n, (nd d n).kids.length <= 300 + k
 attrs : ∀ n, (nd d n).attrs.length <= 300 + k
 names : ∀ n, ((nd d n).attrs.map (·.name)).Nodup
theorem nd_out {d : HDoc} {n : Int} (h : ¬ n.toNat < d.nodes.length) : nd d n = default := nth_def h
theorem nd_or {d : HDoc} (n : Int) : nd d n = default \/ ∃ m, inD d m /\ nd d n = nd d m := by
 by_cases h : n.toNat < d.nodes.length
 ·exact .inr ⟨n.toNat, inD_nat.2 h, by unfold nd; rw [Int.toNat_natCast]⟩
 ·exact .inl (nd_out h)
theorem DV.usm {d : HDoc} (V : DV d) (sm : DocSm d) : USm 0 d := by
 refine ⟨V.len, sm, fun n => ?_, fun n => ?_, fun n => ?_⟩
 ·rcases nd_or (d := d) n with h | ⟨m, hm, h⟩
  ·rw [h]; decide
  ·rw [h]
   have := XT d.nodes.length (nd d m).kids (V.nodup m hm) (fun k hk => (V.kid m hm k hk).1)
   have := V.len
   omega
 ·rcases nd_or (d := d) n with h | ⟨m, hm, h⟩
  ·rw [h]; decide
  ·rw [h]
   have := ((W4 _).1 ((U8 _).1 (V.node _ hm)).2.2.2.1).1
   omega
 ·rcases nd_or (d := d) n with h | ⟨m, hm, h⟩
  ·rw [h]; exact List.nodup_nil
  ·rw [h]; exact ((W4 _).1 ((U8 _).1 (V.node _ hm)).2.2.2.1).2.2
theorem YK {d : HDoc} {n m : Int} {x : HNode} : nd (setN d n x) m = x \/ nd (setN d n x) m = nd d m := by
 unfold nd setN nth
 simp only [List.getD_eq_getElem?_getD, List.getElem?_set]
 split
 ·split
  ·exact .inl rfl
  ·rename_i h1 h2
   right
   rw [List.getElem?_eq_none (by omega)]
 ·exact .inr rfl
theorem USm.set {k : Nat} {d : HDoc} (U : USm k d) {n : Int} {x : HNode} (hx : NodeSm x) (h1 : x.kids.length <= 300 + (k + 1)) (h2 : x.attrs.length <= 300 + (k + 1)) (h3 : (x.attrs.map (·.name)).Nodup) : USm (k + 1) (setN d n x) := by
 refine ⟨by rw [QU]; exact U.len, U.sm.setN hx, fun m => ?_, fun m => ?_, fun m => ?_⟩
 ·rcases YK (d := d) (n := n) (m := m) (x := x) with h | h <;> rw [h]
  ·exact h1
  ·have := U.kids m; omega
 ·rcases YK (d := d) (n := n) (m := m) (x := x) with h | h <;> rw [h]
  ·exact h2
  ·have := U.attrs m; omega
 ·rcases YK (d := d) (n := n) (m := m) (x := x) with h | h <;> rw [h]
  ·exact h3
  ·exact U.names m
theorem USm.same {k : Nat} {d : HDoc} (U : USm k d) {n m : Int} {p : Int} : USm k (setN d n { nd d m with parent := p }) := by
 have N := U.sm.nd m
 refine ⟨by rw [QU]; exact U.len, U.sm.setN ⟨N.name, N.attrs, N.each, N.text, N.kids⟩, fun t => ?_, fun t => ?_, fun t => ?_⟩
 ·rcases YK (d := d) (n := n) (m := t) (x := { nd d m with parent := p }) with h | h <;> rw [h]
  ·exact U.kids m
  ·exact U.kids t
 ·rcases YK (d := d) (n := n) (m := t) (x := { nd d m with parent := p }) with h | h <;> rw [h]
  ·exact U.attrs m
  ·exact U.attrs t
 ·rcases YK (d := d) (n := n) (m := t) (x := { nd d m with parent := p }) with h | h <;> rw [h]
  ·exact U.names m
  ·exact U.names t
theorem putList_len {α : Type} {l : List α} {i : Nat} {x : α} (hi : i <= l.length) : (J9 l i x).length = l.length + 1 := by
 unfold J9; rw [List.length_append, List.length_cons, List.length_take, List.length_drop]; omega
theorem cutList_len {α : Type} {l : List α} {i : Nat} (hi : i < l.length) : (X3 l i).length + 1 = l.length := by
 unfold X3; rw [List.length_append, List.length_take, List.length_drop]; omega
theorem mem_putList {α : Type} {l : List α} {i : Nat} {x y : α} (h : y ∈ J9 l i x) : y = x \/ y ∈ l := by
 unfold J9 at h
 rcases List.mem_append.1 h with h | h
 ·exact .inr (List.mem_of_mem_take h)
 ·rcases List.mem_cons.1 h with h | h
  ·exact .inl h
  ·exact .inr (List.mem_of_mem_drop h)
theorem USm.undo {k : Nat} {d : HDoc} {s : HStep} (U : USm k d) (hs : StepSm s) (hk : k <= 1000) (hf : Y3 d s) : USm (k + 1) (U2 d s) := by
 have N := fun n => U.sm.nd n
 have ka := U.kids
 have aa := U.attrs
 have na := U.names
 unfold Y3 at hf
 unfold U2
 by_cases h1 : s.edit.do' = 1
 ·rw [if_pos h1] at hf ⊢
  obtain ⟨_, h0, _⟩ := hf
  obtain ⟨g1, g2, g3⟩ := T0 _ _ h0
  have := ka s.edit.at'; have := aa s.edit.at'
  refine U.set ⟨(N _).name, ?_, ?_, (N _).text, (N _).kids⟩ (by show (nd d s.edit.at').kids.length <= _; omega) ?_ ?_
  ·show List.length (if _ then _ else _) <= _
   split
   ·rw [List.length_set]; omega
   ·rw [List.length_take]; omega
  ·intro a ha
   have ha : a ∈ (if s.had = true then (nd d s.edit.at').attrs.set (Z4 (nd d s.edit.at').attrs s.edit.name).toNat ⟨s.edit.name, s.was⟩ else (nd d s.edit.at').attrs.take (Z4 (nd d s.edit.at').attrs s.edit.name).toNat) := ha
   split at ha
   ·rcases List.mem_or_eq_of_mem_set ha with h | h
    ·exact (N _).each a h
    ·subst h; exact ⟨hs.edit.name, hs.was⟩
   ·exact (N _).each a (List.mem_of_mem_take ha)
  ·show List.length (if _ then _ else _) <= _
   split
   ·rw [List.length_set]; omega
   ·rw [List.length_take]; omega
  ·show (List.map _ (if _ then _ else _)).Nodup
   split
   ·rw [map_set_name g1 (by rw [g2])]; exact na _
   ·rw [List.map_take]; exact (na _).sublist (List.take_sublist _ _)
 rw [if_neg h1] at hf ⊢
 by_cases h2 : s.edit.do' = 2
 ·rw [if_pos h2] at hf ⊢
  obtain ⟨_, _, p0, p1, h0⟩ := hf
  have := ka s.edit.at'; have := aa s.edit.at'
  have pl := putList_len (l := (nd d s.edit.at').attrs) (i := s.place.toNat) (x := (⟨s.edit.name, s.was⟩ : HAttr)) (by omega)
  refine U.set ⟨(N _).name, ?_, ?_, (N _).text, (N _).kids⟩ (by show (nd d s.edit.at').kids.length <= _; omega) ?_ ?_
  ·show (J9 _ _ _).length <= _; omega
  ·intro a ha
   rcases mem_putList ha with h | h
   ·subst h; exact ⟨hs.edit.name, hs.was⟩
   ·exact (N _).each a h
  ·show (J9 _ _ _).length <= _; omega
  ·show (List.map _ (J9 _ _ _)).Nodup
   have nn := na s.edit.at'
   have hm : s.edit.name ∉ (nd d s.edit.at').attrs.map (·.name) := fun h => h0 ((attrAt_mem _ _).2 h)
   unfold J9
   rw [List.map_append, List.map_cons, List.map_take, List.map_drop]
   generalize (nd d s.edit.at').attrs.map (·.name) = L at nn hm
   have h4 : (L.take s.place.toNat ++ L.drop s.place.toNat).Nodup := by rw [List.take_append_drop]; exact nn
   rw [List.nodup_append] at h4 ⊢
   obtain ⟨q1, q2, q3⟩ := h4
   refine ⟨q1, List.nodup_cons.2 ⟨fun h => hm (List.mem_of_mem_drop h), q2⟩, fun a ha b hb => ?_⟩
   rcases List.mem_cons.1 hb with rfl | hb
   ·intro e; subst e; exact hm (List.mem_of_mem_take ha)
   ·exact q3 a ha b hb
 rw [if_neg h2] at hf ⊢
 by_cases h3 : s.edit.do' = 3
 ·rw [if_pos h3]
  have := ka s.edit.at'; have := aa s.edit.at'
  exact U.set ⟨(N _).name, (N _).attrs, (N _).each, hs.was, (N _).kids⟩ (by show (nd d s.edit.at').kids.length <= _; omega) (by show (nd d s.edit.at').attrs.length <= _; omega) (na _)
 rw [if_neg h3] at hf ⊢
 by_cases h4 : s.edit.do' = 4
 ·rw [if_pos h4]
  have hp : ∀ n, nd (popN d) n = default \/ nd (popN d) n = nd d n := fun n => by
   unfold nd popN nth
   simp only [List.getD_eq_getElem?_getD, List.getElem?_take]
   split
   ·exact .inr rfl
   ·exact .inl rfl
  refine ⟨by show (List.take _ _).length <= _; rw [List.length_take]; have := U.len; omega, ⟨by show (List.take _ _).length <= _; rw [List.length_take]; have := U.len; omega, fun x hx => U.sm.each x (List.mem_of_mem_take hx)⟩, fun n => ?_, fun n => ?_, fun n => ?_⟩
  ·rcases hp n with h | h <;> rw [h]
   ·exact Nat.zero_le _
   ·have := ka n; omega
  ·rcases hp n with h | h <;> rw [h]
   ·exact Nat.zero_le _
   ·have := aa n; omega
  ·rcases hp n with h | h <;> rw [h]
   ·exact List.nodup_nil
   ·exact na n
 rw [if_neg h4] at hf ⊢
 by_cases h5 : s.edit.do' = 5
 ·rw [if_pos h5] at hf ⊢
  obtain ⟨_, _, p0, p1, _⟩ := hf
  have cl := cutList_len (l := (nd d s.edit.at').kids) (i := s.place.toNat) (by omega)
  have := ka s.edit.at'; have := aa s.edit.at'
  unfold JT
  exact (U.set (n := s.edit.at') (x := { nd d s.edit.at' with kids := X3 (nd d s.edit.at').kids s.place.toNat }) ⟨(N _).name, (N _).attrs, (N _).each, (N _).text, by show (X3 _ _).length <= _; omega⟩ (by show (X3 _ _).length <= _; omega) (by show (nd d s.edit.at').attrs.length <= _; omega) (na _)).same
 rw [if_neg h5] at hf ⊢
 by_cases h6 : s.edit.do' = 6
 ·rw [if_pos h6] at hf
  obtain ⟨_, _, _, _, p0, p1⟩ := hf
  have pl := putList_len (l := (nd d s.parent).kids) (i := s.place.toNat) (x := s.edit.at') (by omega)
  have := ka s.parent; have := aa s.parent
  unfold JT
  exact (U.set (n := s.parent) (x := { nd d s.parent with kids := J9 (nd d s.parent).kids s.place.toNat s.edit.at' }) ⟨(N _).name, (N _).attrs, (N _).each, (N _).text, by show (J9 _ _ _).length <= _; omega⟩ (by show (J9 _ _ _).length <= _; omega) (by show (nd d s.parent).attrs.length <= _; omega) (na _)).same
 ·rw [if_neg h6] at hf; exact hf.elim
def YU : HDoc -> List HStep -> Option HDoc
 | d, [] => some d
 | d, s :: l => if Y3 d s then YU (U2 d s) l else none
def QV (d : HDoc) (l : List HStep) : Int :=
 if T6 d ≠ 0 then T6 d else if 40 < l.length then 2 else match YU d l.reverse with | none => 9 | some x => if T6 x ≠ 0 then 9 else 0
def QW (d : HDoc) (l : List HStep) : HDoc := if QV d l = 0 then (YU d l.reverse).getD QK else QK
variable {G : ZQ}
structure Un (h0 h : Q3) (re rN : Nat) (d : HDoc) (n : Nat) (sl : Nat -> AVal) : Prop where
 dw : Dw [re] h0 h rN d sl
 un : h re = some ⟨.t 79, 2, [[.osl rN 6 0 n, .bool d.quirks]]⟩
 new : h0 re = none
 live : ∀ k, k < 2 * d.nodes.length -> Mut (sl k)
 le : n <= d.nodes.length
section
variable {h0 h : Q3} {re rN : Nat} {d : HDoc} {n : Nat} {sl : Nat -> AVal}
theorem Un.ne (E : Un h0 h re rN d n sl) : re ≠ rN := fun e => E.dw.new.2 (by simp [e])
theorem Un.put (E : Un h0 h re rN d n sl) {h2 : Q3} {sl' : Nat -> AVal} {i : Nat} (hi : i < d.nodes.length) {x' : HNode}
  (hs : ∀ j, j ≠ 2 * i -> j ≠ 2 * i + 1 -> sl' j = sl j)
  (hN : h2 rN = some ⟨.t 40, 6, (Y9 d sl).set i (X1 x' (sl' (2 * i)) (sl' (2 * i + 1)))⟩)
  (hk : ∀ r o, h r = some o -> r ≠ rN -> Q8 (sl (2 * i)) ≠ some r -> Q8 (sl (2 * i + 1)) ≠ some r -> h2 r = some o)
  (hA : OwnS h2 96 2 (x'.attrs.map Z7) (sl' (2 * i))) (hK : OwnS h2 3 1 (x'.kids.map J8) (sl' (2 * i + 1)))
  (hf : ∀ r, Q8 (sl' (2 * i)) = some r \/ Q8 (sl' (2 * i + 1)) = some r -> Q8 (sl (2 * i)) = some r \/ Q8 (sl (2 * i + 1)) = some r \/ h r = none)
  (hd : ∀ r, Q8 (sl' (2 * i)) = some r -> Q8 (sl' (2 * i + 1)) ≠ some r)
  (hm : Mut (sl' (2 * i)) /\ Mut (sl' (2 * i + 1))) : Un h0 h2 re rN ⟨d.nodes.set i x', d.quirks⟩ n sl' := by
 have hl : (d.nodes.set i x').length = d.nodes.length := by simp
 refine ⟨E.dw.put hi hs hN hk hA hK hf hd, ?_, E.new, fun k hk' => ?_, by rw [hl]; exact E.le⟩
 ·show h2 re = some ⟨_, 2, [[.osl rN 6 0 n, _]]⟩
  refine hk re _ E.un E.ne (fun h => (E.dw.fresh _ (by omega) re h).2.2 (by simp)) (fun h => (E.dw.fresh _ (by omega) re h).2.2 (by simp))
 ·simp only [hl] at hk'
  by_cases e1 : k = 2 * i
  ·rw [e1]; exact hm.1
  ·by_cases e2 : k = 2 * i + 1
   ·rw [e2]; exact hm.2
   ·rw [hs k e1 e2]; exact E.live k hk'
theorem Un.cells (E : Un h0 h re rN d n sl) {i : Nat} (hi : i < d.nodes.length) {x' : HNode} (hA : x'.attrs = (nth d.nodes i).attrs) (hK : x'.kids = (nth d.nodes i).kids) :
  Un h0 (upd h rN (some ⟨.t 40, 6, (Y9 d sl).set i (X1 x' (sl (2 * i)) (sl (2 * i + 1)))⟩)) re rN ⟨d.nodes.set i x', d.quirks⟩ n sl := by
 obtain ⟨g1, g2⟩ := E.dw.own i hi
 have k1 : ∀ k, k < 2 * d.nodes.length -> ∀ r, Q8 (sl k) = some r -> r ≠ rN := fun k hk r hr => (E.dw.fresh k hk r hr).2.1
 refine E.put hi (fun _ _ _ => rfl) (Q2 _ _ _) (fun r o ho hne _ _ => by rw [Q1 _ _ hne]; exact ho) ?_ ?_ (fun r hr => by rcases hr with h | h; exact .inl h; exact .inr (.inl h)) (fun r hr => E.dw.sep _ _ (by omega) (by omega) (by omega) r hr) ⟨E.live _ (by omega), E.live _ (by omega)⟩
 ·rw [hA]; exact g1.keep fun r o hr ho => by rw [Q1 _ _ (k1 _ (by omega) r hr)]; exact ho
 ·rw [hK]; exact g2.keep fun r o hr ho => by rw [Q1 _ _ (k1 _ (by omega) r hr)]; exact ho
theorem Un.root_ne (E : Un h0 h re rN d n sl) {k : Nat} (hk : k < 2 * d.nodes.length) {r : Nat} (hr : Q8 (sl k) = some r) : r ≠ rN /\ r ≠ re := ⟨(E.dw.fresh k hk r hr).2.1, fun e => (E.dw.fresh k hk r hr).2.2 (by simp [e])⟩
theorem Un.slotA (E : Un h0 h re rN d n sl) {i : Nat} (hi : i < d.nodes.length) {h1 : Q3} {a' : AVal} {l' : List HAttr} (kp : ∀ r o, h r = some o -> Q8 (sl (2 * i)) ≠ some r -> h1 r = some o)
  (O : OwnS h1 96 2 (l'.map Z7) a') (M : Mut a') (fr : ∀ r, Q8 a' = some r -> Q8 (sl (2 * i)) = some r \/ h r = none) :
  Un h0 (upd h1 rN (some ⟨.t 40, 6, (Y9 d sl).set i (X1 { nth d.nodes i with attrs := l' } a' (sl (2 * i + 1)))⟩)) re rN ⟨d.nodes.set i { nth d.nodes i with attrs := l' }, d.quirks⟩ n (upd sl (2 * i) a') := by
 have e1 : upd sl (2 * i) a' (2 * i) = a' := Q2 _ _ _
 have e2 : upd sl (2 * i) a' (2 * i + 1) = sl (2 * i + 1) := Q1 _ _ (by omega)
 obtain ⟨g1, g2⟩ := E.dw.own i hi
 have fN : ∀ r, Q8 a' = some r -> r ≠ rN := fun r hr e => by
  rcases fr r hr with h | h
  ·exact (E.root_ne (by omega) h).1 e
  ·rw [e, E.dw.nodes] at h; cases h
 refine E.put hi (fun j h1 _ => Q1 _ _ h1) (by rw [e1, e2, Q2]) (fun r o ho hne h2 _ => by rw [Q1 _ _ hne]; exact kp r o ho h2) ?_ ?_ ?_ ?_ ?_
 ·rw [e1]; exact O.keep fun r o hr ho => by rw [Q1 _ _ (fN r hr)]; exact ho
 ·rw [e2]; exact g2.keep fun r o hr ho => by
   rw [Q1 _ _ (E.root_ne (by omega) hr).1]
   exact kp r o ho fun h => E.dw.sep _ _ (by omega) (by omega) (by omega) r h hr
 ·rw [e1, e2]
  rintro r (hr | hr)
  ·rcases fr r hr with h | h
   ·exact .inl h
   ·exact .inr (.inr h)
  ·exact .inr (.inl hr)
 ·rw [e1, e2]
  intro r hr hr2
  rcases fr r hr with h | h
  ·exact E.dw.sep _ _ (by omega) (by omega) (by omega) r h hr2
  ·obtain ⟨o, ho⟩ := g2.root hr2; rw [h] at ho; cases ho
 ·rw [e1, e2]; exact ⟨M, E.live _ (by omega)⟩
theorem Un.slotK (E : Un h0 h re rN d n sl) {i : Nat} (hi : i < d.nodes.length) {h1 : Q3} {a' : AVal} {l' : List Int} (kp : ∀ r o, h r = some o -> Q8 (sl (2 * i + 1)) ≠ some r -> h1 r = some o)
  (O : OwnS h1 3 1 (l'.map J8) a') (M : Mut a') (fr : ∀ r, Q8 a' = some r -> Q8 (sl (2 * i + 1)) = some r \/ h r = none) :
  Un h0 (upd h1 rN (some ⟨.t 40, 6, (Y9 d sl).set i (X1 { nth d.nodes i with kids := l' } (sl (2 * i)) a')⟩)) re rN ⟨d.nodes.set i { nth d.nodes i with kids := l' }, d.quirks⟩ n (upd sl (2 * i + 1) a') := by
 have e1 : upd sl (2 * i + 1) a' (2 * i + 1) = a' := Q2 _ _ _
 have e2 : upd sl (2 * i + 1) a' (2 * i) = sl (2 * i) := Q1 _ _ (by omega)
 obtain ⟨g1, g2⟩ := E.dw.own i hi
 have fN : ∀ r, Q8 a' = some r -> r ≠ rN := fun r hr e => by
  rcases fr r hr with h | h
  ·exact (E.root_ne (by omega) h).1 e
  ·rw [e, E.dw.nodes] at h; cases h
 refine E.put hi (fun j _ h2 => Q1 _ _ h2) (by rw [e1, e2, Q2]) (fun r o ho hne _ h2 => by rw [Q1 _ _ hne]; exact kp r o ho h2) ?_ ?_ ?_ ?_ ?_
 ·rw [e2]; exact g1.keep fun r o hr ho => by
   rw [Q1 _ _ (E.root_ne (by omega) hr).1]
   exact kp r o ho fun h => E.dw.sep _ _ (by omega) (by omega) (by omega) r h hr
 ·rw [e1]; exact O.keep fun r o hr ho => by rw [Q1 _ _ (fN r hr)]; exact ho
 ·rw [e1, e2]
  rintro r (hr | hr)
  ·exact .inl hr
  ·rcases fr r hr with h | h
   ·exact .inr (.inl h)
   ·exact .inr (.inr h)
 ·rw [e1, e2]
  intro r hr hr2
  rcases fr r hr2 with h | h
  ·exact E.dw.sep _ _ (by omega) (by omega) (by omega) r hr h
  ·obtain ⟨o, ho⟩ := g1.root hr; rw [h] at ho; cases ho
 ·rw [e1, e2]; exact ⟨E.live _ (by omega), M⟩
theorem Un.inA (E : Un h0 h re rN d n sl) {i : Nat} (hi : i < d.nodes.length) {h1 : Q3} {l' : List HAttr} (kp : ∀ r o, h r = some o -> Q8 (sl (2 * i)) ≠ some r -> h1 r = some o)
  (O : OwnS h1 96 2 (l'.map Z7) (sl (2 * i))) : Un h0 h1 re rN ⟨d.nodes.set i { nth d.nodes i with attrs := l' }, d.quirks⟩ n sl := by
 have g := E.slotA hi kp O (E.live _ (by omega)) (fun r hr => .inl hr)
 have e : upd sl (2 * i) (sl (2 * i)) = sl := by
  funext j; unfold upd; split
  ·rename_i h; rw [h]
  ·rfl
 have hN : h1 rN = some ⟨.t 40, 6, Y9 d sl⟩ := kp rN _ E.dw.nodes (fun h => (E.root_ne (by omega) h).1 rfl)
 have rs : (Y9 d sl).set i (X1 { nth d.nodes i with attrs := l' } (sl (2 * i)) (sl (2 * i + 1))) = Y9 d sl := by
  apply List.ext_getElem?
  intro j
  rw [List.getElem?_set]
  split
  ·rename_i h; subst h
   rw [if_pos (by rw [Y5]; exact hi)]
   unfold Y9
   rw [List.getElem?_map, List.getElem?_range hi]; rfl
  ·rfl
 rw [e, rs, upd_id hN] at g
 exact g
end
def headD (d : HDoc) (n : Nat) : HDoc := ⟨d.nodes.take n, d.quirks⟩
theorem JU {d : HDoc} {n : Nat} (h : n <= d.nodes.length) : (headD d n).nodes.length = n := by unfold headD; rw [List.length_take]; omega
theorem inD_head {d : HDoc} {n : Nat} (h : n <= d.nodes.length) (m : Int) : inD (headD d n) m ↔ 0 <= m /\ m < n := by unfold inD; rw [JU h]
theorem nth_take' {α : Type} [Inhabited α] {l : List α} {i n : Nat} (h : i < n) : nth (l.take n) i = nth l i := by
 unfold nth; rw [List.getD_eq_getElem?_getD, List.getD_eq_getElem?_getD, List.getElem?_take, if_pos h]
theorem nd_head {d : HDoc} {n : Nat} {m : Int} (h : m.toNat < n) : nd (headD d n) m = nd d m := by unfold nd headD; exact nth_take' h
theorem head_setN {d : HDoc} {n : Nat} {m : Int} {x : HNode} : headD (setN d m x) n = setN (headD d n) m x := by
 unfold headD setN; rw [List.take_set]
theorem pop_head {d : HDoc} {n : Nat} (h : n <= d.nodes.length) : popN (headD d n) = headD d (n - 1) := by
 unfold popN headD
 show HDoc.mk (List.take _ (List.take n d.nodes)) _ = _
 rw [List.take_take, List.length_take]
 congr 2
 show min (min n d.nodes.length - 1) n = n - 1
 omega
def nodeU (rN n : Nat) (m : Int) : AVal := if 0 <= m /\ m < n then .ptr rN m.toNat 0 else .prim (.pointer none)
def c114 : SFun := ⟨.seq (.reg [o 4 (.mv (.c (.prim (Value.pointer none))))]) (.seq (.seq (.reg [o 5 (.mv (.t 1)), o 6 (.bin .lss (.t 5) (.c (.int .i64 0))), o 7 (.mv (.t 6)), ⟨some 8, .mv (.t 1), some (7, false)⟩, ⟨some 9, .mv (.t 0), some (7, false)⟩, ⟨some 10, .fldA 0 (.t 9), some (7, false)⟩, ⟨some 11, .fldA 0 (.t 10), some (7, false)⟩, ⟨some 12, .fldA 0 (.t 11), some (7, false)⟩, ⟨some 13, .ld 1 false (.t 12), some (7, false)⟩, ⟨some 14, .len (.t 13), some (7, false)⟩, ⟨some 15, .bin .geq (.t 8) (.t 14), some (7, false)⟩, o 16 (.pick (.t 7) (.c (.bool true)) (.t 15))]) (.cond (.t 16) (.seq (.reg [o 4 (.mv (.c (.prim (Value.pointer none))))]) .ret) .skip)) (.seq (.reg [o 17 (.mv (.t 0)), o 18 (.fldA 0 (.t 17)), o 19 (.fldA 0 (.t 18)), o 20 (.fldA 0 (.t 19)), o 21 (.ld 1 false (.t 20)), o 22 (.mv (.t 1)), o 23 (.idxA 6 (.t 21) (.t 22)), o 4 (.mv (.t 23))]) .ret)), [.tmp 4]⟩
theorem hc114 : X6 Tryz.prog {} Tryz.f114 = some c114 := by kernel_rfl
theorem unode_ok {h0 h : Q3} {re rN : Nat} {d : HDoc} {n : Nat} {sl : Nat -> AVal} (E : Un h0 h re rN d n sl) (hn : n <= 100000) (m : Int) : DCalls (Pg G) 114 [.vp re 0, Q7 m] h fun r h' => r = nodeU rN n m /\ h' = h := by
 have g := E.un
 refine Q4 Tryz.func114 (by kernel_rfl) hc114 (by rw [Tryz.ntmps114]; simp) (by rw [Tryz.ntmps114]; decide) ?_
 unfold nodeU
 by_cases hm : 0 <= m /\ m < n
 ·have n0 := hm.1
  have n1 := hm.2
  rw [if_pos hm]
  simp -dsimp -implicitDefEqProofs (disch := omega) only [↓Q0 7, VCA, Nat.reduceEqDiff, ↓reduceIte, c114]
  repeat' (first | ((with_reducible refine brC (fun _ => ?_) fun _ => ?_) <;> try (exfalso; omega)) | (with_reducible refine And.intro ?_ ?_; · omega) | simp -dsimp -implicitDefEqProofs (disch := omega) only [VCA, Nat.reduceEqDiff, Nat.reduceAdd, Nat.reduceLT, Nat.reduceLeDiff, ↓reduceIte, reduceCtorEq, exists_eq_right, exists_eq_left', g])
  all_goals first | (exfalso; omega) | exact ⟨Sub.refl _, by simp⟩ | exact Sub.refl _
 ·rw [if_neg hm]
  simp -dsimp -implicitDefEqProofs (disch := omega) only [↓Q0 7, VCA, Nat.reduceEqDiff, ↓reduceIte, c114]
  repeat' (first | ((with_reducible refine brC (fun _ => ?_) fun _ => ?_) <;> try (exfalso; omega)) | (with_reducible refine And.intro ?_ ?_; · omega) | simp -dsimp -implicitDefEqProofs (disch := omega) only [VCA, Nat.reduceEqDiff, Nat.reduceAdd, Nat.reduceLT, Nat.reduceLeDiff, ↓reduceIte, reduceCtorEq, exists_eq_right, exists_eq_left', g])
  all_goals first | (exfalso; omega) | exact Sub.refl _
def UnR (h0 h : Q3) (re : Nat) (d : HDoc) (s : HStep) (r : AVal) (h' : Q3) : Prop :=
 r = .bool (decide (Y3 d s)) /\ ((¬ Y3 d s /\ h' = h) \/ (Y3 d s /\ ∃ rN' d' n' sl', Un h0 h' re rN' d' n' sl' /\ headD d' n' = U2 d s))
theorem UnR.bad {h0 h : Q3} {re : Nat} {d : HDoc} {s : HStep} (hf : ¬ Y3 d s) : UnR h0 h re d s (.bool false) h := ⟨by rw [decide_eq_false hf], .inl ⟨hf, rfl⟩⟩
theorem UnR.good {h0 h h' : Q3} {re rN' n' : Nat} {d d' : HDoc} {sl' : Nat -> AVal} {s : HStep} (hf : Y3 d s) (E : Un h0 h' re rN' d' n' sl') (hd : headD d' n' = U2 d s) : UnR h0 h re d s (.bool true) h' :=
 ⟨by rw [decide_eq_true hf], .inr ⟨hf, rN', d', n', sl', E, hd⟩⟩
def c85 : SFun := ⟨.seq (.reg [o 3 (.boxF 44 16 (.t 1)), o 4 (.mv (.c (.bool false)))]) (.seq (.reg [o 6 (.mv (.t 0)), o 7 (.fldA 0 (.t 3)), o 8 (.fldA 1 (.t 7)), o 9 (.ld 1 false (.t 8)), o 10 (.call (.c (.fn 114 [] [])) [.t 6, .t 9]), o 5 (.mv (.t 10))]) (.seq (.seq (.reg [o 11 (.mv (.t 5)), o 12 (.isnil 1 false (.t 11)), o 13 (.mv (.t 12)), ⟨some 14, .mv (.t 5), some (13, false)⟩, ⟨some 15, .fldA 0 (.t 14), some (13, false)⟩, ⟨some 16, .fldA 0 (.t 15), some (13, false)⟩, ⟨some 17, .ld 1 false (.t 16), some (13, false)⟩, ⟨some 18, .bin .neq (.t 17) (.c (.int .i64 3)), some (13, false)⟩, ⟨some 19, .mv (.t 18), some (13, false)⟩, ⟨some 20, .mv (.t 5), some (19, true)⟩, ⟨some 21, .fldA 0 (.t 20), some (19, true)⟩, ⟨some 22, .fldA 0 (.t 21), some (19, true)⟩, ⟨some 23, .ld 1 false (.t 22), some (19, true)⟩, ⟨some 24, .bin .neq (.t 23) (.c (.int .i64 4)), some (19, true)⟩, ⟨some 25, .pick (.t 19) (.t 24) (.c (.bool false)), some (13, false)⟩, o 26 (.pick (.t 13) (.c (.bool true)) (.t 25))]) (.cond (.t 26) (.seq (.reg [o 4 (.mv (.c (.bool false)))]) .ret) .skip)) (.seq (.reg [o 27 (.mv (.t 5)), o 28 (.fldA 13 (.t 3)), o 29 (.ld 1 false (.t 28)), o 30 (.fldA 0 (.t 27)), o 31 (.fldA 3 (.t 30)), ⟨none, .st 1 (.t 31) (.t 29), none⟩]) (.seq (.reg [o 4 (.mv (.c (.bool true)))]) .ret)))), [.tmp 4]⟩
theorem hc85 : X6 Tryz.prog {} Tryz.f85 = some c85 := by kernel_rfl
theorem utext_ok {h0 h : Q3} {re rN : Nat} {d : HDoc} {n : Nat} {sl : Nat -> AVal} (E : Un h0 h re rN d n sl) (hn : n <= 100000) (s : HStep) (hs : StepSm s) (hdo : s.edit.do' = 3) : DCalls (Pg G) 85 [.vp re 0, .agg (Z9 s)] h (UnR h0 h re (headD d n) s) := by
 have gN := E.dw.nodes
 have le := E.le
 have hE := unode_ok (G := G) E hn s.edit.at'
 unfold nodeU at hE
 have eF : Y3 (headD d n) s ↔ (0 <= s.edit.at' /\ s.edit.at' < n) /\ ((nd (headD d n) s.edit.at').kind = 3 \/ (nd (headD d n) s.edit.at').kind = 4) := by
  unfold Y3; rw [if_neg (by omega), if_neg (by omega), if_pos hdo, inD_head le]
 have eD : U2 (headD d n) s = setN (headD d n) s.edit.at' { nd (headD d n) s.edit.at' with text := s.was } := by unfold U2; rw [if_neg (by omega), if_neg (by omega), if_pos hdo]
 refine Q4 Tryz.func85 (by kernel_rfl) hc85 (by rw [Tryz.ntmps85]; simp) (by rw [Tryz.ntmps85]; decide) ?_
 simp -dsimp -implicitDefEqProofs (disch := omega) only [VCA, Nat.reduceEqDiff, Nat.reduceAdd, Nat.reduceLeDiff, ↓reduceIte, reduceCtorEq, c85, Z9]
 by_cases hm : 0 <= s.edit.at' /\ s.edit.at' < n
 ·rw [if_pos hm] at hE
  have hn' : s.edit.at'.toNat < d.nodes.length := by omega
  have gk := Y2 (sl := sl) hn'
  have rl := Y5 d sl
  have nh : nd (headD d n) s.edit.at' = nd d s.edit.at' := nd_head (by omega)
  have e0 : nth d.nodes s.edit.at'.toNat = nd d s.edit.at' := rfl
  rw [e0] at gk
  rw [nh] at eF eD
  have Ec := E.cells hn' (x' := { nd d s.edit.at' with text := s.was }) rfl rfl
  unfold X1 at gk
  refine DCalls.of hE ?_
  rintro _ _ ⟨rfl, rfl⟩
  by_cases hk : (nd d s.edit.at').kind ≠ 3 /\ (nd d s.edit.at').kind ≠ 4
  ·have hb : ¬ Y3 (headD d n) s := fun h => by have := (eF.1 h).2; omega
   repeat' (first | ((with_reducible refine brC (fun _ => ?_) fun _ => ?_) <;> try (exfalso; omega)) | (with_reducible refine And.intro ?_ ?_; · omega) | simp -dsimp -implicitDefEqProofs (disch := omega) only [↓Q0 13, ↓Q0 19, VCA, Nat.reduceEqDiff, Nat.reduceAdd, Nat.reduceLeDiff, ↓reduceIte, exists_eq_left', gN, gk, rl])
   all_goals first | (exfalso; omega) | exact ⟨_, Sub.refl _, UnR.bad hb⟩ | trace_state
  ·have hb : Y3 (headD d n) s := eF.2 ⟨hm, by omega⟩
   repeat' (first | ((with_reducible refine brC (fun _ => ?_) fun _ => ?_) <;> try (exfalso; omega)) | (with_reducible refine And.intro ?_ ?_; · omega) | simp -dsimp -implicitDefEqProofs (disch := omega) only [↓Q0 13, ↓Q0 19, VCA, Nat.reduceEqDiff, Nat.reduceAdd, Nat.reduceLeDiff, ↓reduceIte, Z0, exists_eq_left', gN, gk, rl])
   all_goals first | (exfalso; omega) | exact ⟨_, Sub.refl _, UnR.good hb Ec (by rw [eD]; exact head_setN)⟩ | trace_state
 ·rw [if_neg hm] at hE
  have hb : ¬ Y3 (headD d n) s := fun h => hm (eF.1 h).1
  refine DCalls.of hE ?_
  rintro _ _ ⟨rfl, rfl⟩
  repeat' (first | ((with_reducible refine brC (fun _ => ?_) fun _ => ?_) <;> try (exfalso; omega)) | (with_reducible refine And.intro ?_ ?_; · omega) | simp -dsimp -implicitDefEqProofs (disch := omega) only [↓Q0 13, ↓Q0 19, VCA, Nat.reduceEqDiff, ↓reduceIte])
  all_goals exact ⟨_, Sub.refl _, UnR.bad hb⟩
end Go.Proofs.K
end
section
set_option linter.unusedSimpArgs false
set_option linter.unusedVariables false
namespace Go.Proofs.K
open Go Go.Sim Go.Proofs
variable {G : ZQ}
theorem allnil_own (d : HDoc) (sm : DocSm d) (h : Q3) : DCalls (Pg G) 38 [.agg (Z2 d), .emp] h fun a h' =>
  if T6 d = 0 then ∃ rN sl, a = .tup [.agg [.osl rN 6 0 d.nodes.length, .bool d.quirks], Q7 0, Q7 0] /\ Dw [] h h' rN d sl /\ ∀ k, k < 2 * d.nodes.length -> Mut (sl k)
  else a = .tup [.agg [.emp, .bool false], Q7 0, Q7 (T6 d)] /\ h' = h := by
 have hC := check_ok (G := G) d sm
 refine Q4 Tryz.func38 (by kernel_rfl) hc38 (by rw [Tryz.ntmps38]; simp) (by rw [Tryz.ntmps38]; decide) ?_
 simp -dsimp -implicitDefEqProofs (disch := omega) only [VCA, Nat.reduceEqDiff, ↓reduceIte, c38, J1, J4]
 intro r4 hr4
 have S4 : ∀ x, Sim.Sub h (upd h r4 (some x)) := fun x => (Sub.refl h).upd hr4
 by_cases h1 : T6 d = 0
 ·have V := docE_DV h1
  simp only []
  rw [h1] at hC
  have hOwn := fun hp => own_ok' (G := G) d sm V.pos hp
  repeat' (first | ((with_reducible refine brC (fun _ => ?_) fun _ => ?_) <;> try (exfalso; omega)) | (with_reducible apply pcallE.of; · exact hC) | (with_reducible refine And.intro ?_ ?_; · omega) | simp -dsimp -implicitDefEqProofs (disch := omega) only [↓Q0 16, VCA, Nat.reduceEqDiff, ↓reduceIte, J1, J4])
  have hOwn := hOwn (upd h r4 (some ⟨.t 24, 2, [[.emp, .bool false]]⟩))
  generalize hhb : upd h r4 (some ⟨.t 24, 2, [[.emp, .bool false]]⟩) = hb at *
  have gb4 : hb r4 = some ⟨.t 24, 2, [[.emp, .bool false]]⟩ := by rw [<- hhb]; exact Q2 _ _ _
  have Sb : Sub h hb := by rw [<- hhb]; exact S4 _
  refine DCalls.of hOwn ?_
  rintro a h2 ⟨rN, sl0, rfl, Dw1, M1⟩
  simp -dsimp -implicitDefEqProofs (disch := omega) only [VCA, Nat.reduceEqDiff, Nat.reduceAdd, Nat.reduceLeDiff, ↓reduceIte, X4, Y0]
  intro re hre
  have E0 := Ed.begin Dw1 M1 hre
  refine LoopVC.intro (fun m e h' => m = 0 /\ e 4 = .vp r4 0 /\ e 8 = .vp re 0 /\ e 30 = Q7 0 /\ e 31 = Q7 0 /\ ∃ sl', Ed hb h' re rN d sl' 0) 0 ⟨rfl, rfl, rfl, rfl, rfl, _, E0⟩ ?_
  rintro m e h' ⟨rfl, e4, e8, e30, e31, sl', E⟩
  have g4 := E.dw.sub _ _ gb4
  have gE := E.ed
  repeat' (first | ((with_reducible refine brC (fun _ => ?_) fun _ => ?_) <;> try (exfalso; omega)) | (with_reducible refine And.intro ?_ ?_; · omega) | simp -dsimp -implicitDefEqProofs (disch := omega) only [VCA, Nat.reduceEqDiff, Nat.reduceAdd, Nat.reduceLT, Nat.reduceLeDiff, ↓reduceIte, Z0, exists_eq_left', e4, e8, e30, e31, g4, gE])
  have nre : r4 ∉ [re] := fun h => by
   have h : r4 = re := by simpa using h
   have := E.new
   rw [<- h, gb4] at this; cases this
  refine ⟨_, Sub.refl _, ?_⟩
  rw [if_pos h1]
  exact ⟨rN, sl', rfl, (E.dw.beside Sb gb4 hr4 nre _).less (fun x hx => by cases hx), fun k hk => E.live k hk⟩
 ·simp only []
  repeat' (first | ((with_reducible refine brC (fun _ => ?_) fun _ => ?_) <;> try (exfalso; omega)) | (with_reducible apply pcallE.of; · exact hC) | (with_reducible refine And.intro ?_ ?_; · omega) | simp -dsimp -implicitDefEqProofs (disch := omega) only [↓Q0 16, VCA, Nat.reduceEqDiff, Nat.reduceAdd, Nat.reduceLT, ↓reduceIte, X4, Y0, Z0, exists_eq_right_right, exists_eq_left', h1])
  exact S4 _
theorem datA' (l : List HAttr) : Dat (sl Z7 l) := .slc _ fun e he c hc => by
 obtain ⟨x, _, rfl⟩ := List.mem_map.1 he
 simp only [Z7, List.mem_cons, List.mem_nil_iff, or_false] at hc
 rcases hc with rfl | rfl <;> constructor
theorem datI' (l : List Int) : Dat (sl J8 l) := .slc _ fun e he c hc => by
 obtain ⟨x, _, rfl⟩ := List.mem_map.1 he
 simp only [J8, List.mem_cons, List.mem_nil_iff, or_false] at hc
 subst hc; constructor
theorem datS (s : HStep) : ∀ c ∈ Z9 s, Dat c := fun c hc => by
 simp only [Z9, List.mem_cons, List.mem_nil_iff, or_false] at hc
 rcases hc with rfl | rfl | rfl | rfl | rfl | rfl | rfl | rfl | rfl | rfl | rfl | rfl | rfl | rfl | rfl | rfl <;> first | exact datA' _ | exact datI' _ | constructor
theorem datSs (l : List HStep) : Dat (sl Z9 l) := .slc _ fun e he c hc => by
 obtain ⟨x, _, rfl⟩ := List.mem_map.1 he
 exact datS x c hc
def bkM (l : List HStep) : (k : Nat) -> k <= l.length -> List (Nat × { s : HStep // s ∈ l })
 | 0, _ => []
 | k + 1, h => (k, ⟨nth l k, W5 h⟩) :: bkM l k (by omega)
theorem bkM_map (l : List HStep) : ∀ (k : Nat) (h : k <= l.length), (bkM l k h).map (·.2.1) = (l.take k).reverse
 | 0, _ => by simp [bkM]
 | k + 1, h => by
  rw [bkM, List.map_cons, bkM_map l k]
  have : l.take (k + 1) = l.take k ++ [nth l k] := by
   have e : nth l k = l[k] := by unfold nth; rw [List.getD_eq_getElem?_getD, List.getElem?_eq_getElem h]; rfl
   rw [e, List.take_succ_eq_append_getElem h]
  rw [this, List.reverse_append]; rfl
def eBk {l : List HStep} (x : Nat × { s : HStep // s ∈ l }) : List AVal := [Q7 x.1, .agg (Z9 x.2.1)]
def c82 : ICode := (.seq (.reg [.op ⟨some 4, .ld 1 false (.t 1), none⟩, .op ⟨some 5, .len (.t 4), none⟩, .op ⟨some 6, .bin .sub (.t 5) (.c (.int .i64 1)), none⟩, .op ⟨some 3, .mv (.t 6), none⟩]) (.block 0 (.loop (.seq (.seq (.reg [.op ⟨some 7, .mv (.t 3), none⟩, .op ⟨some 8, .bin .geq (.t 7) (.c (.int .i64 0)), none⟩]) (.cond (.t 8) .skip (.exit 0))) (.seq (.block 1 (.seq (.reg [.op ⟨some 11, .mv (.t 0), none⟩, .op ⟨some 12, .mv (.t 3), none⟩, .op ⟨some 13, .ld 1 false (.t 1), none⟩, .op ⟨some 14, .mv (.t 3), none⟩, .op ⟨some 15, .idxA 16 (.t 13) (.t 14), none⟩, .op ⟨some 16, .ld 16 true (.t 15), none⟩, .yld (some 17) (.t 11) [.t 12, .t 16], .op ⟨some 18, .un .not (.t 17), none⟩]) (.cond (.t 18) .ret .skip))) (.reg [.op ⟨some 9, .mv (.t 3), none⟩, .op ⟨some 10, .bin .sub (.t 9) (.c (.int .i64 1)), none⟩, .op ⟨some 3, .mv (.t 10), none⟩]))))))
theorem hc82 : toIF Tryz.prog {} 2 Tryz.f82 = some c82 := by kernel_rfl
theorem backward1_it (l : List HStep) (hl : l.length <= 1073741824) : IterV (Pg G) 82 [.pin [sl Z9 l]] eBk (bkM l l.length (Nat.le_refl _)) (l.length + 1) := by
 refine iterV_of_itv Tryz.func82 (by kernel_rfl) hc82 (by rw [Tryz.ntmps82]; simp) (by rw [Tryz.ntmps82]; decide) ?_ ?_ ?_
 ·intro c hc
  simp at hc; subst hc
  exact .pin _ (fun c hc => by simp at hc; subst hc; exact datSs l)
 ·intro x y hy
  simp only [eBk, List.mem_cons, List.mem_nil_iff, or_false] at hy
  rcases hy with rfl | rfl
  ·exact .inl (.int _ _)
  ·exact .inr ⟨rfl, .agg _ fun c hc => datS _ c hc⟩
 ·intro r
  simp -dsimp -implicitDefEqProofs (disch := omega) only [VCA, Nat.reduceAdd, ↓reduceIte, IT1, IT2, c82]
  refine itLoop.intro (fun m b p e => ∃ (i : Nat) (h : i <= l.length), m = i /\ b = false /\ p.length = l.length - i /\ p ++ bkM l i h = bkM l l.length (Nat.le_refl _) /\ e 0 = .prim (.func (.yield r) #[] #[]) /\ e 1 = .pin [sl Z9 l] /\ e 3 = Q7 ((i : Int) - 1)) l.length ⟨l.length, Nat.le_refl _, rfl, rfl, by simp, rfl, rfl, rfl, rfl⟩ ?_
  rintro i b p e ⟨_, hi, rfl, rfl, hp, hP, he0, he1, he3⟩
  simp -dsimp -implicitDefEqProofs (disch := omega) only [VCA, ↓reduceIte, IT1, IT2, he3]
  refine Br.dec (fun hlt => ?_) (fun hge => ?_)
  ·obtain ⟨j, rfl⟩ : ∃ j, i = j + 1 := ⟨i - 1, by omega⟩
   have ej : ((j + 1 : Nat) : Int) - 1 = j := by omega
   rw [ej] at he3
   simp -dsimp -implicitDefEqProofs (disch := omega) only [VCA, Nat.reduceEqDiff, ↓reduceIte, reduceCtorEq, IT1, IT2, IT3, aft_lo, aft_hi, he0, he1, he3]
   rw [bkM] at hP
   refine ⟨by omega, by rw [XV]; omega, by omega, (j, ⟨nth l j, W5 hi⟩), rfl, ⟨j, by omega, j, by omega, rfl, by rw [List.length_append, hp]; simp; omega, by rw [<- hP]; simp, rfl⟩, ⟨bkM l j (by omega), by rw [<- hP]; simp⟩⟩
  ·obtain rfl : i = 0 := by omega
   simp -dsimp -implicitDefEqProofs (disch := omega) only [VCA, ↓reduceIte, IT1, IT2, IT3]
   rw [bkM, List.append_nil] at hP
   exact hP
def c45 : SFun := ⟨.seq (.reg [o 1 (.boxF 27 1 (.t 0)), o 2 (.mv (.c (.prim .nilFunc)))]) (.seq (.reg [o 3 (.mkf 82 [] [.t 1]), o 2 (.mv (.t 3))]) .ret), [.tmp 2]⟩
theorem hc45 : X6 Tryz.prog {} Tryz.f45 = some c45 := by kernel_rfl
theorem backward_ok (l : List HStep) : PCalls (Pg G) 45 [sl Z9 l] (.fn 82 [] [.pin [sl Z9 l]]) := fun h => by
 refine Q4 Tryz.func45 (by kernel_rfl) hc45 (by rw [Tryz.ntmps45]; simp) (by rw [Tryz.ntmps45]; decide) ?_
 simp -dsimp -implicitDefEqProofs (disch := omega) only [VCA, Nat.reduceEqDiff, ↓reduceIte, exists_eq_right, c45]
 exact Sub.refl _
def UndoneOK (G : ZQ) (s : HStep) : Prop := ∀ {h0 h : Q3} {re rN : Nat} {d : HDoc} {n : Nat} {sl : Nat -> AVal} {k : Nat}, Un h0 h re rN d n sl -> USm k (headD d n) -> k <= 1000 -> DCalls (Pg G) 46 [.vp re 0, .agg (Z9 s)] h (UnR h0 h re (headD d n) s)
def c46 : SFun := ⟨.seq (.reg [o 3 (.boxF 44 16 (.t 1)), o 4 (.mv (.c (.bool false)))]) (.seq (.seq (.reg [o 5 (.fldA 0 (.t 3)), o 6 (.fldA 0 (.t 5)), o 7 (.ld 1 false (.t 6))]) (.block 0 (.seq (.reg [o 9 (.bin .eql (.t 7) (.c (.int .i64 1))), o 8 (.mv (.t 9))]) (.cond (.t 8) (.seq (.reg [o 10 (.mv (.t 0)), o 11 (.ld 16 true (.t 3)), o 12 (.call (.c (.fn 83 [] [])) [.t 10, .t 11]), o 4 (.mv (.t 12))]) .ret) (.seq (.reg [o 14 (.bin .eql (.t 7) (.c (.int .i64 2))), o 13 (.mv (.t 14))]) (.cond (.t 13) (.seq (.reg [o 15 (.mv (.t 0)), o 16 (.ld 16 true (.t 3)), o 17 (.call (.c (.fn 84 [] [])) [.t 15, .t 16]), o 4 (.mv (.t 17))]) .ret) (.seq (.reg [o 19 (.bin .eql (.t 7) (.c (.int .i64 3))), o 18 (.mv (.t 19))]) (.cond (.t 18) (.seq (.reg [o 20 (.mv (.t 0)), o 21 (.ld 16 true (.t 3)), o 22 (.call (.c (.fn 85 [] [])) [.t 20, .t 21]), o 4 (.mv (.t 22))]) .ret) (.seq (.reg [o 24 (.bin .eql (.t 7) (.c (.int .i64 4))), o 23 (.mv (.t 24))]) (.cond (.t 23) (.seq (.reg [o 25 (.mv (.t 0)), o 26 (.ld 16 true (.t 3)), o 27 (.call (.c (.fn 86 [] [])) [.t 25, .t 26]), o 4 (.mv (.t 27))]) .ret) (.seq (.reg [o 29 (.bin .eql (.t 7) (.c (.int .i64 5))), o 28 (.mv (.t 29))]) (.cond (.t 28) (.seq (.reg [o 30 (.mv (.t 0)), o 31 (.ld 16 true (.t 3)), o 32 (.call (.c (.fn 87 [] [])) [.t 30, .t 31]), o 4 (.mv (.t 32))]) .ret) (.seq (.reg [o 34 (.bin .eql (.t 7) (.c (.int .i64 6))), o 33 (.mv (.t 34))]) (.cond (.t 33) (.seq (.reg [o 35 (.mv (.t 0)), o 36 (.ld 16 true (.t 3)), o 37 (.call (.c (.fn 88 [] [])) [.t 35, .t 36]), o 4 (.mv (.t 37))]) .ret) .skip)))))))))))))) (.seq (.reg [o 4 (.mv (.c (.bool false)))]) .ret)), [.tmp 4]⟩
theorem hc46 : X6 Tryz.prog {} Tryz.f46 = some c46 := by kernel_rfl
theorem hn46 : (Tryz.f46.name == "runtime.NumGoroutine") = false := by kernel_rfl
theorem undone_text (s : HStep) (hs : StepSm s) (h3 : s.edit.do' = 3) : UndoneOK G s := fun {h0 h re rN d n sl k} E U hk => by
 have hn : n <= 100000 := by have := U.len; rw [JU E.le] at this; omega
 have hT := utext_ok (G := G) E hn s hs h3
 have b1 : (s.edit.do' == 1) = false := by simp [h3]
 have b2 : (s.edit.do' == 2) = false := by simp [h3]
 have b3 : (s.edit.do' == 3) = true := by simp [h3]
 refine Q4 Tryz.func46 hn46 hc46 (by rw [Tryz.ntmps46]; simp) (by rw [Tryz.ntmps46]; decide) ?_
 unfold Z9 at *
 simp -dsimp -implicitDefEqProofs (disch := omega) only [VCA, Nat.reduceEqDiff, Nat.reduceAdd, Nat.reduceLeDiff, ↓reduceIte, reduceCtorEq, c46, b1, b2, b3]
 refine DCalls.of hT ?_
 intro r h' hR
 simp -dsimp -implicitDefEqProofs (disch := omega) only [VCA, ↓reduceIte]
 exact ⟨_, Sub.refl _, hR⟩
theorem backM_app : ∀ (p : List HStep) (d : HDoc) (s : HStep), YU d (p ++ [s]) = match YU d p with | none => none | some D => if Y3 D s then some (U2 D s) else none
 | [], d, s => by
  simp only [List.nil_append, YU]
 | x :: p, d, s => by
  simp only [List.cons_append, YU]
  split
  ·exact backM_app p _ s
  ·rfl
theorem backM_none : ∀ (p q : List HStep) (d : HDoc), YU d p = none -> YU d (p ++ q) = none
 | [], q, d, h => by cases h
 | x :: p, q, d, h => by
  simp only [List.cons_append, YU] at h ⊢
  split
  ·rename_i hf; rw [if_pos hf] at h; exact backM_none p q _ h
  ·rfl
theorem Un.strp {h0 h h1 h2 : Q3} {re rN : Nat} {d : HDoc} {n : Nat} {sl : Nat -> AVal} (E : Un h0 h1 re rN d n sl) (S : Sub h0 h) (hk : ∀ r o, h1 r = some o -> o.ty.isM = false \/ h r = some o -> h2 r = some o) : Un h0 h2 re rN d n sl := by
 have ow : ∀ {ty sz : Nat} {cells : List (List AVal)} {a : AVal}, OwnS h1 ty sz cells a -> OwnS h2 ty sz cells a := fun O => by
  rcases O with O | O | ⟨r, es, ha, hr, q1, q2⟩
  ·exact .inl O
  ·exact .inr (.inl O)
  ·exact .inr (.inr ⟨r, es, ha, hk r _ hr (.inl rfl), q1, q2⟩)
 refine ⟨⟨fun r o hr => hk r o (E.dw.sub r o hr) (.inr (S r o hr)), hk _ _ E.dw.nodes (.inl rfl), E.dw.new, fun i hi => ⟨ow (E.dw.own i hi).1, ow (E.dw.own i hi).2⟩, E.dw.fresh, E.dw.sep, fun r hr => ?_⟩, hk _ _ E.un (.inl rfl), E.new, E.live, E.le⟩
 simp at hr; subst hr; exact ⟨_, hk _ _ E.un (.inl rfl)⟩
theorem Dw.vwH {X : List Nat} {h0 h : Q3} {rN : Nat} {d : HDoc} {n : Nat} {sl' : Nat -> AVal} (E : Dw X h0 h rN d sl') (le : n <= d.nodes.length) : Vw h (.osl rN 6 0 n) (sl Q9 (headD d n).nodes) := by
 have key : ∀ (i : Nat), i < d.nodes.length -> F2 (Vw h) (X1 (nth d.nodes i) (sl' (2 * i)) (sl' (2 * i + 1))) (Q9 (nth d.nodes i)) := fun i hi => by
  obtain ⟨g1, g2⟩ := E.own i hi
  exact .cons (.refl _) (.cons (.refl _) (.cons g1.vw (.cons (.refl _) (.cons (.refl _) (.cons g2.vw .nil)))))
 have e1 : (Y9 d sl').take n = (List.range n).map fun i => X1 (nth d.nodes i) (sl' (2 * i)) (sl' (2 * i + 1)) := by unfold Y9; rw [<- List.map_take, List.take_range, Nat.min_eq_left le]
 have e2 : (headD d n).nodes.map Q9 = (List.range n).map fun i => Q9 (nth d.nodes i) := by
  apply List.ext_getElem?
  intro j
  have hl := JU le
  by_cases hj : j < n
  ·rw [List.getElem?_map, List.getElem?_map, List.getElem?_range hj, X7 (by omega), Option.map_some, Option.map_some]
   show some (Q9 (nth (d.nodes.take n) j)) = _
   rw [nth_take' hj]
  ·rw [List.getElem?_eq_none (by simp; omega), List.getElem?_eq_none (by simp; omega)]
 have gen : ∀ l : List Nat, (∀ i ∈ l, i < d.nodes.length) -> F2 (F2 (Vw h)) (l.map fun i => X1 (nth d.nodes i) (sl' (2 * i)) (sl' (2 * i + 1))) (l.map fun i => Q9 (nth d.nodes i)) := fun l => by
  induction l with
  | nil => intro _; exact .nil
  | cons i l ih => intro hl; exact .cons (key i (hl i List.mem_cons_self)) (ih fun j hj => hl j (List.mem_cons_of_mem _ hj))
 refine Vw.osl0 E.nodes (by rw [List.length_map, JU le]) (by rw [Y5]; exact le) (fun f hf => by obtain ⟨x, _, rfl⟩ := List.mem_map.1 hf; rfl) ?_
 show F2 (F2 (Vw h)) ((Y9 d sl').take n) ((headD d n).nodes.map Q9)
 rw [e1, e2]
 exact gen _ fun i hi => by have := List.mem_range.1 hi; omega
theorem Dw.baseAdd {X : List Nat} {h0 h : Q3} {rN : Nat} {d : HDoc} {sl' : Nat -> AVal} (E : Dw X h0 h rN d sl') {r : Nat} (hr : h r = none) (o : AObj) : Dw X (upd h0 r (some o)) (upd h r (some o)) rN d sl' := by
 have ne : ∀ t ob, h t = some ob -> t ≠ r := fun t ob ht e => by rw [e, hr] at ht; cases ht
 refine ⟨fun t ob ht => ?_, by rw [Q1 _ _ (ne _ _ E.nodes)]; exact E.nodes, ⟨by rw [Q1 _ _ (ne _ _ E.nodes)]; exact E.new.1, E.new.2⟩, fun i hi => ?_, fun k hk t ht => ?_, E.sep, fun t ht => ?_⟩
 ·by_cases e : t = r
  ·subst e; rw [Q2] at ht ⊢; exact ht
  ·rw [Q1 _ _ e] at ht ⊢; exact E.sub t ob ht
 ·obtain ⟨g1, g2⟩ := E.own i hi
  exact ⟨g1.keep fun t ob _ ho => by rw [Q1 _ _ (ne t ob ho)]; exact ho, g2.keep fun t ob _ ho => by rw [Q1 _ _ (ne t ob ho)]; exact ho⟩
 ·obtain ⟨ob, ho⟩ := E.slot hk ht
  exact ⟨by rw [Q1 _ _ (ne t ob ho)]; exact (E.fresh k hk t ht).1, (E.fresh k hk t ht).2⟩
 ·obtain ⟨ob, ho⟩ := E.keep t ht
  exact ⟨ob, by rw [Q1 _ _ (ne t ob ho)]; exact ho⟩
theorem Un.aside {h0 h : Q3} {re rN : Nat} {d : HDoc} {n : Nat} {sl' : Nat -> AVal} (E : Un h0 h re rN d n sl') {r : Nat} (hr : h r = none) (o : AObj) : Un h0 (upd h r (some o)) re rN d n sl' :=
 ⟨(E.dw.more hr o).less (fun x hx => by simp at hx; subst hx; simp), by rw [Q1 _ _ (fun e => by have := E.un; rw [e, hr] at this; cases this)]; exact E.un, E.new, E.live, E.le⟩
def undoV (d : HDoc) (l : List HStep) : AVal := .tup [.agg (Z2 (QW d l)), Q7 (QV d l)]
def c16 : SFun := ⟨.seq (.reg [o 2 (.boxF 24 2 (.t 0)), o 4 (.new 24 2 [.emp, .bool false]), o 5 (.new 28 1 [.int .i64 0])]) (.seq (.reg [o 13 (.ld 2 true (.t 2)), o 14 (.call (.c (.fn 38 [] [])) [.t 13, .c .emp]), o 12 (.mv (.t 14)), o 15 (.ext (.t 12) 0), o 16 (.ext (.t 12) 1), o 17 (.ext (.t 12) 2), o 6 (.new 24 2 [.emp, .bool false]), ⟨none, .st 2 (.t 6) (.t 15), none⟩, o 7 (.mv (.t 16)), o 8 (.mv (.t 17))]) (.seq (.seq (.reg [o 18 (.mv (.t 8)), o 19 (.bin .eql (.t 18) (.c (.int .i64 0))), o 20 (.mv (.t 19)), ⟨some 21, .mv (.t 1), some (20, true)⟩, ⟨some 22, .len (.t 21), some (20, true)⟩, ⟨some 23, .bin .gtr (.t 22) (.c (.int .i64 40)), some (20, true)⟩, o 24 (.pick (.t 20) (.t 23) (.c (.bool false)))]) (.cond (.t 24) (.reg [o 8 (.mv (.c (.int .i64 2)))]) .skip)) (.seq (.seq (.reg [o 25 (.mv (.t 8)), o 26 (.bin .neq (.t 25) (.c (.int .i64 0)))]) (.cond (.t 26) (.seq (.reg [o 27 (.bld [.emp, .bool false] []), o 28 (.mv (.t 8)), ⟨none, .st 2 (.t 4) (.t 27), none⟩, ⟨none, .st 1 (.t 5) (.t 28), none⟩]) .ret) .skip)) (.seq (.reg [o 29 (.ld 2 true (.t 6)), o 30 (.bld [.emp, .bool false] [(0, (2, (.t 29)))]), o 31 (.box 79 2 (.t 30)), o 9 (.new 77 1 [.prim (Value.pointer none)]), ⟨none, .st 1 (.t 9) (.t 31), none⟩]) (.seq (.seq (.reg [o 32 (.mv (.t 1)), o 33 (.pcall 45 [.t 32])]) (.block 0 (.range (.t 33) [34, 35] (.reg [o 11 (.new 44 16 [.int .i64 0, .int .i64 0, .int .i64 0, .int .i64 0, .str [], .str [], .int .i64 0, .str [], .emp, .str [], .int .i64 0, .emp, .bool false, .str [], .int .i64 0, .int .i64 0]), ⟨none, .st 16 (.t 11) (.t 35), none⟩]) (.block 1 (.seq (.reg [o 36 (.ld 1 false (.t 9)), o 37 (.ld 16 true (.t 11)), o 38 (.call (.c (.fn 46 [] [])) [.t 36, .t 37]), o 39 (.un .not (.t 38))]) (.cond (.t 39) (.seq (.reg [o 40 (.bld [.emp, .bool false] []), ⟨none, .st 2 (.t 4) (.t 40), none⟩, ⟨none, .st 1 (.t 5) (.c (.int .i64 9)), none⟩]) .ret) .skip)))))) (.seq (.seq (.reg [o 41 (.ld 1 false (.t 9)), o 42 (.fldA 0 (.t 41)), o 43 (.fldA 0 (.t 42)), o 44 (.ld 2 true (.t 43)), o 45 (.call (.c (.fn 47 [] [])) [.t 44]), o 46 (.bin .neq (.t 45) (.c (.int .i64 0)))]) (.cond (.t 46) (.seq (.reg [o 47 (.bld [.emp, .bool false] []), ⟨none, .st 2 (.t 4) (.t 47), none⟩, ⟨none, .st 1 (.t 5) (.c (.int .i64 9)), none⟩]) .ret) .skip)) (.seq (.reg [o 48 (.ld 1 false (.t 9)), o 49 (.fldA 0 (.t 48)), o 50 (.fldA 0 (.t 49)), o 51 (.ld 2 true (.t 50)), ⟨none, .st 2 (.t 4) (.t 51), none⟩, ⟨none, .st 1 (.t 5) (.c (.int .i64 0)), none⟩]) .ret))))))), [.cell 4 2 true, .cell 5 1 false]⟩
theorem hc16 : X6 Tryz.prog {pure := [45], how := [(31, 6)]} Tryz.f16 = some c16 := by kernel_rfl
theorem undo_ok_of (d : HDoc) (sm : DocSm d) (l : List HStep) (hl : ∀ s ∈ l, StepSm s) (ll : l.length <= 1073741824) (hU : ∀ s ∈ l, UndoneOK G s) : PCalls (Pg G) 16 [.agg (Z2 d), sl Z9 l] (undoV d l) := PCalls.outV fun h => by
 unfold undoV
 refine Q4 Tryz.func16 (by kernel_rfl) hc16 (by rw [Tryz.ntmps16]; simp) (by rw [Tryz.ntmps16]; decide) ?_
 simp -dsimp -implicitDefEqProofs (disch := omega) only [VCA, ↓Y4, Nat.reduceEqDiff, ↓reduceIte, ne_eq, c16, J1, J4]
 intro r4 hr4 r5 hr5
 have n1 : ¬ r4 = r5 := fun q => hr5.1 q.symm
 have n2 : ¬ r5 = r4 := hr5.1
 generalize hhb : upd (upd h r4 (some ⟨.t 24, 2, [[.emp, .bool false]]⟩)) r5 (some ⟨.t 28, 1, [[.int .i64 0]]⟩) = hb
 have gb4 : hb r4 = some ⟨.t 24, 2, [[.emp, .bool false]]⟩ := by rw [<- hhb, Q1 _ _ n1, Q2]
 have gb5 : hb r5 = some ⟨.t 28, 1, [[.int .i64 0]]⟩ := by rw [<- hhb, Q2]
 have Sb : Sub h hb := by rw [<- hhb]; exact ((Sub.refl h).upd hr4).upd hr5.2
 by_cases h0 : T6 d = 0
 ·refine DCalls.of (allnil_own d sm hb) ?_
  intro a h2 hK
  rw [if_pos h0] at hK
  obtain ⟨rN, sl', rfl, D1, M1⟩ := hK
  have g4 := D1.sub _ _ gb4
  have g5 := D1.sub _ _ gb5
  have V := docE_DV h0
  by_cases h40 : 40 < l.length
  ·have uE : QV d l = 2 := by unfold QV; rw [if_neg (by simpa using h0), if_pos h40]
   have uR : QW d l = QK := by unfold QW; rw [uE]; rfl
   rw [uE, uR]
   have S2 := Sb.trans D1.sub
   repeat' (first | ((with_reducible refine brC (fun _ => ?_) fun _ => ?_) <;> try (exfalso; omega)) | (with_reducible refine And.intro ?_ ?_; · omega) | simp -dsimp -implicitDefEqProofs (disch := omega) only [↓Q0 20, VCA, Nat.reduceEqDiff, Nat.reduceAdd, Nat.reduceLT, ↓reduceIte, Z0, exists_eq_left'])
   intro r6 hr6
   have n3 : ¬ r4 = r6 := fun q => by rw [<- q, g4] at hr6; cases hr6
   have n4 : ¬ r5 = r6 := fun q => by rw [<- q, g5] at hr6; cases hr6
   have n5 : ¬ r6 = r4 := fun q => n3 q.symm
   have n6 : ¬ r6 = r5 := fun q => n4 q.symm
   repeat' (first | ((with_reducible refine brC (fun _ => ?_) fun _ => ?_) <;> try (exfalso; omega)) | (with_reducible refine And.intro ?_ ?_; · omega) | simp -dsimp -implicitDefEqProofs (disch := omega) only [VCA, Nat.reduceEqDiff, Nat.reduceAdd, Nat.reduceLT, ↓reduceIte, X4, Y0, Z0, exists_eq_left', g4, g5, n1, n2, n3, n4])
   all_goals first | (exfalso; omega) | exact ⟨_, Sub.refl _, ((S2.upd (S2.none hr6)).upd hr4).upd hr5.2, .tup' (.cons (K7 _) (.cons (.refl _) .nil))⟩ | trace_state
  ·repeat' (first | ((with_reducible refine brC (fun _ => ?_) fun _ => ?_) <;> try (exfalso; omega)) | (with_reducible refine And.intro ?_ ?_; · omega) | simp -dsimp -implicitDefEqProofs (disch := omega) only [↓Q0 20, VCA, Nat.reduceEqDiff, Nat.reduceAdd, Nat.reduceLT, ↓reduceIte, Z0, exists_eq_left'])
   intro r6 hr6
   have n3 : ¬ r4 = r6 := fun q => by rw [<- q, g4] at hr6; cases hr6
   have n4 : ¬ r5 = r6 := fun q => by rw [<- q, g5] at hr6; cases hr6
   have n5 : ¬ r6 = r4 := fun q => n3 q.symm
   have n6 : ¬ r6 = r5 := fun q => n4 q.symm
   have b40 : decide ((40 : Int) < l.length) = false := decide_eq_false (by omega)
   repeat' (first | ((with_reducible refine brC (fun _ => ?_) fun _ => ?_) <;> try (exfalso; omega)) | (with_reducible refine And.intro ?_ ?_; · omega) | simp -dsimp -implicitDefEqProofs (disch := omega) only [VCA, ↓Y4, Nat.reduceEqDiff, Nat.reduceAdd, Nat.reduceLT, ↓reduceIte, X4, Y0, Z0, ne_eq, exists_eq_left', b40])
   all_goals try (exfalso; omega)
   intro re hre r9 hr9
   have E1 := D1.baseAdd hr6 ⟨.t 24, 2, [[.osl rN 6 0 d.nodes.length, .bool d.quirks]]⟩
   have E2 := E1.more (r := re) (by rw [Q1 _ _ hre.1]; exact hre.2) ⟨.t 79, 2, [[.osl rN 6 0 d.nodes.length, .bool d.quirks]]⟩
   have E3 := E2.baseAdd (r := r9) (by rw [Q1 _ _ hr9.1, Q1 _ _ hr9.2.1]; exact hr9.2.2) ⟨.t 77, 1, [[.vp re 0]]⟩
   have U0 : Un _ _ re rN d d.nodes.length sl' := ⟨E3, by rw [Q1 _ _ (fun q => hr9.1 q.symm), Q2], by rw [Q1 _ _ (fun q => hr9.1 q.symm), Q1 _ _ hre.1]; exact D1.sub.none hre.2, M1, Nat.le_refl _⟩
   have SB : Sub h (upd (upd hb r6 (some ⟨.t 24, 2, [[.osl rN 6 0 d.nodes.length, .bool d.quirks]]⟩)) r9 (some ⟨.t 77, 1, [[.vp re 0]]⟩)) := (Sb.upd (Sb.none (D1.sub.none hr6))).upd (Sb.none (D1.sub.none hr9.2.2))
   have gB4 : upd (upd hb r6 (some ⟨.t 24, 2, [[.osl rN 6 0 d.nodes.length, .bool d.quirks]]⟩)) r9 (some ⟨.t 77, 1, [[.vp re 0]]⟩) r4 = some ⟨.t 24, 2, [[.emp, .bool false]]⟩ := by
    rw [Q1 _ _ (fun q => by rw [<- q, g4] at hr9; cases hr9.2.2), Q1 _ _ n3]; exact gb4
   have gB5 : upd (upd hb r6 (some ⟨.t 24, 2, [[.osl rN 6 0 d.nodes.length, .bool d.quirks]]⟩)) r9 (some ⟨.t 77, 1, [[.vp re 0]]⟩) r5 = some ⟨.t 28, 1, [[.int .i64 0]]⟩ := by
    rw [Q1 _ _ (fun q => by rw [<- q, g5] at hr9; cases hr9.2.2), Q1 _ _ n4]; exact gb5
   have gB9 : upd (upd hb r6 (some ⟨.t 24, 2, [[.osl rN 6 0 d.nodes.length, .bool d.quirks]]⟩)) r9 (some ⟨.t 77, 1, [[.vp re 0]]⟩) r9 = some ⟨.t 77, 1, [[.vp re 0]]⟩ := Q2 _ _ _
   have hd0 : headD d d.nodes.length = d := by unfold headD; rw [List.take_length]
   repeat' (first | ((with_reducible refine brC (fun _ => ?_) fun _ => ?_) <;> try (exfalso; omega)) | (with_reducible apply pcallE.of; · exact backward_ok (G := G) l) | (with_reducible refine And.intro ?_ ?_; · omega) | simp -dsimp -implicitDefEqProofs (disch := omega) only [VCA])
   generalize upd (upd (upd h2 r6 (some ⟨.t 24, 2, [[.osl rN 6 0 d.nodes.length, .bool d.quirks]]⟩)) re (some ⟨.t 79, 2, [[.osl rN 6 0 d.nodes.length, .bool d.quirks]]⟩)) r9 (some ⟨.t 77, 1, [[.vp re 0]]⟩) = hR at *
   generalize upd (upd hb r6 (some ⟨.t 24, 2, [[.osl rN 6 0 d.nodes.length, .bool d.quirks]]⟩)) r9 (some ⟨.t 77, 1, [[.vp re 0]]⟩) = hB at *
   clear E1 E2 E3 D1
   have SR : Sub hB hR := U0.dw.sub
   refine RangeVC.intro (backward1_it (G := G) l ll) rfl (fun _ => rfl)
    (fun pre h' => ∃ D rN' d' n' sl'', YU d (pre.map (·.2.1)) = some D /\ Un hB h' re rN' d' n' sl'' /\ headD d' n' = D /\ USm pre.length D)
    (fun ex pre h' => ex = .ret /\ YU d (pre.map (·.2.1)) = none /\ h' r4 = some ⟨.t 24, 2, [[.emp, .bool false]]⟩ /\ h' r5 = some ⟨.t 28, 1, [[.int .i64 9]]⟩ /\ Sub h h') ?_ ?_ ?_ ?_ ?_
   ·exact ⟨d, rN, d, d.nodes.length, sl', rfl, U0, hd0, V.usm sm⟩
   ·rintro pre x h' ⟨D, rN', d', n', sl2, hM, E, rfl, U⟩ hN
    have hs := hl x.2.1 x.2.2
    have g9 := E.dw.sub _ _ gB9
    have e4 := E.dw.sub _ _ gB4
    have e5 := E.dw.sub _ _ gB5
    have Sh := SB.trans E.dw.sub
    repeat' (first | ((with_reducible refine brC (fun _ => ?_) fun _ => ?_) <;> try (exfalso; omega)) | (with_reducible refine And.intro ?_ ?_; · omega) | simp -dsimp -implicitDefEqProofs (disch := omega) only [VCA, Nat.reduceEqDiff, Nat.reduceAdd, Nat.reduceLT, ↓reduceIte, Z0, exists_eq_left', eBk, XV, eStep_all, g9])
    intro r11 hr11
    have j1 : ¬ r9 = r11 := fun q => by rw [<- q, g9] at hr11; cases hr11
    repeat' (first | ((with_reducible refine brC (fun _ => ?_) fun _ => ?_) <;> try (exfalso; omega)) | (with_reducible refine And.intro ?_ ?_; · omega) | simp -dsimp -implicitDefEqProofs (disch := omega) only [VCA, Nat.reduceLT, ↓reduceIte, exists_eq_left', j1])
    refine DCalls.of (hU x.2.1 x.2.2 (E.aside hr11 _) U (by omega)) ?_
    rintro r h3 ⟨rfl, hR3⟩
    have j2 : ¬ r4 = r11 := fun q => by rw [<- q, e4] at hr11; cases hr11
    have j3 : ¬ r5 = r11 := fun q => by rw [<- q, e5] at hr11; cases hr11
    by_cases hf : Y3 (headD d' n') x.2.1
    ·obtain ⟨_, rN3, d3, k3, sl3, E3, hd3⟩ := hR3.resolve_left (fun q => q.1 hf)
     have bT : decide (Y3 (headD d' n') x.2.1) = true := decide_eq_true hf
     repeat' (first | ((with_reducible refine brC (fun _ => ?_) fun _ => ?_) <;> try (exfalso; omega)) | (with_reducible refine And.intro ?_ ?_; · omega) | simp -dsimp -implicitDefEqProofs (disch := omega) only [VCA, ↓reduceIte, bT])
     exact ⟨U2 (headD d' n') x.2.1, ⟨rN3, d3, k3, sl3, by rw [List.map_append, List.map_cons, List.map_nil, backM_app, hM]; exact if_pos hf, E3, hd3, by rw [List.length_append]; exact U.undo hs (by omega) hf⟩⟩
    ·obtain ⟨_, rfl⟩ := hR3.resolve_right (fun q => hf q.1)
     have bF : decide (Y3 (headD d' n') x.2.1) = false := decide_eq_false hf
     repeat' (first | ((with_reducible refine brC (fun _ => ?_) fun _ => ?_) <;> try (exfalso; omega)) | (with_reducible refine And.intro ?_ ?_; · omega) | simp -dsimp -implicitDefEqProofs (disch := omega) only [VCA, Nat.reduceEqDiff, Nat.reduceAdd, Nat.reduceLT, ↓reduceIte, X4, Y0, Z0, exists_eq_left', bF, e4, e5, j2, j3, n1, n2])
     exact ⟨by rw [List.map_append, List.map_cons, List.map_nil, backM_app, hM]; exact if_neg hf, ((Sh.upd (Sh.none hr11)).upd hr4).upd hr5.2⟩
   ·rintro h' ⟨D, rN', d', n', sl2, hM, E, rfl, U⟩
    have g9 := E.dw.sub _ _ gB9
    have e4 := E.dw.sub _ _ gB4
    have e5 := E.dw.sub _ _ gB5
    have gU := E.un
    have Sh := SB.trans E.dw.sub
    have hCk : DCalls (Pg G) 47 [.agg [.osl rN' 6 0 n', .bool d'.quirks]] h' (fun r h2 => r = Q7 (T6 (headD d' n')) /\ h2 = h') := DCalls.bor (check_ok (G := G) (headD d' n') U.sm) (.int _ _) (.cons (Vw.agg' (.cons (E.dw.vwH E.le) (.cons (.refl _) .nil))) .nil)
    have hB2 := bkM_map l l.length (Nat.le_refl _)
    rw [List.take_length] at hB2
    rw [hB2] at hM
    by_cases hC : T6 (headD d' n') = 0
    ·have uE : QV d l = 0 := by unfold QV; rw [if_neg (by simpa using h0), if_neg h40, hM]; simp [hC]
     have uR : QW d l = headD d' n' := by unfold QW; rw [uE, if_pos rfl, hM]; rfl
     rw [uE, uR]
     rw [hC] at hCk
     repeat' (first | ((with_reducible refine brC (fun _ => ?_) fun _ => ?_) <;> try (exfalso; omega)) | ((refine DCalls.of hCk ?_; rintro _ _ ⟨rfl, rfl⟩)) | (with_reducible refine And.intro ?_ ?_; · omega) | simp -dsimp -implicitDefEqProofs (disch := omega) only [VCA, Nat.reduceEqDiff, Nat.reduceAdd, Nat.reduceLT, ↓reduceIte, Z0, exists_eq_left', g9, gU, e4, e5, n1, n2])
     have nX : ∀ r o, hB r = some o -> r ∉ [re] := fun r o hr hm => by
      have hm : r = re := by simpa using hm
      rw [hm, E.new] at hr; cases hr
     have S5 : Sub (upd h r5 (some ⟨.t 28, 1, [[.int .i64 0]]⟩)) hB := fun t ob ht => by
      by_cases q : t = r5
      ·subst q; rw [Q2] at ht; rw [gB5]; exact ht
      ·rw [Q1 _ _ q] at ht; exact SB t ob ht
     have B1 := E.dw.beside S5 gB4 (by rw [Q1 _ _ n1]; exact hr4) (nX _ _ gB4) ⟨.t 24, 2, [[.osl rN' 6 0 n', .bool d'.quirks]]⟩
     have B2 := B1.beside ((Sub.refl h).upd hr5.2) (Q2 _ _ _) hr5.2 (nX _ _ gB5) ⟨.t 28, 1, [[.int .i64 0]]⟩
     exact ⟨_, Sub.refl _, (Sh.upd hr4).upd hr5.2, .tup' (.cons (Vw.agg' (.cons (B2.new'.vwH E.le) (.cons (.refl _) .nil))) (.cons (.refl _) .nil))⟩
    ·have uE : QV d l = 9 := by unfold QV; rw [if_neg (by simpa using h0), if_neg h40, hM]; simp [hC]
     have uR : QW d l = QK := by unfold QW; rw [uE]; rfl
     rw [uE, uR]
     have bC : (T6 (headD d' n') != 0) = true := by simpa using hC
     repeat' (first | ((with_reducible refine brC (fun _ => ?_) fun _ => ?_) <;> try (exfalso; omega)) | ((refine DCalls.of hCk ?_; rintro _ _ ⟨rfl, rfl⟩)) | (with_reducible refine And.intro ?_ ?_; · omega) | simp -dsimp -implicitDefEqProofs (disch := omega) only [VCA, Nat.reduceEqDiff, Nat.reduceAdd, Nat.reduceLT, ↓reduceIte, X4, Y0, Z0, exists_eq_left', g9, gU, e4, e5, n1, n2, bC])
     exact ⟨_, Sub.refl _, (Sh.upd hr4).upd hr5.2, .tup' (.cons (K7 _) (.cons (.refl _) .nil))⟩
   ·rintro ex pre h' hne hp ⟨rfl, hM, e4, e5, Sh⟩
    have uB : YU d l.reverse = none := by
     obtain ⟨q, hq⟩ := hp
     have := bkM_map l l.length (Nat.le_refl _)
     rw [List.take_length] at this
     rw [<- this, <- hq, List.map_append]
     exact backM_none _ _ _ hM
    have uE : QV d l = 9 := by unfold QV; rw [if_neg (by simpa using h0), if_neg h40, uB]
    have uR : QW d l = QK := by unfold QW; rw [uE]; rfl
    rw [uE, uR]
    repeat' (first | ((with_reducible refine brC (fun _ => ?_) fun _ => ?_) <;> try (exfalso; omega)) | (with_reducible refine And.intro ?_ ?_; · omega) | simp -dsimp -implicitDefEqProofs (disch := omega) only [VCA, Nat.reduceEqDiff, Nat.reduceAdd, Nat.reduceLT, ↓reduceIte, exists_eq_left', e4, e5])
    exact ⟨_, Sub.refl _, Sh, .tup' (.cons (K7 _) (.cons (.refl _) .nil))⟩
   ·refine ⟨fun pre h' h'' ⟨D, rN', d', n', sl2, hM, E, hD, U⟩ _ hk => ⟨D, rN', d', n', sl2, hM, E.strp SR hk, hD, U⟩, fun ex pre h' h'' ⟨q1, q2, q3, q4, q5⟩ _ hk => ⟨q1, q2, hk _ _ q3 (.inl rfl), hk _ _ q4 (.inl rfl), fun r o hr => hk r o (q5 r o hr) (.inr (SR _ _ (SB r o hr)))⟩⟩
 ·have uE : QV d l = T6 d := by unfold QV; rw [if_pos h0]
  have uR : QW d l = QK := by unfold QW; rw [uE, if_neg h0]
  rw [uE, uR]
  refine DCalls.of (allnil_own d sm hb) ?_
  intro a h2 hK
  rw [if_neg h0] at hK
  obtain ⟨rfl, rfl⟩ := hK
  have b0 : (T6 d == 0) = false := by simpa using h0
  have b1 : (T6 d != 0) = true := by simpa using h0
  repeat' (first | ((with_reducible refine brC (fun _ => ?_) fun _ => ?_) <;> try (exfalso; omega)) | (with_reducible refine And.intro ?_ ?_; · omega) | simp -dsimp -implicitDefEqProofs (disch := omega) only [↓Q0 20, VCA, Nat.reduceEqDiff, Nat.reduceAdd, Nat.reduceLT, ↓reduceIte, X4, Y0, Z0, exists_eq_left', b0, b1, gb4, gb5])
  intro r6 hr6
  have n3 : ¬ r4 = r6 := fun q => by rw [<- q, gb4] at hr6; cases hr6
  have n4 : ¬ r5 = r6 := fun q => by rw [<- q, gb5] at hr6; cases hr6
  have n5 : ¬ r6 = r4 := fun q => n3 q.symm
  have n6 : ¬ r6 = r5 := fun q => n4 q.symm
  repeat' (first | ((with_reducible refine brC (fun _ => ?_) fun _ => ?_) <;> try (exfalso; omega)) | (with_reducible refine And.intro ?_ ?_; · omega) | simp -dsimp -implicitDefEqProofs (disch := omega) only [VCA, Nat.reduceAdd, Nat.reduceLT, ↓reduceIte, exists_eq_left', n1, n2, n3, n4])
  exact ⟨_, Sub.refl _, ((Sb.upd (Sb.none hr6)).upd hr4).upd hr5.2, .tup' (.cons (K7 _) (.cons (.refl _) .nil))⟩
theorem undo_text (d : HDoc) (sm : DocSm d) (l : List HStep) (hl : ∀ s ∈ l, StepSm s) (ll : l.length <= 1073741824) (h3 : ∀ s ∈ l, s.edit.do' = 3) : PCalls (Pg G) 16 [.agg (Z2 d), sl Z9 l] (.tup [.agg (Z2 (QW d l)), Q7 (QV d l)]) :=
 undo_ok_of d sm l hl ll fun s hs => undone_text s (hl s hs) (h3 s hs)
theorem idx_put {l : List Int} {i : Nat} {t : Int} (hi : i <= l.length) (ht : t ∉ l) : U1 (· == t) (l.take i ++ t :: l.drop i) = i := by
 refine idxM_some (by rw [ins_len l i t hi]; omega) (fun j hj => ?_) ?_
 ·rw [ins_nth l i t hi, if_pos hj]
  have : nth l j ≠ t := fun e => ht (e ▸ W5 (by omega))
  simpa using this
 ·rw [ins_nth l i t hi, if_neg (by omega), if_pos rfl]; simp
theorem ins_room {d : HDoc} (V : DV d) {e : HEdit} (h5 : e.do' = 5) (h0 : ZZ d e = 0) : roomM d e.at' = (nd d e.at').kids.length /\ (e.before = -1 -> U7 d e = roomM d e.at') /\ (e.before ≠ -1 -> 0 <= e.before /\ (U7 d e : Int) = U1 (· == e.before) (nd d e.at').kids) := by
 obtain ⟨_, _, ha, ht⟩ := errR_at h0 (by omega)
 have ht := ht h5
 obtain ⟨_, hb⟩ := errR_5z h5 ha ht h0
 rw [errR_5 h5 ha ht] at h0
 have hk : ¬ 2 < (nd d e.at').kind := fun h => by rw [if_pos (.inl h)] at h0; omega
 have hr : roomM d e.at' = (nd d e.at').kids.length := by unfold roomM; rw [if_neg (by omega)]
 refine ⟨hr, fun h => by unfold U7; rw [if_pos h, hr], fun h => ?_⟩
 have hi : 0 <= U1 (· == e.before) (nd d e.at').kids := by
  apply Classical.byContradiction; intro hh
  exact hb ⟨h, by omega⟩
 have hm := (UK _ _).1 hi
 refine ⟨(V.kid _ ha _ hm).1.1, ?_⟩
 unfold U7; rw [if_neg h]; omega
def c152 : SFun := ⟨.seq (.reg [o 2 (.boxF 96 2 (.t 0)), o 3 (.mv (.c (.bool false)))]) (.seq (.reg [o 4 (.fldA 0 (.t 2)), o 5 (.ld 1 false (.t 4)), o 6 (.ld 1 false (.t 1)), o 7 (.bin .eql (.t 5) (.t 6)), o 3 (.mv (.t 7))]) .ret), [.tmp 3]⟩
theorem hc152 : X6 Tryz.prog {} Tryz.f152 = some c152 := by kernel_rfl
theorem place1_ok (name : List UInt8) (a : HAttr) : PCalls (Pg G) 152 [.agg (Z7 a), .pin [.str name]] (.bool (a.name == name)) := fun h => by
 refine Q4 Tryz.func152 (by kernel_rfl) hc152 (by rw [Tryz.ntmps152]; simp) (by rw [Tryz.ntmps152]; decide) ?_
 simp -dsimp -implicitDefEqProofs (disch := omega) only [VCA, Nat.reduceEqDiff, Nat.reduceAdd, Nat.reduceLeDiff, ↓reduceIte, exists_eq_right, c152, Z7]
 exact Sub.refl _
def c113 : SFun := ⟨.seq (.reg [o 3 (.boxF 9 1 (.t 1)), o 4 (.mv (.c (.int .i64 0)))]) (.seq (.reg [o 5 (.mv (.t 0)), o 6 (.mkf 152 [] [.t 3]), o 7 (.call (.c (.fn 151 [] [])) [.t 5, .t 6]), o 4 (.mv (.t 7))]) .ret), [.tmp 4]⟩
theorem hc113 : X6 Tryz.prog {} Tryz.f113 = some c113 := by kernel_rfl
theorem rplace_ok (l : List HAttr) (name : List UInt8) (hl : l.length <= 1073741824) : PCalls (Pg G) 113 [sl Z7 l, .str name] (Q7 (Z4 l name)) := fun h => by
 refine Q4 Tryz.func113 (by kernel_rfl) hc113 (by rw [Tryz.ntmps113]; simp) (by rw [Tryz.ntmps113]; decide) ?_
 simp -dsimp -implicitDefEqProofs (disch := omega) only [VCA, Nat.reduceEqDiff, ↓reduceIte, reduceCtorEq, c113]
 refine DCalls.of (indexFA_ok l 152 [] [.pin [.str name]] (fun a => a.name == name) hl fun x => place1_ok name x h) ?_
 rintro r h' ⟨rfl, rfl⟩
 simp -dsimp -implicitDefEqProofs (disch := omega) only [VCA, ↓reduceIte, exists_eq_right_right]
 exact ⟨Sub.refl _, rfl⟩
def attrM (x : HNode) (s : HStep) : HStep := if 0 <= Z4 x.attrs s.edit.name then { s with had := true, was := (nth x.attrs (Z4 x.attrs s.edit.name).toNat).value, place := Z4 x.attrs s.edit.name } else s
def c79 : SFun := ⟨.seq (.reg [o 2 (.boxF 40 6 (.t 0))]) (.seq (.dreg [(o 5 (.fldA 2 (.t 2)), none), (o 6 (.ld 1 false (.t 5)), none), (o 7 (.mv (.t 1)), none), (o 8 (.fldA 0 (.t 7)), none), (o 9 (.fldA 0 (.t 8)), none), (o 10 (.fldA 4 (.t 9)), none), (o 11 (.ld 1 false (.t 10)), none), (o 12 (.pcall 113 [.t 6, .t 11]), none), (o 4 (.mv (.t 12)), none)]) (.seq (.reg [o 13 (.mv (.t 4)), o 14 (.bin .geq (.t 13) (.c (.int .i64 0)))]) (.cond (.t 14) (.reg [o 15 (.mv (.t 1)), o 16 (.mv (.t 1)), o 17 (.mv (.t 1)), o 18 (.fldA 2 (.t 2)), o 19 (.ld 1 false (.t 18)), o 20 (.mv (.t 4)), o 21 (.idxA 2 (.t 19) (.t 20)), o 22 (.fldA 1 (.t 21)), o 23 (.ld 1 false (.t 22)), o 24 (.mv (.t 4)), o 25 (.fldA 0 (.t 15)), o 26 (.fldA 12 (.t 25)), ⟨none, .st 1 (.t 26) (.c (.bool true)), none⟩, o 27 (.fldA 0 (.t 16)), o 28 (.fldA 13 (.t 27)), ⟨none, .st 1 (.t 28) (.t 23), none⟩, o 29 (.fldA 0 (.t 17)), o 30 (.fldA 15 (.t 29)), ⟨none, .st 1 (.t 30) (.t 24), none⟩]) .skip))), []⟩
theorem hc79 : X6 Tryz.prog {pure := [113]} Tryz.f79 = some c79 := by kernel_rfl
theorem attribute_ok {h : Q3} (x : HNode) (hx : NodeSm x) (s : HStep) (r : Nat) (hr : h r = some ⟨.t 44, 16, [Z9 s]⟩) : DCalls (Pg G) 79 [.agg (Q9 x), .vp r 0] h fun a h' => h' = upd h r (some ⟨.t 44, 16, [Z9 (attrM x s)]⟩) := by
 have hP := rplace_ok (G := G) x.attrs s.edit.name hx.attrs
 have lx := hx.attrs
 unfold attrM
 refine Q4 Tryz.func79 (by kernel_rfl) hc79 (by rw [Tryz.ntmps79]; simp) (by rw [Tryz.ntmps79]; decide) ?_
 by_cases h1 : 0 <= Z4 x.attrs s.edit.name
 ·rw [if_pos h1]
  obtain ⟨g1, g2, g3⟩ := T0 x.attrs s.edit.name h1
  generalize Z4 x.attrs s.edit.name = q at *
  simp -dsimp -implicitDefEqProofs (disch := omega) only [VCA, Nat.reduceEqDiff, Nat.reduceAdd, Nat.reduceLT, Nat.reduceLeDiff, ↓reduceIte, J6, Q5, exists_eq_left', Z8, c79, Q9, hr, Z9]
  repeat' (first | ((with_reducible refine brC (fun _ => ?_) fun _ => ?_) <;> try (exfalso; omega)) | (with_reducible apply pcallE.of; · exact hP) | (with_reducible refine And.intro ?_ ?_; · omega) | simp -dsimp -implicitDefEqProofs (disch := omega) only [VCA, Nat.reduceEqDiff, Nat.reduceAdd, Nat.reduceLT, Nat.reduceLeDiff, ↓reduceIte, J6, Q5, Z0, exists_eq_right, exists_eq_left', Z8, hr, Z9, Z7])
  exact Sub.refl _
 ·rw [if_neg h1]
  generalize Z4 x.attrs s.edit.name = q at *
  simp -dsimp -implicitDefEqProofs (disch := omega) only [VCA, Nat.reduceEqDiff, Nat.reduceAdd, Nat.reduceLT, Nat.reduceLeDiff, ↓reduceIte, J6, Q5, exists_eq_left', Z8, c79, Q9, hr, Z9]
  repeat' (first | ((with_reducible refine brC (fun _ => ?_) fun _ => ?_) <;> try (exfalso; omega)) | (with_reducible apply pcallE.of; · exact hP) | (with_reducible refine And.intro ?_ ?_; · omega) | simp -dsimp -implicitDefEqProofs (disch := omega) only [VCA, ↓reduceIte, J6, Q5, exists_eq_right, Z8])
  have hu := upd_id hr
  unfold Z9 at hu
  rw [hu]
  exact Sub.refl _
theorem rplace_own {h : Q3} {l : List HAttr} {a : AVal} (O : OwnS h 96 2 (l.map Z7) a) (name : List UInt8) (hl : l.length <= 1073741824) : DCalls (Pg G) 113 [a, .str name] h fun r h' => r = Q7 (Z4 l name) /\ h' = h :=
 DCalls.bor (rplace_ok (G := G) l name hl) (.int _ _) (.cons O.vw (.cons (.refl _) .nil))
theorem set_head {d : HDoc} {n : Nat} {m : Int} {x : HNode} : headD ⟨d.nodes.set m.toNat x, d.quirks⟩ n = setN (headD d n) m x := head_setN
def c83 : SFun := ⟨.seq (.reg [o 3 (.boxF 44 16 (.t 1)), o 4 (.mv (.c (.bool false)))]) (.seq (.reg [o 7 (.mv (.t 0)), o 8 (.fldA 0 (.t 3)), o 9 (.fldA 1 (.t 8)), o 10 (.ld 1 false (.t 9)), o 11 (.call (.c (.fn 114 [] [])) [.t 7, .t 10]), o 5 (.mv (.t 11))]) (.seq (.seq (.reg [o 12 (.mv (.t 5)), o 13 (.isnil 1 false (.t 12))]) (.cond (.t 13) (.seq (.reg [o 4 (.mv (.c (.bool false)))]) .ret) .skip)) (.seq (.dreg [(o 14 (.mv (.t 5)), none), (o 15 (.fldA 0 (.t 14)), none), (o 16 (.fldA 2 (.t 15)), none), (o 17 (.ld 1 false (.t 16)), none), (o 18 (.fldA 0 (.t 3)), none), (o 19 (.fldA 4 (.t 18)), none), (o 20 (.ld 1 false (.t 19)), none), (o 21 (.call (.c (.fn 113 [] [])) [.t 17, .t 20]), (some [17, 20])), (o 6 (.mv (.t 21)), none)]) (.seq (.block 0 (.seq (.reg [o 23 (.mv (.t 6)), o 24 (.bin .geq (.t 23) (.c (.int .i64 0))), o 25 (.mv (.t 24)), ⟨some 26, .fldA 12 (.t 3), some (25, true)⟩, ⟨some 27, .ld 1 false (.t 26), some (25, true)⟩, o 28 (.pick (.t 25) (.t 27) (.c (.bool false))), o 22 (.mv (.t 28))]) (.cond (.t 22) (.seq (.dreg [(o 29 (.mv (.t 5)), none), (o 30 (.fldA 0 (.t 29)), none), (o 31 (.fldA 2 (.t 30)), none), (o 32 (.ld 1 false (.t 31)), none), (o 33 (.mv (.t 6)), none), (o 34 (.fldA 13 (.t 3)), none), (o 35 (.ld 1 false (.t 34)), none), (o 36 (.idxA 2 (.t 32) (.t 33)), none), (o 37 (.fldA 1 (.t 36)), none), (⟨none, .st 1 (.t 37) (.t 35), none⟩, (some [32, 35]))]) (.seq (.reg [o 4 (.mv (.c (.bool true)))]) .ret)) (.seq (.reg [o 39 (.mv (.t 6)), o 40 (.bin .geq (.t 39) (.c (.int .i64 0))), o 41 (.mv (.t 40)), ⟨some 42, .mv (.t 6), some (41, true)⟩, ⟨some 43, .mv (.t 5), some (41, true)⟩, ⟨some 44, .fldA 0 (.t 43), some (41, true)⟩, ⟨some 45, .fldA 2 (.t 44), some (41, true)⟩, ⟨some 46, .ld 1 false (.t 45), some (41, true)⟩, ⟨some 47, .len (.t 46), some (41, true)⟩, ⟨some 48, .bin .sub (.t 47) (.c (.int .i64 1)), some (41, true)⟩, ⟨some 49, .bin .eql (.t 42) (.t 48), some (41, true)⟩, o 50 (.pick (.t 41) (.t 49) (.c (.bool false))), o 38 (.mv (.t 50))]) (.cond (.t 38) (.seq (.reg [o 51 (.mv (.t 5)), o 52 (.mv (.t 5)), o 53 (.fldA 0 (.t 52)), o 54 (.fldA 2 (.t 53)), o 55 (.ld 1 false (.t 54)), o 56 (.mv (.t 6)), o 57 (.slA 2 (.t 55) none (some (.t 56))), o 58 (.fldA 0 (.t 51)), o 59 (.fldA 2 (.t 58)), ⟨none, .st 1 (.t 59) (.t 57), none⟩]) (.seq (.reg [o 4 (.mv (.c (.bool true)))]) .ret)) .skip))))) (.seq (.reg [o 4 (.mv (.c (.bool false)))]) .ret))))), [.tmp 4]⟩
theorem hc83 : X6 Tryz.prog {} Tryz.f83 = some c83 := by kernel_rfl
theorem uattr_ok {h0 h : Q3} {re rN : Nat} {d : HDoc} {n : Nat} {sl : Nat -> AVal} (E : Un h0 h re rN d n sl) (hn : n <= 100000) (sm : DocSm (headD d n)) (s : HStep) (hs : StepSm s) (hdo : s.edit.do' = 1) : DCalls (Pg G) 83 [.vp re 0, .agg (Z9 s)] h (UnR h0 h re (headD d n) s) := by
 have gN := E.dw.nodes
 have le := E.le
 have hE := unode_ok (G := G) E hn s.edit.at'
 unfold nodeU at hE
 have eF : Y3 (headD d n) s ↔ (0 <= s.edit.at' /\ s.edit.at' < n) /\ 0 <= Z4 (nd (headD d n) s.edit.at').attrs s.edit.name /\ (s.had = true \/ Z4 (nd (headD d n) s.edit.at').attrs s.edit.name = ((nd (headD d n) s.edit.at').attrs.length : Int) - 1) := by
  unfold Y3; rw [if_pos hdo, inD_head le]
 have eD : U2 (headD d n) s = setN (headD d n) s.edit.at' { nd (headD d n) s.edit.at' with attrs := if s.had = true then (nd (headD d n) s.edit.at').attrs.set (Z4 (nd (headD d n) s.edit.at').attrs s.edit.name).toNat ⟨s.edit.name, s.was⟩ else (nd (headD d n) s.edit.at').attrs.take (Z4 (nd (headD d n) s.edit.at').attrs s.edit.name).toNat } := by unfold U2; rw [if_pos hdo]
 refine Q4 Tryz.func83 (by kernel_rfl) hc83 (by rw [Tryz.ntmps83]; simp) (by rw [Tryz.ntmps83]; decide) ?_
 simp -dsimp -implicitDefEqProofs (disch := omega) only [VCA, Nat.reduceEqDiff, Nat.reduceAdd, Nat.reduceLeDiff, ↓reduceIte, reduceCtorEq, c83, Z9]
 by_cases hm : 0 <= s.edit.at' /\ s.edit.at' < n
 ·rw [if_pos hm] at hE
  have hn' : s.edit.at'.toNat < d.nodes.length := by omega
  have gk := Y2 (sl := sl) hn'
  have rl := Y5 d sl
  have nh : nd (headD d n) s.edit.at' = nd d s.edit.at' := nd_head (by omega)
  have e0 : nth d.nodes s.edit.at'.toNat = nd d s.edit.at' := rfl
  have al := (sm.nd s.edit.at').attrs
  rw [e0] at gk
  rw [nh] at eF eD al
  obtain ⟨oA, oK⟩ := E.dw.own _ hn'
  rw [e0] at oA
  have oL := oA.len.1
  have oL2 := oA.len.2
  rw [List.length_map] at oL
  have hP := rplace_own (G := G) oA s.edit.name al
  have lv := E.live (2 * s.edit.at'.toNat) (by omega)
  unfold X1 at gk
  by_cases hi0 : 0 <= Z4 (nd d s.edit.at').attrs s.edit.name
  ·obtain ⟨g1, g2, g3⟩ := T0 _ _ hi0
   rcases oA.live lv with ⟨q, _⟩ | ⟨r, es, ha, hr, hl, ht⟩
   ·have : (nd d s.edit.at').attrs = [] := by simpa using q
    rw [this] at g1; simp at g1
   rw [List.length_map] at ha hl ht
   have IA := fun h1 l' => E.inA hn' (h1 := h1) (l' := l')
   have SA := fun h1 a' l' => E.slotA hn' (h1 := h1) (a' := a') (l' := l')
   have hnr : ¬ rN = r := fun h => (E.root_ne (k := 2 * s.edit.at'.toNat) (by omega) (by rw [ha]; rfl)).1 h.symm
   have gi := ZU ht g1
   have ga : Z7 (nth (nd d s.edit.at').attrs (Z4 (nd d s.edit.at').attrs s.edit.name).toNat) = [.str s.edit.name, .str (nth (nd d s.edit.at').attrs (Z4 (nd d s.edit.at').attrs s.edit.name).toNat).value] := by unfold Z7; rw [g2]
   rw [ga] at gi
   rw [ha] at gk hP IA SA oL oL2
   rw [<- g3] at hP
   rw [e0] at SA
   have hi4 : Z4 (nd d s.edit.at').attrs s.edit.name = ((Z4 (nd d s.edit.at').attrs s.edit.name).toNat : Int) := by omega
   rw [hi4] at eF
   generalize (Z4 (nd d s.edit.at').attrs s.edit.name).toNat = i at *
   by_cases hw : s.had = true
   ·have hb : Y3 (headD d n) s := eF.2 ⟨hm, by omega, .inl hw⟩
    rw [if_pos hw] at eD
    refine DCalls.of hE ?_
    rintro _ hh ⟨rfl, rfl⟩
    repeat' (first | ((with_reducible refine brC (fun _ => ?_) fun _ => ?_) <;> try (exfalso; omega)) | ((refine DCalls.of hP ?_; rintro _ hh ⟨rfl, rfl⟩)) | (with_reducible refine And.intro ?_ ?_; · omega) | simp -dsimp -implicitDefEqProofs (disch := omega) only [↓Q0 25, VCA, Nat.reduceEqDiff, Nat.reduceBEq, Nat.reduceAdd, Nat.reduceLeDiff, ↓reduceIte, J6, Q5, SOp.rd, SI.rd, SX.rd, rdL, Z0, implies_true, exists_eq_left', Z8, gN, gk, rl, hw, hr, gi])
    have hO : OwnS (upd hh r (some ⟨.t 96, 2, es.set i [.str s.edit.name, .str s.was]⟩)) 96 2 (((nd d s.edit.at').attrs.set i ⟨s.edit.name, s.was⟩).map Z7) (.osl r 2 0 (nd d s.edit.at').attrs.length) :=
     .inr (.inr ⟨r, _, by rw [List.length_map, List.length_set], Q2 _ _ _, by rw [List.length_map, List.length_set, List.length_set]; exact hl, by
      rw [List.length_map, List.length_set, List.take_set, ht, List.map_set]; rfl⟩)
    exact ⟨_, Sub.refl _, UnR.good hb (IA _ ((nd d s.edit.at').attrs.set i ⟨s.edit.name, s.was⟩) (fun t o ho hne => by rw [Q1 _ _ (fun e => hne (by rw [e]; rfl))]; exact ho) hO) (by rw [eD]; exact set_head)⟩
   ·have hw' : s.had = false := by simpa using hw
    by_cases hq : (i : Int) = ((nd d s.edit.at').attrs.length : Int) - 1
    ·have hb : Y3 (headD d n) s := eF.2 ⟨hm, by omega, .inr hq⟩
     rw [if_neg hw] at eD
     refine DCalls.of hE ?_
     rintro _ hh ⟨rfl, rfl⟩
     repeat' (first | ((with_reducible refine brC (fun _ => ?_) fun _ => ?_) <;> try (exfalso; omega)) | ((refine DCalls.of hP ?_; rintro _ hh ⟨rfl, rfl⟩)) | (with_reducible refine And.intro ?_ ?_; · omega) | simp -dsimp -implicitDefEqProofs (disch := omega) only [↓Q0 25, ↓Q0 41, VCA, Nat.reduceEqDiff, Nat.reduceBEq, Nat.reduceAdd, Nat.reduceLeDiff, ↓reduceIte, J6, Q5, SOp.rd, SI.rd, SX.rd, rdL, Z0, implies_true, exists_eq_left', Z8, gN, gk, rl, oL, oL2, hw'])
     have hO : OwnS hh 96 2 (((nd d s.edit.at').attrs.take i).map Z7) (.osl r 2 0 i) :=
      .inr (.inr ⟨r, es, by rw [List.length_map, List.length_take, Nat.min_eq_left (by omega)], hr, by rw [List.length_map, List.length_take]; omega, by
       rw [List.length_map, List.length_take, Nat.min_eq_left (by omega), List.map_take, <- ht, List.take_take, Nat.min_eq_left (by omega)]⟩)
     exact ⟨_, Sub.refl _, UnR.good hb (SA hh (.osl r 2 0 i) ((nd d s.edit.at').attrs.take i) (fun t o ho _ => ho) hO (fun es e => by cases e) (fun t ht => by cases ht; exact .inl rfl)) (by rw [eD]; exact set_head)⟩
    ·have hb : ¬ Y3 (headD d n) s := fun h => by
      rcases (eF.1 h).2.2 with q | q
      ·exact hw q
      ·exact hq q
     refine DCalls.of hE ?_
     rintro _ hh ⟨rfl, rfl⟩
     repeat' (first | ((with_reducible refine brC (fun _ => ?_) fun _ => ?_) <;> try (exfalso; omega)) | ((refine DCalls.of hP ?_; rintro _ hh ⟨rfl, rfl⟩)) | (with_reducible refine And.intro ?_ ?_; · omega) | simp -dsimp -implicitDefEqProofs (disch := omega) only [↓Q0 25, ↓Q0 41, VCA, Nat.reduceEqDiff, Nat.reduceBEq, Nat.reduceAdd, Nat.reduceLeDiff, ↓reduceIte, J6, Q5, SOp.rd, SI.rd, SX.rd, rdL, implies_true, exists_eq_left', Z8, gN, gk, rl, oL, oL2, hw'])
     all_goals first | (exfalso; omega) | exact ⟨_, Sub.refl _, UnR.bad hb⟩ | trace_state
  ·have hb : ¬ Y3 (headD d n) s := fun h => hi0 (eF.1 h).2.1
   refine DCalls.of hE ?_
   rintro _ hh ⟨rfl, rfl⟩
   repeat' (first | ((with_reducible refine brC (fun _ => ?_) fun _ => ?_) <;> try (exfalso; omega)) | ((refine DCalls.of hP ?_; rintro _ hh ⟨rfl, rfl⟩)) | (with_reducible refine And.intro ?_ ?_; · omega) | simp -dsimp -implicitDefEqProofs (disch := omega) only [↓Q0 25, ↓Q0 41, VCA, Nat.reduceEqDiff, Nat.reduceBEq, Nat.reduceAdd, Nat.reduceLeDiff, ↓reduceIte, J6, Q5, SOp.rd, SI.rd, SX.rd, rdL, implies_true, exists_eq_left', Z8, gN, gk, rl])
   all_goals first | (exfalso; omega) | exact ⟨_, Sub.refl _, UnR.bad hb⟩ | trace_state
 ·rw [if_neg hm] at hE
  have hb : ¬ Y3 (headD d n) s := fun h => hm (eF.1 h).1
  refine DCalls.of hE ?_
  rintro _ hh ⟨rfl, rfl⟩
  repeat' (first | ((with_reducible refine brC (fun _ => ?_) fun _ => ?_) <;> try (exfalso; omega)) | (with_reducible refine And.intro ?_ ?_; · omega) | simp -dsimp -implicitDefEqProofs (disch := omega) only [VCA, ↓reduceIte])
  all_goals exact ⟨_, Sub.refl _, UnR.bad hb⟩
theorem Un.pop {h0 h : Q3} {re rN : Nat} {d : HDoc} {n : Nat} {sl : Nat -> AVal} (E : Un h0 h re rN d n sl) : Un h0 (upd h re (some ⟨.t 79, 2, [[.osl rN 6 0 (n - 1), .bool d.quirks]]⟩)) re rN d (n - 1) sl :=
 ⟨E.dw.other (by simp) E.new _, Q2 _ _ _, E.new, E.live, by have := E.le; omega⟩
def c86 : SFun := ⟨.seq (.reg [o 3 (.boxF 44 16 (.t 1)), o 4 (.mv (.c (.bool false)))]) (.seq (.reg [o 6 (.mv (.t 0)), o 7 (.fldA 0 (.t 6)), o 8 (.fldA 0 (.t 7)), o 9 (.fldA 0 (.t 8)), o 10 (.ld 1 false (.t 9)), o 11 (.len (.t 10)), o 12 (.bin .sub (.t 11) (.c (.int .i64 1))), o 5 (.mv (.t 12))]) (.seq (.seq (.reg [o 13 (.fldA 15 (.t 3)), o 14 (.ld 1 false (.t 13)), o 15 (.mv (.t 5)), o 16 (.bin .neq (.t 14) (.t 15)), o 17 (.mv (.t 16)), ⟨some 18, .mv (.t 5), some (17, false)⟩, ⟨some 19, .bin .lss (.t 18) (.c (.int .i64 1)), some (17, false)⟩, o 20 (.pick (.t 17) (.c (.bool true)) (.t 19)), o 21 (.mv (.t 20)), ⟨some 22, .mv (.t 0), some (21, false)⟩, ⟨some 23, .fldA 0 (.t 22), some (21, false)⟩, ⟨some 24, .fldA 0 (.t 23), some (21, false)⟩, ⟨some 25, .fldA 0 (.t 24), some (21, false)⟩, ⟨some 26, .ld 1 false (.t 25), some (21, false)⟩, ⟨some 27, .mv (.t 5), some (21, false)⟩, ⟨some 28, .idxA 6 (.t 26) (.t 27), some (21, false)⟩, ⟨some 29, .fldA 4 (.t 28), some (21, false)⟩, ⟨some 30, .ld 1 false (.t 29), some (21, false)⟩, ⟨some 31, .bin .neq (.t 30) (.c (.int .i64 (-1))), some (21, false)⟩, o 32 (.pick (.t 21) (.c (.bool true)) (.t 31)), o 33 (.mv (.t 32)), ⟨some 34, .mv (.t 0), some (33, false)⟩, ⟨some 35, .fldA 0 (.t 34), some (33, false)⟩, ⟨some 36, .fldA 0 (.t 35), some (33, false)⟩, ⟨some 37, .fldA 0 (.t 36), some (33, false)⟩, ⟨some 38, .ld 1 false (.t 37), some (33, false)⟩, ⟨some 39, .mv (.t 5), some (33, false)⟩, ⟨some 40, .idxA 6 (.t 38) (.t 39), some (33, false)⟩, ⟨some 41, .fldA 5 (.t 40), some (33, false)⟩, ⟨some 42, .ld 1 false (.t 41), some (33, false)⟩, ⟨some 43, .len (.t 42), some (33, false)⟩, ⟨some 44, .bin .gtr (.t 43) (.c (.int .i64 0)), some (33, false)⟩, o 45 (.pick (.t 33) (.c (.bool true)) (.t 44))]) (.cond (.t 45) (.seq (.reg [o 4 (.mv (.c (.bool false)))]) .ret) .skip)) (.seq (.reg [o 46 (.mv (.t 0)), o 47 (.mv (.t 0)), o 48 (.fldA 0 (.t 47)), o 49 (.fldA 0 (.t 48)), o 50 (.fldA 0 (.t 49)), o 51 (.ld 1 false (.t 50)), o 52 (.mv (.t 5)), o 53 (.slA 6 (.t 51) none (some (.t 52))), o 54 (.fldA 0 (.t 46)), o 55 (.fldA 0 (.t 54)), o 56 (.fldA 0 (.t 55)), ⟨none, .st 1 (.t 56) (.t 53), none⟩]) (.seq (.reg [o 4 (.mv (.c (.bool true)))]) .ret)))), [.tmp 4]⟩
theorem hc86 : X6 Tryz.prog {} Tryz.f86 = some c86 := by kernel_rfl
theorem umade_ok {h0 h : Q3} {re rN : Nat} {d : HDoc} {n : Nat} {sl : Nat -> AVal} (E : Un h0 h re rN d n sl) (hn : n <= 100000) (s : HStep) (hdo : s.edit.do' = 4) : DCalls (Pg G) 86 [.vp re 0, .agg (Z9 s)] h (UnR h0 h re (headD d n) s) := by
 have gN := E.dw.nodes
 have gU := E.un
 have ner := E.ne
 have le := E.le
 have hl := JU le
 have eF : Y3 (headD d n) s ↔ s.place = (n : Int) - 1 /\ 2 <= n /\ (nd (headD d n) ((n : Int) - 1)).parent = -1 /\ (nd (headD d n) ((n : Int) - 1)).kids = [] := by
  unfold Y3; rw [if_neg (by omega), if_neg (by omega), if_neg (by omega), if_pos hdo, hl]
 have eD : U2 (headD d n) s = headD d (n - 1) := by unfold U2; rw [if_neg (by omega), if_neg (by omega), if_neg (by omega), if_pos hdo, pop_head le]
 refine Q4 Tryz.func86 (by kernel_rfl) hc86 (by rw [Tryz.ntmps86]; simp) (by rw [Tryz.ntmps86]; decide) ?_
 simp -dsimp -implicitDefEqProofs (disch := omega) only [↓Q0 17, VCA, Nat.reduceEqDiff, Nat.reduceAdd, ↓reduceIte, reduceCtorEq, c86, Z9]
 by_cases h2 : 2 <= n
 ·have hn' : ((n : Int) - 1).toNat < d.nodes.length := by omega
  have gk := Y2 (sl := sl) hn'
  have rl := Y5 d sl
  have nh : nd (headD d n) ((n : Int) - 1) = nd d ((n : Int) - 1) := nd_head (by omega)
  have e0 : nth d.nodes ((n : Int) - 1).toNat = nd d ((n : Int) - 1) := rfl
  rw [e0] at gk
  rw [nh] at eF
  obtain ⟨oA, oK⟩ := E.dw.own _ hn'
  rw [e0] at oK
  have oL := oK.len.1
  have oL2 := oK.len.2
  rw [List.length_map] at oL
  have Ep := E.pop
  have en : ((n : Int) - 1).toNat = n - 1 := by omega
  unfold X1 at gk
  by_cases hf : Y3 (headD d n) s
  ·obtain ⟨f1, f2, f3, f4⟩ := eF.1 hf
   have f5 : (nd d ((n : Int) - 1)).kids.length = 0 := by rw [f4]; rfl
   repeat' (first | ((with_reducible refine brC (fun _ => ?_) fun _ => ?_) <;> try (exfalso; omega)) | (with_reducible refine And.intro ?_ ?_; · omega) | simp -dsimp -implicitDefEqProofs (disch := omega) only [↓Q0 21, ↓Q0 33, VCA, Nat.reduceEqDiff, Nat.reduceAdd, Nat.reduceLT, Nat.reduceLeDiff, ↓reduceIte, reduceCtorEq, Z0, exists_eq_left', gN, gU, gk, rl, oL, oL2])
   all_goals try (exfalso; omega)
   rw [en]
   exact ⟨_, Sub.refl _, UnR.good hf Ep eD.symm⟩
  ·have hx : s.place = (n : Int) - 1 -> (nd d ((n : Int) - 1)).parent = -1 -> 0 < (nd d ((n : Int) - 1)).kids.length := fun q1 q2 => by
    apply Classical.byContradiction; intro q3
    exact hf (eF.2 ⟨q1, h2, q2, List.eq_nil_of_length_eq_zero (by omega)⟩)
   repeat' (first | ((with_reducible refine brC (fun _ => ?_) fun _ => ?_) <;> try (exfalso; omega)) | (with_reducible refine And.intro ?_ ?_; · omega) | simp -dsimp -implicitDefEqProofs (disch := omega) only [↓Q0 21, ↓Q0 33, VCA, Nat.reduceEqDiff, Nat.reduceAdd, Nat.reduceLT, Nat.reduceLeDiff, ↓reduceIte, reduceCtorEq, exists_eq_left', gN, gU, gk, rl, oL, oL2])
   all_goals first | (exfalso; omega) | exact ⟨_, Sub.refl _, UnR.bad hf⟩ | (exfalso; have := hx (by omega) (by omega); omega) | trace_state
 ·have hf : ¬ Y3 (headD d n) s := fun h => h2 (eF.1 h).2.1
  repeat' (first | ((with_reducible refine brC (fun _ => ?_) fun _ => ?_) <;> try (exfalso; omega)) | (with_reducible refine And.intro ?_ ?_; · omega) | simp -dsimp -implicitDefEqProofs (disch := omega) only [↓Q0 21, ↓Q0 33, VCA, Nat.reduceEqDiff, Nat.reduceAdd, Nat.reduceLT, Nat.reduceLeDiff, ↓reduceIte, exists_eq_left', gU])
  all_goals first | (exfalso; omega) | exact ⟨_, Sub.refl _, UnR.bad hf⟩ | trace_state
theorem head_set2 {d : HDoc} {n : Nat} {m1 m2 : Int} {x y : HNode} : headD ⟨(d.nodes.set m1.toNat x).set m2.toNat y, d.quirks⟩ n = setN (setN (headD d n) m1 x) m2 y := by
 show headD (setN (setN d m1 x) m2 y) n = _
 rw [head_setN, head_setN]
theorem nd_setN_ne {d : HDoc} {a t : Int} {x : HNode} (h : a.toNat ≠ t.toNat) : nd (setN d a x) t = nd d t := by
 unfold nd setN nth
 simp only [List.getD_eq_getElem?_getD, List.getElem?_set, if_neg h]
theorem nd_setN_eq {d : HDoc} {a : Int} {x : HNode} (h : a.toNat < d.nodes.length) : nd (setN d a x) a = x := by
 unfold nd setN nth
 simp only [List.getD_eq_getElem?_getD, List.getElem?_set, if_true, if_pos h]; rfl
def c87 : SFun := ⟨.seq (.reg [o 3 (.boxF 44 16 (.t 1)), o 4 (.mv (.c (.bool false)))]) (.seq (.dreg [(o 7 (.mv (.t 0)), none), (o 8 (.fldA 0 (.t 3)), none), (o 9 (.fldA 1 (.t 8)), none), (o 10 (.ld 1 false (.t 9)), none), (o 12 (.mv (.t 0)), none), (o 13 (.fldA 0 (.t 3)), none), (o 14 (.fldA 2 (.t 13)), none), (o 15 (.ld 1 false (.t 14)), none), (o 11 (.call (.c (.fn 114 [] [])) [.t 7, .t 10]), (some [10])), (o 16 (.call (.c (.fn 114 [] [])) [.t 12, .t 15]), (some [15, 10])), (o 5 (.mv (.t 11)), none), (o 6 (.mv (.t 16)), none)]) (.seq (.seq (.dreg [(o 17 (.mv (.t 5)), none), (o 18 (.isnil 1 false (.t 17)), (some [])), (o 19 (.mv (.t 18)), none), (⟨some 20, .mv (.t 6), some (19, false)⟩, none), (⟨some 21, .isnil 1 false (.t 20), some (19, false)⟩, (some [])), (o 22 (.pick (.t 19) (.c (.bool true)) (.t 21)), none), (o 23 (.mv (.t 22)), none), (⟨some 24, .fldA 15 (.t 3), some (23, false)⟩, none), (⟨some 25, .ld 1 false (.t 24), some (23, false)⟩, none), (⟨some 26, .bin .lss (.t 25) (.c (.int .i64 0)), some (23, false)⟩, none), (o 27 (.pick (.t 23) (.c (.bool true)) (.t 26)), none), (o 28 (.mv (.t 27)), none), (⟨some 29, .fldA 15 (.t 3), some (28, false)⟩, none), (⟨some 30, .ld 1 false (.t 29), some (28, false)⟩, none), (⟨some 31, .mv (.t 5), some (28, false)⟩, none), (⟨some 32, .fldA 0 (.t 31), some (28, false)⟩, none), (⟨some 33, .fldA 5 (.t 32), some (28, false)⟩, none), (⟨some 34, .ld 1 false (.t 33), some (28, false)⟩, none), (⟨some 35, .len (.t 34), some (28, false)⟩, none), (⟨some 36, .bin .geq (.t 30) (.t 35), some (28, false)⟩, none), (o 37 (.pick (.t 28) (.c (.bool true)) (.t 36)), none), (o 38 (.mv (.t 37)), none), (⟨some 39, .mv (.t 5), some (38, false)⟩, none), (⟨some 40, .fldA 0 (.t 39), some (38, false)⟩, none), (⟨some 41, .fldA 5 (.t 40), some (38, false)⟩, none), (⟨some 42, .ld 1 false (.t 41), some (38, false)⟩, none), (⟨some 43, .fldA 15 (.t 3), some (38, false)⟩, none), (⟨some 44, .ld 1 false (.t 43), some (38, false)⟩, none), (⟨some 45, .idxA 1 (.t 42) (.t 44), some (38, false)⟩, none), (⟨some 46, .ld 1 false (.t 45), some (38, false)⟩, none), (⟨some 47, .fldA 0 (.t 3), some (38, false)⟩, none), (⟨some 48, .fldA 2 (.t 47), some (38, false)⟩, none), (⟨some 49, .ld 1 false (.t 48), some (38, false)⟩, none), (⟨some 50, .bin .neq (.t 46) (.t 49), some (38, false)⟩, none), (o 51 (.pick (.t 38) (.c (.bool true)) (.t 50)), none)]) (.cond (.t 51) (.seq (.reg [o 4 (.mv (.c (.bool false)))]) .ret) .skip)) (.seq (.dreg [(o 52 (.mv (.t 5)), none), (o 53 (.mv (.t 6)), none), (o 54 (.mv (.t 5)), none), (o 55 (.fldA 0 (.t 54)), none), (o 56 (.fldA 5 (.t 55)), none), (o 57 (.ld 1 false (.t 56)), none), (o 58 (.fldA 15 (.t 3)), none), (o 59 (.ld 1 false (.t 58)), none), (o 60 (.fldA 15 (.t 3)), none), (o 61 (.ld 1 false (.t 60)), none), (o 62 (.bin .add (.t 61) (.c (.int .i64 1))), none), (o 63 (.call (.c (.fn 116 [] [])) [.t 57, .t 59, .t 62]), (some [57, 59, 61])), (o 64 (.fldA 0 (.t 52)), none), (o 65 (.fldA 5 (.t 64)), none), (⟨none, .st 1 (.t 65) (.t 63), none⟩, (some [57, 59, 61])), (o 66 (.fldA 0 (.t 53)), none), (o 67 (.fldA 4 (.t 66)), none), (⟨none, .st 1 (.t 67) (.c (.int .i64 (-1))), none⟩, (some [57, 59, 61]))]) (.seq (.reg [o 4 (.mv (.c (.bool true)))]) .ret)))), [.tmp 4]⟩
theorem hc87 : X6 Tryz.prog {} Tryz.f87 = some c87 := by kernel_rfl
theorem uinserted_ok {h0 h : Q3} {re rN : Nat} {d : HDoc} {n : Nat} {sl : Nat -> AVal} (E : Un h0 h re rN d n sl) (hn : n <= 100000) (sm : DocSm (headD d n)) (s : HStep) (hdo : s.edit.do' = 5) : DCalls (Pg G) 87 [.vp re 0, .agg (Z9 s)] h (UnR h0 h re (headD d n) s) := by
 have gN := E.dw.nodes
 have le := E.le
 have hE1 := unode_ok (G := G) E hn s.edit.at'
 have hE2 := unode_ok (G := G) E hn s.edit.to
 unfold nodeU at hE1 hE2
 have eF : Y3 (headD d n) s ↔ (0 <= s.edit.at' /\ s.edit.at' < n) /\ (0 <= s.edit.to /\ s.edit.to < n) /\ 0 <= s.place /\ s.place < (nd (headD d n) s.edit.at').kids.length /\ nth (nd (headD d n) s.edit.at').kids s.place.toNat = s.edit.to := by
  unfold Y3; rw [if_neg (by omega), if_neg (by omega), if_neg (by omega), if_neg (by omega), if_pos hdo, inD_head le, inD_head le]
 have eD : U2 (headD d n) s = JT (headD d n) s.edit.at' s.edit.to (X3 (nd (headD d n) s.edit.at').kids s.place.toNat) (-1) := by unfold U2; rw [if_neg (by omega), if_neg (by omega), if_neg (by omega), if_neg (by omega), if_pos hdo]
 refine Q4 Tryz.func87 (by kernel_rfl) hc87 (by rw [Tryz.ntmps87]; simp) (by rw [Tryz.ntmps87]; decide) ?_
 simp -dsimp -implicitDefEqProofs (disch := omega) only [VCA, Nat.reduceEqDiff, Nat.reduceAdd, Nat.reduceLeDiff, ↓reduceIte, reduceCtorEq, J6, Q5, Z8, c87, Z9]
 by_cases hm : 0 <= s.edit.at' /\ s.edit.at' < n
 ·rw [if_pos hm] at hE1
  by_cases ht : 0 <= s.edit.to /\ s.edit.to < n
  ·rw [if_pos ht] at hE2
   have hn' : s.edit.at'.toNat < d.nodes.length := by omega
   have ht' : s.edit.to.toNat < d.nodes.length := by omega
   have gk := Y2 (sl := sl) hn'
   have gt := Y2 (sl := sl) ht'
   have rl := Y5 d sl
   have nh : nd (headD d n) s.edit.at' = nd d s.edit.at' := nd_head (by omega)
   have nt : nd (headD d n) s.edit.to = nd d s.edit.to := nd_head (by omega)
   have e0 : nth d.nodes s.edit.at'.toNat = nd d s.edit.at' := rfl
   have e1 : nth d.nodes s.edit.to.toNat = nd d s.edit.to := rfl
   have kl := (sm.nd s.edit.at').kids
   rw [e0] at gk
   rw [e1] at gt
   rw [nh] at eF eD kl
   obtain ⟨oA, oK⟩ := E.dw.own _ hn'
   rw [e0] at oK
   have oL := oK.len.1
   have oL2 := oK.len.2
   rw [List.length_map] at oL
   have lv := E.live (2 * s.edit.at'.toNat + 1) (by omega)
   unfold X1 at gk gt
   by_cases hp : 0 <= s.place /\ s.place < (nd d s.edit.at').kids.length
   ·rcases oK.live lv with ⟨q, _⟩ | ⟨r, es, ha, hr, hl, hte⟩
    ·have : (nd d s.edit.at').kids = [] := by simpa using q
     rw [this] at hp; simp at hp; omega
    rw [List.length_map] at ha hl hte
    have SK := fun h1 a' l' => E.slotK hn' (h1 := h1) (a' := a') (l' := l')
    have gi := ZU hte (show s.place.toNat < (nd d s.edit.at').kids.length by omega)
    rw [ha] at gk SK oL oL2
    rw [e0] at SK
    have hnr : ¬ rN = r := fun h => (E.root_ne (k := 2 * s.edit.at'.toNat + 1) (by omega) (by rw [ha]; rfl)).1 h.symm
    by_cases hk : nth (nd d s.edit.at').kids s.place.toNat = s.edit.to
    ·have hb : Y3 (headD d n) s := eF.2 ⟨hm, ht, hp.1, hp.2, hk⟩
     rw [hk] at gi
     have pl : ((s.place.toNat : Nat) : Int) = s.place := by omega
     have pl1 : ((s.place.toNat + 1 : Nat) : Int) = s.place + 1 := by omega
     have hD := deleteZ_ok (G := G) (i := s.place.toNat) (j := s.place.toNat + 1) hr hl (by omega) (by omega) (by omega)
     rw [pl, pl1] at hD
     have ln : (X3 (nd d s.edit.at').kids s.place.toNat).length = (nd d s.edit.at').kids.length - (s.place.toNat + 1 - s.place.toNat) := by
      have := cutList_len (l := (nd d s.edit.at').kids) (i := s.place.toNat) (by omega); omega
     by_cases hne : s.edit.at' = s.edit.to
     ·have hto : s.edit.to = s.edit.at' := hne.symm
      rw [hto] at hk gi hE2
      have gss := fun (x : List AVal) => ZK (es := Y9 d sl) (x := x) (k := s.edit.at'.toNat) (by rw [rl]; exact hn')
      repeat' (first | ((with_reducible refine brC (fun _ => ?_) fun _ => ?_) <;> try (exfalso; omega)) | ((refine DCalls.of hE1 ?_; rintro _ hh ⟨rfl, rfl⟩)) | ((refine DCalls.of hE2 ?_; rintro _ hh ⟨rfl, rfl⟩)) | ((refine DCalls.of hD ?_; rintro _ _ ⟨rfl, es', rfl, hl2, ht2⟩)) | (with_reducible refine And.intro ?_ ?_; · omega) | simp -dsimp -implicitDefEqProofs (disch := omega) only [↓Z3 19, ↓Z3 23, ↓Z3 28, ↓Z3 38, VCA, Nat.reduceEqDiff, Nat.reduceBEq, Nat.reduceAdd, Nat.reduceLeDiff, ↓reduceIte, J6, Q5, SOp.rd, SI.rd, SX.rd, rdL, Z0, exists_eq_left', Z8, J8, gN, gk, rl, J8, oL, oL2, hr, gi, hto])
      all_goals try (exfalso; omega)
      repeat' (first | ((with_reducible refine brC (fun _ => ?_) fun _ => ?_) <;> try (exfalso; omega)) | (with_reducible refine And.intro ?_ ?_; · omega) | simp -dsimp -implicitDefEqProofs (disch := omega) only [VCA, Nat.reduceAdd, Nat.reduceLeDiff, ↓reduceIte, exists_eq_left', gk, rl, hnr, gss, XY, List.length_set])
      have hO : OwnS (upd hh r (some ⟨.t 3, 1, es'⟩)) 3 1 ((X3 (nd d s.edit.at').kids s.place.toNat).map J8) (.osl r 1 0 ((nd d s.edit.at').kids.length - (s.place.toNat + 1 - s.place.toNat))) :=
       .inr (.inr ⟨r, es', by rw [List.length_map, ln], Q2 _ _ _, by rw [List.length_map, ln]; exact hl2, by
        rw [List.length_map, ln, ht2]; unfold X3; rw [List.map_append, List.map_take, List.map_drop, <- hte, List.take_take, Nat.min_eq_left (by omega)]⟩)
      have E1 := SK (upd hh r (some ⟨.t 3, 1, es'⟩)) _ (X3 (nd d s.edit.at').kids s.place.toNat) (fun t o ho hne => by rw [Q1 _ _ (fun e => hne (by rw [e]; rfl))]; exact ho) hO (fun es e => by cases e) (fun t ht => .inl ht)
      have nn := E1.dw.rows_eq
      have n1 : nth (d.nodes.set s.edit.at'.toNat { nd d s.edit.at' with kids := X3 (nd d s.edit.at').kids s.place.toNat }) s.edit.at'.toNat = { nd d s.edit.at' with kids := X3 (nd d s.edit.at').kids s.place.toNat } := by
       rw [QZ _ _ _ _ hn', if_pos rfl]
      have E2 := E1.cells (i := s.edit.at'.toNat) (by simpa using hn') (x' := { nd d s.edit.at' with kids := X3 (nd d s.edit.at').kids s.place.toNat, parent := -1 }) (by show _ = (nth (d.nodes.set _ _) _).attrs; rw [n1]) (by show _ = (nth (d.nodes.set _ _) _).kids; rw [n1])
      rw [<- nn] at E2
      have v1 : upd sl (2 * s.edit.at'.toNat + 1) (AVal.osl r 1 0 ((nd d s.edit.at').kids.length - (s.place.toNat + 1 - s.place.toNat))) (2 * s.edit.at'.toNat) = sl (2 * s.edit.at'.toNat) := Q1 _ _ (by omega)
      rw [v1, Q2, JW, List.set_set] at E2
      refine ⟨_, Sub.refl _, UnR.good hb E2 ?_⟩
      rw [eD]; unfold JT; rw [hto, nd_setN_eq (by rw [JU le]; omega), nh]
      exact head_set2
     ·have hnn : s.edit.at'.toNat ≠ s.edit.to.toNat := by omega
      repeat' (first | ((with_reducible refine brC (fun _ => ?_) fun _ => ?_) <;> try (exfalso; omega)) | ((refine DCalls.of hE1 ?_; rintro _ hh ⟨rfl, rfl⟩)) | ((refine DCalls.of hE2 ?_; rintro _ hh ⟨rfl, rfl⟩)) | ((refine DCalls.of hD ?_; rintro _ _ ⟨rfl, es', rfl, hl2, ht2⟩)) | (with_reducible refine And.intro ?_ ?_; · omega) | simp -dsimp -implicitDefEqProofs (disch := omega) only [↓Z3 19, ↓Z3 23, ↓Z3 28, ↓Z3 38, VCA, Nat.reduceEqDiff, Nat.reduceBEq, Nat.reduceAdd, Nat.reduceLeDiff, ↓reduceIte, J6, Q5, SOp.rd, SI.rd, SX.rd, rdL, Z0, exists_eq_left', Z8, J8, gN, gk, rl, J8, oL, oL2, hr, gi])
      all_goals try (exfalso; omega)
      have gne := fun (x : List AVal) => YY (es := Y9 d sl) (x := x) hnn
      repeat' (first | ((with_reducible refine brC (fun _ => ?_) fun _ => ?_) <;> try (exfalso; omega)) | (with_reducible refine And.intro ?_ ?_; · omega) | simp -dsimp -implicitDefEqProofs (disch := omega) only [VCA, Nat.reduceAdd, Nat.reduceLeDiff, ↓reduceIte, exists_eq_left', gk, gt, rl, hnr, gne, List.length_set])
      have hO : OwnS (upd hh r (some ⟨.t 3, 1, es'⟩)) 3 1 ((X3 (nd d s.edit.at').kids s.place.toNat).map J8) (.osl r 1 0 ((nd d s.edit.at').kids.length - (s.place.toNat + 1 - s.place.toNat))) :=
       .inr (.inr ⟨r, es', by rw [List.length_map, ln], Q2 _ _ _, by rw [List.length_map, ln]; exact hl2, by
        rw [List.length_map, ln, ht2]; unfold X3; rw [List.map_append, List.map_take, List.map_drop, <- hte, List.take_take, Nat.min_eq_left (by omega)]⟩)
      have E1 := SK (upd hh r (some ⟨.t 3, 1, es'⟩)) _ (X3 (nd d s.edit.at').kids s.place.toNat) (fun t o ho hne => by rw [Q1 _ _ (fun e => hne (by rw [e]; rfl))]; exact ho) hO (fun es e => by cases e) (fun t ht => .inl ht)
      have nn := E1.dw.rows_eq
      have n1 : nth (d.nodes.set s.edit.at'.toNat { nd d s.edit.at' with kids := X3 (nd d s.edit.at').kids s.place.toNat }) s.edit.to.toNat = nd d s.edit.to := by
       rw [QZ _ _ _ _ hn', if_neg (fun h => hnn h.symm)]; rfl
      have E2 := E1.cells (i := s.edit.to.toNat) (by simpa using ht') (x' := { nd d s.edit.to with parent := -1 }) (by show _ = (nth (d.nodes.set _ _) _).attrs; rw [n1]) (by show _ = (nth (d.nodes.set _ _) _).kids; rw [n1])
      rw [<- nn] at E2
      have v1 : upd sl (2 * s.edit.at'.toNat + 1) (AVal.osl r 1 0 ((nd d s.edit.at').kids.length - (s.place.toNat + 1 - s.place.toNat))) (2 * s.edit.to.toNat) = sl (2 * s.edit.to.toNat) := Q1 _ _ (by omega)
      have v2 : upd sl (2 * s.edit.at'.toNat + 1) (AVal.osl r 1 0 ((nd d s.edit.at').kids.length - (s.place.toNat + 1 - s.place.toNat))) (2 * s.edit.to.toNat + 1) = sl (2 * s.edit.to.toNat + 1) := Q1 _ _ (by omega)
      rw [v1, v2, JW] at E2
      refine ⟨_, Sub.refl _, UnR.good hb E2 ?_⟩
      rw [eD]; unfold JT; rw [nd_setN_ne hnn, nh, nt]
      exact head_set2
    ·have hb : ¬ Y3 (headD d n) s := fun h => hk (eF.1 h).2.2.2.2
     repeat' (first | ((with_reducible refine brC (fun _ => ?_) fun _ => ?_) <;> try (exfalso; omega)) | ((refine DCalls.of hE1 ?_; rintro _ hh ⟨rfl, rfl⟩)) | ((refine DCalls.of hE2 ?_; rintro _ hh ⟨rfl, rfl⟩)) | (with_reducible refine And.intro ?_ ?_; · omega) | simp -dsimp -implicitDefEqProofs (disch := omega) only [↓Z3 19, ↓Z3 23, ↓Z3 28, ↓Z3 38, VCA, Nat.reduceEqDiff, Nat.reduceAdd, Nat.reduceLeDiff, ↓reduceIte, J6, Q5, SOp.rd, SI.rd, SX.rd, rdL, exists_eq_left', Z8, J8, gN, gk, rl, J8, oL, oL2, hr, gi])
     all_goals first | (exfalso; omega) | exact ⟨_, Sub.refl _, UnR.bad hb⟩ | trace_state
   ·have hb : ¬ Y3 (headD d n) s := fun h => hp ⟨(eF.1 h).2.2.1, (eF.1 h).2.2.2.1⟩
    repeat' (first | ((with_reducible refine brC (fun _ => ?_) fun _ => ?_) <;> try (exfalso; omega)) | ((refine DCalls.of hE1 ?_; rintro _ hh ⟨rfl, rfl⟩)) | ((refine DCalls.of hE2 ?_; rintro _ hh ⟨rfl, rfl⟩)) | (with_reducible refine And.intro ?_ ?_; · omega) | simp -dsimp -implicitDefEqProofs (disch := omega) only [↓Z3 19, ↓Z3 23, ↓Z3 28, ↓Z3 38, VCA, Nat.reduceEqDiff, Nat.reduceAdd, ↓reduceIte, J6, Q5, SOp.rd, SI.rd, SX.rd, rdL, exists_eq_left', Z8, gN, gk, rl, oL, oL2])
    all_goals first | (exfalso; omega) | exact ⟨_, Sub.refl _, UnR.bad hb⟩ | trace_state
  ·rw [if_neg ht] at hE2
   have hb : ¬ Y3 (headD d n) s := fun h => ht (eF.1 h).2.1
   repeat' (first | ((with_reducible refine brC (fun _ => ?_) fun _ => ?_) <;> try (exfalso; omega)) | ((refine DCalls.of hE1 ?_; rintro _ hh ⟨rfl, rfl⟩)) | ((refine DCalls.of hE2 ?_; rintro _ hh ⟨rfl, rfl⟩)) | (with_reducible refine And.intro ?_ ?_; · omega) | simp -dsimp -implicitDefEqProofs (disch := omega) only [↓Z3 19, ↓Z3 23, ↓Z3 28, ↓Z3 38, VCA, Nat.reduceEqDiff, ↓reduceIte, J6, Q5, SOp.rd, SI.rd, SX.rd, rdL, Z8])
   all_goals first | (exfalso; omega) | exact ⟨_, Sub.refl _, UnR.bad hb⟩ | trace_state
 ·rw [if_neg hm] at hE1
  have hb : ¬ Y3 (headD d n) s := fun h => hm (eF.1 h).1
  by_cases ht : 0 <= s.edit.to /\ s.edit.to < n
  ·rw [if_pos ht] at hE2
   repeat' (first | ((with_reducible refine brC (fun _ => ?_) fun _ => ?_) <;> try (exfalso; omega)) | ((refine DCalls.of hE1 ?_; rintro _ hh ⟨rfl, rfl⟩)) | ((refine DCalls.of hE2 ?_; rintro _ hh ⟨rfl, rfl⟩)) | (with_reducible refine And.intro ?_ ?_; · omega) | simp -dsimp -implicitDefEqProofs (disch := omega) only [↓Z3 19, ↓Z3 23, ↓Z3 28, ↓Z3 38, VCA, Nat.reduceEqDiff, ↓reduceIte, J6, Q5, SOp.rd, SI.rd, SX.rd, rdL, Z8])
   all_goals first | (exfalso; omega) | exact ⟨_, Sub.refl _, UnR.bad hb⟩ | trace_state
  ·rw [if_neg ht] at hE2
   repeat' (first | ((with_reducible refine brC (fun _ => ?_) fun _ => ?_) <;> try (exfalso; omega)) | ((refine DCalls.of hE1 ?_; rintro _ hh ⟨rfl, rfl⟩)) | ((refine DCalls.of hE2 ?_; rintro _ hh ⟨rfl, rfl⟩)) | (with_reducible refine And.intro ?_ ?_; · omega) | simp -dsimp -implicitDefEqProofs (disch := omega) only [↓Z3 19, ↓Z3 23, ↓Z3 28, ↓Z3 38, VCA, Nat.reduceEqDiff, ↓reduceIte, J6, Q5, SOp.rd, SI.rd, SX.rd, rdL, Z8])
   all_goals first | (exfalso; omega) | exact ⟨_, Sub.refl _, UnR.bad hb⟩ | trace_state
end Go.Proofs.K
end
