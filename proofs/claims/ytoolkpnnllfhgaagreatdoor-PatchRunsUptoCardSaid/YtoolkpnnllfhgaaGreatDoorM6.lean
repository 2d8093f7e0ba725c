/- Texts of this claim, one behind the other. -/
import Derived.Test.YtoolkpnnllfhgaaGreatDoorM5
import Derived.Test.YtoolkpnnllfhgaaGreatDoorM3
section
set_option linter.unusedSimpArgs false
set_option linter.unusedVariables false
namespace Go.Proofs.K
open Go Go.Sim Go.Proofs
variable {G : Glob}
theorem betwD_ok (n a b : Int) : PCalls (Pg G) 76 [aInt n, aInt a, aInt b] (.bool (decide (a ≤ n ∧ n ≤ b))) := by
  have h := betw_ok (G := G) n a b
  have e : (decide (a ≤ n) && decide (n ≤ b)) = decide (a ≤ n ∧ n ≤ b) := by simp
  rwa [e] at h
theorem errR_4 {d : HDoc} {e : HEdit} (h4 : e.do' = 4) : errR d e = if 0 < (e.node.kids.length : Int) then 3 else if e.node.kind = 1 then 7 else nodeE e.node := by
  unfold errR
  rw [if_neg (by omega), if_pos h4]
  by_cases hk : e.node.kids = []
  · rw [if_neg (by simpa using hk), if_neg (c := 0 < (e.node.kids.length : Int)) (by rw [hk]; simp)]
  · rw [if_pos hk, if_pos]
    have := List.length_pos_iff.2 hk
    omega
theorem errR_in {d : HDoc} {e : HEdit} (h1 : 1 ≤ e.do') (h6 : e.do' ≤ 6) (h4 : e.do' ≠ 4) (hi : ¬ inD d e.at' ∨ (e.do' = 5 ∧ ¬ inD d e.to)) : errR d e = 5 := by
  unfold errR
  rw [if_neg (by omega), if_neg h4, if_pos hi]
theorem errR_1 {d : HDoc} {e : HEdit} (h : e.do' = 1) (ha : inD d e.at') : errR d e = if (nd d e.at').kind ≠ 2 then 7 else if (!nameOK false e.name) = true then 3 else 0 := by
  unfold errR
  rw [if_neg (by omega), if_neg (by omega), if_neg (by simp [ha]; omega), if_pos h]
  cases nameOK false e.name <;> simp
theorem errR_2 {d : HDoc} {e : HEdit} (h : e.do' = 2) (ha : inD d e.at') : errR d e = if (nd d e.at').kind ≠ 2 then 7 else if ¬ 0 ≤ attrAt (nd d e.at').attrs e.name then 5 else 0 := by
  unfold errR
  rw [if_neg (by omega), if_neg (by omega), if_neg (by simp [ha]; omega), if_neg (by omega), if_pos h]
theorem errR_3 {d : HDoc} {e : HEdit} (h : e.do' = 3) (ha : inD d e.at') : errR d e = if (nd d e.at').kind ≠ 3 ∧ (nd d e.at').kind ≠ 4 then 7 else 0 := by
  unfold errR
  rw [if_neg (by omega), if_neg (by omega), if_neg (by simp [ha]; omega), if_neg (by omega), if_neg (by omega), if_pos h]
theorem errR_6 {d : HDoc} {e : HEdit} (h : e.do' = 6) (ha : inD d e.at') : errR d e = if e.at' = 0 then 7 else if (nd d e.at').parent < 0 then 5 else 0 := by
  unfold errR
  rw [if_neg (by omega), if_neg (by omega), if_neg (by simp [ha]; omega), if_neg (by omega), if_neg (by omega), if_neg (by omega), if_pos h]
theorem errR_5 {d : HDoc} {e : HEdit} (h : e.do' = 5) (ha : inD d e.at') (ht : inD d e.to) : errR d e = if 2 < (nd d e.at').kind ∨ e.to = 0 ∨ (e.at' = 0 ∧ (nd d e.to).kind = 3) then 7 else if 0 ≤ (nd d e.to).parent then 9
    else if e.before ≠ -1 ∧ idxM (· == e.before) (nd d e.at').kids < 0 then 5 else if decide (e.to ∈ chain d e.at') = true then 8 else 0 := by
  have im := idx_mem (nd d e.at').kids e.before
  unfold errR
  rw [if_neg (by omega), if_neg (by omega), if_neg (by simp [ha, ht]), if_neg (by omega), if_neg (by omega), if_neg (by omega), if_neg (by omega)]
  have : (e.before ∉ (nd d e.at').kids) = (idxM (· == e.before) (nd d e.at').kids < 0) := by rw [← im]; exact propext (by omega)
  simp only [this, decide_eq_true_eq]
def c58_s7 : SCode := (.seq (.seq (.reg [⟨some 65, .fldA 0 (.t 3), none⟩, ⟨some 66, .ld 1 false (.t 65), none⟩]) (.block 0 (.seq (.reg [⟨some 112, .bin .eql (.t 66) (.c (.int .i64 1)), none⟩, ⟨some 111, .mv (.t 112), none⟩]) (.cond (.t 111) (.seq (.seq (.reg [⟨some 113, .fldA 0 (.t 6), none⟩, ⟨some 114, .ld 1 false (.t 113), none⟩, ⟨some 115, .bin .neq (.t 114) (.c (.int .i64 2)), none⟩]) (.cond (.t 115) (.seq (.reg [⟨some 4, .mv (.c (.int .i64 7)), none⟩]) .ret) .skip)) (.seq (.reg [⟨some 116, .fldA 4 (.t 3), none⟩, ⟨some 117, .ld 1 false (.t 116), none⟩, ⟨some 118, .pcall 102 [.t 117, .c (.bool false)], none⟩, ⟨some 119, .un .not (.t 118), none⟩]) (.cond (.t 119) (.seq (.reg [⟨some 4, .mv (.c (.int .i64 3)), none⟩]) .ret) .skip))) (.seq (.reg [⟨some 121, .bin .eql (.t 66) (.c (.int .i64 2)), none⟩, ⟨some 120, .mv (.t 121), none⟩]) (.cond (.t 120) (.seq (.seq (.reg [⟨some 122, .fldA 0 (.t 6), none⟩, ⟨some 123, .ld 1 false (.t 122), none⟩, ⟨some 124, .bin .neq (.t 123) (.c (.int .i64 2)), none⟩]) (.cond (.t 124) (.seq (.reg [⟨some 4, .mv (.c (.int .i64 7)), none⟩]) .ret) .skip)) (.seq (.reg [⟨some 125, .mv (.t 8), none⟩, ⟨some 126, .un .not (.t 125), none⟩]) (.cond (.t 126) (.seq (.reg [⟨some 4, .mv (.c (.int .i64 5)), none⟩]) .ret) .skip))) (.seq (.reg [⟨some 128, .bin .eql (.t 66) (.c (.int .i64 3)), none⟩, ⟨some 127, .mv (.t 128), none⟩]) (.cond (.t 127) (.seq (.reg [⟨some 129, .fldA 0 (.t 6), none⟩, ⟨some 130, .ld 1 false (.t 129), none⟩, ⟨some 131, .bin .neq (.t 130) (.c (.int .i64 3)), none⟩, ⟨some 132, .mv (.t 131), none⟩, ⟨some 133, .fldA 0 (.t 6), some (132, true)⟩, ⟨some 134, .ld 1 false (.t 133), some (132, true)⟩, ⟨some 135, .bin .neq (.t 134) (.c (.int .i64 4)), some (132, true)⟩, ⟨some 136, .pick (.t 132) (.t 135) (.c (.bool false)), none⟩]) (.cond (.t 136) (.seq (.reg [⟨some 4, .mv (.c (.int .i64 7)), none⟩]) .ret) .skip)) (.seq (.reg [⟨some 138, .bin .eql (.t 66) (.c (.int .i64 6)), none⟩, ⟨some 137, .mv (.t 138), none⟩]) (.cond (.t 137) (.seq (.seq (.reg [⟨some 139, .fldA 1 (.t 3), none⟩, ⟨some 140, .ld 1 false (.t 139), none⟩, ⟨some 141, .bin .eql (.t 140) (.c (.int .i64 0)), none⟩]) (.cond (.t 141) (.seq (.reg [⟨some 4, .mv (.c (.int .i64 7)), none⟩]) .ret) .skip)) (.seq (.reg [⟨some 142, .fldA 4 (.t 6), none⟩, ⟨some 143, .ld 1 false (.t 142), none⟩, ⟨some 144, .bin .lss (.t 143) (.c (.int .i64 0)), none⟩]) (.cond (.t 144) (.seq (.reg [⟨some 4, .mv (.c (.int .i64 5)), none⟩]) .ret) .skip))) (.seq (.reg [⟨some 67, .fldA 0 (.t 2), none⟩, ⟨some 68, .ld 1 false (.t 67), none⟩, ⟨some 69, .fldA 2 (.t 3), none⟩, ⟨some 70, .ld 1 false (.t 69), none⟩, ⟨some 71, .idxA 6 (.t 68) (.t 70), none⟩, ⟨some 72, .ld 6 true (.t 71), none⟩, ⟨some 9, .new 40 6 [.int .i64 0, .str [], .emp, .str [], .int .i64 0, .emp], none⟩, ⟨none, .st 6 (.t 9) (.t 72), none⟩]) (.seq (.seq (.reg [⟨some 73, .fldA 0 (.t 6), none⟩, ⟨some 74, .ld 1 false (.t 73), none⟩, ⟨some 75, .bin .gtr (.t 74) (.c (.int .i64 2)), none⟩, ⟨some 76, .mv (.t 75), none⟩, ⟨some 77, .fldA 2 (.t 3), some (76, false)⟩, ⟨some 78, .ld 1 false (.t 77), some (76, false)⟩, ⟨some 79, .bin .eql (.t 78) (.c (.int .i64 0)), some (76, false)⟩, ⟨some 80, .pick (.t 76) (.c (.bool true)) (.t 79), none⟩, ⟨some 81, .mv (.t 80), none⟩, ⟨some 82, .fldA 1 (.t 3), some (81, false)⟩, ⟨some 83, .ld 1 false (.t 82), some (81, false)⟩, ⟨some 84, .bin .eql (.t 83) (.c (.int .i64 0)), some (81, false)⟩, ⟨some 85, .mv (.t 84), some (81, false)⟩, ⟨some 86, .fldA 0 (.t 9), some (85, true)⟩, ⟨some 87, .ld 1 false (.t 86), some (85, true)⟩, ⟨some 88, .bin .eql (.t 87) (.c (.int .i64 3)), some (85, true)⟩, ⟨some 89, .pick (.t 85) (.t 88) (.c (.bool false)), some (81, false)⟩, ⟨some 90, .pick (.t 81) (.c (.bool true)) (.t 89), none⟩]) (.cond (.t 90) (.seq (.reg [⟨some 4, .mv (.c (.int .i64 7)), none⟩]) .ret) .skip)) (.seq (.seq (.reg [⟨some 91, .fldA 4 (.t 9), none⟩, ⟨some 92, .ld 1 false (.t 91), none⟩, ⟨some 93, .bin .geq (.t 92) (.c (.int .i64 0)), none⟩]) (.cond (.t 93) (.seq (.reg [⟨some 4, .mv (.c (.int .i64 9)), none⟩]) .ret) .skip)) (.seq (.seq (.reg [⟨some 94, .fldA 3 (.t 3), none⟩, ⟨some 95, .ld 1 false (.t 94), none⟩, ⟨some 96, .bin .neq (.t 95) (.c (.int .i64 (-1))), none⟩, ⟨some 97, .mv (.t 96), none⟩, ⟨some 98, .fldA 5 (.t 6), some (97, true)⟩, ⟨some 99, .ld 1 false (.t 98), some (97, true)⟩, ⟨some 100, .fldA 3 (.t 3), some (97, true)⟩, ⟨some 101, .ld 1 false (.t 100), some (97, true)⟩, ⟨some 102, .pcall 60 [.t 99, .t 101], some (97, true)⟩, ⟨some 103, .bin .lss (.t 102) (.c (.int .i64 0)), some (97, true)⟩, ⟨some 104, .pick (.t 97) (.t 103) (.c (.bool false)), none⟩]) (.cond (.t 104) (.seq (.reg [⟨some 4, .mv (.c (.int .i64 5)), none⟩]) .ret) .skip)) (.seq (.reg [⟨some 105, .ld 2 true (.t 2), none⟩, ⟨some 106, .fldA 1 (.t 3), none⟩, ⟨some 107, .ld 1 false (.t 106), none⟩, ⟨some 108, .fldA 2 (.t 3), none⟩, ⟨some 109, .ld 1 false (.t 108), none⟩, ⟨some 110, .pcall 62 [.t 105, .t 107, .t 109], none⟩]) (.cond (.t 110) (.seq (.reg [⟨some 4, .mv (.c (.int .i64 8)), none⟩]) .ret) .skip)))))))))))))))) (.seq (.reg [⟨some 4, .mv (.c (.int .i64 0)), none⟩]) .ret))
def c58_s4 : SCode := (.seq (.seq (.reg [⟨some 32, .fldA 1 (.t 3), none⟩, ⟨some 33, .ld 1 false (.t 32), none⟩, ⟨some 34, .mv (.t 5), none⟩, ⟨some 35, .bin .sub (.t 34) (.c (.int .i64 1)), none⟩, ⟨some 36, .pcall 76 [.t 33, .c (.int .i64 0), .t 35], none⟩, ⟨some 37, .un .not (.t 36), none⟩, ⟨some 38, .mv (.t 37), none⟩, ⟨some 39, .fldA 0 (.t 3), some (38, false)⟩, ⟨some 40, .ld 1 false (.t 39), some (38, false)⟩, ⟨some 41, .bin .eql (.t 40) (.c (.int .i64 5)), some (38, false)⟩, ⟨some 42, .mv (.t 41), some (38, false)⟩, ⟨some 43, .fldA 2 (.t 3), some (42, true)⟩, ⟨some 44, .ld 1 false (.t 43), some (42, true)⟩, ⟨some 45, .mv (.t 5), some (42, true)⟩, ⟨some 46, .bin .sub (.t 45) (.c (.int .i64 1)), some (42, true)⟩, ⟨some 47, .pcall 76 [.t 44, .c (.int .i64 0), .t 46], some (42, true)⟩, ⟨some 48, .un .not (.t 47), some (42, true)⟩, ⟨some 49, .pick (.t 42) (.t 48) (.c (.bool false)), some (38, false)⟩, ⟨some 50, .pick (.t 38) (.c (.bool true)) (.t 49), none⟩]) (.cond (.t 50) (.seq (.reg [⟨some 4, .mv (.c (.int .i64 5)), none⟩]) .ret) .skip)) (.seq (.reg [⟨some 51, .fldA 0 (.t 2), none⟩, ⟨some 52, .ld 1 false (.t 51), none⟩, ⟨some 53, .fldA 1 (.t 3), none⟩, ⟨some 54, .ld 1 false (.t 53), none⟩, ⟨some 55, .idxA 6 (.t 52) (.t 54), none⟩, ⟨some 56, .ld 6 true (.t 55), none⟩, ⟨some 6, .new 40 6 [.int .i64 0, .str [], .emp, .str [], .int .i64 0, .emp], none⟩, ⟨none, .st 6 (.t 6) (.t 56), none⟩]) (.seq (.reg [⟨some 58, .fldA 2 (.t 6), none⟩, ⟨some 59, .ld 1 false (.t 58), none⟩, ⟨some 60, .fldA 4 (.t 3), none⟩, ⟨some 61, .ld 1 false (.t 60), none⟩, ⟨some 62, .pcall 94 [.t 59, .t 61], none⟩, ⟨some 57, .mv (.t 62), none⟩, ⟨some 63, .ext (.t 57) 0, none⟩, ⟨some 64, .ext (.t 57) 1, none⟩, ⟨some 7, .mv (.t 63), none⟩, ⟨some 8, .mv (.t 64), none⟩]) c58_s7)))
def c58 : SFun := ⟨.seq (.reg [⟨some 2, .boxF 24 2 (.t 0), none⟩, ⟨some 3, .boxF 42 12 (.t 1), none⟩, ⟨some 4, .mv (.c (.int .i64 0)), none⟩]) (.seq (.reg [⟨some 10, .fldA 0 (.t 2), none⟩, ⟨some 11, .ld 1 false (.t 10), none⟩, ⟨some 12, .len (.t 11), none⟩, ⟨some 5, .mv (.t 12), none⟩]) (.seq (.seq (.reg [⟨some 13, .fldA 0 (.t 3), none⟩, ⟨some 14, .ld 1 false (.t 13), none⟩, ⟨some 15, .pcall 76 [.t 14, .c (.int .i64 1), .c (.int .i64 6)], none⟩, ⟨some 16, .un .not (.t 15), none⟩]) (.cond (.t 16) (.seq (.reg [⟨some 4, .mv (.c (.int .i64 1)), none⟩]) .ret) .skip)) (.seq (.seq (.reg [⟨some 17, .fldA 0 (.t 3), none⟩, ⟨some 18, .ld 1 false (.t 17), none⟩, ⟨some 19, .bin .eql (.t 18) (.c (.int .i64 4)), none⟩]) (.cond (.t 19) (.seq (.seq (.reg [⟨some 20, .fldA 6 (.t 3), none⟩, ⟨some 21, .fldA 5 (.t 20), none⟩, ⟨some 22, .ld 1 false (.t 21), none⟩, ⟨some 23, .len (.t 22), none⟩, ⟨some 24, .bin .gtr (.t 23) (.c (.int .i64 0)), none⟩]) (.cond (.t 24) (.seq (.reg [⟨some 4, .mv (.c (.int .i64 3)), none⟩]) .ret) .skip)) (.seq (.seq (.reg [⟨some 25, .fldA 6 (.t 3), none⟩, ⟨some 26, .fldA 0 (.t 25), none⟩, ⟨some 27, .ld 1 false (.t 26), none⟩, ⟨some 28, .bin .eql (.t 27) (.c (.int .i64 1)), none⟩]) (.cond (.t 28) (.seq (.reg [⟨some 4, .mv (.c (.int .i64 7)), none⟩]) .ret) .skip)) (.seq (.reg [⟨some 29, .fldA 6 (.t 3), none⟩, ⟨some 30, .ld 6 true (.t 29), none⟩, ⟨some 31, .pcall 92 [.t 30], none⟩, ⟨some 4, .mv (.t 31), none⟩]) .ret))) .skip)) c58_s4))), [.tmp 4]⟩
theorem hc58 : toSF Tryz.prog {pure := [76, 92, 60, 94, 102, 62]} Tryz.f58 = some c58 := by kernel_rfl
theorem hn58 : (Tryz.f58.name == "runtime.NumGoroutine") = false := by kernel_rfl
set_option maxHeartbeats 2000000 in
theorem editErr_ok (d : HDoc) (V : DV d) (sm : DocSm d) (e : HEdit) (he : EditSm e) : PCalls (Pg G) 58 [.agg (eDoc d), .agg (eEdit e)] (aInt (errR d e)) := fun h => by
  have hl := sm.len
  have hN := nodeErr_ok (G := G) e.node he.node
  have hB1 : PCalls (Pg G) 76 [aInt e.do', .int .i64 1, .int .i64 6] (.bool (decide (1 ≤ e.do' ∧ e.do' ≤ 6))) := betwD_ok (G := G) e.do' 1 6
  have hB2 : PCalls (Pg G) 76 [aInt e.at', .int .i64 0, aInt ((d.nodes.length : Int) - 1)] (.bool (decide (0 ≤ e.at' ∧ e.at' ≤ (d.nodes.length : Int) - 1))) := betwD_ok (G := G) e.at' 0 ((d.nodes.length : Int) - 1)
  have hB3 : PCalls (Pg G) 76 [aInt e.to, .int .i64 0, aInt ((d.nodes.length : Int) - 1)] (.bool (decide (0 ≤ e.to ∧ e.to ≤ (d.nodes.length : Int) - 1))) := betwD_ok (G := G) e.to 0 ((d.nodes.length : Int) - 1)
  have s7 : inD d e.at' → (e.do' = 5 → inD d e.to) → 1 ≤ e.do' → e.do' ≤ 6 → e.do' ≠ 4 → ∀ (E : Env) (h2 : Heap) (r6 : Nat), h2 r6 = some ⟨.t 40, 6, [eNode (nd d e.at')]⟩ → Sim.Sub h h2 → E 2 = .pin (eDoc d) → E 3 = .pin (eEdit e) → E 6 = .vp r6 0 → E 8 = .bool (decide (0 ≤ attrAt (nd d e.at').attrs e.name)) → vc (Pg G) c58_s7 (retK [.tmp 4] fun r h' => r = aInt (errR d e) ∧ h' = h) E h2 := by
    intro ha hto h1 h6 h4 E h2 r6 hr6 S he2 he3 he6 he8
    unfold eNode at hr6
    unfold c58_s7
    skip
    have a0 := ha.1
    have a1 := ha.2
    have ea : nth d.nodes e.at'.toNat = nd d e.at' := rfl
    have et : nth d.nodes e.to.toNat = nd d e.to := rfl
    have hD : PCalls (Pg G) 102 [.str e.name, .bool false] (.bool (nameOK false e.name)) := domName_ok (G := G) e.name false he.name
    have hP : PCalls (Pg G) 60 [sl eInt (nd d e.at').kids, aInt e.before] (aInt (idxM (· == e.before) (nd d e.at').kids)) := placeIn_ok (G := G) _ _ (sm.nd _).kids
    have im := idx_mem (nd d e.at').kids e.before
    have hU : e.do' = 5 → PCalls (Pg G) 62 [.agg [sl eNode d.nodes, .bool d.quirks], aInt e.at', aInt e.to] (.bool (decide (e.to ∈ chain d e.at'))) := fun h5 => under_ok (G := G) d V e.at' e.to ha (hto h5).1
    by_cases c1 : e.do' = 1
    · have hE := errR_1 c1 ha
      generalize nameOK false e.name = bn at *
      cases bn
      all_goals
        simp -dsimp -implicitDefEqProofs (disch := omega) only [VCA, Nat.reduceAdd, Nat.reduceLeDiff, ↓reduceIte, he3, eEdit, c1]
        repeat' (first | ((with_reducible refine brC (fun _ => ?_) fun _ => ?_) <;> try (exfalso; omega)) | (with_reducible apply pcallE.of; · exact hD) | (with_reducible refine And.intro ?_ ?_; · omega) | simp -dsimp -implicitDefEqProofs (disch := omega) only [VCA, Nat.reduceEqDiff, Nat.reduceAdd, Nat.reduceLT, Nat.reduceLeDiff, ↓reduceIte, exists_eq_right_right, exists_eq_left', he3, he6, hr6, eEdit, c1])
      all_goals first | (rw [hE]; ((repeat' split) <;> first | with_reducible rfl | (exfalso; omega) | contradiction); done) | (refine ⟨S, ?_⟩; rw [hE]; ((repeat' split) <;> first | with_reducible rfl | (exfalso; omega) | contradiction); done) | trace_state
    by_cases c2 : e.do' = 2
    · have hE := errR_2 c2 ha
      by_cases hat : 0 ≤ attrAt (nd d e.at').attrs e.name
      all_goals
        first
          | rw [decide_eq_true hat] at he8
          | rw [decide_eq_false hat] at he8
        simp -dsimp -implicitDefEqProofs (disch := omega) only [VCA, Nat.reduceAdd, Nat.reduceLeDiff, ↓reduceIte, he3, eEdit, c2]
        repeat' (first | ((with_reducible refine brC (fun _ => ?_) fun _ => ?_) <;> try (exfalso; omega)) | (with_reducible refine And.intro ?_ ?_; · omega) | simp -dsimp -implicitDefEqProofs (disch := omega) only [VCA, Nat.reduceEqDiff, Nat.reduceAdd, Nat.reduceLT, Nat.reduceLeDiff, ↓reduceIte, exists_eq_right_right, exists_eq_left', he6, he8, hr6])
      all_goals first | (rw [hE]; ((repeat' split) <;> first | with_reducible rfl | (exfalso; omega) | contradiction); done) | (refine ⟨S, ?_⟩; rw [hE]; ((repeat' split) <;> first | with_reducible rfl | (exfalso; omega) | contradiction); done) | trace_state
    by_cases c3 : e.do' = 3
    · have hE := errR_3 c3 ha
      simp -dsimp -implicitDefEqProofs (disch := omega) only [VCA, Nat.reduceAdd, Nat.reduceLeDiff, ↓reduceIte, he3, eEdit, c3]
      repeat' (first | ((with_reducible refine brC (fun _ => ?_) fun _ => ?_) <;> try (exfalso; omega)) | (with_reducible refine And.intro ?_ ?_; · omega) | simp -dsimp -implicitDefEqProofs (disch := omega) only [↓vcOps_sp 132, VCA, Nat.reduceEqDiff, Nat.reduceAdd, Nat.reduceLT, Nat.reduceLeDiff, ↓reduceIte, exists_eq_right_right, exists_eq_left', he6, hr6])
      all_goals first | (rw [hE]; ((repeat' split) <;> first | with_reducible rfl | (exfalso; omega) | contradiction); done) | (refine ⟨S, ?_⟩; rw [hE]; ((repeat' split) <;> first | with_reducible rfl | (exfalso; omega) | contradiction); done) | trace_state
    by_cases c6 : e.do' = 6
    · have hE := errR_6 c6 ha
      simp -dsimp -implicitDefEqProofs (disch := omega) only [VCA, Nat.reduceAdd, Nat.reduceLeDiff, ↓reduceIte, he3, eEdit, c6]
      repeat' (first | ((with_reducible refine brC (fun _ => ?_) fun _ => ?_) <;> try (exfalso; omega)) | (with_reducible refine And.intro ?_ ?_; · omega) | simp -dsimp -implicitDefEqProofs (disch := omega) only [VCA, Nat.reduceEqDiff, Nat.reduceAdd, Nat.reduceLT, Nat.reduceLeDiff, ↓reduceIte, exists_eq_right_right, exists_eq_left', he3, he6, hr6, eEdit, c6])
      all_goals first | (rw [hE]; ((repeat' split) <;> first | with_reducible rfl | (exfalso; omega) | contradiction); done) | (refine ⟨S, ?_⟩; rw [hE]; ((repeat' split) <;> first | with_reducible rfl | (exfalso; omega) | contradiction); done) | trace_state
    have c5 : e.do' = 5 := by omega
    have t0 := (hto c5).1
    have t1 := (hto c5).2
    have hU := hU c5
    have hE := errR_5 c5 ha (hto c5)
    clear im hD hB1 hB2 hB3 hN
    generalize decide (e.to ∈ chain d e.at') = bc at *
    cases bc
    all_goals
      simp -dsimp -implicitDefEqProofs (disch := omega) only [VCA, Nat.reduceAdd, Nat.reduceLeDiff, ↓reduceIte, he3, eEdit, c5]
      repeat' (first | ((with_reducible refine brC (fun _ => ?_) fun _ => ?_) <;> try (exfalso; omega)) | (with_reducible refine And.intro ?_ ?_; · omega) | simp -dsimp -implicitDefEqProofs (disch := omega) only [↓vcOps_sp 76, VCA, Nat.reduceEqDiff, Nat.reduceAdd, Nat.reduceLT, Nat.reduceLeDiff, ↓reduceIte, setAt, exists_eq_left', eDoc, he2, he3, he6, hr6, eEdit, eNode, c5])
      intro r9 hr9
      have n69 : ¬ r6 = r9 := fun e => by rw [← e, hr6] at hr9; cases hr9
      have n96 : ¬ r9 = r6 := fun e => n69 e.symm
      repeat' (first | ((with_reducible refine brC (fun _ => ?_) fun _ => ?_) <;> try (exfalso; omega)) | (with_reducible apply pcallE.of; · exact hP) | (with_reducible apply pcallE.of; · exact hU) | (with_reducible refine And.intro ?_ ?_; · omega) | simp -dsimp -implicitDefEqProofs (disch := omega) only [↓vcOps_sp 81, ↓vcOps_sp 85, ↓vcOps_sp 97, VCA, Nat.reduceEqDiff, Nat.reduceAdd, Nat.reduceLT, Nat.reduceLeDiff, ↓reduceIte, exists_eq_right_right, exists_eq_left', eDoc, he2, he3, he6, hr6, n69, eEdit, c5, et])
      all_goals first | (rw [hE]; ((repeat' split) <;> first | with_reducible rfl | (exfalso; omega) | contradiction); done) | (refine ⟨S.upd (S.none hr9), ?_⟩; rw [hE]; ((repeat' split) <;> first | with_reducible rfl | (exfalso; omega) | contradiction); done) | trace_state
  have s4 : 1 ≤ e.do' → e.do' ≤ 6 → e.do' ≠ 4 → ∀ E : Env, E 2 = .pin (eDoc d) → E 3 = .pin (eEdit e) → E 5 = aInt d.nodes.length → vc (Pg G) c58_s4 (retK [.tmp 4] fun r h' => r = aInt (errR d e) ∧ h' = h) E h := by
    intro h1 h6 h4 E he2 he3 he5
    unfold c58_s4
    skip
    have ea : nth d.nodes e.at'.toNat = nd d e.at' := rfl
    have hA : PCalls (Pg G) 94 [sl eAttr (nd d e.at').attrs, .str e.name] (.tup [.str (attrOfM (nd d e.at').attrs e.name).1, .bool (attrOfM (nd d e.at').attrs e.name).2]) := attrOf_ok (G := G) _ e.name (sm.nd _).attrs
    rw [attrOf_has] at hA
    simp -dsimp -implicitDefEqProofs (disch := omega) only [VCA, Nat.reduceEqDiff, Nat.reduceAdd, Nat.reduceLeDiff, ↓reduceIte, he3, he5, eEdit]
    repeat' (first | ((with_reducible refine brC (fun _ => ?_) fun _ => ?_) <;> try (exfalso; omega)) | (with_reducible apply pcallE.of; · exact hB2) | (with_reducible apply pcallE.of; · exact hB3) | (with_reducible refine And.intro ?_ ?_; · omega) | simp -dsimp -implicitDefEqProofs (disch := omega) only [↓vcOps_sp 38, ↓vcOps_sp 42, VCA, Nat.reduceEqDiff, Nat.reduceAdd, Nat.reduceLT, Nat.reduceLeDiff, ↓reduceIte, setAt, exists_eq_right_right, exists_eq_left', eDoc, he2, he3, he5, eEdit, eNode, ea])
    · exact ⟨Sub.refl _, (errR_in h1 h6 h4 (.inl (by unfold inD; omega))).symm⟩
    · exact ⟨Sub.refl _, (errR_in h1 h6 h4 (.inr (by unfold inD; omega))).symm⟩
    all_goals
      rename_i qq
      intro r6 hr6
      repeat' (first | ((with_reducible refine brC (fun _ => ?_) fun _ => ?_) <;> try (exfalso; omega)) | (with_reducible apply pcallE.of; · exact hA) | (with_reducible refine And.intro ?_ ?_; · omega) | simp -dsimp -implicitDefEqProofs (disch := omega) only [VCA, Nat.reduceEqDiff, Nat.reduceAdd, Nat.reduceLT, ↓reduceIte])
      exact s7 (by unfold inD; omega) (fun h5 => by unfold inD; omega) h1 h6 h4 _ _ r6 (upd_same _ _ _) ((Sub.refl _).upd hr6) he2 he3 rfl rfl
  refine dcalls_of_vc Tryz.func58 hn58 hc58 (by rw [Tryz.ntmps58]; simp) (by rw [Tryz.ntmps58]; decide) ?_
  simp -dsimp -implicitDefEqProofs (disch := omega) only [VCA, Nat.reduceEqDiff, Nat.reduceAdd, Nat.reduceLeDiff, ↓reduceIte, eDoc, c58, eEdit]
  unfold eNode at hN
  repeat' (first | ((with_reducible refine brC (fun _ => ?_) fun _ => ?_) <;> try (exfalso; omega)) | (with_reducible apply pcallE.of; · exact hB1) | (with_reducible apply pcallE.of; · exact hN) | (with_reducible refine And.intro ?_ ?_; · omega) | simp -dsimp -implicitDefEqProofs (disch := omega) only [VCA, Nat.reduceEqDiff, Nat.reduceAdd, Nat.reduceLeDiff, ↓reduceIte, exists_eq_right_right])
  · rename_i q
    exact ⟨Sub.refl _, by unfold errR; rw [if_pos q]⟩
  · rename_i q1 q2 q3
    exact ⟨Sub.refl _, by rw [errR_4 q2, if_pos q3]⟩
  · rename_i q1 q2 q3 q4
    exact ⟨Sub.refl _, by rw [errR_4 q2, if_neg q3, if_pos q4]⟩
  · rename_i q1 q2 q3 q4
    exact ⟨Sub.refl _, by rw [errR_4 q2, if_neg q3, if_neg q4]⟩
  · rename_i q1 q2
    exact s4 q1.1 q1.2 q2 _ rfl rfl rfl
end Go.Proofs.K
end
section
set_option linter.unusedSimpArgs false
set_option linter.unusedVariables false
namespace Go.Proofs.K
open Go Go.Sim Go.Proofs
variable {G : Glob}
theorem DocSm.setN {d : HDoc} {x : HNode} {n : Int} (sm : DocSm d) (hx : NodeSm x) : DocSm (setN d n x) := ⟨by rw [setN_len]; exact sm.len, fun y hy => by
  rcases List.mem_or_eq_of_mem_set hy with h | h
  · exact sm.each y h
  · exact h ▸ hx⟩
theorem edit_sm {d : HDoc} (V : DV d) (sm : DocSm d) {e : HEdit} (he : EditSm e) (h0 : errR d e = 0) : DocSm (editD d e) := by
  have kl : ∀ n, (nd d n).kids.length ≤ 1073741823 := fun n => by
    by_cases hn : inD d n
    · have := nodup_len d.nodes.length (nd d n).kids (V.nodup n hn) (fun k hk => (V.kid n hn k hk).1)
      have := V.len
      omega
    · have : (nd d n).kids = [] ∨ inD d n.toNat := by
        by_cases h : n.toNat < d.nodes.length
        · exact .inr (inD_nat.2 h)
        · left; unfold nd; rw [nth_def h]; rfl
      rcases this with h | h
      · rw [h]; decide
      · have h2 := nodup_len d.nodes.length (nd d n.toNat).kids (V.nodup _ h) (fun k hk => (V.kid _ h k hk).1)
        have : nd d (n.toNat : Int) = nd d n := by unfold nd; rw [Int.toNat_natCast]
        rw [this] at h2
        have := V.len
        omega
  have ns := fun n => sm.nd n
  unfold editD
  split
  · rename_i h1
    have ha : inD d e.at' := by
      apply Classical.byContradiction; intro ha
      rw [errR_in (by omega) (by omega) (by omega) (.inl ha)] at h0; omega
    have al := ((attrsE_iff _).1 ((nodeE_iff _).1 (V.node _ ha)).2.2.2.1).1
    refine sm.setN ⟨(ns _).name, ?_, ?_, (ns _).text, (ns _).kids⟩
    · unfold setAttr; split
      · rw [List.length_set]; omega
      · rw [List.length_append, List.length_singleton]; omega
    · intro a ha
      have : a ∈ (nd d e.at').attrs ∨ a = ⟨e.name, e.value⟩ := by
        unfold setAttr at ha; split at ha
        · exact List.mem_or_eq_of_mem_set ha
        · rcases List.mem_append.1 ha with h | h
          · exact .inl h
          · exact .inr (by simpa using h)
      rcases this with h | h
      · exact (ns _).each a h
      · subst h; exact ⟨he.name, he.value⟩
  split
  · refine sm.setN ⟨(ns _).name, ?_, ?_, (ns _).text, (ns _).kids⟩
    · have := (ns e.at').attrs
      unfold dropAttr; rw [List.length_append, List.length_take, List.length_drop]; omega
    · intro a ha
      refine (ns e.at').each a ?_
      unfold dropAttr at ha
      rcases List.mem_append.1 ha with h | h
      · exact List.mem_of_mem_take h
      · exact List.mem_of_mem_drop h
  split
  · exact sm.setN ⟨(ns _).name, (ns _).attrs, (ns _).each, he.value, (ns _).kids⟩
  split
  · refine ⟨by rw [addN_len]; have := V.len; omega, fun y hy => ?_⟩
    rcases List.mem_append.1 hy with h | h
    · exact sm.each y h
    · have : y = madeM e.node := by simpa using h
      subst this
      exact ⟨he.node.name, he.node.attrs, he.node.each, he.node.text, Nat.zero_le _⟩
  split
  · unfold hung
    refine DocSm.setN (DocSm.setN sm ⟨(ns e.at').name, (ns e.at').attrs, (ns e.at').each, (ns e.at').text, ?_⟩) ⟨(ns e.to).name, (ns e.to).attrs, (ns e.to).each, (ns e.to).text, (ns e.to).kids⟩
    have := kl e.at'
    show (List.take _ _ ++ _ :: List.drop _ _).length ≤ _
    rw [List.length_append, List.length_cons, List.length_take, List.length_drop]; omega
  · unfold cutN
    refine DocSm.setN (DocSm.setN sm ⟨(ns (nd d e.at').parent).name, (ns (nd d e.at').parent).attrs, (ns (nd d e.at').parent).each, (ns (nd d e.at').parent).text, ?_⟩) ⟨(ns e.at').name, (ns e.at').attrs, (ns e.at').each, (ns e.at').text, (ns e.at').kids⟩
    show (List.take _ _ ++ List.drop _ _).length ≤ _
    have := kl (nd d e.at').parent
    rw [List.length_append, List.length_take, List.length_drop]; omega
theorem apply_by {d : HDoc} (V : DV d) {e : HEdit} (h0 : errR d e = 0) : (docE (editD d e) ≠ 0 → applyE d e = 2) ∧ (docE (editD d e) = 0 → applyE d e = 0) := by
  have hd := (docE_iff d).2 V
  have aE : applyE d e = editE d e := by unfold applyE; rw [if_neg (by simpa using hd)]
  have h1 := edit_DV V e h0
  rw [← docE_iff] at h1
  rw [aE]
  refine ⟨fun h => ?_, fun h => h1.1 h⟩
  rcases (editE_errR V e).2 h0 with h2 | h2
  · exact absurd (h1.2 h2) h
  · exact h2
theorem apply_err {d : HDoc} (V : DV d) {e : HEdit} (h0 : errR d e ≠ 0) : applyE d e = errR d e := by
  have hd := (docE_iff d).2 V
  unfold applyE; rw [if_neg (by simpa using hd)]
  exact (editE_errR V e).1 h0
theorem Fresh.vw {α : Type} [Inhabited α] {enc : α → List AVal} {h h' : Heap} {ty sz : Nat} [LenE enc sz] {l : List α} {a : AVal} (F : Fresh h h' ty sz (l.map enc) a) : Vw (newH h h') a (sl enc l) :=
  (F.own.keep fun r o hr ho => by rw [newH_none (F.new r hr)]; exact ho).vw
def Vz (a b : AVal) : Prop := ∀ h, Vw h a b
theorem Vz.refl (a : AVal) : Vz a a := fun h => .refl a
theorem Vz.emp : Vz .emp (.slc []) := fun h => .emp
theorem F2.imp' {α : Type} {R S : α → α → Prop} (hi : ∀ a b, R a b → S a b) {l m : List α} (h : F2 R l m) : F2 S l m := by
  induction h with
  | nil => exact .nil
  | cons h _ ih => exact .cons (hi _ _ h) ih
theorem F2.app {α : Type} {R : α → α → Prop} {l m l2 m2 : List α} (h : F2 R l m) (h2 : F2 R l2 m2) : F2 R (l ++ l2) (m ++ m2) := by
  induction h with
  | nil => exact h2
  | cons h _ ih => exact .cons h ih
theorem OwnS.vwk {α : Type} [Inhabited α] {enc : α → List AVal} {h : Heap} {ty sz : Nat} [LenE enc sz] {l : List α} {cells : List (List AVal)} {a : AVal} (O : OwnS h ty sz cells a) (M : Mut a) (hc : F2 (F2 Vz) cells (l.map enc)) : Vw h a (sl enc l) := by
  rcases O.live M with ⟨h1, h2⟩ | ⟨r, es, ha, hr, h1, h2⟩
  · subst h1
    have : l = [] := by
      have := hc.len
      rw [List.length_map] at this
      exact List.eq_nil_of_length_eq_zero this.symm
    subst this; subst h2; exact .emp
  · subst ha
    refine Vw.osl0 hr hc.len.symm h1 (fun f hf => by obtain ⟨x, _, rfl⟩ := List.mem_map.1 hf; exact LenE.len x) ?_
    show F2 _ (es.take _) _
    rw [h2]
    exact F2.imp' (fun _ _ hb => F2.imp' (fun _ _ hw => hw h) hb) hc
theorem Fresh.vwk {α : Type} [Inhabited α] {enc : α → List AVal} {h h' : Heap} {ty sz : Nat} [LenE enc sz] {l : List α} {cells : List (List AVal)} {a : AVal} (F : Fresh h h' ty sz cells a) (hc : F2 (F2 Vz) cells (l.map enc)) : Vw (newH h h') a (sl enc l) :=
  OwnS.vwk (F.own.keep fun r o hr ho => by rw [newH_none (F.new r hr)]; exact ho) F.live hc
theorem wks_refl (l : List (List AVal)) : F2 (F2 Vz) l l := F2.refl (fun a => F2.refl (fun x => .refl x) a) l
def edR (d : HDoc) (e : HEdit) : AVal := .tup [.agg (eDoc (applyD d e)), aInt (applyN d e), aInt (applyE d e)]
def EdK (d : HDoc) (e : HEdit) (h : Heap) (a : AVal) (h' : Heap) : Prop := Sub h h' ∧ VwT (newH h h') a (edR d e)
def c26_s6 : SCode := (.seq (.seq (.reg [⟨some 199, .ld 2 true (.t 8), none⟩, ⟨some 200, .call (.c (.fn 48 [] [])) [.t 199], none⟩, ⟨some 201, .bin .neq (.t 200) (.c (.int .i64 0)), none⟩]) (.cond (.t 201) (.seq (.reg [⟨some 202, .bld [.emp, .bool false] [], none⟩, ⟨none, .st 2 (.t 4) (.t 202), none⟩, ⟨some 5, .mv (.c (.int .i64 0)), none⟩, ⟨some 6, .mv (.c (.int .i64 2)), none⟩]) .ret) .skip)) (.seq (.reg [⟨some 203, .ld 2 true (.t 8), none⟩, ⟨some 204, .mv (.t 9), none⟩, ⟨none, .st 2 (.t 4) (.t 203), none⟩, ⟨some 5, .mv (.t 204), none⟩, ⟨some 6, .mv (.c (.int .i64 0)), none⟩]) .ret))
def c26_s5 : SCode := (.seq (.seq (.reg [⟨some 26, .fldA 0 (.t 3), none⟩, ⟨some 27, .ld 1 false (.t 26), none⟩, ⟨some 28, .bin .eql (.t 27) (.c (.int .i64 4)), none⟩]) (.cond (.t 28) (.seq (.reg [⟨some 29, .fldA 0 (.t 8), none⟩, ⟨some 30, .ld 1 false (.t 29), none⟩, ⟨some 31, .len (.t 30), none⟩, ⟨some 9, .mv (.t 31), none⟩]) (.dreg [(⟨some 32, .fldA 0 (.t 8), none⟩, none), (⟨some 33, .ld 1 false (.t 32), none⟩, none), (⟨some 34, .fldA 6 (.t 3), none⟩, none), (⟨some 35, .fldA 0 (.t 34), none⟩, none), (⟨some 36, .ld 1 false (.t 35), none⟩, none), (⟨some 37, .fldA 6 (.t 3), none⟩, none), (⟨some 38, .fldA 1 (.t 37), none⟩, none), (⟨some 39, .ld 1 false (.t 38), none⟩, none), (⟨some 40, .bldF 96 2 [], none⟩, none), (⟨some 41, .fldA 6 (.t 3), none⟩, none), (⟨some 42, .fldA 2 (.t 41), none⟩, none), (⟨some 43, .ld 1 false (.t 42), none⟩, none), (⟨some 45, .fldA 6 (.t 3), none⟩, none), (⟨some 46, .fldA 3 (.t 45), none⟩, none), (⟨some 47, .ld 1 false (.t 46), none⟩, none), (⟨some 44, .appF 96 2 32 (.t 40) (.t 43), none⟩, (some [43])), (⟨some 48, .bld [.int .i64 0, .str [], .emp, .str [], .int .i64 0, .emp] [(0, (1, (.t 36))), (1, (1, (.t 39))), (2, (1, (.t 44))), (3, (1, (.t 47))), (4, (1, (.c (.int .i64 (-1)))))], none⟩, none), (⟨some 49, .bldF 40 6 [.t 48], none⟩, none), (⟨some 50, .app 40 6 96 (.t 33) (.t 49), none⟩, (some [33, 36, 39, 47, 43])), (⟨some 51, .fldA 0 (.t 8), none⟩, none), (⟨none, .st 1 (.t 51) (.t 50), none⟩, (some [33, 36, 39, 47, 43]))])) (.seq (.reg [⟨some 52, .fldA 0 (.t 8), none⟩, ⟨some 53, .ld 1 false (.t 52), none⟩, ⟨some 54, .fldA 1 (.t 3), none⟩, ⟨some 55, .ld 1 false (.t 54), none⟩, ⟨some 56, .idxA 6 (.t 53) (.t 55), none⟩, ⟨some 57, .ld 6 true (.t 56), none⟩, ⟨some 10, .new 40 6 [.int .i64 0, .str [], .emp, .str [], .int .i64 0, .emp], none⟩, ⟨none, .st 6 (.t 10) (.t 57), none⟩]) (.seq (.reg [⟨some 11, .mv (.c .emp), none⟩]) (.seq (.reg [⟨some 12, .mv (.c (.bool false)), none⟩]) (.seq (.seq (.reg [⟨some 13, .mv (.c (.int .i64 0)), none⟩]) (.block 0 (.loop (.seq (.seq (.reg [⟨some 58, .mv (.t 13), none⟩, ⟨some 59, .fldA 2 (.t 10), none⟩, ⟨some 60, .ld 1 false (.t 59), none⟩, ⟨some 61, .len (.t 60), none⟩, ⟨some 62, .bin .lss (.t 58) (.t 61), none⟩]) (.cond (.t 62) .skip (.exit 0))) (.seq (.block 1 (.seq (.reg [⟨some 65, .fldA 2 (.t 10), none⟩, ⟨some 66, .ld 1 false (.t 65), none⟩, ⟨some 67, .mv (.t 13), none⟩, ⟨some 68, .idxA 2 (.t 66) (.t 67), none⟩, ⟨some 69, .ld 2 true (.t 68), none⟩, ⟨some 14, .new 96 2 [.str [], .str []], none⟩, ⟨none, .st 2 (.t 14) (.t 69), none⟩]) (.seq (.seq (.reg [⟨some 70, .fldA 0 (.t 14), none⟩, ⟨some 71, .ld 1 false (.t 70), none⟩, ⟨some 72, .fldA 4 (.t 3), none⟩, ⟨some 73, .ld 1 false (.t 72), none⟩, ⟨some 74, .bin .eql (.t 71) (.t 73), none⟩, ⟨some 75, .mv (.t 74), none⟩, ⟨some 76, .fldA 0 (.t 3), some (75, true)⟩, ⟨some 77, .ld 1 false (.t 76), some (75, true)⟩, ⟨some 78, .bin .eql (.t 77) (.c (.int .i64 1)), some (75, true)⟩, ⟨some 79, .pick (.t 75) (.t 78) (.c (.bool false)), none⟩]) (.cond (.t 79) (.seq (.reg [⟨some 80, .fldA 5 (.t 3), none⟩, ⟨some 81, .ld 1 false (.t 80), none⟩, ⟨some 82, .fldA 1 (.t 14), none⟩, ⟨none, .st 1 (.t 82) (.t 81), none⟩]) (.reg [⟨some 12, .mv (.c (.bool true)), none⟩])) .skip)) (.seq (.reg [⟨some 83, .fldA 0 (.t 14), none⟩, ⟨some 84, .ld 1 false (.t 83), none⟩, ⟨some 85, .fldA 4 (.t 3), none⟩, ⟨some 86, .ld 1 false (.t 85), none⟩, ⟨some 87, .bin .neq (.t 84) (.t 86), none⟩, ⟨some 88, .mv (.t 87), none⟩, ⟨some 89, .fldA 0 (.t 3), some (88, false)⟩, ⟨some 90, .ld 1 false (.t 89), some (88, false)⟩, ⟨some 91, .bin .neq (.t 90) (.c (.int .i64 2)), some (88, false)⟩, ⟨some 92, .pick (.t 88) (.c (.bool true)) (.t 91), none⟩]) (.cond (.t 92) (.reg [⟨some 93, .mv (.t 11), none⟩, ⟨some 94, .ld 2 true (.t 14), none⟩, ⟨some 95, .bldF 96 2 [.t 94], none⟩, ⟨some 96, .app 96 2 32 (.t 93) (.t 95), none⟩, ⟨some 11, .mv (.t 96), none⟩]) .skip))))) (.reg [⟨some 63, .mv (.t 13), none⟩, ⟨some 64, .bin .add (.t 63) (.c (.int .i64 1)), none⟩, ⟨some 13, .mv (.t 64), none⟩])))))) (.seq (.seq (.reg [⟨some 97, .fldA 0 (.t 3), none⟩, ⟨some 98, .ld 1 false (.t 97), none⟩, ⟨some 99, .bin .eql (.t 98) (.c (.int .i64 1)), none⟩, ⟨some 100, .mv (.t 99), none⟩, ⟨some 101, .mv (.t 12), some (100, true)⟩, ⟨some 102, .un .not (.t 101), some (100, true)⟩, ⟨some 103, .pick (.t 100) (.t 102) (.c (.bool false)), none⟩]) (.cond (.t 103) (.reg [⟨some 104, .mv (.t 11), none⟩, ⟨some 105, .fldA 4 (.t 3), none⟩, ⟨some 106, .ld 1 false (.t 105), none⟩, ⟨some 107, .fldA 5 (.t 3), none⟩, ⟨some 108, .ld 1 false (.t 107), none⟩, ⟨some 109, .bld [.str [], .str []] [(0, (1, (.t 106))), (1, (1, (.t 108)))], none⟩, ⟨some 110, .bldF 96 2 [.t 109], none⟩, ⟨some 111, .app 96 2 32 (.t 104) (.t 110), none⟩, ⟨some 11, .mv (.t 111), none⟩]) .skip)) (.seq (.seq (.reg [⟨some 112, .fldA 0 (.t 3), none⟩, ⟨some 113, .ld 1 false (.t 112), none⟩, ⟨some 114, .bin .eql (.t 113) (.c (.int .i64 1)), none⟩, ⟨some 115, .mv (.t 114), none⟩, ⟨some 116, .fldA 0 (.t 3), some (115, false)⟩, ⟨some 117, .ld 1 false (.t 116), some (115, false)⟩, ⟨some 118, .bin .eql (.t 117) (.c (.int .i64 2)), some (115, false)⟩, ⟨some 119, .pick (.t 115) (.c (.bool true)) (.t 118), none⟩]) (.cond (.t 119) (.reg [⟨some 120, .frz (.t 11), none⟩, ⟨some 121, .fldA 2 (.t 10), none⟩, ⟨none, .st 1 (.t 121) (.t 120), none⟩]) .skip)) (.seq (.seq (.reg [⟨some 122, .fldA 0 (.t 3), none⟩, ⟨some 123, .ld 1 false (.t 122), none⟩, ⟨some 124, .bin .eql (.t 123) (.c (.int .i64 3)), none⟩]) (.cond (.t 124) (.reg [⟨some 125, .fldA 5 (.t 3), none⟩, ⟨some 126, .ld 1 false (.t 125), none⟩, ⟨some 127, .fldA 3 (.t 10), none⟩, ⟨none, .st 1 (.t 127) (.t 126), none⟩]) .skip)) (.seq (.seq (.reg [⟨some 128, .fldA 0 (.t 3), none⟩, ⟨some 129, .ld 1 false (.t 128), none⟩, ⟨some 130, .bin .eql (.t 129) (.c (.int .i64 5)), none⟩]) (.cond (.t 130) (.seq (.reg [⟨some 131, .fldA 5 (.t 10), none⟩, ⟨some 132, .ld 1 false (.t 131), none⟩, ⟨some 133, .len (.t 132), none⟩, ⟨some 15, .mv (.t 133), none⟩]) (.seq (.seq (.reg [⟨some 134, .fldA 3 (.t 3), none⟩, ⟨some 135, .ld 1 false (.t 134), none⟩, ⟨some 136, .bin .neq (.t 135) (.c (.int .i64 (-1))), none⟩]) (.cond (.t 136) (.reg [⟨some 137, .fldA 5 (.t 10), none⟩, ⟨some 138, .ld 1 false (.t 137), none⟩, ⟨some 139, .fldA 3 (.t 3), none⟩, ⟨some 140, .ld 1 false (.t 139), none⟩, ⟨some 141, .pcall 60 [.t 138, .t 140], none⟩, ⟨some 15, .mv (.t 141), none⟩]) .skip)) (.seq (.dreg [(⟨some 142, .bldF 3 1 [], none⟩, none), (⟨some 143, .fldA 5 (.t 10), none⟩, none), (⟨some 144, .ld 1 false (.t 143), none⟩, none), (⟨some 145, .mv (.t 15), none⟩, none), (⟨some 146, .slA 1 (.t 144) none (some (.t 145)), none⟩, none), (⟨some 148, .fldA 2 (.t 3), none⟩, none), (⟨some 149, .ld 1 false (.t 148), none⟩, none), (⟨some 150, .bldF 3 1 [.t 149], none⟩, none), (⟨some 152, .fldA 5 (.t 10), none⟩, none), (⟨some 153, .ld 1 false (.t 152), none⟩, none), (⟨some 154, .mv (.t 15), none⟩, none), (⟨some 155, .slA 1 (.t 153) (some (.t 154)) none, none⟩, none), (⟨some 147, .app 3 1 8 (.t 142) (.t 146), none⟩, (some [144])), (⟨some 151, .app 3 1 8 (.t 147) (.t 150), none⟩, (some [149, 144])), (⟨some 156, .appF 3 1 8 (.t 151) (.t 155), none⟩, (some [153, 149, 144])), (⟨some 157, .fldA 5 (.t 10), none⟩, none), (⟨none, .st 1 (.t 157) (.t 156), none⟩, (some [153, 149, 144]))]) (.reg [⟨some 158, .fldA 0 (.t 8), none⟩, ⟨some 159, .ld 1 false (.t 158), none⟩, ⟨some 160, .fldA 2 (.t 3), none⟩, ⟨some 161, .ld 1 false (.t 160), none⟩, ⟨some 162, .fldA 1 (.t 3), none⟩, ⟨some 163, .ld 1 false (.t 162), none⟩, ⟨some 164, .idxA 6 (.t 159) (.t 161), none⟩, ⟨some 165, .fldA 4 (.t 164), none⟩, ⟨none, .st 1 (.t 165) (.t 163), none⟩])))) .skip)) (.seq (.seq (.reg [⟨some 166, .fldA 0 (.t 3), none⟩, ⟨some 167, .ld 1 false (.t 166), none⟩, ⟨some 168, .bin .eql (.t 167) (.c (.int .i64 6)), none⟩]) (.cond (.t 168) (.seq (.reg [⟨some 169, .fldA 4 (.t 10), none⟩, ⟨some 170, .ld 1 false (.t 169), none⟩, ⟨some 16, .mv (.t 170), none⟩]) (.seq (.dreg [(⟨some 171, .fldA 0 (.t 8), none⟩, none), (⟨some 172, .ld 1 false (.t 171), none⟩, none), (⟨some 173, .mv (.t 16), none⟩, none), (⟨some 174, .fldA 0 (.t 8), none⟩, none), (⟨some 175, .ld 1 false (.t 174), none⟩, none), (⟨some 176, .mv (.t 16), none⟩, none), (⟨some 177, .idxA 6 (.t 175) (.t 176), none⟩, none), (⟨some 178, .fldA 5 (.t 177), none⟩, none), (⟨some 179, .ld 1 false (.t 178), none⟩, none), (⟨some 180, .fldA 0 (.t 8), none⟩, none), (⟨some 181, .ld 1 false (.t 180), none⟩, none), (⟨some 182, .mv (.t 16), none⟩, none), (⟨some 183, .idxA 6 (.t 181) (.t 182), none⟩, none), (⟨some 184, .fldA 5 (.t 183), none⟩, none), (⟨some 185, .ld 1 false (.t 184), none⟩, none), (⟨some 186, .fldA 1 (.t 3), none⟩, none), (⟨some 187, .ld 1 false (.t 186), none⟩, none), (⟨some 188, .pcall 60 [.t 185, .t 187], none⟩, none), (⟨some 189, .pcall 61 [.t 179, .t 188], none⟩, none), (⟨some 190, .idxA 6 (.t 172) (.t 173), none⟩, none), (⟨some 191, .fldA 5 (.t 190), none⟩, none), (⟨none, .st 1 (.t 191) (.t 189), none⟩, (some [172, 179, 175, 185, 187, 181]))]) (.reg [⟨some 192, .fldA 4 (.t 10), none⟩, ⟨none, .st 1 (.t 192) (.c (.int .i64 (-1))), none⟩]))) .skip)) (.reg [⟨some 193, .fldA 0 (.t 8), none⟩, ⟨some 194, .ld 1 false (.t 193), none⟩, ⟨some 195, .fldA 1 (.t 3), none⟩, ⟨some 196, .ld 1 false (.t 195), none⟩, ⟨some 197, .ld 6 true (.t 10), none⟩, ⟨some 198, .idxA 6 (.t 194) (.t 196), none⟩, ⟨none, .st 6 (.t 198) (.t 197), none⟩])))))))))))) c26_s6)
def c26 : SFun := ⟨.seq (.reg [⟨some 2, .boxF 24 2 (.t 0), none⟩, ⟨some 3, .boxF 42 12 (.t 1), none⟩, ⟨some 4, .new 24 2 [.emp, .bool false], none⟩, ⟨some 5, .mv (.c (.int .i64 0)), none⟩, ⟨some 6, .mv (.c (.int .i64 0)), none⟩]) (.seq (.reg [⟨some 17, .ld 2 true (.t 2), none⟩, ⟨some 18, .ld 12 true (.t 3), none⟩, ⟨some 19, .pcall 58 [.t 17, .t 18], none⟩, ⟨some 7, .mv (.t 19), none⟩]) (.seq (.seq (.reg [⟨some 20, .mv (.t 7), none⟩, ⟨some 21, .bin .neq (.t 20) (.c (.int .i64 0)), none⟩]) (.cond (.t 21) (.seq (.reg [⟨some 22, .bld [.emp, .bool false] [], none⟩, ⟨some 23, .mv (.t 7), none⟩, ⟨none, .st 2 (.t 4) (.t 22), none⟩, ⟨some 5, .mv (.c (.int .i64 0)), none⟩, ⟨some 6, .mv (.t 23), none⟩]) .ret) .skip)) (.seq (.reg [⟨some 24, .ld 2 true (.t 2), none⟩, ⟨some 25, .call (.c (.fn 59 [] [])) [.t 24], none⟩, ⟨some 8, .new 24 2 [.emp, .bool false], none⟩, ⟨none, .st 2 (.t 8) (.t 25), none⟩]) (.seq (.reg [⟨some 9, .mv (.c (.int .i64 0)), none⟩]) c26_s5)))), [.cell 4 2 true, .tmp 5, .tmp 6]⟩
theorem hc26 : toSF Tryz.prog {pure := [58, 60, 61], how := [(44, 8), (120, 8), (156, 8)]} Tryz.f26 = some c26 := by kernel_rfl
theorem hn26 : (Tryz.f26.name == "runtime.NumGoroutine") = false := by kernel_rfl
theorem edited_end {d : HDoc} (V : DV d) (sm : DocSm d) {e : HEdit} (he : EditSm e) (h0 : errR d e = 0) {h h2 : Heap} {b : AVal} {cells : List (List AVal)} {E : Env} {r4 r8 : Nat}
    (S : Sub h h2) (F : Fresh h h2 40 6 cells b) (hc : F2 (F2 Vz) cells ((editD d e).nodes.map eNode)) (h4 : h r4 = none) (g4 : h2 r4 = some ⟨.t 24, 2, [[.emp, .bool false]]⟩) (g8 : h2 r8 = some ⟨.t 24, 2, [[b, .bool d.quirks]]⟩) (n4 : rootOf b ≠ some r4)
    (e4 : E 4 = .vp r4 0) (e8 : E 8 = .vp r8 0) (e9 : E 9 = aInt (editN d e)) :
    vc (Pg G) c26_s6 (retK [.cell 4 2 true, .tmp 5, .tmp 6] (EdK d e h)) E h2 := by
  have sE := edit_sm V sm he h0
  have hD := docErr_ok (G := G) (editD d e) sE
  have hq : (editD d e).quirks = d.quirks := by unfold editD; (repeat' split) <;> rfl
  obtain ⟨a1, a2⟩ := apply_by V h0
  have hB := DCalls.bor hD (h := h2) (args := [.agg [b, .bool d.quirks]]) (.int _ _) (.cons (Vw.agg' (.cons (F.own.vwk F.live hc) (.cons (by rw [hq]; exact .refl _) .nil))) .nil)
  unfold c26_s6
  skip
  simp -dsimp -implicitDefEqProofs (disch := omega) only [VCA, Nat.reduceEqDiff, Nat.reduceAdd, Nat.reduceLT, ↓reduceIte, exists_eq_left', e8, g8]
  refine DCalls.of hB ?_
  rintro _ h3 ⟨rfl, rfl⟩
  simp -dsimp -implicitDefEqProofs (disch := omega) only [VCA, ↓reduceIte]
  refine Br.ne (fun h1 => ?_) (fun h1 => ?_)
  · have aE := a1 h1
    have aD : applyD d e = noDoc := by unfold applyD; rw [aE]; rfl
    have aN : applyN d e = 0 := by unfold applyN; rw [aE]; rfl
    simp -dsimp -implicitDefEqProofs (disch := omega) only [VCA, Nat.reduceEqDiff, Nat.reduceAdd, Nat.reduceLT, ↓reduceIte, fillA, okFill, setAt, exists_eq_left', e4, g4]
    refine ⟨_, Sub.refl _, S.upd h4, ?_⟩
    unfold edR
    rw [aD, aN, aE]
    exact .tup' (.cons (vw_noDoc _) (.cons (.refl _) (.cons (.refl _) .nil)))
  · have aE := a2 h1
    have aD : applyD d e = editD d e := by unfold applyD; rw [if_pos aE]
    have aN : applyN d e = editN d e := by unfold applyN; rw [if_pos aE]
    simp -dsimp -implicitDefEqProofs (disch := omega) only [VCA, Nat.reduceEqDiff, Nat.reduceAdd, Nat.reduceLT, ↓reduceIte, setAt, exists_eq_left', e4, e8, e9, g4, g8]
    refine ⟨_, Sub.refl _, S.upd h4, ?_⟩
    unfold edR
    rw [aD, aN, aE]
    have F2 := F.keep (h2 := upd h3 r4 (some ⟨.t 24, 2, [[b, .bool d.quirks]]⟩)) fun r o hr ho => by rw [upd_ne _ _ (fun e => n4 (by rw [hr, e]))]; exact ho
    exact .tup' (.cons (Vw.agg' (.cons (F2.vwk hc) (.cons (by rw [hq]; exact .refl _) .nil))) (.cons (.refl _) (.cons (.refl _) .nil)))
theorem edited_make {d : HDoc} (V : DV d) (sm : DocSm d) {e : HEdit} (he : EditSm e) (h0 : errR d e = 0) (c4 : e.do' = 4) {h h2 : Heap} {b : AVal} {E : Env} {r4 r8 : Nat}
    (S : Sub h h2) (F : Fresh h h2 40 6 (d.nodes.map eNode) b) (h4 : h r4 = none) (h8 : h r8 = none) (g4 : h2 r4 = some ⟨.t 24, 2, [[.emp, .bool false]]⟩) (g8 : h2 r8 = some ⟨.t 24, 2, [[b, .bool d.quirks]]⟩) (n4 : rootOf b ≠ some r4) (n8 : rootOf b ≠ some r8) (n48 : r4 ≠ r8)
    (e3 : E 3 = .pin (eEdit e)) (e4 : E 4 = .vp r4 0) (e8 : E 8 = .vp r8 0) :
    vc (Pg G) c26_s5 (retK [.cell 4 2 true, .tmp 5, .tmp 6] (EdK d e h)) E h2 := by
  have hl := F.own.len
  have vl := V.len
  have sa := he.node.attrs
  unfold c26_s5
  skip
  have hl1 := hl.1
  have hl2 := hl.2
  rw [List.length_map] at hl1
  simp -dsimp -implicitDefEqProofs (disch := omega) only [VCA, Nat.reduceAdd, Nat.reduceLeDiff, ↓reduceIte, e3, eEdit, c4]
  refine Br.eq (fun _ => ?_) (fun h1 => absurd rfl h1)
  simp -dsimp -implicitDefEqProofs (disch := omega) only [VCA, Nat.reduceEqDiff, Nat.reduceBEq, Nat.reduceAdd, Nat.reduceLT, Nat.reduceLeDiff, ↓reduceIte, rsOf, rootsOf, SOp.rd, SI.rd, SX.rd, okParts, fillA, okFill, forall_eq, exists_eq_left, exists_eq_left', rootL, e3, e8, g8, eEdit, c4, hl1, hl2]
  refine ⟨by omega, by omega, ?_⟩
  refine F.own.app F.live (by rw [List.length_map, List.length_singleton]; omega) (by rw [List.length_map, List.length_singleton]; omega) fun r' h3 q1 q2 q3 => ?_
  have k8 := q3 _ _ g8 n8
  have k4 := q3 _ _ g4 n4
  simp -dsimp -implicitDefEqProofs (disch := omega) only [VCA, Nat.reduceEqDiff, Nat.reduceBEq, Nat.reduceAdd, Nat.reduceLT, Nat.reduceLeDiff, ↓reduceIte, rsOf, rootsOf, SOp.rd, SI.rd, SX.rd, setAt, exists_eq_left', rootL, e8, k8]
  have hr' : h r' = none := by
    rcases q2 with e | e
    · exact F.new _ e
    · exact S.none e
  have m4 : r' ≠ r4 := fun e => by
    rcases q2 with e' | e'
    · exact n4 (by rw [e', e])
    · rw [e, g4] at e'; cases e'
  have m8 : r' ≠ r8 := fun e => by
    rcases q2 with e' | e'
    · exact n8 (by rw [e', e])
    · rw [e, g8] at e'; cases e'
  have eD : editD d e = addN d (madeM e.node) := by unfold editD; rw [if_neg (by omega), if_neg (by omega), if_neg (by omega), if_pos c4]
  have eN : editN d e = d.nodes.length := by unfold editN; rw [if_pos c4]
  refine edited_end V sm he h0 (cells := d.nodes.map eNode ++ [[.int .i64 e.node.kind, .str e.node.name, .slc (e.node.attrs.map eAttr), .str e.node.text, .int .i64 (-1), .emp]]) (b := .osl r' 6 0 (d.nodes.length + 1)) (r4 := r4) (r8 := r8) (Sub.upd (fun t o ht => ?_) h8) ⟨.inr ⟨r', hr', (upd_ne _ _ m8).trans q1, ?_⟩⟩ ?_ h4 (by rw [upd_ne _ _ n48]; exact k4) (upd_same _ _ _) (fun e => m4 (by cases e; rfl)) e4 e8 ?_
  · refine q3 t o (S _ _ ht) (fun e => ?_)
    rw [F.new t e] at ht; cases ht
  · rw [List.length_append, List.length_map]; rfl
  · rw [eD]
    show F2 (F2 Vz) _ ((d.nodes ++ [madeM e.node]).map eNode)
    rw [List.map_append]
    exact F2.app (wks_refl _) (.cons (.cons (.refl _) (.cons (.refl _) (.cons (.refl _) (.cons (.refl _) (.cons (.refl _) (.cons .emp .nil)))))) .nil)
  · rw [eN]; rfl
end Go.Proofs.K
end
section
set_option linter.unusedSimpArgs false
set_option linter.unusedVariables false
namespace Go.Proofs.K
open Go Go.Sim Go.Proofs
variable {G : Glob}
theorem wks_eq {l m : List (List AVal)} (h : l = m) : F2 (F2 Vz) l m := h ▸ wks_refl l
theorem errR_at {d : HDoc} {e : HEdit} (h0 : errR d e = 0) (h4 : e.do' ≠ 4) : 1 ≤ e.do' ∧ e.do' ≤ 6 ∧ inD d e.at' ∧ (e.do' = 5 → inD d e.to) := by
  have h16 : 1 ≤ e.do' ∧ e.do' ≤ 6 := by
    apply Classical.byContradiction; intro h
    unfold errR at h0; rw [if_pos h] at h0; omega
  refine ⟨h16.1, h16.2, ?_, fun h5 => ?_⟩
  · apply Classical.byContradiction; intro h
    rw [errR_in h16.1 h16.2 h4 (.inl h)] at h0; omega
  · apply Classical.byContradiction; intro h
    rw [errR_in h16.1 h16.2 h4 (.inr ⟨h5, h⟩)] at h0; omega
def stepA (e : HEdit) (a : HAttr) : List HAttr := if a.name ≠ e.name ∨ e.do' ≠ 2 then [if a.name = e.name ∧ e.do' = 1 then ⟨a.name, e.value⟩ else a] else []
def setA (e : HEdit) (l : List HAttr) : Bool := decide (e.do' = 1) && l.any fun a => a.name == e.name
theorem stepA_len (e : HEdit) (l : List HAttr) : (l.flatMap (stepA e)).length ≤ l.length := by
  induction l with
  | nil => simp
  | cons a l ih =>
    rw [List.flatMap_cons, List.length_append, List.length_cons]
    have : (stepA e a).length ≤ 1 := by unfold stepA; split <;> simp
    omega
theorem errR_5z {d : HDoc} {e : HEdit} (h : e.do' = 5) (ha : inD d e.at') (ht : inD d e.to) (h0 : errR d e = 0) : e.to ∉ chain d e.at' ∧ ¬ (e.before ≠ -1 ∧ idxM (· == e.before) (nd d e.at').kids < 0) := by
  rw [errR_5 h ha ht] at h0
  split at h0
  · omega
  split at h0
  · omega
  split at h0
  · omega
  rename_i h3
  split at h0
  · omega
  rename_i h4
  exact ⟨by simpa using h4, h3⟩
theorem edited_else {d : HDoc} (V : DV d) (sm : DocSm d) {e : HEdit} (he : EditSm e) (h0 : errR d e = 0) (c4 : e.do' ≠ 4) {h h2 : Heap} {b : AVal} {E : Env} {r4 r8 : Nat}
    (S : Sub h h2) (F : Fresh h h2 40 6 (d.nodes.map eNode) b) (h4 : h r4 = none) (h8 : h r8 = none) (g4 : h2 r4 = some ⟨.t 24, 2, [[.emp, .bool false]]⟩) (g8 : h2 r8 = some ⟨.t 24, 2, [[b, .bool d.quirks]]⟩) (n4 : rootOf b ≠ some r4) (n8 : rootOf b ≠ some r8) (n48 : r4 ≠ r8)
    (e3 : E 3 = .pin (eEdit e)) (e4 : E 4 = .vp r4 0) (e8 : E 8 = .vp r8 0) (e9 : E 9 = aInt 0) :
    vc (Pg G) c26_s5 (retK [.cell 4 2 true, .tmp 5, .tmp 6] (EdK d e h)) E h2 := by
  have vl := V.len
  obtain ⟨d1, d6, ha, hto⟩ := errR_at h0 c4
  have a0 := ha.1
  have a1 := ha.2
  have ea : nth d.nodes e.at'.toNat = nd d e.at' := rfl
  obtain ⟨rN, hN0, gN, rfl⟩ := F.acc.pos (by rw [List.length_map]; exact V.pos)
  rw [List.length_map] at *
  have nN4 : rN ≠ r4 := fun e => n4 (by rw [e]; rfl)
  have nN8 : rN ≠ r8 := fun e => n8 (by rw [e]; rfl)
  unfold c26_s5
  skip
  simp -dsimp -implicitDefEqProofs (disch := omega) only [VCA, Nat.reduceAdd, Nat.reduceLeDiff, ↓reduceIte, e3, eEdit]
  refine Br.eq (fun h1 => absurd h1 c4) (fun _ => ?_)
  simp -dsimp -implicitDefEqProofs (disch := omega) only [VCA, Nat.reduceEqDiff, Nat.reduceAdd, Nat.reduceLT, Nat.reduceLeDiff, ↓reduceIte, setAt, exists_eq_left', e3, e8, g8, gN, eEdit, eNode, ea]
  refine ⟨by omega, by omega, fun r10 hr10 => ?_⟩
  have n10 : ∀ t o, h2 t = some o → ¬ t = r10 := fun t o ht e => by rw [e, hr10] at ht; cases ht
  have n410 := n10 _ _ g4
  have n810 := n10 _ _ g8
  have nN10 := n10 _ _ gN
  have al := ((attrsE_iff _).1 ((nodeE_iff _).1 (V.node _ ha)).2.2.2.1).1
  have anod := ((attrsE_iff _).1 ((nodeE_iff _).1 (V.node _ ha)).2.2.2.1).2.2
  have Sb : Sub h2 (upd h2 r10 (some ⟨.t 40, 6, [eNode (nd d e.at')]⟩)) := (Sub.refl h2).upd hr10
  have gb := upd_same h2 r10 (some ⟨.t 40, 6, [eNode (nd d e.at')]⟩)
  show LoopVC _ _ _ (upd h2 r10 (some ⟨.t 40, 6, [eNode (nd d e.at')]⟩))
  generalize upd h2 r10 (some ⟨.t 40, 6, [eNode (nd d e.at')]⟩) = hb at *
  refine LoopVC.intro (fun m E h' => ∃ k : Nat, k ≤ (nd d e.at').attrs.length ∧ m = (nd d e.at').attrs.length - k ∧ E 3 = .pin (eEdit e) ∧ E 4 = .vp r4 0 ∧ E 8 = .vp r8 0 ∧ E 9 = aInt 0 ∧ E 10 = .vp r10 0 ∧ E 12 = .bool (setA e ((nd d e.at').attrs.take k)) ∧ E 13 = aInt k ∧
    Acc hb 96 2 ((((nd d e.at').attrs.take k).flatMap (stepA e)).map eAttr) (E 11) h' ∧ Sub hb h') (nd d e.at').attrs.length
    ⟨0, by omega, by omega, e3, e4, e8, e9, rfl, by (show AVal.bool false = _); simp [setA], rfl, .inl ⟨rfl, rfl⟩, Sub.refl _⟩ ?_
  clear e3 e4 e8 e9
  rintro m E h' ⟨k, hk, rfl, e3, e4, e8, e9, e10, e12, e13, A, S'⟩
  have g10 := S' _ _ gb
  unfold eNode at g10
  simp -dsimp -implicitDefEqProofs (disch := omega) only [VCA, Nat.reduceEqDiff, Nat.reduceAdd, Nat.reduceLT, Nat.reduceLeDiff, ↓reduceIte, exists_eq_left', e10, e13, g10, eEdit]
  refine Br.dec (fun hlt => ?_) (fun hge => ?_)
  · have hk' : k < (nd d e.at').attrs.length := by omega
    have tk : ((nd d e.at').attrs.take (k + 1)).flatMap (stepA e) = ((nd d e.at').attrs.take k).flatMap (stepA e) ++ stepA e (nth (nd d e.at').attrs k) := by rw [take_snoc hk', List.flatMap_append]; simp
    have ts : setA e ((nd d e.at').attrs.take (k + 1)) = (setA e ((nd d e.at').attrs.take k) || (decide (e.do' = 1) && ((nth (nd d e.at').attrs k).name == e.name))) := by unfold setA; rw [take_snoc hk', List.any_append]; cases decide (e.do' = 1) <;> simp
    have tl := stepA_len e ((nd d e.at').attrs.take k)
    rw [List.length_take] at tl
    have tm : ((((nd d e.at').attrs.take k).flatMap (stepA e)).map eAttr).length ≤ 12 := by rw [List.length_map]; omega
    obtain ⟨x, hx⟩ : ∃ x, nth (nd d e.at').attrs k = x := ⟨_, rfl⟩
    rw [hx] at tk ts
    have A14 : ∀ r y, h' r = none → Acc hb 96 2 ((((nd d e.at').attrs.take k).flatMap (stepA e)).map eAttr) (E 11) (upd h' r (some y)) := fun r y hr => by
      rcases A with q | ⟨r', q0, q1, q2⟩
      · exact .inl q
      · exact .inr ⟨r', q0, by rw [upd_ne _ _ (fun e => by rw [e, hr] at q1; cases q1)]; exact q1, q2⟩
    obtain ⟨sx, tk0⟩ : ∃ sx, stepA e x = sx := ⟨_, rfl⟩
    rw [tk0] at tk
    have nx : (x.name == e.name) = true ↔ x.name = e.name := by simp
    cases bn : (x.name == e.name)
    · by_cases c1 : e.do' = 1
      · have b1 : (e.do' == 1) = true := by simp; omega
        have b2 : (e.do' == 2) = false := by simp; omega
        have b2' : (e.do' != 2) = true := by simp; omega
        have bn' : (x.name != e.name) = true := by simp [bne, bn]
        simp -dsimp -implicitDefEqProofs (disch := omega) only [VCA, Nat.reduceEqDiff, Nat.reduceAdd, Nat.reduceLT, Nat.reduceLeDiff, ↓reduceIte, okParts, setAt, forall_eq, exists_eq_left, exists_eq_left', e3, e10, e13, g10, eEdit, eAttr, hx, bn, bn']
        refine ⟨by omega, fun r14 hr14 => ?_⟩
        refine (A14 _ _ hr14).app (S'.upd (S'.none hr14)) (by rw [List.length_singleton]; omega) (by rw [List.length_singleton]; omega) (fun a' h3 A' S3 => ?_)
        rw [show stepA e x = [x] from by unfold stepA; rw [if_pos (.inl (fun h => by rw [nx.2 h] at bn; cases bn)), if_neg (fun h => by rw [nx.2 h.1] at bn; cases bn)]] at tk0
        simp -dsimp -implicitDefEqProofs (disch := omega) only [VCA, Nat.reduceEqDiff, ↓reduceIte, e3, e4, e8, e9, e10, e12, e13, eEdit]
        refine ⟨_, by omega, k + 1, by omega, rfl, by rw [ts, bn]; simp, by omega, ?_, S3⟩
        rw [tk, ← tk0, List.map_append]
        exact A'
      · by_cases c2 : e.do' = 2
        · have b1 : (e.do' == 1) = false := by simp; omega
          have b2 : (e.do' == 2) = true := by simp; omega
          have b2' : (e.do' != 2) = false := by simp; omega
          have bn' : (x.name != e.name) = true := by simp [bne, bn]
          simp -dsimp -implicitDefEqProofs (disch := omega) only [VCA, Nat.reduceEqDiff, Nat.reduceAdd, Nat.reduceLT, Nat.reduceLeDiff, ↓reduceIte, okParts, setAt, forall_eq, exists_eq_left, exists_eq_left', e3, e10, e13, g10, eEdit, eAttr, hx, bn, bn']
          refine ⟨by omega, fun r14 hr14 => ?_⟩
          refine (A14 _ _ hr14).app (S'.upd (S'.none hr14)) (by rw [List.length_singleton]; omega) (by rw [List.length_singleton]; omega) (fun a' h3 A' S3 => ?_)
          rw [show stepA e x = [x] from by unfold stepA; rw [if_pos (.inl (fun h => by rw [nx.2 h] at bn; cases bn)), if_neg (fun h => by rw [nx.2 h.1] at bn; cases bn)]] at tk0
          simp -dsimp -implicitDefEqProofs (disch := omega) only [VCA, Nat.reduceEqDiff, ↓reduceIte, e3, e4, e8, e9, e10, e12, e13, eEdit]
          refine ⟨_, by omega, k + 1, by omega, rfl, by rw [ts, bn]; simp, by omega, ?_, S3⟩
          rw [tk, ← tk0, List.map_append]
          exact A'
        · have b1 : (e.do' == 1) = false := by simp; omega
          have b2 : (e.do' == 2) = false := by simp; omega
          have b2' : (e.do' != 2) = true := by simp; omega
          have bn' : (x.name != e.name) = true := by simp [bne, bn]
          simp -dsimp -implicitDefEqProofs (disch := omega) only [VCA, Nat.reduceEqDiff, Nat.reduceAdd, Nat.reduceLT, Nat.reduceLeDiff, ↓reduceIte, okParts, setAt, forall_eq, exists_eq_left, exists_eq_left', e3, e10, e13, g10, eEdit, eAttr, hx, bn, bn']
          refine ⟨by omega, fun r14 hr14 => ?_⟩
          refine (A14 _ _ hr14).app (S'.upd (S'.none hr14)) (by rw [List.length_singleton]; omega) (by rw [List.length_singleton]; omega) (fun a' h3 A' S3 => ?_)
          rw [show stepA e x = [x] from by unfold stepA; rw [if_pos (.inr c2), if_neg (fun h => c1 h.2)]] at tk0
          simp -dsimp -implicitDefEqProofs (disch := omega) only [VCA, Nat.reduceEqDiff, ↓reduceIte, e3, e4, e8, e9, e10, e12, e13, eEdit]
          refine ⟨_, by omega, k + 1, by omega, rfl, by rw [ts, bn]; simp, by omega, ?_, S3⟩
          rw [tk, ← tk0, List.map_append]
          exact A'
    · by_cases c1 : e.do' = 1
      · have b1 : (e.do' == 1) = true := by simp; omega
        have b2 : (e.do' == 2) = false := by simp; omega
        have b2' : (e.do' != 2) = true := by simp; omega
        have bn' : (x.name != e.name) = false := by simp [bne, bn]
        simp -dsimp -implicitDefEqProofs (disch := omega) only [VCA, Nat.reduceEqDiff, Nat.reduceAdd, Nat.reduceLT, Nat.reduceLeDiff, ↓reduceIte, okParts, setAt, forall_eq, exists_eq_left, exists_eq_left', e3, e10, e13, g10, eEdit, eAttr, hx, bn, bn', b1, b2']
        refine ⟨by omega, fun r14 hr14 => ?_⟩
        refine (A14 _ _ hr14).app (S'.upd (S'.none hr14)) (by rw [List.length_singleton]; omega) (by rw [List.length_singleton]; omega) (fun a' h3 A' S3 => ?_)
        rw [show stepA e x = [⟨x.name, e.value⟩] from by unfold stepA; rw [if_pos (.inr (by omega)), if_pos ⟨nx.1 bn, c1⟩]] at tk0
        simp -dsimp -implicitDefEqProofs (disch := omega) only [VCA, Nat.reduceEqDiff, ↓reduceIte, e3, e4, e8, e9, e10, e13, eEdit]
        refine ⟨_, by omega, k + 1, by omega, rfl, by rw [ts, bn]; simp [c1], by omega, ?_, S3⟩
        rw [tk, ← tk0, List.map_append]
        exact A'
      · by_cases c2 : e.do' = 2
        · have b1 : (e.do' == 1) = false := by simp; omega
          have b2 : (e.do' == 2) = true := by simp; omega
          have b2' : (e.do' != 2) = false := by simp; omega
          have bn' : (x.name != e.name) = false := by simp [bne, bn]
          rw [show stepA e x = [] from by unfold stepA; rw [if_neg (fun h => h.elim (fun h => h (nx.1 bn)) (fun h => h c2))]] at tk0
          simp -dsimp -implicitDefEqProofs (disch := omega) only [VCA, Nat.reduceEqDiff, Nat.reduceAdd, Nat.reduceLT, Nat.reduceLeDiff, ↓reduceIte, setAt, exists_eq_left', e3, e4, e8, e9, e10, e12, e13, g10, eEdit, eAttr, hx, bn, bn', b1, b2']
          refine ⟨by omega, fun r14 hr14 => ?_⟩
          refine ⟨_, by omega, k + 1, by omega, rfl, by rw [ts]; simp [c1], by omega, ?_, S'.upd (S'.none hr14)⟩
          rw [tk, ← tk0, List.append_nil]
          exact A14 _ _ hr14
        · have b1 : (e.do' == 1) = false := by simp; omega
          have b2 : (e.do' == 2) = false := by simp; omega
          have b2' : (e.do' != 2) = true := by simp; omega
          have bn' : (x.name != e.name) = false := by simp [bne, bn]
          simp -dsimp -implicitDefEqProofs (disch := omega) only [VCA, Nat.reduceEqDiff, Nat.reduceAdd, Nat.reduceLT, Nat.reduceLeDiff, ↓reduceIte, okParts, setAt, forall_eq, exists_eq_left, exists_eq_left', e3, e10, e13, g10, eEdit, eAttr, hx, bn, bn', b1, b2']
          refine ⟨by omega, fun r14 hr14 => ?_⟩
          refine (A14 _ _ hr14).app (S'.upd (S'.none hr14)) (by rw [List.length_singleton]; omega) (by rw [List.length_singleton]; omega) (fun a' h3 A' S3 => ?_)
          rw [show stepA e x = [x] from by unfold stepA; rw [if_pos (.inr c2), if_neg (fun h => c1 h.2)]] at tk0
          simp -dsimp -implicitDefEqProofs (disch := omega) only [VCA, Nat.reduceEqDiff, ↓reduceIte, e3, e4, e8, e9, e10, e12, e13, eEdit]
          refine ⟨_, by omega, k + 1, by omega, rfl, by rw [ts]; simp [c1], by omega, ?_, S3⟩
          rw [tk, ← tk0, List.map_append]
          exact A'
  · obtain rfl : k = (nd d e.at').attrs.length := by omega
    rw [List.take_length] at A e12
    have eN0 : editN d e = 0 := by unfold editN; rw [if_neg c4]
    have qq : ∀ x' : HNode, eNode x' = [aInt x'.kind, .str x'.name, sl eAttr x'.attrs, .str x'.text, aInt x'.parent, sl eInt x'.kids] := fun _ => rfl
    have gbN := Sb _ _ gN
    have gb4 := Sb _ _ g4
    have gb8 := Sb _ _ g8
    have fin : ∀ (h5 : Heap) (E5 : Env) (cells' : List (List AVal)), h5 rN = some ⟨.t 40, 6, cells'⟩ → cells'.length = d.nodes.length → (∀ t o, hb t = some o → t ≠ rN → t ≠ r10 → h5 t = some o) → F2 (F2 Vz) cells' ((editD d e).nodes.map eNode) → E5 4 = .vp r4 0 → E5 8 = .vp r8 0 → E5 9 = aInt 0 →
        vc (Pg G) c26_s6 (retK [.cell 4 2 true, .tmp 5, .tmp 6] (EdK d e h)) E5 h5 := fun h5 E5 cells' q1 q2 q3 q4 q5 q6 q7 => by
      refine edited_end V sm he h0 (cells := cells') (b := .osl rN 6 0 d.nodes.length) (r4 := r4) (r8 := r8) (fun t o ht => ?_) ⟨.inr ⟨rN, hN0, q1, by rw [q2]⟩⟩ q4 h4 (q3 _ _ gb4 (fun e => nN4 e.symm) n410) (q3 _ _ gb8 (fun e => nN8 e.symm) n810) (fun e => nN4 (by cases e; rfl)) q5 q6 (by rw [eN0]; exact q7)
      exact q3 t o (Sb _ _ (S _ _ ht)) (fun e => by rw [e, hN0] at ht; cases ht) (n10 _ _ (S _ _ ht))
    have hN' := S' _ _ gbN
    have h4' := S' _ _ gb4
    have h8' := S' _ _ gb8
    have lenN : (d.nodes.map eNode).length = d.nodes.length := by rw [List.length_map]
    have b4 : (e.do' == 4) = false := by simp [c4]
    have m810 : ¬ r10 = r8 := fun h => n810 (Eq.symm h)
    have m410 : ¬ r10 = r4 := fun h => n410 (Eq.symm h)
    have mN10 : ¬ r10 = rN := fun h => nN10 (Eq.symm h)
    have nN8' : ¬ rN = r8 := nN8
    have nN4' : ¬ rN = r4 := nN4
    have mN8 : ¬ r8 = rN := fun h => nN8 h.symm
    have mN4 : ¬ r4 = rN := fun h => nN4 h.symm
    have gat : (d.nodes.map eNode).getD e.at'.toNat [] = [aInt (nd d e.at').kind, .str (nd d e.at').name, sl eAttr (nd d e.at').attrs, .str (nd d e.at').text, aInt (nd d e.at').parent, sl eInt (nd d e.at').kids] := getD_map_enc (by omega)
    by_cases c3 : e.do' = 3
    · have b1 : (e.do' == 1) = false := by simp; omega
      have b2 : (e.do' == 2) = false := by simp; omega
      have b3 : (e.do' == 3) = true := by simp; omega
      have b5 : (e.do' == 5) = false := by simp; omega
      have b6 : (e.do' == 6) = false := by simp; omega
      simp -dsimp -implicitDefEqProofs (disch := omega) only [VCA, Nat.reduceEqDiff, Nat.reduceAdd, Nat.reduceLT, Nat.reduceLeDiff, ↓reduceIte, setAt, exists_eq_left', e3, e8, e10, g10, hN', h8', eEdit, b1, b2, b3, b5, b6, lenN, gat, n810, nN10]
      have eD : editD d e = setN d e.at' { nd d e.at' with text := e.value } := by unfold editD; rw [if_neg (by omega), if_neg (by omega), if_pos c3]
      refine ⟨by omega, by omega, fin _ _ _ (upd_same _ _ _) (by rw [List.length_set]; exact lenN) (fun t o ht h1 h2 => by rw [upd_ne _ _ h1, upd_ne _ _ h2]; exact S' _ _ ht) ?_ e4 e8 e9⟩
      rw [eD]
      show F2 (F2 Vz) _ ((d.nodes.set _ _).map eNode)
      rw [List.map_set]
      exact wks_refl _
    by_cases c6 : e.do' = 6
    · have b1 : (e.do' == 1) = false := by simp; omega
      have b2 : (e.do' == 2) = false := by simp; omega
      have b3 : (e.do' == 3) = false := by simp; omega
      have b5 : (e.do' == 5) = false := by simp; omega
      have b6 : (e.do' == 6) = true := by simp; omega
      have hE := h0
      rw [errR_6 c6 ha] at hE
      have hz : ¬ e.at' = 0 := fun h => by rw [if_pos h] at hE; omega
      rw [if_neg hz] at hE
      have hp : 0 ≤ (nd d e.at').parent := by
        apply Classical.byContradiction; intro h
        rw [if_pos (by omega)] at hE; omega
      have pin := (V.par_in ha hp).1
      have p1 := pin.2
      have gp : (d.nodes.map eNode).getD (nd d e.at').parent.toNat [] = [aInt (nd d (nd d e.at').parent).kind, .str (nd d (nd d e.at').parent).name, sl eAttr (nd d (nd d e.at').parent).attrs, .str (nd d (nd d e.at').parent).text, aInt (nd d (nd d e.at').parent).parent, sl eInt (nd d (nd d e.at').parent).kids] := getD_map_enc (by omega)
      have hi := idx_at (V.par_in ha hp).2
      have hk0 := (idx_mem (nd d (nd d e.at').parent).kids e.at').2 (V.par_in ha hp).2
      have hPl := placeIn_ok (G := G) (nd d (nd d e.at').parent).kids e.at' (sm.nd _).kids
      have eD : editD d e = cutN d e.at' (idxM (· == e.at') (nd d (nd d e.at').parent).kids).toNat := by unfold editD; rw [if_neg (by omega), if_neg (by omega), if_neg (by omega), if_neg (by omega), if_neg (by omega)]
      obtain ⟨i, hii⟩ : ∃ i : Nat, idxM (· == e.at') (nd d (nd d e.at').parent).kids = i := ⟨(idxM (· == e.at') (nd d (nd d e.at').parent).kids).toNat, by omega⟩
      rw [hii] at hPl eD hi
      rw [Int.toNat_natCast] at eD hi
      have hne : (nd d e.at').parent.toNat ≠ e.at'.toNat := fun h => by
        have := V.up_par ha hp
        have e2 : (nd d e.at').parent = e.at' := by omega
        rw [e2] at this; omega
      have gs : ∀ row : List AVal, ((d.nodes.map eNode).set (nd d e.at').parent.toNat row).getD e.at'.toNat [] = [aInt (nd d e.at').kind, .str (nd d e.at').name, sl eAttr (nd d e.at').attrs, .str (nd d e.at').text, aInt (nd d e.at').parent, sl eInt (nd d e.at').kids] := fun row => by
        rw [List.getD_eq_getElem?_getD, List.getElem?_set_ne hne, ← List.getD_eq_getElem?_getD]; exact gat
      have hW := without_ok (G := G) (nd d (nd d e.at').parent).kids i hi.1 (sm.nd _).kids
      simp -dsimp -implicitDefEqProofs (disch := omega) only [VCA, Nat.reduceEqDiff, Nat.reduceAdd, Nat.reduceLT, Nat.reduceLeDiff, ↓reduceIte, rsOf, rootsOf, exists_eq_left', rootL, e3, e8, e10, g10, hN', h8', eEdit, b1, b2, b3, b5, b6, lenN, gp]
      repeat' (first | ((with_reducible refine brC (fun _ => ?_) fun _ => ?_) <;> try (exfalso; omega)) | (with_reducible apply pcallE.of; · exact hPl) | (with_reducible apply pcallE.of; · exact hW) | (with_reducible refine And.intro ?_ ?_; · omega) | simp -dsimp -implicitDefEqProofs (disch := omega) only [VCA, Nat.reduceEqDiff, Nat.reduceBEq, Nat.reduceAdd, Nat.reduceLT, Nat.reduceLeDiff, ↓reduceIte, rsOf, rootsOf, SOp.rd, SI.rd, SX.rd, setAt, implies_true, exists_eq_left', rootL, e3, e8, e10, g10, hN', h8', eEdit, lenN, gp, gs, List.length_set, n810, nN10, mN10, mN8])
      refine fin _ _ _ (upd_same _ _ _) (by rw [List.length_set, List.length_set]; exact lenN) (fun t o ht h1 h2 => by rw [upd_ne _ _ h1, upd_ne _ _ h2, upd_ne _ _ h1]; exact S' _ _ ht) ?_ e4 e8 e9
      rw [eD]
      show F2 (F2 Vz) _ (((d.nodes.set _ _).set _ _).map eNode)
      rw [List.map_set, List.map_set]
      exact wks_refl _
    by_cases c5 : e.do' = 5
    · have b1 : (e.do' == 1) = false := by simp; omega
      have b2 : (e.do' == 2) = false := by simp; omega
      have b3 : (e.do' == 3) = false := by simp; omega
      have b5 : (e.do' == 5) = true := by simp; omega
      have b6 : (e.do' == 6) = false := by simp; omega
      have ht := hto c5
      have t0 := ht.1
      have t1 := ht.2
      obtain ⟨hc, hbe⟩ := errR_5z c5 ha ht h0
      have gt : (d.nodes.map eNode).getD e.to.toNat [] = [aInt (nd d e.to).kind, .str (nd d e.to).name, sl eAttr (nd d e.to).attrs, .str (nd d e.to).text, aInt (nd d e.to).parent, sl eInt (nd d e.to).kids] := getD_map_enc (by omega)
      have hne : e.to.toNat ≠ e.at'.toNat := fun h => hc (by rw [show e.to = e.at' by omega]; exact chain_self d _)
      have gs : ∀ row : List AVal, ((d.nodes.map eNode).set e.to.toNat row).getD e.at'.toNat [] = [aInt (nd d e.at').kind, .str (nd d e.at').name, sl eAttr (nd d e.at').attrs, .str (nd d e.at').text, aInt (nd d e.at').parent, sl eInt (nd d e.at').kids] := fun row => by
        rw [List.getD_eq_getElem?_getD, List.getElem?_set_ne hne, ← List.getD_eq_getElem?_getD]; exact gat
      have eD : editD d e = hung d e.at' e.to (insAt d e) := by unfold editD; rw [if_neg (by omega), if_neg (by omega), if_neg (by omega), if_neg (by omega), if_pos c5]
      have hPl := placeIn_ok (G := G) (nd d e.at').kids e.before (sm.nd _).kids
      have kl := nodup_len d.nodes.length (nd d e.at').kids (V.nodup _ ha) (fun k hk => (V.kid _ ha k hk).1)
      cases bb : (e.before != -1)
      · simp -dsimp -implicitDefEqProofs (disch := omega) only [VCA, Nat.reduceEqDiff, Nat.reduceBEq, Nat.reduceAdd, Nat.reduceLT, Nat.reduceLeDiff, ↓reduceIte, rsOf, rootsOf, SOp.rd, SI.rd, SX.rd, okParts, setAt, forall_const, forall_eq, exists_eq_left, exists_eq_left', rootL, e3, e8, e10, g10, eEdit, b1, b2, b3, b5, bb, n810]
        refine ⟨by omega, by omega, by omega, by omega, fun r hr => ?_⟩
        have nr : ¬ r10 = r := fun e => by rw [← e, g10] at hr; cases hr
        have dd := fun x => del_upd (h := h') (r := r) (o := x) hr
        simp -dsimp -implicitDefEqProofs (disch := omega) only [VCA, Nat.reduceLeDiff, ↓reduceIte, g10, nr, dd, List.drop_length, List.length_append]
        refine ⟨by omega, by omega, fun r' hr' => ?_⟩
        have nr' : ¬ r10 = r' := fun e => by rw [← e, g10] at hr'; cases hr'
        have dd' := fun x => del_upd (h := h') (r := r') (o := x) hr'
        simp -dsimp -implicitDefEqProofs (disch := omega) only [VCA, Nat.reduceEqDiff, Nat.reduceAdd, Nat.reduceLT, Nat.reduceLeDiff, ↓reduceIte, setAt, exists_eq_left', e3, e8, e10, g10, hN', h8', eEdit, b6, lenN, gt, gs, List.length_set, n810, nN10, mN10, mN8, nr', dd, dd', List.drop_length]
        have eI : insAt d e = (nd d e.at').kids.length := by unfold insAt; rw [if_pos (by simpa using bb)]
        refine ⟨by omega, by omega, by omega, by omega, by omega, by omega, fin _ _ _ (upd_same _ _ _) (by rw [List.length_set, List.length_set]; exact lenN) (fun t o ht h1 h2 => by rw [upd_ne _ _ h1, upd_ne _ _ h2]; exact S' _ _ ht) (wks_eq ?_) e4 e8 e9⟩
        rw [eD, eI]
        show _ = ((d.nodes.set _ _).set _ _).map eNode
        rw [List.map_set, List.map_set, List.set_comm _ _ hne.symm]
        refine congrArg (List.set _ _) ?_
        rw [qq]
        simp only [List.take_length, List.drop_length, sl, List.map_append, List.map_cons, List.map_nil]
        rw [List.take_of_length_le (i := (nd d e.at').kids.length + 1) (by simp)]
        rfl
      · have hi := idxM_leK (nd d e.at').kids e.before
        have bb' : e.before ≠ -1 := by simpa using bb
        obtain ⟨i, hii⟩ : ∃ i : Nat, idxM (· == e.before) (nd d e.at').kids = i := ⟨(idxM (· == e.before) (nd d e.at').kids).toNat, by omega⟩
        rw [hii] at hPl hi
        have lt : ((nd d e.at').kids.take i).length = i := by rw [List.length_take]; omega
        have ld : ((nd d e.at').kids.drop i).length = (nd d e.at').kids.length - i := List.length_drop
        simp -dsimp -implicitDefEqProofs (disch := omega) only [VCA, Nat.reduceEqDiff, Nat.reduceAdd, Nat.reduceLT, Nat.reduceLeDiff, ↓reduceIte, exists_eq_left', e3, e10, g10, eEdit, b1, b2, b3, b5, bb]
        refine pcallE.of (hPl) ?_; simp -dsimp -implicitDefEqProofs (disch := omega) only [VCA, Nat.reduceEqDiff, Nat.reduceBEq, Nat.reduceAdd, Nat.reduceLT, Nat.reduceLeDiff, ↓reduceIte, rsOf, rootsOf, SOp.rd, SI.rd, SX.rd, okParts, setAt, forall_const, forall_eq, exists_eq_left, exists_eq_left', rootL, e3, e8, e10, g10, eEdit, n810]
        simp -dsimp -implicitDefEqProofs (disch := omega) only [lt, ld]
        refine ⟨by omega, by omega, by omega, by omega, fun r hr => ?_⟩
        have nr : ¬ r10 = r := fun e => by rw [← e, g10] at hr; cases hr
        have dd := fun x => del_upd (h := h') (r := r) (o := x) hr
        simp -dsimp -implicitDefEqProofs (disch := omega) only [VCA, ↓reduceIte, g10, nr, dd, lt, List.length_append]
        refine ⟨by omega, by omega, fun r' hr' => ?_⟩
        have nr' : ¬ r10 = r' := fun e => by rw [← e, g10] at hr'; cases hr'
        have dd' := fun x => del_upd (h := h') (r := r') (o := x) hr'
        simp -dsimp -implicitDefEqProofs (disch := omega) only [VCA, Nat.reduceEqDiff, Nat.reduceAdd, Nat.reduceLT, Nat.reduceLeDiff, ↓reduceIte, setAt, exists_eq_left', e3, e8, e10, g10, hN', h8', eEdit, b6, lenN, gt, gs, List.length_set, n810, nN10, mN10, mN8, nr', dd, dd', lt]
        have eI : insAt d e = i := by unfold insAt; rw [if_neg bb', hii]; rfl
        refine ⟨by omega, by omega, by omega, by omega, by omega, by omega, fin _ _ _ (upd_same _ _ _) (by rw [List.length_set, List.length_set]; exact lenN) (fun t o ht h1 h2 => by rw [upd_ne _ _ h1, upd_ne _ _ h2]; exact S' _ _ ht) (wks_eq ?_) e4 e8 e9⟩
        rw [eD, eI]
        show _ = ((d.nodes.set _ _).set _ _).map eNode
        rw [List.map_set, List.map_set, List.set_comm _ _ hne.symm]
        refine congrArg (List.set _ _) ?_
        rw [qq]
        simp only [sl, List.map_append, List.map_cons]
        rw [List.take_of_length_le (i := i + 1) (by simp; omega), List.append_assoc]
        rfl
    have tS := stepA_len e (nd d e.at').attrs
    by_cases c2 : e.do' = 2
    · have b1 : (e.do' == 1) = false := by simp; omega
      have b2 : (e.do' == 2) = true := by simp; omega
      have b3 : (e.do' == 3) = false := by simp; omega
      have b5 : (e.do' == 5) = false := by simp; omega
      have b6 : (e.do' == 6) = false := by simp; omega
      have hat : 0 ≤ attrAt (nd d e.at').attrs e.name := by
        have hE := h0
        rw [errR_2 c2 ha] at hE
        split at hE
        · omega
        split at hE
        · omega
        · rename_i q; exact Classical.not_not.1 q
      have eL : (nd d e.at').attrs.flatMap (stepA e) = dropAttr (nd d e.at').attrs e.name := by
        rw [dropAttr_filter anod hat]
        generalize (nd d e.at').attrs = l
        induction l with
        | nil => rfl
        | cons a l ih =>
          rw [List.flatMap_cons, List.filter_cons, ih]
          unfold stepA
          by_cases q : a.name = e.name
          · rw [if_neg (by simp [q, c2])]; simp [q]
          · rw [if_pos (.inl q), if_neg (fun h => q h.1)]; simp [q]
      have eD : editD d e = setN d e.at' { nd d e.at' with attrs := dropAttr (nd d e.at').attrs e.name } := by unfold editD; rw [if_neg (by omega), if_pos c2]
      rw [eL] at A tS
      rcases A with ⟨q0, q1⟩ | ⟨rA, q0, q1, q2⟩
      · simp -dsimp -implicitDefEqProofs (disch := omega) only [VCA, Nat.reduceEqDiff, Nat.reduceAdd, Nat.reduceLT, Nat.reduceLeDiff, ↓reduceIte, setAt, exists_eq_left', e3, e8, e10, g10, hN', h8', eEdit, b1, b2, b3, b5, b6, lenN, gat, n810, nN10, q1]
        refine ⟨by omega, by omega, fin _ _ _ (upd_same _ _ _) (by rw [List.length_set]; exact lenN) (fun t o ht h1 h2 => by rw [upd_ne _ _ h1, upd_ne _ _ h2]; exact S' _ _ ht) (wks_eq ?_) e4 e8 e9⟩
        rw [eD]
        show _ = (d.nodes.set _ _).map eNode
        rw [List.map_set]
        refine congrArg (List.set _ _) ?_
        rw [qq]
        have : dropAttr (nd d e.at').attrs e.name = [] := by simpa using q0
        simp only [this]
        rfl
      · have SD := S'.del q0
        have dA10 := SD _ _ gb
        have dA8 := SD _ _ gb8
        have dAN := SD _ _ gbN
        unfold eNode at dA10
        simp -dsimp -implicitDefEqProofs (disch := omega) only [VCA, Nat.reduceEqDiff, Nat.reduceAdd, Nat.reduceLT, Nat.reduceLeDiff, ↓reduceIte, setAt, exists_eq_left', e3, e8, e10, eEdit, b1, b2, b3, b5, b6, lenN, gat, n810, nN10, q1, q2, dA10, dA8, dAN]
        refine ⟨by omega, by omega, fin _ _ _ (upd_same _ _ _) (by rw [List.length_set]; exact lenN) (fun t o ht h1 h2 => by rw [upd_ne _ _ h1, upd_ne _ _ h2]; exact SD _ _ ht) (wks_eq ?_) e4 e8 e9⟩
        rw [eD]
        show _ = (d.nodes.set _ _).map eNode
        rw [List.map_set]
        refine congrArg (List.set _ _) ?_
        rw [qq]
        rw [List.take_of_length_le (by rw [List.length_map]; exact Nat.le_refl _)]
        rfl
    have c1 : e.do' = 1 := by omega
    have b1 : (e.do' == 1) = true := by simp; omega
    have b2 : (e.do' == 2) = false := by simp; omega
    have b3 : (e.do' == 3) = false := by simp; omega
    have b5 : (e.do' == 5) = false := by simp; omega
    have b6 : (e.do' == 6) = false := by simp; omega
    have hsA : setA e (nd d e.at').attrs = decide (0 ≤ attrAt (nd d e.at').attrs e.name) := by
      unfold setA attrAt
      rw [idxM_any, c1]; simp
    have eL := setAttr_map (l := (nd d e.at').attrs) (name := e.name) (value := e.value) anod
    have eM : ((nd d e.at').attrs.map fun a => if a.name = e.name then (⟨a.name, e.value⟩ : HAttr) else a) = (nd d e.at').attrs.flatMap (stepA e) := by
      generalize (nd d e.at').attrs = l
      induction l with
      | nil => rfl
      | cons a l ih =>
        rw [List.flatMap_cons, List.map_cons, ih]
        unfold stepA
        by_cases q : a.name = e.name
        · rw [if_pos q, if_pos (.inr (by omega)), if_pos ⟨q, c1⟩]; rfl
        · rw [if_neg q, if_pos (.inl q), if_neg (fun h => q h.1)]; rfl
    rw [eM] at eL
    have eD : editD d e = setN d e.at' { nd d e.at' with attrs := setAttr (nd d e.at').attrs e.name e.value } := by unfold editD; rw [if_pos c1]
    by_cases hat : 0 ≤ attrAt (nd d e.at').attrs e.name
    · rw [if_pos hat, List.append_nil] at eL
      rw [hsA, decide_eq_true hat] at e12
      rw [← eL] at A tS
      clear eL
      rcases A with ⟨q0, q1⟩ | ⟨rA, q0, q1, q2⟩
      · simp -dsimp -implicitDefEqProofs (disch := omega) only [VCA, Nat.reduceEqDiff, Nat.reduceAdd, Nat.reduceLT, Nat.reduceLeDiff, ↓reduceIte, setAt, exists_eq_left', e3, e8, e10, e12, g10, hN', h8', eEdit, b1, b3, b5, b6, lenN, gat, n810, nN10, q1]
        refine ⟨by omega, by omega, fin _ _ _ (upd_same _ _ _) (by rw [List.length_set]; exact lenN) (fun t o ht h1 h2 => by rw [upd_ne _ _ h1, upd_ne _ _ h2]; exact S' _ _ ht) (wks_eq ?_) e4 e8 e9⟩
        rw [eD]
        show _ = (d.nodes.set _ _).map eNode
        rw [List.map_set]
        refine congrArg (List.set _ _) ?_
        rw [qq]
        have : setAttr (nd d e.at').attrs e.name e.value = [] := by simpa using q0
        simp only [this]
        rfl
      · have SD := S'.del q0
        have dA10 := SD _ _ gb
        have dA8 := SD _ _ gb8
        have dAN := SD _ _ gbN
        unfold eNode at dA10
        simp -dsimp -implicitDefEqProofs (disch := omega) only [VCA, Nat.reduceEqDiff, Nat.reduceAdd, Nat.reduceLT, Nat.reduceLeDiff, ↓reduceIte, setAt, exists_eq_left', e3, e8, e10, e12, eEdit, b1, b3, b5, b6, lenN, gat, n810, nN10, q1, q2, dA10, dA8, dAN]
        refine ⟨by omega, by omega, fin _ _ _ (upd_same _ _ _) (by rw [List.length_set]; exact lenN) (fun t o ht h1 h2 => by rw [upd_ne _ _ h1, upd_ne _ _ h2]; exact SD _ _ ht) (wks_eq ?_) e4 e8 e9⟩
        rw [eD]
        show _ = (d.nodes.set _ _).map eNode
        rw [List.map_set]
        refine congrArg (List.set _ _) ?_
        rw [qq]
        rw [List.take_of_length_le (by rw [List.length_map]; exact Nat.le_refl _)]
        rfl
    · rw [if_neg hat] at eL
      rw [hsA, decide_eq_false hat] at e12
      simp -dsimp -implicitDefEqProofs (disch := omega) only [VCA, Nat.reduceEqDiff, Nat.reduceAdd, Nat.reduceLeDiff, ↓reduceIte, okParts, fillA, okFill, forall_eq, exists_eq_left, e3, e12, eEdit, b1]
      have tL : (((nd d e.at').attrs.flatMap (stepA e)).map eAttr).length ≤ 12 := by rw [List.length_map]; omega
      refine A.app S' (by rw [List.length_singleton]; omega) (by rw [List.length_singleton]; omega) (fun a' h3 A' S3 => ?_)
      have eT : ((nd d e.at').attrs.flatMap (stepA e)).map eAttr ++ [[.str e.name, .str e.value]] = (setAttr (nd d e.at').attrs e.name e.value).map eAttr := by rw [eL, List.map_append]; rfl
      rw [eT] at A'
      clear eL eT A
      have hN3 := S3 _ _ gbN
      have h43 := S3 _ _ gb4
      have h83 := S3 _ _ gb8
      have k10 := S3 _ _ gb
      unfold eNode at k10
      rcases A' with ⟨q0, q1⟩ | ⟨rA, q0, q1, q2⟩
      · simp -dsimp -implicitDefEqProofs (disch := omega) only [VCA, Nat.reduceEqDiff, Nat.reduceAdd, Nat.reduceLT, Nat.reduceLeDiff, ↓reduceIte, setAt, exists_eq_left', e3, e8, e10, k10, hN3, h83, eEdit, b1, b3, b5, b6, lenN, gat, n810, nN10, q1]
        refine ⟨by omega, by omega, fin _ _ _ (upd_same _ _ _) (by rw [List.length_set]; exact lenN) (fun t o ht h1 h2 => by rw [upd_ne _ _ h1, upd_ne _ _ h2]; exact S3 _ _ ht) (wks_eq ?_) e4 e8 e9⟩
        rw [eD]
        show _ = (d.nodes.set _ _).map eNode
        rw [List.map_set]
        refine congrArg (List.set _ _) ?_
        rw [qq]
        have : setAttr (nd d e.at').attrs e.name e.value = [] := by simpa using q0
        simp only [this]
        rfl
      · have SD := S3.del q0
        have dA10 := SD _ _ gb
        have dA8 := SD _ _ gb8
        have dAN := SD _ _ gbN
        unfold eNode at dA10
        simp -dsimp -implicitDefEqProofs (disch := omega) only [VCA, Nat.reduceEqDiff, Nat.reduceAdd, Nat.reduceLT, Nat.reduceLeDiff, ↓reduceIte, setAt, exists_eq_left', e3, e8, e10, eEdit, b1, b3, b5, b6, lenN, gat, n810, nN10, q1, q2, dA10, dA8, dAN]
        refine ⟨by omega, by omega, fin _ _ _ (upd_same _ _ _) (by rw [List.length_set]; exact lenN) (fun t o ht h1 h2 => by rw [upd_ne _ _ h1, upd_ne _ _ h2]; exact SD _ _ ht) (wks_eq ?_) e4 e8 e9⟩
        rw [eD]
        show _ = (d.nodes.set _ _).map eNode
        rw [List.map_set]
        refine congrArg (List.set _ _) ?_
        rw [qq]
        rw [List.take_of_length_le (by rw [List.length_map]; exact Nat.le_refl _)]
        rfl
end Go.Proofs.K
end
section
set_option linter.unusedSimpArgs false
set_option linter.unusedVariables false
namespace Go.Proofs.K
open Go Go.Sim Go.Proofs
variable {G : Glob}
theorem edited_ok (d : HDoc) (V : DV d) (sm : DocSm d) (e : HEdit) (he : EditSm e) : PCalls (Pg G) 26 [.agg (eDoc d), .agg (eEdit e)] (edR d e) := PCalls.outV fun h => by
  have hE := editErr_ok (G := G) d V sm e he
  unfold eEdit eDoc at hE
  have hCp := copyDoc_ok (G := G) d sm
  unfold eDoc at hCp
  show DCalls _ _ _ h (EdK d e h)
  refine dcalls_of_vc Tryz.func26 hn26 hc26 (by rw [Tryz.ntmps26]; simp) (by rw [Tryz.ntmps26]; decide) ?_
  simp -dsimp -implicitDefEqProofs (disch := omega) only [VCA, Nat.reduceEqDiff, Nat.reduceAdd, ↓reduceIte, eDoc, c26, eEdit]
  intro r4 hr4
  refine pcallE.of (hE) ?_; simp -dsimp -implicitDefEqProofs (disch := omega) only [VCA, ↓reduceIte]
  refine Br.ne (fun h0 => ?_) (fun h0 => ?_)
  · have aE := apply_err V h0
    have aD : applyD d e = noDoc := by unfold applyD; rw [aE, if_neg h0]
    have aN : applyN d e = 0 := by unfold applyN; rw [aE, if_neg h0]
    simp -dsimp -implicitDefEqProofs (disch := omega) only [VCA, Nat.reduceEqDiff, Nat.reduceAdd, Nat.reduceLT, ↓reduceIte, fillA, okFill, setAt, exists_eq_left']
    refine ⟨_, Sub.refl _, (Sub.refl h).upd hr4, ?_⟩
    unfold edR
    rw [aD, aN, aE]
    exact .tup' (.cons (vw_noDoc _) (.cons (.refl _) (.cons (.refl _) .nil)))
  · simp -dsimp -implicitDefEqProofs (disch := omega) only [VCA, Nat.reduceEqDiff, Nat.reduceAdd, ↓reduceIte]
    refine DCalls.of (hCp _) ?_
    rintro a h2 ⟨b, rfl, F, S⟩
    have S4 : ∀ x, Sub h (upd h r4 (some x)) := fun x => (Sub.refl h).upd hr4
    have n4 : rootOf b ≠ some r4 := fun e => by have := F.new _ e; rw [upd_same] at this; cases this
    have F' : Fresh h h2 40 6 (d.nodes.map eNode) b := ⟨F.acc.mono (S4 _)⟩
    have g4 := S _ _ (upd_same _ _ _)
    simp -dsimp -implicitDefEqProofs (disch := omega) only [VCA, Nat.reduceEqDiff, Nat.reduceAdd, Nat.reduceLT, ↓reduceIte, setAt, exists_eq_left']
    intro r8 hr8
    have n8 : rootOf b ≠ some r8 := fun e => by
      obtain ⟨o, ho⟩ := F.own.root e
      rw [ho] at hr8; cases hr8
    have n48 : r4 ≠ r8 := fun e => by rw [← e, g4] at hr8; cases hr8
    have Sh : Sub h h2 := (S4 _).trans S
    have h8 : h r8 = none := Sh.none hr8
    have F2 : ∀ y, Fresh h (upd h2 r8 (some y)) 40 6 (d.nodes.map eNode) b := fun y => F'.keep fun r o hr ho => by rw [upd_ne _ _ (fun e => n8 (by rw [hr, e]))]; exact ho
    by_cases c4 : e.do' = 4
    · exact edited_make V sm he h0 c4 (Sh.upd h8) (F2 _) hr4 h8 (by rw [upd_ne _ _ n48]; exact g4) (upd_same _ _ _) n4 n8 n48 rfl rfl rfl
    · exact edited_else V sm he h0 c4 (Sh.upd h8) (F2 _) hr4 h8 (by rw [upd_ne _ _ n48]; exact g4) (upd_same _ _ _) n4 n8 n48 rfl rfl rfl rfl
end Go.Proofs.K
end
section
set_option linter.unusedSimpArgs false
set_option linter.unusedVariables false
namespace Go.Proofs.K
open Go Go.Sim Go.Proofs
variable {G : Glob}
theorem eEdit_len' (e : HEdit) : (eEdit e).length = 12 := rfl
theorem eEdit_take' (e : HEdit) : (eEdit e).take 12 = eEdit e := rfl
def runM : HDoc → List HEdit → Int → HDoc × Int × Int
  | d, [], _ => (d, 0, 0)
  | d, e :: l, i => if applyE d e ≠ 0 then (noDoc, i, applyE d e) else runM (applyD d e) l (i + 1)
def allM (d : HDoc) (l : List HEdit) : HDoc × Int × Int := if docE d ≠ 0 then (noDoc, 0, docE d) else if 40 < l.length then (noDoc, 0, 2) else runM d l 0
def allV (x : HDoc × Int × Int) : AVal := .tup [.agg (eDoc x.1), aInt x.2.1, aInt x.2.2]
theorem apply_step {d : HDoc} (V : DV d) (sm : DocSm d) {e : HEdit} (he : EditSm e) (h0 : applyE d e = 0) : DV (applyD d e) ∧ DocSm (applyD d e) ∧ applyD d e = editD d e ∧ editE d e = 0 := by
  have hd := (docE_iff d).2 V
  have aE : applyE d e = editE d e := by unfold applyE; rw [if_neg (by simpa using hd)]
  have aD : applyD d e = editD d e := by unfold applyD; rw [if_pos h0]
  have h1 : editE d e = 0 := by rw [← aE]; exact h0
  have h2 : errR d e = 0 := Classical.byContradiction fun h => by
    rw [(editE_errR V e).1 h] at h1; exact h h1
  exact ⟨by rw [aD]; exact (edit_DV V e h2).2 h1, by rw [aD]; exact edit_sm V sm he h2, aD, h1⟩
theorem runM_cons {d : HDoc} {l : List HEdit} {k : Nat} (hk : k < l.length) (i : Int) : runM d (l.drop k) i = if applyE d (nth l k) ≠ 0 then (noDoc, i, applyE d (nth l k)) else runM (applyD d (nth l k)) (l.drop (k + 1)) (i + 1) := by
  have : l.drop k = nth l k :: l.drop (k + 1) := by
    have e : nth l k = l[k] := by unfold nth; rw [List.getD_eq_getElem?_getD, List.getElem?_eq_getElem hk]; rfl
    rw [e, List.getElem_cons_drop]
  rw [this, runM]
theorem Ed.aside {h0 h : Heap} {re rN r : Nat} {d : HDoc} {sl : Nat → AVal} {made : Int} (E : Ed h0 h re rN d sl made) (hr : h r = none) (o : AObj) : Ed h0 (upd h r (some o)) re rN d sl made :=
  ⟨(E.dw.more hr o).less (fun x hx => by simp at hx; subst hx; simp), by rw [upd_ne _ _ (fun e => by have := E.ed; rw [e, hr] at this; cases this)]; exact E.ed, E.new, E.live⟩
def c38 : SFun := ⟨.seq (.reg [⟨some 2, .boxF 24 2 (.t 0), none⟩, ⟨some 4, .new 24 2 [.emp, .bool false], none⟩, ⟨some 5, .mv (.c (.int .i64 0)), none⟩, ⟨some 6, .mv (.c (.int .i64 0)), none⟩]) (.seq (.reg [⟨some 12, .ld 2 true (.t 2), none⟩, ⟨some 13, .pcall 47 [.t 12], none⟩, ⟨some 7, .mv (.t 13), none⟩]) (.seq (.seq (.reg [⟨some 14, .mv (.t 7), none⟩, ⟨some 15, .bin .eql (.t 14) (.c (.int .i64 0)), none⟩, ⟨some 16, .mv (.t 15), none⟩, ⟨some 17, .mv (.t 1), some (16, true)⟩, ⟨some 18, .len (.t 17), some (16, true)⟩, ⟨some 19, .bin .gtr (.t 18) (.c (.int .i64 40)), some (16, true)⟩, ⟨some 20, .pick (.t 16) (.t 19) (.c (.bool false)), none⟩]) (.cond (.t 20) (.reg [⟨some 7, .mv (.c (.int .i64 2)), none⟩]) .skip)) (.seq (.seq (.reg [⟨some 21, .mv (.t 7), none⟩, ⟨some 22, .bin .neq (.t 21) (.c (.int .i64 0)), none⟩]) (.cond (.t 22) (.seq (.reg [⟨some 23, .bld [.emp, .bool false] [], none⟩, ⟨some 24, .mv (.t 7), none⟩, ⟨none, .st 2 (.t 4) (.t 23), none⟩, ⟨some 5, .mv (.c (.int .i64 0)), none⟩, ⟨some 6, .mv (.t 24), none⟩]) .ret) .skip)) (.seq (.reg [⟨some 25, .ld 2 true (.t 2), none⟩, ⟨some 26, .call (.c (.fn 77 [] [])) [.t 25], none⟩, ⟨some 27, .bld [.emp, .bool false, .int .i64 0] [(0, (2, (.t 26)))], none⟩, ⟨some 28, .box 118 3 (.t 27), none⟩, ⟨some 8, .mv (.t 28), none⟩]) (.seq (.seq (.reg [⟨some 29, .mv (.t 1), none⟩, ⟨some 30, .len (.t 29), none⟩, ⟨some 31, .mv (.c (.int .i64 0)), none⟩]) (.block 0 (.loop (.seq (.reg [⟨some 32, .bin .lss (.t 31) (.t 30), none⟩]) (.seq (.cond (.t 32) .skip (.exit 0)) (.seq (.block 1 (.seq (.reg [⟨some 33, .mv (.t 31), none⟩, ⟨some 34, .idxA 12 (.t 29) (.t 31), none⟩, ⟨some 35, .ld 12 true (.t 34), none⟩, ⟨some 10, .new 42 12 [.int .i64 0, .int .i64 0, .int .i64 0, .int .i64 0, .str [], .str [], .int .i64 0, .str [], .emp, .str [], .int .i64 0, .emp], none⟩, ⟨some 9, .mv (.t 33), none⟩, ⟨none, .st 12 (.t 10) (.t 35), none⟩]) (.seq (.reg [⟨some 36, .mv (.t 8), none⟩, ⟨some 37, .ld 12 true (.t 10), none⟩, ⟨some 38, .call (.c (.fn 78 [] [])) [.t 36, .t 37], none⟩, ⟨some 11, .mv (.t 38), none⟩]) (.seq (.reg [⟨some 39, .mv (.t 11), none⟩, ⟨some 40, .bin .neq (.t 39) (.c (.int .i64 0)), none⟩]) (.cond (.t 40) (.seq (.reg [⟨some 41, .bld [.emp, .bool false] [], none⟩, ⟨some 42, .mv (.t 9), none⟩, ⟨some 43, .mv (.t 11), none⟩, ⟨none, .st 2 (.t 4) (.t 41), none⟩, ⟨some 5, .mv (.t 42), none⟩, ⟨some 6, .mv (.t 43), none⟩]) .ret) .skip))))) (.reg [⟨some 44, .bin .add (.t 31) (.c (.int .i64 1)), none⟩, ⟨some 31, .mv (.t 44), none⟩]))))))) (.seq (.reg [⟨some 45, .mv (.t 8), none⟩, ⟨some 46, .fldA 0 (.t 45), none⟩, ⟨some 47, .fldA 0 (.t 46), none⟩, ⟨some 48, .ld 2 true (.t 47), none⟩, ⟨none, .st 2 (.t 4) (.t 48), none⟩, ⟨some 5, .mv (.c (.int .i64 0)), none⟩, ⟨some 6, .mv (.c (.int .i64 0)), none⟩]) .ret)))))), [.cell 4 2 true, .tmp 5, .tmp 6]⟩
theorem hc38 : toSF Tryz.prog {pure := [47], how := [(28, 6)]} Tryz.f38 = some c38 := by kernel_rfl
theorem hn38 : (Tryz.f38.name == "runtime.NumGoroutine") = false := by kernel_rfl
set_option maxHeartbeats 1000000 in
theorem all_ok (d : HDoc) (sm : DocSm d) (l : List HEdit) (hl : ∀ e ∈ l, EditSm e) (ll : l.length ≤ 1073741824) : PCalls (Pg G) 38 [.agg (eDoc d), sl eEdit l] (allV (allM d l)) := PCalls.outV fun h => by
  have hC := check_ok (G := G) d sm
  refine dcalls_of_vc Tryz.func38 hn38 hc38 (by rw [Tryz.ntmps38]; simp) (by rw [Tryz.ntmps38]; decide) ?_
  simp -dsimp -implicitDefEqProofs (disch := omega) only [VCA, Nat.reduceEqDiff, ↓reduceIte, c38, eDoc_len, eDoc_take]
  intro r4 hr4
  have S4 : ∀ x, Sim.Sub h (upd h r4 (some x)) := fun x => (Sub.refl h).upd hr4
  by_cases h1 : docE d = 0
  · have V := docE_DV h1
    rw [h1] at hC
    have hOwn := fun hp => own_ok' (G := G) d sm V.pos hp
    by_cases h40 : 40 < l.length
    · have aM : allM d l = (noDoc, 0, 2) := by unfold allM; rw [if_neg (by simpa using h1), if_pos h40]
      repeat' (first | ((with_reducible refine brC (fun _ => ?_) fun _ => ?_) <;> try (exfalso; omega)) | (with_reducible apply pcallE.of; · exact hC) | (with_reducible refine And.intro ?_ ?_; · omega) | simp -dsimp -implicitDefEqProofs (disch := omega) only [↓vcOps_sp 16, VCA, Nat.reduceEqDiff, Nat.reduceAdd, Nat.reduceLT, ↓reduceIte, fillA, okFill, setAt, exists_eq_left'])
      rw [aM]
      exact ⟨_, Sub.refl _, S4 _, .tup' (.cons (vw_noDoc _) (.cons (.refl _) (.cons (.refl _) .nil)))⟩
    · have aM : allM d l = runM d l 0 := by unfold allM; rw [if_neg (by simpa using h1), if_neg h40]
      repeat' (first | ((with_reducible refine brC (fun _ => ?_) fun _ => ?_) <;> try (exfalso; omega)) | (with_reducible apply pcallE.of; · exact hC) | (with_reducible refine And.intro ?_ ?_; · omega) | simp -dsimp -implicitDefEqProofs (disch := omega) only [↓vcOps_sp 16, VCA, Nat.reduceEqDiff, ↓reduceIte, eDoc_len, eDoc_take])
      have hOwn := hOwn (upd h r4 (some ⟨.t 24, 2, [[.emp, .bool false]]⟩))
      generalize hhb : upd h r4 (some ⟨.t 24, 2, [[.emp, .bool false]]⟩) = hb at *
      have gb4 : hb r4 = some ⟨.t 24, 2, [[.emp, .bool false]]⟩ := by rw [← hhb]; exact upd_same _ _ _
      have Sb : Sub h hb := by rw [← hhb]; exact S4 _
      refine DCalls.of hOwn ?_
      rintro a h2 ⟨rN, sl0, rfl, Dw1, M1⟩
      simp -dsimp -implicitDefEqProofs (disch := omega) only [VCA, Nat.reduceEqDiff, Nat.reduceAdd, Nat.reduceLeDiff, ↓reduceIte, fillA, okFill]
      intro re hre
      have E0 := Ed.begin Dw1 M1 hre
      rw [aM]
      refine LoopVC.intro (fun m e h' => ∃ (k : Nat) (rN : Nat) (sl' : Nat → AVal) (D : HDoc) (made : Int), k ≤ l.length ∧ m = l.length - k ∧ e 4 = .vp r4 0 ∧ e 8 = .vp re 0 ∧ e 29 = sl eEdit l ∧ e 30 = aInt l.length ∧ e 31 = aInt k ∧ Ed hb h' re rN D sl' made ∧ DV D ∧ DocSm D ∧ D.quirks = d.quirks ∧ runM D (l.drop k) k = runM d l 0) l.length
        ⟨0, rN, sl0, d, 0, by omega, by omega, rfl, rfl, rfl, rfl, rfl, E0, V, sm, rfl, rfl⟩ ?_
      clear E0 Dw1 M1 hre hOwn hhb
      rintro m e h' ⟨k, rN, sl', D, made, hk, rfl, e4, e8, e29, e30, e31, E, W, smD, hq, hr⟩
      have g4 := E.dw.sub _ _ gb4
      simp -dsimp -implicitDefEqProofs (disch := omega) only [VCA, ↓reduceIte, e30, e31]
      refine Br.dec (fun hlt => ?_) (fun hge => ?_)
      · have hk' : k < l.length := by omega
        rw [runM_cons hk'] at hr
        have hx := hl _ (nth_mem' hk')
        obtain ⟨x, hxx⟩ : ∃ x, nth l k = x := ⟨_, rfl⟩
        rw [hxx] at hr hx
        simp -dsimp -implicitDefEqProofs (disch := omega) only [VCA, Nat.reduceEqDiff, Nat.reduceAdd, Nat.reduceLT, ↓reduceIte, setAt, exists_eq_left', e8, e29, e31, hxx, eEdit_len', eEdit_take']
        refine ⟨by omega, fun r10 hr10 => ?_⟩
        have hd := (docE_iff D).2 W
        have aE : applyE D x = editE D x := by unfold applyE; rw [if_neg (by simpa using hd)]
        refine DCalls.of (eedit_ok (G := G) (E.aside hr10 _) W smD x hx) ?_
        rintro a h3 ⟨rfl, hR⟩
        rcases hR with ⟨hne, rfl⟩ | ⟨hz, rN', sl2, E3⟩
        · have g4' : upd h' r10 (some ⟨.t 42, 12, [eEdit x]⟩) r4 = some ⟨.t 24, 2, [[.emp, .bool false]]⟩ := by rw [upd_ne _ _ (fun e => by rw [e, hr10] at g4; cases g4)]; exact g4
          have S10 : Sub h (upd h' r10 (some ⟨.t 42, 12, [eEdit x]⟩)) := (Sb.trans E.dw.sub).upd ((Sb.trans E.dw.sub).none hr10)
          rw [← aE] at hne
          rw [if_pos hne] at hr
          generalize upd h' r10 (some ⟨.t 42, 12, [eEdit x]⟩) = h5 at *
          rw [← aE, ← hr]
          repeat' (first | ((with_reducible refine brC (fun _ => ?_) fun _ => ?_) <;> try (exfalso; omega)) | (with_reducible refine And.intro ?_ ?_; · omega) | simp -dsimp -implicitDefEqProofs (disch := omega) only [VCA, Nat.reduceEqDiff, Nat.reduceAdd, Nat.reduceLT, ↓reduceIte, fillA, okFill, setAt, exists_eq_left', e4, eEdit_take', g4'])
          all_goals try (exfalso; omega)
          exact ⟨_, Sub.refl _, S10.upd hr4, .tup' (.cons (vw_noDoc _) (.cons (.refl _) (.cons (.refl _) .nil)))⟩
        · rw [← aE] at hz
          rw [if_neg (by simpa using hz)] at hr
          obtain ⟨W2, sm2, aD, _⟩ := apply_step W smD hx hz
          rw [← aE, hz]
          rw [← aD] at E3
          repeat' (first | ((with_reducible refine brC (fun _ => ?_) fun _ => ?_) <;> try (exfalso; omega)) | (with_reducible refine And.intro ?_ ?_; · omega) | simp -dsimp -implicitDefEqProofs (disch := omega) only [VCA, Nat.reduceEqDiff, ↓reduceIte, e4, e8, e29, e30, e31, eEdit_take'])
          all_goals try (exfalso; omega)
          refine ⟨_, by omega, k + 1, rN', sl2, applyD D x, _, by omega, rfl, by omega, E3, W2, sm2, ?_, ?_⟩
          · rw [aD, ← hq]; unfold editD; (repeat' split) <;> rfl
          · rw [← hr]; congr 1
      · obtain rfl : k = l.length := by omega
        have gE := E.ed
        simp -dsimp -implicitDefEqProofs (disch := omega) only [VCA, Nat.reduceEqDiff, Nat.reduceAdd, Nat.reduceLT, Nat.reduceLeDiff, ↓reduceIte, setAt, exists_eq_left', e4, e8, g4, gE]
        rw [List.drop_length, runM] at hr
        rw [← hr]
        have nre : r4 ∉ [re] := fun h => by
          have h : r4 = re := by simpa using h
          have := E.new
          rw [← h, gb4] at this; cases this
        exact ⟨_, Sub.refl _, (Sb.trans E.dw.sub).upd hr4, .tup' (.cons (Vw.agg' (.cons (E.dw.beside Sb gb4 hr4 nre _).new'.vw (.cons (.refl _) .nil))) (.cons (.refl _) (.cons (.refl _) .nil)))⟩
  · have aM : allM d l = (noDoc, 0, docE d) := by unfold allM; rw [if_pos h1]
    repeat' (first | ((with_reducible refine brC (fun _ => ?_) fun _ => ?_) <;> try (exfalso; omega)) | (with_reducible apply pcallE.of; · exact hC) | (with_reducible refine And.intro ?_ ?_; · omega) | simp -dsimp -implicitDefEqProofs (disch := omega) only [↓vcOps_sp 16, VCA, Nat.reduceEqDiff, Nat.reduceAdd, Nat.reduceLT, ↓reduceIte, fillA, okFill, setAt, exists_eq_left'])
    rw [aM]
    exact ⟨_, Sub.refl _, S4 _, .tup' (.cons (vw_noDoc _) (.cons (.refl _) (.cons (.refl _) .nil)))⟩
end Go.Proofs.K
end
section
set_option linter.unusedSimpArgs false
set_option linter.unusedVariables false
namespace Go.Proofs.K
open Go Go.Sim Go.Proofs
variable {G : Glob}
section
variable {d : HDoc} {n : Int} {A B : List Int}
end
theorem DCalls.res {P : PG} {f : Nat} {args : List AVal} {h : Heap} {K K' : AVal → Heap → Prop} (hd : DCalls P f args h K) (hk : ∀ a h', K a h' → ∃ b, Wk a b ∧ K' b h') : DCalls P f args h K' :=
  ⟨hd.1, fun g w vs H GR V => (hd.2 g w vs H GR V).mono fun e w' ⟨v', a, h', g', he, k0, H', Va, S⟩ => by
    obtain ⟨b, hb, k1⟩ := hk a h' k0
    exact ⟨v', b, h', g', he, k1, H', hb.rel Va, S⟩⟩
def oneD : HDoc := ⟨[⟨1, [], [], [], -1, [1]⟩, ⟨2, [112], [⟨[97], [34]⟩], [], 0, [2]⟩, ⟨3, [], [], [60, 10], 1, []⟩], false⟩
theorem oneD_sm : DocSm oneD := ⟨by decide, by
  intro x hx
  have : x = ⟨1, [], [], [], -1, [1]⟩ ∨ x = ⟨2, [112], [⟨[97], [34]⟩], [], 0, [2]⟩ ∨ x = ⟨3, [], [], [60, 10], 1, []⟩ := by simpa [oneD] using hx
  rcases this with rfl | rfl | rfl <;> exact ⟨by decide, by decide, by decide, by decide, by decide⟩⟩
def c42 : SFun := ⟨.seq (.reg [⟨some 0, .new 24 2 [.emp, .bool false], none⟩]) (.seq (.reg [⟨some 1, .bldF 3 1 [.c (.int .i64 1)], none⟩, ⟨some 2, .bld [.int .i64 0, .str [], .emp, .str [], .int .i64 0, .emp] [(0, (1, (.c (.int .i64 1)))), (4, (1, (.c (.int .i64 (-1))))), (5, (1, (.t 1)))], none⟩, ⟨some 3, .bld [.str [], .str []] [(0, (1, (.c (.str [97])))), (1, (1, (.c (.str [34]))))], none⟩, ⟨some 4, .bldF 96 2 [.t 3], none⟩, ⟨some 5, .bldF 3 1 [.c (.int .i64 2)], none⟩, ⟨some 6, .bld [.int .i64 0, .str [], .emp, .str [], .int .i64 0, .emp] [(0, (1, (.c (.int .i64 2)))), (1, (1, (.c (.str [112])))), (2, (1, (.t 4))), (5, (1, (.t 5)))], none⟩, ⟨some 7, .bld [.int .i64 0, .str [], .emp, .str [], .int .i64 0, .emp] [(0, (1, (.c (.int .i64 3)))), (3, (1, (.c (.str [60, 10])))), (4, (1, (.c (.int .i64 1))))], none⟩, ⟨some 8, .bldF 40 6 [.t 2, .t 6, .t 7], none⟩, ⟨some 9, .bld [.emp, .bool false] [(0, (1, (.t 8)))], none⟩, ⟨none, .st 2 (.t 0) (.t 9), none⟩]) .ret), [.cell 0 2 true]⟩
theorem hc42 : toSF Tryz.prog {} Tryz.f42 = some c42 := by kernel_rfl
theorem hn42 : (Tryz.f42.name == "runtime.NumGoroutine") = false := by kernel_rfl
theorem oneP_ok : PCalls (Pg G) 42 [] (.agg (eDoc oneD)) := fun h => by
  refine DCalls.res (K := fun a h' => a = .agg [.slc [[.int .i64 1, .str [], .emp, .str [], .int .i64 (-1), .slc [[.int .i64 1]]], [.int .i64 2, .str [112], .slc [[.str [97], .str [34]]], .str [], .int .i64 0, .slc [[.int .i64 2]]], [.int .i64 3, .str [], .emp, .str [60, 10], .int .i64 1, .emp]], .bool false] ∧ h' = h) ?_ ?_
  · refine dcalls_of_vc Tryz.func42 hn42 hc42 (by rw [Tryz.ntmps42]; simp) (by rw [Tryz.ntmps42]; decide) ?_
    simp -dsimp -implicitDefEqProofs (disch := omega) only [VCA, Nat.reduceEqDiff, Nat.reduceAdd, Nat.reduceLT, Nat.reduceLeDiff, ↓reduceIte, reduceCtorEq, okParts, fillA, okFill, setAt, exists_eq_right_right, exists_eq_left', c42]
    intro r hr
    exact (Sub.refl _).upd hr
  · rintro a h' ⟨rfl, rfl⟩
    exact ⟨_, Wk.agg' (.cons (Wk.slc' (.cons (.cons (.refl _) (.cons (.refl _) (.cons .emp (.cons (.refl _) (.cons (.refl _) (.cons (.refl _) .nil)))))) (.cons (.cons (.refl _) (.cons (.refl _) (.cons (.refl _) (.cons (.refl _) (.cons (.refl _) (.cons (.refl _) .nil)))))) (.cons (.cons (.refl _) (.cons (.refl _) (.cons .emp (.cons (.refl _) (.cons (.refl _) (.cons .emp .nil)))))) .nil)))) (.cons (.refl _) .nil)), rfl, rfl⟩
end Go.Proofs.K
end
section
set_option linter.unusedSimpArgs false
set_option linter.unusedVariables false
namespace Go.Proofs.K
open Go Go.Sim Go.Proofs
variable {G : Glob}
end Go.Proofs.K
end
section
set_option linter.unusedSimpArgs false
set_option linter.unusedVariables false
namespace Go.Proofs.K
open Go Go.Sim Go.Proofs
section
variable {d : HDoc}
def path (d : HDoc) (n : Int) : List Int := (chain d n).reverse
theorem path_len (V : DV d) {n : Int} (hn : inD d n) : (path d n).length = up d n + 1 := by unfold path; rw [List.length_reverse, chain_len V n hn]
theorem path_up (V : DV d) {n : Int} (hn : inD d n) (hp : 0 ≤ (nd d n).parent) : path d n = path d (nd d n).parent ++ [n] := by unfold path; rw [chain_up V hn hp, List.reverse_cons]
theorem path_top (V : DV d) {n : Int} (hp : ¬ 0 ≤ (nd d n).parent) : path d n = [n] := by unfold path; rw [chain_top V hp]; rfl
theorem nth_snoc_lt {l : List Int} {x : Int} {j : Nat} (h : j < l.length) : nth (l ++ [x]) j = nth l j := by
  unfold nth; rw [List.getD_eq_getElem?_getD, List.getElem?_append_left h, ← List.getD_eq_getElem?_getD]
theorem nth_snoc_eq {l : List Int} {x : Int} : nth (l ++ [x]) l.length = x := by simp [nth, List.getD_eq_getElem?_getD]
theorem path_at (V : DV d) : ∀ n, inD d n → ∀ j, j ≤ up d n → nth (path d n) j ∈ chain d n ∧ up d (nth (path d n) j) = j := V.rise fun n hn ih j hj => by
  by_cases hp : 0 ≤ (nd d n).parent
  · have hu := V.up_par hn hp
    have hl := path_len V (V.par_in hn hp).1
    rw [path_up V hn hp]
    by_cases h1 : j = up d n
    · have : j = (path d (nd d n).parent).length := by omega
      rw [this, nth_snoc_eq]; exact ⟨chain_self _ _, by omega⟩
    · obtain ⟨h2, h3⟩ := ih hp j (by omega)
      rw [nth_snoc_lt (by omega)]
      exact ⟨by rw [chain_up V hn hp]; exact List.mem_cons_of_mem _ h2, h3⟩
  · have hu := V.up_top hp
    obtain rfl : j = 0 := by omega
    rw [path_top V hp]; exact ⟨chain_self _ _, hu⟩
structure Part (d : HDoc) (a b : Int) (i : Nat) : Prop where
  pos : 1 ≤ i
  la : i ≤ (path d a).length
  lb : i ≤ (path d b).length
  eq : ∀ j, j < i → nth (path d a) j = nth (path d b) j
  ne : ¬ (i < (path d a).length ∧ i < (path d b).length ∧ nth (path d a) i = nth (path d b) i)
variable {a b : Int} {i : Nat}
theorem Part.node (V : DV d) (ha : inD d a) (hb : inD d b) (p : Part d a b i) : nth (path d a) (i - 1) ∈ chain d a ∧ nth (path d a) (i - 1) ∈ chain d b ∧ up d (nth (path d a) (i - 1)) = i - 1 := by
  have h1 := path_at V a ha (i - 1) (by have := p.la; rw [path_len V ha] at this; omega)
  have h2 := path_at V b hb (i - 1) (by have := p.lb; rw [path_len V hb] at this; omega)
  exact ⟨h1.1, by rw [p.eq _ (by have := p.pos; omega)]; exact h2.1, h1.2⟩
end
end Go.Proofs.K
end
section
set_option linter.unusedSimpArgs false
set_option linter.unusedVariables false
namespace Go.Proofs.K
open Go Go.Sim Go.Proofs
variable {G : Glob}
end Go.Proofs.K
end
section
set_option linter.unusedSimpArgs false
set_option linter.unusedVariables false
namespace Go.Proofs.K
open Go Go.Sim Go.Proofs
variable {G : Glob}
end Go.Proofs.K
end
section
set_option linter.unusedSimpArgs false
set_option linter.unusedVariables false
namespace Go.Proofs.K
open Go Go.Sim Go.Proofs
variable {G : Glob}
structure HPoint where
  node : Int
  at' : Int
deriving DecidableEq, Inhabited
def eP (p : HPoint) : List AVal := [aInt p.node, aInt p.at']
instance : LenE eP 2 := ⟨fun _ => rfl⟩
structure HSpan where
  a : HPoint
  b : HPoint
deriving DecidableEq, Inhabited
def eS (s : HSpan) : List AVal := [aInt s.a.node, aInt s.a.at', aInt s.b.node, aInt s.b.at']
instance : LenE eS 4 := ⟨fun _ => rfl⟩
end Go.Proofs.K
end
section
set_option linter.unusedSimpArgs false
set_option linter.unusedVariables false
namespace Go.Proofs.K
open Go Go.Sim Go.Proofs
variable {G : Glob}
def rkey (d : HDoc) (n : Int) : List Int := ((chain d n).filter (fun m => decide (0 < m))).map fun m => 2 * idxM (· == m) (nd d (nd d m).parent).kids + 1
def key (d : HDoc) (p : HPoint) : List Int := (2 * p.at' :: rkey d p.node).reverse
section
variable {d : HDoc}
end
end Go.Proofs.K
end
section
set_option linter.unusedSimpArgs false
set_option linter.unusedVariables false
namespace Go.Proofs.K
open Go Go.Sim Go.Proofs
def textM (x : HNode) : List UInt8 := if x.kind = 5 then [] else x.text
def mkF : Nat → HDoc → Int → List HPoint
  | 0, _, n => [⟨n, 0⟩]
  | f + 1, d, n => ⟨n, 0⟩ :: ((List.range (nd d n).kids.length).flatMap (fun i => mkF f d (nth (nd d n).kids i) ++ [⟨n, (i : Int) + 1⟩]) ++ (List.range (textM (nd d n)).length).map fun i => ⟨n, (i : Int) + 1⟩)
def marks (d : HDoc) (n : Int) : List HPoint := mkF (41 - up d n) d n
section
variable {d : HDoc}
def pre (d : HDoc) (n : Int) : List Int := (rkey d n).reverse
def markM (d : HDoc) (p : HPoint) : Int := idxM (· == p) (marks d 0)
end
end Go.Proofs.K
end
section
set_option linter.unusedSimpArgs false
set_option linter.unusedVariables false
namespace Go.Proofs.K
open Go Go.Sim Go.Proofs
variable {G : Glob}
end Go.Proofs.K
end
section
set_option linter.unusedSimpArgs false
set_option linter.unusedVariables false
namespace Go.Proofs.K
open Go Go.Sim Go.Proofs
variable {G : Glob}
end Go.Proofs.K
end
section
set_option linter.unusedSimpArgs false
set_option linter.unusedVariables false
namespace Go.Proofs.K
open Go Go.Sim Go.Proofs
variable {G : Glob}
def c121 : SFun := ⟨.seq (.reg [⟨some 3, .boxF 24 2 (.t 0), none⟩, ⟨some 6, .mv (.c .emp), none⟩]) (.seq (.reg [⟨some 9, .mv (.t 2), none⟩, ⟨some 10, .mv (.t 1), none⟩, ⟨some 11, .bldF 3 1 [.t 10], none⟩, ⟨some 12, .app 3 1 8 (.t 9) (.t 11), none⟩, ⟨some 2, .mv (.t 12), none⟩]) (.seq (.seq (.reg [⟨some 13, .fldA 0 (.t 3), none⟩, ⟨some 14, .ld 1 false (.t 13), none⟩, ⟨some 15, .mv (.t 1), none⟩, ⟨some 16, .idxA 6 (.t 14) (.t 15), none⟩, ⟨some 17, .fldA 5 (.t 16), none⟩, ⟨some 18, .ld 1 false (.t 17), none⟩, ⟨some 19, .len (.t 18), none⟩, ⟨some 20, .mv (.c (.int .i64 0)), none⟩]) (.block 0 (.loop (.seq (.reg [⟨some 21, .bin .lss (.t 20) (.t 19), none⟩]) (.seq (.cond (.t 21) .skip (.exit 0)) (.seq (.block 1 (.seq (.reg [⟨some 22, .idxA 1 (.t 18) (.t 20), none⟩, ⟨some 23, .ld 1 false (.t 22), none⟩, ⟨some 8, .mv (.t 23), none⟩]) (.reg [⟨some 24, .ld 2 true (.t 3), none⟩, ⟨some 25, .mv (.t 8), none⟩, ⟨some 26, .mv (.t 2), none⟩, ⟨some 27, .call (.c (.fn 121 [] [])) [.t 24, .t 25, .t 26], none⟩, ⟨some 2, .mv (.t 27), none⟩]))) (.reg [⟨some 28, .bin .add (.t 20) (.c (.int .i64 1)), none⟩, ⟨some 20, .mv (.t 28), none⟩]))))))) (.seq (.reg [⟨some 29, .mv (.t 2), none⟩, ⟨some 6, .mv (.t 29), none⟩]) .ret))), [.tmp 6]⟩
theorem hc121 : toSF Tryz.prog {} Tryz.f121 = some c121 := by kernel_rfl
theorem hn121 : (Tryz.f121.name == "runtime.NumGoroutine") = false := by kernel_rfl
theorem walk_ok (d : HDoc) (V : DV d) (sm : DocSm d) : ∀ n, inD d n → ∀ (h h1 : Heap) (L : List Int) (a : AVal), Acc h 3 1 (L.map eInt) a h1 → Sim.Sub h h1 → L.length + (below d n).length ≤ 1000000 →
    DCalls (Pg G) 121 [.agg (eDoc d), aInt n, a] h1 fun r h2 => Acc h 3 1 ((L ++ below d n).map eInt) r h2 ∧ Sim.Sub h h2 := V.down fun n hn ih h h1 L a A S hL => by
  have hl := V.len
  have n0 := hn.1
  have n1 := hn.2
  have e0 : nth d.nodes n.toNat = nd d n := rfl
  have kl := (sm.nd n).kids
  have bl := below_len V hn
  have be := below_eq V hn
  refine dcalls_of_vc Tryz.func121 hn121 hc121 (by rw [Tryz.ntmps121]; simp) (by rw [Tryz.ntmps121]; decide) ?_
  simp -dsimp -implicitDefEqProofs (disch := omega) only [VCA, Nat.reduceEqDiff, Nat.reduceAdd, ↓reduceIte, okParts, forall_eq, exists_eq_left, c121, eDoc]
  refine A.app S (by simp only [List.length_map, List.length_cons, List.length_nil]; omega) (by simp only [List.length_map, List.length_cons, List.length_nil]; omega) fun a2 h2 A2 S2 => ?_
  simp -dsimp -implicitDefEqProofs (disch := omega) only [VCA, Nat.reduceEqDiff, Nat.reduceAdd, Nat.reduceLeDiff, ↓reduceIte, eNode, e0]
  refine ⟨by omega, ?_⟩
  have A0 : Acc h 3 1 ((L ++ n :: ((nd d n).kids.take 0).flatMap (below d)).map eInt) a2 h2 := by simpa [eInt] using A2
  have bel : (below d n).length = 1 + ((nd d n).kids.flatMap (below d)).length := by rw [be, List.length_cons]; omega
  refine LoopVC.intro (fun m e h' => ∃ k : Nat, k ≤ (nd d n).kids.length ∧ m = (nd d n).kids.length - k ∧ e 3 = .pin (eDoc d) ∧ e 18 = sl eInt (nd d n).kids ∧ e 19 = aInt (nd d n).kids.length ∧ e 20 = aInt k ∧ Acc h 3 1 ((L ++ n :: ((nd d n).kids.take k).flatMap (below d)).map eInt) (e 2) h' ∧ Sim.Sub h h') _ ⟨0, by omega, rfl, rfl, rfl, rfl, rfl, A0, S2⟩ ?_
  clear A0 A2 S2 A S
  rintro m e h' ⟨k, hk, rfl, he3, he18, he19, he20, A, S⟩
  simp -dsimp -implicitDefEqProofs (disch := omega) only [VCA, ↓reduceIte, he19, he20]
  refine Br.dec (fun hlt => ?_) (fun hge => ?_)
  · have hk' : k < (nd d n).kids.length := by omega
    have hfl : (((nd d n).kids.take (k + 1)).flatMap (below d)).length ≤ ((nd d n).kids.flatMap (below d)).length := by
      conv => rhs; rw [← List.take_append_drop (k + 1) (nd d n).kids, List.flatMap_append, List.length_append]
      omega
    rw [take_snoc hk', List.flatMap_append, List.length_append] at hfl
    simp only [List.flatMap_cons, List.flatMap_nil, List.append_nil] at hfl
    have hI := ih _ (nth_mem' hk') h h' (L ++ n :: ((nd d n).kids.take k).flatMap (below d)) (e 2) A S (by rw [List.length_append, List.length_cons]; omega)
    simp -dsimp -implicitDefEqProofs (disch := omega) only [VCA, Nat.reduceEqDiff, ↓reduceIte, eInt, he3, he18, he20, eDoc_len, eDoc_take]
    refine ⟨by omega, ?_⟩
    refine DCalls.of hI ?_
    rintro r h3 ⟨A3, S3⟩
    have A4 : Acc h 3 1 ((L ++ n :: ((nd d n).kids.take (k + 1)).flatMap (below d)).map eInt) r h3 := by
      rw [take_snoc hk', List.flatMap_append]
      simpa using A3
    simp -dsimp -implicitDefEqProofs (disch := omega) only [VCA, Nat.reduceEqDiff, ↓reduceIte, he3, he18, he19, he20]
    exact ⟨_, by omega, k + 1, by omega, rfl, by omega, A4, S3⟩
  · obtain rfl : k = (nd d n).kids.length := by omega
    rw [List.take_length, ← be] at A
    simp -dsimp -implicitDefEqProofs (disch := omega) only [VCA, Nat.reduceEqDiff, ↓reduceIte]
    exact ⟨_, Sub.refl _, A, S⟩
theorem walk0_ok (d : HDoc) (V : DV d) (sm : DocSm d) (n : Int) (hn : inD d n) : PCalls (Pg G) 121 [.agg (eDoc d), aInt n, .emp] (sl eInt (below d n)) := PCalls.acc (ty := 3) (sz := 1) fun h =>
  (walk_ok (G := G) d V sm n hn h h [] .emp .nil (Sub.refl _) (by have := below_len V hn; have := V.len; simp; omega)).mono fun r h' hh => by rw [List.nil_append] at hh; exact hh
def c95 : SFun := ⟨.seq (.reg [⟨some 1, .boxF 24 2 (.t 0), none⟩, ⟨some 2, .mv (.c .emp), none⟩, ⟨some 3, .mv (.c (.int .i64 0)), none⟩]) (.seq (.seq (.reg [⟨some 5, .ld 2 true (.t 1), none⟩, ⟨some 6, .pcall 47 [.t 5], none⟩, ⟨some 4, .mv (.t 6), none⟩]) (.seq (.reg [⟨some 7, .mv (.t 4), none⟩, ⟨some 8, .bin .neq (.t 7) (.c (.int .i64 0)), none⟩]) (.cond (.t 8) (.seq (.reg [⟨some 9, .mv (.t 4), none⟩, ⟨some 2, .mv (.c .emp), none⟩, ⟨some 3, .mv (.t 9), none⟩]) .ret) .skip))) (.seq (.reg [⟨some 10, .ld 2 true (.t 1), none⟩, ⟨some 11, .pcall 121 [.t 10, .c (.int .i64 0), .c .emp], none⟩, ⟨some 2, .mv (.t 11), none⟩, ⟨some 3, .mv (.c (.int .i64 0)), none⟩]) .ret)), [.tmp 2, .tmp 3]⟩
theorem hc95 : toSF Tryz.prog {pure := [47, 121]} Tryz.f95 = some c95 := by kernel_rfl
theorem hn95 : (Tryz.f95.name == "runtime.NumGoroutine") = false := by kernel_rfl
theorem domOrder_ok (d : HDoc) (V : DV d) (h0 : docE d = 0) (sm : DocSm d) : PCalls (Pg G) 95 [.agg (eDoc d)] (.tup [sl eInt (below d 0), aInt 0]) := fun h => by
  have hC := check_ok (G := G) d sm
  have hW := walk0_ok (G := G) d V sm 0 V.zero
  rw [h0] at hC
  refine dcalls_of_vc Tryz.func95 hn95 hc95 (by rw [Tryz.ntmps95]; simp) (by rw [Tryz.ntmps95]; decide) ?_
  simp -dsimp -implicitDefEqProofs (disch := omega) only [VCA, Nat.reduceEqDiff, ↓reduceIte, c95, eDoc_len, eDoc_take]
  repeat' (first | ((with_reducible refine brC (fun _ => ?_) fun _ => ?_) <;> try (exfalso; omega)) | (with_reducible apply pcallE.of; · exact hC) | (with_reducible apply pcallE.of; · exact hW) | (with_reducible refine And.intro ?_ ?_; · omega) | simp -dsimp -implicitDefEqProofs (disch := omega) only [VCA, Nat.reduceEqDiff, ↓reduceIte, exists_eq_right, eDoc_len, eDoc_take])
  all_goals exact Sub.refl _
end Go.Proofs.K
end
section
set_option linter.unusedSimpArgs false
set_option linter.unusedVariables false
namespace Go.Proofs.K
open Go Go.Sim Go.Proofs
variable {G : Glob}
end Go.Proofs.K
end
section
set_option linter.unusedSimpArgs false
set_option linter.unusedVariables false
namespace Go.Proofs.K
open Go Go.Sim Go.Proofs
variable {G : Glob}
end Go.Proofs.K
end
section
set_option linter.unusedSimpArgs false
set_option linter.unusedVariables false
namespace Go.Proofs.K
open Go Go.Sim Go.Proofs
variable {G : Glob}
end Go.Proofs.K
end
section
set_option linter.unusedSimpArgs false
set_option linter.unusedVariables false
namespace Go.Proofs.K
open Go Go.Sim Go.Proofs
variable {G : Glob}
theorem runM_idx : ∀ (l : List HEdit) (d : HDoc) (i j : Int), (runM d l i).1 = (runM d l j).1 ∧ (runM d l i).2.2 = (runM d l j).2.2
  | [], d, i, j => ⟨rfl, rfl⟩
  | e :: l, d, i, j => by
    unfold runM
    split
    · exact ⟨rfl, rfl⟩
    · exact runM_idx l _ _ _
theorem runM_app : ∀ (a b : List HEdit) (d : HDoc) (i : Int), (runM d a i).2.2 = 0 → (runM d (a ++ b) i).1 = (runM (runM d a i).1 b 0).1 ∧ (runM d (a ++ b) i).2.2 = (runM (runM d a i).1 b 0).2.2
  | [], b, d, i, h => runM_idx b d i 0
  | e :: a, b, d, i, h => by
    rw [List.cons_append]
    rw [runM] at h ⊢
    split at h
    · rename_i q; exact absurd h q
    · rename_i q
      rw [if_neg q]
      have e1 : runM d (e :: a) i = runM (applyD d e) a (i + 1) := by rw [runM, if_neg q]
      have := runM_app a b _ _ h
      rw [← e1] at this
      exact this
theorem runM_err : ∀ (a b : List HEdit) (d : HDoc) (i : Int), (runM d a i).2.2 ≠ 0 → (runM d (a ++ b) i).2.2 = (runM d a i).2.2
  | [], b, d, i, h => absurd rfl h
  | e :: a, b, d, i, h => by
    rw [List.cons_append]
    unfold runM at h ⊢
    split at h
    · rename_i q; rw [if_pos q, if_pos q]
    · rename_i q
      rw [if_neg q, if_neg q]
      exact runM_err a b _ _ h
theorem runM_DV : ∀ (l : List HEdit) (d : HDoc) (i : Int), DV d → DocSm d → (∀ e ∈ l, EditSm e) → (runM d l i).2.2 = 0 → DV (runM d l i).1 ∧ DocSm (runM d l i).1
  | [], d, i, V, sm, _, _ => ⟨V, sm⟩
  | e :: l, d, i, V, sm, hl, h => by
    unfold runM at h ⊢
    split at h
    · rename_i q; exact absurd h q
    · rename_i q
      rw [if_neg q]
      have := apply_step V sm (hl e List.mem_cons_self) (Classical.not_not.1 q)
      exact runM_DV l _ _ this.1 this.2.1 (fun x hx => hl x (List.mem_cons_of_mem _ hx)) h
def patE (d : HDoc) (l : List HEdit) : Int := if docE d ≠ 0 then docE d else if 800 < l.length then 2 else (runM d l 0).2.2
def patR (d : HDoc) (l : List HEdit) : HDoc := if patE d l = 0 then (runM d l 0).1 else noDoc
def patV (d : HDoc) (l : List HEdit) : AVal := .tup [.agg (eDoc (patR d l)), aInt (patE d l)]
theorem patR_sm {d : HDoc} (sm : DocSm d) {l : List HEdit} (hl : ∀ e ∈ l, EditSm e) : DocSm (patR d l) := by
  unfold patR
  split
  · rename_i h
    unfold patE at h
    split at h
    · rename_i q; exact absurd h q
    · rename_i q
      split at h
      · omega
      · exact (runM_DV l d 0 (docE_DV (by simpa using q)) sm hl h).2
  · exact ⟨Nat.zero_le _, fun x hx => by cases hx⟩
def Pat (d : HDoc) (l : List HEdit) (D : HDoc) (rest : List HEdit) (x : Int) : Prop :=
  (x = 0 ∧ docE d = 0 ∧ l.length ≤ 800 ∧ DV D ∧ DocSm D ∧ (runM D rest 0).1 = (runM d l 0).1 ∧ (runM D rest 0).2.2 = (runM d l 0).2.2) ∨ (x ≠ 0 ∧ x = patE d l)
theorem Pat.next {d D : HDoc} {l a b : List HEdit} (P : Pat d l D (a ++ b) 0) (ha : ∀ e ∈ a, EditSm e) : Pat d l (runM D a 0).1 b (runM D a 0).2.2 := by
  rcases P with ⟨_, p1, p2, p3, p4, p5, p6⟩ | ⟨p, _⟩
  · by_cases h : (runM D a 0).2.2 = 0
    · obtain ⟨q1, q2⟩ := runM_app a b D 0 h
      obtain ⟨W, sm⟩ := runM_DV a D 0 p3 p4 ha h
      rw [h]
      exact .inl ⟨rfl, p1, p2, W, sm, by rw [← p5, q1], by rw [← p6, q2]⟩
    · refine .inr ⟨h, ?_⟩
      unfold patE
      rw [if_neg (by simpa using p1), if_neg (by omega), ← p6, runM_err a b D 0 h]
  · exact absurd rfl p
theorem Pat.end0 {d D : HDoc} {l : List HEdit} (P : Pat d l D [] 0) : patE d l = 0 ∧ patR d l = D := by
  rcases P with ⟨_, p1, p2, p3, p4, p5, p6⟩ | ⟨p, _⟩
  · have e : patE d l = 0 := by unfold patE; rw [if_neg (by simpa using p1), if_neg (by omega), ← p6]; rfl
    exact ⟨e, by unfold patR; rw [if_pos e, ← p5]; rfl⟩
  · exact absurd rfl p
theorem Pat.endE {d D : HDoc} {l rest : List HEdit} {x : Int} (P : Pat d l D rest x) (hx : x ≠ 0) : patE d l = x ∧ patR d l = noDoc := by
  rcases P with ⟨p, _⟩ | ⟨p, q⟩
  · exact absurd p hx
  · exact ⟨q.symm, by unfold patR; rw [if_neg (by rw [← q]; exact hx)]⟩
def c20_s3 : SCode := (.seq (.block 0 (.loop (.seq (.seq (.reg [⟨some 22, .mv (.t 1), none⟩, ⟨some 23, .len (.t 22), none⟩, ⟨some 24, .bin .gtr (.t 23) (.c (.int .i64 0)), none⟩, ⟨some 25, .mv (.t 24), none⟩, ⟨some 26, .mv (.t 7), some (25, true)⟩, ⟨some 27, .bin .eql (.t 26) (.c (.int .i64 0)), some (25, true)⟩, ⟨some 28, .pick (.t 25) (.t 27) (.c (.bool false)), none⟩]) (.cond (.t 28) .skip (.exit 0))) (.block 1 (.seq (.reg [⟨some 29, .mv (.t 1), none⟩, ⟨some 30, .len (.t 29), none⟩, ⟨some 31, .min2 (.t 30) (.c (.int .i64 40)), none⟩, ⟨some 8, .mv (.t 31), none⟩]) (.seq (.dreg [(⟨some 33, .ld 2 true (.t 2), none⟩, none), (⟨some 34, .mv (.t 1), none⟩, none), (⟨some 35, .mv (.t 8), none⟩, none), (⟨some 36, .slA 12 (.t 34) none (some (.t 35)), none⟩, none), (⟨some 37, .pcall 38 [.t 33, .t 36], none⟩, none), (⟨some 32, .mv (.t 37), none⟩, none), (⟨some 38, .ext (.t 32) 0, none⟩, none), (⟨some 39, .ext (.t 32) 1, none⟩, none), (⟨some 40, .ext (.t 32) 2, none⟩, none), (⟨none, .st 2 (.t 2) (.t 38), none⟩, (some [33])), (⟨some 7, .mv (.t 40), none⟩, none)]) (.reg [⟨some 41, .mv (.t 1), none⟩, ⟨some 42, .mv (.t 8), none⟩, ⟨some 43, .slA 12 (.t 41) (some (.t 42)) none, none⟩, ⟨some 1, .mv (.t 43), none⟩]))))))) (.seq (.seq (.reg [⟨some 44, .mv (.t 7), none⟩, ⟨some 45, .bin .neq (.t 44) (.c (.int .i64 0)), none⟩]) (.cond (.t 45) (.seq (.reg [⟨some 46, .bld [.emp, .bool false] [], none⟩, ⟨some 47, .mv (.t 7), none⟩, ⟨none, .st 2 (.t 4) (.t 46), none⟩, ⟨some 5, .mv (.t 47), none⟩]) .ret) .skip)) (.seq (.reg [⟨some 48, .ld 2 true (.t 2), none⟩, ⟨none, .st 2 (.t 4) (.t 48), none⟩, ⟨some 5, .mv (.c (.int .i64 0)), none⟩]) .ret)))
def c20 : SFun := ⟨.seq (.reg [⟨some 2, .box 24 2 (.t 0), none⟩, ⟨some 4, .new 24 2 [.emp, .bool false], none⟩, ⟨some 5, .mv (.c (.int .i64 0)), none⟩]) (.seq (.reg [⟨some 10, .ld 2 true (.t 2), none⟩, ⟨some 11, .pcall 38 [.t 10, .c .emp], none⟩, ⟨some 9, .mv (.t 11), none⟩, ⟨some 12, .ext (.t 9) 0, none⟩, ⟨some 13, .ext (.t 9) 1, none⟩, ⟨some 14, .ext (.t 9) 2, none⟩, ⟨none, .st 2 (.t 2) (.t 12), none⟩, ⟨some 6, .mv (.t 13), none⟩, ⟨some 7, .mv (.t 14), none⟩]) (.seq (.seq (.reg [⟨some 15, .mv (.t 7), none⟩, ⟨some 16, .bin .eql (.t 15) (.c (.int .i64 0)), none⟩, ⟨some 17, .mv (.t 16), none⟩, ⟨some 18, .mv (.t 1), some (17, true)⟩, ⟨some 19, .len (.t 18), some (17, true)⟩, ⟨some 20, .bin .gtr (.t 19) (.c (.int .i64 800)), some (17, true)⟩, ⟨some 21, .pick (.t 17) (.t 20) (.c (.bool false)), none⟩]) (.cond (.t 21) (.reg [⟨some 7, .mv (.c (.int .i64 2)), none⟩]) .skip)) c20_s3)), [.cell 4 2 true, .tmp 5]⟩
theorem hc20 : toSF Tryz.prog {pure := [38], how := [(2, 6)]} Tryz.f20 = some c20 := by kernel_rfl
theorem hn20 : (Tryz.f20.name == "runtime.NumGoroutine") = false := by kernel_rfl
set_option maxHeartbeats 1000000 in
set_option maxRecDepth 10000 in
theorem patRun_loop {d D0 : HDoc} {l : List HEdit} {x0 : Int} {E : Env} {h hh : Heap} {r2 r4 : Nat} (hr2 : h r2 = none) (hr4 : ¬ r4 = r2 ∧ h r4 = none) (hl : ∀ e ∈ l, EditSm e) (ll : l.length ≤ 1073741824) (P : Pat d l D0 l x0) (e1 : E 1 = sl eEdit l) (e2 : E 2 = .vp r2 0) (e4 : E 4 = .vp r4 0) (e7 : E 7 = aInt x0)
    (g2 : hh r2 = some ⟨.t 24, 2, [eDoc D0]⟩) (g4 : hh r4 = some ⟨.t 24, 2, [[.emp, .bool false]]⟩) (S : Sub h hh) :
    vc (Pg G) c20_s3 (retK [.cell 4 2 true, .tmp 5] fun a h' => Sub h h' ∧ VwT (newH h h') a (.tup [.agg (eDoc (patR d l)), aInt (patE d l)])) E hh := by
  have m1 : ¬ r4 = r2 := hr4.1
  have m2 : ¬ r2 = r4 := fun h => m1 h.symm
  unfold c20_s3
  skip
  simp -dsimp -implicitDefEqProofs (disch := omega) only [VCA]
  refine LoopVC.intro (fun m E h' => ∃ (rest : List HEdit) (D : HDoc) (x : Int), m = rest.length ∧ E 1 = sl eEdit rest ∧ E 2 = .vp r2 0 ∧ E 4 = .vp r4 0 ∧ E 7 = aInt x ∧ h' r2 = some ⟨.t 24, 2, [eDoc D]⟩ ∧ h' r4 = some ⟨.t 24, 2, [[.emp, .bool false]]⟩ ∧ Sub h h' ∧ (∀ e ∈ rest, EditSm e) ∧ rest.length ≤ 1073741824 ∧ Pat d l D rest x) l.length
    ⟨l, D0, x0, rfl, e1, e2, e4, e7, g2, g4, S, hl, ll, P⟩ ?_
  clear e1 e2 e4 e7 g2 g4 S
  rintro m E h' ⟨rest, D, x, rfl, e1, e2, e4, e7, g2, g4, S, hr, hrl, P⟩
  by_cases hz : 0 < rest.length
  · have z1 : decide ((rest.length : Int) > 0) = true := decide_eq_true (by omega)
    by_cases hx : x = 0
    · subst hx
      obtain ⟨a, ha⟩ : ∃ a, rest.take (min (rest.length : Int) 40).toNat = a := ⟨_, rfl⟩
      obtain ⟨b, hb⟩ : ∃ b, rest.drop (min (rest.length : Int) 40).toNat = b := ⟨_, rfl⟩
      have hab : a ++ b = rest := by rw [← ha, ← hb, List.take_append_drop]
      have la : a.length ≤ 40 ∧ 0 < a.length := by rw [← ha, List.length_take]; omega
      have lb : rest.length = a.length + b.length := by rw [← hab, List.length_append]
      have sa : ∀ e ∈ a, EditSm e := fun e he => hr e (by rw [← hab]; exact List.mem_append_left _ he)
      have sb : ∀ e ∈ b, EditSm e := fun e he => hr e (by rw [← hab]; exact List.mem_append_right _ he)
      rw [← hab] at P
      have P2 := P.next sa
      obtain ⟨p1, p2, p3, p4, p5⟩ : docE D = 0 ∧ DV D ∧ DocSm D ∧ True ∧ True := by
        rcases P with ⟨_, p1, p2, p3, p4, p5, p6⟩ | ⟨p, _⟩
        · exact ⟨(docE_iff D).2 p3, p3, p4, trivial, trivial⟩
        · exact absurd rfl p
      have hA := all_ok (G := G) D p3 a sa (by omega)
      have aM : allM D a = runM D a 0 := by unfold allM; rw [if_neg (by simpa using p1), if_neg (by omega)]
      rw [aM] at hA
      unfold allV at hA
      obtain ⟨R, hR⟩ : ∃ R, runM D a 0 = R := ⟨_, rfl⟩
      rw [hR] at hA P2
      obtain ⟨D2, i2, x2⟩ := R
      dsimp only at hA P2
      repeat' (first | ((with_reducible refine brC (fun _ => ?_) fun _ => ?_) <;> try (exfalso; omega)) | (with_reducible apply pcallE.of; · exact hA) | (with_reducible refine And.intro ?_ ?_; · omega) | simp -dsimp -implicitDefEqProofs (disch := omega) only [↓vcOps_sp 25, VCA, Nat.reduceEqDiff, Nat.reduceBEq, Nat.reduceAdd, Nat.reduceLT, ↓reduceIte, rsOf, rootsOf, SOp.rd, SI.rd, SX.rd, setAt, exists_eq_left', rootL, e1, e2, e4, e7, g2, g4, ha, hb, eDoc_len, eDoc_take, eDoc_dr, m1])
      all_goals try (exfalso; omega)
      exact ⟨b.length, by omega, b, D2, x2, rfl, rfl, rfl, rfl, S.upd hr2, sb, by omega, P2⟩
    · have b0 : (x == 0) = false := by simpa using hx
      have b1 : (x != 0) = true := by simpa using hx
      obtain ⟨eP, eR⟩ := P.endE hx
      rw [eP, eR]
      repeat' (first | ((with_reducible refine brC (fun _ => ?_) fun _ => ?_) <;> try (exfalso; omega)) | (with_reducible refine And.intro ?_ ?_; · omega) | simp -dsimp -implicitDefEqProofs (disch := omega) only [↓vcOps_sp 25, VCA, Nat.reduceEqDiff, Nat.reduceAdd, Nat.reduceLT, ↓reduceIte, fillA, okFill, setAt, exists_eq_left', e1, e4, e7, g4, b0, b1])
      all_goals try (exfalso; omega)
      exact ⟨_, Sub.refl _, S.upd hr4.2, .tup' (.cons (vw_noDoc _) (.cons (.refl _) .nil))⟩
  · have hz0 : rest = [] := List.eq_nil_of_length_eq_zero (by omega)
    subst hz0
    by_cases hx : x = 0
    · subst hx
      obtain ⟨eP, eR⟩ := P.end0
      rw [eP, eR]
      repeat' (first | ((with_reducible refine brC (fun _ => ?_) fun _ => ?_) <;> try (exfalso; omega)) | (with_reducible refine And.intro ?_ ?_; · omega) | simp -dsimp -implicitDefEqProofs (disch := omega) only [↓vcOps_sp 25, VCA, Nat.reduceEqDiff, Nat.reduceAdd, Nat.reduceLT, ↓reduceIte, setAt, exists_eq_left', e1, e2, e4, e7, g2, g4, eDoc_len, eDoc_take])
      all_goals try (exfalso; omega)
      exact ⟨_, Sub.refl _, S.upd hr4.2, .tup' (.cons (.refl _) (.cons (.refl _) .nil))⟩
    · have b0 : (x == 0) = false := by simpa using hx
      have b1 : (x != 0) = true := by simpa using hx
      obtain ⟨eP, eR⟩ := P.endE hx
      rw [eP, eR]
      repeat' (first | ((with_reducible refine brC (fun _ => ?_) fun _ => ?_) <;> try (exfalso; omega)) | (with_reducible refine And.intro ?_ ?_; · omega) | simp -dsimp -implicitDefEqProofs (disch := omega) only [↓vcOps_sp 25, VCA, Nat.reduceEqDiff, Nat.reduceAdd, Nat.reduceLT, ↓reduceIte, fillA, okFill, setAt, exists_eq_left', e1, e4, e7, g4, b1])
      all_goals try (exfalso; omega)
      exact ⟨_, Sub.refl _, S.upd hr4.2, .tup' (.cons (vw_noDoc _) (.cons (.refl _) .nil))⟩
theorem patRun_ok (d : HDoc) (sm : DocSm d) (l : List HEdit) (hl : ∀ e ∈ l, EditSm e) (ll : l.length ≤ 1073741824) : PCalls (Pg G) 20 [.agg (eDoc d), sl eEdit l] (patV d l) := PCalls.outV fun h => by
  unfold patV
  have hN : PCalls (Pg G) 38 [.agg (eDoc d), .emp] (allV (allM d [])) := (all_ok (G := G) d sm [] (fun e he => by cases he) (by decide)).wk (.cons (.refl _) (.cons .emp .nil))
  refine dcalls_of_vc Tryz.func20 hn20 hc20 (by rw [Tryz.ntmps20]; simp) (by rw [Tryz.ntmps20]; decide) ?_
  simp -dsimp -implicitDefEqProofs (disch := omega) only [VCA, ↓upd_none, Nat.reduceEqDiff, ↓reduceIte, ne_eq, c20, eDoc_len]
  intro r2 hr2 r4 hr4
  have m1 : ¬ r4 = r2 := hr4.1
  have m2 : ¬ r2 = r4 := fun h => m1 h.symm
  have S4 : ∀ x y, Sub h (upd (upd h r2 (some x)) r4 (some y)) := fun x y => ((Sub.refl h).upd hr2).upd hr4.2
  by_cases h1 : docE d = 0
  · have V := docE_DV h1
    have aN : allM d [] = (d, 0, 0) := by unfold allM; rw [if_neg (by simpa using h1), if_neg (by decide)]; rfl
    rw [aN] at hN
    unfold allV at hN
    dsimp only at hN
    by_cases h8 : 800 < l.length
    · have P : Pat d l d l 2 := .inr ⟨by decide, by unfold patE; rw [if_neg (by simpa using h1), if_pos h8]⟩
      repeat' (first | ((with_reducible refine brC (fun _ => ?_) fun _ => ?_) <;> try (exfalso; omega)) | (with_reducible apply pcallE.of; · exact hN) | (with_reducible refine And.intro ?_ ?_; · omega) | simp -dsimp -implicitDefEqProofs (disch := omega) only [↓vcOps_sp 17, VCA, Nat.reduceEqDiff, Nat.reduceAdd, Nat.reduceLT, ↓reduceIte, setAt, exists_eq_left', eDoc_len, eDoc_take, eDoc_dr, m2])
      all_goals first | (exfalso; omega) | exact patRun_loop hr2 hr4 hl ll P rfl rfl rfl rfl (upd_same _ _ _) (by rw [upd_ne _ _ m1, upd_same]) ((S4 _ _).upd hr2)
    · have P : Pat d l d l 0 := .inl ⟨rfl, h1, by omega, V, sm, rfl, rfl⟩
      repeat' (first | ((with_reducible refine brC (fun _ => ?_) fun _ => ?_) <;> try (exfalso; omega)) | (with_reducible apply pcallE.of; · exact hN) | (with_reducible refine And.intro ?_ ?_; · omega) | simp -dsimp -implicitDefEqProofs (disch := omega) only [↓vcOps_sp 17, VCA, Nat.reduceEqDiff, Nat.reduceAdd, Nat.reduceLT, ↓reduceIte, setAt, exists_eq_left', eDoc_len, eDoc_take, eDoc_dr, m2])
      all_goals first | (exfalso; omega) | exact patRun_loop hr2 hr4 hl ll P rfl rfl rfl rfl (upd_same _ _ _) (by rw [upd_ne _ _ m1, upd_same]) ((S4 _ _).upd hr2)
  · have aN : allM d [] = (noDoc, 0, docE d) := by unfold allM; rw [if_pos h1]
    rw [aN] at hN
    unfold allV at hN
    dsimp only at hN
    have b0 : (docE d == 0) = false := by simpa using h1
    have P : Pat d l noDoc l (docE d) := .inr ⟨h1, by unfold patE; rw [if_pos h1]⟩
    repeat' (first | ((with_reducible refine brC (fun _ => ?_) fun _ => ?_) <;> try (exfalso; omega)) | (with_reducible apply pcallE.of; · exact hN) | (with_reducible refine And.intro ?_ ?_; · omega) | simp -dsimp -implicitDefEqProofs (disch := omega) only [↓vcOps_sp 17, VCA, Nat.reduceEqDiff, Nat.reduceAdd, Nat.reduceLT, ↓reduceIte, setAt, exists_eq_left', eDoc_len, eDoc_take, eDoc_dr, m2, b0])
    all_goals first | (exfalso; omega) | exact patRun_loop hr2 hr4 hl ll P rfl rfl rfl rfl (upd_same _ _ _) (by rw [upd_ne _ _ m1, upd_same]) ((S4 _ _).upd hr2)
theorem Pat.step {d D : HDoc} {l b : List HEdit} {e : HEdit} (P : Pat d l D (e :: b) 0) (he : EditSm e) : Pat d l (applyD D e) b (applyE D e) := by
  have h := P.next (a := [e]) (b := b) (fun x hx => by simp at hx; subst hx; exact he)
  have : runM D [e] 0 = if applyE D e ≠ 0 then (noDoc, 0, applyE D e) else (applyD D e, 0, 0) := by rw [runM, runM]
  rw [this] at h
  by_cases q : applyE D e ≠ 0
  · rw [if_pos q] at h
    have : applyD D e = noDoc := by unfold applyD; rw [if_neg q]
    rw [this]; exact h
  · rw [if_neg q] at h
    have q0 : applyE D e = 0 := by simpa using q
    rw [q0]; exact h
def c21_s3 : SCode := (.seq (.seq (.reg [⟨some 7, .mv (.c (.int .i64 0)), none⟩]) (.block 0 (.loop (.seq (.seq (.reg [⟨some 17, .mv (.t 7), none⟩, ⟨some 18, .mv (.t 1), none⟩, ⟨some 19, .len (.t 18), none⟩, ⟨some 20, .bin .lss (.t 17) (.t 19), none⟩, ⟨some 21, .mv (.t 20), none⟩, ⟨some 22, .mv (.t 6), some (21, true)⟩, ⟨some 23, .bin .eql (.t 22) (.c (.int .i64 0)), some (21, true)⟩, ⟨some 24, .pick (.t 21) (.t 23) (.c (.bool false)), none⟩]) (.cond (.t 24) .skip (.exit 0))) (.seq (.block 1 (.dreg [(⟨some 28, .ld 2 true (.t 2), none⟩, none), (⟨some 29, .mv (.t 1), none⟩, none), (⟨some 30, .mv (.t 7), none⟩, none), (⟨some 31, .idxA 12 (.t 29) (.t 30), none⟩, none), (⟨some 32, .ld 12 true (.t 31), none⟩, none), (⟨some 33, .pcall 26 [.t 28, .t 32], none⟩, none), (⟨some 27, .mv (.t 33), none⟩, none), (⟨some 34, .ext (.t 27) 0, none⟩, none), (⟨some 35, .ext (.t 27) 1, none⟩, none), (⟨some 36, .ext (.t 27) 2, none⟩, none), (⟨none, .st 2 (.t 2) (.t 34), none⟩, (some [28, 32])), (⟨some 6, .mv (.t 36), none⟩, none)])) (.reg [⟨some 25, .mv (.t 7), none⟩, ⟨some 26, .bin .add (.t 25) (.c (.int .i64 1)), none⟩, ⟨some 7, .mv (.t 26), none⟩])))))) (.seq (.seq (.reg [⟨some 37, .mv (.t 6), none⟩, ⟨some 38, .bin .neq (.t 37) (.c (.int .i64 0)), none⟩]) (.cond (.t 38) (.seq (.reg [⟨some 39, .bld [.emp, .bool false] [], none⟩, ⟨some 40, .mv (.t 6), none⟩, ⟨none, .st 2 (.t 4) (.t 39), none⟩, ⟨some 5, .mv (.t 40), none⟩]) .ret) .skip)) (.seq (.reg [⟨some 41, .ld 2 true (.t 2), none⟩, ⟨none, .st 2 (.t 4) (.t 41), none⟩, ⟨some 5, .mv (.c (.int .i64 0)), none⟩]) .ret)))
def c21 : SFun := ⟨.seq (.reg [⟨some 2, .box 24 2 (.t 0), none⟩, ⟨some 4, .new 24 2 [.emp, .bool false], none⟩, ⟨some 5, .mv (.c (.int .i64 0)), none⟩]) (.seq (.reg [⟨some 8, .ld 2 true (.t 2), none⟩, ⟨some 9, .pcall 48 [.t 8], none⟩, ⟨some 6, .mv (.t 9), none⟩]) (.seq (.seq (.reg [⟨some 10, .mv (.t 6), none⟩, ⟨some 11, .bin .eql (.t 10) (.c (.int .i64 0)), none⟩, ⟨some 12, .mv (.t 11), none⟩, ⟨some 13, .mv (.t 1), some (12, true)⟩, ⟨some 14, .len (.t 13), some (12, true)⟩, ⟨some 15, .bin .gtr (.t 14) (.c (.int .i64 800)), some (12, true)⟩, ⟨some 16, .pick (.t 12) (.t 15) (.c (.bool false)), none⟩]) (.cond (.t 16) (.reg [⟨some 6, .mv (.c (.int .i64 2)), none⟩]) .skip)) c21_s3)), [.cell 4 2 true, .tmp 5]⟩
theorem hc21 : toSF Tryz.prog {pure := [48, 26], how := [(2, 6)]} Tryz.f21 = some c21 := by kernel_rfl
theorem hn21 : (Tryz.f21.name == "runtime.NumGoroutine") = false := by kernel_rfl
set_option maxHeartbeats 1000000 in
set_option maxRecDepth 10000 in
theorem patchRun_loop {d D0 : HDoc} {l : List HEdit} {x0 : Int} {E : Env} {h hh : Heap} {r2 r4 : Nat} (hr2 : h r2 = none) (hr4 : ¬ r4 = r2 ∧ h r4 = none) (hl : ∀ e ∈ l, EditSm e) (ll : l.length ≤ 1073741824) (P : Pat d l D0 l x0) (e1 : E 1 = sl eEdit l) (e2 : E 2 = .vp r2 0) (e4 : E 4 = .vp r4 0) (e6 : E 6 = aInt x0)
    (g2 : hh r2 = some ⟨.t 24, 2, [eDoc D0]⟩) (g4 : hh r4 = some ⟨.t 24, 2, [[.emp, .bool false]]⟩) (S : Sub h hh) :
    vc (Pg G) c21_s3 (retK [.cell 4 2 true, .tmp 5] fun a h' => Sub h h' ∧ VwT (newH h h') a (.tup [.agg (eDoc (patR d l)), aInt (patE d l)])) E hh := by
  have m1 : ¬ r4 = r2 := hr4.1
  have m2 : ¬ r2 = r4 := fun h => m1 h.symm
  unfold c21_s3
  skip
  simp -dsimp -implicitDefEqProofs (disch := omega) only [VCA]
  refine LoopVC.intro (fun m E h' => ∃ (k : Nat) (D : HDoc) (x : Int), k ≤ l.length ∧ m = l.length - k ∧ E 1 = sl eEdit l ∧ E 2 = .vp r2 0 ∧ E 4 = .vp r4 0 ∧ E 6 = aInt x ∧ E 7 = aInt k ∧ h' r2 = some ⟨.t 24, 2, [eDoc D]⟩ ∧ h' r4 = some ⟨.t 24, 2, [[.emp, .bool false]]⟩ ∧ Sub h h' ∧ Pat d l D (l.drop k) x) l.length
    ⟨0, D0, x0, by omega, by omega, e1, e2, e4, e6, rfl, g2, g4, S, P⟩ ?_
  clear e1 e2 e4 e6 g2 g4 S
  rintro m E h' ⟨k, D, x, hk, rfl, e1, e2, e4, e6, e7, g2, g4, S, P⟩
  by_cases hz : k < l.length
  · by_cases hx : x = 0
    · subst hx
      obtain ⟨y, hy⟩ : ∃ y, nth l k = y := ⟨_, rfl⟩
      have sy : EditSm y := hy ▸ hl _ (nth_mem' hz)
      have hd : l.drop k = y :: l.drop (k + 1) := by
        have e : nth l k = l[k] := by unfold nth; rw [List.getD_eq_getElem?_getD, List.getElem?_eq_getElem hz]; rfl
        rw [← hy, e, List.getElem_cons_drop]
      rw [hd] at P
      have P2 := P.step sy
      obtain ⟨p2, p3⟩ : DV D ∧ DocSm D := by
        rcases P with ⟨_, p1, p2, p3, p4, p5, p6⟩ | ⟨p, _⟩
        · exact ⟨p3, p4⟩
        · exact absurd rfl p
      have hE := edited_ok (G := G) D p2 p3 y sy
      unfold edR at hE
      generalize applyE D y = X at *
      generalize applyD D y = D2 at *
      generalize applyN D y = N2 at *
      repeat' (first | ((with_reducible refine brC (fun _ => ?_) fun _ => ?_) <;> try (exfalso; omega)) | (with_reducible apply pcallE.of; · exact hE) | (with_reducible refine And.intro ?_ ?_; · omega) | simp -dsimp -implicitDefEqProofs (disch := omega) only [↓vcOps_sp 21, VCA, Nat.reduceEqDiff, Nat.reduceBEq, Nat.reduceAdd, Nat.reduceLT, ↓reduceIte, rsOf, rootsOf, SOp.rd, SI.rd, SX.rd, setAt, exists_eq_left', rootL, e1, e2, e4, e6, e7, g2, g4, hy, eEdit_len', eEdit_take', eDoc_len, eDoc_take, eDoc_dr, m1])
      all_goals try (exfalso; omega)
      exact ⟨_, by omega, k + 1, D2, X, by omega, rfl, rfl, by omega, rfl, S.upd hr2, P2⟩
    · have b0 : (x == 0) = false := by simpa using hx
      have b1 : (x != 0) = true := by simpa using hx
      obtain ⟨eP, eR⟩ := P.endE hx
      rw [eP, eR]
      repeat' (first | ((with_reducible refine brC (fun _ => ?_) fun _ => ?_) <;> try (exfalso; omega)) | (with_reducible refine And.intro ?_ ?_; · omega) | simp -dsimp -implicitDefEqProofs (disch := omega) only [↓vcOps_sp 21, VCA, Nat.reduceEqDiff, Nat.reduceAdd, Nat.reduceLT, ↓reduceIte, fillA, okFill, setAt, exists_eq_left', e1, e4, e6, e7, g4, b0, b1])
      all_goals first | (exfalso; omega) | exact ⟨_, Sub.refl _, S.upd hr4.2, .tup' (.cons (vw_noDoc _) (.cons (.refl _) .nil))⟩
  · obtain rfl : k = l.length := by omega
    rw [List.drop_length] at P
    by_cases hx : x = 0
    · subst hx
      obtain ⟨eP, eR⟩ := P.end0
      rw [eP, eR]
      repeat' (first | ((with_reducible refine brC (fun _ => ?_) fun _ => ?_) <;> try (exfalso; omega)) | (with_reducible refine And.intro ?_ ?_; · omega) | simp -dsimp -implicitDefEqProofs (disch := omega) only [↓vcOps_sp 21, VCA, Nat.reduceEqDiff, Nat.reduceAdd, Nat.reduceLT, ↓reduceIte, setAt, exists_eq_left', e1, e2, e4, e6, e7, g2, g4, eDoc_len, eDoc_take])
      all_goals first | (exfalso; omega) | exact ⟨_, Sub.refl _, S.upd hr4.2, .tup' (.cons (.refl _) (.cons (.refl _) .nil))⟩
    · have b0 : (x == 0) = false := by simpa using hx
      have b1 : (x != 0) = true := by simpa using hx
      obtain ⟨eP, eR⟩ := P.endE hx
      rw [eP, eR]
      repeat' (first | ((with_reducible refine brC (fun _ => ?_) fun _ => ?_) <;> try (exfalso; omega)) | (with_reducible refine And.intro ?_ ?_; · omega) | simp -dsimp -implicitDefEqProofs (disch := omega) only [↓vcOps_sp 21, VCA, Nat.reduceEqDiff, Nat.reduceAdd, Nat.reduceLT, ↓reduceIte, fillA, okFill, setAt, exists_eq_left', e1, e4, e6, e7, g4, b1])
      all_goals first | (exfalso; omega) | exact ⟨_, Sub.refl _, S.upd hr4.2, .tup' (.cons (vw_noDoc _) (.cons (.refl _) .nil))⟩
theorem patchRun_ok (d : HDoc) (sm : DocSm d) (l : List HEdit) (hl : ∀ e ∈ l, EditSm e) (ll : l.length ≤ 1073741824) : PCalls (Pg G) 21 [.agg (eDoc d), sl eEdit l] (patV d l) := PCalls.outV fun h => by
  unfold patV
  have hN := docErr_ok (G := G) d sm
  refine dcalls_of_vc Tryz.func21 hn21 hc21 (by rw [Tryz.ntmps21]; simp) (by rw [Tryz.ntmps21]; decide) ?_
  simp -dsimp -implicitDefEqProofs (disch := omega) only [VCA, ↓upd_none, Nat.reduceEqDiff, ↓reduceIte, ne_eq, c21, eDoc_len]
  intro r2 hr2 r4 hr4
  have m1 : ¬ r4 = r2 := hr4.1
  have m2 : ¬ r2 = r4 := fun h => m1 h.symm
  have S4 : ∀ x y, Sub h (upd (upd h r2 (some x)) r4 (some y)) := fun x y => ((Sub.refl h).upd hr2).upd hr4.2
  by_cases h1 : docE d = 0
  · have V := docE_DV h1
    rw [h1] at hN
    by_cases h8 : 800 < l.length
    · have P : Pat d l d l 2 := .inr ⟨by decide, by unfold patE; rw [if_neg (by simpa using h1), if_pos h8]⟩
      repeat' (first | ((with_reducible refine brC (fun _ => ?_) fun _ => ?_) <;> try (exfalso; omega)) | (with_reducible apply pcallE.of; · exact hN) | (with_reducible refine And.intro ?_ ?_; · omega) | simp -dsimp -implicitDefEqProofs (disch := omega) only [↓vcOps_sp 12, VCA, Nat.reduceEqDiff, Nat.reduceLT, ↓reduceIte, exists_eq_left', eDoc_len, eDoc_take, m2])
      all_goals first | (exfalso; omega) | exact patchRun_loop hr2 hr4 hl ll P rfl rfl rfl rfl (by rw [upd_ne _ _ m2, upd_same]) (upd_same _ _ _) (S4 _ _) | trace_state
    · have P : Pat d l d l 0 := .inl ⟨rfl, h1, by omega, V, sm, rfl, rfl⟩
      repeat' (first | ((with_reducible refine brC (fun _ => ?_) fun _ => ?_) <;> try (exfalso; omega)) | (with_reducible apply pcallE.of; · exact hN) | (with_reducible refine And.intro ?_ ?_; · omega) | simp -dsimp -implicitDefEqProofs (disch := omega) only [↓vcOps_sp 12, VCA, Nat.reduceEqDiff, Nat.reduceLT, ↓reduceIte, exists_eq_left', eDoc_len, eDoc_take, m2])
      all_goals first | (exfalso; omega) | exact patchRun_loop hr2 hr4 hl ll P rfl rfl rfl rfl (by rw [upd_ne _ _ m2, upd_same]) (upd_same _ _ _) (S4 _ _) | trace_state
  · have b0 : (docE d == 0) = false := by simpa using h1
    have P : Pat d l d l (docE d) := .inr ⟨h1, by unfold patE; rw [if_pos h1]⟩
    repeat' (first | ((with_reducible refine brC (fun _ => ?_) fun _ => ?_) <;> try (exfalso; omega)) | (with_reducible apply pcallE.of; · exact hN) | (with_reducible refine And.intro ?_ ?_; · omega) | simp -dsimp -implicitDefEqProofs (disch := omega) only [↓vcOps_sp 12, VCA, Nat.reduceEqDiff, Nat.reduceLT, ↓reduceIte, exists_eq_left', eDoc_len, eDoc_take, m2, b0])
    all_goals first | (exfalso; omega) | exact patchRun_loop hr2 hr4 hl ll P rfl rfl rfl rfl (by rw [upd_ne _ _ m2, upd_same]) (upd_same _ _ _) (S4 _ _) | trace_state
end Go.Proofs.K
end
section
set_option linter.unusedSimpArgs false
set_option linter.unusedVariables false
namespace Go.Proofs.K
open Go Go.Sim Go.Proofs
variable {G : Glob}
structure Df (h0 h : Heap) (rw' : Nat) (a b : HDoc) (cells : List (List AVal)) (many : Int) (o : AVal) : Prop where
  sub : Sim.Sub h0 h
  own : OwnS h 42 12 cells o
  live : Mut o
  w : h rw' = some ⟨.t 131, 6, [[sl eNode a.nodes, .bool a.quirks, sl eNode b.nodes, .bool b.quirks, o, aInt many]]⟩
  new : h0 rw' = none ∧ ∀ r, rootOf o = some r → h0 r = none ∧ r ≠ rw'
def DfK (h0 h : Heap) (rw' : Nat) (a b : HDoc) (o : AVal) (cells : List (List AVal)) (many : Int) (v : AVal) (r : AVal) (h' : Heap) : Prop :=
  r = v ∧ (∃ o', Df h0 h' rw' a b cells many o' ∧ ∀ r, rootOf o' = some r → rootOf o = some r ∨ h r = none) ∧ ∀ t ob, h t = some ob → t ≠ rw' → rootOf o ≠ some t → h' t = some ob
section
variable {h0 h : Heap} {rw' : Nat} {a b : HDoc} {cells : List (List AVal)} {many : Int} {o : AVal}
theorem Df.aside (D : Df h0 h rw' a b cells many o) {r : Nat} (hr : h r = none) (x : AObj) : Df h0 (upd h r (some x)) rw' a b cells many o := by
  refine ⟨D.sub.upd (D.sub.none hr), D.own.keep fun t ob ht ho => ?_, D.live, ?_, D.new⟩
  · rw [upd_ne _ _ (fun e => by rw [e, hr] at ho; cases ho)]; exact ho
  · rw [upd_ne _ _ (fun e => by have := D.w; rw [e, hr] at this; cases this)]; exact D.w
theorem Df.mono (D : Df h0 h rw' a b cells many o) {h' : Heap} (S : Sim.Sub h h') : Df h0 h' rw' a b cells many o :=
  ⟨D.sub.trans S, D.own.keep fun t ob _ ho => S t ob ho, D.live, S _ _ D.w, D.new⟩
theorem Df.count (D : Df h0 h rw' a b cells many o) (m : Int) : Df h0 (upd h rw' (some ⟨.t 131, 6, [[sl eNode a.nodes, .bool a.quirks, sl eNode b.nodes, .bool b.quirks, o, aInt m]]⟩)) rw' a b cells m o := by
  refine ⟨D.sub.upd D.new.1, D.own.keep fun t ob ht ho => ?_, D.live, upd_same _ _ _, D.new⟩
  rw [upd_ne _ _ (D.new.2 _ ht).2]; exact ho
end
def c123 : SFun := ⟨.seq (.reg [⟨some 3, .boxF 42 12 (.t 1), none⟩]) (.dreg [(⟨some 4, .mv (.t 0), none⟩, none), (⟨some 5, .mv (.t 0), none⟩, none), (⟨some 6, .fldA 0 (.t 5), none⟩, none), (⟨some 7, .fldA 4 (.t 6), none⟩, none), (⟨some 8, .ld 1 false (.t 7), none⟩, none), (⟨some 9, .ld 12 true (.t 3), none⟩, none), (⟨some 10, .bldF 42 12 [.t 9], none⟩, none), (⟨some 11, .app 42 12 160 (.t 8) (.t 10), none⟩, (some [8, 9])), (⟨some 12, .fldA 0 (.t 4), none⟩, none), (⟨some 13, .fldA 4 (.t 12), none⟩, none), (⟨none, .st 1 (.t 13) (.t 11), none⟩, (some [8, 9]))]), []⟩
theorem hc123 : toSF Tryz.prog {} Tryz.f123 = some c123 := by kernel_rfl
theorem hn123 : (Tryz.f123.name == "runtime.NumGoroutine") = false := by kernel_rfl
theorem pedit_ok {h0 h : Heap} {rw' : Nat} {a b : HDoc} {cells : List (List AVal)} {many : Int} {o : AVal} (D : Df h0 h rw' a b cells many o) (hc : cells.length ≤ 1000) (row : List AVal) (hr : row.length = 12) :
    DCalls (Pg G) 123 [.vp rw' 0, .agg row] h (DfK h0 h rw' a b o (cells ++ [row]) many (.tup [])) := by
  have gw := D.w
  have rt : row.take 12 = row := List.take_of_length_le (by omega)
  have rd0 : row.drop 0 = row := rfl
  have rd : row.drop 12 = [] := List.drop_eq_nil_of_le (by omega)
  refine dcalls_of_vc Tryz.func123 hn123 hc123 (by rw [Tryz.ntmps123]; simp) (by rw [Tryz.ntmps123]; decide) ?_
  simp -dsimp -implicitDefEqProofs (disch := omega) only [VCA, Nat.reduceEqDiff, Nat.reduceAdd, Nat.reduceLT, Nat.reduceLeDiff, ↓reduceIte, reduceCtorEq, rsOf, rootsOf, okParts, forall_eq, exists_eq_left, exists_eq_left', rootL, c123, hr, rt, gw]
  have no : rootOf o ≠ some rw' := fun e => (D.new.2 _ e).2 rfl
  refine D.own.app D.live (by rw [List.length_singleton]; omega) (by rw [List.length_singleton]; omega) fun r' h2 q1 q2 q3 => ?_
  have g2 := q3 _ _ gw no
  rw [List.length_singleton]
  simp -dsimp -implicitDefEqProofs (disch := omega) only [VCA, Nat.reduceEqDiff, Nat.reduceBEq, Nat.reduceAdd, Nat.reduceLT, Nat.reduceLeDiff, ↓reduceIte, rsOf, rootsOf, SOp.rd, SI.rd, SX.rd, setAt, implies_true, exists_eq_left', rootL, gw, g2]
  have nr : r' ≠ rw' := fun e => by
    rcases q2 with q | q
    · exact no (by rw [q, e])
    · rw [e, gw] at q; cases q
  have n0 : h0 r' = none := by
    rcases q2 with q | q
    · exact (D.new.2 _ q).1
    · exact D.sub.none q
  refine ⟨_, Sub.refl _, rfl, ⟨.osl r' 12 0 (cells.length + 1), ⟨fun t ob ht => ?_, ?_, fun es e => (by cases e), upd_same _ _ _, D.new.1, fun r hr' => by cases hr'; exact ⟨n0, nr⟩⟩, fun r hr' => (by cases hr'; exact q2)⟩, fun t ob ht h1 h3 => ?_⟩
  · rw [upd_ne _ _ (fun e => by rw [e, D.new.1] at ht; cases ht)]
    exact q3 t ob (D.sub t ob ht) (fun e => by rw [(D.new.2 _ e).1] at ht; cases ht)
  · exact .inr (.inr ⟨r', _, by rw [List.length_append, List.length_singleton], by rw [upd_ne _ _ nr]; exact q1, Nat.le_refl _, by rw [List.take_length]⟩)
  · rw [upd_ne _ _ h1]; exact q3 t ob ht h3
def c169 : SFun := ⟨.seq (.reg [⟨some 2, .boxF 40 6 (.t 0), none⟩, ⟨some 3, .boxF 40 6 (.t 1), none⟩, ⟨some 4, .mv (.c (.bool false)), none⟩]) (.seq (.reg [⟨some 5, .fldA 0 (.t 2), none⟩, ⟨some 6, .ld 1 false (.t 5), none⟩, ⟨some 7, .fldA 0 (.t 3), none⟩, ⟨some 8, .ld 1 false (.t 7), none⟩, ⟨some 9, .bin .eql (.t 6) (.t 8), none⟩, ⟨some 10, .mv (.t 9), none⟩, ⟨some 11, .fldA 1 (.t 2), some (10, true)⟩, ⟨some 12, .ld 1 false (.t 11), some (10, true)⟩, ⟨some 13, .fldA 1 (.t 3), some (10, true)⟩, ⟨some 14, .ld 1 false (.t 13), some (10, true)⟩, ⟨some 15, .bin .eql (.t 12) (.t 14), some (10, true)⟩, ⟨some 16, .pick (.t 10) (.t 15) (.c (.bool false)), none⟩, ⟨some 4, .mv (.t 16), none⟩]) .ret), [.tmp 4]⟩
theorem hc169 : toSF Tryz.prog {} Tryz.f169 = some c169 := by kernel_rfl
theorem hn169 : (Tryz.f169.name == "runtime.NumGoroutine") = false := by kernel_rfl
theorem kin_ok (x y : HNode) : PCalls (Pg G) 169 [.agg (eNode x), .agg (eNode y)] (.bool (x.kind == y.kind && x.name == y.name)) := fun h => by
  refine dcalls_of_vc Tryz.func169 hn169 hc169 (by rw [Tryz.ntmps169]; simp) (by rw [Tryz.ntmps169]; decide) ?_
  simp -dsimp -implicitDefEqProofs (disch := omega) only [↓vcOps_sp 10, VCA, Nat.reduceEqDiff, Nat.reduceAdd, Nat.reduceLeDiff, ↓reduceIte, c169, eNode]
  repeat' (first | ((with_reducible refine brC (fun _ => ?_) fun _ => ?_) <;> try (exfalso; omega)) | (with_reducible refine And.intro ?_ ?_; · omega) | simp -dsimp -implicitDefEqProofs (disch := omega) only [VCA, Nat.reduceEqDiff, Nat.reduceAdd, Nat.reduceLeDiff, ↓reduceIte, exists_eq_right_right])
  all_goals rename_i q
  · exact ⟨Sub.refl _, by simp [q]⟩
  · exact ⟨Sub.refl _, by simp [q]⟩
end Go.Proofs.K
end
section
set_option linter.unusedSimpArgs false
set_option linter.unusedVariables false
namespace Go.Proofs.K
open Go Go.Sim Go.Proofs
variable {G : Glob}
def formD : HDoc := ⟨[⟨1, [], [], [], -1, [1]⟩, ⟨2, [102, 111, 114, 109], [], [], 0, [2]⟩, ⟨2, [105, 110, 112, 117, 116], [⟨[110, 97, 109, 101], [113]⟩, ⟨[118, 97, 108, 117, 101], [97, 32, 98]⟩], [], 1, []⟩], false⟩
theorem formD_sm : DocSm formD := ⟨by decide, by
  intro x hx
  have : x = ⟨1, [], [], [], -1, [1]⟩ ∨ x = ⟨2, [102, 111, 114, 109], [], [], 0, [2]⟩ ∨ x = ⟨2, [105, 110, 112, 117, 116], [⟨[110, 97, 109, 101], [113]⟩, ⟨[118, 97, 108, 117, 101], [97, 32, 98]⟩], [], 1, []⟩ := by simpa [formD] using hx
  rcases this with rfl | rfl | rfl <;> exact ⟨by decide, by decide, by decide, by decide, by decide⟩⟩
def c51 : SFun := ⟨.seq (.reg [⟨some 0, .new 24 2 [.emp, .bool false], none⟩]) (.seq (.reg [⟨some 1, .bldF 3 1 [.c (.int .i64 1)], none⟩, ⟨some 2, .bld [.int .i64 0, .str [], .emp, .str [], .int .i64 0, .emp] [(0, (1, (.c (.int .i64 1)))), (4, (1, (.c (.int .i64 (-1))))), (5, (1, (.t 1)))], none⟩, ⟨some 3, .bldF 3 1 [.c (.int .i64 2)], none⟩, ⟨some 4, .bld [.int .i64 0, .str [], .emp, .str [], .int .i64 0, .emp] [(0, (1, (.c (.int .i64 2)))), (1, (1, (.c (.str [102, 111, 114, 109])))), (5, (1, (.t 3)))], none⟩, ⟨some 5, .bld [.str [], .str []] [(0, (1, (.c (.str [110, 97, 109, 101])))), (1, (1, (.c (.str [113]))))], none⟩, ⟨some 6, .bld [.str [], .str []] [(0, (1, (.c (.str [118, 97, 108, 117, 101])))), (1, (1, (.c (.str [97, 32, 98]))))], none⟩, ⟨some 7, .bldF 96 2 [.t 5, .t 6], none⟩, ⟨some 8, .bld [.int .i64 0, .str [], .emp, .str [], .int .i64 0, .emp] [(0, (1, (.c (.int .i64 2)))), (1, (1, (.c (.str [105, 110, 112, 117, 116])))), (4, (1, (.c (.int .i64 1)))), (2, (1, (.t 7)))], none⟩, ⟨some 9, .bldF 40 6 [.t 2, .t 4, .t 8], none⟩, ⟨some 10, .bld [.emp, .bool false] [(0, (1, (.t 9)))], none⟩, ⟨none, .st 2 (.t 0) (.t 10), none⟩]) .ret), [.cell 0 2 true]⟩
theorem hc51 : toSF Tryz.prog {} Tryz.f51 = some c51 := by kernel_rfl
theorem hn51 : (Tryz.f51.name == "runtime.NumGoroutine") = false := by kernel_rfl
theorem oneForm_ok : PCalls (Pg G) 51 [] (.agg (eDoc formD)) := fun h => by
  refine DCalls.res (K := fun a h' => a = .agg [.slc [[.int .i64 1, .str [], .emp, .str [], .int .i64 (-1), .slc [[.int .i64 1]]], [.int .i64 2, .str [102, 111, 114, 109], .emp, .str [], .int .i64 0, .slc [[.int .i64 2]]], [.int .i64 2, .str [105, 110, 112, 117, 116], .slc [[.str [110, 97, 109, 101], .str [113]], [.str [118, 97, 108, 117, 101], .str [97, 32, 98]]], .str [], .int .i64 1, .emp]], .bool false] ∧ h' = h) ?_ ?_
  · refine dcalls_of_vc Tryz.func51 hn51 hc51 (by rw [Tryz.ntmps51]; simp) (by rw [Tryz.ntmps51]; decide) ?_
    simp -dsimp -implicitDefEqProofs (disch := omega) only [VCA, Nat.reduceEqDiff, Nat.reduceAdd, Nat.reduceLT, Nat.reduceLeDiff, ↓reduceIte, reduceCtorEq, okParts, fillA, okFill, setAt, exists_eq_right_right, exists_eq_left', c51]
    intro r hr
    exact (Sub.refl _).upd hr
  · rintro a h' ⟨rfl, rfl⟩
    exact ⟨_, Wk.agg' (.cons (Wk.slc' (.cons (.cons (.refl _) (.cons (.refl _) (.cons .emp (.cons (.refl _) (.cons (.refl _) (.cons (.refl _) .nil)))))) (.cons (.cons (.refl _) (.cons (.refl _) (.cons .emp (.cons (.refl _) (.cons (.refl _) (.cons (.refl _) .nil)))))) (.cons (.cons (.refl _) (.cons (.refl _) (.cons (.refl _) (.cons (.refl _) (.cons (.refl _) (.cons .emp .nil)))))) .nil)))) (.cons (.refl _) .nil)), rfl, rfl⟩
def rMake (x : HNode) : List AVal := [.int .i64 4, .int .i64 0, .int .i64 0, .int .i64 0, .str [], .str [], .int .i64 x.kind, .str x.name, sl eAttr x.attrs, .str x.text, .int .i64 0, .emp]
def rIns (at' to bf : Int) : List AVal := [.int .i64 5, .int .i64 at', .int .i64 to, .int .i64 bf, .str [], .str [], .int .i64 0, .str [], .emp, .str [], .int .i64 0, .emp]
def rRem (at' : Int) : List AVal := [.int .i64 6, .int .i64 at', .int .i64 0, .int .i64 0, .str [], .str [], .int .i64 0, .str [], .emp, .str [], .int .i64 0, .emp]
theorem upd2_none {h : Heap} {r1 r2 r : Nat} {x y : AObj} (hn : upd (upd h r1 (some x)) r2 (some y) r = none) : h r = none := by
  by_cases e : r = r2
  · rw [e, upd_same] at hn; cases hn
  · rw [upd_ne _ _ e] at hn
    by_cases e1 : r = r1
    · rw [e1, upd_same] at hn; cases hn
    · rw [upd_ne _ _ e1] at hn; exact hn
theorem roots_comp {h h2 : Heap} {o : AVal} {rw' r : Nat} (kp : ∀ t ob, h t = some ob → t ≠ rw' → rootOf o ≠ some t → h2 t = some ob) (hw : r ≠ rw') (hn : h2 r = none) : rootOf o = some r ∨ h r = none := by
  by_cases q : rootOf o = some r
  · exact .inl q
  · right
    cases hr : h r with
    | none => rfl
    | some ob => rw [kp r ob hr hw q] at hn; cases hn
theorem keep_comp {h h2 h3 : Heap} {o o' : AVal} {rw' : Nat} (k1 : ∀ t ob, h t = some ob → t ≠ rw' → rootOf o ≠ some t → h2 t = some ob) (q : ∀ r, rootOf o' = some r → rootOf o = some r ∨ h r = none) (k2 : ∀ t ob, h2 t = some ob → t ≠ rw' → rootOf o' ≠ some t → h3 t = some ob) :
    ∀ t ob, h t = some ob → t ≠ rw' → rootOf o ≠ some t → h3 t = some ob := fun t ob ht h1 h2 => k2 t ob (k1 t ob ht h1 h2) h1 (fun e => by
  rcases q t e with q | q
  · exact h2 q
  · rw [ht] at q; cases q)
def c126 : SFun := ⟨.seq (.reg [⟨some 4, .mv (.c (.int .i64 0)), none⟩]) (.seq (.reg [⟨some 9, .mv (.t 0), none⟩, ⟨some 10, .fldA 0 (.t 9), none⟩, ⟨some 11, .fldA 5 (.t 10), none⟩, ⟨some 12, .ld 1 false (.t 11), none⟩, ⟨some 5, .mv (.t 12), none⟩]) (.seq (.reg [⟨some 13, .mv (.t 0), none⟩, ⟨some 14, .fldA 0 (.t 13), none⟩, ⟨some 15, .fldA 5 (.t 14), none⟩, ⟨some 16, .ld 1 false (.t 15), none⟩, ⟨some 17, .bin .add (.t 16) (.c (.int .i64 1)), none⟩, ⟨some 18, .fldA 0 (.t 13), none⟩, ⟨some 19, .fldA 5 (.t 18), none⟩, ⟨none, .st 1 (.t 19) (.t 17), none⟩]) (.seq (.reg [⟨some 20, .mv (.t 0), none⟩, ⟨some 21, .fldA 0 (.t 20), none⟩, ⟨some 22, .fldA 2 (.t 21), none⟩, ⟨some 23, .fldA 0 (.t 22), none⟩, ⟨some 24, .ld 1 false (.t 23), none⟩, ⟨some 25, .mv (.t 1), none⟩, ⟨some 26, .idxA 6 (.t 24) (.t 25), none⟩, ⟨some 27, .ld 6 true (.t 26), none⟩, ⟨some 6, .new 40 6 [.int .i64 0, .str [], .emp, .str [], .int .i64 0, .emp], none⟩, ⟨none, .st 6 (.t 6) (.t 27), none⟩]) (.seq (.dreg [(⟨some 28, .mv (.t 0), none⟩, none), (⟨some 29, .fldA 0 (.t 6), none⟩, none), (⟨some 30, .ld 1 false (.t 29), none⟩, none), (⟨some 31, .fldA 1 (.t 6), none⟩, none), (⟨some 32, .ld 1 false (.t 31), none⟩, none), (⟨some 33, .fldA 2 (.t 6), none⟩, none), (⟨some 34, .ld 1 false (.t 33), none⟩, none), (⟨some 35, .pcall 69 [.t 34], none⟩, none), (⟨some 36, .fldA 3 (.t 6), none⟩, none), (⟨some 37, .ld 1 false (.t 36), none⟩, none), (⟨some 38, .bld [.int .i64 0, .str [], .emp, .str [], .int .i64 0, .emp] [(0, (1, (.t 30))), (1, (1, (.t 32))), (2, (1, (.t 35))), (3, (1, (.t 37)))], none⟩, none), (⟨some 39, .bld [.int .i64 0, .int .i64 0, .int .i64 0, .int .i64 0, .str [], .str [], .int .i64 0, .str [], .emp, .str [], .int .i64 0, .emp] [(0, (1, (.c (.int .i64 4)))), (6, (6, (.t 38)))], none⟩, none), (⟨some 40, .call (.c (.fn 123 [] [])) [.t 28, .t 39], none⟩, (some [30, 32, 37, 34]))]) (.seq (.seq (.reg [⟨some 41, .fldA 5 (.t 6), none⟩, ⟨some 42, .ld 1 false (.t 41), none⟩, ⟨some 43, .len (.t 42), none⟩, ⟨some 44, .mv (.c (.int .i64 0)), none⟩]) (.block 0 (.loop (.seq (.reg [⟨some 45, .bin .lss (.t 44) (.t 43), none⟩]) (.seq (.cond (.t 45) .skip (.exit 0)) (.seq (.block 1 (.seq (.reg [⟨some 46, .idxA 1 (.t 42) (.t 44), none⟩, ⟨some 47, .ld 1 false (.t 46), none⟩, ⟨some 8, .mv (.t 47), none⟩]) (.reg [⟨some 48, .mv (.t 0), none⟩, ⟨some 49, .mv (.t 5), none⟩, ⟨some 50, .mv (.t 0), none⟩, ⟨some 51, .mv (.t 8), none⟩, ⟨some 52, .call (.c (.fn 126 [] [])) [.t 50, .t 51], none⟩, ⟨some 53, .bld [.int .i64 0, .int .i64 0, .int .i64 0, .int .i64 0, .str [], .str [], .int .i64 0, .str [], .emp, .str [], .int .i64 0, .emp] [(0, (1, (.c (.int .i64 5)))), (1, (1, (.t 49))), (2, (1, (.t 52))), (3, (1, (.c (.int .i64 (-1)))))], none⟩, ⟨some 54, .call (.c (.fn 123 [] [])) [.t 48, .t 53], none⟩]))) (.reg [⟨some 55, .bin .add (.t 44) (.c (.int .i64 1)), none⟩, ⟨some 44, .mv (.t 55), none⟩]))))))) (.seq (.reg [⟨some 56, .mv (.t 5), none⟩, ⟨some 4, .mv (.t 56), none⟩]) .ret)))))), [.tmp 4]⟩
theorem hc126 : toSF Tryz.prog {pure := [69]} Tryz.f126 = some c126 := by kernel_rfl
theorem hn126 : (Tryz.f126.name == "runtime.NumGoroutine") = false := by kernel_rfl
theorem made_leaf {h0 h : Heap} {rw' : Nat} {a : HDoc} {cells : List (List AVal)} {many : Int} {o : AVal} (D : Df h0 h rw' a formD cells many o) (hc : cells.length ≤ 900) (hm : 0 ≤ many ∧ many ≤ 1000) :
    DCalls (Pg G) 126 [.vp rw' 0, aInt 2] h (DfK h0 h rw' a formD o (cells ++ [rMake (nd formD 2)]) (many + 1) (aInt many)) := by
  have gw := D.w
  have nX : nth formD.nodes (Int.toNat 2) = nd formD 2 := rfl
  have kX : (nd formD 2).kids = [] := rfl
  have lF : formD.nodes.length = 3 := rfl
  have hC := cloneA_ok (G := G) (nd formD 2).attrs (by decide)
  refine dcalls_of_vc Tryz.func126 hn126 hc126 (by rw [Tryz.ntmps126]; simp) (by rw [Tryz.ntmps126]; decide) ?_
  simp -dsimp -implicitDefEqProofs (disch := omega) only [VCA, ↓upd_none, Nat.reduceEqDiff, Nat.reduceAdd, Nat.reduceLT, Nat.reduceLeDiff, ↓reduceIte, reduceCtorEq, rsOf, rootsOf, setAt, ne_eq, exists_eq_left', rootL, c126, gw, nX, lF, eNode]
  refine ⟨by omega, fun r6 hr6 => ?_⟩
  have m1 : ¬ r6 = rw' := hr6.1
  have m2 : ¬ rw' = r6 := fun e => m1 e.symm
  have D2 := (D.count (many + 1)).aside (r := r6) (by rw [upd_ne _ _ hr6.1]; exact hr6.2) ⟨.t 40, 6, [eNode (nd formD 2)]⟩
  have hE := pedit_ok (G := G) D2 (by omega) (rMake (nd formD 2)) rfl
  unfold rMake eNode at hE
  repeat' (first | ((with_reducible refine brC (fun _ => ?_) fun _ => ?_) <;> try (exfalso; omega)) | (with_reducible apply pcallE.of; · exact hC) | ((refine DCalls.of hE ?_; rintro _ h2 ⟨rfl, ⟨o', D3, ro⟩, kp⟩)) | (with_reducible refine And.intro ?_ ?_; · omega) | simp -dsimp -implicitDefEqProofs (disch := omega) only [VCA, Nat.reduceEqDiff, Nat.reduceBEq, Nat.reduceAdd, Nat.reduceLT, Nat.reduceLeDiff, ↓reduceIte, rsOf, rootsOf, SOp.rd, SI.rd, SX.rd, rdL, fillA, okFill, exists_eq_left', rootL, nX, kX, eNode])
  have no6 : rootOf o ≠ some r6 := fun e => by obtain ⟨ob, q⟩ := D.own.root e; rw [hr6.2] at q; cases q
  have g6 := kp r6 _ (upd_same _ _ _) m1 no6
  unfold eNode at g6
  repeat' (first | ((with_reducible refine brC (fun _ => ?_) fun _ => ?_) <;> try (exfalso; omega)) | (with_reducible refine And.intro ?_ ?_; · omega) | simp -dsimp -implicitDefEqProofs (disch := omega) only [VCA, Nat.reduceAdd, Nat.reduceLT, exists_eq_left', g6, kX])
  refine LoopVC.intro (fun m E h' => E 43 = aInt 0 ∧ E 44 = aInt 0 ∧ E 5 = aInt many ∧ h' = h2) 0 ⟨by (show _ = _; first | rfl | simp [Sim.upd]), rfl, rfl, rfl⟩ ?_
  rintro m E h' ⟨e43, e44, e5, rfl⟩
  repeat' (first | ((with_reducible refine brC (fun _ => ?_) fun _ => ?_) <;> try (exfalso; omega)) | (with_reducible refine And.intro ?_ ?_; · omega) | simp -dsimp -implicitDefEqProofs (disch := omega) only [VCA, Nat.reduceEqDiff, ↓reduceIte, e43, e44, e5])
  all_goals try (exfalso; omega)
  exact ⟨_, Sub.refl _, rfl, ⟨o', D3, fun r hr => (ro r hr).imp id upd2_none⟩, fun t ob ht h1 h2 => kp t ob (by rw [upd_ne _ _ (fun e => by rw [e, hr6.2] at ht; cases ht), upd_ne _ _ h1]; exact ht) h1 h2⟩
theorem made_one {h0 h : Heap} {rw' : Nat} {a : HDoc} {cells : List (List AVal)} {many : Int} {o : AVal} (D : Df h0 h rw' a formD cells many o) (hc : cells.length ≤ 800) (hm : 0 ≤ many ∧ many ≤ 900) :
    DCalls (Pg G) 126 [.vp rw' 0, aInt 1] h (DfK h0 h rw' a formD o (cells ++ [rMake (nd formD 1)] ++ [rMake (nd formD 2)] ++ [rIns many (many + 1) (-1)]) (many + 2) (aInt many)) := by
  have gw := D.w
  have nX : nth formD.nodes (Int.toNat 1) = nd formD 1 := rfl
  have kX : (nd formD 1).kids = [2] := rfl
  have k2 : sl eInt [2] = .slc [[.int .i64 2]] := rfl
  have lF : formD.nodes.length = 3 := rfl
  have hC := cloneA_ok (G := G) (nd formD 1).attrs (by decide)
  refine dcalls_of_vc Tryz.func126 hn126 hc126 (by rw [Tryz.ntmps126]; simp) (by rw [Tryz.ntmps126]; decide) ?_
  simp -dsimp -implicitDefEqProofs (disch := omega) only [VCA, ↓upd_none, Nat.reduceEqDiff, Nat.reduceAdd, Nat.reduceLT, Nat.reduceLeDiff, ↓reduceIte, reduceCtorEq, rsOf, rootsOf, setAt, ne_eq, exists_eq_left', rootL, c126, gw, nX, lF, eNode]
  refine ⟨by omega, fun r6 hr6 => ?_⟩
  have m1 : ¬ r6 = rw' := hr6.1
  have m2 : ¬ rw' = r6 := fun e => m1 e.symm
  have D2 := (D.count (many + 1)).aside (r := r6) (by rw [upd_ne _ _ hr6.1]; exact hr6.2) ⟨.t 40, 6, [eNode (nd formD 1)]⟩
  have hE := pedit_ok (G := G) D2 (by omega) (rMake (nd formD 1)) rfl
  unfold rMake eNode at hE
  repeat' (first | ((with_reducible refine brC (fun _ => ?_) fun _ => ?_) <;> try (exfalso; omega)) | (with_reducible apply pcallE.of; · exact hC) | ((refine DCalls.of hE ?_; rintro _ h2 ⟨rfl, ⟨o', D3, ro⟩, kp⟩)) | (with_reducible refine And.intro ?_ ?_; · omega) | simp -dsimp -implicitDefEqProofs (disch := omega) only [VCA, Nat.reduceEqDiff, Nat.reduceBEq, Nat.reduceAdd, Nat.reduceLT, Nat.reduceLeDiff, ↓reduceIte, rsOf, rootsOf, SOp.rd, SI.rd, SX.rd, rdL, fillA, okFill, exists_eq_left', rootL, nX, kX, k2, eNode])
  have no6 : rootOf o ≠ some r6 := fun e => by obtain ⟨ob, q⟩ := D.own.root e; rw [hr6.2] at q; cases q
  have g6 := kp r6 _ (upd_same _ _ _) m1 no6
  unfold eNode at g6
  have kpo : ∀ t ob, h t = some ob → t ≠ rw' → rootOf o ≠ some t → h2 t = some ob := fun t ob ht h1 h2 => kp t ob (by rw [upd_ne _ _ (fun e => by rw [e, hr6.2] at ht; cases ht), upd_ne _ _ h1]; exact ht) h1 h2
  repeat' (first | ((with_reducible refine brC (fun _ => ?_) fun _ => ?_) <;> try (exfalso; omega)) | (with_reducible refine And.intro ?_ ?_; · omega) | simp -dsimp -implicitDefEqProofs (disch := omega) only [VCA, Nat.reduceAdd, Nat.reduceLT, exists_eq_left', g6, kX, k2])
  refine LoopVC.intro (fun m E h' => E 42 = .slc [[.int .i64 2]] ∧ E 43 = aInt 1 ∧ E 5 = aInt many ∧ E 0 = .vp rw' 0 ∧ ((m = 1 ∧ E 44 = aInt 0 ∧ h' = h2) ∨ (m = 0 ∧ E 44 = aInt 1 ∧ (∃ o', Df h0 h' rw' a formD (cells ++ [rMake (nd formD 1)] ++ [rMake (nd formD 2)] ++ [rIns many (many + 1) (-1)]) (many + 2) o' ∧ ∀ r, rootOf o' = some r → rootOf o = some r ∨ h r = none) ∧ ∀ t ob, h t = some ob → t ≠ rw' → rootOf o ≠ some t → h' t = some ob))) 1
    ⟨rfl, rfl, rfl, rfl, .inl ⟨rfl, rfl, rfl⟩⟩ ?_
  rintro m E h' ⟨e42, e43, e5, e0, ⟨rfl, e44, rfl⟩ | ⟨rfl, e44, D9, k9⟩⟩
  · have hM := made_leaf (G := G) D3 (by rw [List.length_append]; simp; omega) (by omega)
    repeat' (first | ((with_reducible refine brC (fun _ => ?_) fun _ => ?_) <;> try (exfalso; omega)) | ((refine DCalls.of hM ?_; rintro _ h3 ⟨rfl, ⟨o2, D4, ro2⟩, kp2⟩)) | (with_reducible refine And.intro ?_ ?_; · omega) | simp -dsimp -implicitDefEqProofs (disch := omega) only [VCA, Nat.reduceEqDiff, Nat.reduceAdd, Nat.reduceLeDiff, ↓reduceIte, reduceCtorEq, fillA, okFill, ne_eq, e42, e43, e44, e5, e0])
    all_goals try (exfalso; omega)
    have hE2 := pedit_ok (G := G) D4 (by simp; omega) (rIns many (many + 1) (-1)) rfl
    unfold rIns at hE2
    repeat' (first | ((with_reducible refine brC (fun _ => ?_) fun _ => ?_) <;> try (exfalso; omega)) | ((refine DCalls.of hE2 ?_; rintro _ h4 ⟨rfl, ⟨o3, D5, ro3⟩, kp3⟩)) | (with_reducible refine And.intro ?_ ?_; · omega) | simp -dsimp -implicitDefEqProofs (disch := omega) only [VCA, Nat.reduceEqDiff, ↓reduceIte, reduceCtorEq, e42, e43, e44, e5, e0])
    rw [show many + 1 + 1 = many + 2 by omega] at D5
    have q1 : ∀ r, rootOf o' = some r → rootOf o = some r ∨ h r = none := fun r hr => (ro r hr).imp id upd2_none
    have q2 : ∀ r, rootOf o2 = some r → rootOf o = some r ∨ h r = none := fun r hr => (ro2 r hr).elim (q1 r) (roots_comp kpo (D4.new.2 r hr).2)
    have k3 := keep_comp kpo q1 kp2
    have q3 : ∀ r, rootOf o3 = some r → rootOf o = some r ∨ h r = none := fun r hr => (ro3 r hr).elim (q2 r) (roots_comp k3 (D5.new.2 r hr).2)
    exact ⟨0, by omega, .inr ⟨rfl, rfl, ⟨o3, D5, q3⟩, keep_comp k3 q2 kp3⟩⟩
  · repeat' (first | ((with_reducible refine brC (fun _ => ?_) fun _ => ?_) <;> try (exfalso; omega)) | (with_reducible refine And.intro ?_ ?_; · omega) | simp -dsimp -implicitDefEqProofs (disch := omega) only [VCA, Nat.reduceEqDiff, ↓reduceIte, ne_eq, e43, e44, e5])
    all_goals try (exfalso; omega)
    exact ⟨_, Sub.refl _, rfl, D9, k9⟩
end Go.Proofs.K
end
section
set_option linter.unusedSimpArgs false
set_option linter.unusedVariables false
namespace Go.Proofs.K
open Go Go.Sim Go.Proofs
variable {G : Glob}
end Go.Proofs.K
end
section
set_option linter.unusedSimpArgs false
set_option linter.unusedVariables false
namespace Go.Proofs.K
open Go Go.Sim Go.Proofs
section
variable {d : HDoc}
end
end Go.Proofs.K
end
section
set_option linter.unusedSimpArgs false
set_option linter.unusedVariables false
namespace Go.Proofs.K
open Go Go.Sim Go.Proofs
section
variable {d : HDoc}
end
end Go.Proofs.K
end
section
set_option linter.unusedSimpArgs false
set_option linter.unusedVariables false
namespace Go.Proofs.K
open Go Go.Sim Go.Proofs
variable {G : Glob}
end Go.Proofs.K
end
section
set_option linter.unusedSimpArgs false
set_option linter.unusedVariables false
namespace Go.Proofs.K
open Go Go.Sim Go.Proofs
variable {G : Glob}
end Go.Proofs.K
end
section
set_option linter.unusedSimpArgs false
set_option linter.unusedVariables false
namespace Go.Proofs.K
open Go Go.Sim Go.Proofs
variable {G : Glob}
section
variable {d : HDoc}
end
end Go.Proofs.K
end
section
set_option linter.unusedSimpArgs false
set_option linter.unusedVariables false
namespace Go.Proofs.K
open Go Go.Sim Go.Proofs
variable {G : Glob}
end Go.Proofs.K
end
section
set_option linter.unusedSimpArgs false
set_option linter.unusedVariables false
namespace Go.Proofs.K
open Go Go.Sim Go.Proofs
section
variable {d : HDoc}
def liesM (d : HDoc) (s : HSpan) (n : Int) : Prop :=
  0 ≤ (nd d n).parent ∧ n ∉ chain d s.a.node ∧ n ∉ chain d s.b.node ∧ markM d s.a ≤ markM d ⟨(nd d n).parent, idxM (· == n) (nd d (nd d n).parent).kids⟩ ∧ markM d ⟨(nd d n).parent, idxM (· == n) (nd d (nd d n).parent).kids + 1⟩ ≤ markM d s.b
instance (d : HDoc) (s : HSpan) (n : Int) : Decidable (liesM d s n) := by unfold liesM; infer_instance
end
end Go.Proofs.K
end
section
set_option linter.unusedSimpArgs false
set_option linter.unusedVariables false
namespace Go.Proofs.K
open Go Go.Sim Go.Proofs
variable {G : Glob}
end Go.Proofs.K
end
section
set_option linter.unusedSimpArgs false
set_option linter.unusedVariables false
namespace Go.Proofs.K
open Go Go.Sim Go.Proofs
variable {G : Glob}
def noNode (e : HEdit) : Prop := e.node = ⟨0, [], [], [], 0, []⟩
theorem noNode.bare {e : HEdit} (h : noNode e) : bareE e := by unfold noNode at h; unfold bareE; rw [h]; exact ⟨rfl, rfl⟩
theorem noNode.sm {e : HEdit} (h : noNode e) : NodeSm e.node := by unfold noNode at h; rw [h]; exact ⟨by simp, by simp, (fun a ha => by cases ha), by simp, by simp⟩
end Go.Proofs.K
end
section
set_option linter.unusedSimpArgs false
set_option linter.unusedVariables false
namespace Go.Proofs.K
open Go Go.Sim Go.Proofs
structure HStep where
  edit : HEdit
  had : Bool
  was : List UInt8
  parent : Int
  place : Int
deriving DecidableEq, Inhabited
def eStep (s : HStep) : List AVal := [aInt s.edit.do', aInt s.edit.at', aInt s.edit.to, aInt s.edit.before, .str s.edit.name, .str s.edit.value, aInt s.edit.node.kind, .str s.edit.node.name, sl eAttr s.edit.node.attrs, .str s.edit.node.text, aInt s.edit.node.parent, sl eInt s.edit.node.kids, .bool s.had, .str s.was, aInt s.parent, aInt s.place]
instance : LenE eStep 16 := ⟨fun _ => rfl⟩
structure StepSm (s : HStep) : Prop where
  edit : EditSm s.edit
  was : s.was.length ≤ 1073741824
end Go.Proofs.K
end
section
set_option linter.unusedSimpArgs false
set_option linter.unusedVariables false
namespace Go.Proofs.K
open Go Go.Sim Go.Proofs
end Go.Proofs.K
end
section
set_option linter.unusedSimpArgs false
set_option linter.unusedVariables false
namespace Go.Proofs.K
open Go Go.Sim Go.Proofs
variable {G : Glob}
theorem idxNil_ok {h : Heap} (f : Nat) (a b : List AVal) : DCalls (Pg G) 151 [.slc [], .fn f a b] h fun r h' => r = aInt (-1) ∧ h' = h := by
  refine dcalls_of_vc Tryz.func151 hn151 hc151 (by rw [Tryz.ntmps151]; simp) (by rw [Tryz.ntmps151]; decide) ?_
  simp -dsimp -implicitDefEqProofs (disch := omega) only [VCA, ↓reduceIte, reduceCtorEq, c151]
  refine LoopVC.intro (fun m e h' => e 7 = aInt 0 ∧ e 8 = aInt 0 ∧ h' = h) 0 ⟨rfl, rfl, rfl⟩ ?_
  rintro m e h' ⟨e7, e8, rfl⟩
  repeat' (first | ((with_reducible refine brC (fun _ => ?_) fun _ => ?_) <;> try (exfalso; omega)) | (with_reducible refine And.intro ?_ ?_; · omega) | simp -dsimp -implicitDefEqProofs (disch := omega) only [VCA, ↓reduceIte, exists_eq_right, e7, e8])
  all_goals first | (exfalso; omega) | exact Sub.refl _ | exact ⟨Sub.refl _, rfl⟩ | trace_state
def c164 : SFun := ⟨.seq (.reg [⟨some 4, .mv (.c .emp), none⟩]) (.seq (.reg [⟨some 8, .mv (.t 0), none⟩, ⟨some 9, .mv (.t 1), none⟩, ⟨some 10, .call (.c (.fn 151 [] [])) [.t 8, .t 9], none⟩, ⟨some 5, .mv (.t 10), none⟩]) (.seq (.seq (.reg [⟨some 11, .mv (.t 5), none⟩, ⟨some 12, .bin .eql (.t 11) (.c (.int .i64 (-1))), none⟩]) (.cond (.t 12) (.seq (.reg [⟨some 13, .mv (.t 0), none⟩, ⟨some 4, .mv (.t 13), none⟩]) .ret) .skip)) (.seq (.seq (.reg [⟨some 14, .mv (.t 5), none⟩, ⟨some 15, .bin .add (.t 14) (.c (.int .i64 1)), none⟩, ⟨some 6, .mv (.t 15), none⟩]) (.block 0 (.loop (.seq (.seq (.reg [⟨some 16, .mv (.t 6), none⟩, ⟨some 17, .mv (.t 0), none⟩, ⟨some 18, .len (.t 17), none⟩, ⟨some 19, .bin .lss (.t 16) (.t 18), none⟩]) (.cond (.t 19) .skip (.exit 0))) (.seq (.block 1 (.seq (.reg [⟨some 22, .mv (.t 0), none⟩, ⟨some 23, .mv (.t 6), none⟩, ⟨some 24, .idxA 2 (.t 22) (.t 23), none⟩, ⟨some 25, .ld 2 true (.t 24), none⟩, ⟨some 7, .new 96 2 [.str [], .str []], none⟩, ⟨none, .st 2 (.t 7) (.t 25), none⟩]) (.seq (.reg [⟨some 26, .mv (.t 1), none⟩, ⟨some 27, .ld 2 true (.t 7), none⟩, ⟨some 28, .call (.t 26) [.t 27], none⟩, ⟨some 29, .un .not (.t 28), none⟩]) (.cond (.t 29) (.seq (.reg [⟨some 30, .mv (.t 0), none⟩, ⟨some 31, .mv (.t 5), none⟩, ⟨some 32, .ld 2 true (.t 7), none⟩, ⟨some 33, .idxA 2 (.t 30) (.t 31), none⟩, ⟨none, .st 2 (.t 33) (.t 32), none⟩]) (.reg [⟨some 34, .mv (.t 5), none⟩, ⟨some 35, .bin .add (.t 34) (.c (.int .i64 1)), none⟩, ⟨some 5, .mv (.t 35), none⟩])) .skip)))) (.reg [⟨some 20, .mv (.t 6), none⟩, ⟨some 21, .bin .add (.t 20) (.c (.int .i64 1)), none⟩, ⟨some 6, .mv (.t 21), none⟩])))))) (.seq (.reg [⟨some 36, .mv (.t 0), none⟩, ⟨some 37, .mv (.t 5), none⟩, ⟨some 38, .slA 2 (.t 36) (some (.t 37)) none, none⟩, ⟨none, .clear 2 [.str [], .str []] (.t 38), none⟩]) (.seq (.reg [⟨some 39, .mv (.t 0), none⟩, ⟨some 40, .mv (.t 5), none⟩, ⟨some 41, .slA 2 (.t 39) none (some (.t 40)), none⟩, ⟨some 4, .mv (.t 41), none⟩]) .ret))))), [.tmp 4]⟩
theorem hc164 : toSF Tryz.prog {} Tryz.f164 = some c164 := by kernel_rfl
theorem hn164 : (Tryz.f164.name == "runtime.NumGoroutine") = false := by kernel_rfl
theorem delNil_ok {h : Heap} (f : Nat) (a b : List AVal) : DCalls (Pg G) 164 [.slc [], .fn f a b] h fun r h' => r = .slc [] ∧ h' = h := by
  have hI := idxNil_ok (G := G) (h := h) f a b
  refine dcalls_of_vc Tryz.func164 hn164 hc164 (by rw [Tryz.ntmps164]; simp) (by rw [Tryz.ntmps164]; decide) ?_
  simp -dsimp -implicitDefEqProofs (disch := omega) only [VCA, Nat.reduceEqDiff, ↓reduceIte, reduceCtorEq, c164]
  repeat' (first | ((with_reducible refine brC (fun _ => ?_) fun _ => ?_) <;> try (exfalso; omega)) | ((refine DCalls.of hI ?_; rintro _ _ ⟨rfl, rfl⟩)) | (with_reducible refine And.intro ?_ ?_; · omega) | simp -dsimp -implicitDefEqProofs (disch := omega) only [VCA, ↓reduceIte, reduceCtorEq, exists_eq_right])
  all_goals first | (exfalso; omega) | exact Sub.refl _ | exact ⟨Sub.refl _, rfl⟩ | trace_state
def c166 : SFun := ⟨.seq (.reg [⟨some 6, .mv (.c (.bool false)), none⟩]) (.seq (.seq (.reg [⟨some 10, .mv (.t 0), none⟩, ⟨some 11, .len (.t 10), none⟩, ⟨some 12, .mv (.t 1), none⟩, ⟨some 13, .len (.t 12), none⟩, ⟨some 14, .bin .neq (.t 11) (.t 13), none⟩]) (.cond (.t 14) (.seq (.reg [⟨some 6, .mv (.c (.bool false)), none⟩]) .ret) .skip)) (.seq (.seq (.reg [⟨some 15, .mv (.t 0), none⟩, ⟨some 16, .len (.t 15), none⟩, ⟨some 17, .mv (.c (.int .i64 0)), none⟩]) (.block 0 (.loop (.seq (.reg [⟨some 18, .bin .lss (.t 17) (.t 16), none⟩]) (.seq (.cond (.t 18) .skip (.exit 0)) (.seq (.block 1 (.seq (.reg [⟨some 19, .mv (.t 17), none⟩, ⟨some 20, .idxA 2 (.t 15) (.t 17), none⟩, ⟨some 21, .ld 2 true (.t 20), none⟩, ⟨some 8, .new 96 2 [.str [], .str []], none⟩, ⟨some 7, .mv (.t 19), none⟩, ⟨none, .st 2 (.t 8) (.t 21), none⟩]) (.seq (.reg [⟨some 22, .mv (.t 1), none⟩, ⟨some 23, .mv (.t 7), none⟩, ⟨some 24, .idxA 2 (.t 22) (.t 23), none⟩, ⟨some 25, .ld 2 true (.t 24), none⟩, ⟨some 9, .new 96 2 [.str [], .str []], none⟩, ⟨none, .st 2 (.t 9) (.t 25), none⟩]) (.seq (.reg [⟨some 26, .mv (.t 2), none⟩, ⟨some 27, .ld 2 true (.t 8), none⟩, ⟨some 28, .ld 2 true (.t 9), none⟩, ⟨some 29, .call (.t 26) [.t 27, .t 28], none⟩, ⟨some 30, .un .not (.t 29), none⟩]) (.cond (.t 30) (.seq (.reg [⟨some 6, .mv (.c (.bool false)), none⟩]) .ret) .skip))))) (.reg [⟨some 31, .bin .add (.t 17) (.c (.int .i64 1)), none⟩, ⟨some 17, .mv (.t 31), none⟩]))))))) (.seq (.reg [⟨some 6, .mv (.c (.bool true)), none⟩]) .ret))), [.tmp 6]⟩
theorem hc166 : toSF Tryz.prog {} Tryz.f166 = some c166 := by kernel_rfl
theorem hn166 : (Tryz.f166.name == "runtime.NumGoroutine") = false := by kernel_rfl
theorem eqNil_ok {h : Heap} (f : Nat) (a b : List AVal) : DCalls (Pg G) 166 [.slc [], .slc [], .fn f a b] h fun r h' => r = .bool true ∧ h' = h := by
  refine dcalls_of_vc Tryz.func166 hn166 hc166 (by rw [Tryz.ntmps166]; simp) (by rw [Tryz.ntmps166]; decide) ?_
  simp -dsimp -implicitDefEqProofs (disch := omega) only [VCA, Nat.reduceEqDiff, ↓reduceIte, reduceCtorEq, c166]
  repeat' (first | ((with_reducible refine brC (fun _ => ?_) fun _ => ?_) <;> try (exfalso; omega)) | (with_reducible refine And.intro ?_ ?_; · omega) | simp -dsimp -implicitDefEqProofs (disch := omega) only [VCA, ↓reduceIte, reduceCtorEq])
  all_goals try (exfalso; omega)
  refine LoopVC.intro (fun m e h' => e 16 = aInt 0 ∧ e 17 = aInt 0 ∧ h' = h) 0 ⟨rfl, rfl, rfl⟩ ?_
  rintro m e h' ⟨e7, e8, rfl⟩
  repeat' (first | ((with_reducible refine brC (fun _ => ?_) fun _ => ?_) <;> try (exfalso; omega)) | (with_reducible refine And.intro ?_ ?_; · omega) | simp -dsimp -implicitDefEqProofs (disch := omega) only [VCA, ↓reduceIte, exists_eq_right, e7, e8])
  all_goals first | (exfalso; omega) | exact Sub.refl _ | exact ⟨Sub.refl _, rfl⟩ | trace_state
def c161 : SFun := ⟨.seq (.reg [⟨some 1, .boxF 37 1 (.t 0), none⟩, ⟨some 2, .mv (.c (.prim .nilFunc)), none⟩]) (.seq (.reg [⟨some 3, .mkf 162 [] [.t 1], none⟩, ⟨some 2, .mv (.t 3), none⟩]) .ret), [.tmp 2]⟩
theorem hc161 : toSF Tryz.prog {} Tryz.f161 = some c161 := by kernel_rfl
theorem hn161 : (Tryz.f161.name == "runtime.NumGoroutine") = false := by kernel_rfl
theorem attrs1_ok {h : Heap} (l : AVal) : DCalls (Pg G) 161 [.slc []] h fun r h' => r = .fn 162 [] [.pin [.slc []]] ∧ h' = h := by
  refine dcalls_of_vc Tryz.func161 hn161 hc161 (by rw [Tryz.ntmps161]; simp) (by rw [Tryz.ntmps161]; decide) ?_
  simp -dsimp -implicitDefEqProofs (disch := omega) only [VCA, Nat.reduceEqDiff, ↓reduceIte, exists_eq_right, c161]
  all_goals first | exact Sub.refl _ | exact ⟨Sub.refl _, rfl⟩
def c122 : SFun := ⟨.seq (.reg [⟨some 8, .mv (.c (.fn 161 [] [])), none⟩]) (.seq (.reg [⟨some 17, .mv (.t 2), none⟩, ⟨some 18, .pcall 69 [.t 17], none⟩, ⟨some 19, .mv (.t 8), none⟩, ⟨some 20, .mv (.t 3), none⟩, ⟨some 21, .call (.t 19) [.t 20], none⟩, ⟨some 22, .call (.c (.fn 164 [] [])) [.t 18, .t 21], none⟩, ⟨some 9, .mv (.t 22), none⟩]) (.seq (.reg [⟨some 23, .mv (.t 3), none⟩, ⟨some 24, .pcall 69 [.t 23], none⟩, ⟨some 25, .mv (.t 8), none⟩, ⟨some 26, .mv (.t 2), none⟩, ⟨some 27, .call (.t 25) [.t 26], none⟩, ⟨some 28, .call (.c (.fn 164 [] [])) [.t 24, .t 27], none⟩, ⟨some 10, .mv (.t 28), none⟩]) (.seq (.reg [⟨some 29, .mv (.t 3), none⟩, ⟨some 30, .mv (.t 10), none⟩, ⟨some 31, .len (.t 30), none⟩, ⟨some 32, .mv (.t 3), none⟩, ⟨some 33, .len (.t 32), none⟩, ⟨some 34, .min2 (.t 31) (.t 33), none⟩, ⟨some 35, .slA 2 (.t 29) none (some (.t 34)), none⟩, ⟨some 11, .mv (.t 35), none⟩]) (.seq (.reg [⟨some 12, .mv (.c (.fn 165 [] [])), none⟩]) (.seq (.seq (.reg [⟨some 36, .mv (.t 9), none⟩, ⟨some 37, .mv (.t 10), none⟩, ⟨some 38, .mv (.t 12), none⟩, ⟨some 39, .call (.c (.fn 166 [] [])) [.t 36, .t 37, .t 38], none⟩, ⟨some 40, .un .not (.t 39), none⟩, ⟨some 41, .mv (.t 40), none⟩, ⟨some 42, .mv (.t 10), some (41, false)⟩, ⟨some 43, .mv (.t 11), some (41, false)⟩, ⟨some 44, .mv (.t 12), some (41, false)⟩, ⟨some 45, .call (.c (.fn 166 [] [])) [.t 42, .t 43, .t 44], some (41, false)⟩, ⟨some 46, .un .not (.t 45), some (41, false)⟩, ⟨some 47, .pick (.t 41) (.c (.bool true)) (.t 46), none⟩]) (.cond (.t 47) (.reg [⟨some 9, .mv (.c .emp), none⟩]) .skip)) (.seq (.seq (.reg [⟨some 48, .mv (.t 2), none⟩, ⟨some 49, .len (.t 48), none⟩, ⟨some 50, .mv (.c (.int .i64 0)), none⟩]) (.block 0 (.loop (.seq (.reg [⟨some 51, .bin .lss (.t 50) (.t 49), none⟩]) (.seq (.cond (.t 51) .skip (.exit 0)) (.seq (.block 1 (.seq (.reg [⟨some 52, .idxA 2 (.t 48) (.t 50), none⟩, ⟨some 53, .ld 2 true (.t 52), none⟩, ⟨some 14, .new 96 2 [.str [], .str []], none⟩, ⟨none, .st 2 (.t 14) (.t 53), none⟩]) (.seq (.reg [⟨some 54, .mv (.t 9), none⟩, ⟨some 55, .fldA 0 (.t 14), none⟩, ⟨some 56, .ld 1 false (.t 55), none⟩, ⟨some 57, .call (.c (.fn 163 [] [])) [.t 54, .t 56], none⟩, ⟨some 58, .un .not (.t 57), none⟩]) (.cond (.t 58) (.reg [⟨some 59, .mv (.t 0), none⟩, ⟨some 60, .mv (.t 1), none⟩, ⟨some 61, .fldA 0 (.t 14), none⟩, ⟨some 62, .ld 1 false (.t 61), none⟩, ⟨some 63, .bld [.int .i64 0, .int .i64 0, .int .i64 0, .int .i64 0, .str [], .str [], .int .i64 0, .str [], .emp, .str [], .int .i64 0, .emp] [(0, (1, (.c (.int .i64 2)))), (1, (1, (.t 60))), (4, (1, (.t 62)))], none⟩, ⟨some 64, .call (.c (.fn 123 [] [])) [.t 59, .t 63], none⟩]) .skip)))) (.reg [⟨some 65, .bin .add (.t 50) (.c (.int .i64 1)), none⟩, ⟨some 50, .mv (.t 65), none⟩]))))))) (.seq (.reg [⟨some 66, .mv (.t 3), none⟩, ⟨some 67, .len (.t 66), none⟩, ⟨some 68, .mv (.c (.int .i64 0)), none⟩]) (.block 2 (.loop (.seq (.reg [⟨some 69, .bin .lss (.t 68) (.t 67), none⟩]) (.seq (.cond (.t 69) .skip (.exit 2)) (.seq (.block 3 (.seq (.reg [⟨some 70, .idxA 2 (.t 66) (.t 68), none⟩, ⟨some 71, .ld 2 true (.t 70), none⟩, ⟨some 16, .new 96 2 [.str [], .str []], none⟩, ⟨none, .st 2 (.t 16) (.t 71), none⟩]) (.seq (.reg [⟨some 72, .mv (.t 9), none⟩, ⟨some 73, .ld 2 true (.t 16), none⟩, ⟨some 74, .call (.c (.fn 167 [] [])) [.t 72, .t 73], none⟩, ⟨some 75, .un .not (.t 74), none⟩]) (.cond (.t 75) (.reg [⟨some 76, .mv (.t 0), none⟩, ⟨some 77, .mv (.t 1), none⟩, ⟨some 78, .fldA 0 (.t 16), none⟩, ⟨some 79, .ld 1 false (.t 78), none⟩, ⟨some 80, .fldA 1 (.t 16), none⟩, ⟨some 81, .ld 1 false (.t 80), none⟩, ⟨some 82, .bld [.int .i64 0, .int .i64 0, .int .i64 0, .int .i64 0, .str [], .str [], .int .i64 0, .str [], .emp, .str [], .int .i64 0, .emp] [(0, (1, (.c (.int .i64 1)))), (1, (1, (.t 77))), (4, (1, (.t 79))), (5, (1, (.t 81)))], none⟩, ⟨some 83, .call (.c (.fn 123 [] [])) [.t 76, .t 82], none⟩]) .skip)))) (.reg [⟨some 84, .bin .add (.t 68) (.c (.int .i64 1)), none⟩, ⟨some 68, .mv (.t 84), none⟩]))))))))))))), []⟩
theorem hc122 : toSF Tryz.prog {pure := [69]} Tryz.f122 = some c122 := by kernel_rfl
theorem hn122 : (Tryz.f122.name == "runtime.NumGoroutine") = false := by kernel_rfl
theorem pattrs_nil {h : Heap} {rw' : Nat} (n : Int) : DCalls (Pg G) 122 [.vp rw' 0, aInt n, .slc [], .slc []] h fun r h' => r = .tup [] ∧ h' = h := by
  have hC : PCalls (Pg G) 69 [.slc []] (.slc []) := cloneA_ok (G := G) [] (by decide)
  refine dcalls_of_vc Tryz.func122 hn122 hc122 (by rw [Tryz.ntmps122]; simp) (by rw [Tryz.ntmps122]; decide) ?_
  simp -dsimp -implicitDefEqProofs (disch := omega) only [VCA, Nat.reduceEqDiff, ↓reduceIte, c122]
  repeat' (first | ((with_reducible refine brC (fun _ => ?_) fun _ => ?_) <;> try (exfalso; omega)) | (with_reducible apply pcallE.of; · exact hC) | ((refine DCalls.of (attrs1_ok (G := G) .emp) ?_; rintro _ _ ⟨rfl, rfl⟩)) | (with_reducible refine And.intro ?_ ?_; · omega) | simp -dsimp -implicitDefEqProofs (disch := omega) only [VCA, Nat.reduceEqDiff, ↓reduceIte])
  refine DCalls.of (delNil_ok (G := G) _ _ _) ?_
  rintro _ _ ⟨rfl, rfl⟩
  repeat' (first | ((with_reducible refine brC (fun _ => ?_) fun _ => ?_) <;> try (exfalso; omega)) | (with_reducible apply pcallE.of; · exact hC) | ((refine DCalls.of (attrs1_ok (G := G) .emp) ?_; rintro _ _ ⟨rfl, rfl⟩)) | (with_reducible refine And.intro ?_ ?_; · omega) | simp -dsimp -implicitDefEqProofs (disch := omega) only [VCA, Nat.reduceEqDiff, ↓reduceIte])
  refine DCalls.of (delNil_ok (G := G) _ _ _) ?_
  rintro _ _ ⟨rfl, rfl⟩
  have m0 : min ((0 : Nat) : Int) ((0 : Nat) : Int) = 0 := by decide
  have m00 : min (0 : Int) (0 : Int) = 0 := by decide
  repeat' (first | ((with_reducible refine brC (fun _ => ?_) fun _ => ?_) <;> try (exfalso; omega)) | (with_reducible refine And.intro ?_ ?_; · omega) | simp -dsimp -implicitDefEqProofs (disch := omega) only [VCA, Nat.reduceEqDiff, ↓reduceIte, implies_true, m0, okSlA])
  refine DCalls.of (eqNil_ok (G := G) _ _ _) ?_
  rintro _ _ ⟨rfl, rfl⟩
  repeat' (first | ((with_reducible refine brC (fun _ => ?_) fun _ => ?_) <;> try (exfalso; omega)) | (with_reducible refine And.intro ?_ ?_; · omega) | simp -dsimp -implicitDefEqProofs (disch := omega) only [↓vcOps_sp 41, VCA, Nat.reduceEqDiff, ↓reduceIte])
  refine DCalls.of (eqNil_ok (G := G) _ _ _) ?_
  rintro _ _ ⟨rfl, rfl⟩
  repeat' (first | ((with_reducible refine brC (fun _ => ?_) fun _ => ?_) <;> try (exfalso; omega)) | (with_reducible refine And.intro ?_ ?_; · omega) | simp -dsimp -implicitDefEqProofs (disch := omega) only [VCA, Nat.reduceEqDiff, ↓reduceIte])
  rename_i hq
  refine LoopVC.intro (fun m e h' => e 3 = .slc [] ∧ e 49 = aInt 0 ∧ e 50 = aInt 0 ∧ h' = hq) 0 ⟨rfl, rfl, rfl, rfl⟩ ?_
  rintro m e h' ⟨e3, e49, e50, rfl⟩
  repeat' (first | ((with_reducible refine brC (fun _ => ?_) fun _ => ?_) <;> try (exfalso; omega)) | (with_reducible refine And.intro ?_ ?_; · omega) | simp -dsimp -implicitDefEqProofs (disch := omega) only [VCA, Nat.reduceEqDiff, ↓reduceIte, e3, e49, e50])
  all_goals try (exfalso; omega)
  refine LoopVC.intro (fun m e h2 => e 67 = aInt 0 ∧ e 68 = aInt 0 ∧ h2 = h') 0 ⟨rfl, rfl, rfl⟩ ?_
  rintro m e h' ⟨e49, e50, rfl⟩
  repeat' (first | ((with_reducible refine brC (fun _ => ?_) fun _ => ?_) <;> try (exfalso; omega)) | (with_reducible refine And.intro ?_ ?_; · omega) | simp -dsimp -implicitDefEqProofs (disch := omega) only [VCA, ↓reduceIte, exists_eq_right, e49, e50])
  all_goals first | (exfalso; omega) | exact Sub.refl _ | exact ⟨Sub.refl _, rfl⟩ | trace_state
end Go.Proofs.K
end
section
set_option linter.unusedSimpArgs false
set_option linter.unusedVariables false
namespace Go.Proofs.K
open Go Go.Sim Go.Proofs
variable {G : Glob}
def c168 : SFun := ⟨.seq (.reg [⟨some 7, .mv (.c (.int .i64 0)), none⟩]) (.seq (.block 0 (.seq (.dreg [(⟨some 9, .ld 1 false (.t 2), none⟩, none), (⟨some 10, .fldA 0 (.t 9), none⟩, none), (⟨some 11, .fldA 0 (.t 10), none⟩, none), (⟨some 12, .fldA 0 (.t 11), none⟩, none), (⟨some 13, .ld 1 false (.t 12), none⟩, none), (⟨some 14, .ld 1 false (.t 3), none⟩, none), (⟨some 15, .mv (.t 0), none⟩, none), (⟨some 16, .idxA 1 (.t 14) (.t 15), none⟩, none), (⟨some 17, .ld 1 false (.t 16), none⟩, none), (⟨some 18, .idxA 6 (.t 13) (.t 17), none⟩, none), (⟨some 19, .ld 6 true (.t 18), none⟩, none), (⟨some 20, .ld 1 false (.t 2), none⟩, none), (⟨some 21, .fldA 0 (.t 20), none⟩, none), (⟨some 22, .fldA 2 (.t 21), none⟩, none), (⟨some 23, .fldA 0 (.t 22), none⟩, none), (⟨some 24, .ld 1 false (.t 23), none⟩, none), (⟨some 25, .ld 1 false (.t 4), none⟩, none), (⟨some 26, .mv (.t 1), none⟩, none), (⟨some 27, .idxA 1 (.t 25) (.t 26), none⟩, none), (⟨some 28, .ld 1 false (.t 27), none⟩, none), (⟨some 29, .idxA 6 (.t 24) (.t 28), none⟩, none), (⟨some 30, .ld 6 true (.t 29), none⟩, none), (⟨some 31, .pcall 169 [.t 19, .t 30], none⟩, none), (⟨some 32, .un .not (.t 31), none⟩, none), (⟨some 8, .mv (.t 32), none⟩, none)]) (.cond (.t 8) (.seq (.reg [⟨some 7, .mv (.c (.int .i64 0)), none⟩]) .ret) (.seq (.dreg [(⟨some 34, .ld 1 false (.t 2), none⟩, none), (⟨some 35, .ld 1 false (.t 3), none⟩, none), (⟨some 36, .mv (.t 0), none⟩, none), (⟨some 37, .idxA 1 (.t 35) (.t 36), none⟩, none), (⟨some 38, .ld 1 false (.t 37), none⟩, none), (⟨some 39, .ld 1 false (.t 4), none⟩, none), (⟨some 40, .mv (.t 1), none⟩, none), (⟨some 41, .idxA 1 (.t 39) (.t 40), none⟩, none), (⟨some 42, .ld 1 false (.t 41), none⟩, none), (⟨some 43, .call (.c (.fn 170 [] [])) [.t 34, .t 38, .t 42], none⟩, (some [34, 38, 42, 35, 39])), (⟨some 33, .mv (.t 43), none⟩, none)]) (.cond (.t 33) (.seq (.reg [⟨some 7, .mv (.c (.int .i64 2)), none⟩]) .ret) .skip))))) (.seq (.reg [⟨some 7, .mv (.c (.int .i64 1)), none⟩]) .ret)), [.tmp 7]⟩
theorem hc168 : toSF Tryz.prog {pure := [169]} Tryz.f168 = some c168 := by kernel_rfl
theorem hn168 : (Tryz.f168.name == "runtime.NumGoroutine") = false := by kernel_rfl
theorem worth_ok {h0 h : Heap} {rw' : Nat} {cells : List (List AVal)} {many : Int} {o : AVal} (D : Df h0 h rw' oneD formD cells many o) :
    DCalls (Pg G) 168 [aInt 0, aInt 0, .pin [.vp rw' 0], .pin [.slc [[.int .i64 1]]], .pin [.slc [[.int .i64 1]]]] h fun r h' => r = aInt 0 ∧ h' = h := by
  have gw := D.w
  have hK := kin_ok (G := G) (nd oneD 1) (nd formD 1)
  have bk : ((nd oneD 1).kind == (nd formD 1).kind && (nd oneD 1).name == (nd formD 1).name) = false := by decide
  rw [bk] at hK
  have nX : nth oneD.nodes (Int.toNat 1) = nd oneD 1 := rfl
  have nY : nth formD.nodes (Int.toNat 1) = nd formD 1 := rfl
  have lF : formD.nodes.length = 3 := rfl
  have lO : oneD.nodes.length = 3 := rfl
  unfold eNode at hK
  refine dcalls_of_vc Tryz.func168 hn168 hc168 (by rw [Tryz.ntmps168]; simp) (by rw [Tryz.ntmps168]; decide) ?_
  simp -dsimp -implicitDefEqProofs (disch := omega) only [VCA, Nat.reduceEqDiff, Nat.reduceAdd, Nat.reduceLT, Nat.reduceLeDiff, ↓reduceIte, reduceCtorEq, rsOf, rootsOf, exists_eq_left', rootL, c168, gw, nX, nY, lF, lO, eNode]
  repeat' (first | ((with_reducible refine brC (fun _ => ?_) fun _ => ?_) <;> try (exfalso; omega)) | (with_reducible apply pcallE.of; · exact hK) | (with_reducible refine And.intro ?_ ?_; · omega) | simp -dsimp -implicitDefEqProofs (disch := omega) only [VCA, ↓reduceIte, rsOf, rootsOf, exists_eq_right, rootL])
  all_goals first | (exfalso; omega) | exact Sub.refl _ | exact ⟨Sub.refl _, rfl⟩ | trace_state
theorem z01 : (0 : Int) + 1 = 1 := rfl
theorem z11 : (1 : Int) + 1 = 2 := rfl
theorem z0m : (0 : Int) - 1 = -1 := rfl
theorem t11 : Int.toNat 1 = 1 := rfl
theorem mx0 : max (0 : Int) 0 = 0 := rfl
theorem rp2 (x : List AVal) : List.replicate 2 x = [x, x] := rfl
theorem rp1 (x : List AVal) : List.replicate 1 x = [x] := rfl
def c124 : SFun := ⟨.seq (.reg [⟨some 3, .boxF 129 1 (.t 0), none⟩, ⟨some 4, .boxF 38 1 (.t 1), none⟩, ⟨some 5, .boxF 38 1 (.t 2), none⟩, ⟨some 6, .mv (.c .emp), none⟩]) (.seq (.reg [⟨some 17, .ld 1 false (.t 4), none⟩, ⟨some 18, .len (.t 17), none⟩, ⟨some 19, .bin .add (.t 18) (.c (.int .i64 1)), none⟩, ⟨some 20, .mks 38 1 24 [.emp] (.t 19) (.t 19), none⟩, ⟨some 7, .mv (.t 20), none⟩]) (.seq (.seq (.reg [⟨some 21, .mv (.t 7), none⟩, ⟨some 22, .len (.t 21), none⟩, ⟨some 23, .mv (.c (.int .i64 0)), none⟩]) (.block 0 (.loop (.seq (.reg [⟨some 24, .bin .lss (.t 23) (.t 22), none⟩]) (.seq (.cond (.t 24) .skip (.exit 0)) (.seq (.block 1 (.seq (.reg [⟨some 25, .mv (.t 23), none⟩, ⟨some 8, .mv (.t 25), none⟩]) (.reg [⟨some 26, .mv (.t 7), none⟩, ⟨some 27, .mv (.t 8), none⟩, ⟨some 28, .ld 1 false (.t 5), none⟩, ⟨some 29, .len (.t 28), none⟩, ⟨some 30, .bin .add (.t 29) (.c (.int .i64 1)), none⟩, ⟨some 31, .mks 3 1 8 [.int .i64 0] (.t 30) (.t 30), none⟩, ⟨some 32, .idxA 1 (.t 26) (.t 27), none⟩, ⟨none, .st 1 (.t 32) (.t 31), none⟩]))) (.reg [⟨some 33, .bin .add (.t 23) (.c (.int .i64 1)), none⟩, ⟨some 23, .mv (.t 33), none⟩]))))))) (.seq (.reg [⟨some 34, .mkf 168 [] [.t 3, .t 4, .t 5], none⟩, ⟨some 9, .mv (.t 34), none⟩]) (.seq (.seq (.reg [⟨some 35, .ld 1 false (.t 4), none⟩, ⟨some 36, .len (.t 35), none⟩, ⟨some 37, .bin .sub (.t 36) (.c (.int .i64 1)), none⟩, ⟨some 10, .mv (.t 37), none⟩]) (.block 2 (.loop (.seq (.seq (.reg [⟨some 38, .mv (.t 10), none⟩, ⟨some 39, .bin .geq (.t 38) (.c (.int .i64 0)), none⟩]) (.cond (.t 39) .skip (.exit 2))) (.seq (.block 3 (.seq (.reg [⟨some 42, .ld 1 false (.t 5), none⟩, ⟨some 43, .len (.t 42), none⟩, ⟨some 44, .bin .sub (.t 43) (.c (.int .i64 1)), none⟩, ⟨some 11, .mv (.t 44), none⟩]) (.block 4 (.loop (.seq (.seq (.reg [⟨some 45, .mv (.t 11), none⟩, ⟨some 46, .bin .geq (.t 45) (.c (.int .i64 0)), none⟩]) (.cond (.t 46) .skip (.exit 4))) (.seq (.block 5 (.seq (.dreg [(⟨some 49, .mv (.t 7), none⟩, none), (⟨some 50, .mv (.t 10), none⟩, none), (⟨some 51, .idxA 1 (.t 49) (.t 50), none⟩, none), (⟨some 52, .ld 1 false (.t 51), none⟩, none), (⟨some 53, .mv (.t 11), none⟩, none), (⟨some 54, .mv (.t 7), none⟩, none), (⟨some 55, .mv (.t 10), none⟩, none), (⟨some 56, .bin .add (.t 55) (.c (.int .i64 1)), none⟩, none), (⟨some 57, .idxA 1 (.t 54) (.t 56), none⟩, none), (⟨some 58, .ld 1 false (.t 57), none⟩, none), (⟨some 59, .mv (.t 11), none⟩, none), (⟨some 60, .idxA 1 (.t 58) (.t 59), none⟩, none), (⟨some 61, .ld 1 false (.t 60), none⟩, none), (⟨some 62, .mv (.t 7), none⟩, none), (⟨some 63, .mv (.t 10), none⟩, none), (⟨some 64, .idxA 1 (.t 62) (.t 63), none⟩, none), (⟨some 65, .ld 1 false (.t 64), none⟩, none), (⟨some 66, .mv (.t 11), none⟩, none), (⟨some 67, .bin .add (.t 66) (.c (.int .i64 1)), none⟩, none), (⟨some 68, .idxA 1 (.t 65) (.t 67), none⟩, none), (⟨some 69, .ld 1 false (.t 68), none⟩, none), (⟨some 70, .max2 (.t 61) (.t 69), none⟩, none), (⟨some 71, .idxA 1 (.t 52) (.t 53), none⟩, none), (⟨none, .st 1 (.t 71) (.t 70), none⟩, (some [52, 61, 69, 58, 65]))]) (.seq (.reg [⟨some 72, .mv (.t 9), none⟩, ⟨some 73, .mv (.t 10), none⟩, ⟨some 74, .mv (.t 11), none⟩, ⟨some 75, .call (.t 72) [.t 73, .t 74], none⟩, ⟨some 12, .mv (.t 75), none⟩]) (.seq (.reg [⟨some 76, .mv (.t 12), none⟩, ⟨some 77, .bin .gtr (.t 76) (.c (.int .i64 0)), none⟩]) (.cond (.t 77) (.dreg [(⟨some 78, .mv (.t 7), none⟩, none), (⟨some 79, .mv (.t 10), none⟩, none), (⟨some 80, .idxA 1 (.t 78) (.t 79), none⟩, none), (⟨some 81, .ld 1 false (.t 80), none⟩, none), (⟨some 82, .mv (.t 11), none⟩, none), (⟨some 83, .mv (.t 7), none⟩, none), (⟨some 84, .mv (.t 10), none⟩, none), (⟨some 85, .idxA 1 (.t 83) (.t 84), none⟩, none), (⟨some 86, .ld 1 false (.t 85), none⟩, none), (⟨some 87, .mv (.t 11), none⟩, none), (⟨some 88, .idxA 1 (.t 86) (.t 87), none⟩, none), (⟨some 89, .ld 1 false (.t 88), none⟩, none), (⟨some 90, .mv (.t 12), none⟩, none), (⟨some 91, .mv (.t 7), none⟩, none), (⟨some 92, .mv (.t 10), none⟩, none), (⟨some 93, .bin .add (.t 92) (.c (.int .i64 1)), none⟩, none), (⟨some 94, .idxA 1 (.t 91) (.t 93), none⟩, none), (⟨some 95, .ld 1 false (.t 94), none⟩, none), (⟨some 96, .mv (.t 11), none⟩, none), (⟨some 97, .bin .add (.t 96) (.c (.int .i64 1)), none⟩, none), (⟨some 98, .idxA 1 (.t 95) (.t 97), none⟩, none), (⟨some 99, .ld 1 false (.t 98), none⟩, none), (⟨some 100, .bin .add (.t 90) (.t 99), none⟩, none), (⟨some 101, .max2 (.t 89) (.t 100), none⟩, none), (⟨some 102, .idxA 1 (.t 81) (.t 82), none⟩, none), (⟨none, .st 1 (.t 102) (.t 101), none⟩, (some [81, 89, 86, 99, 95]))]) .skip))))) (.reg [⟨some 47, .mv (.t 11), none⟩, ⟨some 48, .bin .sub (.t 47) (.c (.int .i64 1)), none⟩, ⟨some 11, .mv (.t 48), none⟩]))))))) (.reg [⟨some 40, .mv (.t 10), none⟩, ⟨some 41, .bin .sub (.t 40) (.c (.int .i64 1)), none⟩, ⟨some 10, .mv (.t 41), none⟩])))))) (.seq (.reg [⟨some 103, .ld 1 false (.t 5), none⟩, ⟨some 104, .len (.t 103), none⟩, ⟨some 105, .mks 3 1 8 [.int .i64 0] (.t 104) (.t 104), none⟩, ⟨some 13, .mv (.t 105), none⟩]) (.seq (.reg [⟨some 14, .mv (.c (.int .i64 0)), none⟩]) (.seq (.seq (.reg [⟨some 106, .ld 1 false (.t 5), none⟩, ⟨some 107, .len (.t 106), none⟩, ⟨some 108, .mv (.c (.int .i64 0)), none⟩]) (.block 6 (.loop (.seq (.reg [⟨some 109, .bin .lss (.t 108) (.t 107), none⟩]) (.seq (.cond (.t 109) .skip (.exit 6)) (.seq (.block 7 (.seq (.reg [⟨some 110, .mv (.t 108), none⟩, ⟨some 15, .mv (.t 110), none⟩]) (.seq (.reg [⟨some 111, .mv (.t 13), none⟩, ⟨some 112, .mv (.t 15), none⟩, ⟨some 113, .idxA 1 (.t 111) (.t 112), none⟩, ⟨none, .st 1 (.t 113) (.c (.int .i64 (-1))), none⟩]) (.block 8 (.loop (.seq (.seq (.dreg [(⟨some 114, .mv (.t 14), none⟩, none), (⟨some 115, .ld 1 false (.t 4), none⟩, none), (⟨some 116, .len (.t 115), none⟩, none), (⟨some 117, .bin .lss (.t 114) (.t 116), none⟩, none), (⟨some 118, .mv (.t 117), none⟩, none), (⟨some 119, .mv (.t 7), some (118, true)⟩, none), (⟨some 120, .mv (.t 14), some (118, true)⟩, none), (⟨some 121, .idxA 1 (.t 119) (.t 120), some (118, true)⟩, none), (⟨some 122, .ld 1 false (.t 121), some (118, true)⟩, none), (⟨some 123, .mv (.t 15), some (118, true)⟩, none), (⟨some 124, .idxA 1 (.t 122) (.t 123), some (118, true)⟩, none), (⟨some 125, .ld 1 false (.t 124), some (118, true)⟩, none), (⟨some 126, .mv (.t 7), some (118, true)⟩, none), (⟨some 127, .mv (.t 14), some (118, true)⟩, none), (⟨some 128, .idxA 1 (.t 126) (.t 127), some (118, true)⟩, none), (⟨some 129, .ld 1 false (.t 128), some (118, true)⟩, none), (⟨some 130, .mv (.t 15), some (118, true)⟩, none), (⟨some 131, .bin .add (.t 130) (.c (.int .i64 1)), some (118, true)⟩, none), (⟨some 132, .idxA 1 (.t 129) (.t 131), some (118, true)⟩, none), (⟨some 133, .ld 1 false (.t 132), some (118, true)⟩, none), (⟨some 134, .bin .neq (.t 125) (.t 133), some (118, true)⟩, none), (⟨some 135, .pick (.t 118) (.t 134) (.c (.bool false)), none⟩, none)]) (.cond (.t 135) .skip (.exit 8))) (.block 9 (.seq (.seq (.reg [⟨some 136, .mv (.t 9), none⟩, ⟨some 137, .mv (.t 14), none⟩, ⟨some 138, .mv (.t 15), none⟩, ⟨some 139, .call (.t 136) [.t 137, .t 138], none⟩, ⟨some 16, .mv (.t 139), none⟩]) (.seq (.dreg [(⟨some 140, .mv (.t 16), none⟩, none), (⟨some 141, .bin .gtr (.t 140) (.c (.int .i64 0)), none⟩, none), (⟨some 142, .mv (.t 141), none⟩, none), (⟨some 143, .mv (.t 7), some (142, true)⟩, none), (⟨some 144, .mv (.t 14), some (142, true)⟩, none), (⟨some 145, .idxA 1 (.t 143) (.t 144), some (142, true)⟩, none), (⟨some 146, .ld 1 false (.t 145), some (142, true)⟩, none), (⟨some 147, .mv (.t 15), some (142, true)⟩, none), (⟨some 148, .idxA 1 (.t 146) (.t 147), some (142, true)⟩, none), (⟨some 149, .ld 1 false (.t 148), some (142, true)⟩, none), (⟨some 150, .mv (.t 16), some (142, true)⟩, none), (⟨some 151, .mv (.t 7), some (142, true)⟩, none), (⟨some 152, .mv (.t 14), some (142, true)⟩, none), (⟨some 153, .bin .add (.t 152) (.c (.int .i64 1)), some (142, true)⟩, none), (⟨some 154, .idxA 1 (.t 151) (.t 153), some (142, true)⟩, none), (⟨some 155, .ld 1 false (.t 154), some (142, true)⟩, none), (⟨some 156, .mv (.t 15), some (142, true)⟩, none), (⟨some 157, .bin .add (.t 156) (.c (.int .i64 1)), some (142, true)⟩, none), (⟨some 158, .idxA 1 (.t 155) (.t 157), some (142, true)⟩, none), (⟨some 159, .ld 1 false (.t 158), some (142, true)⟩, none), (⟨some 160, .bin .add (.t 150) (.t 159), some (142, true)⟩, none), (⟨some 161, .bin .eql (.t 149) (.t 160), some (142, true)⟩, none), (⟨some 162, .pick (.t 142) (.t 161) (.c (.bool false)), none⟩, none)]) (.cond (.t 162) (.seq (.reg [⟨some 163, .mv (.t 13), none⟩, ⟨some 164, .mv (.t 15), none⟩, ⟨some 165, .ld 1 false (.t 4), none⟩, ⟨some 166, .mv (.t 14), none⟩, ⟨some 167, .idxA 1 (.t 165) (.t 166), none⟩, ⟨some 168, .ld 1 false (.t 167), none⟩, ⟨some 169, .idxA 1 (.t 163) (.t 164), none⟩, ⟨none, .st 1 (.t 169) (.t 168), none⟩]) (.seq (.reg [⟨some 170, .mv (.t 14), none⟩, ⟨some 171, .bin .add (.t 170) (.c (.int .i64 1)), none⟩, ⟨some 14, .mv (.t 171), none⟩]) (.exit 8))) .skip))) (.reg [⟨some 172, .mv (.t 14), none⟩, ⟨some 173, .bin .add (.t 172) (.c (.int .i64 1)), none⟩, ⟨some 14, .mv (.t 173), none⟩]))))))))) (.reg [⟨some 174, .bin .add (.t 108) (.c (.int .i64 1)), none⟩, ⟨some 108, .mv (.t 174), none⟩]))))))) (.seq (.reg [⟨some 175, .mv (.t 13), none⟩, ⟨some 6, .mv (.t 175), none⟩]) .ret)))))))), [.tmp 6]⟩
theorem hc124 : toSF Tryz.prog {} Tryz.f124 = some c124 := by kernel_rfl
theorem hn124 : (Tryz.f124.name == "runtime.NumGoroutine") = false := by kernel_rfl
theorem pairs_ok {h0 h : Heap} {rw' : Nat} {cells : List (List AVal)} {many : Int} {o : AVal} (D : Df h0 h rw' oneD formD cells many o) :
    DCalls (Pg G) 124 [.vp rw' 0, .slc [[.int .i64 1]], .slc [[.int .i64 1]]] h fun r h' => ∃ rO, r = .osl rO 1 0 1 ∧ h rO = none ∧ h' rO = some ⟨.t 3, 1, [[.int .i64 (-1)]]⟩ ∧ Sim.Sub h h' := by
  have gw := D.w
  refine dcalls_of_vc Tryz.func124 hn124 hc124 (by rw [Tryz.ntmps124]; simp) (by rw [Tryz.ntmps124]; decide) ?_
  simp -dsimp -implicitDefEqProofs (disch := omega) only [VCA, Nat.reduceEqDiff, Nat.reduceAdd, ↓reduceIte, c124]
  repeat' (first | ((with_reducible refine brC (fun _ => ?_) fun _ => ?_) <;> try (exfalso; omega)) | (with_reducible refine And.intro ?_ ?_; · omega) | simp -dsimp -implicitDefEqProofs (disch := omega) only [↓vcOps_sp 118, ↓vcD_sp 118, ↓vcOps_sp 142, ↓vcD_sp 142, VCA, pg_gl, ↓upd_none, Nat.reduceEqDiff, Nat.reduceBEq, Nat.reduceAdd, Nat.reduceSub, Nat.reduceMul, Nat.reduceLT, Nat.reduceLeDiff, ↓reduceIte, reduceCtorEq, rsOf, rootsOf, SOp.rd, SI.rd, SX.rd, rdL, rdO, rdP, okParts, eqCells, okEqCells, fillA, okFill, setAt, implies_true, forall_const, forall_eq, ne_eq, exists_eq_right_right, exists_eq_right, exists_eq_left, exists_eq_left', rootL, eInt, eBool, lit_eq])
  all_goals try (exfalso; omega)
  intro rB hrB
  refine LoopVC.intro (fun m E h' => E 3 = .pin [.vp rw' 0] ∧ E 4 = .pin [.slc [[.int .i64 1]]] ∧ E 5 = .pin [.slc [[.int .i64 1]]] ∧ E 6 = .emp ∧ E 7 = .osl rB 1 0 2 ∧ E 22 = aInt 2 ∧ Sim.Sub h h' ∧
    ((m = 2 ∧ E 23 = aInt 0 ∧ h' rB = some ⟨.t 38, 1, [[.emp], [.emp]]⟩) ∨ (m = 1 ∧ E 23 = aInt 1 ∧ ∃ r0, h r0 = none ∧ r0 ≠ rB ∧ h' rB = some ⟨.t 38, 1, [[.osl r0 1 0 2], [.emp]]⟩ ∧ h' r0 = some ⟨.t 3, 1, [[.int .i64 0], [.int .i64 0]]⟩) ∨
    (m = 0 ∧ E 23 = aInt 2 ∧ ∃ r0 r1, h r0 = none ∧ h r1 = none ∧ r0 ≠ rB ∧ r1 ≠ rB ∧ r0 ≠ r1 ∧ h' rB = some ⟨.t 38, 1, [[.osl r0 1 0 2], [.osl r1 1 0 2]]⟩ ∧ h' r0 = some ⟨.t 3, 1, [[.int .i64 0], [.int .i64 0]]⟩ ∧ h' r1 = some ⟨.t 3, 1, [[.int .i64 0], [.int .i64 0]]⟩))) 2
    ⟨rfl, rfl, rfl, rfl, rfl, rfl, (Sub.refl h).upd hrB, .inl ⟨rfl, rfl, upd_same _ _ _⟩⟩ ?_
  rintro m E h' ⟨e3, e4, e5, e6, e7, e22, S, ⟨rfl, e23, gB⟩ | ⟨rfl, e23, r0, n0, d0, gB, g0⟩ | ⟨rfl, e23, r0, r1, n0, n1, d0, d1, d2, gB, g0, g1⟩⟩
  · repeat' (first | ((with_reducible refine brC (fun _ => ?_) fun _ => ?_) <;> try (exfalso; omega)) | (with_reducible refine And.intro ?_ ?_; · omega) | simp -dsimp -implicitDefEqProofs (disch := omega) only [VCA, Nat.reduceEqDiff, Nat.reduceAdd, ↓reduceIte, setAt, ne_eq, e3, e4, e5, e6, e7, e22, e23, gB, z01, rp2])
    all_goals try (exfalso; omega)
    intro r hr
    have dB : ¬ rB = r := fun e => by rw [e, hr] at gB; cases gB
    have dB' : ¬ r = rB := fun e => dB e.symm
    repeat' (first | ((with_reducible refine brC (fun _ => ?_) fun _ => ?_) <;> try (exfalso; omega)) | (with_reducible refine And.intro ?_ ?_; · omega) | simp -dsimp -implicitDefEqProofs (disch := omega) only [VCA, Nat.reduceAdd, Nat.reduceLT, ↓reduceIte, exists_eq_left', dB])
    all_goals try (exfalso; omega)
    exact ⟨1, by omega, ((S.upd (S.none hr)).upd hrB), .inr (.inl ⟨rfl, r, S.none hr, dB', rfl, by rw [if_neg dB', if_pos rfl]⟩)⟩
  · repeat' (first | ((with_reducible refine brC (fun _ => ?_) fun _ => ?_) <;> try (exfalso; omega)) | (with_reducible refine And.intro ?_ ?_; · omega) | simp -dsimp -implicitDefEqProofs (disch := omega) only [VCA, Nat.reduceEqDiff, Nat.reduceAdd, ↓reduceIte, setAt, ne_eq, e3, e4, e5, e6, e7, e22, e23, gB, z11, t11, rp2])
    all_goals try (exfalso; omega)
    intro r hr
    have dB : ¬ rB = r := fun e => by rw [e, hr] at gB; cases gB
    have dB' : ¬ r = rB := fun e => dB e.symm
    have d0r : ¬ r0 = r := fun e => by rw [e, hr] at g0; cases g0
    repeat' (first | ((with_reducible refine brC (fun _ => ?_) fun _ => ?_) <;> try (exfalso; omega)) | (with_reducible refine And.intro ?_ ?_; · omega) | simp -dsimp -implicitDefEqProofs (disch := omega) only [VCA, Nat.reduceAdd, Nat.reduceLT, ↓reduceIte, exists_eq_left', dB])
    all_goals try (exfalso; omega)
    exact ⟨0, by omega, ((S.upd (S.none hr)).upd hrB), .inr (.inr ⟨rfl, r0, r, n0, S.none hr, d0, dB', d0r, rfl, by rw [if_neg d0, if_neg d0r]; exact g0, by rw [if_neg dB', if_pos rfl]⟩)⟩
  · repeat' (first | ((with_reducible refine brC (fun _ => ?_) fun _ => ?_) <;> try (exfalso; omega)) | (with_reducible refine And.intro ?_ ?_; · omega) | simp -dsimp -implicitDefEqProofs (disch := omega) only [VCA, Nat.reduceEqDiff, ↓reduceIte, ne_eq, e3, e4, e5, e22, e23])
    all_goals try (exfalso; omega)
    refine LoopVC.intro (fun m E h2 => E 3 = .pin [.vp rw' 0] ∧ E 4 = .pin [.slc [[.int .i64 1]]] ∧ E 5 = .pin [.slc [[.int .i64 1]]] ∧ E 6 = .emp ∧ E 7 = .osl rB 1 0 2 ∧ E 9 = .fn 168 [] [.pin [.vp rw' 0], .pin [.slc [[.int .i64 1]]], .pin [.slc [[.int .i64 1]]]] ∧ Sim.Sub h h2 ∧ h2 rB = some ⟨.t 38, 1, [[.osl r0 1 0 2], [.osl r1 1 0 2]]⟩ ∧ h2 r0 = some ⟨.t 3, 1, [[.int .i64 0], [.int .i64 0]]⟩ ∧ h2 r1 = some ⟨.t 3, 1, [[.int .i64 0], [.int .i64 0]]⟩ ∧ ((m = 1 ∧ E 10 = aInt 0) ∨ (m = 0 ∧ E 10 = aInt (-1)))) 1
      ⟨e3, e4, e5, e6, e7, rfl, S, gB, g0, g1, .inl ⟨rfl, rfl⟩⟩ ?_
    clear e3 e4 e5 e6 e7 S gB g0 g1
    rintro m E h2 ⟨e3, e4, e5, e6, e7, e9, S, gB, g0, g1, ⟨rfl, e10⟩ | ⟨rfl, e10⟩⟩
    · repeat' (first | ((with_reducible refine brC (fun _ => ?_) fun _ => ?_) <;> try (exfalso; omega)) | (with_reducible refine And.intro ?_ ?_; · omega) | simp -dsimp -implicitDefEqProofs (disch := omega) only [VCA, Nat.reduceEqDiff, ↓reduceIte, e5, e10])
      all_goals try (exfalso; omega)
      refine LoopVC.intro (fun m E h3 => E 3 = .pin [.vp rw' 0] ∧ E 4 = .pin [.slc [[.int .i64 1]]] ∧ E 5 = .pin [.slc [[.int .i64 1]]] ∧ E 6 = .emp ∧ E 7 = .osl rB 1 0 2 ∧ E 9 = .fn 168 [] [.pin [.vp rw' 0], .pin [.slc [[.int .i64 1]]], .pin [.slc [[.int .i64 1]]]] ∧ E 10 = aInt 0 ∧ Sim.Sub h h3 ∧ h3 rB = some ⟨.t 38, 1, [[.osl r0 1 0 2], [.osl r1 1 0 2]]⟩ ∧ h3 r0 = some ⟨.t 3, 1, [[.int .i64 0], [.int .i64 0]]⟩ ∧ h3 r1 = some ⟨.t 3, 1, [[.int .i64 0], [.int .i64 0]]⟩ ∧ ((m = 1 ∧ E 11 = aInt 0) ∨ (m = 0 ∧ E 11 = aInt (-1)))) 1
        ⟨e3, e4, e5, e6, e7, e9, e10, S, gB, g0, g1, .inl ⟨rfl, rfl⟩⟩ ?_
      clear e3 e4 e5 e6 e7 e9 e10 S gB g0 g1
      rintro m E h3 ⟨e3, e4, e5, e6, e7, e9, e10, S, gB, g0, g1, ⟨rfl, e11⟩ | ⟨rfl, e11⟩⟩
      · repeat' (first | ((with_reducible refine brC (fun _ => ?_) fun _ => ?_) <;> try (exfalso; omega)) | (with_reducible refine And.intro ?_ ?_; · omega) | simp -dsimp -implicitDefEqProofs (disch := omega) only [VCA, Nat.reduceEqDiff, Nat.reduceBEq, Nat.reduceAdd, Nat.reduceLT, ↓reduceIte, rsOf, rootsOf, SOp.rd, SI.rd, SX.rd, setAt, exists_eq_left', rootL, e7, e9, e10, e11, gB, g0, g1, z01, t11, mx0])
        all_goals try (exfalso; omega)
        have S9 : Sim.Sub h (upd h3 r0 (some ⟨.t 3, 1, [[.int .i64 0], [.int .i64 0]]⟩)) := S.upd n0
        have hWo := worth_ok (G := G) (D.mono S9)
        refine DCalls.of hWo ?_
        rintro _ h4 ⟨rfl, hh4⟩
        rw [upd_id g0] at hh4
        subst hh4
        repeat' (first | ((with_reducible refine brC (fun _ => ?_) fun _ => ?_) <;> try (exfalso; omega)) | (with_reducible refine And.intro ?_ ?_; · omega) | simp -dsimp -implicitDefEqProofs (disch := omega) only [VCA, Nat.reduceEqDiff, ↓reduceIte, reduceCtorEq, e3, e4, e5, e6, e7, e9, e10, e11, gB, g0, g1, z0m])
        all_goals try (exfalso; omega)
        exact ⟨0, by omega, S, .inr rfl⟩
      · repeat' (first | ((with_reducible refine brC (fun _ => ?_) fun _ => ?_) <;> try (exfalso; omega)) | (with_reducible refine And.intro ?_ ?_; · omega) | simp -dsimp -implicitDefEqProofs (disch := omega) only [VCA, Nat.reduceEqDiff, ↓reduceIte, reduceCtorEq, e3, e4, e5, e6, e7, e9, e10, e11, gB, g0, g1, z0m])
        all_goals try (exfalso; omega)
        exact ⟨0, by omega, S, .inr rfl⟩
    · repeat' (first | ((with_reducible refine brC (fun _ => ?_) fun _ => ?_) <;> try (exfalso; omega)) | (with_reducible refine And.intro ?_ ?_; · omega) | simp -dsimp -implicitDefEqProofs (disch := omega) only [VCA, Nat.reduceEqDiff, ↓reduceIte, e5, e10, rp1])
      all_goals try (exfalso; omega)
      intro rO hrO
      have nO : h rO = none := S.none hrO
      have dB : ¬ rB = rO := fun e => by rw [e, hrO] at gB; cases gB
      have d0' : ¬ r0 = rO := fun e => by rw [e, hrO] at g0; cases g0
      have d1' : ¬ r1 = rO := fun e => by rw [e, hrO] at g1; cases g1
      refine LoopVC.intro (fun m E h3 => E 4 = .pin [.slc [[.int .i64 1]]] ∧ E 6 = .emp ∧ E 7 = .osl rB 1 0 2 ∧ E 13 = .osl rO 1 0 1 ∧ E 14 = aInt 0 ∧ E 107 = aInt 1 ∧ Sim.Sub h h3 ∧ h3 rB = some ⟨.t 38, 1, [[.osl r0 1 0 2], [.osl r1 1 0 2]]⟩ ∧ h3 r0 = some ⟨.t 3, 1, [[.int .i64 0], [.int .i64 0]]⟩ ∧ ((m = 1 ∧ E 108 = aInt 0 ∧ h3 rO = some ⟨.t 3, 1, [[.int .i64 0]]⟩) ∨ (m = 0 ∧ E 108 = aInt 1 ∧ h3 rO = some ⟨.t 3, 1, [[.int .i64 (-1)]]⟩))) 1
        ⟨e4, e6, e7, rfl, rfl, rfl, S.upd nO, by rw [upd_ne _ _ dB]; exact gB, by rw [upd_ne _ _ d0']; exact g0, .inl ⟨rfl, rfl, upd_same _ _ _⟩⟩ ?_
      clear e3 e4 e5 e6 e7 e9 e10 S gB g0 g1
      rintro m E h3 ⟨e4, e6, e7, e13, e14, e107, S, gB, g0, ⟨rfl, e108, gO⟩ | ⟨rfl, e108, gO⟩⟩
      · repeat' (first | ((with_reducible refine brC (fun _ => ?_) fun _ => ?_) <;> try (exfalso; omega)) | (with_reducible refine And.intro ?_ ?_; · omega) | simp -dsimp -implicitDefEqProofs (disch := omega) only [VCA, Nat.reduceEqDiff, Nat.reduceLT, ↓reduceIte, setAt, exists_eq_left', e13, e107, e108, gO])
        all_goals try (exfalso; omega)
        refine LoopVC.intro (fun m E h4 => E 4 = .pin [.slc [[.int .i64 1]]] ∧ E 6 = .emp ∧ E 7 = .osl rB 1 0 2 ∧ E 13 = .osl rO 1 0 1 ∧ E 14 = aInt 0 ∧ E 15 = aInt 0 ∧ E 107 = aInt 1 ∧ E 108 = aInt 0 ∧ Sim.Sub h h4 ∧ h4 rB = some ⟨.t 38, 1, [[.osl r0 1 0 2], [.osl r1 1 0 2]]⟩ ∧ h4 r0 = some ⟨.t 3, 1, [[.int .i64 0], [.int .i64 0]]⟩ ∧ h4 rO = some ⟨.t 3, 1, [[.int .i64 (-1)]]⟩) 0
          ⟨e4, e6, e7, e13, e14, rfl, e107, e108, S.upd nO, by rw [upd_ne _ _ dB]; exact gB, by rw [upd_ne _ _ d0']; exact g0, upd_same _ _ _⟩ ?_
        clear e4 e6 e7 e13 e14 e107 e108 S gB g0 gO
        rintro m E h4 ⟨e4, e6, e7, e13, e14, e15, e107, e108, S, gB, g0, gO⟩
        repeat' (first | ((with_reducible refine brC (fun _ => ?_) fun _ => ?_) <;> try (exfalso; omega)) | (with_reducible refine And.intro ?_ ?_; · omega) | simp -dsimp -implicitDefEqProofs (disch := omega) only [↓vcD_sp 118, VCA, Nat.reduceEqDiff, Nat.reduceAdd, Nat.reduceLT, ↓reduceIte, rsOf, rootsOf, exists_eq_left', rootL, e4, e6, e7, e13, e14, e15, e107, e108, gB, g0, gO, z01, t11])
        all_goals try (exfalso; omega)
        exact ⟨0, by omega, S, .inr rfl⟩
      · repeat' (first | ((with_reducible refine brC (fun _ => ?_) fun _ => ?_) <;> try (exfalso; omega)) | (with_reducible refine And.intro ?_ ?_; · omega) | simp -dsimp -implicitDefEqProofs (disch := omega) only [VCA, Nat.reduceEqDiff, ↓reduceIte, e13, e107, e108])
        all_goals try (exfalso; omega)
        exact ⟨_, Sub.refl _, rO, rfl, nO, gO, S⟩
end Go.Proofs.K
end
section
set_option linter.unusedSimpArgs false
set_option linter.unusedVariables false
namespace Go.Proofs.K
open Go Go.Sim Go.Proofs
def fitM (d : HDoc) (s : HStep) : Prop :=
  if s.edit.do' = 1 then inD d s.edit.at' ∧ 0 ≤ attrAt (nd d s.edit.at').attrs s.edit.name ∧ (s.had = true ∨ attrAt (nd d s.edit.at').attrs s.edit.name = ((nd d s.edit.at').attrs.length : Int) - 1)
  else if s.edit.do' = 2 then inD d s.edit.at' ∧ (nd d s.edit.at').kind = 2 ∧ 0 ≤ s.place ∧ s.place ≤ (nd d s.edit.at').attrs.length ∧ ¬ 0 ≤ attrAt (nd d s.edit.at').attrs s.edit.name
  else if s.edit.do' = 3 then inD d s.edit.at' ∧ ((nd d s.edit.at').kind = 3 ∨ (nd d s.edit.at').kind = 4)
  else if s.edit.do' = 4 then s.place = (d.nodes.length : Int) - 1 ∧ 2 ≤ d.nodes.length ∧ (nd d ((d.nodes.length : Int) - 1)).parent = -1 ∧ (nd d ((d.nodes.length : Int) - 1)).kids = []
  else if s.edit.do' = 5 then inD d s.edit.at' ∧ inD d s.edit.to ∧ 0 ≤ s.place ∧ s.place < (nd d s.edit.at').kids.length ∧ nth (nd d s.edit.at').kids s.place.toNat = s.edit.to
  else if s.edit.do' = 6 then inD d s.parent ∧ inD d s.edit.at' ∧ s.edit.at' ≠ 0 ∧ (nd d s.edit.at').parent = -1 ∧ 0 ≤ s.place ∧ s.place ≤ (nd d s.parent).kids.length
  else False
instance (d : HDoc) (s : HStep) : Decidable (fitM d s) := by unfold fitM inD; infer_instance
structure USm (k : Nat) (d : HDoc) : Prop where
  len : d.nodes.length ≤ 200
  sm : DocSm d
  kids : ∀ n, (nd d n).kids.length ≤ 300 + k
  attrs : ∀ n, (nd d n).attrs.length ≤ 300 + k
  names : ∀ n, ((nd d n).attrs.map (·.name)).Nodup
theorem nd_setN_any {d : HDoc} {n m : Int} {x : HNode} : nd (setN d n x) m = x ∨ nd (setN d n x) m = nd d m := by
  unfold nd setN nth
  simp only [List.getD_eq_getElem?_getD, List.getElem?_set]
  split
  · split
    · exact .inl rfl
    · rename_i h1 h2
      right
      rw [List.getElem?_eq_none (by omega)]
  · exact .inr rfl
theorem USm.set {k : Nat} {d : HDoc} (U : USm k d) {n : Int} {x : HNode} (hx : NodeSm x) (h1 : x.kids.length ≤ 300 + (k + 1)) (h2 : x.attrs.length ≤ 300 + (k + 1)) (h3 : (x.attrs.map (·.name)).Nodup) : USm (k + 1) (setN d n x) := by
  refine ⟨by rw [setN_len]; exact U.len, U.sm.setN hx, fun m => ?_, fun m => ?_, fun m => ?_⟩
  · rcases nd_setN_any (d := d) (n := n) (m := m) (x := x) with h | h <;> rw [h]
    · exact h1
    · have := U.kids m; omega
  · rcases nd_setN_any (d := d) (n := n) (m := m) (x := x) with h | h <;> rw [h]
    · exact h2
    · have := U.attrs m; omega
  · rcases nd_setN_any (d := d) (n := n) (m := m) (x := x) with h | h <;> rw [h]
    · exact h3
    · exact U.names m
end Go.Proofs.K
end
section
set_option linter.unusedSimpArgs false
set_option linter.unusedVariables false
namespace Go.Proofs.K
open Go Go.Sim Go.Proofs
variable {G : Glob}
structure Un (h0 h : Heap) (re rN : Nat) (d : HDoc) (n : Nat) (sl : Nat → AVal) : Prop where
  dw : Dw [re] h0 h rN d sl
  un : h re = some ⟨.t 79, 2, [[.osl rN 6 0 n, .bool d.quirks]]⟩
  new : h0 re = none
  live : ∀ k, k < 2 * d.nodes.length → Mut (sl k)
  le : n ≤ d.nodes.length
section
variable {h0 h : Heap} {re rN : Nat} {d : HDoc} {n : Nat} {sl : Nat → AVal}
theorem Un.ne (E : Un h0 h re rN d n sl) : re ≠ rN := fun e => E.dw.new.2 (by simp [e])
theorem Un.put (E : Un h0 h re rN d n sl) {h2 : Heap} {sl' : Nat → AVal} {i : Nat} (hi : i < d.nodes.length) {x' : HNode}
    (hs : ∀ j, j ≠ 2 * i → j ≠ 2 * i + 1 → sl' j = sl j)
    (hN : h2 rN = some ⟨.t 40, 6, (rowsA d sl).set i (rowA x' (sl' (2 * i)) (sl' (2 * i + 1)))⟩)
    (hk : ∀ r o, h r = some o → r ≠ rN → rootOf (sl (2 * i)) ≠ some r → rootOf (sl (2 * i + 1)) ≠ some r → h2 r = some o)
    (hA : OwnS h2 96 2 (x'.attrs.map eAttr) (sl' (2 * i))) (hK : OwnS h2 3 1 (x'.kids.map eInt) (sl' (2 * i + 1)))
    (hf : ∀ r, rootOf (sl' (2 * i)) = some r ∨ rootOf (sl' (2 * i + 1)) = some r → rootOf (sl (2 * i)) = some r ∨ rootOf (sl (2 * i + 1)) = some r ∨ h r = none)
    (hd : ∀ r, rootOf (sl' (2 * i)) = some r → rootOf (sl' (2 * i + 1)) ≠ some r)
    (hm : Mut (sl' (2 * i)) ∧ Mut (sl' (2 * i + 1))) : Un h0 h2 re rN ⟨d.nodes.set i x', d.quirks⟩ n sl' := by
  have hl : (d.nodes.set i x').length = d.nodes.length := by simp
  refine ⟨E.dw.put hi hs hN hk hA hK hf hd, ?_, E.new, fun k hk' => ?_, by rw [hl]; exact E.le⟩
  · show h2 re = some ⟨_, 2, [[.osl rN 6 0 n, _]]⟩
    refine hk re _ E.un E.ne (fun h => (E.dw.fresh _ (by omega) re h).2.2 (by simp)) (fun h => (E.dw.fresh _ (by omega) re h).2.2 (by simp))
  · simp only [hl] at hk'
    by_cases e1 : k = 2 * i
    · rw [e1]; exact hm.1
    · by_cases e2 : k = 2 * i + 1
      · rw [e2]; exact hm.2
      · rw [hs k e1 e2]; exact E.live k hk'
theorem Un.cells (E : Un h0 h re rN d n sl) {i : Nat} (hi : i < d.nodes.length) {x' : HNode} (hA : x'.attrs = (nth d.nodes i).attrs) (hK : x'.kids = (nth d.nodes i).kids) :
    Un h0 (upd h rN (some ⟨.t 40, 6, (rowsA d sl).set i (rowA x' (sl (2 * i)) (sl (2 * i + 1)))⟩)) re rN ⟨d.nodes.set i x', d.quirks⟩ n sl := by
  obtain ⟨g1, g2⟩ := E.dw.own i hi
  have k1 : ∀ k, k < 2 * d.nodes.length → ∀ r, rootOf (sl k) = some r → r ≠ rN := fun k hk r hr => (E.dw.fresh k hk r hr).2.1
  refine E.put hi (fun _ _ _ => rfl) (upd_same _ _ _) (fun r o ho hne _ _ => by rw [upd_ne _ _ hne]; exact ho) ?_ ?_ (fun r hr => by rcases hr with h | h; exact .inl h; exact .inr (.inl h)) (fun r hr => E.dw.sep _ _ (by omega) (by omega) (by omega) r hr) ⟨E.live _ (by omega), E.live _ (by omega)⟩
  · rw [hA]; exact g1.keep fun r o hr ho => by rw [upd_ne _ _ (k1 _ (by omega) r hr)]; exact ho
  · rw [hK]; exact g2.keep fun r o hr ho => by rw [upd_ne _ _ (k1 _ (by omega) r hr)]; exact ho
end
end Go.Proofs.K
end
section
set_option linter.unusedSimpArgs false
set_option linter.unusedVariables false
namespace Go.Proofs.K
open Go Go.Sim Go.Proofs
variable {G : Glob}
theorem datI' (l : List Int) : Dat (sl eInt l) := .slc _ fun e he c hc => by
  obtain ⟨x, _, rfl⟩ := List.mem_map.1 he
  simp only [eInt, List.mem_cons, List.mem_nil_iff, or_false] at hc
  subst hc; constructor
end Go.Proofs.K
end
