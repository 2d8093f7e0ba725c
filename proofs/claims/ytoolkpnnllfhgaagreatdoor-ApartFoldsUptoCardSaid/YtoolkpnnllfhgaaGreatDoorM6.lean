/- Texts of this claim, one behind the other. -/
import Derived.Test.YtoolkpnnllfhgaaGreatDoorM5
import Derived.Test.YtoolkpnnllfhgaaGreatDoorM3
import Derived.Test.YtoolkpnnllfhgaaGreatDoorM4
section
/- Edits: the reference's EditErr. -/
set_option linter.unusedSimpArgs false
set_option linter.unusedVariables false
namespace Go.Proofs.K
open Go Go.Sim Go.Proofs
variable {G : Glob}
theorem betwD_ok (n a b : Int) : PCalls (Pg G) 76 [aInt n, aInt a, aInt b] (.bool (decide (a ≤ n ∧ n ≤ b))) := by
  have h := betw_ok (G := G) n a b
  have e : (decide (a ≤ n) && decide (n ≤ b)) = decide (a ≤ n ∧ n ≤ b) := by simp
  rwa [e] at h
theorem errR_4 {d : HDoc} {e : HEdit} (h4 : e.do' = 4) : errR d e = if 0 < (e.node.kids.length : Int) then 3 else if e.node.kind = 1 then 7 else nodeE e.node := by
  unfold errR
  rw [if_neg (by omega), if_pos h4]
  by_cases hk : e.node.kids = []
  · rw [if_neg (by simpa using hk), if_neg (c := 0 < (e.node.kids.length : Int)) (by rw [hk]; simp)]
  · rw [if_pos hk, if_pos]
    have := List.length_pos_iff.2 hk
    omega
theorem errR_in {d : HDoc} {e : HEdit} (h1 : 1 ≤ e.do') (h6 : e.do' ≤ 6) (h4 : e.do' ≠ 4) (hi : ¬ inD d e.at' ∨ (e.do' = 5 ∧ ¬ inD d e.to)) : errR d e = 5 := by
  unfold errR
  rw [if_neg (by omega), if_neg h4, if_pos hi]
theorem errR_1 {d : HDoc} {e : HEdit} (h : e.do' = 1) (ha : inD d e.at') : errR d e = if (nd d e.at').kind ≠ 2 then 7 else if (!nameOK false e.name) = true then 3 else 0 := by
  unfold errR
  rw [if_neg (by omega), if_neg (by omega), if_neg (by simp [ha]; omega), if_pos h]
  cases nameOK false e.name <;> simp
theorem errR_2 {d : HDoc} {e : HEdit} (h : e.do' = 2) (ha : inD d e.at') : errR d e = if (nd d e.at').kind ≠ 2 then 7 else if ¬ 0 ≤ attrAt (nd d e.at').attrs e.name then 5 else 0 := by
  unfold errR
  rw [if_neg (by omega), if_neg (by omega), if_neg (by simp [ha]; omega), if_neg (by omega), if_pos h]
theorem errR_3 {d : HDoc} {e : HEdit} (h : e.do' = 3) (ha : inD d e.at') : errR d e = if (nd d e.at').kind ≠ 3 ∧ (nd d e.at').kind ≠ 4 then 7 else 0 := by
  unfold errR
  rw [if_neg (by omega), if_neg (by omega), if_neg (by simp [ha]; omega), if_neg (by omega), if_neg (by omega), if_pos h]
theorem errR_6 {d : HDoc} {e : HEdit} (h : e.do' = 6) (ha : inD d e.at') : errR d e = if e.at' = 0 then 7 else if (nd d e.at').parent < 0 then 5 else 0 := by
  unfold errR
  rw [if_neg (by omega), if_neg (by omega), if_neg (by simp [ha]; omega), if_neg (by omega), if_neg (by omega), if_neg (by omega), if_pos h]
theorem errR_5 {d : HDoc} {e : HEdit} (h : e.do' = 5) (ha : inD d e.at') (ht : inD d e.to) : errR d e = if 2 < (nd d e.at').kind ∨ e.to = 0 ∨ (e.at' = 0 ∧ (nd d e.to).kind = 3) then 7 else if 0 ≤ (nd d e.to).parent then 9
    else if e.before ≠ -1 ∧ idxM (· == e.before) (nd d e.at').kids < 0 then 5 else if decide (e.to ∈ chain d e.at') = true then 8 else 0 := by
  have im := idx_mem (nd d e.at').kids e.before
  unfold errR
  rw [if_neg (by omega), if_neg (by omega), if_neg (by simp [ha, ht]), if_neg (by omega), if_neg (by omega), if_neg (by omega), if_neg (by omega)]
  have : (e.before ∉ (nd d e.at').kids) = (idxM (· == e.before) (nd d e.at').kids < 0) := by rw [← im]; exact propext (by omega)
  simp only [this, decide_eq_true_eq]
def c58_s7 : SCode := (.seq (.seq (.reg [⟨(some 65), (.fldA 0 (.t 3)), none⟩, ⟨(some 66), (.ld 1 false (.t 65)), none⟩]) (.block 0 (.seq (.reg [⟨(some 112), (.bin .eql (.t 66) (.c (.int .i64 (1)))), none⟩, ⟨(some 111), (.mv (.t 112)), none⟩]) (.cond (.t 111) (.seq (.seq (.reg [⟨(some 113), (.fldA 0 (.t 6)), none⟩, ⟨(some 114), (.ld 1 false (.t 113)), none⟩, ⟨(some 115), (.bin .neq (.t 114) (.c (.int .i64 (2)))), none⟩]) (.cond (.t 115) (.seq (.reg [⟨(some 4), (.mv (.c (.int .i64 (7)))), none⟩]) .ret) .skip)) (.seq (.reg [⟨(some 116), (.fldA 4 (.t 3)), none⟩, ⟨(some 117), (.ld 1 false (.t 116)), none⟩, ⟨(some 118), (.pcall 102 [(.t 117), (.c (.bool false))]), none⟩, ⟨(some 119), (.un .not (.t 118)), none⟩]) (.cond (.t 119) (.seq (.reg [⟨(some 4), (.mv (.c (.int .i64 (3)))), none⟩]) .ret) .skip))) (.seq (.reg [⟨(some 121), (.bin .eql (.t 66) (.c (.int .i64 (2)))), none⟩, ⟨(some 120), (.mv (.t 121)), none⟩]) (.cond (.t 120) (.seq (.seq (.reg [⟨(some 122), (.fldA 0 (.t 6)), none⟩, ⟨(some 123), (.ld 1 false (.t 122)), none⟩, ⟨(some 124), (.bin .neq (.t 123) (.c (.int .i64 (2)))), none⟩]) (.cond (.t 124) (.seq (.reg [⟨(some 4), (.mv (.c (.int .i64 (7)))), none⟩]) .ret) .skip)) (.seq (.reg [⟨(some 125), (.mv (.t 8)), none⟩, ⟨(some 126), (.un .not (.t 125)), none⟩]) (.cond (.t 126) (.seq (.reg [⟨(some 4), (.mv (.c (.int .i64 (5)))), none⟩]) .ret) .skip))) (.seq (.reg [⟨(some 128), (.bin .eql (.t 66) (.c (.int .i64 (3)))), none⟩, ⟨(some 127), (.mv (.t 128)), none⟩]) (.cond (.t 127) (.seq (.reg [⟨(some 129), (.fldA 0 (.t 6)), none⟩, ⟨(some 130), (.ld 1 false (.t 129)), none⟩, ⟨(some 131), (.bin .neq (.t 130) (.c (.int .i64 (3)))), none⟩, ⟨(some 132), (.mv (.t 131)), none⟩, ⟨(some 133), (.fldA 0 (.t 6)), (some (132, true))⟩, ⟨(some 134), (.ld 1 false (.t 133)), (some (132, true))⟩, ⟨(some 135), (.bin .neq (.t 134) (.c (.int .i64 (4)))), (some (132, true))⟩, ⟨(some 136), (.pick (.t 132) (.t 135) (.c (.bool false))), none⟩]) (.cond (.t 136) (.seq (.reg [⟨(some 4), (.mv (.c (.int .i64 (7)))), none⟩]) .ret) .skip)) (.seq (.reg [⟨(some 138), (.bin .eql (.t 66) (.c (.int .i64 (6)))), none⟩, ⟨(some 137), (.mv (.t 138)), none⟩]) (.cond (.t 137) (.seq (.seq (.reg [⟨(some 139), (.fldA 1 (.t 3)), none⟩, ⟨(some 140), (.ld 1 false (.t 139)), none⟩, ⟨(some 141), (.bin .eql (.t 140) (.c (.int .i64 (0)))), none⟩]) (.cond (.t 141) (.seq (.reg [⟨(some 4), (.mv (.c (.int .i64 (7)))), none⟩]) .ret) .skip)) (.seq (.reg [⟨(some 142), (.fldA 4 (.t 6)), none⟩, ⟨(some 143), (.ld 1 false (.t 142)), none⟩, ⟨(some 144), (.bin .lss (.t 143) (.c (.int .i64 (0)))), none⟩]) (.cond (.t 144) (.seq (.reg [⟨(some 4), (.mv (.c (.int .i64 (5)))), none⟩]) .ret) .skip))) (.seq (.reg [⟨(some 67), (.fldA 0 (.t 2)), none⟩, ⟨(some 68), (.ld 1 false (.t 67)), none⟩, ⟨(some 69), (.fldA 2 (.t 3)), none⟩, ⟨(some 70), (.ld 1 false (.t 69)), none⟩, ⟨(some 71), (.idxA 6 (.t 68) (.t 70)), none⟩, ⟨(some 72), (.ld 6 true (.t 71)), none⟩, ⟨(some 9), (.new 40 6 [(.int .i64 (0)), (.str []), .emp, (.str []), (.int .i64 (0)), .emp]), none⟩, ⟨none, (.st 6 (.t 9) (.t 72)), none⟩]) (.seq (.seq (.reg [⟨(some 73), (.fldA 0 (.t 6)), none⟩, ⟨(some 74), (.ld 1 false (.t 73)), none⟩, ⟨(some 75), (.bin .gtr (.t 74) (.c (.int .i64 (2)))), none⟩, ⟨(some 76), (.mv (.t 75)), none⟩, ⟨(some 77), (.fldA 2 (.t 3)), (some (76, false))⟩, ⟨(some 78), (.ld 1 false (.t 77)), (some (76, false))⟩, ⟨(some 79), (.bin .eql (.t 78) (.c (.int .i64 (0)))), (some (76, false))⟩, ⟨(some 80), (.pick (.t 76) (.c (.bool true)) (.t 79)), none⟩, ⟨(some 81), (.mv (.t 80)), none⟩, ⟨(some 82), (.fldA 1 (.t 3)), (some (81, false))⟩, ⟨(some 83), (.ld 1 false (.t 82)), (some (81, false))⟩, ⟨(some 84), (.bin .eql (.t 83) (.c (.int .i64 (0)))), (some (81, false))⟩, ⟨(some 85), (.mv (.t 84)), (some (81, false))⟩, ⟨(some 86), (.fldA 0 (.t 9)), (some (85, true))⟩, ⟨(some 87), (.ld 1 false (.t 86)), (some (85, true))⟩, ⟨(some 88), (.bin .eql (.t 87) (.c (.int .i64 (3)))), (some (85, true))⟩, ⟨(some 89), (.pick (.t 85) (.t 88) (.c (.bool false))), (some (81, false))⟩, ⟨(some 90), (.pick (.t 81) (.c (.bool true)) (.t 89)), none⟩]) (.cond (.t 90) (.seq (.reg [⟨(some 4), (.mv (.c (.int .i64 (7)))), none⟩]) .ret) .skip)) (.seq (.seq (.reg [⟨(some 91), (.fldA 4 (.t 9)), none⟩, ⟨(some 92), (.ld 1 false (.t 91)), none⟩, ⟨(some 93), (.bin .geq (.t 92) (.c (.int .i64 (0)))), none⟩]) (.cond (.t 93) (.seq (.reg [⟨(some 4), (.mv (.c (.int .i64 (9)))), none⟩]) .ret) .skip)) (.seq (.seq (.reg [⟨(some 94), (.fldA 3 (.t 3)), none⟩, ⟨(some 95), (.ld 1 false (.t 94)), none⟩, ⟨(some 96), (.bin .neq (.t 95) (.c (.int .i64 (-1)))), none⟩, ⟨(some 97), (.mv (.t 96)), none⟩, ⟨(some 98), (.fldA 5 (.t 6)), (some (97, true))⟩, ⟨(some 99), (.ld 1 false (.t 98)), (some (97, true))⟩, ⟨(some 100), (.fldA 3 (.t 3)), (some (97, true))⟩, ⟨(some 101), (.ld 1 false (.t 100)), (some (97, true))⟩, ⟨(some 102), (.pcall 60 [(.t 99), (.t 101)]), (some (97, true))⟩, ⟨(some 103), (.bin .lss (.t 102) (.c (.int .i64 (0)))), (some (97, true))⟩, ⟨(some 104), (.pick (.t 97) (.t 103) (.c (.bool false))), none⟩]) (.cond (.t 104) (.seq (.reg [⟨(some 4), (.mv (.c (.int .i64 (5)))), none⟩]) .ret) .skip)) (.seq (.reg [⟨(some 105), (.ld 2 true (.t 2)), none⟩, ⟨(some 106), (.fldA 1 (.t 3)), none⟩, ⟨(some 107), (.ld 1 false (.t 106)), none⟩, ⟨(some 108), (.fldA 2 (.t 3)), none⟩, ⟨(some 109), (.ld 1 false (.t 108)), none⟩, ⟨(some 110), (.pcall 62 [(.t 105), (.t 107), (.t 109)]), none⟩]) (.cond (.t 110) (.seq (.reg [⟨(some 4), (.mv (.c (.int .i64 (8)))), none⟩]) .ret) .skip)))))))))))))))) (.seq (.reg [⟨(some 4), (.mv (.c (.int .i64 (0)))), none⟩]) .ret))
def c58_s4 : SCode := (.seq (.seq (.reg [⟨(some 32), (.fldA 1 (.t 3)), none⟩, ⟨(some 33), (.ld 1 false (.t 32)), none⟩, ⟨(some 34), (.mv (.t 5)), none⟩, ⟨(some 35), (.bin .sub (.t 34) (.c (.int .i64 (1)))), none⟩, ⟨(some 36), (.pcall 76 [(.t 33), (.c (.int .i64 (0))), (.t 35)]), none⟩, ⟨(some 37), (.un .not (.t 36)), none⟩, ⟨(some 38), (.mv (.t 37)), none⟩, ⟨(some 39), (.fldA 0 (.t 3)), (some (38, false))⟩, ⟨(some 40), (.ld 1 false (.t 39)), (some (38, false))⟩, ⟨(some 41), (.bin .eql (.t 40) (.c (.int .i64 (5)))), (some (38, false))⟩, ⟨(some 42), (.mv (.t 41)), (some (38, false))⟩, ⟨(some 43), (.fldA 2 (.t 3)), (some (42, true))⟩, ⟨(some 44), (.ld 1 false (.t 43)), (some (42, true))⟩, ⟨(some 45), (.mv (.t 5)), (some (42, true))⟩, ⟨(some 46), (.bin .sub (.t 45) (.c (.int .i64 (1)))), (some (42, true))⟩, ⟨(some 47), (.pcall 76 [(.t 44), (.c (.int .i64 (0))), (.t 46)]), (some (42, true))⟩, ⟨(some 48), (.un .not (.t 47)), (some (42, true))⟩, ⟨(some 49), (.pick (.t 42) (.t 48) (.c (.bool false))), (some (38, false))⟩, ⟨(some 50), (.pick (.t 38) (.c (.bool true)) (.t 49)), none⟩]) (.cond (.t 50) (.seq (.reg [⟨(some 4), (.mv (.c (.int .i64 (5)))), none⟩]) .ret) .skip)) (.seq (.reg [⟨(some 51), (.fldA 0 (.t 2)), none⟩, ⟨(some 52), (.ld 1 false (.t 51)), none⟩, ⟨(some 53), (.fldA 1 (.t 3)), none⟩, ⟨(some 54), (.ld 1 false (.t 53)), none⟩, ⟨(some 55), (.idxA 6 (.t 52) (.t 54)), none⟩, ⟨(some 56), (.ld 6 true (.t 55)), none⟩, ⟨(some 6), (.new 40 6 [(.int .i64 (0)), (.str []), .emp, (.str []), (.int .i64 (0)), .emp]), none⟩, ⟨none, (.st 6 (.t 6) (.t 56)), none⟩]) (.seq (.reg [⟨(some 58), (.fldA 2 (.t 6)), none⟩, ⟨(some 59), (.ld 1 false (.t 58)), none⟩, ⟨(some 60), (.fldA 4 (.t 3)), none⟩, ⟨(some 61), (.ld 1 false (.t 60)), none⟩, ⟨(some 62), (.pcall 94 [(.t 59), (.t 61)]), none⟩, ⟨(some 57), (.mv (.t 62)), none⟩, ⟨(some 63), (.ext (.t 57) 0), none⟩, ⟨(some 64), (.ext (.t 57) 1), none⟩, ⟨(some 7), (.mv (.t 63)), none⟩, ⟨(some 8), (.mv (.t 64)), none⟩]) c58_s7)))
def c58 : SFun := ⟨(.seq (.reg [⟨(some 2), (.boxF 24 2 (.t 0)), none⟩, ⟨(some 3), (.boxF 42 12 (.t 1)), none⟩, ⟨(some 4), (.mv (.c (.int .i64 (0)))), none⟩]) (.seq (.reg [⟨(some 10), (.fldA 0 (.t 2)), none⟩, ⟨(some 11), (.ld 1 false (.t 10)), none⟩, ⟨(some 12), (.len (.t 11)), none⟩, ⟨(some 5), (.mv (.t 12)), none⟩]) (.seq (.seq (.reg [⟨(some 13), (.fldA 0 (.t 3)), none⟩, ⟨(some 14), (.ld 1 false (.t 13)), none⟩, ⟨(some 15), (.pcall 76 [(.t 14), (.c (.int .i64 (1))), (.c (.int .i64 (6)))]), none⟩, ⟨(some 16), (.un .not (.t 15)), none⟩]) (.cond (.t 16) (.seq (.reg [⟨(some 4), (.mv (.c (.int .i64 (1)))), none⟩]) .ret) .skip)) (.seq (.seq (.reg [⟨(some 17), (.fldA 0 (.t 3)), none⟩, ⟨(some 18), (.ld 1 false (.t 17)), none⟩, ⟨(some 19), (.bin .eql (.t 18) (.c (.int .i64 (4)))), none⟩]) (.cond (.t 19) (.seq (.seq (.reg [⟨(some 20), (.fldA 6 (.t 3)), none⟩, ⟨(some 21), (.fldA 5 (.t 20)), none⟩, ⟨(some 22), (.ld 1 false (.t 21)), none⟩, ⟨(some 23), (.len (.t 22)), none⟩, ⟨(some 24), (.bin .gtr (.t 23) (.c (.int .i64 (0)))), none⟩]) (.cond (.t 24) (.seq (.reg [⟨(some 4), (.mv (.c (.int .i64 (3)))), none⟩]) .ret) .skip)) (.seq (.seq (.reg [⟨(some 25), (.fldA 6 (.t 3)), none⟩, ⟨(some 26), (.fldA 0 (.t 25)), none⟩, ⟨(some 27), (.ld 1 false (.t 26)), none⟩, ⟨(some 28), (.bin .eql (.t 27) (.c (.int .i64 (1)))), none⟩]) (.cond (.t 28) (.seq (.reg [⟨(some 4), (.mv (.c (.int .i64 (7)))), none⟩]) .ret) .skip)) (.seq (.reg [⟨(some 29), (.fldA 6 (.t 3)), none⟩, ⟨(some 30), (.ld 6 true (.t 29)), none⟩, ⟨(some 31), (.pcall 92 [(.t 30)]), none⟩, ⟨(some 4), (.mv (.t 31)), none⟩]) .ret))) .skip)) c58_s4)))), [(.tmp 4)]⟩
theorem hc58 : toSF Tryz.prog {pure := [76, 92, 60, 94, 102, 62]} Tryz.f58 = some c58 := by kernel_rfl
theorem hn58 : (Tryz.f58.name == "runtime.NumGoroutine") = false := by kernel_rfl
set_option maxHeartbeats 2000000 in
theorem editErr_ok (d : HDoc) (V : DV d) (sm : DocSm d) (e : HEdit) (he : EditSm e) : PCalls (Pg G) 58 [.agg (eDoc d), .agg (eEdit e)] (aInt (errR d e)) := fun h => by
  have hl := sm.len
  have hN := nodeErr_ok (G := G) e.node he.node
  have hB1 : PCalls (Pg G) 76 [aInt e.do', .int .i64 1, .int .i64 6] (.bool (decide (1 ≤ e.do' ∧ e.do' ≤ 6))) := betwD_ok (G := G) e.do' 1 6
  have hB2 : PCalls (Pg G) 76 [aInt e.at', .int .i64 0, aInt ((d.nodes.length : Int) - 1)] (.bool (decide (0 ≤ e.at' ∧ e.at' ≤ (d.nodes.length : Int) - 1))) := betwD_ok (G := G) e.at' 0 ((d.nodes.length : Int) - 1)
  have hB3 : PCalls (Pg G) 76 [aInt e.to, .int .i64 0, aInt ((d.nodes.length : Int) - 1)] (.bool (decide (0 ≤ e.to ∧ e.to ≤ (d.nodes.length : Int) - 1))) := betwD_ok (G := G) e.to 0 ((d.nodes.length : Int) - 1)
  have s7 : inD d e.at' → (e.do' = 5 → inD d e.to) → 1 ≤ e.do' → e.do' ≤ 6 → e.do' ≠ 4 → ∀ (E : Env) (h2 : Heap) (r6 : Nat), h2 r6 = some ⟨.t 40, 6, [eNode (nd d e.at')]⟩ → Sim.Sub h h2 → E 2 = .pin (eDoc d) → E 3 = .pin (eEdit e) → E 6 = .vp r6 0 → E 8 = .bool (decide (0 ≤ attrAt (nd d e.at').attrs e.name)) → vc (Pg G) c58_s7 (retK [.tmp 4] fun r h' => r = aInt (errR d e) ∧ h' = h) E h2 := by
    intro ha hto h1 h6 h4 E h2 r6 hr6 S he2 he3 he6 he8
    unfold eNode at hr6
    unfold c58_s7
    skip
    have a0 := ha.1
    have a1 := ha.2
    have ea : nth d.nodes e.at'.toNat = nd d e.at' := rfl
    have et : nth d.nodes e.to.toNat = nd d e.to := rfl
    have hD : PCalls (Pg G) 102 [.str e.name, .bool false] (.bool (nameOK false e.name)) := domName_ok (G := G) e.name false he.name
    have hP : PCalls (Pg G) 60 [sl eInt (nd d e.at').kids, aInt e.before] (aInt (idxM (· == e.before) (nd d e.at').kids)) := placeIn_ok (G := G) _ _ (sm.nd _).kids
    have im := idx_mem (nd d e.at').kids e.before
    have hU : e.do' = 5 → PCalls (Pg G) 62 [.agg [sl eNode d.nodes, .bool d.quirks], aInt e.at', aInt e.to] (.bool (decide (e.to ∈ chain d e.at'))) := fun h5 => under_ok (G := G) d V e.at' e.to ha (hto h5).1
    by_cases c1 : e.do' = 1
    · have hE := errR_1 c1 ha
      generalize nameOK false e.name = bn at *
      cases bn
      all_goals
        simp -dsimp -implicitDefEqProofs (disch := omega) only [VCA, Nat.reduceAdd, Nat.reduceLeDiff, ↓reduceIte, he3, eEdit, c1]
        repeat' (first | ((with_reducible refine Br.dec (fun _ => ?_) (fun _ => ?_)) <;> try (exfalso; omega)) | ((with_reducible refine Br.eq (fun _ => ?_) (fun _ => ?_)) <;> try (exfalso; omega)) | ((with_reducible refine Br.ne (fun _ => ?_) (fun _ => ?_)) <;> try (exfalso; omega)) | ((with_reducible refine brNdec (fun _ => ?_) (fun _ => ?_)) <;> try (exfalso; omega)) | ((with_reducible refine brNeq (fun _ => ?_) (fun _ => ?_)) <;> try (exfalso; omega)) | with_reducible refine Br.intro (fun _ => ?_) (fun _ => ?_) | (with_reducible apply pcallE.of; · exact hD) | (with_reducible refine And.intro ?_ ?_; · omega) | simp -dsimp -implicitDefEqProofs (disch := omega) only [VCA, Nat.reduceEqDiff, Nat.reduceAdd, Nat.reduceLT, Nat.reduceLeDiff, ↓reduceIte, exists_eq_right_right, exists_eq_left', he3, he6, hr6, eEdit, c1])
      all_goals first | (rw [hE]; ((repeat' split) <;> first | with_reducible rfl | (exfalso; omega) | contradiction); done) | (refine ⟨S, ?_⟩; rw [hE]; ((repeat' split) <;> first | with_reducible rfl | (exfalso; omega) | contradiction); done) | trace_state
    by_cases c2 : e.do' = 2
    · have hE := errR_2 c2 ha
      by_cases hat : 0 ≤ attrAt (nd d e.at').attrs e.name
      all_goals
        first
          | rw [decide_eq_true hat] at he8
          | rw [decide_eq_false hat] at he8
        simp -dsimp -implicitDefEqProofs (disch := omega) only [VCA, Nat.reduceAdd, Nat.reduceLeDiff, ↓reduceIte, he3, eEdit, c2]
        repeat' (first | ((with_reducible refine Br.dec (fun _ => ?_) (fun _ => ?_)) <;> try (exfalso; omega)) | ((with_reducible refine Br.eq (fun _ => ?_) (fun _ => ?_)) <;> try (exfalso; omega)) | ((with_reducible refine Br.ne (fun _ => ?_) (fun _ => ?_)) <;> try (exfalso; omega)) | ((with_reducible refine brNdec (fun _ => ?_) (fun _ => ?_)) <;> try (exfalso; omega)) | ((with_reducible refine brNeq (fun _ => ?_) (fun _ => ?_)) <;> try (exfalso; omega)) | with_reducible refine Br.intro (fun _ => ?_) (fun _ => ?_) | (with_reducible refine And.intro ?_ ?_; · omega) | simp -dsimp -implicitDefEqProofs (disch := omega) only [VCA, Nat.reduceEqDiff, Nat.reduceAdd, Nat.reduceLT, Nat.reduceLeDiff, ↓reduceIte, exists_eq_right_right, exists_eq_left', he6, he8, hr6])
      all_goals first | (rw [hE]; ((repeat' split) <;> first | with_reducible rfl | (exfalso; omega) | contradiction); done) | (refine ⟨S, ?_⟩; rw [hE]; ((repeat' split) <;> first | with_reducible rfl | (exfalso; omega) | contradiction); done) | trace_state
    by_cases c3 : e.do' = 3
    · have hE := errR_3 c3 ha
      simp -dsimp -implicitDefEqProofs (disch := omega) only [VCA, Nat.reduceAdd, Nat.reduceLeDiff, ↓reduceIte, he3, eEdit, c3]
      repeat' (first | ((with_reducible refine Br.dec (fun _ => ?_) (fun _ => ?_)) <;> try (exfalso; omega)) | ((with_reducible refine Br.eq (fun _ => ?_) (fun _ => ?_)) <;> try (exfalso; omega)) | ((with_reducible refine Br.ne (fun _ => ?_) (fun _ => ?_)) <;> try (exfalso; omega)) | ((with_reducible refine brNdec (fun _ => ?_) (fun _ => ?_)) <;> try (exfalso; omega)) | ((with_reducible refine brNeq (fun _ => ?_) (fun _ => ?_)) <;> try (exfalso; omega)) | with_reducible refine Br.intro (fun _ => ?_) (fun _ => ?_) | (with_reducible refine And.intro ?_ ?_; · omega) | simp -dsimp -implicitDefEqProofs (disch := omega) only [↓vcOps_sp 132, VCA, Nat.reduceEqDiff, Nat.reduceAdd, Nat.reduceLT, Nat.reduceLeDiff, ↓reduceIte, exists_eq_right_right, exists_eq_left', he6, hr6])
      all_goals first | (rw [hE]; ((repeat' split) <;> first | with_reducible rfl | (exfalso; omega) | contradiction); done) | (refine ⟨S, ?_⟩; rw [hE]; ((repeat' split) <;> first | with_reducible rfl | (exfalso; omega) | contradiction); done) | trace_state
    by_cases c6 : e.do' = 6
    · have hE := errR_6 c6 ha
      simp -dsimp -implicitDefEqProofs (disch := omega) only [VCA, Nat.reduceAdd, Nat.reduceLeDiff, ↓reduceIte, he3, eEdit, c6]
      repeat' (first | ((with_reducible refine Br.dec (fun _ => ?_) (fun _ => ?_)) <;> try (exfalso; omega)) | ((with_reducible refine Br.eq (fun _ => ?_) (fun _ => ?_)) <;> try (exfalso; omega)) | ((with_reducible refine Br.ne (fun _ => ?_) (fun _ => ?_)) <;> try (exfalso; omega)) | ((with_reducible refine brNdec (fun _ => ?_) (fun _ => ?_)) <;> try (exfalso; omega)) | ((with_reducible refine brNeq (fun _ => ?_) (fun _ => ?_)) <;> try (exfalso; omega)) | with_reducible refine Br.intro (fun _ => ?_) (fun _ => ?_) | (with_reducible refine And.intro ?_ ?_; · omega) | simp -dsimp -implicitDefEqProofs (disch := omega) only [VCA, Nat.reduceEqDiff, Nat.reduceAdd, Nat.reduceLT, Nat.reduceLeDiff, ↓reduceIte, exists_eq_right_right, exists_eq_left', he3, he6, hr6, eEdit, c6])
      all_goals first | (rw [hE]; ((repeat' split) <;> first | with_reducible rfl | (exfalso; omega) | contradiction); done) | (refine ⟨S, ?_⟩; rw [hE]; ((repeat' split) <;> first | with_reducible rfl | (exfalso; omega) | contradiction); done) | trace_state
    have c5 : e.do' = 5 := by omega
    have t0 := (hto c5).1
    have t1 := (hto c5).2
    have hU := hU c5
    have hE := errR_5 c5 ha (hto c5)
    clear im hD hB1 hB2 hB3 hN
    generalize decide (e.to ∈ chain d e.at') = bc at *
    cases bc
    all_goals
      simp -dsimp -implicitDefEqProofs (disch := omega) only [VCA, Nat.reduceAdd, Nat.reduceLeDiff, ↓reduceIte, he3, eEdit, c5]
      repeat' (first | ((with_reducible refine Br.dec (fun _ => ?_) (fun _ => ?_)) <;> try (exfalso; omega)) | ((with_reducible refine Br.eq (fun _ => ?_) (fun _ => ?_)) <;> try (exfalso; omega)) | ((with_reducible refine Br.ne (fun _ => ?_) (fun _ => ?_)) <;> try (exfalso; omega)) | ((with_reducible refine brNdec (fun _ => ?_) (fun _ => ?_)) <;> try (exfalso; omega)) | ((with_reducible refine brNeq (fun _ => ?_) (fun _ => ?_)) <;> try (exfalso; omega)) | with_reducible refine Br.intro (fun _ => ?_) (fun _ => ?_) | (with_reducible refine And.intro ?_ ?_; · omega) | simp -dsimp -implicitDefEqProofs (disch := omega) only [↓vcOps_sp 76, VCA, Nat.reduceEqDiff, Nat.reduceAdd, Nat.reduceLT, Nat.reduceLeDiff, ↓reduceIte, setAt, exists_eq_left', eDoc, he2, he3, he6, hr6, eEdit, eNode, c5])
      intro r9 hr9
      have n69 : ¬ r6 = r9 := fun e => by rw [← e, hr6] at hr9; cases hr9
      have n96 : ¬ r9 = r6 := fun e => n69 e.symm
      repeat' (first | ((with_reducible refine Br.dec (fun _ => ?_) (fun _ => ?_)) <;> try (exfalso; omega)) | ((with_reducible refine Br.eq (fun _ => ?_) (fun _ => ?_)) <;> try (exfalso; omega)) | ((with_reducible refine Br.ne (fun _ => ?_) (fun _ => ?_)) <;> try (exfalso; omega)) | ((with_reducible refine brNdec (fun _ => ?_) (fun _ => ?_)) <;> try (exfalso; omega)) | ((with_reducible refine brNeq (fun _ => ?_) (fun _ => ?_)) <;> try (exfalso; omega)) | with_reducible refine Br.intro (fun _ => ?_) (fun _ => ?_) | (with_reducible apply pcallE.of; · exact hP) | (with_reducible apply pcallE.of; · exact hU) | (with_reducible refine And.intro ?_ ?_; · omega) | simp -dsimp -implicitDefEqProofs (disch := omega) only [↓vcOps_sp 81, ↓vcOps_sp 85, ↓vcOps_sp 97, VCA, Nat.reduceEqDiff, Nat.reduceAdd, Nat.reduceLT, Nat.reduceLeDiff, ↓reduceIte, exists_eq_right_right, exists_eq_left', eDoc, he2, he3, he6, hr6, n69, eEdit, c5, et])
      all_goals first | (rw [hE]; ((repeat' split) <;> first | with_reducible rfl | (exfalso; omega) | contradiction); done) | (refine ⟨S.upd (S.none hr9), ?_⟩; rw [hE]; ((repeat' split) <;> first | with_reducible rfl | (exfalso; omega) | contradiction); done) | trace_state
  have s4 : 1 ≤ e.do' → e.do' ≤ 6 → e.do' ≠ 4 → ∀ E : Env, E 2 = .pin (eDoc d) → E 3 = .pin (eEdit e) → E 5 = aInt d.nodes.length → vc (Pg G) c58_s4 (retK [.tmp 4] fun r h' => r = aInt (errR d e) ∧ h' = h) E h := by
    intro h1 h6 h4 E he2 he3 he5
    unfold c58_s4
    skip
    have ea : nth d.nodes e.at'.toNat = nd d e.at' := rfl
    have hA : PCalls (Pg G) 94 [sl eAttr (nd d e.at').attrs, .str e.name] (.tup [.str (attrOfM (nd d e.at').attrs e.name).1, .bool (attrOfM (nd d e.at').attrs e.name).2]) := attrOf_ok (G := G) _ e.name (sm.nd _).attrs
    rw [attrOf_has] at hA
    simp -dsimp -implicitDefEqProofs (disch := omega) only [VCA, Nat.reduceEqDiff, Nat.reduceAdd, Nat.reduceLeDiff, ↓reduceIte, he3, he5, eEdit]
    repeat' (first | ((with_reducible refine Br.dec (fun _ => ?_) (fun _ => ?_)) <;> try (exfalso; omega)) | ((with_reducible refine Br.eq (fun _ => ?_) (fun _ => ?_)) <;> try (exfalso; omega)) | ((with_reducible refine Br.ne (fun _ => ?_) (fun _ => ?_)) <;> try (exfalso; omega)) | ((with_reducible refine brNdec (fun _ => ?_) (fun _ => ?_)) <;> try (exfalso; omega)) | ((with_reducible refine brNeq (fun _ => ?_) (fun _ => ?_)) <;> try (exfalso; omega)) | with_reducible refine Br.intro (fun _ => ?_) (fun _ => ?_) | (with_reducible apply pcallE.of; · exact hB2) | (with_reducible apply pcallE.of; · exact hB3) | (with_reducible refine And.intro ?_ ?_; · omega) | simp -dsimp -implicitDefEqProofs (disch := omega) only [↓vcOps_sp 38, ↓vcOps_sp 42, VCA, Nat.reduceEqDiff, Nat.reduceAdd, Nat.reduceLT, Nat.reduceLeDiff, ↓reduceIte, setAt, exists_eq_right_right, exists_eq_left', eDoc, he2, he3, he5, eEdit, eNode, ea])
    · exact ⟨Sub.refl _, (errR_in h1 h6 h4 (.inl (by unfold inD; omega))).symm⟩
    · exact ⟨Sub.refl _, (errR_in h1 h6 h4 (.inr (by unfold inD; omega))).symm⟩
    all_goals
      rename_i qq
      intro r6 hr6
      repeat' (first | ((with_reducible refine Br.dec (fun _ => ?_) (fun _ => ?_)) <;> try (exfalso; omega)) | ((with_reducible refine Br.eq (fun _ => ?_) (fun _ => ?_)) <;> try (exfalso; omega)) | ((with_reducible refine Br.ne (fun _ => ?_) (fun _ => ?_)) <;> try (exfalso; omega)) | ((with_reducible refine brNdec (fun _ => ?_) (fun _ => ?_)) <;> try (exfalso; omega)) | ((with_reducible refine brNeq (fun _ => ?_) (fun _ => ?_)) <;> try (exfalso; omega)) | with_reducible refine Br.intro (fun _ => ?_) (fun _ => ?_) | (with_reducible apply pcallE.of; · exact hA) | (with_reducible refine And.intro ?_ ?_; · omega) | simp -dsimp -implicitDefEqProofs (disch := omega) only [VCA, Nat.reduceEqDiff, Nat.reduceAdd, Nat.reduceLT, ↓reduceIte])
      exact s7 (by unfold inD; omega) (fun h5 => by unfold inD; omega) h1 h6 h4 _ _ r6 (upd_same _ _ _) ((Sub.refl _).upd hr6) he2 he3 rfl rfl
  refine dcalls_of_vc Tryz.func58 hn58 hc58 (by rw [Tryz.ntmps58]; simp) (by rw [Tryz.ntmps58]; decide) ?_
  simp -dsimp -implicitDefEqProofs (disch := omega) only [VCA, Nat.reduceEqDiff, Nat.reduceAdd, Nat.reduceLeDiff, ↓reduceIte, eDoc, c58, eEdit]
  unfold eNode at hN
  repeat' (first | ((with_reducible refine Br.dec (fun _ => ?_) (fun _ => ?_)) <;> try (exfalso; omega)) | ((with_reducible refine Br.eq (fun _ => ?_) (fun _ => ?_)) <;> try (exfalso; omega)) | ((with_reducible refine Br.ne (fun _ => ?_) (fun _ => ?_)) <;> try (exfalso; omega)) | ((with_reducible refine brNdec (fun _ => ?_) (fun _ => ?_)) <;> try (exfalso; omega)) | ((with_reducible refine brNeq (fun _ => ?_) (fun _ => ?_)) <;> try (exfalso; omega)) | with_reducible refine Br.intro (fun _ => ?_) (fun _ => ?_) | (with_reducible apply pcallE.of; · exact hB1) | (with_reducible apply pcallE.of; · exact hN) | (with_reducible refine And.intro ?_ ?_; · omega) | simp -dsimp -implicitDefEqProofs (disch := omega) only [VCA, Nat.reduceEqDiff, Nat.reduceAdd, Nat.reduceLeDiff, ↓reduceIte, exists_eq_right_right])
  · rename_i q
    exact ⟨Sub.refl _, by unfold errR; rw [if_pos q]⟩
  · rename_i q1 q2 q3
    exact ⟨Sub.refl _, by rw [errR_4 q2, if_pos q3]⟩
  · rename_i q1 q2 q3 q4
    exact ⟨Sub.refl _, by rw [errR_4 q2, if_neg q3, if_pos q4]⟩
  · rename_i q1 q2 q3 q4
    exact ⟨Sub.refl _, by rw [errR_4 q2, if_neg q3, if_neg q4]⟩
  · rename_i q1 q2
    exact s4 q1.1 q1.2 q2 _ rfl rfl rfl
end Go.Proofs.K
end
section
/- Edits: the reference's Edited: its end, its begin. -/
set_option linter.unusedSimpArgs false
set_option linter.unusedVariables false
namespace Go.Proofs.K
open Go Go.Sim Go.Proofs
variable {G : Glob}
theorem DocSm.setN {d : HDoc} {x : HNode} {n : Int} (sm : DocSm d) (hx : NodeSm x) : DocSm (setN d n x) := ⟨by rw [setN_len]; exact sm.len, fun y hy => by
  rcases List.mem_or_eq_of_mem_set hy with h | h
  · exact sm.each y h
  · exact h ▸ hx⟩
theorem edit_sm {d : HDoc} (V : DV d) (sm : DocSm d) {e : HEdit} (he : EditSm e) (h0 : errR d e = 0) : DocSm (editD d e) := by
  have kl : ∀ n, (nd d n).kids.length ≤ 1073741823 := fun n => by
    by_cases hn : inD d n
    · have := nodup_len d.nodes.length (nd d n).kids (V.nodup n hn) (fun k hk => (V.kid n hn k hk).1)
      have := V.len
      omega
    · have : (nd d n).kids = [] ∨ inD d n.toNat := by
        by_cases h : n.toNat < d.nodes.length
        · exact .inr (inD_nat.2 h)
        · left; unfold nd; rw [nth_def h]; rfl
      rcases this with h | h
      · rw [h]; decide
      · have h2 := nodup_len d.nodes.length (nd d n.toNat).kids (V.nodup _ h) (fun k hk => (V.kid _ h k hk).1)
        have : nd d (n.toNat : Int) = nd d n := by unfold nd; rw [Int.toNat_natCast]
        rw [this] at h2
        have := V.len
        omega
  have ns := fun n => sm.nd n
  unfold editD
  split
  · rename_i h1
    have ha : inD d e.at' := by
      apply Classical.byContradiction; intro ha
      rw [errR_in (by omega) (by omega) (by omega) (.inl ha)] at h0; omega
    have al := ((attrsE_iff _).1 ((nodeE_iff _).1 (V.node _ ha)).2.2.2.1).1
    refine sm.setN ⟨(ns _).name, ?_, ?_, (ns _).text, (ns _).kids⟩
    · unfold setAttr; split
      · rw [List.length_set]; omega
      · rw [List.length_append, List.length_singleton]; omega
    · intro a ha
      have : a ∈ (nd d e.at').attrs ∨ a = ⟨e.name, e.value⟩ := by
        unfold setAttr at ha; split at ha
        · exact List.mem_or_eq_of_mem_set ha
        · rcases List.mem_append.1 ha with h | h
          · exact .inl h
          · exact .inr (by simpa using h)
      rcases this with h | h
      · exact (ns _).each a h
      · subst h; exact ⟨he.name, he.value⟩
  split
  · refine sm.setN ⟨(ns _).name, ?_, ?_, (ns _).text, (ns _).kids⟩
    · have := (ns e.at').attrs
      unfold dropAttr; rw [List.length_append, List.length_take, List.length_drop]; omega
    · intro a ha
      refine (ns e.at').each a ?_
      unfold dropAttr at ha
      rcases List.mem_append.1 ha with h | h
      · exact List.mem_of_mem_take h
      · exact List.mem_of_mem_drop h
  split
  · exact sm.setN ⟨(ns _).name, (ns _).attrs, (ns _).each, he.value, (ns _).kids⟩
  split
  · refine ⟨by rw [addN_len]; have := V.len; omega, fun y hy => ?_⟩
    rcases List.mem_append.1 hy with h | h
    · exact sm.each y h
    · have : y = madeM e.node := by simpa using h
      subst this
      exact ⟨he.node.name, he.node.attrs, he.node.each, he.node.text, Nat.zero_le _⟩
  split
  · unfold hung
    refine DocSm.setN (DocSm.setN sm ⟨(ns e.at').name, (ns e.at').attrs, (ns e.at').each, (ns e.at').text, ?_⟩) ⟨(ns e.to).name, (ns e.to).attrs, (ns e.to).each, (ns e.to).text, (ns e.to).kids⟩
    have := kl e.at'
    show (List.take _ _ ++ _ :: List.drop _ _).length ≤ _
    rw [List.length_append, List.length_cons, List.length_take, List.length_drop]; omega
  · unfold cutN
    refine DocSm.setN (DocSm.setN sm ⟨(ns (nd d e.at').parent).name, (ns (nd d e.at').parent).attrs, (ns (nd d e.at').parent).each, (ns (nd d e.at').parent).text, ?_⟩) ⟨(ns e.at').name, (ns e.at').attrs, (ns e.at').each, (ns e.at').text, (ns e.at').kids⟩
    show (List.take _ _ ++ List.drop _ _).length ≤ _
    have := kl (nd d e.at').parent
    rw [List.length_append, List.length_take, List.length_drop]; omega
/-- what is refused, and what becomes of a document: by its own check -/
theorem apply_by {d : HDoc} (V : DV d) {e : HEdit} (h0 : errR d e = 0) : (docE (editD d e) ≠ 0 → applyE d e = 2) ∧ (docE (editD d e) = 0 → applyE d e = 0) := by
  have hd := (docE_iff d).2 V
  have aE : applyE d e = editE d e := by unfold applyE; rw [if_neg (by simpa using hd)]
  have h1 := edit_DV V e h0
  rw [← docE_iff] at h1
  rw [aE]
  refine ⟨fun h => ?_, fun h => h1.1 h⟩
  rcases (editE_errR V e).2 h0 with h2 | h2
  · exact absurd (h1.2 h2) h
  · exact h2
theorem apply_err {d : HDoc} (V : DV d) {e : HEdit} (h0 : errR d e ≠ 0) : applyE d e = errR d e := by
  have hd := (docE_iff d).2 V
  unfold applyE; rw [if_neg (by simpa using hd)]
  exact (editE_errR V e).1 h0
theorem Fresh.vw {α : Type} [Inhabited α] {enc : α → List AVal} {h h' : Heap} {ty sz : Nat} [LenE enc sz] {l : List α} {a : AVal} (F : Fresh h h' ty sz (l.map enc) a) : Vw (newH h h') a (sl enc l) :=
  (F.own.keep fun r o hr ho => by rw [newH_none (F.new r hr)]; exact ho).vw
def Vz (a b : AVal) : Prop := ∀ h, Vw h a b
theorem Vz.refl (a : AVal) : Vz a a := fun h => .refl a
theorem Vz.emp : Vz .emp (.slc []) := fun h => .emp
theorem F2.imp' {α : Type} {R S : α → α → Prop} (hi : ∀ a b, R a b → S a b) {l m : List α} (h : F2 R l m) : F2 S l m := by
  induction h with
  | nil => exact .nil
  | cons h _ ih => exact .cons (hi _ _ h) ih
theorem F2.app {α : Type} {R : α → α → Prop} {l m l2 m2 : List α} (h : F2 R l m) (h2 : F2 R l2 m2) : F2 R (l ++ l2) (m ++ m2) := by
  induction h with
  | nil => exact h2
  | cons h _ ih => exact .cons h ih
theorem OwnS.vwk {α : Type} [Inhabited α] {enc : α → List AVal} {h : Heap} {ty sz : Nat} [LenE enc sz] {l : List α} {cells : List (List AVal)} {a : AVal} (O : OwnS h ty sz cells a) (M : Mut a) (hc : F2 (F2 Vz) cells (l.map enc)) : Vw h a (sl enc l) := by
  rcases O.live M with ⟨h1, h2⟩ | ⟨r, es, ha, hr, h1, h2⟩
  · subst h1
    have : l = [] := by
      have := hc.len
      rw [List.length_map] at this
      exact List.eq_nil_of_length_eq_zero this.symm
    subst this; subst h2; exact .emp
  · subst ha
    refine Vw.osl0 hr hc.len.symm h1 (fun f hf => by obtain ⟨x, _, rfl⟩ := List.mem_map.1 hf; exact LenE.len x) ?_
    show F2 _ (es.take _) _
    rw [h2]
    exact F2.imp' (fun _ _ hb => F2.imp' (fun _ _ hw => hw h) hb) hc
theorem Fresh.vwk {α : Type} [Inhabited α] {enc : α → List AVal} {h h' : Heap} {ty sz : Nat} [LenE enc sz] {l : List α} {cells : List (List AVal)} {a : AVal} (F : Fresh h h' ty sz cells a) (hc : F2 (F2 Vz) cells (l.map enc)) : Vw (newH h h') a (sl enc l) :=
  OwnS.vwk (F.own.keep fun r o hr ho => by rw [newH_none (F.new r hr)]; exact ho) F.live hc
theorem wks_refl (l : List (List AVal)) : F2 (F2 Vz) l l := F2.refl (fun a => F2.refl (fun x => .refl x) a) l
/-- what Edited answers -/
def edR (d : HDoc) (e : HEdit) : AVal := .tup [.agg (eDoc (applyD d e)), aInt (applyN d e), aInt (applyE d e)]
def EdK (d : HDoc) (e : HEdit) (h : Heap) (a : AVal) (h' : Heap) : Prop := Sub h h' ∧ VwT (newH h h') a (edR d e)
def c26_s6 : SCode := (.seq (.seq (.reg [⟨(some 199), (.ld 2 true (.t 8)), none⟩, ⟨(some 200), (.call (.c (.fn 48 [] [])) [(.t 199)]), none⟩, ⟨(some 201), (.bin .neq (.t 200) (.c (.int .i64 (0)))), none⟩]) (.cond (.t 201) (.seq (.reg [⟨(some 202), (.bld [.emp, (.bool false)] []), none⟩, ⟨none, (.st 2 (.t 4) (.t 202)), none⟩, ⟨(some 5), (.mv (.c (.int .i64 (0)))), none⟩, ⟨(some 6), (.mv (.c (.int .i64 (2)))), none⟩]) .ret) .skip)) (.seq (.reg [⟨(some 203), (.ld 2 true (.t 8)), none⟩, ⟨(some 204), (.mv (.t 9)), none⟩, ⟨none, (.st 2 (.t 4) (.t 203)), none⟩, ⟨(some 5), (.mv (.t 204)), none⟩, ⟨(some 6), (.mv (.c (.int .i64 (0)))), none⟩]) .ret))
def c26_s5 : SCode := (.seq (.seq (.reg [⟨(some 26), (.fldA 0 (.t 3)), none⟩, ⟨(some 27), (.ld 1 false (.t 26)), none⟩, ⟨(some 28), (.bin .eql (.t 27) (.c (.int .i64 (4)))), none⟩]) (.cond (.t 28) (.seq (.reg [⟨(some 29), (.fldA 0 (.t 8)), none⟩, ⟨(some 30), (.ld 1 false (.t 29)), none⟩, ⟨(some 31), (.len (.t 30)), none⟩, ⟨(some 9), (.mv (.t 31)), none⟩]) (.dreg [(⟨(some 32), (.fldA 0 (.t 8)), none⟩, none), (⟨(some 33), (.ld 1 false (.t 32)), none⟩, none), (⟨(some 34), (.fldA 6 (.t 3)), none⟩, none), (⟨(some 35), (.fldA 0 (.t 34)), none⟩, none), (⟨(some 36), (.ld 1 false (.t 35)), none⟩, none), (⟨(some 37), (.fldA 6 (.t 3)), none⟩, none), (⟨(some 38), (.fldA 1 (.t 37)), none⟩, none), (⟨(some 39), (.ld 1 false (.t 38)), none⟩, none), (⟨(some 40), (.bldF 96 2 []), none⟩, none), (⟨(some 41), (.fldA 6 (.t 3)), none⟩, none), (⟨(some 42), (.fldA 2 (.t 41)), none⟩, none), (⟨(some 43), (.ld 1 false (.t 42)), none⟩, none), (⟨(some 45), (.fldA 6 (.t 3)), none⟩, none), (⟨(some 46), (.fldA 3 (.t 45)), none⟩, none), (⟨(some 47), (.ld 1 false (.t 46)), none⟩, none), (⟨(some 44), (.appF 96 2 32 (.t 40) (.t 43)), none⟩, (some [43])), (⟨(some 48), (.bld [(.int .i64 (0)), (.str []), .emp, (.str []), (.int .i64 (0)), .emp] [(0, (1, (.t 36))), (1, (1, (.t 39))), (2, (1, (.t 44))), (3, (1, (.t 47))), (4, (1, (.c (.int .i64 (-1)))))]), none⟩, none), (⟨(some 49), (.bldF 40 6 [(.t 48)]), none⟩, none), (⟨(some 50), (.app 40 6 96 (.t 33) (.t 49)), none⟩, (some [33, 36, 39, 47, 43])), (⟨(some 51), (.fldA 0 (.t 8)), none⟩, none), (⟨none, (.st 1 (.t 51) (.t 50)), none⟩, (some [33, 36, 39, 47, 43]))])) (.seq (.reg [⟨(some 52), (.fldA 0 (.t 8)), none⟩, ⟨(some 53), (.ld 1 false (.t 52)), none⟩, ⟨(some 54), (.fldA 1 (.t 3)), none⟩, ⟨(some 55), (.ld 1 false (.t 54)), none⟩, ⟨(some 56), (.idxA 6 (.t 53) (.t 55)), none⟩, ⟨(some 57), (.ld 6 true (.t 56)), none⟩, ⟨(some 10), (.new 40 6 [(.int .i64 (0)), (.str []), .emp, (.str []), (.int .i64 (0)), .emp]), none⟩, ⟨none, (.st 6 (.t 10) (.t 57)), none⟩]) (.seq (.reg [⟨(some 11), (.mv (.c .emp)), none⟩]) (.seq (.reg [⟨(some 12), (.mv (.c (.bool false))), none⟩]) (.seq (.seq (.reg [⟨(some 13), (.mv (.c (.int .i64 (0)))), none⟩]) (.block 0 (.loop (.seq (.seq (.reg [⟨(some 58), (.mv (.t 13)), none⟩, ⟨(some 59), (.fldA 2 (.t 10)), none⟩, ⟨(some 60), (.ld 1 false (.t 59)), none⟩, ⟨(some 61), (.len (.t 60)), none⟩, ⟨(some 62), (.bin .lss (.t 58) (.t 61)), none⟩]) (.cond (.t 62) .skip (.exit 0))) (.seq (.block 1 (.seq (.reg [⟨(some 65), (.fldA 2 (.t 10)), none⟩, ⟨(some 66), (.ld 1 false (.t 65)), none⟩, ⟨(some 67), (.mv (.t 13)), none⟩, ⟨(some 68), (.idxA 2 (.t 66) (.t 67)), none⟩, ⟨(some 69), (.ld 2 true (.t 68)), none⟩, ⟨(some 14), (.new 96 2 [(.str []), (.str [])]), none⟩, ⟨none, (.st 2 (.t 14) (.t 69)), none⟩]) (.seq (.seq (.reg [⟨(some 70), (.fldA 0 (.t 14)), none⟩, ⟨(some 71), (.ld 1 false (.t 70)), none⟩, ⟨(some 72), (.fldA 4 (.t 3)), none⟩, ⟨(some 73), (.ld 1 false (.t 72)), none⟩, ⟨(some 74), (.bin .eql (.t 71) (.t 73)), none⟩, ⟨(some 75), (.mv (.t 74)), none⟩, ⟨(some 76), (.fldA 0 (.t 3)), (some (75, true))⟩, ⟨(some 77), (.ld 1 false (.t 76)), (some (75, true))⟩, ⟨(some 78), (.bin .eql (.t 77) (.c (.int .i64 (1)))), (some (75, true))⟩, ⟨(some 79), (.pick (.t 75) (.t 78) (.c (.bool false))), none⟩]) (.cond (.t 79) (.seq (.reg [⟨(some 80), (.fldA 5 (.t 3)), none⟩, ⟨(some 81), (.ld 1 false (.t 80)), none⟩, ⟨(some 82), (.fldA 1 (.t 14)), none⟩, ⟨none, (.st 1 (.t 82) (.t 81)), none⟩]) (.reg [⟨(some 12), (.mv (.c (.bool true))), none⟩])) .skip)) (.seq (.reg [⟨(some 83), (.fldA 0 (.t 14)), none⟩, ⟨(some 84), (.ld 1 false (.t 83)), none⟩, ⟨(some 85), (.fldA 4 (.t 3)), none⟩, ⟨(some 86), (.ld 1 false (.t 85)), none⟩, ⟨(some 87), (.bin .neq (.t 84) (.t 86)), none⟩, ⟨(some 88), (.mv (.t 87)), none⟩, ⟨(some 89), (.fldA 0 (.t 3)), (some (88, false))⟩, ⟨(some 90), (.ld 1 false (.t 89)), (some (88, false))⟩, ⟨(some 91), (.bin .neq (.t 90) (.c (.int .i64 (2)))), (some (88, false))⟩, ⟨(some 92), (.pick (.t 88) (.c (.bool true)) (.t 91)), none⟩]) (.cond (.t 92) (.reg [⟨(some 93), (.mv (.t 11)), none⟩, ⟨(some 94), (.ld 2 true (.t 14)), none⟩, ⟨(some 95), (.bldF 96 2 [(.t 94)]), none⟩, ⟨(some 96), (.app 96 2 32 (.t 93) (.t 95)), none⟩, ⟨(some 11), (.mv (.t 96)), none⟩]) .skip))))) (.reg [⟨(some 63), (.mv (.t 13)), none⟩, ⟨(some 64), (.bin .add (.t 63) (.c (.int .i64 (1)))), none⟩, ⟨(some 13), (.mv (.t 64)), none⟩])))))) (.seq (.seq (.reg [⟨(some 97), (.fldA 0 (.t 3)), none⟩, ⟨(some 98), (.ld 1 false (.t 97)), none⟩, ⟨(some 99), (.bin .eql (.t 98) (.c (.int .i64 (1)))), none⟩, ⟨(some 100), (.mv (.t 99)), none⟩, ⟨(some 101), (.mv (.t 12)), (some (100, true))⟩, ⟨(some 102), (.un .not (.t 101)), (some (100, true))⟩, ⟨(some 103), (.pick (.t 100) (.t 102) (.c (.bool false))), none⟩]) (.cond (.t 103) (.reg [⟨(some 104), (.mv (.t 11)), none⟩, ⟨(some 105), (.fldA 4 (.t 3)), none⟩, ⟨(some 106), (.ld 1 false (.t 105)), none⟩, ⟨(some 107), (.fldA 5 (.t 3)), none⟩, ⟨(some 108), (.ld 1 false (.t 107)), none⟩, ⟨(some 109), (.bld [(.str []), (.str [])] [(0, (1, (.t 106))), (1, (1, (.t 108)))]), none⟩, ⟨(some 110), (.bldF 96 2 [(.t 109)]), none⟩, ⟨(some 111), (.app 96 2 32 (.t 104) (.t 110)), none⟩, ⟨(some 11), (.mv (.t 111)), none⟩]) .skip)) (.seq (.seq (.reg [⟨(some 112), (.fldA 0 (.t 3)), none⟩, ⟨(some 113), (.ld 1 false (.t 112)), none⟩, ⟨(some 114), (.bin .eql (.t 113) (.c (.int .i64 (1)))), none⟩, ⟨(some 115), (.mv (.t 114)), none⟩, ⟨(some 116), (.fldA 0 (.t 3)), (some (115, false))⟩, ⟨(some 117), (.ld 1 false (.t 116)), (some (115, false))⟩, ⟨(some 118), (.bin .eql (.t 117) (.c (.int .i64 (2)))), (some (115, false))⟩, ⟨(some 119), (.pick (.t 115) (.c (.bool true)) (.t 118)), none⟩]) (.cond (.t 119) (.reg [⟨(some 120), (.frz (.t 11)), none⟩, ⟨(some 121), (.fldA 2 (.t 10)), none⟩, ⟨none, (.st 1 (.t 121) (.t 120)), none⟩]) .skip)) (.seq (.seq (.reg [⟨(some 122), (.fldA 0 (.t 3)), none⟩, ⟨(some 123), (.ld 1 false (.t 122)), none⟩, ⟨(some 124), (.bin .eql (.t 123) (.c (.int .i64 (3)))), none⟩]) (.cond (.t 124) (.reg [⟨(some 125), (.fldA 5 (.t 3)), none⟩, ⟨(some 126), (.ld 1 false (.t 125)), none⟩, ⟨(some 127), (.fldA 3 (.t 10)), none⟩, ⟨none, (.st 1 (.t 127) (.t 126)), none⟩]) .skip)) (.seq (.seq (.reg [⟨(some 128), (.fldA 0 (.t 3)), none⟩, ⟨(some 129), (.ld 1 false (.t 128)), none⟩, ⟨(some 130), (.bin .eql (.t 129) (.c (.int .i64 (5)))), none⟩]) (.cond (.t 130) (.seq (.reg [⟨(some 131), (.fldA 5 (.t 10)), none⟩, ⟨(some 132), (.ld 1 false (.t 131)), none⟩, ⟨(some 133), (.len (.t 132)), none⟩, ⟨(some 15), (.mv (.t 133)), none⟩]) (.seq (.seq (.reg [⟨(some 134), (.fldA 3 (.t 3)), none⟩, ⟨(some 135), (.ld 1 false (.t 134)), none⟩, ⟨(some 136), (.bin .neq (.t 135) (.c (.int .i64 (-1)))), none⟩]) (.cond (.t 136) (.reg [⟨(some 137), (.fldA 5 (.t 10)), none⟩, ⟨(some 138), (.ld 1 false (.t 137)), none⟩, ⟨(some 139), (.fldA 3 (.t 3)), none⟩, ⟨(some 140), (.ld 1 false (.t 139)), none⟩, ⟨(some 141), (.pcall 60 [(.t 138), (.t 140)]), none⟩, ⟨(some 15), (.mv (.t 141)), none⟩]) .skip)) (.seq (.dreg [(⟨(some 142), (.bldF 3 1 []), none⟩, none), (⟨(some 143), (.fldA 5 (.t 10)), none⟩, none), (⟨(some 144), (.ld 1 false (.t 143)), none⟩, none), (⟨(some 145), (.mv (.t 15)), none⟩, none), (⟨(some 146), (.slA 1 (.t 144) none (some (.t 145))), none⟩, none), (⟨(some 148), (.fldA 2 (.t 3)), none⟩, none), (⟨(some 149), (.ld 1 false (.t 148)), none⟩, none), (⟨(some 150), (.bldF 3 1 [(.t 149)]), none⟩, none), (⟨(some 152), (.fldA 5 (.t 10)), none⟩, none), (⟨(some 153), (.ld 1 false (.t 152)), none⟩, none), (⟨(some 154), (.mv (.t 15)), none⟩, none), (⟨(some 155), (.slA 1 (.t 153) (some (.t 154)) none), none⟩, none), (⟨(some 147), (.app 3 1 8 (.t 142) (.t 146)), none⟩, (some [144])), (⟨(some 151), (.app 3 1 8 (.t 147) (.t 150)), none⟩, (some [149, 144])), (⟨(some 156), (.appF 3 1 8 (.t 151) (.t 155)), none⟩, (some [153, 149, 144])), (⟨(some 157), (.fldA 5 (.t 10)), none⟩, none), (⟨none, (.st 1 (.t 157) (.t 156)), none⟩, (some [153, 149, 144]))]) (.reg [⟨(some 158), (.fldA 0 (.t 8)), none⟩, ⟨(some 159), (.ld 1 false (.t 158)), none⟩, ⟨(some 160), (.fldA 2 (.t 3)), none⟩, ⟨(some 161), (.ld 1 false (.t 160)), none⟩, ⟨(some 162), (.fldA 1 (.t 3)), none⟩, ⟨(some 163), (.ld 1 false (.t 162)), none⟩, ⟨(some 164), (.idxA 6 (.t 159) (.t 161)), none⟩, ⟨(some 165), (.fldA 4 (.t 164)), none⟩, ⟨none, (.st 1 (.t 165) (.t 163)), none⟩])))) .skip)) (.seq (.seq (.reg [⟨(some 166), (.fldA 0 (.t 3)), none⟩, ⟨(some 167), (.ld 1 false (.t 166)), none⟩, ⟨(some 168), (.bin .eql (.t 167) (.c (.int .i64 (6)))), none⟩]) (.cond (.t 168) (.seq (.reg [⟨(some 169), (.fldA 4 (.t 10)), none⟩, ⟨(some 170), (.ld 1 false (.t 169)), none⟩, ⟨(some 16), (.mv (.t 170)), none⟩]) (.seq (.dreg [(⟨(some 171), (.fldA 0 (.t 8)), none⟩, none), (⟨(some 172), (.ld 1 false (.t 171)), none⟩, none), (⟨(some 173), (.mv (.t 16)), none⟩, none), (⟨(some 174), (.fldA 0 (.t 8)), none⟩, none), (⟨(some 175), (.ld 1 false (.t 174)), none⟩, none), (⟨(some 176), (.mv (.t 16)), none⟩, none), (⟨(some 177), (.idxA 6 (.t 175) (.t 176)), none⟩, none), (⟨(some 178), (.fldA 5 (.t 177)), none⟩, none), (⟨(some 179), (.ld 1 false (.t 178)), none⟩, none), (⟨(some 180), (.fldA 0 (.t 8)), none⟩, none), (⟨(some 181), (.ld 1 false (.t 180)), none⟩, none), (⟨(some 182), (.mv (.t 16)), none⟩, none), (⟨(some 183), (.idxA 6 (.t 181) (.t 182)), none⟩, none), (⟨(some 184), (.fldA 5 (.t 183)), none⟩, none), (⟨(some 185), (.ld 1 false (.t 184)), none⟩, none), (⟨(some 186), (.fldA 1 (.t 3)), none⟩, none), (⟨(some 187), (.ld 1 false (.t 186)), none⟩, none), (⟨(some 188), (.pcall 60 [(.t 185), (.t 187)]), none⟩, none), (⟨(some 189), (.pcall 61 [(.t 179), (.t 188)]), none⟩, none), (⟨(some 190), (.idxA 6 (.t 172) (.t 173)), none⟩, none), (⟨(some 191), (.fldA 5 (.t 190)), none⟩, none), (⟨none, (.st 1 (.t 191) (.t 189)), none⟩, (some [172, 179, 175, 185, 187, 181]))]) (.reg [⟨(some 192), (.fldA 4 (.t 10)), none⟩, ⟨none, (.st 1 (.t 192) (.c (.int .i64 (-1)))), none⟩]))) .skip)) (.reg [⟨(some 193), (.fldA 0 (.t 8)), none⟩, ⟨(some 194), (.ld 1 false (.t 193)), none⟩, ⟨(some 195), (.fldA 1 (.t 3)), none⟩, ⟨(some 196), (.ld 1 false (.t 195)), none⟩, ⟨(some 197), (.ld 6 true (.t 10)), none⟩, ⟨(some 198), (.idxA 6 (.t 194) (.t 196)), none⟩, ⟨none, (.st 6 (.t 198) (.t 197)), none⟩])))))))))))) c26_s6)
def c26 : SFun := ⟨(.seq (.reg [⟨(some 2), (.boxF 24 2 (.t 0)), none⟩, ⟨(some 3), (.boxF 42 12 (.t 1)), none⟩, ⟨(some 4), (.new 24 2 [.emp, (.bool false)]), none⟩, ⟨(some 5), (.mv (.c (.int .i64 (0)))), none⟩, ⟨(some 6), (.mv (.c (.int .i64 (0)))), none⟩]) (.seq (.reg [⟨(some 17), (.ld 2 true (.t 2)), none⟩, ⟨(some 18), (.ld 12 true (.t 3)), none⟩, ⟨(some 19), (.pcall 58 [(.t 17), (.t 18)]), none⟩, ⟨(some 7), (.mv (.t 19)), none⟩]) (.seq (.seq (.reg [⟨(some 20), (.mv (.t 7)), none⟩, ⟨(some 21), (.bin .neq (.t 20) (.c (.int .i64 (0)))), none⟩]) (.cond (.t 21) (.seq (.reg [⟨(some 22), (.bld [.emp, (.bool false)] []), none⟩, ⟨(some 23), (.mv (.t 7)), none⟩, ⟨none, (.st 2 (.t 4) (.t 22)), none⟩, ⟨(some 5), (.mv (.c (.int .i64 (0)))), none⟩, ⟨(some 6), (.mv (.t 23)), none⟩]) .ret) .skip)) (.seq (.reg [⟨(some 24), (.ld 2 true (.t 2)), none⟩, ⟨(some 25), (.call (.c (.fn 59 [] [])) [(.t 24)]), none⟩, ⟨(some 8), (.new 24 2 [.emp, (.bool false)]), none⟩, ⟨none, (.st 2 (.t 8) (.t 25)), none⟩]) (.seq (.reg [⟨(some 9), (.mv (.c (.int .i64 (0)))), none⟩]) c26_s5))))), [(.cell 4 2 true), (.tmp 5), (.tmp 6)]⟩
theorem hc26 : toSF Tryz.prog {pure := [58, 60, 61], how := [(44, 8), (120, 8), (156, 8)]} Tryz.f26 = some c26 := by kernel_rfl
theorem hn26 : (Tryz.f26.name == "runtime.NumGoroutine") = false := by kernel_rfl
theorem edited_end {d : HDoc} (V : DV d) (sm : DocSm d) {e : HEdit} (he : EditSm e) (h0 : errR d e = 0) {h h2 : Heap} {b : AVal} {cells : List (List AVal)} {E : Env} {r4 r8 : Nat}
    (S : Sub h h2) (F : Fresh h h2 40 6 cells b) (hc : F2 (F2 Vz) cells ((editD d e).nodes.map eNode)) (h4 : h r4 = none) (g4 : h2 r4 = some ⟨.t 24, 2, [[.emp, .bool false]]⟩) (g8 : h2 r8 = some ⟨.t 24, 2, [[b, .bool d.quirks]]⟩) (n4 : rootOf b ≠ some r4)
    (e4 : E 4 = .vp r4 0) (e8 : E 8 = .vp r8 0) (e9 : E 9 = aInt (editN d e)) :
    vc (Pg G) c26_s6 (retK [.cell 4 2 true, .tmp 5, .tmp 6] (EdK d e h)) E h2 := by
  have sE := edit_sm V sm he h0
  have hD := docErr_ok (G := G) (editD d e) sE
  have hq : (editD d e).quirks = d.quirks := by unfold editD; (repeat' split) <;> rfl
  obtain ⟨a1, a2⟩ := apply_by V h0
  have hB := DCalls.bor hD (h := h2) (args := [.agg [b, .bool d.quirks]]) (.int _ _) (.cons (Vw.agg' (.cons (F.own.vwk F.live hc) (.cons (by rw [hq]; exact .refl _) .nil))) .nil)
  unfold c26_s6
  skip
  simp -dsimp -implicitDefEqProofs (disch := omega) only [VCA, Nat.reduceEqDiff, Nat.reduceAdd, Nat.reduceLT, ↓reduceIte, exists_eq_left', e8, g8]
  refine DCalls.of hB ?_
  rintro _ h3 ⟨rfl, rfl⟩
  simp -dsimp -implicitDefEqProofs (disch := omega) only [VCA, ↓reduceIte]
  refine Br.ne (fun h1 => ?_) (fun h1 => ?_)
  · have aE := a1 h1
    have aD : applyD d e = noDoc := by unfold applyD; rw [aE]; rfl
    have aN : applyN d e = 0 := by unfold applyN; rw [aE]; rfl
    simp -dsimp -implicitDefEqProofs (disch := omega) only [VCA, Nat.reduceEqDiff, Nat.reduceAdd, Nat.reduceLT, ↓reduceIte, fillA, okFill, setAt, exists_eq_left', e4, g4]
    refine ⟨_, Sub.refl _, S.upd h4, ?_⟩
    unfold edR
    rw [aD, aN, aE]
    exact .tup' (.cons (vw_noDoc _) (.cons (.refl _) (.cons (.refl _) .nil)))
  · have aE := a2 h1
    have aD : applyD d e = editD d e := by unfold applyD; rw [if_pos aE]
    have aN : applyN d e = editN d e := by unfold applyN; rw [if_pos aE]
    simp -dsimp -implicitDefEqProofs (disch := omega) only [VCA, Nat.reduceEqDiff, Nat.reduceAdd, Nat.reduceLT, ↓reduceIte, setAt, exists_eq_left', e4, e8, e9, g4, g8]
    refine ⟨_, Sub.refl _, S.upd h4, ?_⟩
    unfold edR
    rw [aD, aN, aE]
    have F2 := F.keep (h2 := upd h3 r4 (some ⟨.t 24, 2, [[b, .bool d.quirks]]⟩)) fun r o hr ho => by rw [upd_ne _ _ (fun e => n4 (by rw [hr, e]))]; exact ho
    exact .tup' (.cons (Vw.agg' (.cons (F2.vwk hc) (.cons (by rw [hq]; exact .refl _) .nil))) (.cons (.refl _) (.cons (.refl _) .nil)))
/-- .. of a new node -/
theorem edited_make {d : HDoc} (V : DV d) (sm : DocSm d) {e : HEdit} (he : EditSm e) (h0 : errR d e = 0) (c4 : e.do' = 4) {h h2 : Heap} {b : AVal} {E : Env} {r4 r8 : Nat}
    (S : Sub h h2) (F : Fresh h h2 40 6 (d.nodes.map eNode) b) (h4 : h r4 = none) (h8 : h r8 = none) (g4 : h2 r4 = some ⟨.t 24, 2, [[.emp, .bool false]]⟩) (g8 : h2 r8 = some ⟨.t 24, 2, [[b, .bool d.quirks]]⟩) (n4 : rootOf b ≠ some r4) (n8 : rootOf b ≠ some r8) (n48 : r4 ≠ r8)
    (e3 : E 3 = .pin (eEdit e)) (e4 : E 4 = .vp r4 0) (e8 : E 8 = .vp r8 0) :
    vc (Pg G) c26_s5 (retK [.cell 4 2 true, .tmp 5, .tmp 6] (EdK d e h)) E h2 := by
  have hl := F.own.len
  have vl := V.len
  have sa := he.node.attrs
  unfold c26_s5
  skip
  have hl1 := hl.1
  have hl2 := hl.2
  rw [List.length_map] at hl1
  simp -dsimp -implicitDefEqProofs (disch := omega) only [VCA, Nat.reduceAdd, Nat.reduceLeDiff, ↓reduceIte, e3, eEdit, c4]
  refine Br.eq (fun _ => ?_) (fun h1 => absurd rfl h1)
  simp -dsimp -implicitDefEqProofs (disch := omega) only [VCA, Nat.reduceEqDiff, Nat.reduceBEq, Nat.reduceAdd, Nat.reduceLT, Nat.reduceLeDiff, ↓reduceIte, rsOf, rootsOf, SOp.rd, SI.rd, SX.rd, okParts, fillA, okFill, forall_eq, exists_eq_left, exists_eq_left', rootL, e3, e8, g8, eEdit, c4, hl1, hl2]
  refine ⟨by omega, by omega, ?_⟩
  refine F.own.app F.live (by rw [List.length_map, List.length_singleton]; omega) (by rw [List.length_map, List.length_singleton]; omega) fun r' h3 q1 q2 q3 => ?_
  have k8 := q3 _ _ g8 n8
  have k4 := q3 _ _ g4 n4
  simp -dsimp -implicitDefEqProofs (disch := omega) only [VCA, Nat.reduceEqDiff, Nat.reduceBEq, Nat.reduceAdd, Nat.reduceLT, Nat.reduceLeDiff, ↓reduceIte, rsOf, rootsOf, SOp.rd, SI.rd, SX.rd, setAt, exists_eq_left', rootL, e8, k8]
  have hr' : h r' = none := by
    rcases q2 with e | e
    · exact F.new _ e
    · exact S.none e
  have m4 : r' ≠ r4 := fun e => by
    rcases q2 with e' | e'
    · exact n4 (by rw [e', e])
    · rw [e, g4] at e'; cases e'
  have m8 : r' ≠ r8 := fun e => by
    rcases q2 with e' | e'
    · exact n8 (by rw [e', e])
    · rw [e, g8] at e'; cases e'
  have eD : editD d e = addN d (madeM e.node) := by unfold editD; rw [if_neg (by omega), if_neg (by omega), if_neg (by omega), if_pos c4]
  have eN : editN d e = d.nodes.length := by unfold editN; rw [if_pos c4]
  refine edited_end V sm he h0 (cells := d.nodes.map eNode ++ [[.int .i64 e.node.kind, .str e.node.name, .slc (e.node.attrs.map eAttr), .str e.node.text, .int .i64 (-1), .emp]]) (b := .osl r' 6 0 (d.nodes.length + 1)) (r4 := r4) (r8 := r8) (Sub.upd (fun t o ht => ?_) h8) ⟨.inr ⟨r', hr', (upd_ne _ _ m8).trans q1, ?_⟩⟩ ?_ h4 (by rw [upd_ne _ _ n48]; exact k4) (upd_same _ _ _) (fun e => m4 (by cases e; rfl)) e4 e8 ?_
  · refine q3 t o (S _ _ ht) (fun e => ?_)
    rw [F.new t e] at ht; cases ht
  · rw [List.length_append, List.length_map]; rfl
  · rw [eD]
    show F2 (F2 Vz) _ ((d.nodes ++ [madeM e.node]).map eNode)
    rw [List.map_append]
    exact F2.app (wks_refl _) (.cons (.cons (.refl _) (.cons (.refl _) (.cons (.refl _) (.cons (.refl _) (.cons (.refl _) (.cons .emp .nil)))))) .nil)
  · rw [eN]; rfl
end Go.Proofs.K
end
section
/- Edits: the reference's Edited: what is done to a node. -/
set_option linter.unusedSimpArgs false
set_option linter.unusedVariables false
namespace Go.Proofs.K
open Go Go.Sim Go.Proofs
variable {G : Glob}
theorem wks_eq {l m : List (List AVal)} (h : l = m) : F2 (F2 Vz) l m := h ▸ wks_refl l
theorem errR_at {d : HDoc} {e : HEdit} (h0 : errR d e = 0) (h4 : e.do' ≠ 4) : 1 ≤ e.do' ∧ e.do' ≤ 6 ∧ inD d e.at' ∧ (e.do' = 5 → inD d e.to) := by
  have h16 : 1 ≤ e.do' ∧ e.do' ≤ 6 := by
    apply Classical.byContradiction; intro h
    unfold errR at h0; rw [if_pos h] at h0; omega
  refine ⟨h16.1, h16.2, ?_, fun h5 => ?_⟩
  · apply Classical.byContradiction; intro h
    rw [errR_in h16.1 h16.2 h4 (.inl h)] at h0; omega
  · apply Classical.byContradiction; intro h
    rw [errR_in h16.1 h16.2 h4 (.inr ⟨h5, h⟩)] at h0; omega
/-- what becomes of an attribute -/
def stepA (e : HEdit) (a : HAttr) : List HAttr := if a.name ≠ e.name ∨ e.do' ≠ 2 then [if a.name = e.name ∧ e.do' = 1 then ⟨a.name, e.value⟩ else a] else []
def setA (e : HEdit) (l : List HAttr) : Bool := decide (e.do' = 1) && l.any fun a => a.name == e.name
theorem stepA_len (e : HEdit) (l : List HAttr) : (l.flatMap (stepA e)).length ≤ l.length := by
  induction l with
  | nil => simp
  | cons a l ih =>
    rw [List.flatMap_cons, List.length_append, List.length_cons]
    have : (stepA e a).length ≤ 1 := by unfold stepA; split <;> simp
    omega
theorem errR_5z {d : HDoc} {e : HEdit} (h : e.do' = 5) (ha : inD d e.at') (ht : inD d e.to) (h0 : errR d e = 0) : e.to ∉ chain d e.at' ∧ ¬ (e.before ≠ -1 ∧ idxM (· == e.before) (nd d e.at').kids < 0) := by
  rw [errR_5 h ha ht] at h0
  split at h0
  · omega
  split at h0
  · omega
  split at h0
  · omega
  rename_i h3
  split at h0
  · omega
  rename_i h4
  exact ⟨by simpa using h4, h3⟩
theorem edited_else {d : HDoc} (V : DV d) (sm : DocSm d) {e : HEdit} (he : EditSm e) (h0 : errR d e = 0) (c4 : e.do' ≠ 4) {h h2 : Heap} {b : AVal} {E : Env} {r4 r8 : Nat}
    (S : Sub h h2) (F : Fresh h h2 40 6 (d.nodes.map eNode) b) (h4 : h r4 = none) (h8 : h r8 = none) (g4 : h2 r4 = some ⟨.t 24, 2, [[.emp, .bool false]]⟩) (g8 : h2 r8 = some ⟨.t 24, 2, [[b, .bool d.quirks]]⟩) (n4 : rootOf b ≠ some r4) (n8 : rootOf b ≠ some r8) (n48 : r4 ≠ r8)
    (e3 : E 3 = .pin (eEdit e)) (e4 : E 4 = .vp r4 0) (e8 : E 8 = .vp r8 0) (e9 : E 9 = aInt 0) :
    vc (Pg G) c26_s5 (retK [.cell 4 2 true, .tmp 5, .tmp 6] (EdK d e h)) E h2 := by
  have vl := V.len
  obtain ⟨d1, d6, ha, hto⟩ := errR_at h0 c4
  have a0 := ha.1
  have a1 := ha.2
  have ea : nth d.nodes e.at'.toNat = nd d e.at' := rfl
  obtain ⟨rN, hN0, gN, rfl⟩ := F.acc.pos (by rw [List.length_map]; exact V.pos)
  rw [List.length_map] at *
  have nN4 : rN ≠ r4 := fun e => n4 (by rw [e]; rfl)
  have nN8 : rN ≠ r8 := fun e => n8 (by rw [e]; rfl)
  unfold c26_s5
  skip
  simp -dsimp -implicitDefEqProofs (disch := omega) only [VCA, Nat.reduceAdd, Nat.reduceLeDiff, ↓reduceIte, e3, eEdit]
  refine Br.eq (fun h1 => absurd h1 c4) (fun _ => ?_)
  simp -dsimp -implicitDefEqProofs (disch := omega) only [VCA, Nat.reduceEqDiff, Nat.reduceAdd, Nat.reduceLT, Nat.reduceLeDiff, ↓reduceIte, setAt, exists_eq_left', e3, e8, g8, gN, eEdit, eNode, ea]
  refine ⟨by omega, by omega, fun r10 hr10 => ?_⟩
  have n10 : ∀ t o, h2 t = some o → ¬ t = r10 := fun t o ht e => by rw [e, hr10] at ht; cases ht
  have n410 := n10 _ _ g4
  have n810 := n10 _ _ g8
  have nN10 := n10 _ _ gN
  have al := ((attrsE_iff _).1 ((nodeE_iff _).1 (V.node _ ha)).2.2.2.1).1
  have anod := ((attrsE_iff _).1 ((nodeE_iff _).1 (V.node _ ha)).2.2.2.1).2.2
  have Sb : Sub h2 (upd h2 r10 (some ⟨.t 40, 6, [eNode (nd d e.at')]⟩)) := (Sub.refl h2).upd hr10
  have gb := upd_same h2 r10 (some ⟨.t 40, 6, [eNode (nd d e.at')]⟩)
  show LoopVC _ _ _ (upd h2 r10 (some ⟨.t 40, 6, [eNode (nd d e.at')]⟩))
  generalize upd h2 r10 (some ⟨.t 40, 6, [eNode (nd d e.at')]⟩) = hb at *
  refine LoopVC.intro (fun m E h' => ∃ k : Nat, k ≤ (nd d e.at').attrs.length ∧ m = (nd d e.at').attrs.length - k ∧ E 3 = .pin (eEdit e) ∧ E 4 = .vp r4 0 ∧ E 8 = .vp r8 0 ∧ E 9 = aInt 0 ∧ E 10 = .vp r10 0 ∧ E 12 = .bool (setA e ((nd d e.at').attrs.take k)) ∧ E 13 = aInt k ∧
    Acc hb 96 2 ((((nd d e.at').attrs.take k).flatMap (stepA e)).map eAttr) (E 11) h' ∧ Sub hb h') (nd d e.at').attrs.length
    ⟨0, by omega, by omega, e3, e4, e8, e9, rfl, by (show AVal.bool false = _); simp [setA], rfl, .inl ⟨rfl, rfl⟩, Sub.refl _⟩ ?_
  clear e3 e4 e8 e9
  rintro m E h' ⟨k, hk, rfl, e3, e4, e8, e9, e10, e12, e13, A, S'⟩
  have g10 := S' _ _ gb
  unfold eNode at g10
  simp -dsimp -implicitDefEqProofs (disch := omega) only [VCA, Nat.reduceEqDiff, Nat.reduceAdd, Nat.reduceLT, Nat.reduceLeDiff, ↓reduceIte, exists_eq_left', e10, e13, g10, eEdit]
  refine Br.dec (fun hlt => ?_) (fun hge => ?_)
  · have hk' : k < (nd d e.at').attrs.length := by omega
    have tk : ((nd d e.at').attrs.take (k + 1)).flatMap (stepA e) = ((nd d e.at').attrs.take k).flatMap (stepA e) ++ stepA e (nth (nd d e.at').attrs k) := by rw [take_snoc hk', List.flatMap_append]; simp
    have ts : setA e ((nd d e.at').attrs.take (k + 1)) = (setA e ((nd d e.at').attrs.take k) || (decide (e.do' = 1) && ((nth (nd d e.at').attrs k).name == e.name))) := by unfold setA; rw [take_snoc hk', List.any_append]; cases decide (e.do' = 1) <;> simp
    have tl := stepA_len e ((nd d e.at').attrs.take k)
    rw [List.length_take] at tl
    have tm : ((((nd d e.at').attrs.take k).flatMap (stepA e)).map eAttr).length ≤ 12 := by rw [List.length_map]; omega
    obtain ⟨x, hx⟩ : ∃ x, nth (nd d e.at').attrs k = x := ⟨_, rfl⟩
    rw [hx] at tk ts
    have A14 : ∀ r y, h' r = none → Acc hb 96 2 ((((nd d e.at').attrs.take k).flatMap (stepA e)).map eAttr) (E 11) (upd h' r (some y)) := fun r y hr => by
      rcases A with q | ⟨r', q0, q1, q2⟩
      · exact .inl q
      · exact .inr ⟨r', q0, by rw [upd_ne _ _ (fun e => by rw [e, hr] at q1; cases q1)]; exact q1, q2⟩
    obtain ⟨sx, tk0⟩ : ∃ sx, stepA e x = sx := ⟨_, rfl⟩
    rw [tk0] at tk
    have nx : (x.name == e.name) = true ↔ x.name = e.name := by simp
    cases bn : (x.name == e.name)
    · by_cases c1 : e.do' = 1
      · have b1 : (e.do' == 1) = true := by simp; omega
        have b2 : (e.do' == 2) = false := by simp; omega
        have b2' : (e.do' != 2) = true := by simp; omega
        have bn' : (x.name != e.name) = true := by simp [bne, bn]
        simp -dsimp -implicitDefEqProofs (disch := omega) only [VCA, Nat.reduceEqDiff, Nat.reduceAdd, Nat.reduceLT, Nat.reduceLeDiff, ↓reduceIte, okParts, setAt, forall_eq, exists_eq_left, exists_eq_left', e3, e10, e13, g10, eEdit, eAttr, hx, bn, bn']
        refine ⟨by omega, fun r14 hr14 => ?_⟩
        refine (A14 _ _ hr14).app (S'.upd (S'.none hr14)) (by rw [List.length_singleton]; omega) (by rw [List.length_singleton]; omega) (fun a' h3 A' S3 => ?_)
        rw [show stepA e x = [x] from by unfold stepA; rw [if_pos (.inl (fun h => by rw [nx.2 h] at bn; cases bn)), if_neg (fun h => by rw [nx.2 h.1] at bn; cases bn)]] at tk0
        simp -dsimp -implicitDefEqProofs (disch := omega) only [VCA, Nat.reduceEqDiff, ↓reduceIte, e3, e4, e8, e9, e10, e12, e13, eEdit]
        refine ⟨_, by omega, k + 1, by omega, rfl, by rw [ts, bn]; simp, by omega, ?_, S3⟩
        rw [tk, ← tk0, List.map_append]
        exact A'
      · by_cases c2 : e.do' = 2
        · have b1 : (e.do' == 1) = false := by simp; omega
          have b2 : (e.do' == 2) = true := by simp; omega
          have b2' : (e.do' != 2) = false := by simp; omega
          have bn' : (x.name != e.name) = true := by simp [bne, bn]
          simp -dsimp -implicitDefEqProofs (disch := omega) only [VCA, Nat.reduceEqDiff, Nat.reduceAdd, Nat.reduceLT, Nat.reduceLeDiff, ↓reduceIte, okParts, setAt, forall_eq, exists_eq_left, exists_eq_left', e3, e10, e13, g10, eEdit, eAttr, hx, bn, bn']
          refine ⟨by omega, fun r14 hr14 => ?_⟩
          refine (A14 _ _ hr14).app (S'.upd (S'.none hr14)) (by rw [List.length_singleton]; omega) (by rw [List.length_singleton]; omega) (fun a' h3 A' S3 => ?_)
          rw [show stepA e x = [x] from by unfold stepA; rw [if_pos (.inl (fun h => by rw [nx.2 h] at bn; cases bn)), if_neg (fun h => by rw [nx.2 h.1] at bn; cases bn)]] at tk0
          simp -dsimp -implicitDefEqProofs (disch := omega) only [VCA, Nat.reduceEqDiff, ↓reduceIte, e3, e4, e8, e9, e10, e12, e13, eEdit]
          refine ⟨_, by omega, k + 1, by omega, rfl, by rw [ts, bn]; simp, by omega, ?_, S3⟩
          rw [tk, ← tk0, List.map_append]
          exact A'
        · have b1 : (e.do' == 1) = false := by simp; omega
          have b2 : (e.do' == 2) = false := by simp; omega
          have b2' : (e.do' != 2) = true := by simp; omega
          have bn' : (x.name != e.name) = true := by simp [bne, bn]
          simp -dsimp -implicitDefEqProofs (disch := omega) only [VCA, Nat.reduceEqDiff, Nat.reduceAdd, Nat.reduceLT, Nat.reduceLeDiff, ↓reduceIte, okParts, setAt, forall_eq, exists_eq_left, exists_eq_left', e3, e10, e13, g10, eEdit, eAttr, hx, bn, bn']
          refine ⟨by omega, fun r14 hr14 => ?_⟩
          refine (A14 _ _ hr14).app (S'.upd (S'.none hr14)) (by rw [List.length_singleton]; omega) (by rw [List.length_singleton]; omega) (fun a' h3 A' S3 => ?_)
          rw [show stepA e x = [x] from by unfold stepA; rw [if_pos (.inr c2), if_neg (fun h => c1 h.2)]] at tk0
          simp -dsimp -implicitDefEqProofs (disch := omega) only [VCA, Nat.reduceEqDiff, ↓reduceIte, e3, e4, e8, e9, e10, e12, e13, eEdit]
          refine ⟨_, by omega, k + 1, by omega, rfl, by rw [ts, bn]; simp, by omega, ?_, S3⟩
          rw [tk, ← tk0, List.map_append]
          exact A'
    · by_cases c1 : e.do' = 1
      · have b1 : (e.do' == 1) = true := by simp; omega
        have b2 : (e.do' == 2) = false := by simp; omega
        have b2' : (e.do' != 2) = true := by simp; omega
        have bn' : (x.name != e.name) = false := by simp [bne, bn]
        simp -dsimp -implicitDefEqProofs (disch := omega) only [VCA, Nat.reduceEqDiff, Nat.reduceAdd, Nat.reduceLT, Nat.reduceLeDiff, ↓reduceIte, okParts, setAt, forall_eq, exists_eq_left, exists_eq_left', e3, e10, e13, g10, eEdit, eAttr, hx, bn, bn', b1, b2']
        refine ⟨by omega, fun r14 hr14 => ?_⟩
        refine (A14 _ _ hr14).app (S'.upd (S'.none hr14)) (by rw [List.length_singleton]; omega) (by rw [List.length_singleton]; omega) (fun a' h3 A' S3 => ?_)
        rw [show stepA e x = [⟨x.name, e.value⟩] from by unfold stepA; rw [if_pos (.inr (by omega)), if_pos ⟨nx.1 bn, c1⟩]] at tk0
        simp -dsimp -implicitDefEqProofs (disch := omega) only [VCA, Nat.reduceEqDiff, ↓reduceIte, e3, e4, e8, e9, e10, e13, eEdit]
        refine ⟨_, by omega, k + 1, by omega, rfl, by rw [ts, bn]; simp [c1], by omega, ?_, S3⟩
        rw [tk, ← tk0, List.map_append]
        exact A'
      · by_cases c2 : e.do' = 2
        · have b1 : (e.do' == 1) = false := by simp; omega
          have b2 : (e.do' == 2) = true := by simp; omega
          have b2' : (e.do' != 2) = false := by simp; omega
          have bn' : (x.name != e.name) = false := by simp [bne, bn]
          rw [show stepA e x = [] from by unfold stepA; rw [if_neg (fun h => h.elim (fun h => h (nx.1 bn)) (fun h => h c2))]] at tk0
          simp -dsimp -implicitDefEqProofs (disch := omega) only [VCA, Nat.reduceEqDiff, Nat.reduceAdd, Nat.reduceLT, Nat.reduceLeDiff, ↓reduceIte, setAt, exists_eq_left', e3, e4, e8, e9, e10, e12, e13, g10, eEdit, eAttr, hx, bn, bn', b1, b2']
          refine ⟨by omega, fun r14 hr14 => ?_⟩
          refine ⟨_, by omega, k + 1, by omega, rfl, by rw [ts]; simp [c1], by omega, ?_, S'.upd (S'.none hr14)⟩
          rw [tk, ← tk0, List.append_nil]
          exact A14 _ _ hr14
        · have b1 : (e.do' == 1) = false := by simp; omega
          have b2 : (e.do' == 2) = false := by simp; omega
          have b2' : (e.do' != 2) = true := by simp; omega
          have bn' : (x.name != e.name) = false := by simp [bne, bn]
          simp -dsimp -implicitDefEqProofs (disch := omega) only [VCA, Nat.reduceEqDiff, Nat.reduceAdd, Nat.reduceLT, Nat.reduceLeDiff, ↓reduceIte, okParts, setAt, forall_eq, exists_eq_left, exists_eq_left', e3, e10, e13, g10, eEdit, eAttr, hx, bn, bn', b1, b2']
          refine ⟨by omega, fun r14 hr14 => ?_⟩
          refine (A14 _ _ hr14).app (S'.upd (S'.none hr14)) (by rw [List.length_singleton]; omega) (by rw [List.length_singleton]; omega) (fun a' h3 A' S3 => ?_)
          rw [show stepA e x = [x] from by unfold stepA; rw [if_pos (.inr c2), if_neg (fun h => c1 h.2)]] at tk0
          simp -dsimp -implicitDefEqProofs (disch := omega) only [VCA, Nat.reduceEqDiff, ↓reduceIte, e3, e4, e8, e9, e10, e12, e13, eEdit]
          refine ⟨_, by omega, k + 1, by omega, rfl, by rw [ts]; simp [c1], by omega, ?_, S3⟩
          rw [tk, ← tk0, List.map_append]
          exact A'
  · obtain rfl : k = (nd d e.at').attrs.length := by omega
    rw [List.take_length] at A e12
    have eN0 : editN d e = 0 := by unfold editN; rw [if_neg c4]
    have qq : ∀ x' : HNode, eNode x' = [aInt x'.kind, .str x'.name, sl eAttr x'.attrs, .str x'.text, aInt x'.parent, sl eInt x'.kids] := fun _ => rfl
    have gbN := Sb _ _ gN
    have gb4 := Sb _ _ g4
    have gb8 := Sb _ _ g8
    have fin : ∀ (h5 : Heap) (E5 : Env) (cells' : List (List AVal)), h5 rN = some ⟨.t 40, 6, cells'⟩ → cells'.length = d.nodes.length → (∀ t o, hb t = some o → t ≠ rN → t ≠ r10 → h5 t = some o) → F2 (F2 Vz) cells' ((editD d e).nodes.map eNode) → E5 4 = .vp r4 0 → E5 8 = .vp r8 0 → E5 9 = aInt 0 →
        vc (Pg G) c26_s6 (retK [.cell 4 2 true, .tmp 5, .tmp 6] (EdK d e h)) E5 h5 := fun h5 E5 cells' q1 q2 q3 q4 q5 q6 q7 => by
      refine edited_end V sm he h0 (cells := cells') (b := .osl rN 6 0 d.nodes.length) (r4 := r4) (r8 := r8) (fun t o ht => ?_) ⟨.inr ⟨rN, hN0, q1, by rw [q2]⟩⟩ q4 h4 (q3 _ _ gb4 (fun e => nN4 e.symm) n410) (q3 _ _ gb8 (fun e => nN8 e.symm) n810) (fun e => nN4 (by cases e; rfl)) q5 q6 (by rw [eN0]; exact q7)
      exact q3 t o (Sb _ _ (S _ _ ht)) (fun e => by rw [e, hN0] at ht; cases ht) (n10 _ _ (S _ _ ht))
    have hN' := S' _ _ gbN
    have h4' := S' _ _ gb4
    have h8' := S' _ _ gb8
    have lenN : (d.nodes.map eNode).length = d.nodes.length := by rw [List.length_map]
    have b4 : (e.do' == 4) = false := by simp [c4]
    have m810 : ¬ r10 = r8 := fun h => n810 (Eq.symm h)
    have m410 : ¬ r10 = r4 := fun h => n410 (Eq.symm h)
    have mN10 : ¬ r10 = rN := fun h => nN10 (Eq.symm h)
    have nN8' : ¬ rN = r8 := nN8
    have nN4' : ¬ rN = r4 := nN4
    have mN8 : ¬ r8 = rN := fun h => nN8 h.symm
    have mN4 : ¬ r4 = rN := fun h => nN4 h.symm
    have gat : (d.nodes.map eNode).getD e.at'.toNat [] = [aInt (nd d e.at').kind, .str (nd d e.at').name, sl eAttr (nd d e.at').attrs, .str (nd d e.at').text, aInt (nd d e.at').parent, sl eInt (nd d e.at').kids] := getD_map_enc (by omega)
    by_cases c3 : e.do' = 3
    · have b1 : (e.do' == 1) = false := by simp; omega
      have b2 : (e.do' == 2) = false := by simp; omega
      have b3 : (e.do' == 3) = true := by simp; omega
      have b5 : (e.do' == 5) = false := by simp; omega
      have b6 : (e.do' == 6) = false := by simp; omega
      simp -dsimp -implicitDefEqProofs (disch := omega) only [VCA, Nat.reduceEqDiff, Nat.reduceAdd, Nat.reduceLT, Nat.reduceLeDiff, ↓reduceIte, setAt, exists_eq_left', e3, e8, e10, g10, hN', h8', eEdit, b1, b2, b3, b5, b6, lenN, gat, n810, nN10]
      have eD : editD d e = setN d e.at' { nd d e.at' with text := e.value } := by unfold editD; rw [if_neg (by omega), if_neg (by omega), if_pos c3]
      refine ⟨by omega, by omega, fin _ _ _ (upd_same _ _ _) (by rw [List.length_set]; exact lenN) (fun t o ht h1 h2 => by rw [upd_ne _ _ h1, upd_ne _ _ h2]; exact S' _ _ ht) ?_ e4 e8 e9⟩
      rw [eD]
      show F2 (F2 Vz) _ ((d.nodes.set _ _).map eNode)
      rw [List.map_set]
      exact wks_refl _
    by_cases c6 : e.do' = 6
    · have b1 : (e.do' == 1) = false := by simp; omega
      have b2 : (e.do' == 2) = false := by simp; omega
      have b3 : (e.do' == 3) = false := by simp; omega
      have b5 : (e.do' == 5) = false := by simp; omega
      have b6 : (e.do' == 6) = true := by simp; omega
      have hE := h0
      rw [errR_6 c6 ha] at hE
      have hz : ¬ e.at' = 0 := fun h => by rw [if_pos h] at hE; omega
      rw [if_neg hz] at hE
      have hp : 0 ≤ (nd d e.at').parent := by
        apply Classical.byContradiction; intro h
        rw [if_pos (by omega)] at hE; omega
      have pin := (V.par_in ha hp).1
      have p1 := pin.2
      have gp : (d.nodes.map eNode).getD (nd d e.at').parent.toNat [] = [aInt (nd d (nd d e.at').parent).kind, .str (nd d (nd d e.at').parent).name, sl eAttr (nd d (nd d e.at').parent).attrs, .str (nd d (nd d e.at').parent).text, aInt (nd d (nd d e.at').parent).parent, sl eInt (nd d (nd d e.at').parent).kids] := getD_map_enc (by omega)
      have hi := idx_at (V.par_in ha hp).2
      have hk0 := (idx_mem (nd d (nd d e.at').parent).kids e.at').2 (V.par_in ha hp).2
      have hPl := placeIn_ok (G := G) (nd d (nd d e.at').parent).kids e.at' (sm.nd _).kids
      have eD : editD d e = cutN d e.at' (idxM (· == e.at') (nd d (nd d e.at').parent).kids).toNat := by unfold editD; rw [if_neg (by omega), if_neg (by omega), if_neg (by omega), if_neg (by omega), if_neg (by omega)]
      obtain ⟨i, hii⟩ : ∃ i : Nat, idxM (· == e.at') (nd d (nd d e.at').parent).kids = i := ⟨(idxM (· == e.at') (nd d (nd d e.at').parent).kids).toNat, by omega⟩
      rw [hii] at hPl eD hi
      rw [Int.toNat_natCast] at eD hi
      have hne : (nd d e.at').parent.toNat ≠ e.at'.toNat := fun h => by
        have := V.up_par ha hp
        have e2 : (nd d e.at').parent = e.at' := by omega
        rw [e2] at this; omega
      have gs : ∀ row : List AVal, ((d.nodes.map eNode).set (nd d e.at').parent.toNat row).getD e.at'.toNat [] = [aInt (nd d e.at').kind, .str (nd d e.at').name, sl eAttr (nd d e.at').attrs, .str (nd d e.at').text, aInt (nd d e.at').parent, sl eInt (nd d e.at').kids] := fun row => by
        rw [List.getD_eq_getElem?_getD, List.getElem?_set_ne hne, ← List.getD_eq_getElem?_getD]; exact gat
      have hW := without_ok (G := G) (nd d (nd d e.at').parent).kids i hi.1 (sm.nd _).kids
      simp -dsimp -implicitDefEqProofs (disch := omega) only [VCA, Nat.reduceEqDiff, Nat.reduceAdd, Nat.reduceLT, Nat.reduceLeDiff, ↓reduceIte, rsOf, rootsOf, exists_eq_left', rootL, e3, e8, e10, g10, hN', h8', eEdit, b1, b2, b3, b5, b6, lenN, gp]
      repeat' (first | ((with_reducible refine Br.dec (fun _ => ?_) (fun _ => ?_)) <;> try (exfalso; omega)) | ((with_reducible refine Br.eq (fun _ => ?_) (fun _ => ?_)) <;> try (exfalso; omega)) | ((with_reducible refine Br.ne (fun _ => ?_) (fun _ => ?_)) <;> try (exfalso; omega)) | ((with_reducible refine brNdec (fun _ => ?_) (fun _ => ?_)) <;> try (exfalso; omega)) | ((with_reducible refine brNeq (fun _ => ?_) (fun _ => ?_)) <;> try (exfalso; omega)) | with_reducible refine Br.intro (fun _ => ?_) (fun _ => ?_) | (with_reducible apply pcallE.of; · exact hPl) | (with_reducible apply pcallE.of; · exact hW) | (with_reducible refine And.intro ?_ ?_; · omega) | simp -dsimp -implicitDefEqProofs (disch := omega) only [VCA, Nat.reduceEqDiff, Nat.reduceBEq, Nat.reduceAdd, Nat.reduceLT, Nat.reduceLeDiff, ↓reduceIte, rsOf, rootsOf, SOp.rd, SI.rd, SX.rd, setAt, implies_true, exists_eq_left', rootL, e3, e8, e10, g10, hN', h8', eEdit, lenN, gp, gs, List.length_set, n810, nN10, mN10, mN8])
      refine fin _ _ _ (upd_same _ _ _) (by rw [List.length_set, List.length_set]; exact lenN) (fun t o ht h1 h2 => by rw [upd_ne _ _ h1, upd_ne _ _ h2, upd_ne _ _ h1]; exact S' _ _ ht) ?_ e4 e8 e9
      rw [eD]
      show F2 (F2 Vz) _ (((d.nodes.set _ _).set _ _).map eNode)
      rw [List.map_set, List.map_set]
      exact wks_refl _
    by_cases c5 : e.do' = 5
    · have b1 : (e.do' == 1) = false := by simp; omega
      have b2 : (e.do' == 2) = false := by simp; omega
      have b3 : (e.do' == 3) = false := by simp; omega
      have b5 : (e.do' == 5) = true := by simp; omega
      have b6 : (e.do' == 6) = false := by simp; omega
      have ht := hto c5
      have t0 := ht.1
      have t1 := ht.2
      obtain ⟨hc, hbe⟩ := errR_5z c5 ha ht h0
      have gt : (d.nodes.map eNode).getD e.to.toNat [] = [aInt (nd d e.to).kind, .str (nd d e.to).name, sl eAttr (nd d e.to).attrs, .str (nd d e.to).text, aInt (nd d e.to).parent, sl eInt (nd d e.to).kids] := getD_map_enc (by omega)
      have hne : e.to.toNat ≠ e.at'.toNat := fun h => hc (by rw [show e.to = e.at' by omega]; exact chain_self d _)
      have gs : ∀ row : List AVal, ((d.nodes.map eNode).set e.to.toNat row).getD e.at'.toNat [] = [aInt (nd d e.at').kind, .str (nd d e.at').name, sl eAttr (nd d e.at').attrs, .str (nd d e.at').text, aInt (nd d e.at').parent, sl eInt (nd d e.at').kids] := fun row => by
        rw [List.getD_eq_getElem?_getD, List.getElem?_set_ne hne, ← List.getD_eq_getElem?_getD]; exact gat
      have eD : editD d e = hung d e.at' e.to (insAt d e) := by unfold editD; rw [if_neg (by omega), if_neg (by omega), if_neg (by omega), if_neg (by omega), if_pos c5]
      have hPl := placeIn_ok (G := G) (nd d e.at').kids e.before (sm.nd _).kids
      have kl := nodup_len d.nodes.length (nd d e.at').kids (V.nodup _ ha) (fun k hk => (V.kid _ ha k hk).1)
      cases bb : (e.before != -1)
      · simp -dsimp -implicitDefEqProofs (disch := omega) only [VCA, Nat.reduceEqDiff, Nat.reduceBEq, Nat.reduceAdd, Nat.reduceLT, Nat.reduceLeDiff, ↓reduceIte, rsOf, rootsOf, SOp.rd, SI.rd, SX.rd, okParts, setAt, forall_const, forall_eq, exists_eq_left, exists_eq_left', rootL, e3, e8, e10, g10, eEdit, b1, b2, b3, b5, bb, n810]
        refine ⟨by omega, by omega, by omega, by omega, fun r hr => ?_⟩
        have nr : ¬ r10 = r := fun e => by rw [← e, g10] at hr; cases hr
        have dd := fun x => del_upd (h := h') (r := r) (o := x) hr
        simp -dsimp -implicitDefEqProofs (disch := omega) only [VCA, Nat.reduceLeDiff, ↓reduceIte, g10, nr, dd, List.drop_length, List.length_append]
        refine ⟨by omega, by omega, fun r' hr' => ?_⟩
        have nr' : ¬ r10 = r' := fun e => by rw [← e, g10] at hr'; cases hr'
        have dd' := fun x => del_upd (h := h') (r := r') (o := x) hr'
        simp -dsimp -implicitDefEqProofs (disch := omega) only [VCA, Nat.reduceEqDiff, Nat.reduceAdd, Nat.reduceLT, Nat.reduceLeDiff, ↓reduceIte, setAt, exists_eq_left', e3, e8, e10, g10, hN', h8', eEdit, b6, lenN, gt, gs, List.length_set, n810, nN10, mN10, mN8, nr', dd, dd', List.drop_length]
        have eI : insAt d e = (nd d e.at').kids.length := by unfold insAt; rw [if_pos (by simpa using bb)]
        refine ⟨by omega, by omega, by omega, by omega, by omega, by omega, fin _ _ _ (upd_same _ _ _) (by rw [List.length_set, List.length_set]; exact lenN) (fun t o ht h1 h2 => by rw [upd_ne _ _ h1, upd_ne _ _ h2]; exact S' _ _ ht) (wks_eq ?_) e4 e8 e9⟩
        rw [eD, eI]
        show _ = ((d.nodes.set _ _).set _ _).map eNode
        rw [List.map_set, List.map_set, List.set_comm _ _ hne.symm]
        refine congrArg (List.set _ _) ?_
        rw [qq]
        simp only [List.take_length, List.drop_length, sl, List.map_append, List.map_cons, List.map_nil]
        rw [List.take_of_length_le (i := (nd d e.at').kids.length + 1) (by simp)]
        rfl
      · have hi := idxM_leK (nd d e.at').kids e.before
        have bb' : e.before ≠ -1 := by simpa using bb
        obtain ⟨i, hii⟩ : ∃ i : Nat, idxM (· == e.before) (nd d e.at').kids = i := ⟨(idxM (· == e.before) (nd d e.at').kids).toNat, by omega⟩
        rw [hii] at hPl hi
        have lt : ((nd d e.at').kids.take i).length = i := by rw [List.length_take]; omega
        have ld : ((nd d e.at').kids.drop i).length = (nd d e.at').kids.length - i := List.length_drop
        simp -dsimp -implicitDefEqProofs (disch := omega) only [VCA, Nat.reduceEqDiff, Nat.reduceAdd, Nat.reduceLT, Nat.reduceLeDiff, ↓reduceIte, exists_eq_left', e3, e10, g10, eEdit, b1, b2, b3, b5, bb]
        refine pcallE.of (hPl) ?_; simp -dsimp -implicitDefEqProofs (disch := omega) only [VCA, Nat.reduceEqDiff, Nat.reduceBEq, Nat.reduceAdd, Nat.reduceLT, Nat.reduceLeDiff, ↓reduceIte, rsOf, rootsOf, SOp.rd, SI.rd, SX.rd, okParts, setAt, forall_const, forall_eq, exists_eq_left, exists_eq_left', rootL, e3, e8, e10, g10, eEdit, n810]
        simp -dsimp -implicitDefEqProofs (disch := omega) only [lt, ld]
        refine ⟨by omega, by omega, by omega, by omega, fun r hr => ?_⟩
        have nr : ¬ r10 = r := fun e => by rw [← e, g10] at hr; cases hr
        have dd := fun x => del_upd (h := h') (r := r) (o := x) hr
        simp -dsimp -implicitDefEqProofs (disch := omega) only [VCA, ↓reduceIte, g10, nr, dd, lt, List.length_append]
        refine ⟨by omega, by omega, fun r' hr' => ?_⟩
        have nr' : ¬ r10 = r' := fun e => by rw [← e, g10] at hr'; cases hr'
        have dd' := fun x => del_upd (h := h') (r := r') (o := x) hr'
        simp -dsimp -implicitDefEqProofs (disch := omega) only [VCA, Nat.reduceEqDiff, Nat.reduceAdd, Nat.reduceLT, Nat.reduceLeDiff, ↓reduceIte, setAt, exists_eq_left', e3, e8, e10, g10, hN', h8', eEdit, b6, lenN, gt, gs, List.length_set, n810, nN10, mN10, mN8, nr', dd, dd', lt]
        have eI : insAt d e = i := by unfold insAt; rw [if_neg bb', hii]; rfl
        refine ⟨by omega, by omega, by omega, by omega, by omega, by omega, fin _ _ _ (upd_same _ _ _) (by rw [List.length_set, List.length_set]; exact lenN) (fun t o ht h1 h2 => by rw [upd_ne _ _ h1, upd_ne _ _ h2]; exact S' _ _ ht) (wks_eq ?_) e4 e8 e9⟩
        rw [eD, eI]
        show _ = ((d.nodes.set _ _).set _ _).map eNode
        rw [List.map_set, List.map_set, List.set_comm _ _ hne.symm]
        refine congrArg (List.set _ _) ?_
        rw [qq]
        simp only [sl, List.map_append, List.map_cons]
        rw [List.take_of_length_le (i := i + 1) (by simp; omega), List.append_assoc]
        rfl
    have tS := stepA_len e (nd d e.at').attrs
    by_cases c2 : e.do' = 2
    · have b1 : (e.do' == 1) = false := by simp; omega
      have b2 : (e.do' == 2) = true := by simp; omega
      have b3 : (e.do' == 3) = false := by simp; omega
      have b5 : (e.do' == 5) = false := by simp; omega
      have b6 : (e.do' == 6) = false := by simp; omega
      have hat : 0 ≤ attrAt (nd d e.at').attrs e.name := by
        have hE := h0
        rw [errR_2 c2 ha] at hE
        split at hE
        · omega
        split at hE
        · omega
        · rename_i q; exact Classical.not_not.1 q
      have eL : (nd d e.at').attrs.flatMap (stepA e) = dropAttr (nd d e.at').attrs e.name := by
        rw [dropAttr_filter anod hat]
        generalize (nd d e.at').attrs = l
        induction l with
        | nil => rfl
        | cons a l ih =>
          rw [List.flatMap_cons, List.filter_cons, ih]
          unfold stepA
          by_cases q : a.name = e.name
          · rw [if_neg (by simp [q, c2])]; simp [q]
          · rw [if_pos (.inl q), if_neg (fun h => q h.1)]; simp [q]
      have eD : editD d e = setN d e.at' { nd d e.at' with attrs := dropAttr (nd d e.at').attrs e.name } := by unfold editD; rw [if_neg (by omega), if_pos c2]
      rw [eL] at A tS
      rcases A with ⟨q0, q1⟩ | ⟨rA, q0, q1, q2⟩
      · simp -dsimp -implicitDefEqProofs (disch := omega) only [VCA, Nat.reduceEqDiff, Nat.reduceAdd, Nat.reduceLT, Nat.reduceLeDiff, ↓reduceIte, setAt, exists_eq_left', e3, e8, e10, g10, hN', h8', eEdit, b1, b2, b3, b5, b6, lenN, gat, n810, nN10, q1]
        refine ⟨by omega, by omega, fin _ _ _ (upd_same _ _ _) (by rw [List.length_set]; exact lenN) (fun t o ht h1 h2 => by rw [upd_ne _ _ h1, upd_ne _ _ h2]; exact S' _ _ ht) (wks_eq ?_) e4 e8 e9⟩
        rw [eD]
        show _ = (d.nodes.set _ _).map eNode
        rw [List.map_set]
        refine congrArg (List.set _ _) ?_
        rw [qq]
        have : dropAttr (nd d e.at').attrs e.name = [] := by simpa using q0
        simp only [this]
        rfl
      · have SD := S'.del q0
        have dA10 := SD _ _ gb
        have dA8 := SD _ _ gb8
        have dAN := SD _ _ gbN
        unfold eNode at dA10
        simp -dsimp -implicitDefEqProofs (disch := omega) only [VCA, Nat.reduceEqDiff, Nat.reduceAdd, Nat.reduceLT, Nat.reduceLeDiff, ↓reduceIte, setAt, exists_eq_left', e3, e8, e10, eEdit, b1, b2, b3, b5, b6, lenN, gat, n810, nN10, q1, q2, dA10, dA8, dAN]
        refine ⟨by omega, by omega, fin _ _ _ (upd_same _ _ _) (by rw [List.length_set]; exact lenN) (fun t o ht h1 h2 => by rw [upd_ne _ _ h1, upd_ne _ _ h2]; exact SD _ _ ht) (wks_eq ?_) e4 e8 e9⟩
        rw [eD]
        show _ = (d.nodes.set _ _).map eNode
        rw [List.map_set]
        refine congrArg (List.set _ _) ?_
        rw [qq]
        rw [List.take_of_length_le (by rw [List.length_map]; exact Nat.le_refl _)]
        rfl
    have c1 : e.do' = 1 := by omega
    have b1 : (e.do' == 1) = true := by simp; omega
    have b2 : (e.do' == 2) = false := by simp; omega
    have b3 : (e.do' == 3) = false := by simp; omega
    have b5 : (e.do' == 5) = false := by simp; omega
    have b6 : (e.do' == 6) = false := by simp; omega
    have hsA : setA e (nd d e.at').attrs = decide (0 ≤ attrAt (nd d e.at').attrs e.name) := by
      unfold setA attrAt
      rw [idxM_any, c1]; simp
    have eL := setAttr_map (l := (nd d e.at').attrs) (name := e.name) (value := e.value) anod
    have eM : ((nd d e.at').attrs.map fun a => if a.name = e.name then (⟨a.name, e.value⟩ : HAttr) else a) = (nd d e.at').attrs.flatMap (stepA e) := by
      generalize (nd d e.at').attrs = l
      induction l with
      | nil => rfl
      | cons a l ih =>
        rw [List.flatMap_cons, List.map_cons, ih]
        unfold stepA
        by_cases q : a.name = e.name
        · rw [if_pos q, if_pos (.inr (by omega)), if_pos ⟨q, c1⟩]; rfl
        · rw [if_neg q, if_pos (.inl q), if_neg (fun h => q h.1)]; rfl
    rw [eM] at eL
    have eD : editD d e = setN d e.at' { nd d e.at' with attrs := setAttr (nd d e.at').attrs e.name e.value } := by unfold editD; rw [if_pos c1]
    by_cases hat : 0 ≤ attrAt (nd d e.at').attrs e.name
    · rw [if_pos hat, List.append_nil] at eL
      rw [hsA, decide_eq_true hat] at e12
      rw [← eL] at A tS
      clear eL
      rcases A with ⟨q0, q1⟩ | ⟨rA, q0, q1, q2⟩
      · simp -dsimp -implicitDefEqProofs (disch := omega) only [VCA, Nat.reduceEqDiff, Nat.reduceAdd, Nat.reduceLT, Nat.reduceLeDiff, ↓reduceIte, setAt, exists_eq_left', e3, e8, e10, e12, g10, hN', h8', eEdit, b1, b3, b5, b6, lenN, gat, n810, nN10, q1]
        refine ⟨by omega, by omega, fin _ _ _ (upd_same _ _ _) (by rw [List.length_set]; exact lenN) (fun t o ht h1 h2 => by rw [upd_ne _ _ h1, upd_ne _ _ h2]; exact S' _ _ ht) (wks_eq ?_) e4 e8 e9⟩
        rw [eD]
        show _ = (d.nodes.set _ _).map eNode
        rw [List.map_set]
        refine congrArg (List.set _ _) ?_
        rw [qq]
        have : setAttr (nd d e.at').attrs e.name e.value = [] := by simpa using q0
        simp only [this]
        rfl
      · have SD := S'.del q0
        have dA10 := SD _ _ gb
        have dA8 := SD _ _ gb8
        have dAN := SD _ _ gbN
        unfold eNode at dA10
        simp -dsimp -implicitDefEqProofs (disch := omega) only [VCA, Nat.reduceEqDiff, Nat.reduceAdd, Nat.reduceLT, Nat.reduceLeDiff, ↓reduceIte, setAt, exists_eq_left', e3, e8, e10, e12, eEdit, b1, b3, b5, b6, lenN, gat, n810, nN10, q1, q2, dA10, dA8, dAN]
        refine ⟨by omega, by omega, fin _ _ _ (upd_same _ _ _) (by rw [List.length_set]; exact lenN) (fun t o ht h1 h2 => by rw [upd_ne _ _ h1, upd_ne _ _ h2]; exact SD _ _ ht) (wks_eq ?_) e4 e8 e9⟩
        rw [eD]
        show _ = (d.nodes.set _ _).map eNode
        rw [List.map_set]
        refine congrArg (List.set _ _) ?_
        rw [qq]
        rw [List.take_of_length_le (by rw [List.length_map]; exact Nat.le_refl _)]
        rfl
    · rw [if_neg hat] at eL
      rw [hsA, decide_eq_false hat] at e12
      simp -dsimp -implicitDefEqProofs (disch := omega) only [VCA, Nat.reduceEqDiff, Nat.reduceAdd, Nat.reduceLeDiff, ↓reduceIte, okParts, fillA, okFill, forall_eq, exists_eq_left, e3, e12, eEdit, b1]
      have tL : (((nd d e.at').attrs.flatMap (stepA e)).map eAttr).length ≤ 12 := by rw [List.length_map]; omega
      refine A.app S' (by rw [List.length_singleton]; omega) (by rw [List.length_singleton]; omega) (fun a' h3 A' S3 => ?_)
      have eT : ((nd d e.at').attrs.flatMap (stepA e)).map eAttr ++ [[.str e.name, .str e.value]] = (setAttr (nd d e.at').attrs e.name e.value).map eAttr := by rw [eL, List.map_append]; rfl
      rw [eT] at A'
      clear eL eT A
      have hN3 := S3 _ _ gbN
      have h43 := S3 _ _ gb4
      have h83 := S3 _ _ gb8
      have k10 := S3 _ _ gb
      unfold eNode at k10
      rcases A' with ⟨q0, q1⟩ | ⟨rA, q0, q1, q2⟩
      · simp -dsimp -implicitDefEqProofs (disch := omega) only [VCA, Nat.reduceEqDiff, Nat.reduceAdd, Nat.reduceLT, Nat.reduceLeDiff, ↓reduceIte, setAt, exists_eq_left', e3, e8, e10, k10, hN3, h83, eEdit, b1, b3, b5, b6, lenN, gat, n810, nN10, q1]
        refine ⟨by omega, by omega, fin _ _ _ (upd_same _ _ _) (by rw [List.length_set]; exact lenN) (fun t o ht h1 h2 => by rw [upd_ne _ _ h1, upd_ne _ _ h2]; exact S3 _ _ ht) (wks_eq ?_) e4 e8 e9⟩
        rw [eD]
        show _ = (d.nodes.set _ _).map eNode
        rw [List.map_set]
        refine congrArg (List.set _ _) ?_
        rw [qq]
        have : setAttr (nd d e.at').attrs e.name e.value = [] := by simpa using q0
        simp only [this]
        rfl
      · have SD := S3.del q0
        have dA10 := SD _ _ gb
        have dA8 := SD _ _ gb8
        have dAN := SD _ _ gbN
        unfold eNode at dA10
        simp -dsimp -implicitDefEqProofs (disch := omega) only [VCA, Nat.reduceEqDiff, Nat.reduceAdd, Nat.reduceLT, Nat.reduceLeDiff, ↓reduceIte, setAt, exists_eq_left', e3, e8, e10, eEdit, b1, b3, b5, b6, lenN, gat, n810, nN10, q1, q2, dA10, dA8, dAN]
        refine ⟨by omega, by omega, fin _ _ _ (upd_same _ _ _) (by rw [List.length_set]; exact lenN) (fun t o ht h1 h2 => by rw [upd_ne _ _ h1, upd_ne _ _ h2]; exact SD _ _ ht) (wks_eq ?_) e4 e8 e9⟩
        rw [eD]
        show _ = (d.nodes.set _ _).map eNode
        rw [List.map_set]
        refine congrArg (List.set _ _) ?_
        rw [qq]
        rw [List.take_of_length_le (by rw [List.length_map]; exact Nat.le_refl _)]
        rfl
end Go.Proofs.K
end
section
/- Edits: the reference's Edited. -/
set_option linter.unusedSimpArgs false
set_option linter.unusedVariables false
namespace Go.Proofs.K
open Go Go.Sim Go.Proofs
variable {G : Glob}
theorem edited_ok (d : HDoc) (V : DV d) (sm : DocSm d) (e : HEdit) (he : EditSm e) : PCalls (Pg G) 26 [.agg (eDoc d), .agg (eEdit e)] (edR d e) := PCalls.outV fun h => by
  have hE := editErr_ok (G := G) d V sm e he
  unfold eEdit eDoc at hE
  have hCp := copyDoc_ok (G := G) d sm
  unfold eDoc at hCp
  show DCalls _ _ _ h (EdK d e h)
  refine dcalls_of_vc Tryz.func26 hn26 hc26 (by rw [Tryz.ntmps26]; simp) (by rw [Tryz.ntmps26]; decide) ?_
  simp -dsimp -implicitDefEqProofs (disch := omega) only [VCA, Nat.reduceEqDiff, Nat.reduceAdd, ↓reduceIte, eDoc, c26, eEdit]
  intro r4 hr4
  refine pcallE.of (hE) ?_; simp -dsimp -implicitDefEqProofs (disch := omega) only [VCA, ↓reduceIte]
  refine Br.ne (fun h0 => ?_) (fun h0 => ?_)
  · have aE := apply_err V h0
    have aD : applyD d e = noDoc := by unfold applyD; rw [aE, if_neg h0]
    have aN : applyN d e = 0 := by unfold applyN; rw [aE, if_neg h0]
    simp -dsimp -implicitDefEqProofs (disch := omega) only [VCA, Nat.reduceEqDiff, Nat.reduceAdd, Nat.reduceLT, ↓reduceIte, fillA, okFill, setAt, exists_eq_left']
    refine ⟨_, Sub.refl _, (Sub.refl h).upd hr4, ?_⟩
    unfold edR
    rw [aD, aN, aE]
    exact .tup' (.cons (vw_noDoc _) (.cons (.refl _) (.cons (.refl _) .nil)))
  · simp -dsimp -implicitDefEqProofs (disch := omega) only [VCA, Nat.reduceEqDiff, Nat.reduceAdd, ↓reduceIte]
    refine DCalls.of (hCp _) ?_
    rintro a h2 ⟨b, rfl, F, S⟩
    have S4 : ∀ x, Sub h (upd h r4 (some x)) := fun x => (Sub.refl h).upd hr4
    have n4 : rootOf b ≠ some r4 := fun e => by have := F.new _ e; rw [upd_same] at this; cases this
    have F' : Fresh h h2 40 6 (d.nodes.map eNode) b := ⟨F.acc.mono (S4 _)⟩
    have g4 := S _ _ (upd_same _ _ _)
    simp -dsimp -implicitDefEqProofs (disch := omega) only [VCA, Nat.reduceEqDiff, Nat.reduceAdd, Nat.reduceLT, ↓reduceIte, setAt, exists_eq_left']
    intro r8 hr8
    have n8 : rootOf b ≠ some r8 := fun e => by
      obtain ⟨o, ho⟩ := F.own.root e
      rw [ho] at hr8; cases hr8
    have n48 : r4 ≠ r8 := fun e => by rw [← e, g4] at hr8; cases hr8
    have Sh : Sub h h2 := (S4 _).trans S
    have h8 : h r8 = none := Sh.none hr8
    have F2 : ∀ y, Fresh h (upd h2 r8 (some y)) 40 6 (d.nodes.map eNode) b := fun y => F'.keep fun r o hr ho => by rw [upd_ne _ _ (fun e => n8 (by rw [hr, e]))]; exact ho
    by_cases c4 : e.do' = 4
    · exact edited_make V sm he h0 c4 (Sh.upd h8) (F2 _) hr4 h8 (by rw [upd_ne _ _ n48]; exact g4) (upd_same _ _ _) n4 n8 n48 rfl rfl rfl
    · exact edited_else V sm he h0 c4 (Sh.upd h8) (F2 _) hr4 h8 (by rw [upd_ne _ _ n48]; exact g4) (upd_same _ _ _) n4 n8 n48 rfl rfl rfl rfl
end Go.Proofs.K
end
section
/- Edits one after another: dom.All. -/
set_option linter.unusedSimpArgs false
set_option linter.unusedVariables false
namespace Go.Proofs.K
open Go Go.Sim Go.Proofs
variable {G : Glob}
theorem eEdit_len' (e : HEdit) : (eEdit e).length = 12 := rfl
theorem eEdit_take' (e : HEdit) : (eEdit e).take 12 = eEdit e := rfl
def runM : HDoc → List HEdit → Int → HDoc × Int × Int
  | d, [], _ => (d, 0, 0)
  | d, e :: l, i => if applyE d e ≠ 0 then (noDoc, i, applyE d e) else runM (applyD d e) l (i + 1)
def allM (d : HDoc) (l : List HEdit) : HDoc × Int × Int := if docE d ≠ 0 then (noDoc, 0, docE d) else if 40 < l.length then (noDoc, 0, 2) else runM d l 0
def allV (x : HDoc × Int × Int) : AVal := .tup [.agg (eDoc x.1), aInt x.2.1, aInt x.2.2]
theorem apply_step {d : HDoc} (V : DV d) (sm : DocSm d) {e : HEdit} (he : EditSm e) (h0 : applyE d e = 0) : DV (applyD d e) ∧ DocSm (applyD d e) ∧ applyD d e = editD d e ∧ editE d e = 0 := by
  have hd := (docE_iff d).2 V
  have aE : applyE d e = editE d e := by unfold applyE; rw [if_neg (by simpa using hd)]
  have aD : applyD d e = editD d e := by unfold applyD; rw [if_pos h0]
  have h1 : editE d e = 0 := by rw [← aE]; exact h0
  have h2 : errR d e = 0 := Classical.byContradiction fun h => by
    rw [(editE_errR V e).1 h] at h1; exact h h1
  exact ⟨by rw [aD]; exact (edit_DV V e h2).2 h1, by rw [aD]; exact edit_sm V sm he h2, aD, h1⟩
theorem runM_cons {d : HDoc} {l : List HEdit} {k : Nat} (hk : k < l.length) (i : Int) : runM d (l.drop k) i = if applyE d (nth l k) ≠ 0 then (noDoc, i, applyE d (nth l k)) else runM (applyD d (nth l k)) (l.drop (k + 1)) (i + 1) := by
  have : l.drop k = nth l k :: l.drop (k + 1) := by
    have e : nth l k = l[k] := by unfold nth; rw [List.getD_eq_getElem?_getD, List.getElem?_eq_getElem hk]; rfl
    rw [e, List.getElem_cons_drop]
  rw [this, runM]
theorem runM_sm : ∀ (l : List HEdit) (d : HDoc) (i : Int), DV d → DocSm d → (∀ e ∈ l, EditSm e) → DocSm (runM d l i).1
  | [], d, i, V, sm, hl => sm
  | e :: l, d, i, V, sm, hl => by
    unfold runM
    by_cases h : applyE d e ≠ 0
    · rw [if_pos h]; exact ⟨Nat.zero_le _, fun x hx => by cases hx⟩
    · rw [if_neg h]
      have := apply_step V sm (hl e List.mem_cons_self) (Classical.not_not.1 h)
      exact runM_sm l _ _ this.1 this.2.1 fun x hx => hl x (List.mem_cons_of_mem _ hx)
theorem allM_sm {d : HDoc} {l : List HEdit} (sm : DocSm d) (hl : ∀ e ∈ l, EditSm e) : DocSm (allM d l).1 := by
  unfold allM
  split
  · exact ⟨Nat.zero_le _, fun x hx => by cases hx⟩
  rename_i h
  split
  · exact ⟨Nat.zero_le _, fun x hx => by cases hx⟩
  · exact runM_sm l d 0 ((docE_iff d).1 (Classical.not_not.1 h)) sm hl
theorem Ed.aside {h0 h : Heap} {re rN r : Nat} {d : HDoc} {sl : Nat → AVal} {made : Int} (E : Ed h0 h re rN d sl made) (hr : h r = none) (o : AObj) : Ed h0 (upd h r (some o)) re rN d sl made :=
  ⟨(E.dw.more hr o).less (fun x hx => by simp at hx; subst hx; simp), by rw [upd_ne _ _ (fun e => by have := E.ed; rw [e, hr] at this; cases this)]; exact E.ed, E.new, E.live⟩
def c38 : SFun := ⟨(.seq (.reg [⟨(some 2), (.boxF 24 2 (.t 0)), none⟩, ⟨(some 4), (.new 24 2 [.emp, (.bool false)]), none⟩, ⟨(some 5), (.mv (.c (.int .i64 (0)))), none⟩, ⟨(some 6), (.mv (.c (.int .i64 (0)))), none⟩]) (.seq (.reg [⟨(some 12), (.ld 2 true (.t 2)), none⟩, ⟨(some 13), (.pcall 47 [(.t 12)]), none⟩, ⟨(some 7), (.mv (.t 13)), none⟩]) (.seq (.seq (.reg [⟨(some 14), (.mv (.t 7)), none⟩, ⟨(some 15), (.bin .eql (.t 14) (.c (.int .i64 (0)))), none⟩, ⟨(some 16), (.mv (.t 15)), none⟩, ⟨(some 17), (.mv (.t 1)), (some (16, true))⟩, ⟨(some 18), (.len (.t 17)), (some (16, true))⟩, ⟨(some 19), (.bin .gtr (.t 18) (.c (.int .i64 (40)))), (some (16, true))⟩, ⟨(some 20), (.pick (.t 16) (.t 19) (.c (.bool false))), none⟩]) (.cond (.t 20) (.reg [⟨(some 7), (.mv (.c (.int .i64 (2)))), none⟩]) .skip)) (.seq (.seq (.reg [⟨(some 21), (.mv (.t 7)), none⟩, ⟨(some 22), (.bin .neq (.t 21) (.c (.int .i64 (0)))), none⟩]) (.cond (.t 22) (.seq (.reg [⟨(some 23), (.bld [.emp, (.bool false)] []), none⟩, ⟨(some 24), (.mv (.t 7)), none⟩, ⟨none, (.st 2 (.t 4) (.t 23)), none⟩, ⟨(some 5), (.mv (.c (.int .i64 (0)))), none⟩, ⟨(some 6), (.mv (.t 24)), none⟩]) .ret) .skip)) (.seq (.reg [⟨(some 25), (.ld 2 true (.t 2)), none⟩, ⟨(some 26), (.call (.c (.fn 77 [] [])) [(.t 25)]), none⟩, ⟨(some 27), (.bld [.emp, (.bool false), (.int .i64 (0))] [(0, (2, (.t 26)))]), none⟩, ⟨(some 28), (.box 118 3 (.t 27)), none⟩, ⟨(some 8), (.mv (.t 28)), none⟩]) (.seq (.seq (.reg [⟨(some 29), (.mv (.t 1)), none⟩, ⟨(some 30), (.len (.t 29)), none⟩, ⟨(some 31), (.mv (.c (.int .i64 (0)))), none⟩]) (.block 0 (.loop (.seq (.reg [⟨(some 32), (.bin .lss (.t 31) (.t 30)), none⟩]) (.seq (.cond (.t 32) .skip (.exit 0)) (.seq (.block 1 (.seq (.reg [⟨(some 33), (.mv (.t 31)), none⟩, ⟨(some 34), (.idxA 12 (.t 29) (.t 31)), none⟩, ⟨(some 35), (.ld 12 true (.t 34)), none⟩, ⟨(some 10), (.new 42 12 [(.int .i64 (0)), (.int .i64 (0)), (.int .i64 (0)), (.int .i64 (0)), (.str []), (.str []), (.int .i64 (0)), (.str []), .emp, (.str []), (.int .i64 (0)), .emp]), none⟩, ⟨(some 9), (.mv (.t 33)), none⟩, ⟨none, (.st 12 (.t 10) (.t 35)), none⟩]) (.seq (.reg [⟨(some 36), (.mv (.t 8)), none⟩, ⟨(some 37), (.ld 12 true (.t 10)), none⟩, ⟨(some 38), (.call (.c (.fn 78 [] [])) [(.t 36), (.t 37)]), none⟩, ⟨(some 11), (.mv (.t 38)), none⟩]) (.seq (.reg [⟨(some 39), (.mv (.t 11)), none⟩, ⟨(some 40), (.bin .neq (.t 39) (.c (.int .i64 (0)))), none⟩]) (.cond (.t 40) (.seq (.reg [⟨(some 41), (.bld [.emp, (.bool false)] []), none⟩, ⟨(some 42), (.mv (.t 9)), none⟩, ⟨(some 43), (.mv (.t 11)), none⟩, ⟨none, (.st 2 (.t 4) (.t 41)), none⟩, ⟨(some 5), (.mv (.t 42)), none⟩, ⟨(some 6), (.mv (.t 43)), none⟩]) .ret) .skip))))) (.reg [⟨(some 44), (.bin .add (.t 31) (.c (.int .i64 (1)))), none⟩, ⟨(some 31), (.mv (.t 44)), none⟩]))))))) (.seq (.reg [⟨(some 45), (.mv (.t 8)), none⟩, ⟨(some 46), (.fldA 0 (.t 45)), none⟩, ⟨(some 47), (.fldA 0 (.t 46)), none⟩, ⟨(some 48), (.ld 2 true (.t 47)), none⟩, ⟨none, (.st 2 (.t 4) (.t 48)), none⟩, ⟨(some 5), (.mv (.c (.int .i64 (0)))), none⟩, ⟨(some 6), (.mv (.c (.int .i64 (0)))), none⟩]) .ret))))))), [(.cell 4 2 true), (.tmp 5), (.tmp 6)]⟩
theorem hc38 : toSF Tryz.prog {pure := [47], how := [(28, 6)]} Tryz.f38 = some c38 := by kernel_rfl
theorem hn38 : (Tryz.f38.name == "runtime.NumGoroutine") = false := by kernel_rfl
set_option maxHeartbeats 1000000 in
theorem all_ok (d : HDoc) (sm : DocSm d) (l : List HEdit) (hl : ∀ e ∈ l, EditSm e) (ll : l.length ≤ 1073741824) : PCalls (Pg G) 38 [.agg (eDoc d), sl eEdit l] (allV (allM d l)) := PCalls.outV fun h => by
  have hC := check_ok (G := G) d sm
  refine dcalls_of_vc Tryz.func38 hn38 hc38 (by rw [Tryz.ntmps38]; simp) (by rw [Tryz.ntmps38]; decide) ?_
  simp -dsimp -implicitDefEqProofs (disch := omega) only [VCA, Nat.reduceEqDiff, ↓reduceIte, c38, eDoc_len, eDoc_take]
  intro r4 hr4
  have S4 : ∀ x, Sim.Sub h (upd h r4 (some x)) := fun x => (Sub.refl h).upd hr4
  by_cases h1 : docE d = 0
  · have V := docE_DV h1
    rw [h1] at hC
    have hOwn := fun hp => own_ok' (G := G) d sm V.pos hp
    by_cases h40 : 40 < l.length
    · have aM : allM d l = (noDoc, 0, 2) := by unfold allM; rw [if_neg (by simpa using h1), if_pos h40]
      repeat' (first | ((with_reducible refine Br.dec (fun _ => ?_) (fun _ => ?_)) <;> try (exfalso; omega)) | ((with_reducible refine Br.eq (fun _ => ?_) (fun _ => ?_)) <;> try (exfalso; omega)) | ((with_reducible refine Br.ne (fun _ => ?_) (fun _ => ?_)) <;> try (exfalso; omega)) | ((with_reducible refine brNdec (fun _ => ?_) (fun _ => ?_)) <;> try (exfalso; omega)) | ((with_reducible refine brNeq (fun _ => ?_) (fun _ => ?_)) <;> try (exfalso; omega)) | with_reducible refine Br.intro (fun _ => ?_) (fun _ => ?_) | (with_reducible apply pcallE.of; · exact hC) | (with_reducible refine And.intro ?_ ?_; · omega) | simp -dsimp -implicitDefEqProofs (disch := omega) only [↓vcOps_sp 16, VCA, Nat.reduceEqDiff, Nat.reduceAdd, Nat.reduceLT, ↓reduceIte, fillA, okFill, setAt, exists_eq_left'])
      rw [aM]
      exact ⟨_, Sub.refl _, S4 _, .tup' (.cons (vw_noDoc _) (.cons (.refl _) (.cons (.refl _) .nil)))⟩
    · have aM : allM d l = runM d l 0 := by unfold allM; rw [if_neg (by simpa using h1), if_neg h40]
      repeat' (first | ((with_reducible refine Br.dec (fun _ => ?_) (fun _ => ?_)) <;> try (exfalso; omega)) | ((with_reducible refine Br.eq (fun _ => ?_) (fun _ => ?_)) <;> try (exfalso; omega)) | ((with_reducible refine Br.ne (fun _ => ?_) (fun _ => ?_)) <;> try (exfalso; omega)) | ((with_reducible refine brNdec (fun _ => ?_) (fun _ => ?_)) <;> try (exfalso; omega)) | ((with_reducible refine brNeq (fun _ => ?_) (fun _ => ?_)) <;> try (exfalso; omega)) | with_reducible refine Br.intro (fun _ => ?_) (fun _ => ?_) | (with_reducible apply pcallE.of; · exact hC) | (with_reducible refine And.intro ?_ ?_; · omega) | simp -dsimp -implicitDefEqProofs (disch := omega) only [↓vcOps_sp 16, VCA, Nat.reduceEqDiff, ↓reduceIte, eDoc_len, eDoc_take])
      have hOwn := hOwn (upd h r4 (some ⟨.t 24, 2, [[.emp, .bool false]]⟩))
      generalize hhb : upd h r4 (some ⟨.t 24, 2, [[.emp, .bool false]]⟩) = hb at *
      have gb4 : hb r4 = some ⟨.t 24, 2, [[.emp, .bool false]]⟩ := by rw [← hhb]; exact upd_same _ _ _
      have Sb : Sub h hb := by rw [← hhb]; exact S4 _
      refine DCalls.of hOwn ?_
      rintro a h2 ⟨rN, sl0, rfl, Dw1, M1⟩
      simp -dsimp -implicitDefEqProofs (disch := omega) only [VCA, Nat.reduceEqDiff, Nat.reduceAdd, Nat.reduceLeDiff, ↓reduceIte, fillA, okFill]
      intro re hre
      have E0 := Ed.begin Dw1 M1 hre
      rw [aM]
      refine LoopVC.intro (fun m e h' => ∃ (k : Nat) (rN : Nat) (sl' : Nat → AVal) (D : HDoc) (made : Int), k ≤ l.length ∧ m = l.length - k ∧ e 4 = .vp r4 0 ∧ e 8 = .vp re 0 ∧ e 29 = sl eEdit l ∧ e 30 = aInt l.length ∧ e 31 = aInt k ∧ Ed hb h' re rN D sl' made ∧ DV D ∧ DocSm D ∧ D.quirks = d.quirks ∧ runM D (l.drop k) k = runM d l 0) l.length
        ⟨0, rN, sl0, d, 0, by omega, by omega, rfl, rfl, rfl, rfl, rfl, E0, V, sm, rfl, rfl⟩ ?_
      clear E0 Dw1 M1 hre hOwn hhb
      rintro m e h' ⟨k, rN, sl', D, made, hk, rfl, e4, e8, e29, e30, e31, E, W, smD, hq, hr⟩
      have g4 := E.dw.sub _ _ gb4
      simp -dsimp -implicitDefEqProofs (disch := omega) only [VCA, ↓reduceIte, e30, e31]
      refine Br.dec (fun hlt => ?_) (fun hge => ?_)
      · have hk' : k < l.length := by omega
        rw [runM_cons hk'] at hr
        have hx := hl _ (nth_mem' hk')
        obtain ⟨x, hxx⟩ : ∃ x, nth l k = x := ⟨_, rfl⟩
        rw [hxx] at hr hx
        simp -dsimp -implicitDefEqProofs (disch := omega) only [VCA, Nat.reduceEqDiff, Nat.reduceAdd, Nat.reduceLT, ↓reduceIte, setAt, exists_eq_left', e8, e29, e31, hxx, eEdit_len', eEdit_take']
        refine ⟨by omega, fun r10 hr10 => ?_⟩
        have hd := (docE_iff D).2 W
        have aE : applyE D x = editE D x := by unfold applyE; rw [if_neg (by simpa using hd)]
        refine DCalls.of (eedit_ok (G := G) (E.aside hr10 _) W smD x hx) ?_
        rintro a h3 ⟨rfl, hR⟩
        rcases hR with ⟨hne, rfl⟩ | ⟨hz, rN', sl2, E3⟩
        · have g4' : upd h' r10 (some ⟨.t 42, 12, [eEdit x]⟩) r4 = some ⟨.t 24, 2, [[.emp, .bool false]]⟩ := by rw [upd_ne _ _ (fun e => by rw [e, hr10] at g4; cases g4)]; exact g4
          have S10 : Sub h (upd h' r10 (some ⟨.t 42, 12, [eEdit x]⟩)) := (Sb.trans E.dw.sub).upd ((Sb.trans E.dw.sub).none hr10)
          rw [← aE] at hne
          rw [if_pos hne] at hr
          generalize upd h' r10 (some ⟨.t 42, 12, [eEdit x]⟩) = h5 at *
          rw [← aE, ← hr]
          repeat' (first | ((with_reducible refine Br.dec (fun _ => ?_) (fun _ => ?_)) <;> try (exfalso; omega)) | ((with_reducible refine Br.eq (fun _ => ?_) (fun _ => ?_)) <;> try (exfalso; omega)) | ((with_reducible refine Br.ne (fun _ => ?_) (fun _ => ?_)) <;> try (exfalso; omega)) | ((with_reducible refine brNdec (fun _ => ?_) (fun _ => ?_)) <;> try (exfalso; omega)) | ((with_reducible refine brNeq (fun _ => ?_) (fun _ => ?_)) <;> try (exfalso; omega)) | with_reducible refine Br.intro (fun _ => ?_) (fun _ => ?_) | (with_reducible refine And.intro ?_ ?_; · omega) | simp -dsimp -implicitDefEqProofs (disch := omega) only [VCA, Nat.reduceEqDiff, Nat.reduceAdd, Nat.reduceLT, ↓reduceIte, fillA, okFill, setAt, exists_eq_left', e4, eEdit_take', g4'])
          all_goals try (exfalso; omega)
          exact ⟨_, Sub.refl _, S10.upd hr4, .tup' (.cons (vw_noDoc _) (.cons (.refl _) (.cons (.refl _) .nil)))⟩
        · rw [← aE] at hz
          rw [if_neg (by simpa using hz)] at hr
          obtain ⟨W2, sm2, aD, _⟩ := apply_step W smD hx hz
          rw [← aE, hz]
          rw [← aD] at E3
          repeat' (first | ((with_reducible refine Br.dec (fun _ => ?_) (fun _ => ?_)) <;> try (exfalso; omega)) | ((with_reducible refine Br.eq (fun _ => ?_) (fun _ => ?_)) <;> try (exfalso; omega)) | ((with_reducible refine Br.ne (fun _ => ?_) (fun _ => ?_)) <;> try (exfalso; omega)) | ((with_reducible refine brNdec (fun _ => ?_) (fun _ => ?_)) <;> try (exfalso; omega)) | ((with_reducible refine brNeq (fun _ => ?_) (fun _ => ?_)) <;> try (exfalso; omega)) | with_reducible refine Br.intro (fun _ => ?_) (fun _ => ?_) | (with_reducible refine And.intro ?_ ?_; · omega) | simp -dsimp -implicitDefEqProofs (disch := omega) only [VCA, Nat.reduceEqDiff, ↓reduceIte, e4, e8, e29, e30, e31, eEdit_take'])
          all_goals try (exfalso; omega)
          refine ⟨_, by omega, k + 1, rN', sl2, applyD D x, _, by omega, rfl, by omega, E3, W2, sm2, ?_, ?_⟩
          · rw [aD, ← hq]; unfold editD; (repeat' split) <;> rfl
          · rw [← hr]; congr 1
      · obtain rfl : k = l.length := by omega
        have gE := E.ed
        simp -dsimp -implicitDefEqProofs (disch := omega) only [VCA, Nat.reduceEqDiff, Nat.reduceAdd, Nat.reduceLT, Nat.reduceLeDiff, ↓reduceIte, setAt, exists_eq_left', e4, e8, g4, gE]
        rw [List.drop_length, runM] at hr
        rw [← hr]
        have nre : r4 ∉ [re] := fun h => by
          have h : r4 = re := by simpa using h
          have := E.new
          rw [← h, gb4] at this; cases this
        exact ⟨_, Sub.refl _, (Sb.trans E.dw.sub).upd hr4, .tup' (.cons (Vw.agg' (.cons (E.dw.beside Sb gb4 hr4 nre _).new'.vw (.cons (.refl _) .nil))) (.cons (.refl _) (.cons (.refl _) .nil)))⟩
  · have aM : allM d l = (noDoc, 0, docE d) := by unfold allM; rw [if_pos h1]
    repeat' (first | ((with_reducible refine Br.dec (fun _ => ?_) (fun _ => ?_)) <;> try (exfalso; omega)) | ((with_reducible refine Br.eq (fun _ => ?_) (fun _ => ?_)) <;> try (exfalso; omega)) | ((with_reducible refine Br.ne (fun _ => ?_) (fun _ => ?_)) <;> try (exfalso; omega)) | ((with_reducible refine brNdec (fun _ => ?_) (fun _ => ?_)) <;> try (exfalso; omega)) | ((with_reducible refine brNeq (fun _ => ?_) (fun _ => ?_)) <;> try (exfalso; omega)) | with_reducible refine Br.intro (fun _ => ?_) (fun _ => ?_) | (with_reducible apply pcallE.of; · exact hC) | (with_reducible refine And.intro ?_ ?_; · omega) | simp -dsimp -implicitDefEqProofs (disch := omega) only [↓vcOps_sp 16, VCA, Nat.reduceEqDiff, Nat.reduceAdd, Nat.reduceLT, ↓reduceIte, fillA, okFill, setAt, exists_eq_left'])
    rw [aM]
    exact ⟨_, Sub.refl _, S4 _, .tup' (.cons (vw_noDoc _) (.cons (.refl _) (.cons (.refl _) .nil)))⟩
end Go.Proofs.K
end
section
/- Ways through a tree: the reference's WalkStep; Common; what must be in any case. -/
set_option linter.unusedSimpArgs false
set_option linter.unusedVariables false
namespace Go.Proofs.K
open Go Go.Sim Go.Proofs
variable {G : Glob}
section
variable {d : HDoc} {n : Int} {A B : List Int}
end
/-! ## the common node -/
/-- a result's weaker reading -/
theorem DCalls.res {P : PG} {f : Nat} {args : List AVal} {h : Heap} {K K' : AVal → Heap → Prop} (hd : DCalls P f args h K) (hk : ∀ a h', K a h' → ∃ b, Wk a b ∧ K' b h') : DCalls P f args h K' :=
  ⟨hd.1, fun g w vs H GR V => (hd.2 g w vs H GR V).mono fun e w' ⟨v', a, h', g', he, k0, H', Va, S⟩ => by
    obtain ⟨b, hb, k1⟩ := hk a h' k0
    exact ⟨v', b, h', g', he, k1, H', hb.rel Va, S⟩⟩
def oneD : HDoc := ⟨[⟨1, [], [], [], -1, [1]⟩, ⟨2, [112], [⟨[97], [34]⟩], [], 0, [2]⟩, ⟨3, [], [], [60, 10], 1, []⟩], false⟩
theorem oneD_sm : DocSm oneD := ⟨by decide, by
  intro x hx
  have : x = ⟨1, [], [], [], -1, [1]⟩ ∨ x = ⟨2, [112], [⟨[97], [34]⟩], [], 0, [2]⟩ ∨ x = ⟨3, [], [], [60, 10], 1, []⟩ := by simpa [oneD] using hx
  rcases this with rfl | rfl | rfl <;> exact ⟨by decide, by decide, by decide, by decide, by decide⟩⟩
def c42 : SFun := ⟨(.seq (.reg [⟨(some 0), (.new 24 2 [.emp, (.bool false)]), none⟩]) (.seq (.reg [⟨(some 1), (.bldF 3 1 [(.c (.int .i64 (1)))]), none⟩, ⟨(some 2), (.bld [(.int .i64 (0)), (.str []), .emp, (.str []), (.int .i64 (0)), .emp] [(0, (1, (.c (.int .i64 (1))))), (4, (1, (.c (.int .i64 (-1))))), (5, (1, (.t 1)))]), none⟩, ⟨(some 3), (.bld [(.str []), (.str [])] [(0, (1, (.c (.str [97])))), (1, (1, (.c (.str [34]))))]), none⟩, ⟨(some 4), (.bldF 96 2 [(.t 3)]), none⟩, ⟨(some 5), (.bldF 3 1 [(.c (.int .i64 (2)))]), none⟩, ⟨(some 6), (.bld [(.int .i64 (0)), (.str []), .emp, (.str []), (.int .i64 (0)), .emp] [(0, (1, (.c (.int .i64 (2))))), (1, (1, (.c (.str [112])))), (2, (1, (.t 4))), (5, (1, (.t 5)))]), none⟩, ⟨(some 7), (.bld [(.int .i64 (0)), (.str []), .emp, (.str []), (.int .i64 (0)), .emp] [(0, (1, (.c (.int .i64 (3))))), (3, (1, (.c (.str [60, 10])))), (4, (1, (.c (.int .i64 (1)))))]), none⟩, ⟨(some 8), (.bldF 40 6 [(.t 2), (.t 6), (.t 7)]), none⟩, ⟨(some 9), (.bld [.emp, (.bool false)] [(0, (1, (.t 8)))]), none⟩, ⟨none, (.st 2 (.t 0) (.t 9)), none⟩]) .ret)), [(.cell 0 2 true)]⟩
theorem hc42 : toSF Tryz.prog {} Tryz.f42 = some c42 := by kernel_rfl
theorem hn42 : (Tryz.f42.name == "runtime.NumGoroutine") = false := by kernel_rfl
theorem oneP_ok : PCalls (Pg G) 42 [] (.agg (eDoc oneD)) := fun h => by
  refine DCalls.res (K := fun a h' => a = .agg [.slc [[.int .i64 1, .str [], .emp, .str [], .int .i64 (-1), .slc [[.int .i64 1]]], [.int .i64 2, .str [112], .slc [[.str [97], .str [34]]], .str [], .int .i64 0, .slc [[.int .i64 2]]], [.int .i64 3, .str [], .emp, .str [60, 10], .int .i64 1, .emp]], .bool false] ∧ h' = h) ?_ ?_
  · refine dcalls_of_vc Tryz.func42 hn42 hc42 (by rw [Tryz.ntmps42]; simp) (by rw [Tryz.ntmps42]; decide) ?_
    simp -dsimp -implicitDefEqProofs (disch := omega) only [VCA, Nat.reduceEqDiff, Nat.reduceAdd, Nat.reduceLT, Nat.reduceLeDiff, ↓reduceIte, reduceCtorEq, okParts, fillA, okFill, setAt, exists_eq_right_right, exists_eq_left', c42]
    intro r hr
    exact (Sub.refl _).upd hr
  · rintro a h' ⟨rfl, rfl⟩
    exact ⟨_, Wk.agg' (.cons (Wk.slc' (.cons (.cons (.refl _) (.cons (.refl _) (.cons .emp (.cons (.refl _) (.cons (.refl _) (.cons (.refl _) .nil)))))) (.cons (.cons (.refl _) (.cons (.refl _) (.cons (.refl _) (.cons (.refl _) (.cons (.refl _) (.cons (.refl _) .nil)))))) (.cons (.cons (.refl _) (.cons (.refl _) (.cons .emp (.cons (.refl _) (.cons (.refl _) (.cons .emp .nil)))))) .nil)))) (.cons (.refl _) .nil)), rfl, rfl⟩
end Go.Proofs.K
end
section
/- Ways through a tree: the law of Step. -/
set_option linter.unusedSimpArgs false
set_option linter.unusedVariables false
namespace Go.Proofs.K
open Go Go.Sim Go.Proofs
variable {G : Glob}
end Go.Proofs.K
end
section
/- Ways through a tree: pairs of nodes, plain law. -/
set_option linter.unusedSimpArgs false
set_option linter.unusedVariables false
namespace Go.Proofs.K
open Go Go.Sim Go.Proofs
section
variable {d : HDoc}
def path (d : HDoc) (n : Int) : List Int := (chain d n).reverse
theorem path_len (V : DV d) {n : Int} (hn : inD d n) : (path d n).length = up d n + 1 := by unfold path; rw [List.length_reverse, chain_len V n hn]
theorem path_up (V : DV d) {n : Int} (hn : inD d n) (hp : 0 ≤ (nd d n).parent) : path d n = path d (nd d n).parent ++ [n] := by unfold path; rw [chain_up V hn hp, List.reverse_cons]
theorem path_top (V : DV d) {n : Int} (hp : ¬ 0 ≤ (nd d n).parent) : path d n = [n] := by unfold path; rw [chain_top V hp]; rfl
theorem nth_snoc_lt {l : List Int} {x : Int} {j : Nat} (h : j < l.length) : nth (l ++ [x]) j = nth l j := by
  unfold nth; rw [List.getD_eq_getElem?_getD, List.getElem?_append_left h, ← List.getD_eq_getElem?_getD]
theorem nth_snoc_eq {l : List Int} {x : Int} : nth (l ++ [x]) l.length = x := by simp [nth, List.getD_eq_getElem?_getD]
theorem path_at (V : DV d) : ∀ n, inD d n → ∀ j, j ≤ up d n → nth (path d n) j ∈ chain d n ∧ up d (nth (path d n) j) = j := V.rise fun n hn ih j hj => by
  by_cases hp : 0 ≤ (nd d n).parent
  · have hu := V.up_par hn hp
    have hl := path_len V (V.par_in hn hp).1
    rw [path_up V hn hp]
    by_cases h1 : j = up d n
    · have : j = (path d (nd d n).parent).length := by omega
      rw [this, nth_snoc_eq]; exact ⟨chain_self _ _, by omega⟩
    · obtain ⟨h2, h3⟩ := ih hp j (by omega)
      rw [nth_snoc_lt (by omega)]
      exact ⟨by rw [chain_up V hn hp]; exact List.mem_cons_of_mem _ h2, h3⟩
  · have hu := V.up_top hp
    obtain rfl : j = 0 := by omega
    rw [path_top V hp]; exact ⟨chain_self _ _, hu⟩
/-- where the ways down to two nodes part -/
structure Part (d : HDoc) (a b : Int) (i : Nat) : Prop where
  pos : 1 ≤ i
  la : i ≤ (path d a).length
  lb : i ≤ (path d b).length
  eq : ∀ j, j < i → nth (path d a) j = nth (path d b) j
  ne : ¬ (i < (path d a).length ∧ i < (path d b).length ∧ nth (path d a) i = nth (path d b) i)
variable {a b : Int} {i : Nat}
theorem Part.node (V : DV d) (ha : inD d a) (hb : inD d b) (p : Part d a b i) : nth (path d a) (i - 1) ∈ chain d a ∧ nth (path d a) (i - 1) ∈ chain d b ∧ up d (nth (path d a) (i - 1)) = i - 1 := by
  have h1 := path_at V a ha (i - 1) (by have := p.la; rw [path_len V ha] at this; omega)
  have h2 := path_at V b hb (i - 1) (by have := p.lb; rw [path_len V hb] at this; omega)
  exact ⟨h1.1, by rw [p.eq _ (by have := p.pos; omega)]; exact h2.1, h1.2⟩
end
end Go.Proofs.K
end
section
/- Ways through a tree: Before, Within, Common, Place. -/
set_option linter.unusedSimpArgs false
set_option linter.unusedVariables false
namespace Go.Proofs.K
open Go Go.Sim Go.Proofs
variable {G : Glob}
end Go.Proofs.K
end
section
/- Ways through a tree: the law of pairs. -/
set_option linter.unusedSimpArgs false
set_option linter.unusedVariables false
namespace Go.Proofs.K
open Go Go.Sim Go.Proofs
variable {G : Glob}
end Go.Proofs.K
end
section
/- Ranges: paths of points, their order. -/
set_option linter.unusedSimpArgs false
set_option linter.unusedVariables false
namespace Go.Proofs.K
open Go Go.Sim Go.Proofs
variable {G : Glob}
structure HPoint where
  node : Int
  at' : Int
deriving DecidableEq, Inhabited
def eP (p : HPoint) : List AVal := [aInt p.node, aInt p.at']
instance : LenE eP 2 := ⟨fun _ => rfl⟩
structure HSpan where
  a : HPoint
  b : HPoint
deriving DecidableEq, Inhabited
def eS (s : HSpan) : List AVal := [aInt s.a.node, aInt s.a.at', aInt s.b.node, aInt s.b.at']
instance : LenE eS 4 := ⟨fun _ => rfl⟩
end Go.Proofs.K
end
section
/- Ranges: points, spans: contracts. -/
set_option linter.unusedSimpArgs false
set_option linter.unusedVariables false
namespace Go.Proofs.K
open Go Go.Sim Go.Proofs
variable {G : Glob}
/-- the way down to a node, from below: which kid each one is -/
def rkey (d : HDoc) (n : Int) : List Int := ((chain d n).filter (fun m => decide (0 < m))).map fun m => 2 * idxM (· == m) (nd d (nd d m).parent).kids + 1
def key (d : HDoc) (p : HPoint) : List Int := (2 * p.at' :: rkey d p.node).reverse
section
variable {d : HDoc}
end
end Go.Proofs.K
end
section
/- Ranges: the order of points, plain law. -/
set_option linter.unusedSimpArgs false
set_option linter.unusedVariables false
namespace Go.Proofs.K
open Go Go.Sim Go.Proofs
/-! ## lists by their order -/
/-! ## all points of a tree, in their order -/
def textM (x : HNode) : List UInt8 := if x.kind = 5 then [] else x.text
def mkF : Nat → HDoc → Int → List HPoint
  | 0, _, n => [⟨n, 0⟩]
  | f + 1, d, n => ⟨n, 0⟩ :: ((List.range (nd d n).kids.length).flatMap (fun i => mkF f d (nth (nd d n).kids i) ++ [⟨n, (i : Int) + 1⟩]) ++ (List.range (textM (nd d n)).length).map fun i => ⟨n, (i : Int) + 1⟩)
def marks (d : HDoc) (n : Int) : List HPoint := mkF (41 - up d n) d n
section
variable {d : HDoc}
def pre (d : HDoc) (n : Int) : List Int := (rkey d n).reverse
def markM (d : HDoc) (p : HPoint) : Int := idxM (· == p) (marks d 0)
end
end Go.Proofs.K
end
section
/- Ranges: order, points, span, Check, Less; the reference's errors. -/
set_option linter.unusedSimpArgs false
set_option linter.unusedVariables false
namespace Go.Proofs.K
open Go Go.Sim Go.Proofs
variable {G : Glob}
end Go.Proofs.K
end
section
/- Ranges: the reference's marks, SpanErr. -/
set_option linter.unusedSimpArgs false
set_option linter.unusedVariables false
namespace Go.Proofs.K
open Go Go.Sim Go.Proofs
variable {G : Glob}
end Go.Proofs.K
end
section
/- Ranges: the tree's order, as a list. -/
set_option linter.unusedSimpArgs false
set_option linter.unusedVariables false
namespace Go.Proofs.K
open Go Go.Sim Go.Proofs
variable {G : Glob}
end Go.Proofs.K
end
section
/- Documents: what must be in any case; the law of checks. -/
set_option linter.unusedSimpArgs false
set_option linter.unusedVariables false
namespace Go.Proofs.K
open Go Go.Sim Go.Proofs
variable {G : Glob}
/-- an edit as it is written: no lists -/
theorem edit_wk (e : HEdit) (h1 : e.node.attrs = []) (h2 : e.node.kids = []) : Wk (.agg (eE0 e)) (.agg (eEdit e)) := Wk.agg' (by
  unfold eE0 eEdit
  rw [h1, h2]
  exact .cons (.refl _) (.cons (.refl _) (.cons (.refl _) (.cons (.refl _) (.cons (.refl _) (.cons (.refl _) (.cons (.refl _) (.cons (.refl _) (.cons .emp (.cons (.refl _) (.cons (.refl _) (.cons .emp .nil))))))))))))
end Go.Proofs.K
end
section
/- Edits: the law of DomEdits. -/
set_option linter.unusedSimpArgs false
set_option linter.unusedVariables false
namespace Go.Proofs.K
open Go Go.Sim Go.Proofs
variable {G : Glob}
theorem eEdit_len (e : HEdit) : (eEdit e).length = 12 := rfl
theorem eEdit_take (e : HEdit) : (eEdit e).take 12 = eEdit e := rfl
end Go.Proofs.K
end
section
/- Edits one after another: the reference; the law of DomAll. -/
set_option linter.unusedSimpArgs false
set_option linter.unusedVariables false
namespace Go.Proofs.K
open Go Go.Sim Go.Proofs
variable {G : Glob}
def c19 : SFun := ⟨(.seq (.reg [⟨(some 2), (.box 24 2 (.t 0)), none⟩, ⟨(some 4), (.new 24 2 [.emp, (.bool false)]), none⟩, ⟨(some 5), (.mv (.c (.int .i64 (0)))), none⟩, ⟨(some 6), (.mv (.c (.int .i64 (0)))), none⟩]) (.seq (.reg [⟨(some 12), (.ld 2 true (.t 2)), none⟩, ⟨(some 13), (.pcall 48 [(.t 12)]), none⟩, ⟨(some 7), (.mv (.t 13)), none⟩]) (.seq (.seq (.reg [⟨(some 14), (.mv (.t 7)), none⟩, ⟨(some 15), (.bin .eql (.t 14) (.c (.int .i64 (0)))), none⟩, ⟨(some 16), (.mv (.t 15)), none⟩, ⟨(some 17), (.mv (.t 1)), (some (16, true))⟩, ⟨(some 18), (.len (.t 17)), (some (16, true))⟩, ⟨(some 19), (.bin .gtr (.t 18) (.c (.int .i64 (40)))), (some (16, true))⟩, ⟨(some 20), (.pick (.t 16) (.t 19) (.c (.bool false))), none⟩]) (.cond (.t 20) (.reg [⟨(some 7), (.mv (.c (.int .i64 (2)))), none⟩]) .skip)) (.seq (.seq (.reg [⟨(some 21), (.mv (.t 7)), none⟩, ⟨(some 22), (.bin .neq (.t 21) (.c (.int .i64 (0)))), none⟩]) (.cond (.t 22) (.seq (.reg [⟨(some 23), (.bld [.emp, (.bool false)] []), none⟩, ⟨(some 24), (.mv (.t 7)), none⟩, ⟨none, (.st 2 (.t 4) (.t 23)), none⟩, ⟨(some 5), (.mv (.c (.int .i64 (0)))), none⟩, ⟨(some 6), (.mv (.t 24)), none⟩]) .ret) .skip)) (.seq (.seq (.reg [⟨(some 8), (.mv (.c (.int .i64 (0)))), none⟩]) (.block 0 (.loop (.seq (.seq (.reg [⟨(some 25), (.mv (.t 8)), none⟩, ⟨(some 26), (.mv (.t 1)), none⟩, ⟨(some 27), (.len (.t 26)), none⟩, ⟨(some 28), (.bin .lss (.t 25) (.t 27)), none⟩]) (.cond (.t 28) .skip (.exit 0))) (.seq (.block 1 (.seq (.dreg [(⟨(some 32), (.ld 2 true (.t 2)), none⟩, none), (⟨(some 33), (.mv (.t 1)), none⟩, none), (⟨(some 34), (.mv (.t 8)), none⟩, none), (⟨(some 35), (.idxA 12 (.t 33) (.t 34)), none⟩, none), (⟨(some 36), (.ld 12 true (.t 35)), none⟩, none), (⟨(some 37), (.pcall 26 [(.t 32), (.t 36)]), none⟩, none), (⟨(some 31), (.mv (.t 37)), none⟩, none), (⟨(some 38), (.ext (.t 31) 0), none⟩, none), (⟨(some 39), (.ext (.t 31) 1), none⟩, none), (⟨(some 40), (.ext (.t 31) 2), none⟩, none), (⟨(some 9), (.new 24 2 [.emp, (.bool false)]), none⟩, (some [])), (⟨none, (.st 2 (.t 9) (.t 38)), none⟩, (some [32, 36])), (⟨(some 10), (.mv (.t 39)), none⟩, none), (⟨(some 11), (.mv (.t 40)), none⟩, none)]) (.seq (.seq (.reg [⟨(some 41), (.mv (.t 11)), none⟩, ⟨(some 42), (.bin .neq (.t 41) (.c (.int .i64 (0)))), none⟩]) (.cond (.t 42) (.seq (.reg [⟨(some 43), (.bld [.emp, (.bool false)] []), none⟩, ⟨(some 44), (.mv (.t 8)), none⟩, ⟨(some 45), (.mv (.t 11)), none⟩, ⟨none, (.st 2 (.t 4) (.t 43)), none⟩, ⟨(some 5), (.mv (.t 44)), none⟩, ⟨(some 6), (.mv (.t 45)), none⟩]) .ret) .skip)) (.reg [⟨(some 46), (.ld 2 true (.t 9)), none⟩, ⟨none, (.st 2 (.t 2) (.t 46)), none⟩])))) (.reg [⟨(some 29), (.mv (.t 8)), none⟩, ⟨(some 30), (.bin .add (.t 29) (.c (.int .i64 (1)))), none⟩, ⟨(some 8), (.mv (.t 30)), none⟩])))))) (.seq (.reg [⟨(some 47), (.ld 2 true (.t 2)), none⟩, ⟨none, (.st 2 (.t 4) (.t 47)), none⟩, ⟨(some 5), (.mv (.c (.int .i64 (0)))), none⟩, ⟨(some 6), (.mv (.c (.int .i64 (0)))), none⟩]) .ret)))))), [(.cell 4 2 true), (.tmp 5), (.tmp 6)]⟩
theorem hc19 : toSF Tryz.prog {pure := [48, 26], how := [(2, 6)]} Tryz.f19 = some c19 := by kernel_rfl
theorem hn19 : (Tryz.f19.name == "runtime.NumGoroutine") = false := by kernel_rfl
set_option maxHeartbeats 1000000 in
theorem editedAll_ok (d : HDoc) (sm : DocSm d) (l : List HEdit) (hl : ∀ e ∈ l, EditSm e) (ll : l.length ≤ 1073741824) : PCalls (Pg G) 19 [.agg (eDoc d), sl eEdit l] (allV (allM d l)) := PCalls.outV fun h => by
  have hC := docErr_ok (G := G) d sm
  refine dcalls_of_vc Tryz.func19 hn19 hc19 (by rw [Tryz.ntmps19]; simp) (by rw [Tryz.ntmps19]; decide) ?_
  simp -dsimp -implicitDefEqProofs (disch := omega) only [VCA, ↓upd_none, Nat.reduceEqDiff, ↓reduceIte, ne_eq, c19, eDoc_len]
  intro r2 hr2 r4 hr4
  have m1 : ¬ r4 = r2 := hr4.1
  have m2 : ¬ r2 = r4 := fun h => m1 h.symm
  have S4 : ∀ x y, Sim.Sub h (upd (upd h r2 (some x)) r4 (some y)) := fun x y => ((Sub.refl h).upd hr2).upd hr4.2
  have nd0 := vw_noDoc
  by_cases h1 : docE d = 0
  · have V := docE_DV h1
    rw [h1] at hC
    by_cases h40 : 40 < l.length
    · have aM : allM d l = (noDoc, 0, 2) := by unfold allM; rw [if_neg (by simpa using h1), if_pos h40]
      rw [aM]
      repeat' (first | ((with_reducible refine Br.dec (fun _ => ?_) (fun _ => ?_)) <;> try (exfalso; omega)) | ((with_reducible refine Br.eq (fun _ => ?_) (fun _ => ?_)) <;> try (exfalso; omega)) | ((with_reducible refine Br.ne (fun _ => ?_) (fun _ => ?_)) <;> try (exfalso; omega)) | ((with_reducible refine brNdec (fun _ => ?_) (fun _ => ?_)) <;> try (exfalso; omega)) | ((with_reducible refine brNeq (fun _ => ?_) (fun _ => ?_)) <;> try (exfalso; omega)) | with_reducible refine Br.intro (fun _ => ?_) (fun _ => ?_) | (with_reducible apply pcallE.of; · exact hC) | (with_reducible refine And.intro ?_ ?_; · omega) | simp -dsimp -implicitDefEqProofs (disch := omega) only [↓vcOps_sp 16, VCA, Nat.reduceEqDiff, Nat.reduceAdd, Nat.reduceLT, ↓reduceIte, fillA, okFill, setAt, exists_eq_left', eDoc_len, eDoc_take, m2])
      exact ⟨_, Sub.refl _, S4 _ _, .tup' (.cons (vw_noDoc _) (.cons (.refl _) (.cons (.refl _) .nil)))⟩
    · have aM : allM d l = runM d l 0 := by unfold allM; rw [if_neg (by simpa using h1), if_neg h40]
      rw [aM]
      repeat' (first | ((with_reducible refine Br.dec (fun _ => ?_) (fun _ => ?_)) <;> try (exfalso; omega)) | ((with_reducible refine Br.eq (fun _ => ?_) (fun _ => ?_)) <;> try (exfalso; omega)) | ((with_reducible refine Br.ne (fun _ => ?_) (fun _ => ?_)) <;> try (exfalso; omega)) | ((with_reducible refine brNdec (fun _ => ?_) (fun _ => ?_)) <;> try (exfalso; omega)) | ((with_reducible refine brNeq (fun _ => ?_) (fun _ => ?_)) <;> try (exfalso; omega)) | with_reducible refine Br.intro (fun _ => ?_) (fun _ => ?_) | (with_reducible apply pcallE.of; · exact hC) | (with_reducible refine And.intro ?_ ?_; · omega) | simp -dsimp -implicitDefEqProofs (disch := omega) only [↓vcOps_sp 16, VCA, Nat.reduceEqDiff, Nat.reduceLT, ↓reduceIte, exists_eq_left', eDoc_len, eDoc_take, m2])
      refine LoopVC.intro (fun m e h' => ∃ (k : Nat) (D : HDoc), k ≤ l.length ∧ m = l.length - k ∧ e 1 = sl eEdit l ∧ e 2 = .vp r2 0 ∧ e 4 = .vp r4 0 ∧ e 8 = aInt k ∧ h' r2 = some ⟨.t 24, 2, [eDoc D]⟩ ∧ h' r4 = some ⟨.t 24, 2, [[.emp, .bool false]]⟩ ∧ Sub h h' ∧ DV D ∧ DocSm D ∧ runM D (l.drop k) k = runM d l 0) l.length
        ⟨0, d, by omega, by omega, rfl, rfl, rfl, rfl, by rw [upd_ne _ _ m2, upd_same], upd_same _ _ _, S4 _ _, V, sm, rfl⟩ ?_
      rintro m e h' ⟨k, D, hk, rfl, e1, e2, e4, e8, g2, g4, S, W, smD, hr⟩
      simp -dsimp -implicitDefEqProofs (disch := omega) only [VCA, Nat.reduceEqDiff, ↓reduceIte, e1, e8]
      refine Br.dec (fun hlt => ?_) (fun hge => ?_)
      · have hk' : k < l.length := by omega
        rw [runM_cons hk'] at hr
        have hx := hl _ (nth_mem' hk')
        obtain ⟨x, hxx⟩ : ∃ x, nth l k = x := ⟨_, rfl⟩
        rw [hxx] at hr hx
        have hE := edited_ok (G := G) D W smD x hx
        unfold edR at hE
        simp -dsimp -implicitDefEqProofs (disch := omega) only [VCA, Nat.reduceEqDiff, Nat.reduceLT, ↓reduceIte, rsOf, rootsOf, exists_eq_left', rootL, e1, e2, e8, g2, hxx, eEdit_len', eEdit_take', eDoc_len, eDoc_take]
        refine ⟨by omega, ?_⟩
        by_cases h0 : applyE D x = 0
        · rw [if_neg (by simpa using h0)] at hr
          rw [h0] at hE
          obtain ⟨W2, sm2, _, _⟩ := apply_step W smD hx h0
          repeat' (first | ((with_reducible refine Br.dec (fun _ => ?_) (fun _ => ?_)) <;> try (exfalso; omega)) | ((with_reducible refine Br.eq (fun _ => ?_) (fun _ => ?_)) <;> try (exfalso; omega)) | ((with_reducible refine Br.ne (fun _ => ?_) (fun _ => ?_)) <;> try (exfalso; omega)) | ((with_reducible refine brNdec (fun _ => ?_) (fun _ => ?_)) <;> try (exfalso; omega)) | ((with_reducible refine brNeq (fun _ => ?_) (fun _ => ?_)) <;> try (exfalso; omega)) | with_reducible refine Br.intro (fun _ => ?_) (fun _ => ?_) | (with_reducible apply pcallE.of; · exact hE) | (with_reducible refine And.intro ?_ ?_; · omega) | simp -dsimp -implicitDefEqProofs (disch := omega) only [VCA, Nat.reduceEqDiff, Nat.reduceBEq, Nat.reduceAdd, Nat.reduceLT, ↓reduceIte, rsOf, rootsOf, SOp.rd, SI.rd, SX.rd, setAt, forall_const, exists_eq_left', rootL, g2, eDoc_len])
          intro r9 hr9
          have k2 : ¬ r2 = r9 := fun e => by rw [← e, g2] at hr9; cases hr9
          have k4 : ¬ r4 = r9 := fun e => by rw [← e, g4] at hr9; cases hr9
          have k2' : ¬ r9 = r2 := fun e => k2 e.symm
          have k4' : ¬ r9 = r4 := fun e => k4 e.symm
          have n0 : ((0 : Int) != 0) = false := rfl
          repeat' (first | ((with_reducible refine Br.dec (fun _ => ?_) (fun _ => ?_)) <;> try (exfalso; omega)) | ((with_reducible refine Br.eq (fun _ => ?_) (fun _ => ?_)) <;> try (exfalso; omega)) | ((with_reducible refine Br.ne (fun _ => ?_) (fun _ => ?_)) <;> try (exfalso; omega)) | ((with_reducible refine brNdec (fun _ => ?_) (fun _ => ?_)) <;> try (exfalso; omega)) | ((with_reducible refine brNeq (fun _ => ?_) (fun _ => ?_)) <;> try (exfalso; omega)) | with_reducible refine Br.intro (fun _ => ?_) (fun _ => ?_) | (with_reducible refine And.intro ?_ ?_; · omega) | simp -dsimp -implicitDefEqProofs (disch := omega) only [VCA, Nat.reduceEqDiff, Nat.reduceLT, ↓reduceIte, setAt, exists_eq_left', e1, e2, e4, e8, g2, g4, eDoc_len, eDoc_take, eDoc_dr, k2, k4, n0])
          all_goals try (exfalso; omega)
          refine ⟨_, by omega, k + 1, applyD D x, by omega, rfl, by omega, rfl, by rw [if_neg m1], (S.upd (S.none hr9)).upd hr2, W2, sm2, by rw [← hr]; congr 1⟩
        · rw [if_pos h0] at hr
          repeat' (first | ((with_reducible refine Br.dec (fun _ => ?_) (fun _ => ?_)) <;> try (exfalso; omega)) | ((with_reducible refine Br.eq (fun _ => ?_) (fun _ => ?_)) <;> try (exfalso; omega)) | ((with_reducible refine Br.ne (fun _ => ?_) (fun _ => ?_)) <;> try (exfalso; omega)) | ((with_reducible refine brNdec (fun _ => ?_) (fun _ => ?_)) <;> try (exfalso; omega)) | ((with_reducible refine brNeq (fun _ => ?_) (fun _ => ?_)) <;> try (exfalso; omega)) | with_reducible refine Br.intro (fun _ => ?_) (fun _ => ?_) | (with_reducible apply pcallE.of; · exact hE) | (with_reducible refine And.intro ?_ ?_; · omega) | simp -dsimp -implicitDefEqProofs (disch := omega) only [VCA, Nat.reduceEqDiff, Nat.reduceBEq, Nat.reduceAdd, Nat.reduceLT, ↓reduceIte, rsOf, rootsOf, SOp.rd, SI.rd, SX.rd, setAt, forall_const, exists_eq_left', rootL, g2, eDoc_len])
          intro r9 hr9
          have k2 : ¬ r2 = r9 := fun e => by rw [← e, g2] at hr9; cases hr9
          have k4 : ¬ r4 = r9 := fun e => by rw [← e, g4] at hr9; cases hr9
          have k2' : ¬ r9 = r2 := fun e => k2 e.symm
          have k4' : ¬ r9 = r4 := fun e => k4 e.symm
          have n0 : ((0 : Int) != 0) = false := rfl
          repeat' (first | ((with_reducible refine Br.dec (fun _ => ?_) (fun _ => ?_)) <;> try (exfalso; omega)) | ((with_reducible refine Br.eq (fun _ => ?_) (fun _ => ?_)) <;> try (exfalso; omega)) | ((with_reducible refine Br.ne (fun _ => ?_) (fun _ => ?_)) <;> try (exfalso; omega)) | ((with_reducible refine brNdec (fun _ => ?_) (fun _ => ?_)) <;> try (exfalso; omega)) | ((with_reducible refine brNeq (fun _ => ?_) (fun _ => ?_)) <;> try (exfalso; omega)) | with_reducible refine Br.intro (fun _ => ?_) (fun _ => ?_) | (with_reducible refine And.intro ?_ ?_; · omega) | simp -dsimp -implicitDefEqProofs (disch := omega) only [VCA, Nat.reduceEqDiff, Nat.reduceAdd, Nat.reduceLT, ↓reduceIte, fillA, okFill, setAt, exists_eq_left', e4, e8, g4, k2, k4])
          all_goals try (exfalso; omega)
          rw [← hr]
          exact ⟨_, Sub.refl _, (S.upd (S.none hr9)).upd hr4.2, .tup' (.cons (vw_noDoc _) (.cons (.refl _) (.cons (.refl _) .nil)))⟩
      · obtain rfl : k = l.length := by omega
        rw [List.drop_length, runM] at hr
        rw [← hr]
        simp -dsimp -implicitDefEqProofs (disch := omega) only [VCA, Nat.reduceEqDiff, Nat.reduceAdd, Nat.reduceLT, ↓reduceIte, setAt, exists_eq_left', e2, e4, g2, g4, eDoc_len, eDoc_take]
        exact ⟨_, Sub.refl _, S.upd hr4.2, .tup' (.cons (.refl _) (.cons (.refl _) (.cons (.refl _) .nil)))⟩
  · have aM : allM d l = (noDoc, 0, docE d) := by unfold allM; rw [if_pos h1]
    rw [aM]
    repeat' (first | ((with_reducible refine Br.dec (fun _ => ?_) (fun _ => ?_)) <;> try (exfalso; omega)) | ((with_reducible refine Br.eq (fun _ => ?_) (fun _ => ?_)) <;> try (exfalso; omega)) | ((with_reducible refine Br.ne (fun _ => ?_) (fun _ => ?_)) <;> try (exfalso; omega)) | ((with_reducible refine brNdec (fun _ => ?_) (fun _ => ?_)) <;> try (exfalso; omega)) | ((with_reducible refine brNeq (fun _ => ?_) (fun _ => ?_)) <;> try (exfalso; omega)) | with_reducible refine Br.intro (fun _ => ?_) (fun _ => ?_) | (with_reducible apply pcallE.of; · exact hC) | (with_reducible refine And.intro ?_ ?_; · omega) | simp -dsimp -implicitDefEqProofs (disch := omega) only [↓vcOps_sp 16, VCA, Nat.reduceEqDiff, Nat.reduceAdd, Nat.reduceLT, ↓reduceIte, fillA, okFill, setAt, exists_eq_left', eDoc_len, eDoc_take, m2])
    exact ⟨_, Sub.refl _, S4 _ _, .tup' (.cons (vw_noDoc _) (.cons (.refl _) (.cons (.refl _) .nil)))⟩
end Go.Proofs.K
end
section
/- Ranges: text: contracts. -/
set_option linter.unusedSimpArgs false
set_option linter.unusedVariables false
namespace Go.Proofs.K
open Go Go.Sim Go.Proofs
variable {G : Glob}
end Go.Proofs.K
end
section
/- Ranges: text, plain law: node by node, or mark by mark. -/
set_option linter.unusedSimpArgs false
set_option linter.unusedVariables false
namespace Go.Proofs.K
open Go Go.Sim Go.Proofs
section
variable {d : HDoc}
end
end Go.Proofs.K
end
section
/- Ranges: text, mark by mark: plain law. -/
set_option linter.unusedSimpArgs false
set_option linter.unusedVariables false
namespace Go.Proofs.K
open Go Go.Sim Go.Proofs
section
variable {d : HDoc}
end
end Go.Proofs.K
end
section
/- Ranges: the reference's text; short documents. -/
set_option linter.unusedSimpArgs false
set_option linter.unusedVariables false
namespace Go.Proofs.K
open Go Go.Sim Go.Proofs
variable {G : Glob}
end Go.Proofs.K
end
section
/- Ranges: short documents; what is cut. -/
set_option linter.unusedSimpArgs false
set_option linter.unusedVariables false
namespace Go.Proofs.K
open Go Go.Sim Go.Proofs
variable {G : Glob}
end Go.Proofs.K
end
section
/- Ranges: what is cut: contracts. -/
set_option linter.unusedSimpArgs false
set_option linter.unusedVariables false
namespace Go.Proofs.K
open Go Go.Sim Go.Proofs
variable {G : Glob}
/-! ## the cut -/
def zE (do' at' : Int) (v : List UInt8) : HEdit := ⟨do', at', 0, 0, [], v, ⟨0, [], [], [], 0, []⟩⟩
section
variable {d : HDoc}
end
end Go.Proofs.K
end
section
/- Ranges: Cut; what must be in any case; the law of points. -/
set_option linter.unusedSimpArgs false
set_option linter.unusedVariables false
namespace Go.Proofs.K
open Go Go.Sim Go.Proofs
variable {G : Glob}
/-! ## what must be in any case -/
/-! ## the law of points -/
end Go.Proofs.K
end
section
/- Ranges: what is cut: plain law. -/
set_option linter.unusedSimpArgs false
set_option linter.unusedVariables false
namespace Go.Proofs.K
open Go Go.Sim Go.Proofs
section
variable {d : HDoc}
/-- lies a node between the two points? -/
def liesM (d : HDoc) (s : HSpan) (n : Int) : Prop :=
  0 ≤ (nd d n).parent ∧ n ∉ chain d s.a.node ∧ n ∉ chain d s.b.node ∧ markM d s.a ≤ markM d ⟨(nd d n).parent, idxM (· == n) (nd d (nd d n).parent).kids⟩ ∧ markM d ⟨(nd d n).parent, idxM (· == n) (nd d (nd d n).parent).kids + 1⟩ ≤ markM d s.b
instance (d : HDoc) (s : HSpan) (n : Int) : Decidable (liesM d s n) := by unfold liesM; infer_instance
end
end Go.Proofs.K
end
section
/- Ranges: the reference's cut; the law of cuts. -/
set_option linter.unusedSimpArgs false
set_option linter.unusedVariables false
namespace Go.Proofs.K
open Go Go.Sim Go.Proofs
variable {G : Glob}
end Go.Proofs.K
end
section
/- Lists of edits: are they one? The law of cuts. -/
set_option linter.unusedSimpArgs false
set_option linter.unusedVariables false
namespace Go.Proofs.K
open Go Go.Sim Go.Proofs
variable {G : Glob}
/-- edits without a node -/
def noNode (e : HEdit) : Prop := e.node = ⟨0, [], [], [], 0, []⟩
theorem noNode.sm {e : HEdit} (h : noNode e) : NodeSm e.node := by unfold noNode at h; rw [h]; exact ⟨by simp, by simp, (fun a ha => by cases ha), by simp, by simp⟩
end Go.Proofs.K
end
section
/- Steps: what was edited (plain). -/
set_option linter.unusedSimpArgs false
set_option linter.unusedVariables false
namespace Go.Proofs.K
open Go Go.Sim Go.Proofs
structure HStep where
  edit : HEdit
  had : Bool
  was : List UInt8
  parent : Int
  place : Int
deriving DecidableEq, Inhabited
def eStep (s : HStep) : List AVal := [aInt s.edit.do', aInt s.edit.at', aInt s.edit.to, aInt s.edit.before, .str s.edit.name, .str s.edit.value, aInt s.edit.node.kind, .str s.edit.node.name, sl eAttr s.edit.node.attrs, .str s.edit.node.text, aInt s.edit.node.parent, sl eInt s.edit.node.kids, .bool s.had, .str s.was, aInt s.parent, aInt s.place]
instance : LenE eStep 16 := ⟨fun _ => rfl⟩
structure StepSm (s : HStep) : Prop where
  edit : EditSm s.edit
  was : s.was.length ≤ 1073741824
theorem runM_ok {d : HDoc} {e : HEdit} {l : List HEdit} {i : Int} (h : (runM d (e :: l) i).2.2 = 0) : applyE d e = 0 := by
  apply Classical.byContradiction; intro hn
  rw [runM, if_pos hn] at h
  exact hn h
theorem allM_zero {d : HDoc} {l : List HEdit} (h : (allM d l).2.2 = 0) : docE d = 0 ∧ l.length ≤ 40 ∧ allM d l = runM d l 0 := by
  unfold allM at h ⊢
  split at h
  · rename_i h1; exact absurd h h1
  · rename_i h1
    split at h
    · cases h
    · rename_i h2
      rw [if_neg h1, if_neg h2]
      exact ⟨Classical.not_not.1 h1, by omega, rfl⟩
end Go.Proofs.K
end
section
/- Edits that do not meet: what is touched; what is folded (plain). -/
set_option linter.unusedSimpArgs false
set_option linter.unusedVariables false
namespace Go.Proofs.K
open Go Go.Sim Go.Proofs
/-- the root above a node -/
def topM (d : HDoc) (n : Int) : Int := (chain d n).getLastD (-1)
theorem top_up {d : HDoc} (V : DV d) {n : Int} (hn : inD d n) (hp : 0 ≤ (nd d n).parent) : topM d n = topM d (nd d n).parent := by
  unfold topM
  rw [chain_up V hn hp]
  have : chain d (nd d n).parent ≠ [] := List.ne_nil_of_mem (chain_self d _)
  cases h : chain d (nd d n).parent with
  | nil => exact absurd h this
  | cons x r => simp
theorem top_top {d : HDoc} (V : DV d) {n : Int} (hp : ¬ 0 ≤ (nd d n).parent) : topM d n = n := by
  unfold topM; rw [chain_top V hp]; rfl
/-- the nodes that an edit touches, as they come -/
def rawL (d : HDoc) (e : HEdit) : List Int :=
  if e.do' = 4 then [(d.nodes.length : Int)]
  else if e.do' = 5 then (if 0 < topM d e.at' then [e.at', e.to, topM d e.at'] else [e.at', e.to])
  else if e.do' = 6 then [e.at', (nd d e.at').parent]
  else [e.at']
def touchL (d : HDoc) (e : HEdit) : List Int := onceL (rawL d e)
/-- does it touch a node? -/
def touchP (d : HDoc) (e : HEdit) (n : Int) : Prop :=
  if e.do' = 4 then n = d.nodes.length
  else n = e.at' ∨ (if e.do' = 6 then n = (nd d e.at').parent else if e.do' = 5 then n = e.to ∨ (0 < n ∧ inD d n ∧ (nd d n).parent < 0 ∧ n ∈ chain d e.at') else False)
instance (d : HDoc) (e : HEdit) (n : Int) : Decidable (touchP d e n) := by unfold touchP inD; infer_instance
/-! ## folding -/
theorem apply_eq {d : HDoc} (V : DV d) (e : HEdit) : applyE d e = editE d e := by
  have hd := (docE_iff d).2 V
  unfold applyE; rw [if_neg (by simpa using hd)]
theorem apply_fit {d : HDoc} (V : DV d) {e : HEdit} (h : applyE d e = 0) : errR d e = 0 ∧ editE d e = 0 ∧ applyD d e = editD d e := by
  have h1 := apply_eq V e
  rw [h] at h1
  exact ⟨Classical.byContradiction fun h2 => h2 (((editE_errR V e).1 h2).symm.trans h1.symm), h1.symm, by unfold applyD; rw [if_pos h]⟩
def joinM (a b : HEdit) : Option (List HEdit) :=
  if a.do' = 3 ∧ b.do' = 3 ∧ a.at' = b.at' then some [b]
  else if a.do' = 1 ∧ b.do' = 1 ∧ a.at' = b.at' ∧ a.name = b.name then some [b]
  else if a.do' = 5 ∧ b.do' = 6 ∧ a.to = b.at' then some []
  else none
theorem setN_setN {d : HDoc} {n : Int} {x y : HNode} : setN (setN d n x) n y = setN d n y := by unfold setN; simp
theorem nd_setN_same {d : HDoc} {n : Int} {x : HNode} (hn : inD d n) : nd (setN d n x) n = x := by rw [nd_setN hn hn, if_pos rfl]
theorem setN_self {d : HDoc} {n : Int} (hn : inD d n) : setN d n (nd d n) = d := by
  unfold setN nd
  have : d.nodes.set n.toNat (nth d.nodes n.toNat) = d.nodes := by
    apply List.ext_getElem?
    intro i
    rw [List.getElem?_set]
    split
    · rename_i h; subst h
      have := hn.nat.1
      rw [if_pos this, nth_some this]
    · rfl
  rw [this]
theorem setAttr_twice {l : List HAttr} {name v1 v2 : List UInt8} : setAttr (setAttr l name v1) name v2 = setAttr l name v2 := by
  have key : ∀ l' : List HAttr, l'.map (·.name) = l.map (·.name) → attrAt l' name = attrAt l name := fun l' h => by
    unfold attrAt idxM
    have : l'.findIdx? (fun a => a.name == name) = (l'.map (·.name)).findIdx? (· == name) := by rw [List.findIdx?_map]; rfl
    rw [this, h, List.findIdx?_map]; rfl
  by_cases h0 : 0 ≤ attrAt l name
  · obtain ⟨g1, g2, g3⟩ := attrAt_spec l name h0
    have e1 : setAttr l name v1 = l.set (attrAt l name).toNat ⟨name, v1⟩ := by unfold setAttr; rw [if_pos h0]
    have e2 : attrAt (l.set (attrAt l name).toNat ⟨name, v1⟩) name = attrAt l name := key _ (map_set_name g1 (by rw [g2]))
    rw [e1]
    unfold setAttr
    rw [e2, if_pos h0, if_pos h0, List.set_set]
  · have e1 : setAttr l name v1 = l ++ [⟨name, v1⟩] := by unfold setAttr; rw [if_neg h0]
    have e2 : attrAt (l ++ [⟨name, v1⟩]) name = l.length := by
      unfold attrAt
      refine idxM_some (k := l.length) (by simp) (fun j hj => ?_) ?_
      · have : nth (l ++ [(⟨name, v1⟩ : HAttr)]) j = nth l j := by unfold nth; rw [List.getD_eq_getElem?_getD, List.getElem?_append_left hj, ← List.getD_eq_getElem?_getD]
        rw [this]
        cases hb : (nth l j).name == name with
        | false => rfl
        | true =>
          exfalso
          apply h0
          rw [attrAt_mem]
          exact List.mem_map.2 ⟨_, nth_mem' hj, by simpa using hb⟩
      · have : nth (l ++ [(⟨name, v1⟩ : HAttr)]) l.length = ⟨name, v1⟩ := by unfold nth; rw [List.getD_eq_getElem?_getD, List.getElem?_append_right (Nat.le_refl _)]; simp
        rw [this]; simp
    rw [e1]
    unfold setAttr
    rw [e2, if_pos (by omega), if_neg h0]
    rw [Int.toNat_natCast, List.set_append_right _ _ (Nat.le_refl _)]
    simp
/-- two edits that become one, or none, do the same -/
theorem join_ok {d : HDoc} (V : DV d) (sm : DocSm d) {a b : HEdit} (ha : EditSm a) (hb : EditSm b) {l : List HEdit} (hj : joinM a b = some l) (h1 : applyE d a = 0) (h2 : applyE (applyD d a) b = 0) :
    (runM d l 0).2.2 = 0 ∧ (runM d l 0).1 = applyD (applyD d a) b := by
  obtain ⟨r1, q1, e1⟩ := apply_fit V h1
  have V1 := (apply_step V sm ha h1).1
  obtain ⟨r2, q2, e2⟩ := apply_fit V1 h2
  rw [e1] at r2 q2 e2 V1
  unfold joinM at hj
  have single : applyE d b = 0 → editD (editD d a) b = editD d b → l = [b] → (runM d l 0).2.2 = 0 ∧ (runM d l 0).1 = applyD (applyD d a) b := fun p1 p2 p3 => by
    subst p3
    obtain ⟨_, _, e3⟩ := apply_fit V p1
    rw [e1, e2, p2, ← e3]
    simp only [runM]
    rw [if_neg (by simpa using p1)]
    exact ⟨rfl, rfl⟩
  split at hj
  · rename_i h
    obtain ⟨a3, b3, hab⟩ := h
    obtain ⟨_, _, hin, _⟩ := errR_at r1 (by omega)
    have eA : editD d a = setN d a.at' { nd d a.at' with text := a.value } := by unfold editD; rw [if_neg (by omega), if_neg (by omega), if_pos a3]
    have hinb : inD d b.at' := hab ▸ hin
    rw [eA] at r2 q2 e2 V1
    refine single ?_ ?_ (by cases hj; rfl)
    · rw [apply_eq V]
      unfold editE at q2 ⊢
      rw [if_neg (by omega), if_neg (by omega), if_pos b3] at q2 ⊢
      rw [← hab] at q2 ⊢
      rw [nd_setN_same hin] at q2
      rw [if_neg (by rw [inD_setN]; simpa using hin)] at q2
      rw [if_neg (by simpa using hin)]
      exact q2
    · rw [eA]
      unfold editD
      rw [if_neg (by omega), if_neg (by omega), if_pos b3, if_neg (by omega), if_neg (by omega), if_pos b3, ← hab, nd_setN_same hin, setN_setN]
  split at hj
  · rename_i h
    obtain ⟨a1, b1, hab, hnm⟩ := h
    obtain ⟨_, _, hin, _⟩ := errR_at r1 (by omega)
    have eA : editD d a = setN d a.at' { nd d a.at' with attrs := setAttr (nd d a.at').attrs a.name a.value } := by unfold editD; rw [if_pos a1]
    have hinb : inD d b.at' := hab ▸ hin
    rw [eA] at r2 q2 e2 V1
    refine single ?_ ?_ (by cases hj; rfl)
    · have hD : editD d b = editD (setN d a.at' { nd d a.at' with attrs := setAttr (nd d a.at').attrs a.name a.value }) b := by
        unfold editD
        rw [if_pos b1, if_pos b1, ← hab, nd_setN_same hin, setN_setN]
        show setN d a.at' _ = setN d a.at' _
        rw [hnm, setAttr_twice]
      have rb : errR d b = 0 := by
        rw [errR_1 b1 (by rw [inD_setN]; exact hinb), ← hab, nd_setN_same hin] at r2
        rw [errR_1 b1 hinb, ← hab]
        exact r2
      rw [apply_eq V]
      refine (edit_DV V b rb).1 ?_
      rw [hD]
      exact (edit_DV V1 b r2).2 q2
    · rw [eA]
      unfold editD
      rw [if_pos b1, if_pos b1, ← hab, nd_setN_same hin, setN_setN]
      show setN d a.at' _ = setN d a.at' _
      rw [hnm, setAttr_twice]
  split at hj
  · rename_i h
    obtain ⟨a5, b6, hab⟩ := h
    cases hj
    refine ⟨rfl, ?_⟩
    show d = _
    rw [e1, e2]
    obtain ⟨_, _, hin, hto⟩ := errR_at r1 (by omega)
    have hto := hto a5
    obtain ⟨hch, hbf⟩ := errR_5z a5 hin hto r1
    have hne : a.at' ≠ a.to := fun h => hch (h ▸ chain_self d a.at')
    have hE := r1
    rw [errR_5 a5 hin hto] at hE
    split at hE
    · omega
    rename_i hk1
    split at hE
    · omega
    rename_i hk2
    have hpt : (nd d a.to).parent = -1 := V.par_neg hto (by simpa using hk2)
    have eA : editD d a = hung d a.at' a.to (insAt d a) := by
      unfold editD; rw [if_neg (by omega), if_neg (by omega), if_neg (by omega), if_neg (by omega), if_pos a5]
    have hil : insAt d a ≤ (nd d a.at').kids.length := by
      unfold insAt; split
      · exact Nat.le_refl _
      · have := (idxM_leK (nd d a.at').kids a.before).2.1; omega
    have nto : a.to ∉ (nd d a.at').kids := fun h => by
      have := (V.kid _ hin _ h).2
      rw [hpt] at this
      have := hin.1; omega
    rw [eA]
    generalize insAt d a = i at hil
    have n1 : nd (hung d a.at' a.to i) a.to = { nd d a.to with parent := a.at' } := by rw [nd_hung hin hto hne hto, if_pos rfl]
    have n2 : nd (hung d a.at' a.to i) a.at' = { nd d a.at' with kids := (nd d a.at').kids.take i ++ a.to :: (nd d a.at').kids.drop i } := by rw [nd_hung hin hto hne hin, if_neg hne, if_pos rfl]
    have eB : editD (hung d a.at' a.to i) b = cutN (hung d a.at' a.to i) a.to i := by
      unfold editD
      rw [if_neg (by omega), if_neg (by omega), if_neg (by omega), if_neg (by omega), if_neg (by omega), ← hab, n1]
      have : (idxM (· == a.to) (nd (hung d a.at' a.to i) a.at').kids).toNat = i := by
        rw [n2]
        show (idxM (· == a.to) ((nd d a.at').kids.take i ++ a.to :: (nd d a.at').kids.drop i)).toNat = i
        have : idxM (· == a.to) ((nd d a.at').kids.take i ++ a.to :: (nd d a.at').kids.drop i) = i := by
          refine idxM_some (k := i) (by rw [List.length_append, List.length_cons, List.length_take]; omega) (fun j hj => ?_) ?_
          · have h1 : nth ((nd d a.at').kids.take i ++ a.to :: (nd d a.at').kids.drop i) j ∈ (nd d a.at').kids := by
              have : nth ((nd d a.at').kids.take i ++ a.to :: (nd d a.at').kids.drop i) j = nth ((nd d a.at').kids.take i) j := by
                unfold nth; rw [List.getD_eq_getElem?_getD, List.getElem?_append_left (by rw [List.length_take]; omega), ← List.getD_eq_getElem?_getD]
              rw [this]
              exact List.mem_of_mem_take (nth_mem' (by rw [List.length_take]; omega))
            cases hb : nth ((nd d a.at').kids.take i ++ a.to :: (nd d a.at').kids.drop i) j == a.to with
            | false => rfl
            | true => exact absurd ((by simpa using hb : _ = a.to) ▸ h1) nto
          · have : nth ((nd d a.at').kids.take i ++ a.to :: (nd d a.at').kids.drop i) i = a.to := by
              unfold nth; rw [List.getD_eq_getElem?_getD, List.getElem?_append_right (by rw [List.length_take]; omega), List.length_take, Nat.min_eq_left hil]; simp
            rw [this]; simp
        rw [this]; simp
      rw [this]
    rw [eB]
    unfold cutN
    rw [n1]
    show d = setN (setN _ a.at' _) a.to _
    rw [n2]
    have hk : ∀ (L : List Int), i ≤ L.length → (L.take i ++ a.to :: L.drop i).take i ++ (L.take i ++ a.to :: L.drop i).drop (i + 1) = L := fun L hL => by
      rw [List.take_append, List.drop_append, List.take_take, List.length_take, Nat.min_eq_left hL, Nat.min_self, Nat.sub_self, show i + 1 - i = 1 by omega]
      simp
      rw [List.drop_eq_nil_of_le (by rw [List.length_take]; omega)]
      simp
    simp only [hk _ hil]
    unfold hung
    have e3 : ∀ (D : HDoc) (x y z : HNode), setN (setN (setN D a.to x) a.at' y) a.to z = setN (setN D a.at' y) a.to z := fun D x y z => by
      unfold setN
      simp only
      congr 1
      have ne : a.to.toNat ≠ a.at'.toNat := fun h => hne (by have := hin.nat.2; have := hto.nat.2; omega)
      rw [List.set_comm _ _ ne, List.set_set]
      first | done | exact List.set_comm _ _ ne | exact (List.set_comm _ _ ne).symm
    rw [e3, setN_setN]
    have s1 : setN d a.at' { kind := (nd d a.at').kind, name := (nd d a.at').name, attrs := (nd d a.at').attrs, text := (nd d a.at').text, parent := (nd d a.at').parent, kids := (nd d a.at').kids } = d := setN_self hin
    rw [s1]
    have s2 : ({ kind := (nd d a.to).kind, name := (nd d a.to).name, attrs := (nd d a.to).attrs, text := (nd d a.to).text, parent := -1, kids := (nd d a.to).kids } : HNode) = nd d a.to := by rw [← hpt]
    rw [s2]
    exact (setN_self hto).symm
  · cases hj
/-- edits in a row -/
theorem runM_app : ∀ (l m : List HEdit) (d : HDoc) (i : Int), (runM d l i).2.2 = 0 → ∃ j, runM d (l ++ m) i = runM (runM d l i).1 m j
  | [], m, d, i, h => ⟨i, rfl⟩
  | e :: l, m, d, i, h => by
    have hz := runM_ok h
    rw [runM, if_neg (by simpa using hz)] at h
    obtain ⟨j, hj⟩ := runM_app l m _ _ h
    refine ⟨j, ?_⟩
    rw [List.cons_append, runM, if_neg (by simpa using hz), hj, runM, if_neg (by simpa using hz)]
theorem runM_at : ∀ (l : List HEdit) (d : HDoc) (i j : Int), (runM d l i).2.2 = (runM d l j).2.2 ∧ (runM d l i).1 = (runM d l j).1
  | [], d, i, j => ⟨rfl, rfl⟩
  | e :: l, d, i, j => by
    unfold runM
    split
    · exact ⟨rfl, rfl⟩
    · exact runM_at l _ _ _
/-- folding from the end on: at most as many steps as there are edits -/
def foldF : Nat → List HEdit → List HEdit
  | 0, l => l
  | f + 1, l => if 1 < l.length then (match joinM (nth l (l.length - 2)) (nth l (l.length - 1)) with | some m => foldF f (l.take (l.length - 2) ++ m) | none => l) else l
def foldM (l : List HEdit) : List HEdit := l.foldl (fun out e => foldF (out.length + 1) (out ++ [e])) []
theorem split_two {l : List HEdit} (h : 1 < l.length) : l = l.take (l.length - 2) ++ [nth l (l.length - 2), nth l (l.length - 1)] := by
  have h1 := take_snoc (l := l) (j := l.length - 1) (by omega)
  have h2 := take_snoc (l := l) (j := l.length - 2) (by omega)
  rw [show l.length - 1 + 1 = l.length by omega, List.take_length] at h1
  rw [show l.length - 2 + 1 = l.length - 1 by omega] at h2
  rw [h2] at h1
  simpa using h1
theorem joinM_len {a b : HEdit} {m : List HEdit} (h : joinM a b = some m) : m.length ≤ 1 ∧ ∀ e ∈ m, e = b := by
  unfold joinM at h
  split at h
  · cases h; simp
  split at h
  · cases h; simp
  split at h
  · cases h; simp
  · cases h
theorem runM_good : ∀ (l : List HEdit) (d : HDoc) (i : Int), DV d → DocSm d → (∀ e ∈ l, EditSm e) → (runM d l i).2.2 = 0 → DV (runM d l i).1 ∧ DocSm (runM d l i).1
  | [], d, i, V, sm, hl, h => ⟨V, sm⟩
  | e :: l, d, i, V, sm, hl, h => by
    have hz := runM_ok h
    have hA := apply_step V sm (hl e List.mem_cons_self) hz
    rw [runM, if_neg (by simpa using hz)] at h ⊢
    exact runM_good l _ _ hA.1 hA.2.1 (fun x hx => hl x (List.mem_cons_of_mem _ hx)) h
theorem foldF_ok {d : HDoc} (V : DV d) (sm : DocSm d) : ∀ (f : Nat) (l : List HEdit), (∀ e ∈ l, EditSm e) → (runM d l 0).2.2 = 0 →
    (runM d (foldF f l) 0).2.2 = 0 ∧ (runM d (foldF f l) 0).1 = (runM d l 0).1 ∧ (foldF f l).length ≤ l.length ∧ ∀ e ∈ foldF f l, EditSm e
  | 0, l, hl, h => ⟨h, rfl, Nat.le_refl _, hl⟩
  | f + 1, l, hl, h => by
    unfold foldF
    by_cases h1 : 1 < l.length
    · rw [if_pos h1]
      cases hj : joinM (nth l (l.length - 2)) (nth l (l.length - 1)) with
      | none => exact ⟨h, rfl, Nat.le_refl _, hl⟩
      | some m =>
        have hs := split_two h1
        obtain ⟨m1, m2⟩ := joinM_len hj
        have ha : EditSm (nth l (l.length - 2)) := hl _ (nth_mem' (by omega))
        have hb : EditSm (nth l (l.length - 1)) := hl _ (nth_mem' (by omega))
        have hp : ∀ e ∈ l.take (l.length - 2), EditSm e := fun e he => hl e (List.mem_of_mem_take he)
        have hm : ∀ e ∈ l.take (l.length - 2) ++ m, EditSm e := fun e he => by
          rcases List.mem_append.1 he with he | he
          · exact hp e he
          · rw [m2 e he]; exact hb
        have hlen : (l.take (l.length - 2) ++ m).length ≤ l.length := by rw [List.length_append, List.length_take]; omega
        have pre : (runM d (l.take (l.length - 2)) 0).2.2 = 0 := by
          apply Classical.byContradiction; intro hn
          have : ∀ (p : List HEdit) (q : List HEdit) (d : HDoc) (i : Int), (runM d p i).2.2 ≠ 0 → (runM d (p ++ q) i).2.2 ≠ 0 := fun p => by
            induction p with
            | nil => intro q d i hh; exact absurd rfl hh
            | cons e p ih =>
              intro q d i hh
              rw [List.cons_append]
              unfold runM at hh ⊢
              split
              · rename_i q1; rw [if_pos q1] at hh; exact hh
              · rename_i q1; rw [if_neg q1] at hh; exact ih q _ _ hh
          exact this _ [nth l (l.length - 2), nth l (l.length - 1)] d 0 hn (hs ▸ h)
        obtain ⟨V0, sm0⟩ := runM_good _ _ _ V sm hp pre
        obtain ⟨j, hj1⟩ := runM_app _ [nth l (l.length - 2), nth l (l.length - 1)] d 0 pre
        rw [← hs] at hj1
        obtain ⟨k, hk1⟩ := runM_app _ m d 0 pre
        have h2 := h
        rw [hj1] at h2
        have z1 := runM_ok h2
        have h3 := h2
        rw [runM, if_neg (by simpa using z1)] at h3
        have z2 := runM_ok h3
        have J := join_ok V0 sm0 ha hb hj z1 z2
        have e1 : (runM d l 0).1 = applyD (applyD (runM d (l.take (l.length - 2)) 0).1 (nth l (l.length - 2))) (nth l (l.length - 1)) := by
          rw [hj1, runM, if_neg (by simpa using z1), runM, if_neg (by simpa using z2)]; rfl
        have e2 : (runM d (l.take (l.length - 2) ++ m) 0).2.2 = 0 := by rw [hk1, (runM_at m _ k 0).1]; exact J.1
        have e3 : (runM d (l.take (l.length - 2) ++ m) 0).1 = (runM d l 0).1 := by rw [hk1, (runM_at m _ k 0).2, J.2, e1]
        obtain ⟨i1, i2, i3, i4⟩ := foldF_ok V sm f _ hm e2
        exact ⟨i1, i2.trans e3, Nat.le_trans i3 hlen, i4⟩
    · rw [if_neg h1]; exact ⟨h, rfl, Nat.le_refl _, hl⟩
theorem foldG_ok {d : HDoc} (V : DV d) (sm : DocSm d) : ∀ (l out : List HEdit), (∀ e ∈ l, EditSm e) → (∀ e ∈ out, EditSm e) → (runM d (out ++ l) 0).2.2 = 0 →
    (runM d (l.foldl (fun out e => foldF (out.length + 1) (out ++ [e])) out) 0).2.2 = 0 ∧ (runM d (l.foldl (fun out e => foldF (out.length + 1) (out ++ [e])) out) 0).1 = (runM d (out ++ l) 0).1 ∧
      (l.foldl (fun out e => foldF (out.length + 1) (out ++ [e])) out).length ≤ out.length + l.length ∧ ∀ e ∈ l.foldl (fun out e => foldF (out.length + 1) (out ++ [e])) out, EditSm e
  | [], out, hl, ho, h => by rw [List.append_nil] at h ⊢; exact ⟨h, rfl, Nat.le_refl _, ho⟩
  | e :: l, out, hl, ho, h => by
    have e1 : out ++ e :: l = (out ++ [e]) ++ l := by simp
    rw [e1] at h ⊢
    have ho1 : ∀ x ∈ out ++ [e], EditSm x := fun x hx => by
      rcases List.mem_append.1 hx with hx | hx
      · exact ho x hx
      · simp at hx; subst hx; exact hl x List.mem_cons_self
    have pre : (runM d (out ++ [e]) 0).2.2 = 0 := by
      apply Classical.byContradiction; intro hn
      have : ∀ (p : List HEdit) (q : List HEdit) (d : HDoc) (i : Int), (runM d p i).2.2 ≠ 0 → (runM d (p ++ q) i).2.2 ≠ 0 := fun p => by
        induction p with
        | nil => intro q d i hh; exact absurd rfl hh
        | cons e p ih =>
          intro q d i hh
          rw [List.cons_append]
          unfold runM at hh ⊢
          split
          · rename_i q1; rw [if_pos q1] at hh; exact hh
          · rename_i q1; rw [if_neg q1] at hh; exact ih q _ _ hh
      exact this _ l d 0 hn h
    obtain ⟨i1, i2, i3, i4⟩ := foldF_ok V sm (out.length + 1) (out ++ [e]) ho1 pre
    obtain ⟨j1, hj1⟩ := runM_app _ l d 0 pre
    obtain ⟨j2, hj2⟩ := runM_app _ l d 0 i1
    have h4 : (runM d (foldF (out.length + 1) (out ++ [e]) ++ l) 0).2.2 = 0 := by
      rw [hj2, i2, (runM_at l _ j2 j1).1, ← hj1]; exact h
    obtain ⟨k1, k2, k3, k4⟩ := foldG_ok V sm l _ (fun x hx => hl x (List.mem_cons_of_mem _ hx)) i4 h4
    rw [List.foldl_cons]
    refine ⟨k1, k2.trans ?_, ?_, k4⟩
    · rw [hj2, i2, (runM_at l _ j2 j1).2, ← hj1]
    · rw [List.length_append, List.length_singleton] at i3
      rw [List.length_cons]; omega
theorem foldM_ok {d : HDoc} (V : DV d) (sm : DocSm d) {l : List HEdit} (hl : ∀ e ∈ l, EditSm e) (h : (runM d l 0).2.2 = 0) :
    (runM d (foldM l) 0).2.2 = 0 ∧ (runM d (foldM l) 0).1 = (runM d l 0).1 ∧ (foldM l).length ≤ l.length ∧ ∀ e ∈ foldM l, EditSm e := by
  have := foldG_ok V sm l [] hl (fun e he => by cases he) (by simpa using h)
  unfold foldM
  simpa using this
end Go.Proofs.K
end
section
/- Numbers in order: slices.Sort, slices.Compact at a list of one's own. -/
set_option linter.unusedSimpArgs false
set_option linter.unusedVariables false
namespace Go.Proofs.K
open Go Go.Sim Go.Proofs Go.Shelf
variable {G : Glob}
/-- a block of the call's own written over; the root stays -/
theorem put_same {h : Heap} {g : Ghost} {w w' : World} (H : HRel h g w) {r : Nat} {es : List (List AVal)} {l : List Int} (hr : h r = some ⟨.t 3, 1, es⟩) (hc : g.cap r ≠ 0) {cur cur' : Array Value} (hcur : w.heap[g.eta r]? = some (.cells cur 3 (0, 0)))
    (hb : w'.heap[g.eta r]? = some (.cells cur' 3 (0, 0))) (hs : ∀ b, b ≠ g.eta r → b < w.heap.size → w'.heap[b]? = w.heap[b]?) (hz : w.heap.size ≤ w'.heap.size) (h1 : w'.os = w.os) (h2 : w'.tape = w.tape) (h3 : w'.output = w.output)
    (hsz : cur'.size = cur.size) (hle : l.length ≤ g.cap r) (I : IntsAt cur' (g.bo r) l) : GS g w g w' ∧ HRel (upd h r (some ⟨.t 3, 1, l.map eInt⟩)) g w' := by
  obtain ⟨S1, H1⟩ := root_write H hr hcur hc cur' hsz (es' := l.map eInt) (fun e he => by obtain ⟨x, _, rfl⟩ := List.mem_map.1 he; rfl) (by simpa using hle) (fun i j e x he hx => I.cells g w i j e x he hx)
  obtain ⟨S2, H2⟩ := H1.ext (w' := w') (fun b hb' => by
    by_cases e : b = g.eta r
    · subst e; rw [hb]; exact (setRow_heap w _ cur cur' _ _ hcur).symm
    · rw [hs b e (by rw [size_setRow] at hb'; exact hb')]; exact (setRow_other w _ _ _ e).symm) h1 h2 h3 (by rw [size_setRow]; exact hz)
  exact ⟨S1.trans S2, H2⟩
theorem holds_ints {cur : Array Value} {w : World} {b bo : Nat} {l : List Int} (hb : w.heap[b]? = some (.cells cur 3 (0, 0))) (I : IntsAt cur bo l) : Go.Sort.Holds (Value.int .i64) w b bo l.toArray := fun j hj => by
  have hj : j < l.length := by simpa using hj
  have e : l.toArray[j]! = nth l j := by
    rw [getElem!_pos l.toArray j (by simpa using hj)]
    unfold nth; rw [List.getD_eq_getElem?_getD, List.getElem?_eq_getElem hj]; simp
  refine ⟨?_, by simp [World.frozen?, hb]⟩
  rw [cell_of_row w _ _ cur _ _ hb, I j hj, e]
theorem put_ints {cur : Array Value} {bo : Nat} {l : List Int} (hl : bo + l.length ≤ cur.size) : IntsAt (Go.Sort.putCells (Value.int .i64) bo l.toArray cur) bo l := fun k hk => by
  unfold Go.Sort.putCells
  rw [Array.getElem?_mapIdx, Array.getElem?_eq_getElem (by omega)]
  have e : l.toArray[k]! = nth l k := by
    rw [getElem!_pos l.toArray k (by simpa using hk)]
    unfold nth; rw [List.getD_eq_getElem?_getD, List.getElem?_eq_getElem hk]; simp
  simp only [Option.map_some, Nat.le_add_right, List.size_toArray, Nat.add_lt_add_left hk, and_self, if_true, Nat.add_sub_cancel_left, e]
theorem put_row {w : World} {b bo : Nat} {l : List Int} {cur : Array Value} (hb : w.heap[b]? = some (.cells cur 3 (0, 0))) :
    (Go.Sort.putRow (Value.int .i64) w b bo l.toArray).heap[b]? = some (.cells (Go.Sort.putCells (Value.int .i64) bo l.toArray cur) 3 (0, 0)) ∧ (∀ k, k ≠ b → (Go.Sort.putRow (Value.int .i64) w b bo l.toArray).heap[k]? = w.heap[k]?) := by
  refine ⟨?_, fun k hk => ?_⟩
  · unfold Go.Sort.putRow Go.Sort.mapBlock
    rw [Array.getElem?_modify, if_pos rfl, hb]; rfl
  · unfold Go.Sort.putRow Go.Sort.mapBlock
    rw [Array.getElem?_modify, if_neg (fun h => hk h.symm)]
theorem vrel_one {g : Ghost} {w : World} {vs : Array Value} {a : AVal} (V : VRelL g w vs [a]) : ∃ u, vs = #[u] ∧ VRel g w u a := by
  obtain ⟨hs, hv⟩ := V
  obtain ⟨l⟩ := vs
  match l, hs with
  | [u], _ => exact ⟨u, rfl, hv 0 u a rfl rfl⟩
/-- a list of one's own, put in order -/
theorem sortI_ok {h : Heap} {r : Nat} {l : List Int} (hr : h r = some ⟨.t 3, 1, l.map eInt⟩) (hl : l.length ≤ 100000) :
    DCalls (Pg G) 73 [.osl r 1 0 l.length] h fun a h' => a = .tup [] ∧ h' = upd h r (some ⟨.t 3, 1, (sortL l).map eInt⟩) := by
  refine ⟨⟨_, Tryz.func73, by kernel_rfl, by kernel_rfl⟩, fun g w vs H GR V => ?_⟩
  obtain ⟨va, rfl, ha⟩ := vrel_one V
  obtain ⟨hrl, hsz, hc⟩ := ha.osl_inv
  have nil : l = [] → upd h r (some ⟨.t 3, 1, (sortL l).map eInt⟩) = h := fun e => by
    subst e; rw [show (sortL ([] : List Int)).map eInt = ([] : List Int).map eInt from by simp [sortL], ← hr]
    funext t; unfold upd; split
    · rename_i q; rw [q]
    · rfl
  have empty : l = [] → ∀ (p : Option Addr) (cap : Nat), va = .slice p 0 cap → Calls Tryz.prog 73 #[va] w fun e w' => ∃ v a h' g', e = .returned v ∧ (a = .tup [] ∧ h' = upd h r (some ⟨.t 3, 1, (sortL l).map eInt⟩)) ∧ HRel h' g' w' ∧ VRel g' w' v a ∧ GS g w g' w' := by
    intro he p cap hva
    rw [hva]
    refine (Tryz.slices_Sort_int_none p cap w).mono fun e w' ⟨he', hw⟩ => ?_
    subst hw
    exact ⟨_, .tup [], h, g, he', ⟨rfl, (nil he).symm⟩, H, .tup #[] [] rfl (by simp), GS.refl _ _⟩
  rcases hc with ⟨hA, h0, h1, h2⟩ | ⟨capv, off, hva, hnc, hm, hic, hoff⟩
  · exact empty (List.eq_nil_of_length_eq_zero h1) _ _ (by rw [hA])
  · by_cases hl0 : l.length = 0
    · exact empty (List.eq_nil_of_length_eq_zero hl0) _ _ (by rw [hva, hl0])
    · have hle2 := (H.obj r _ hr).le
      rw [List.length_map] at hle2
      have hcr : g.cap r ≠ 0 := by omega
      obtain ⟨cur, hcur, hsz2, I⟩ := ints_block H hr (l := l) (by simp) (by rw [← List.length_map (f := eInt), List.take_length]) hcr
      have hof : off = g.bo r := by have := hoff (by omega); omega
      subst hof
      rw [hva]
      have hlt : g.eta r < w.heap.size := (Array.getElem?_eq_some_iff.1 hcur).1
      refine (Tryz.slices_Sort_int (g.eta r) (g.bo r) capv l w (holds_ints hcur I) hlt (by omega)).mono fun e w' ⟨he, n, os, hw⟩ => ?_
      obtain ⟨b1, b2⟩ := put_row (w := Go.Sort.ahead w n) (b := g.eta r) (bo := g.bo r) (l := sortL l) (cur := cur) hcur
      have sl := sortL_len l
      have hz : (Go.Sort.putRow (Value.int .i64) (Go.Sort.ahead w n) (g.eta r) (g.bo r) (sortL l).toArray).heap.size = w.heap.size := by rw [Go.Sort.size_putRow]; rfl
      have hg : ∀ b, b < w.heap.size → w'.heap[b]? = (Go.Sort.putRow (Value.int .i64) (Go.Sort.ahead w n) (g.eta r) (g.bo r) (sortL l).toArray).heap[b]? := fun b hb => by
        rw [hw]
        show (_ ++ _)[b]? = _
        exact Array.getElem?_append_left (by rw [← hz] at hb; exact hb)
      obtain ⟨S, H'⟩ := put_same (w' := w') (l := sortL l) H hr hcr hcur ((hg _ hlt).trans b1) (fun b hb hb2 => (hg b hb2).trans (b2 b hb)) (by
        rw [hw]; unfold Go.Sort.grow; rw [Array.size_append]; exact Nat.le_trans (Nat.le_of_eq hz.symm) (Nat.le_add_right _ _)) (by rw [hw]; rfl) (by rw [hw]; rfl) (by rw [hw]; rfl) (by unfold Go.Sort.putCells; simp) (by omega) (put_ints (by omega))
      exact ⟨_, .tup [], _, g, he, ⟨rfl, rfl⟩, H', .tup #[] [] rfl (by simp), S⟩
/-- each but once, of a list that is in order -/
theorem compactI_ok {h : Heap} {r : Nat} {l : List Int} (hr : h r = some ⟨.t 3, 1, l.map eInt⟩) (hl : l.length ≤ 100000) :
    DCalls (Pg G) 74 [.osl r 1 0 l.length] h fun a h' => ∃ es, a = .osl r 1 0 (Lib.compact l).length ∧ h' = upd h r (some ⟨.t 3, 1, es⟩) ∧ (Lib.compact l).length ≤ es.length ∧ es.take (Lib.compact l).length = (Lib.compact l).map eInt := by
  refine ⟨⟨_, Tryz.func74, by kernel_rfl, by kernel_rfl⟩, fun g w vs H GR V => ?_⟩
  obtain ⟨va, rfl, ha⟩ := vrel_one V
  have ha0 := ha
  obtain ⟨hrl, hsz, hc⟩ := ha.osl_inv
  have empty : l = [] → ∀ (p : Option Addr) (cap : Nat), va = .slice p 0 cap → Calls Tryz.prog 74 #[va] w fun e w' => ∃ v a h' g', e = .returned v ∧ (∃ es, a = .osl r 1 0 (Lib.compact l).length ∧ h' = upd h r (some ⟨.t 3, 1, es⟩) ∧ (Lib.compact l).length ≤ es.length ∧ es.take (Lib.compact l).length = (Lib.compact l).map eInt) ∧ HRel h' g' w' ∧ VRel g' w' v a ∧ GS g w g' w' := by
    intro he p cap hva
    rw [hva] at ha0 ⊢
    refine (Tryz.slices_Compact_int_empty p cap w).mono fun e w' ⟨he', hw⟩ => ?_
    subst hw
    subst he
    have c0 : Lib.compact ([] : List Int) = [] := by simp [Lib.compact, Lib.compactUpTo]
    refine ⟨_, .osl r 1 0 0, h, g, he', ⟨[], by rw [c0]; rfl, ?_, by rw [c0]; simp, by rw [c0]; rfl⟩, H, ha0, GS.refl _ _⟩
    funext t; unfold upd; split
    · rename_i q; rw [q, hr]; rfl
    · rfl
  rcases hc with ⟨hA, h0, h1, h2⟩ | ⟨capv, off, hva, hnc, hm, hic, hoff⟩
  · exact empty (List.eq_nil_of_length_eq_zero h1) _ _ (by rw [hA])
  · by_cases hl0 : l.length = 0
    · exact empty (List.eq_nil_of_length_eq_zero hl0) _ _ (by rw [hva, hl0])
    · have hle2 := (H.obj r _ hr).le
      rw [List.length_map] at hle2
      have hcr : g.cap r ≠ 0 := by omega
      obtain ⟨cur, hcur, hsz2, I⟩ := ints_block H hr (l := l) (by simp) (by rw [← List.length_map (f := eInt), List.take_length]) hcr
      have hof : off = g.bo r := by have := hoff (by omega); omega
      subst hof
      rw [hva]
      have hlt : g.eta r < w.heap.size := (Array.getElem?_eq_some_iff.1 hcur).1
      have cl := Lib.compact_length_le l
      refine (Tryz.slices_Compact_int (g.eta r) (g.bo r) capv l w (holds_ints hcur I) (by omega) (by omega)).mono fun e w' ⟨he, q, hw⟩ => ?_
      generalize hL : Lib.compact l ++ List.replicate (l.length - (Lib.compact l).length) 0 = L at hw
      have sl : L.length = l.length := by rw [← hL, List.length_append, List.length_replicate]; omega
      obtain ⟨b1, b2⟩ := put_row (w := Go.Sort.ahead w q) (b := g.eta r) (bo := g.bo r) (l := L) (cur := cur) hcur
      have hz : (Go.Sort.putRow (Value.int .i64) (Go.Sort.ahead w q) (g.eta r) (g.bo r) L.toArray).heap.size = w.heap.size := by rw [Go.Sort.size_putRow]; rfl
      obtain ⟨S, H'⟩ := put_same (w' := w') (l := L) H hr hcr hcur (by rw [hw]; exact b1) (fun b hb hb2 => by rw [hw]; exact b2 b hb) (by rw [hw, hz]; exact Nat.le_refl _) (by rw [hw]; rfl) (by rw [hw]; rfl) (by rw [hw]; rfl) (by unfold Go.Sort.putCells; simp) (by omega) (put_ints (by omega))
      refine ⟨_, .osl r 1 0 (Lib.compact l).length, _, g, he, ⟨_, rfl, rfl, by rw [List.length_map]; omega, ?_⟩, H', ?_, S⟩
      · rw [← List.map_take, ← hL, List.take_left]
      · exact VRel.osl r 1 0 _ capv _ hrl hsz (by omega) hm (by omega) (fun _ => by omega)
end Go.Proofs.K
end
section
/- Steps: which nodes they touch (plain). -/
set_option linter.unusedSimpArgs false
set_option linter.unusedVariables false
namespace Go.Proofs.K
open Go Go.Sim Go.Proofs
end Go.Proofs.K
end
section
/- Steps: places, names (plain). -/
set_option linter.unusedSimpArgs false
set_option linter.unusedVariables false
namespace Go.Proofs.K
open Go Go.Sim Go.Proofs
end Go.Proofs.K
end
section
/- Ranges after an edit: what a point becomes (plain). -/
set_option linter.unusedSimpArgs false
set_option linter.unusedVariables false
namespace Go.Proofs.K
open Go Go.Sim Go.Proofs
end Go.Proofs.K
end
section
/- Steps: what the program notes. -/
set_option linter.unusedSimpArgs false
set_option linter.unusedVariables false
namespace Go.Proofs.K
open Go Go.Sim Go.Proofs
variable {G : Glob}
end Go.Proofs.K
end
section
/- Ranges after an edit: what the program says. -/
set_option linter.unusedSimpArgs false
set_option linter.unusedVariables false
namespace Go.Proofs.K
open Go Go.Sim Go.Proofs
variable {G : Glob}
theorem bI_t {a b : Int} (h : a = b) : (a == b) = true := by simpa using h
theorem bI_f {a b : Int} (h : ¬ a = b) : (a == b) = false := by simpa using h
theorem bN_t {a b : Int} (h : ¬ a = b) : (a != b) = true := by simpa using h
theorem bN_f {a b : Int} (h : a = b) : (a != b) = false := by simp [h]
end Go.Proofs.K
end
section
/- Steps: one step noted. -/
set_option linter.unusedSimpArgs false
set_option linter.unusedVariables false
namespace Go.Proofs.K
open Go Go.Sim Go.Proofs
variable {G : Glob}
theorem applyE_errR {d : HDoc} (V : DV d) {e : HEdit} (h : applyE d e = 0) : errR d e = 0 := by
  apply Classical.byContradiction; intro h1
  rw [apply_err V h1] at h; exact h1 h
end Go.Proofs.K
end
section
/- Steps: lists of them compared; the reference's step. -/
set_option linter.unusedSimpArgs false
set_option linter.unusedVariables false
namespace Go.Proofs.K
open Go Go.Sim Go.Proofs
variable {G : Glob}
end Go.Proofs.K
end
section
/- Steps: the reference's step. -/
set_option linter.unusedSimpArgs false
set_option linter.unusedVariables false
namespace Go.Proofs.K
open Go Go.Sim Go.Proofs
variable {G : Glob}
end Go.Proofs.K
end
section
/- Steps: Do. -/
set_option linter.unusedSimpArgs false
set_option linter.unusedVariables false
namespace Go.Proofs.K
open Go Go.Sim Go.Proofs
variable {G : Glob}
theorem _root_.Go.Sim.Acc.re {h1 h2 h1' h2' : Heap} {ty : TypeId} {sz : Nat} {cells : List (List AVal)} {a : AVal} (A : Acc h1 ty sz cells a h2) (hd : ∀ r o, h1 r = none → h2 r = some o → h1' r = none ∧ h2' r = some o) : Acc h1' ty sz cells a h2' := by
  rcases A with h | ⟨r, h0, h1, h2⟩
  · exact .inl h
  · exact .inr ⟨r, (hd r _ h0 h1).1, (hd r _ h0 h1).2, h2⟩
theorem _root_.Go.Sim.Acc.vw {h h' : Heap} {ty : TypeId} {sz : Nat} {cells : List (List AVal)} {a : AVal} (A : Acc h ty sz cells a h') (hl : ∀ f ∈ cells, f.length = sz) : Vw (newH h h') a (.slc cells) := by
  rcases A with ⟨rfl, rfl⟩ | ⟨r, h0, h1, rfl⟩
  · exact .emp
  · exact Vw.osl0 (by rw [newH_none h0]; exact h1) rfl (Nat.le_refl _) hl (by rw [List.take_length]; exact F2.refl (F2.refl .refl) _)
end Go.Proofs.K
end
section
/- Steps: the nodes they touch. -/
set_option linter.unusedSimpArgs false
set_option linter.unusedVariables false
namespace Go.Proofs.K
open Go Go.Sim Go.Proofs Go.Shelf
variable {G : Glob}
end Go.Proofs.K
end
section
/- Edits apart: what an edit touches, as the program says it. -/
set_option linter.unusedSimpArgs false
set_option linter.unusedVariables false
namespace Go.Proofs.K
open Go Go.Sim Go.Proofs
variable {G : Glob}
def c105 : SFun := ⟨(.seq (.reg [⟨(some 2), (.boxF 24 2 (.t 0)), none⟩, ⟨(some 4), (.mv (.c (.int .i64 (0)))), none⟩]) (.seq (.block 0 (.loop (.seq (.seq (.reg [⟨(some 5), (.fldA 0 (.t 2)), none⟩, ⟨(some 6), (.ld 1 false (.t 5)), none⟩, ⟨(some 7), (.mv (.t 1)), none⟩, ⟨(some 8), (.idxA 6 (.t 6) (.t 7)), none⟩, ⟨(some 9), (.fldA 4 (.t 8)), none⟩, ⟨(some 10), (.ld 1 false (.t 9)), none⟩, ⟨(some 11), (.bin .geq (.t 10) (.c (.int .i64 (0)))), none⟩]) (.cond (.t 11) .skip (.exit 0))) (.block 1 (.reg [⟨(some 12), (.fldA 0 (.t 2)), none⟩, ⟨(some 13), (.ld 1 false (.t 12)), none⟩, ⟨(some 14), (.mv (.t 1)), none⟩, ⟨(some 15), (.idxA 6 (.t 13) (.t 14)), none⟩, ⟨(some 16), (.fldA 4 (.t 15)), none⟩, ⟨(some 17), (.ld 1 false (.t 16)), none⟩, ⟨(some 1), (.mv (.t 17)), none⟩]))))) (.seq (.reg [⟨(some 18), (.mv (.t 1)), none⟩, ⟨(some 4), (.mv (.t 18)), none⟩]) .ret))), [(.tmp 4)]⟩
theorem hc105 : toSF Tryz.prog {} Tryz.f105 = some c105 := by kernel_rfl
theorem hn105 : (Tryz.f105.name == "runtime.NumGoroutine") = false := by kernel_rfl
theorem aroot_ok (d : HDoc) (V : DV d) (n : Int) (hn : inD d n) : PCalls (Pg G) 105 [.agg (eDoc d), aInt n] (aInt (topM d n)) := fun h => by
  have vl := V.len
  refine dcalls_of_vc Tryz.func105 hn105 hc105 (by rw [Tryz.ntmps105]; simp) (by rw [Tryz.ntmps105]; decide) ?_
  simp -dsimp -implicitDefEqProofs (disch := omega) only [VCA, Nat.reduceAdd, c105, eDoc]
  refine LoopVC.intro (fun m E h' => ∃ k : Int, inD d k ∧ m = up d k ∧ E 2 = .pin (eDoc d) ∧ E 1 = aInt k ∧ topM d k = topM d n ∧ h' = h) (up d n) ⟨n, hn, rfl, rfl, rfl, rfl, rfl⟩ ?_
  rintro m E h' ⟨k, hk, rfl, E2, E1, hT, rfl⟩
  have k0 := hk.1
  have k1 := hk.2
  have e0 : nth d.nodes k.toNat = nd d k := rfl
  by_cases hp : 0 ≤ (nd d k).parent
  · have hP := (V.par_in hk hp).1
    have hu := V.up_par hk hp
    rw [top_up V hk hp] at hT
    repeat' (first | ((with_reducible refine Br.dec (fun _ => ?_) (fun _ => ?_)) <;> try (exfalso; omega)) | ((with_reducible refine Br.eq (fun _ => ?_) (fun _ => ?_)) <;> try (exfalso; omega)) | ((with_reducible refine Br.ne (fun _ => ?_) (fun _ => ?_)) <;> try (exfalso; omega)) | ((with_reducible refine brNdec (fun _ => ?_) (fun _ => ?_)) <;> try (exfalso; omega)) | ((with_reducible refine brNeq (fun _ => ?_) (fun _ => ?_)) <;> try (exfalso; omega)) | with_reducible refine Br.intro (fun _ => ?_) (fun _ => ?_) | (with_reducible refine And.intro ?_ ?_; · omega) | simp -dsimp -implicitDefEqProofs (disch := omega) only [VCA, Nat.reduceEqDiff, Nat.reduceAdd, Nat.reduceLeDiff, ↓reduceIte, E2, E1, eDoc, eNode, e0])
    all_goals first
      | (exfalso; omega)
      | exact ⟨_, by omega, _, hP, rfl, rfl, hT⟩
      | trace_state
  · rw [top_top V hp] at hT
    repeat' (first | ((with_reducible refine Br.dec (fun _ => ?_) (fun _ => ?_)) <;> try (exfalso; omega)) | ((with_reducible refine Br.eq (fun _ => ?_) (fun _ => ?_)) <;> try (exfalso; omega)) | ((with_reducible refine Br.ne (fun _ => ?_) (fun _ => ?_)) <;> try (exfalso; omega)) | ((with_reducible refine brNdec (fun _ => ?_) (fun _ => ?_)) <;> try (exfalso; omega)) | ((with_reducible refine brNeq (fun _ => ?_) (fun _ => ?_)) <;> try (exfalso; omega)) | with_reducible refine Br.intro (fun _ => ?_) (fun _ => ?_) | (with_reducible refine And.intro ?_ ?_; · omega) | simp -dsimp -implicitDefEqProofs (disch := omega) only [VCA, Nat.reduceEqDiff, Nat.reduceAdd, Nat.reduceLeDiff, ↓reduceIte, exists_eq_right_right, E2, E1, eDoc, eNode, e0])
    all_goals first
      | (exfalso; omega)
      | (rw [hT]; exact Sub.refl _)
      | (rw [hT]; exact ⟨Sub.refl _, rfl⟩)
      | exact ⟨Sub.refl _, by rw [hT]⟩
      | trace_state
/-- a list of the call's own, in order, each once: as data -/
theorem once_out {h H : Heap} {r : Nat} {es : List (List AVal)} {l : List Int} (h0 : h r = none) (hr : H r = some ⟨.t 3, 1, es⟩) (hle : l.length ≤ es.length) (ht : es.take l.length = l.map eInt) : VwT (newH h H) (.osl r 1 0 l.length) (sl eInt l) :=
  .one _ _ (Vw.osl0 (o := ⟨3, 1, es⟩) (by rw [newH_none h0]; exact hr) (by rw [List.length_map]) hle (fun f hf => by obtain ⟨x, _, rfl⟩ := List.mem_map.1 hf; rfl) (by
    show F2 (F2 (Vw _)) (es.take l.length) (l.map eInt)
    rw [ht]; exact F2.refl (F2.refl .refl) _))
def c65_s3 : SCode := (.seq (.reg [⟨(some 47), (.mv (.t 5)), none⟩, ⟨(some 48), (.call (.c (.fn 73 [] [])) [(.t 47)]), none⟩]) (.seq (.reg [⟨(some 49), (.mv (.t 5)), none⟩, ⟨(some 50), (.call (.c (.fn 74 [] [])) [(.t 49)]), none⟩, ⟨(some 4), (.mv (.t 50)), none⟩]) .ret))
def c65 : SFun := ⟨(.seq (.reg [⟨(some 2), (.boxF 24 2 (.t 0)), none⟩, ⟨(some 3), (.boxF 42 12 (.t 1)), none⟩, ⟨(some 4), (.mv (.c .emp)), none⟩]) (.seq (.reg [⟨(some 7), (.fldA 1 (.t 3)), none⟩, ⟨(some 8), (.ld 1 false (.t 7)), none⟩, ⟨(some 9), (.bldR 3 1 [(.t 8)]), none⟩, ⟨(some 5), (.mv (.t 9)), none⟩]) (.seq (.seq (.reg [⟨(some 10), (.fldA 0 (.t 3)), none⟩, ⟨(some 11), (.ld 1 false (.t 10)), none⟩]) (.block 0 (.seq (.reg [⟨(some 13), (.bin .eql (.t 11) (.c (.int .i64 (4)))), none⟩, ⟨(some 12), (.mv (.t 13)), none⟩]) (.cond (.t 12) (.reg [⟨(some 14), (.fldA 0 (.t 2)), none⟩, ⟨(some 15), (.ld 1 false (.t 14)), none⟩, ⟨(some 16), (.len (.t 15)), none⟩, ⟨(some 17), (.bldR 3 1 [(.t 16)]), none⟩, ⟨(some 5), (.mv (.t 17)), none⟩]) (.seq (.reg [⟨(some 19), (.bin .eql (.t 11) (.c (.int .i64 (5)))), none⟩, ⟨(some 18), (.mv (.t 19)), none⟩]) (.cond (.t 18) (.seq (.reg [⟨(some 20), (.mv (.t 5)), none⟩, ⟨(some 21), (.fldA 2 (.t 3)), none⟩, ⟨(some 22), (.ld 1 false (.t 21)), none⟩, ⟨(some 23), (.bldF 3 1 [(.t 22)]), none⟩, ⟨(some 24), (.app 3 1 8 (.t 20) (.t 23)), none⟩, ⟨(some 5), (.mv (.t 24)), none⟩]) (.seq (.reg [⟨(some 25), (.ld 2 true (.t 2)), none⟩, ⟨(some 26), (.fldA 1 (.t 3)), none⟩, ⟨(some 27), (.ld 1 false (.t 26)), none⟩, ⟨(some 28), (.pcall 105 [(.t 25), (.t 27)]), none⟩, ⟨(some 6), (.mv (.t 28)), none⟩]) (.seq (.reg [⟨(some 29), (.mv (.t 6)), none⟩, ⟨(some 30), (.bin .gtr (.t 29) (.c (.int .i64 (0)))), none⟩]) (.cond (.t 30) (.reg [⟨(some 31), (.mv (.t 5)), none⟩, ⟨(some 32), (.mv (.t 6)), none⟩, ⟨(some 33), (.bldF 3 1 [(.t 32)]), none⟩, ⟨(some 34), (.app 3 1 8 (.t 31) (.t 33)), none⟩, ⟨(some 5), (.mv (.t 34)), none⟩]) .skip)))) (.seq (.reg [⟨(some 36), (.bin .eql (.t 11) (.c (.int .i64 (6)))), none⟩, ⟨(some 35), (.mv (.t 36)), none⟩]) (.cond (.t 35) (.reg [⟨(some 37), (.mv (.t 5)), none⟩, ⟨(some 38), (.fldA 0 (.t 2)), none⟩, ⟨(some 39), (.ld 1 false (.t 38)), none⟩, ⟨(some 40), (.fldA 1 (.t 3)), none⟩, ⟨(some 41), (.ld 1 false (.t 40)), none⟩, ⟨(some 42), (.idxA 6 (.t 39) (.t 41)), none⟩, ⟨(some 43), (.fldA 4 (.t 42)), none⟩, ⟨(some 44), (.ld 1 false (.t 43)), none⟩, ⟨(some 45), (.bldF 3 1 [(.t 44)]), none⟩, ⟨(some 46), (.app 3 1 8 (.t 37) (.t 45)), none⟩, ⟨(some 5), (.mv (.t 46)), none⟩]) .skip)))))))) c65_s3))), [(.tmp 4)]⟩
theorem hc65 : toSF Tryz.prog {pure := [105], how := [(9, 2), (17, 2)]} Tryz.f65 = some c65 := by kernel_rfl
theorem hn65 : (Tryz.f65.name == "runtime.NumGoroutine") = false := by kernel_rfl
set_option maxHeartbeats 1000000 in
set_option maxRecDepth 10000 in
theorem atouched_end {h H : Heap} {E : Env} {r : Nat} {l : List Int} (h0 : h r = none) (S : Sub h H) (hl : l.length ≤ 100000) (hr : H r = some ⟨.t 3, 1, l.map eInt⟩) (E5 : E 5 = .osl r 1 0 l.length) :
    vc (Pg G) c65_s3 (retK [.tmp 4] fun a h' => Sub h h' ∧ VwT (newH h h') a (sl eInt (onceL l))) E H := by
  have hS := sortI_ok (G := G) (h := H) (r := r) (l := l) hr hl
  have hC := compactI_ok (G := G) (h := upd H r (some ⟨.t 3, 1, (sortL l).map eInt⟩)) (upd_same _ _ _) (by rw [sortL_len]; exact hl)
  rw [sortL_len] at hC
  rw [show Lib.compact (sortL l) = onceL l from rfl] at hC
  unfold c65_s3
  skip
  simp -dsimp -implicitDefEqProofs (disch := omega) only [VCA, ↓reduceIte, E5]
  repeat' (first | ((with_reducible refine Br.dec (fun _ => ?_) (fun _ => ?_)) <;> try (exfalso; omega)) | ((with_reducible refine Br.eq (fun _ => ?_) (fun _ => ?_)) <;> try (exfalso; omega)) | ((with_reducible refine Br.ne (fun _ => ?_) (fun _ => ?_)) <;> try (exfalso; omega)) | ((with_reducible refine brNdec (fun _ => ?_) (fun _ => ?_)) <;> try (exfalso; omega)) | ((with_reducible refine brNeq (fun _ => ?_) (fun _ => ?_)) <;> try (exfalso; omega)) | with_reducible refine Br.intro (fun _ => ?_) (fun _ => ?_) | ((refine DCalls.of hS ?_; rintro _ _ ⟨rfl, rfl⟩)) | ((refine DCalls.of hC ?_; rintro _ _ ⟨es, rfl, rfl, e1, e2⟩)) | (with_reducible refine And.intro ?_ ?_; · omega) | simp -dsimp -implicitDefEqProofs (disch := omega) only [VCA, Nat.reduceEqDiff, ↓reduceIte, E5])
  exact ⟨_, Sub.refl _, S.upd h0, once_out h0 (upd_same _ _ _) e1 e2⟩
set_option maxHeartbeats 1000000 in
set_option maxRecDepth 10000 in
theorem atouched_ok (d : HDoc) (V : DV d) (e : HEdit) (h0 : errR d e = 0) : PCalls (Pg G) 65 [.agg (eDoc d), .agg (eEdit e)] (sl eInt (touchL d e)) := PCalls.outV fun h => by
  have vl := V.len
  unfold touchL
  refine dcalls_of_vc Tryz.func65 hn65 hc65 (by rw [Tryz.ntmps65]; simp) (by rw [Tryz.ntmps65]; decide) ?_
  by_cases h4 : e.do' = 4
  · have hr4 : rawL d e = [(d.nodes.length : Int)] := by unfold rawL; rw [if_pos h4]
    rw [hr4]
    have b4 := bI_t h4
    simp -dsimp -implicitDefEqProofs (disch := omega) only [VCA, ↓upd_none, Nat.reduceEqDiff, Nat.reduceAdd, Nat.reduceLeDiff, ↓reduceIte, okParts, ne_eq, lit_eq, c65, eDoc, eEdit, b4]
    intro r9 hr9 r17 hr17
    exact atouched_end (l := [(d.nodes.length : Int)]) hr17.2 (((Sub.refl h).upd hr9).upd hr17.2) (by simp) (upd_same _ _ _) rfl
  have b4 := bI_f h4
  obtain ⟨do1, do6, hA, hT⟩ := errR_at h0 (by omega)
  have hA0 := hA.1
  have hA1 := hA.2
  have e0 : nth d.nodes e.at'.toNat = nd d e.at' := rfl
  by_cases h5 : e.do' = 5
  · have b5 := bI_t h5
    have hR := aroot_ok (G := G) d V e.at' hA
    unfold eDoc at hR
    by_cases ht : 0 < topM d e.at'
    · have hr5 : rawL d e = [e.at', e.to, topM d e.at'] := by unfold rawL; rw [if_neg h4, if_pos h5, if_pos ht]
      rw [hr5]
      simp -dsimp -implicitDefEqProofs (disch := omega) only [VCA, Nat.reduceEqDiff, Nat.reduceAdd, Nat.reduceMul, Nat.reduceLeDiff, ↓reduceIte, okParts, forall_eq, exists_eq_left, exists_eq_left', lit_eq, c65, eDoc, eEdit, b4, b5]
      intro r9 hr9
      repeat' (first | ((with_reducible refine Br.dec (fun _ => ?_) (fun _ => ?_)) <;> try (exfalso; omega)) | ((with_reducible refine Br.eq (fun _ => ?_) (fun _ => ?_)) <;> try (exfalso; omega)) | ((with_reducible refine Br.ne (fun _ => ?_) (fun _ => ?_)) <;> try (exfalso; omega)) | ((with_reducible refine brNdec (fun _ => ?_) (fun _ => ?_)) <;> try (exfalso; omega)) | ((with_reducible refine brNeq (fun _ => ?_) (fun _ => ?_)) <;> try (exfalso; omega)) | with_reducible refine Br.intro (fun _ => ?_) (fun _ => ?_) | (with_reducible refine And.intro ?_ ?_; · omega) | simp -dsimp -implicitDefEqProofs (disch := omega) only [VCA, pg_gl, ↓upd_none, Nat.reduceEqDiff, Nat.reduceBEq, Nat.reduceAdd, Nat.reduceSub, Nat.reduceMul, Nat.reduceLT, Nat.reduceLeDiff, ↓reduceIte, reduceCtorEq, rsOf, rootsOf, SOp.rd, SI.rd, SX.rd, rdL, rdO, rdP, okParts, eqCells, okEqCells, fillA, okFill, setAt, implies_true, forall_const, forall_eq, ne_eq, exists_eq_right_right, exists_eq_right, exists_eq_left, exists_eq_left', rootL, eInt, eBool, lit_eq, eDoc, eEdit, upd_same])
      intro r1 hr1
      rw [del_upd0 hr9] at hr1 ⊢
      repeat' (first | ((with_reducible refine Br.dec (fun _ => ?_) (fun _ => ?_)) <;> try (exfalso; omega)) | ((with_reducible refine Br.eq (fun _ => ?_) (fun _ => ?_)) <;> try (exfalso; omega)) | ((with_reducible refine Br.ne (fun _ => ?_) (fun _ => ?_)) <;> try (exfalso; omega)) | ((with_reducible refine brNdec (fun _ => ?_) (fun _ => ?_)) <;> try (exfalso; omega)) | ((with_reducible refine brNeq (fun _ => ?_) (fun _ => ?_)) <;> try (exfalso; omega)) | with_reducible refine Br.intro (fun _ => ?_) (fun _ => ?_) | (with_reducible apply pcallE.of; · exact hR) | (with_reducible refine And.intro ?_ ?_; · omega) | simp -dsimp -implicitDefEqProofs (disch := omega) only [VCA, Nat.reduceEqDiff, Nat.reduceAdd, Nat.reduceMul, Nat.reduceLeDiff, ↓reduceIte, okParts, forall_eq, exists_eq_left, exists_eq_left'])
      all_goals try (exfalso; omega)
      intro r2 hr2
      rw [del_upd0 hr1] at hr2 ⊢
      exact atouched_end (l := [e.at', e.to, topM d e.at']) hr2 ((Sub.refl h).upd hr2) (by simp) (upd_same _ _ _) rfl
    · have hr5 : rawL d e = [e.at', e.to] := by unfold rawL; rw [if_neg h4, if_pos h5, if_neg ht]
      rw [hr5]
      simp -dsimp -implicitDefEqProofs (disch := omega) only [VCA, Nat.reduceEqDiff, Nat.reduceAdd, Nat.reduceMul, Nat.reduceLeDiff, ↓reduceIte, okParts, forall_eq, exists_eq_left, exists_eq_left', lit_eq, c65, eDoc, eEdit, b4, b5]
      intro r9 hr9
      repeat' (first | ((with_reducible refine Br.dec (fun _ => ?_) (fun _ => ?_)) <;> try (exfalso; omega)) | ((with_reducible refine Br.eq (fun _ => ?_) (fun _ => ?_)) <;> try (exfalso; omega)) | ((with_reducible refine Br.ne (fun _ => ?_) (fun _ => ?_)) <;> try (exfalso; omega)) | ((with_reducible refine brNdec (fun _ => ?_) (fun _ => ?_)) <;> try (exfalso; omega)) | ((with_reducible refine brNeq (fun _ => ?_) (fun _ => ?_)) <;> try (exfalso; omega)) | with_reducible refine Br.intro (fun _ => ?_) (fun _ => ?_) | (with_reducible refine And.intro ?_ ?_; · omega) | simp -dsimp -implicitDefEqProofs (disch := omega) only [VCA, pg_gl, ↓upd_none, Nat.reduceEqDiff, Nat.reduceBEq, Nat.reduceAdd, Nat.reduceSub, Nat.reduceMul, Nat.reduceLT, Nat.reduceLeDiff, ↓reduceIte, reduceCtorEq, rsOf, rootsOf, SOp.rd, SI.rd, SX.rd, rdL, rdO, rdP, okParts, eqCells, okEqCells, fillA, okFill, setAt, implies_true, forall_const, forall_eq, ne_eq, exists_eq_right_right, exists_eq_right, exists_eq_left, exists_eq_left', rootL, eInt, eBool, lit_eq, eDoc, eEdit, upd_same])
      intro r1 hr1
      rw [del_upd0 hr9] at hr1 ⊢
      repeat' (first | ((with_reducible refine Br.dec (fun _ => ?_) (fun _ => ?_)) <;> try (exfalso; omega)) | ((with_reducible refine Br.eq (fun _ => ?_) (fun _ => ?_)) <;> try (exfalso; omega)) | ((with_reducible refine Br.ne (fun _ => ?_) (fun _ => ?_)) <;> try (exfalso; omega)) | ((with_reducible refine brNdec (fun _ => ?_) (fun _ => ?_)) <;> try (exfalso; omega)) | ((with_reducible refine brNeq (fun _ => ?_) (fun _ => ?_)) <;> try (exfalso; omega)) | with_reducible refine Br.intro (fun _ => ?_) (fun _ => ?_) | (with_reducible apply pcallE.of; · exact hR) | (with_reducible refine And.intro ?_ ?_; · omega) | simp -dsimp -implicitDefEqProofs (disch := omega) only [VCA, Nat.reduceAdd, ↓reduceIte])
      all_goals try (exfalso; omega)
      exact atouched_end (l := [e.at', e.to]) hr1 ((Sub.refl h).upd hr1) (by simp) (upd_same _ _ _) rfl
  have b5 := bI_f h5
  by_cases h6 : e.do' = 6
  · have b6 := bI_t h6
    have hr6 : rawL d e = [e.at', (nd d e.at').parent] := by unfold rawL; rw [if_neg h4, if_neg h5, if_pos h6]
    rw [hr6]
    simp -dsimp -implicitDefEqProofs (disch := omega) only [VCA, Nat.reduceEqDiff, Nat.reduceAdd, Nat.reduceMul, Nat.reduceLeDiff, ↓reduceIte, okParts, forall_eq, exists_eq_left, exists_eq_left', lit_eq, c65, eDoc, eEdit, eNode, b4, b5, b6, e0]
    intro r9 hr9
    repeat' (first | ((with_reducible refine Br.dec (fun _ => ?_) (fun _ => ?_)) <;> try (exfalso; omega)) | ((with_reducible refine Br.eq (fun _ => ?_) (fun _ => ?_)) <;> try (exfalso; omega)) | ((with_reducible refine Br.ne (fun _ => ?_) (fun _ => ?_)) <;> try (exfalso; omega)) | ((with_reducible refine brNdec (fun _ => ?_) (fun _ => ?_)) <;> try (exfalso; omega)) | ((with_reducible refine brNeq (fun _ => ?_) (fun _ => ?_)) <;> try (exfalso; omega)) | with_reducible refine Br.intro (fun _ => ?_) (fun _ => ?_) | (with_reducible refine And.intro ?_ ?_; · omega) | simp -dsimp -implicitDefEqProofs (disch := omega) only [VCA, pg_gl, ↓upd_none, Nat.reduceEqDiff, Nat.reduceBEq, Nat.reduceAdd, Nat.reduceSub, Nat.reduceMul, Nat.reduceLT, Nat.reduceLeDiff, ↓reduceIte, reduceCtorEq, rsOf, rootsOf, SOp.rd, SI.rd, SX.rd, rdL, rdO, rdP, okParts, eqCells, okEqCells, fillA, okFill, setAt, implies_true, forall_const, forall_eq, ne_eq, exists_eq_right_right, exists_eq_right, exists_eq_left, exists_eq_left', rootL, eInt, eBool, lit_eq, eDoc, eEdit, eNode, e0, upd_same])
    intro r1 hr1
    rw [del_upd0 hr9] at hr1 ⊢
    exact atouched_end (l := [e.at', (nd d e.at').parent]) hr1 ((Sub.refl h).upd hr1) (by simp) (upd_same _ _ _) rfl
  · have b6 := bI_f h6
    have hr6 : rawL d e = [e.at'] := by unfold rawL; rw [if_neg h4, if_neg h5, if_neg h6]
    rw [hr6]
    simp -dsimp -implicitDefEqProofs (disch := omega) only [VCA, Nat.reduceEqDiff, Nat.reduceAdd, Nat.reduceLeDiff, ↓reduceIte, okParts, lit_eq, c65, eDoc, eEdit, b4, b5, b6]
    intro r9 hr9
    exact atouched_end (l := [e.at']) hr9 ((Sub.refl h).upd hr9) (by simp) (upd_same _ _ _) rfl
end Go.Proofs.K
end
section
/- Edits apart: Touch, Clash. -/
set_option linter.unusedSimpArgs false
set_option linter.unusedVariables false
namespace Go.Proofs.K
open Go Go.Sim Go.Proofs
variable {G : Glob}
def c29 : SFun := ⟨(.seq (.reg [⟨(some 2), (.boxF 24 2 (.t 0)), none⟩, ⟨(some 3), (.boxF 42 12 (.t 1)), none⟩, ⟨(some 4), (.mv (.c .emp)), none⟩, ⟨(some 5), (.mv (.c (.int .i64 (0)))), none⟩]) (.seq (.seq (.reg [⟨(some 10), (.ld 2 true (.t 2)), none⟩, ⟨(some 11), (.ld 12 true (.t 3)), none⟩, ⟨(some 12), (.pcall 39 [(.t 10), (.t 11)]), none⟩, ⟨(some 9), (.mv (.t 12)), none⟩, ⟨(some 13), (.ext (.t 9) 0), none⟩, ⟨(some 14), (.ext (.t 9) 1), none⟩, ⟨(some 15), (.ext (.t 9) 2), none⟩, ⟨(some 6), (.new 24 2 [.emp, (.bool false)]), none⟩, ⟨none, (.st 2 (.t 6) (.t 13)), none⟩, ⟨(some 7), (.mv (.t 14)), none⟩, ⟨(some 8), (.mv (.t 15)), none⟩]) (.seq (.reg [⟨(some 16), (.mv (.t 8)), none⟩, ⟨(some 17), (.bin .neq (.t 16) (.c (.int .i64 (0)))), none⟩]) (.cond (.t 17) (.seq (.reg [⟨(some 18), (.mv (.t 8)), none⟩, ⟨(some 4), (.mv (.c .emp)), none⟩, ⟨(some 5), (.mv (.t 18)), none⟩]) .ret) .skip))) (.seq (.reg [⟨(some 19), (.ld 2 true (.t 2)), none⟩, ⟨(some 20), (.ld 12 true (.t 3)), none⟩, ⟨(some 21), (.pcall 65 [(.t 19), (.t 20)]), none⟩, ⟨(some 4), (.mv (.t 21)), none⟩, ⟨(some 5), (.mv (.c (.int .i64 (0)))), none⟩]) .ret))), [(.tmp 4), (.tmp 5)]⟩
theorem hc29 : toSF Tryz.prog {pure := [39, 65]} Tryz.f29 = some c29 := by kernel_rfl
theorem hn29 : (Tryz.f29.name == "runtime.NumGoroutine") = false := by kernel_rfl
theorem atouch_ok (d : HDoc) (sm : DocSm d) (e : HEdit) (he : EditSm e) : PCalls (Pg G) 29 [.agg (eDoc d), .agg (eEdit e)] (.tup [if applyE d e = 0 then sl eInt (touchL d e) else .emp, aInt (applyE d e)]) := fun h => by
  have hA := apply_ok (G := G) d sm e he
  by_cases h1 : applyE d e = 0
  · have V : DV d := by
      apply docE_DV
      apply Classical.byContradiction; intro hn
      unfold applyE at h1; rw [if_pos hn] at h1; exact hn h1
    have hT := atouched_ok (G := G) d V e (applyE_errR V h1)
    rw [if_pos h1]
    rw [h1] at hA ⊢
    refine dcalls_of_vc Tryz.func29 hn29 hc29 (by rw [Tryz.ntmps29]; simp) (by rw [Tryz.ntmps29]; decide) ?_
    simp -dsimp -implicitDefEqProofs (disch := omega) only [VCA, Nat.reduceEqDiff, ↓reduceIte, c29, eDoc_len, eDoc_take, eEdit_len, eEdit_take]
    repeat' (first | ((with_reducible refine Br.dec (fun _ => ?_) (fun _ => ?_)) <;> try (exfalso; omega)) | ((with_reducible refine Br.eq (fun _ => ?_) (fun _ => ?_)) <;> try (exfalso; omega)) | ((with_reducible refine Br.ne (fun _ => ?_) (fun _ => ?_)) <;> try (exfalso; omega)) | ((with_reducible refine brNdec (fun _ => ?_) (fun _ => ?_)) <;> try (exfalso; omega)) | ((with_reducible refine brNeq (fun _ => ?_) (fun _ => ?_)) <;> try (exfalso; omega)) | with_reducible refine Br.intro (fun _ => ?_) (fun _ => ?_) | (with_reducible apply pcallE.of; · exact hA) | (with_reducible refine And.intro ?_ ?_; · omega) | simp -dsimp -implicitDefEqProofs (disch := omega) only [VCA, Nat.reduceEqDiff, Nat.reduceAdd, Nat.reduceLT, ↓reduceIte, setAt, exists_eq_left', eDoc_len])
    intro r6 hr6
    repeat' (first | ((with_reducible refine Br.dec (fun _ => ?_) (fun _ => ?_)) <;> try (exfalso; omega)) | ((with_reducible refine Br.eq (fun _ => ?_) (fun _ => ?_)) <;> try (exfalso; omega)) | ((with_reducible refine Br.ne (fun _ => ?_) (fun _ => ?_)) <;> try (exfalso; omega)) | ((with_reducible refine brNdec (fun _ => ?_) (fun _ => ?_)) <;> try (exfalso; omega)) | ((with_reducible refine brNeq (fun _ => ?_) (fun _ => ?_)) <;> try (exfalso; omega)) | with_reducible refine Br.intro (fun _ => ?_) (fun _ => ?_) | (with_reducible apply pcallE.of; · exact hT) | (with_reducible refine And.intro ?_ ?_; · omega) | simp -dsimp -implicitDefEqProofs (disch := omega) only [VCA, Nat.reduceEqDiff, ↓reduceIte, exists_eq_right, eDoc_len, eDoc_take, eEdit_len, eEdit_take])
    all_goals first | exact (Sub.refl h).upd hr6 | exact ⟨(Sub.refl h).upd hr6, rfl⟩ | trace_state
  · rw [if_neg h1]
    have b1 : (applyE d e != 0) = true := bN_t h1
    refine dcalls_of_vc Tryz.func29 hn29 hc29 (by rw [Tryz.ntmps29]; simp) (by rw [Tryz.ntmps29]; decide) ?_
    simp -dsimp -implicitDefEqProofs (disch := omega) only [VCA, Nat.reduceEqDiff, ↓reduceIte, c29, eDoc_len, eDoc_take, eEdit_len, eEdit_take]
    repeat' (first | ((with_reducible refine Br.dec (fun _ => ?_) (fun _ => ?_)) <;> try (exfalso; omega)) | ((with_reducible refine Br.eq (fun _ => ?_) (fun _ => ?_)) <;> try (exfalso; omega)) | ((with_reducible refine Br.ne (fun _ => ?_) (fun _ => ?_)) <;> try (exfalso; omega)) | ((with_reducible refine brNdec (fun _ => ?_) (fun _ => ?_)) <;> try (exfalso; omega)) | ((with_reducible refine brNeq (fun _ => ?_) (fun _ => ?_)) <;> try (exfalso; omega)) | with_reducible refine Br.intro (fun _ => ?_) (fun _ => ?_) | (with_reducible apply pcallE.of; · exact hA) | (with_reducible refine And.intro ?_ ?_; · omega) | simp -dsimp -implicitDefEqProofs (disch := omega) only [VCA, Nat.reduceEqDiff, Nat.reduceAdd, Nat.reduceLT, ↓reduceIte, setAt, exists_eq_left', eDoc_len])
    intro r6 hr6
    repeat' (first | ((with_reducible refine Br.dec (fun _ => ?_) (fun _ => ?_)) <;> try (exfalso; omega)) | ((with_reducible refine Br.eq (fun _ => ?_) (fun _ => ?_)) <;> try (exfalso; omega)) | ((with_reducible refine Br.ne (fun _ => ?_) (fun _ => ?_)) <;> try (exfalso; omega)) | ((with_reducible refine brNdec (fun _ => ?_) (fun _ => ?_)) <;> try (exfalso; omega)) | ((with_reducible refine brNeq (fun _ => ?_) (fun _ => ?_)) <;> try (exfalso; omega)) | with_reducible refine Br.intro (fun _ => ?_) (fun _ => ?_) | (with_reducible refine And.intro ?_ ?_; · omega) | simp -dsimp -implicitDefEqProofs (disch := omega) only [VCA, Nat.reduceEqDiff, ↓reduceIte, exists_eq_right, b1])
    all_goals first | exact (Sub.refl h).upd hr6 | exact ⟨(Sub.refl h).upd hr6, rfl⟩ | trace_state
end Go.Proofs.K
end
section
/- Edits apart: Clash. -/
set_option linter.unusedSimpArgs false
set_option linter.unusedVariables false
namespace Go.Proofs.K
open Go Go.Sim Go.Proofs
variable {G : Glob}
def c106 : SFun := ⟨(.seq (.reg [⟨(some 4), (.mv (.c (.int .i64 (0)))), none⟩]) (.seq (.seq (.reg [⟨(some 6), (.mv (.t 0)), none⟩, ⟨(some 7), (.len (.t 6)), none⟩, ⟨(some 8), (.mv (.c (.int .i64 (0)))), none⟩]) (.block 0 (.loop (.seq (.reg [⟨(some 9), (.bin .lss (.t 8) (.t 7)), none⟩]) (.seq (.cond (.t 9) .skip (.exit 0)) (.seq (.block 1 (.seq (.reg [⟨(some 10), (.mv (.t 8)), none⟩, ⟨(some 5), (.mv (.t 10)), none⟩]) (.seq (.reg [⟨(some 11), (.mv (.t 1)), none⟩, ⟨(some 12), (.mv (.t 0)), none⟩, ⟨(some 13), (.mv (.t 5)), none⟩, ⟨(some 14), (.idxA 1 (.t 12) (.t 13)), none⟩, ⟨(some 15), (.ld 1 false (.t 14)), none⟩, ⟨(some 16), (.call (.t 11) [(.t 15)]), none⟩]) (.cond (.t 16) (.seq (.reg [⟨(some 17), (.mv (.t 5)), none⟩, ⟨(some 4), (.mv (.t 17)), none⟩]) .ret) .skip)))) (.reg [⟨(some 18), (.bin .add (.t 8) (.c (.int .i64 (1)))), none⟩, ⟨(some 8), (.mv (.t 18)), none⟩]))))))) (.seq (.reg [⟨(some 4), (.mv (.c (.int .i64 (-1)))), none⟩]) .ret))), [(.tmp 4)]⟩
theorem hc106 : toSF Tryz.prog {} Tryz.f106 = some c106 := by kernel_rfl
theorem hn106 : (Tryz.f106.name == "runtime.NumGoroutine") = false := by kernel_rfl
theorem indexFI_ok {h : Heap} (l : List Int) (f : Nat) (a b : List AVal) (p : Int → Bool) (hl : l.length ≤ 1073741824)
    (hp : ∀ x, DCalls (Pg G) f (a ++ ([aInt x] ++ b)) h fun r h' => r = .bool (p x) ∧ h' = h) : DCalls (Pg G) 106 [sl eInt l, .fn f a b] h fun r h' => r = aInt (idxM p l) ∧ h' = h := by
  refine dcalls_of_vc Tryz.func106 hn106 hc106 (by rw [Tryz.ntmps106]; simp) (by rw [Tryz.ntmps106]; decide) ?_
  simp -dsimp -implicitDefEqProofs (disch := omega) only [VCA, ↓reduceIte, reduceCtorEq, c106]
  refine LoopVC.intro (fun m e h' => ∃ k : Nat, k ≤ l.length ∧ m = l.length - k ∧ e 0 = sl eInt l ∧ e 1 = .fn f a b ∧ e 7 = aInt l.length ∧ e 8 = aInt k ∧ h' = h ∧ ∀ j, j < k → p (nth l j) = false) _ ⟨0, by omega, rfl, rfl, rfl, rfl, rfl, rfl, by omega⟩ ?_
  rintro m e h' ⟨k, hk, rfl, he0, he1, he7, he8, rfl, hj⟩
  simp -dsimp -implicitDefEqProofs (disch := omega) only [VCA, ↓reduceIte, he7, he8]
  refine Br.dec (fun hlt => ?_) (fun hge => ?_)
  · simp -dsimp -implicitDefEqProofs (disch := omega) only [VCA, Nat.reduceEqDiff, ↓reduceIte, reduceCtorEq, eInt, he0, he1, he8, eInt]
    refine ⟨by omega, DCalls.of (hp (nth l k)) ?_⟩
    rintro r h' ⟨rfl, rfl⟩
    simp -dsimp -implicitDefEqProofs (disch := omega) only [VCA, ↓reduceIte]
    refine Br.intro (fun ht => ?_) (fun hf => ?_)
    · simp -dsimp -implicitDefEqProofs (disch := omega) only [VCA, Nat.reduceEqDiff, ↓reduceIte, exists_eq_right_right]
      rw [idxM_some (by omega) hj ht]; exact ⟨Sub.refl _, rfl⟩
    · simp -dsimp -implicitDefEqProofs (disch := omega) only [VCA, Nat.reduceEqDiff, ↓reduceIte, reduceCtorEq, he0, he1, he7, he8]
      refine ⟨_, ?_, k + 1, by omega, rfl, by omega, fun j hj' => ?_⟩
      · omega
      · by_cases h1 : j = k
        · subst h1; exact hf
        · exact hj j (by omega)
  · simp -dsimp -implicitDefEqProofs (disch := omega) only [VCA, ↓reduceIte, exists_eq_right_right]
    rw [idxM_none (fun j hj' => hj j (by omega))]; exact ⟨Sub.refl _, rfl⟩
def c66 : SFun := ⟨(.seq (.reg [⟨(some 4), (.mv (.c (.bool false))), none⟩]) (.seq (.reg [⟨(some 5), (.mv (.t 0)), none⟩, ⟨(some 6), (.mv (.t 1)), none⟩, ⟨(some 7), (.call (.c (.fn 106 [] [])) [(.t 5), (.t 6)]), none⟩, ⟨(some 8), (.bin .geq (.t 7) (.c (.int .i64 (0)))), none⟩, ⟨(some 4), (.mv (.t 8)), none⟩]) .ret)), [(.tmp 4)]⟩
theorem hc66 : toSF Tryz.prog {} Tryz.f66 = some c66 := by kernel_rfl
theorem hn66 : (Tryz.f66.name == "runtime.NumGoroutine") = false := by kernel_rfl
theorem containsFI_ok {h : Heap} (l : List Int) (f : Nat) (a b : List AVal) (p : Int → Bool) (hl : l.length ≤ 1073741824)
    (hp : ∀ x, DCalls (Pg G) f (a ++ ([aInt x] ++ b)) h fun r h' => r = .bool (p x) ∧ h' = h) : DCalls (Pg G) 66 [sl eInt l, .fn f a b] h fun r h' => r = .bool (l.any p) ∧ h' = h := by
  refine dcalls_of_vc Tryz.func66 hn66 hc66 (by rw [Tryz.ntmps66]; simp) (by rw [Tryz.ntmps66]; decide) ?_
  simp -dsimp -implicitDefEqProofs (disch := omega) only [VCA, Nat.reduceEqDiff, ↓reduceIte, reduceCtorEq, c66]
  refine DCalls.of (indexFI_ok l f a b p hl hp) ?_
  rintro r h' ⟨rfl, rfl⟩
  simp -dsimp -implicitDefEqProofs (disch := omega) only [VCA, ↓reduceIte, exists_eq_right_right]
  exact ⟨Sub.refl _, idxM_any p l⟩
def c67 : SFun := ⟨(.seq (.reg [⟨(some 3), (.mv (.c (.bool false))), none⟩]) (.seq (.reg [⟨(some 4), (.ld 1 false (.t 1)), none⟩, ⟨(some 5), (.mv (.t 0)), none⟩, ⟨(some 6), (.pcall 68 [(.t 4), (.t 5)]), none⟩, ⟨(some 3), (.mv (.t 6)), none⟩]) .ret)), [(.tmp 3)]⟩
theorem hc67 : toSF Tryz.prog {pure := [68]} Tryz.f67 = some c67 := by kernel_rfl
theorem hn67 : (Tryz.f67.name == "runtime.NumGoroutine") = false := by kernel_rfl
theorem clash1_ok {h : Heap} {r : Nat} {T : OTy} (b : List Int) (hb : b.length ≤ 1073741824) (hr : h r = some ⟨T, 1, [[sl eInt b]]⟩) (n : Int) : DCalls (Pg G) 67 [aInt n, .vp r 0] h fun a h' => a = .bool (b.any (· == n)) ∧ h' = h := by
  have hC := hasI_ok (G := G) b n hb
  refine dcalls_of_vc Tryz.func67 hn67 hc67 (by rw [Tryz.ntmps67]; simp) (by rw [Tryz.ntmps67]; decide) ?_
  simp -dsimp -implicitDefEqProofs (disch := omega) only [VCA, Nat.reduceEqDiff, Nat.reduceLT, ↓reduceIte, reduceCtorEq, exists_eq_left', c67, hr]
  repeat' (first | ((with_reducible refine Br.dec (fun _ => ?_) (fun _ => ?_)) <;> try (exfalso; omega)) | ((with_reducible refine Br.eq (fun _ => ?_) (fun _ => ?_)) <;> try (exfalso; omega)) | ((with_reducible refine Br.ne (fun _ => ?_) (fun _ => ?_)) <;> try (exfalso; omega)) | ((with_reducible refine brNdec (fun _ => ?_) (fun _ => ?_)) <;> try (exfalso; omega)) | ((with_reducible refine brNeq (fun _ => ?_) (fun _ => ?_)) <;> try (exfalso; omega)) | with_reducible refine Br.intro (fun _ => ?_) (fun _ => ?_) | (with_reducible apply pcallE.of; · exact hC) | (with_reducible refine And.intro ?_ ?_; · omega) | simp -dsimp -implicitDefEqProofs (disch := omega) only [VCA, ↓reduceIte, exists_eq_right])
  all_goals first | exact Sub.refl _ | exact ⟨Sub.refl _, rfl⟩ | trace_state
def clashE (d : HDoc) (e f : HEdit) : Int := if applyE d e ≠ 0 then applyE d e else applyE d f
def clashB (d : HDoc) (e f : HEdit) : Bool := if clashE d e f = 0 then (touchL d e).any (fun x => (touchL d f).any (· == x)) else false
theorem touchL_len {d : HDoc} {e : HEdit} : (touchL d e).length ≤ 3 := by
  have h := (onceL_spec (rawL d e)).2.2
  have : (rawL d e).length ≤ 3 := by unfold rawL; (repeat' split) <;> simp
  unfold touchL; omega
def c30 : SFun := ⟨(.seq (.reg [⟨(some 3), (.boxF 24 2 (.t 0)), none⟩, ⟨(some 4), (.boxF 42 12 (.t 1)), none⟩, ⟨(some 5), (.boxF 42 12 (.t 2)), none⟩, ⟨(some 6), (.mv (.c (.bool false))), none⟩, ⟨(some 7), (.mv (.c (.int .i64 (0)))), none⟩]) (.seq (.reg [⟨(some 12), (.ld 2 true (.t 3)), none⟩, ⟨(some 13), (.ld 12 true (.t 4)), none⟩, ⟨(some 14), (.pcall 29 [(.t 12), (.t 13)]), none⟩, ⟨(some 11), (.mv (.t 14)), none⟩, ⟨(some 15), (.ext (.t 11) 0), none⟩, ⟨(some 16), (.ext (.t 11) 1), none⟩, ⟨(some 8), (.mv (.t 15)), none⟩, ⟨(some 9), (.mv (.t 16)), none⟩]) (.seq (.seq (.reg [⟨(some 17), (.mv (.t 9)), none⟩, ⟨(some 18), (.bin .neq (.t 17) (.c (.int .i64 (0)))), none⟩]) (.cond (.t 18) (.seq (.reg [⟨(some 19), (.mv (.t 9)), none⟩, ⟨(some 6), (.mv (.c (.bool false))), none⟩, ⟨(some 7), (.mv (.t 19)), none⟩]) .ret) .skip)) (.seq (.reg [⟨(some 21), (.ld 2 true (.t 3)), none⟩, ⟨(some 22), (.ld 12 true (.t 5)), none⟩, ⟨(some 23), (.pcall 29 [(.t 21), (.t 22)]), none⟩, ⟨(some 20), (.mv (.t 23)), none⟩, ⟨(some 24), (.ext (.t 20) 0), none⟩, ⟨(some 25), (.ext (.t 20) 1), none⟩, ⟨(some 10), (.new 38 1 [.emp]), none⟩, ⟨none, (.st 1 (.t 10) (.t 24)), none⟩, ⟨(some 9), (.mv (.t 25)), none⟩]) (.seq (.seq (.reg [⟨(some 26), (.mv (.t 9)), none⟩, ⟨(some 27), (.bin .neq (.t 26) (.c (.int .i64 (0)))), none⟩]) (.cond (.t 27) (.seq (.reg [⟨(some 28), (.mv (.t 9)), none⟩, ⟨(some 6), (.mv (.c (.bool false))), none⟩, ⟨(some 7), (.mv (.t 28)), none⟩]) .ret) .skip)) (.seq (.reg [⟨(some 29), (.mv (.t 8)), none⟩, ⟨(some 30), (.mkf 67 [] [(.t 10)]), none⟩, ⟨(some 31), (.call (.c (.fn 66 [] [])) [(.t 29), (.t 30)]), none⟩, ⟨(some 6), (.mv (.t 31)), none⟩, ⟨(some 7), (.mv (.c (.int .i64 (0)))), none⟩]) .ret)))))), [(.tmp 6), (.tmp 7)]⟩
theorem hc30 : toSF Tryz.prog {pure := [29]} Tryz.f30 = some c30 := by kernel_rfl
theorem hn30 : (Tryz.f30.name == "runtime.NumGoroutine") = false := by kernel_rfl
set_option maxRecDepth 10000 in
theorem aclash_ok (d : HDoc) (sm : DocSm d) (e f : HEdit) (he : EditSm e) (hf : EditSm f) : PCalls (Pg G) 30 [.agg (eDoc d), .agg (eEdit e), .agg (eEdit f)] (.tup [.bool (clashB d e f), aInt (clashE d e f)]) := fun h => by
  have h1 := atouch_ok (G := G) d sm e he
  have h2 := atouch_ok (G := G) d sm f hf
  have l1 := touchL_len (d := d) (e := e)
  have l2 := touchL_len (d := d) (e := f)
  by_cases c1 : applyE d e = 0
  · rw [if_pos c1, c1] at h1
    have cE : clashE d e f = applyE d f := by unfold clashE; rw [if_neg (by simpa using c1)]
    by_cases c2 : applyE d f = 0
    · rw [if_pos c2, c2] at h2
      have cB : clashB d e f = (touchL d e).any (fun x => (touchL d f).any (· == x)) := by unfold clashB; rw [cE, if_pos c2]
      rw [cB, cE, c2]
      have hK : ∀ (r : Nat) (T : OTy) (H : Heap), H r = some ⟨T, 1, [[sl eInt (touchL d f)]]⟩ → _ := fun r T H hr => containsFI_ok (G := G) (h := H) (touchL d e) 67 [] [.vp r 0] (fun x => (touchL d f).any (· == x)) (by omega) (fun x => clash1_ok (touchL d f) (by omega) hr x)
      generalize touchL d e = A at *
      generalize touchL d f = B at *
      refine dcalls_of_vc Tryz.func30 hn30 hc30 (by rw [Tryz.ntmps30]; simp) (by rw [Tryz.ntmps30]; decide) ?_
      simp -dsimp -implicitDefEqProofs (disch := omega) only [VCA, Nat.reduceEqDiff, ↓reduceIte, c30, eDoc_len, eDoc_take, eEdit_len, eEdit_take]
      repeat' (first | ((with_reducible refine Br.dec (fun _ => ?_) (fun _ => ?_)) <;> try (exfalso; omega)) | ((with_reducible refine Br.eq (fun _ => ?_) (fun _ => ?_)) <;> try (exfalso; omega)) | ((with_reducible refine Br.ne (fun _ => ?_) (fun _ => ?_)) <;> try (exfalso; omega)) | ((with_reducible refine brNdec (fun _ => ?_) (fun _ => ?_)) <;> try (exfalso; omega)) | ((with_reducible refine brNeq (fun _ => ?_) (fun _ => ?_)) <;> try (exfalso; omega)) | with_reducible refine Br.intro (fun _ => ?_) (fun _ => ?_) | (with_reducible apply pcallE.of; · exact h1) | (with_reducible apply pcallE.of; · exact h2) | (with_reducible refine And.intro ?_ ?_; · omega) | simp -dsimp -implicitDefEqProofs (disch := omega) only [VCA, Nat.reduceEqDiff, Nat.reduceAdd, Nat.reduceLT, ↓reduceIte, setAt, exists_eq_left', eDoc_len, eDoc_take, eEdit_len, eEdit_take])
      intro r10 hr10
      repeat' (first | ((with_reducible refine Br.dec (fun _ => ?_) (fun _ => ?_)) <;> try (exfalso; omega)) | ((with_reducible refine Br.eq (fun _ => ?_) (fun _ => ?_)) <;> try (exfalso; omega)) | ((with_reducible refine Br.ne (fun _ => ?_) (fun _ => ?_)) <;> try (exfalso; omega)) | ((with_reducible refine brNdec (fun _ => ?_) (fun _ => ?_)) <;> try (exfalso; omega)) | ((with_reducible refine brNeq (fun _ => ?_) (fun _ => ?_)) <;> try (exfalso; omega)) | with_reducible refine Br.intro (fun _ => ?_) (fun _ => ?_) | ((refine DCalls.of (hK r10 _ _ (upd_same _ _ _)) ?_; rintro _ _ ⟨rfl, rfl⟩)) | (with_reducible refine And.intro ?_ ?_; · omega) | simp -dsimp -implicitDefEqProofs (disch := omega) only [VCA, Nat.reduceEqDiff, ↓reduceIte, exists_eq_right])
      all_goals first | exact (Sub.refl h).upd hr10 | exact ⟨(Sub.refl h).upd hr10, rfl⟩ | trace_state
    · rw [if_neg c2] at h2
      have b2 : (applyE d f != 0) = true := bN_t c2
      have cB : clashB d e f = false := by unfold clashB; rw [cE, if_neg c2]
      rw [cB, cE]
      refine dcalls_of_vc Tryz.func30 hn30 hc30 (by rw [Tryz.ntmps30]; simp) (by rw [Tryz.ntmps30]; decide) ?_
      simp -dsimp -implicitDefEqProofs (disch := omega) only [VCA, Nat.reduceEqDiff, ↓reduceIte, c30, eDoc_len, eDoc_take, eEdit_len, eEdit_take]
      repeat' (first | ((with_reducible refine Br.dec (fun _ => ?_) (fun _ => ?_)) <;> try (exfalso; omega)) | ((with_reducible refine Br.eq (fun _ => ?_) (fun _ => ?_)) <;> try (exfalso; omega)) | ((with_reducible refine Br.ne (fun _ => ?_) (fun _ => ?_)) <;> try (exfalso; omega)) | ((with_reducible refine brNdec (fun _ => ?_) (fun _ => ?_)) <;> try (exfalso; omega)) | ((with_reducible refine brNeq (fun _ => ?_) (fun _ => ?_)) <;> try (exfalso; omega)) | with_reducible refine Br.intro (fun _ => ?_) (fun _ => ?_) | (with_reducible apply pcallE.of; · exact h1) | (with_reducible apply pcallE.of; · exact h2) | (with_reducible refine And.intro ?_ ?_; · omega) | simp -dsimp -implicitDefEqProofs (disch := omega) only [VCA, Nat.reduceEqDiff, Nat.reduceAdd, Nat.reduceLT, ↓reduceIte, setAt, exists_eq_left', eDoc_len, eDoc_take, eEdit_len, eEdit_take])
      intro r10 hr10
      repeat' (first | ((with_reducible refine Br.dec (fun _ => ?_) (fun _ => ?_)) <;> try (exfalso; omega)) | ((with_reducible refine Br.eq (fun _ => ?_) (fun _ => ?_)) <;> try (exfalso; omega)) | ((with_reducible refine Br.ne (fun _ => ?_) (fun _ => ?_)) <;> try (exfalso; omega)) | ((with_reducible refine brNdec (fun _ => ?_) (fun _ => ?_)) <;> try (exfalso; omega)) | ((with_reducible refine brNeq (fun _ => ?_) (fun _ => ?_)) <;> try (exfalso; omega)) | with_reducible refine Br.intro (fun _ => ?_) (fun _ => ?_) | (with_reducible refine And.intro ?_ ?_; · omega) | simp -dsimp -implicitDefEqProofs (disch := omega) only [VCA, Nat.reduceEqDiff, ↓reduceIte, exists_eq_right, b2])
      all_goals first | exact (Sub.refl h).upd hr10 | exact ⟨(Sub.refl h).upd hr10, rfl⟩ | trace_state
  · rw [if_neg c1] at h1
    have b1 : (applyE d e != 0) = true := bN_t c1
    have cE : clashE d e f = applyE d e := by unfold clashE; rw [if_pos c1]
    have cB : clashB d e f = false := by unfold clashB; rw [cE, if_neg c1]
    rw [cB, cE]
    refine dcalls_of_vc Tryz.func30 hn30 hc30 (by rw [Tryz.ntmps30]; simp) (by rw [Tryz.ntmps30]; decide) ?_
    simp -dsimp -implicitDefEqProofs (disch := omega) only [VCA, Nat.reduceEqDiff, ↓reduceIte, c30, eDoc_len, eDoc_take, eEdit_len, eEdit_take]
    repeat' (first | ((with_reducible refine Br.dec (fun _ => ?_) (fun _ => ?_)) <;> try (exfalso; omega)) | ((with_reducible refine Br.eq (fun _ => ?_) (fun _ => ?_)) <;> try (exfalso; omega)) | ((with_reducible refine Br.ne (fun _ => ?_) (fun _ => ?_)) <;> try (exfalso; omega)) | ((with_reducible refine brNdec (fun _ => ?_) (fun _ => ?_)) <;> try (exfalso; omega)) | ((with_reducible refine brNeq (fun _ => ?_) (fun _ => ?_)) <;> try (exfalso; omega)) | with_reducible refine Br.intro (fun _ => ?_) (fun _ => ?_) | (with_reducible apply pcallE.of; · exact h1) | (with_reducible refine And.intro ?_ ?_; · omega) | simp -dsimp -implicitDefEqProofs (disch := omega) only [VCA, Nat.reduceEqDiff, Nat.reduceAdd, Nat.reduceLT, ↓reduceIte, exists_eq_right, b1])
    all_goals first | exact Sub.refl h | exact ⟨Sub.refl h, rfl⟩ | trace_state
end Go.Proofs.K
end
section
/- Edits apart: the reference. -/
set_option linter.unusedSimpArgs false
set_option linter.unusedVariables false
namespace Go.Proofs.K
open Go Go.Sim Go.Proofs
variable {G : Glob}
end Go.Proofs.K
end
section
/- Steps: the reference's Do. -/
set_option linter.unusedSimpArgs false
set_option linter.unusedVariables false
namespace Go.Proofs.K
open Go Go.Sim Go.Proofs
variable {G : Glob}
end Go.Proofs.K
end
section
/- Steps undone (plain). -/
set_option linter.unusedSimpArgs false
set_option linter.unusedVariables false
namespace Go.Proofs.K
open Go Go.Sim Go.Proofs
/-- does a step fit? -/
def fitM (d : HDoc) (s : HStep) : Prop :=
  if s.edit.do' = 1 then inD d s.edit.at' ∧ 0 ≤ attrAt (nd d s.edit.at').attrs s.edit.name ∧ (s.had = true ∨ attrAt (nd d s.edit.at').attrs s.edit.name = ((nd d s.edit.at').attrs.length : Int) - 1)
  else if s.edit.do' = 2 then inD d s.edit.at' ∧ (nd d s.edit.at').kind = 2 ∧ 0 ≤ s.place ∧ s.place ≤ (nd d s.edit.at').attrs.length ∧ ¬ 0 ≤ attrAt (nd d s.edit.at').attrs s.edit.name
  else if s.edit.do' = 3 then inD d s.edit.at' ∧ ((nd d s.edit.at').kind = 3 ∨ (nd d s.edit.at').kind = 4)
  else if s.edit.do' = 4 then s.place = (d.nodes.length : Int) - 1 ∧ 2 ≤ d.nodes.length ∧ (nd d ((d.nodes.length : Int) - 1)).parent = -1 ∧ (nd d ((d.nodes.length : Int) - 1)).kids = []
  else if s.edit.do' = 5 then inD d s.edit.at' ∧ inD d s.edit.to ∧ 0 ≤ s.place ∧ s.place < (nd d s.edit.at').kids.length ∧ nth (nd d s.edit.at').kids s.place.toNat = s.edit.to
  else if s.edit.do' = 6 then inD d s.parent ∧ inD d s.edit.at' ∧ s.edit.at' ≠ 0 ∧ (nd d s.edit.at').parent = -1 ∧ 0 ≤ s.place ∧ s.place ≤ (nd d s.parent).kids.length
  else False
instance (d : HDoc) (s : HStep) : Decidable (fitM d s) := by unfold fitM inD; infer_instance
end Go.Proofs.K
end
section
/- Steps undone: the undoer's document. -/
set_option linter.unusedSimpArgs false
set_option linter.unusedVariables false
namespace Go.Proofs.K
open Go Go.Sim Go.Proofs
variable {G : Glob}
/-- an undoer: a document of its own, of which the first n nodes are there -/
structure Un (h0 h : Heap) (re rN : Nat) (d : HDoc) (n : Nat) (sl : Nat → AVal) : Prop where
  dw : Dw [re] h0 h rN d sl
  un : h re = some ⟨.t 79, 2, [[.osl rN 6 0 n, .bool d.quirks]]⟩
  new : h0 re = none
  live : ∀ k, k < 2 * d.nodes.length → Mut (sl k)
  le : n ≤ d.nodes.length
section
variable {h0 h : Heap} {re rN : Nat} {d : HDoc} {n : Nat} {sl : Nat → AVal}
theorem Un.ne (E : Un h0 h re rN d n sl) : re ≠ rN := fun e => E.dw.new.2 (by simp [e])
end

end Go.Proofs.K
end
section
/- Steps undone: All of nothing gives a document of one's own; the list backward. -/
set_option linter.unusedSimpArgs false
set_option linter.unusedVariables false
namespace Go.Proofs.K
open Go Go.Sim Go.Proofs
variable {G : Glob}
end Go.Proofs.K
end
section
/- Steps undone: a list of steps backward. -/
set_option linter.unusedSimpArgs false
set_option linter.unusedVariables false
namespace Go.Proofs.K
open Go Go.Sim Go.Proofs
variable {G : Glob}
end Go.Proofs.K
end
section
/- Steps undone: Undo. -/
set_option linter.unusedSimpArgs false
set_option linter.unusedVariables false
namespace Go.Proofs.K
open Go Go.Sim Go.Proofs
variable {G : Glob}
end Go.Proofs.K
end
section
/- Steps: what must be in any case; the law of Do. -/
set_option linter.unusedSimpArgs false
set_option linter.unusedVariables false
namespace Go.Proofs.K
open Go Go.Sim Go.Proofs
variable {G : Glob}
end Go.Proofs.K
end
section
/- Edits apart: what must be in any case; the law of Touch and Clash. -/
set_option linter.unusedSimpArgs false
set_option linter.unusedVariables false
namespace Go.Proofs.K
open Go Go.Sim Go.Proofs
variable {G : Glob}
def apE : HEdit := ⟨1, 1, 0, 0, [98], [], ⟨0, [], [], [], 0, []⟩⟩
theorem apart_t : touchL oneD (zE 6 2 []) = [1, 2] ∧ touchL oneD (zE 3 2 []) = [2] ∧ touchL oneD apE = [1] := by
  have r1 : rawL oneD (zE 6 2 []) = [2, 1] := by decide +kernel
  have r2 : rawL oneD (zE 3 2 []) = [2] := by decide +kernel
  have r3 : rawL oneD apE = [1] := by decide +kernel
  refine ⟨?_, ?_, ?_⟩
  · unfold touchL; rw [r1]; exact onceL_eq (by decide) (fun x => by simp [or_comm])
  · unfold touchL; rw [r2]; exact onceL_eq (by decide) (fun x => by simp)
  · unfold touchL; rw [r3]; exact onceL_eq (by decide) (fun x => by simp)
theorem apart_is : applyE oneD (zE 6 2 []) = 0 ∧ touchL oneD (zE 6 2 []) = [1, 2] ∧ clashB oneD (zE 3 2 []) apE = false ∧ clashE oneD (zE 3 2 []) apE = 0 := by
  obtain ⟨t1, t2, t3⟩ := apart_t
  refine ⟨by decide +kernel, t1, ?_, by decide +kernel⟩
  unfold clashB
  rw [t2, t3]
  split <;> simp
theorem apE_sm : EditSm (zE 6 2 []) ∧ EditSm (zE 3 2 []) ∧ EditSm apE := ⟨⟨by decide, by decide, by decide, by decide, (fun a ha => by cases ha), by decide, by decide⟩, ⟨by decide, by decide, by decide, by decide, (fun a ha => by cases ha), by decide, by decide⟩, ⟨by decide, by decide, by decide, by decide, (fun a ha => by cases ha), by decide, by decide⟩⟩
def c33 : SFun := ⟨(.seq (.reg [⟨(some 0), (.mv (.c (.bool false))), none⟩]) (.seq (.reg [⟨(some 6), (.pcall 42 []), none⟩, ⟨(some 7), (.bld [(.int .i64 (0)), (.int .i64 (0)), (.int .i64 (0)), (.int .i64 (0)), (.str []), (.str []), (.int .i64 (0)), (.str []), .emp, (.str []), (.int .i64 (0)), .emp] [(0, (1, (.c (.int .i64 (6))))), (1, (1, (.c (.int .i64 (2)))))]), none⟩, ⟨(some 8), (.pcall 29 [(.t 6), (.t 7)]), none⟩, ⟨(some 5), (.mv (.t 8)), none⟩, ⟨(some 9), (.ext (.t 5) 0), none⟩, ⟨(some 10), (.ext (.t 5) 1), none⟩, ⟨(some 1), (.mv (.t 9)), none⟩, ⟨(some 2), (.mv (.t 10)), none⟩]) (.seq (.reg [⟨(some 12), (.pcall 42 []), none⟩, ⟨(some 13), (.bld [(.int .i64 (0)), (.int .i64 (0)), (.int .i64 (0)), (.int .i64 (0)), (.str []), (.str []), (.int .i64 (0)), (.str []), .emp, (.str []), (.int .i64 (0)), .emp] [(0, (1, (.c (.int .i64 (3))))), (1, (1, (.c (.int .i64 (2)))))]), none⟩, ⟨(some 14), (.bld [(.int .i64 (0)), (.int .i64 (0)), (.int .i64 (0)), (.int .i64 (0)), (.str []), (.str []), (.int .i64 (0)), (.str []), .emp, (.str []), (.int .i64 (0)), .emp] [(0, (1, (.c (.int .i64 (1))))), (1, (1, (.c (.int .i64 (1))))), (4, (1, (.c (.str [98]))))]), none⟩, ⟨(some 15), (.pcall 30 [(.t 12), (.t 13), (.t 14)]), none⟩, ⟨(some 11), (.mv (.t 15)), none⟩, ⟨(some 16), (.ext (.t 11) 0), none⟩, ⟨(some 17), (.ext (.t 11) 1), none⟩, ⟨(some 3), (.mv (.t 16)), none⟩, ⟨(some 4), (.mv (.t 17)), none⟩]) (.seq (.reg [⟨(some 18), (.mv (.t 2)), none⟩, ⟨(some 19), (.bin .eql (.t 18) (.c (.int .i64 (0)))), none⟩, ⟨(some 20), (.mv (.t 19)), none⟩, ⟨(some 21), (.mv (.t 1)), (some (20, true))⟩, ⟨(some 22), (.bldF 3 1 [(.c (.int .i64 (1))), (.c (.int .i64 (2)))]), (some (20, true))⟩, ⟨(some 23), (.pcall 34 [(.t 21), (.t 22)]), (some (20, true))⟩, ⟨(some 24), (.pick (.t 20) (.t 23) (.c (.bool false))), none⟩, ⟨(some 25), (.mv (.t 24)), none⟩, ⟨(some 26), (.mv (.t 3)), (some (25, true))⟩, ⟨(some 27), (.un .not (.t 26)), (some (25, true))⟩, ⟨(some 28), (.pick (.t 25) (.t 27) (.c (.bool false))), none⟩, ⟨(some 29), (.mv (.t 28)), none⟩, ⟨(some 30), (.mv (.t 4)), (some (29, true))⟩, ⟨(some 31), (.bin .eql (.t 30) (.c (.int .i64 (0)))), (some (29, true))⟩, ⟨(some 32), (.pick (.t 29) (.t 31) (.c (.bool false))), none⟩, ⟨(some 0), (.mv (.t 32)), none⟩]) .ret)))), [(.tmp 0)]⟩
theorem hc33 : toSF Tryz.prog {pure := [42, 29, 30, 34]} Tryz.f33 = some c33 := by kernel_rfl
theorem hn33 : (Tryz.f33.name == "runtime.NumGoroutine") = false := by kernel_rfl
set_option maxRecDepth 10000 in
theorem apartBegun_ok : PCalls (Pg G) 33 [] (.bool true) := fun h => by
  obtain ⟨b1, b2, b3, b4⟩ := apart_is
  obtain ⟨s1, s2, s3⟩ := apE_sm
  have hO := oneP_ok (G := G)
  have h1 : PCalls (Pg G) 29 [.agg (eDoc oneD), .agg [.int .i64 6, .int .i64 2, .int .i64 0, .int .i64 0, .str [], .str [], .int .i64 0, .str [], .emp, .str [], .int .i64 0, .emp]] (.tup [sl eInt [1, 2], aInt 0]) := by
    have h := (atouch_ok (G := G) oneD oneD_sm (zE 6 2 []) s1).wk (args := [.agg (eDoc oneD), .agg (eE0 (zE 6 2 []))]) (.cons (.refl _) (.cons (edit_wk _ rfl rfl) .nil))
    rw [if_pos b1, b1, b2] at h
    exact h
  have h2 : PCalls (Pg G) 30 [.agg (eDoc oneD), .agg [.int .i64 3, .int .i64 2, .int .i64 0, .int .i64 0, .str [], .str [], .int .i64 0, .str [], .emp, .str [], .int .i64 0, .emp], .agg [.int .i64 1, .int .i64 1, .int .i64 0, .int .i64 0, .str [98], .str [], .int .i64 0, .str [], .emp, .str [], .int .i64 0, .emp]] (.tup [.bool false, aInt 0]) := by
    have h := (aclash_ok (G := G) oneD oneD_sm (zE 3 2 []) apE s2 s3).wk (args := [.agg (eDoc oneD), .agg (eE0 (zE 3 2 [])), .agg (eE0 apE)]) (.cons (.refl _) (.cons (edit_wk _ rfl rfl) (.cons (edit_wk _ rfl rfl) .nil)))
    rw [b3, b4] at h
    exact h
  have h3 : PCalls (Pg G) 34 [sl eInt [1, 2], .slc [[.int .i64 1], [.int .i64 2]]] (.bool true) := sameN_ok (G := G) [1, 2] [1, 2] (by simp) (by simp)
  refine dcalls_of_vc Tryz.func33 hn33 hc33 (by rw [Tryz.ntmps33]; simp) (by rw [Tryz.ntmps33]; decide) ?_
  simp -dsimp -implicitDefEqProofs (disch := omega) only [VCA, c33]
  repeat' (first | ((with_reducible refine Br.dec (fun _ => ?_) (fun _ => ?_)) <;> try (exfalso; omega)) | ((with_reducible refine Br.eq (fun _ => ?_) (fun _ => ?_)) <;> try (exfalso; omega)) | ((with_reducible refine Br.ne (fun _ => ?_) (fun _ => ?_)) <;> try (exfalso; omega)) | ((with_reducible refine brNdec (fun _ => ?_) (fun _ => ?_)) <;> try (exfalso; omega)) | ((with_reducible refine brNeq (fun _ => ?_) (fun _ => ?_)) <;> try (exfalso; omega)) | with_reducible refine Br.intro (fun _ => ?_) (fun _ => ?_) | (with_reducible apply pcallE.of; · exact hO) | (with_reducible apply pcallE.of; · exact h1) | (with_reducible apply pcallE.of; · exact h2) | (with_reducible apply pcallE.of; · exact h3) | (with_reducible refine And.intro ?_ ?_; · omega) | simp -dsimp -implicitDefEqProofs (disch := omega) only [↓vcOps_sp 20, ↓vcOps_sp 25, ↓vcOps_sp 29, VCA, Nat.reduceEqDiff, Nat.reduceAdd, Nat.reduceLT, Nat.reduceLeDiff, ↓reduceIte, okParts, fillA, okFill, exists_eq_right_right])
  all_goals first | exact Sub.refl h | exact ⟨Sub.refl h, rfl⟩ | (exfalso; rename_i q; exact q rfl) | trace_state
end Go.Proofs.K
end
section
/- Edits apart: folding, as the program says it. -/
set_option linter.unusedSimpArgs false
set_option linter.unusedVariables false
namespace Go.Proofs.K
open Go Go.Sim Go.Proofs
variable {G : Glob}
def joinV (a b : HEdit) : AVal := match joinM a b with
  | some [] => .tup [.emp, .bool true]
  | some _ => .tup [.slc [eEdit b], .bool true]
  | none => .tup [.emp, .bool false]
def c71 : SFun := ⟨(.seq (.reg [⟨(some 2), (.boxF 42 12 (.t 0)), none⟩, ⟨(some 3), (.boxF 42 12 (.t 1)), none⟩, ⟨(some 4), (.mv (.c .emp)), none⟩, ⟨(some 5), (.mv (.c (.bool false))), none⟩]) (.seq (.block 0 (.seq (.reg [⟨(some 7), (.fldA 0 (.t 2)), none⟩, ⟨(some 8), (.ld 1 false (.t 7)), none⟩, ⟨(some 9), (.bin .eql (.t 8) (.c (.int .i64 (3)))), none⟩, ⟨(some 10), (.mv (.t 9)), none⟩, ⟨(some 11), (.fldA 0 (.t 3)), (some (10, true))⟩, ⟨(some 12), (.ld 1 false (.t 11)), (some (10, true))⟩, ⟨(some 13), (.bin .eql (.t 12) (.c (.int .i64 (3)))), (some (10, true))⟩, ⟨(some 14), (.pick (.t 10) (.t 13) (.c (.bool false))), none⟩, ⟨(some 15), (.mv (.t 14)), none⟩, ⟨(some 16), (.fldA 1 (.t 2)), (some (15, true))⟩, ⟨(some 17), (.ld 1 false (.t 16)), (some (15, true))⟩, ⟨(some 18), (.fldA 1 (.t 3)), (some (15, true))⟩, ⟨(some 19), (.ld 1 false (.t 18)), (some (15, true))⟩, ⟨(some 20), (.bin .eql (.t 17) (.t 19)), (some (15, true))⟩, ⟨(some 21), (.pick (.t 15) (.t 20) (.c (.bool false))), none⟩, ⟨(some 6), (.mv (.t 21)), none⟩]) (.cond (.t 6) (.seq (.reg [⟨(some 22), (.ld 12 true (.t 3)), none⟩, ⟨(some 23), (.bldF 42 12 [(.t 22)]), none⟩, ⟨(some 4), (.mv (.t 23)), none⟩, ⟨(some 5), (.mv (.c (.bool true))), none⟩]) .ret) (.seq (.reg [⟨(some 25), (.fldA 0 (.t 2)), none⟩, ⟨(some 26), (.ld 1 false (.t 25)), none⟩, ⟨(some 27), (.bin .eql (.t 26) (.c (.int .i64 (1)))), none⟩, ⟨(some 28), (.mv (.t 27)), none⟩, ⟨(some 29), (.fldA 0 (.t 3)), (some (28, true))⟩, ⟨(some 30), (.ld 1 false (.t 29)), (some (28, true))⟩, ⟨(some 31), (.bin .eql (.t 30) (.c (.int .i64 (1)))), (some (28, true))⟩, ⟨(some 32), (.pick (.t 28) (.t 31) (.c (.bool false))), none⟩, ⟨(some 33), (.mv (.t 32)), none⟩, ⟨(some 34), (.fldA 1 (.t 2)), (some (33, true))⟩, ⟨(some 35), (.ld 1 false (.t 34)), (some (33, true))⟩, ⟨(some 36), (.fldA 1 (.t 3)), (some (33, true))⟩, ⟨(some 37), (.ld 1 false (.t 36)), (some (33, true))⟩, ⟨(some 38), (.bin .eql (.t 35) (.t 37)), (some (33, true))⟩, ⟨(some 39), (.pick (.t 33) (.t 38) (.c (.bool false))), none⟩, ⟨(some 40), (.mv (.t 39)), none⟩, ⟨(some 41), (.fldA 4 (.t 2)), (some (40, true))⟩, ⟨(some 42), (.ld 1 false (.t 41)), (some (40, true))⟩, ⟨(some 43), (.fldA 4 (.t 3)), (some (40, true))⟩, ⟨(some 44), (.ld 1 false (.t 43)), (some (40, true))⟩, ⟨(some 45), (.bin .eql (.t 42) (.t 44)), (some (40, true))⟩, ⟨(some 46), (.pick (.t 40) (.t 45) (.c (.bool false))), none⟩, ⟨(some 24), (.mv (.t 46)), none⟩]) (.cond (.t 24) (.seq (.reg [⟨(some 47), (.ld 12 true (.t 3)), none⟩, ⟨(some 48), (.bldF 42 12 [(.t 47)]), none⟩, ⟨(some 4), (.mv (.t 48)), none⟩, ⟨(some 5), (.mv (.c (.bool true))), none⟩]) .ret) (.seq (.reg [⟨(some 50), (.fldA 0 (.t 2)), none⟩, ⟨(some 51), (.ld 1 false (.t 50)), none⟩, ⟨(some 52), (.bin .eql (.t 51) (.c (.int .i64 (5)))), none⟩, ⟨(some 53), (.mv (.t 52)), none⟩, ⟨(some 54), (.fldA 0 (.t 3)), (some (53, true))⟩, ⟨(some 55), (.ld 1 false (.t 54)), (some (53, true))⟩, ⟨(some 56), (.bin .eql (.t 55) (.c (.int .i64 (6)))), (some (53, true))⟩, ⟨(some 57), (.pick (.t 53) (.t 56) (.c (.bool false))), none⟩, ⟨(some 58), (.mv (.t 57)), none⟩, ⟨(some 59), (.fldA 2 (.t 2)), (some (58, true))⟩, ⟨(some 60), (.ld 1 false (.t 59)), (some (58, true))⟩, ⟨(some 61), (.fldA 1 (.t 3)), (some (58, true))⟩, ⟨(some 62), (.ld 1 false (.t 61)), (some (58, true))⟩, ⟨(some 63), (.bin .eql (.t 60) (.t 62)), (some (58, true))⟩, ⟨(some 64), (.pick (.t 58) (.t 63) (.c (.bool false))), none⟩, ⟨(some 49), (.mv (.t 64)), none⟩]) (.cond (.t 49) (.seq (.reg [⟨(some 4), (.mv (.c .emp)), none⟩, ⟨(some 5), (.mv (.c (.bool true))), none⟩]) .ret) .skip))))))) (.seq (.reg [⟨(some 4), (.mv (.c .emp)), none⟩, ⟨(some 5), (.mv (.c (.bool false))), none⟩]) .ret))), [(.tmp 4), (.tmp 5)]⟩
theorem hc71 : toSF Tryz.prog {} Tryz.f71 = some c71 := by kernel_rfl
theorem hn71 : (Tryz.f71.name == "runtime.NumGoroutine") = false := by kernel_rfl
set_option maxHeartbeats 1000000 in
theorem joined_ok (a b : HEdit) : PCalls (Pg G) 71 [.agg (eEdit a), .agg (eEdit b)] (joinV a b) := fun h => by
  unfold joinV joinM
  refine dcalls_of_vc Tryz.func71 hn71 hc71 (by rw [Tryz.ntmps71]; simp) (by rw [Tryz.ntmps71]; decide) ?_
  unfold eEdit
  by_cases h1 : a.do' = 3 ∧ b.do' = 3 ∧ a.at' = b.at'
  · rw [if_pos h1]
    have b1 := bI_t h1.1
    have b2 := bI_t h1.2.1
    have b3 := bI_t h1.2.2
    simp -dsimp -implicitDefEqProofs (disch := omega) only [↓vcOps_sp 10, ↓vcOps_sp 15, VCA, Nat.reduceEqDiff, Nat.reduceAdd, Nat.reduceLeDiff, ↓reduceIte, okParts, exists_eq_right, c71, b1, b2, b3]
    all_goals first | exact Sub.refl h | exact ⟨Sub.refl h, rfl⟩ | trace_state
  rw [if_neg h1]
  by_cases h2 : a.do' = 1 ∧ b.do' = 1 ∧ a.at' = b.at' ∧ a.name = b.name
  · rw [if_pos h2]
    simp -dsimp -implicitDefEqProofs (disch := omega) only [↓vcOps_sp 10, VCA, Nat.reduceEqDiff, Nat.reduceAdd, Nat.reduceLeDiff, ↓reduceIte, c71]
    repeat' (first | ((with_reducible refine Br.dec (fun _ => ?_) (fun _ => ?_)) <;> try (exfalso; omega)) | ((with_reducible refine Br.eq (fun _ => ?_) (fun _ => ?_)) <;> try (exfalso; omega)) | ((with_reducible refine Br.ne (fun _ => ?_) (fun _ => ?_)) <;> try (exfalso; omega)) | ((with_reducible refine brNdec (fun _ => ?_) (fun _ => ?_)) <;> try (exfalso; omega)) | ((with_reducible refine brNeq (fun _ => ?_) (fun _ => ?_)) <;> try (exfalso; omega)) | with_reducible refine Br.intro (fun _ => ?_) (fun _ => ?_) | (with_reducible refine And.intro ?_ ?_; · omega) | simp -dsimp -implicitDefEqProofs (disch := omega) only [↓vcOps_sp 15, ↓vcOps_sp 28, ↓vcOps_sp 33, ↓vcOps_sp 40, ↓vcOps_sp 53, ↓vcOps_sp 58, VCA, Nat.reduceEqDiff, Nat.reduceAdd, Nat.reduceLeDiff, ↓reduceIte, okParts, exists_eq_right_right, exists_eq_right])
    all_goals first | (exfalso; omega) | exact Sub.refl h | exact ⟨Sub.refl h, rfl⟩ | (exfalso; have := h2.2.2.2; contradiction) | (exfalso; exact h1 ⟨by omega, by omega, by omega⟩) | trace_state
  rw [if_neg h2]
  by_cases h3 : a.do' = 5 ∧ b.do' = 6 ∧ a.to = b.at'
  · rw [if_pos h3]
    simp -dsimp -implicitDefEqProofs (disch := omega) only [↓vcOps_sp 10, VCA, Nat.reduceEqDiff, Nat.reduceAdd, Nat.reduceLeDiff, ↓reduceIte, c71]
    repeat' (first | ((with_reducible refine Br.dec (fun _ => ?_) (fun _ => ?_)) <;> try (exfalso; omega)) | ((with_reducible refine Br.eq (fun _ => ?_) (fun _ => ?_)) <;> try (exfalso; omega)) | ((with_reducible refine Br.ne (fun _ => ?_) (fun _ => ?_)) <;> try (exfalso; omega)) | ((with_reducible refine brNdec (fun _ => ?_) (fun _ => ?_)) <;> try (exfalso; omega)) | ((with_reducible refine brNeq (fun _ => ?_) (fun _ => ?_)) <;> try (exfalso; omega)) | with_reducible refine Br.intro (fun _ => ?_) (fun _ => ?_) | (with_reducible refine And.intro ?_ ?_; · omega) | simp -dsimp -implicitDefEqProofs (disch := omega) only [↓vcOps_sp 15, ↓vcOps_sp 28, ↓vcOps_sp 33, ↓vcOps_sp 40, ↓vcOps_sp 53, ↓vcOps_sp 58, VCA, Nat.reduceEqDiff, Nat.reduceAdd, Nat.reduceLeDiff, ↓reduceIte, exists_eq_right])
    all_goals first | (exfalso; omega) | exact Sub.refl h | exact ⟨Sub.refl h, rfl⟩ | trace_state
  · rw [if_neg h3]
    simp -dsimp -implicitDefEqProofs (disch := omega) only [↓vcOps_sp 10, VCA, Nat.reduceEqDiff, Nat.reduceAdd, Nat.reduceLeDiff, ↓reduceIte, c71]
    repeat' (first | ((with_reducible refine Br.dec (fun _ => ?_) (fun _ => ?_)) <;> try (exfalso; omega)) | ((with_reducible refine Br.eq (fun _ => ?_) (fun _ => ?_)) <;> try (exfalso; omega)) | ((with_reducible refine Br.ne (fun _ => ?_) (fun _ => ?_)) <;> try (exfalso; omega)) | ((with_reducible refine brNdec (fun _ => ?_) (fun _ => ?_)) <;> try (exfalso; omega)) | ((with_reducible refine brNeq (fun _ => ?_) (fun _ => ?_)) <;> try (exfalso; omega)) | with_reducible refine Br.intro (fun _ => ?_) (fun _ => ?_) | (with_reducible refine And.intro ?_ ?_; · omega) | simp -dsimp -implicitDefEqProofs (disch := omega) only [↓vcOps_sp 15, ↓vcOps_sp 28, ↓vcOps_sp 33, ↓vcOps_sp 40, ↓vcOps_sp 53, ↓vcOps_sp 58, VCA, Nat.reduceEqDiff, Nat.reduceAdd, Nat.reduceLeDiff, ↓reduceIte, okParts, exists_eq_right_right, exists_eq_right])
    all_goals first | (exfalso; omega) | exact Sub.refl h | exact ⟨Sub.refl h, rfl⟩ | (exfalso; exact h1 ⟨by omega, by omega, by omega⟩) | (exfalso; exact h3 ⟨by omega, by omega, by omega⟩) | (exfalso; rename_i q; exact h2 ⟨by omega, by omega, by omega, q⟩) | trace_state
end Go.Proofs.K
end
section
/- Edits apart: Fold. -/
set_option linter.unusedSimpArgs false
set_option linter.unusedVariables false
namespace Go.Proofs.K
open Go Go.Sim Go.Proofs
variable {G : Glob}
theorem foldF_end {f : Nat} {l : List HEdit} (h : ¬ 1 < l.length) : foldF f l = l := by
  cases f with
  | zero => rfl
  | succ f => unfold foldF; rw [if_neg h]
theorem foldF_none {f : Nat} {l : List HEdit} (h : joinM (nth l (l.length - 2)) (nth l (l.length - 1)) = none) : foldF f l = l := by
  cases f with
  | zero => rfl
  | succ f => unfold foldF; rw [h]; simp
theorem foldF_some {f : Nat} {l m : List HEdit} (h1 : 1 < l.length) (h : joinM (nth l (l.length - 2)) (nth l (l.length - 1)) = some m) : foldF (f + 1) l = foldF f (l.take (l.length - 2) ++ m) := by
  conv => lhs; unfold foldF
  rw [if_pos h1, h]
def foldS (out : List HEdit) (e : HEdit) : List HEdit := foldF (out.length + 1) (out ++ [e])
theorem getD_mapE {l : List HEdit} {i : Nat} (hi : i < l.length) : (l.map eEdit).getD i [] = eEdit (nth l i) := by
  rw [List.getD_eq_getElem?_getD, List.getElem?_map, nth_some hi]; rfl
def c35 : SFun := ⟨(.seq (.reg [⟨(some 2), (.boxF 24 2 (.t 0)), none⟩, ⟨(some 4), (.mv (.c .emp)), none⟩, ⟨(some 5), (.mv (.c (.int .i64 (0)))), none⟩]) (.seq (.seq (.reg [⟨(some 16), (.ld 2 true (.t 2)), none⟩, ⟨(some 17), (.mv (.t 1)), none⟩, ⟨(some 18), (.pcall 38 [(.t 16), (.t 17)]), none⟩, ⟨(some 15), (.mv (.t 18)), none⟩, ⟨(some 19), (.ext (.t 15) 0), none⟩, ⟨(some 20), (.ext (.t 15) 1), none⟩, ⟨(some 21), (.ext (.t 15) 2), none⟩, ⟨(some 6), (.new 24 2 [.emp, (.bool false)]), none⟩, ⟨none, (.st 2 (.t 6) (.t 19)), none⟩, ⟨(some 7), (.mv (.t 20)), none⟩, ⟨(some 8), (.mv (.t 21)), none⟩]) (.seq (.reg [⟨(some 22), (.mv (.t 8)), none⟩, ⟨(some 23), (.bin .neq (.t 22) (.c (.int .i64 (0)))), none⟩]) (.cond (.t 23) (.seq (.reg [⟨(some 24), (.mv (.t 8)), none⟩, ⟨(some 4), (.mv (.c .emp)), none⟩, ⟨(some 5), (.mv (.t 24)), none⟩]) .ret) .skip))) (.seq (.reg [⟨(some 9), (.mv (.c .emp)), none⟩]) (.seq (.seq (.reg [⟨(some 25), (.mv (.t 1)), none⟩, ⟨(some 26), (.len (.t 25)), none⟩, ⟨(some 27), (.mv (.c (.int .i64 (0)))), none⟩]) (.block 0 (.loop (.seq (.reg [⟨(some 28), (.bin .lss (.t 27) (.t 26)), none⟩]) (.seq (.cond (.t 28) .skip (.exit 0)) (.seq (.block 1 (.seq (.reg [⟨(some 29), (.idxA 12 (.t 25) (.t 27)), none⟩, ⟨(some 30), (.ld 12 true (.t 29)), none⟩, ⟨(some 11), (.new 42 12 [(.int .i64 (0)), (.int .i64 (0)), (.int .i64 (0)), (.int .i64 (0)), (.str []), (.str []), (.int .i64 (0)), (.str []), .emp, (.str []), (.int .i64 (0)), .emp]), none⟩, ⟨none, (.st 12 (.t 11) (.t 30)), none⟩]) (.seq (.dreg [(⟨(some 31), (.fldA 6 (.t 11)), none⟩, none), (⟨(some 32), (.fldA 2 (.t 31)), none⟩, none), (⟨(some 33), (.ld 1 false (.t 32)), none⟩, none), (⟨(some 34), (.pcall 69 [(.t 33)]), none⟩, none), (⟨(some 35), (.fldA 6 (.t 11)), none⟩, none), (⟨(some 36), (.fldA 5 (.t 35)), none⟩, none), (⟨(some 37), (.ld 1 false (.t 36)), none⟩, none), (⟨(some 38), (.pcall 70 [(.t 37)]), none⟩, none), (⟨(some 39), (.fldA 6 (.t 11)), none⟩, none), (⟨(some 40), (.fldA 2 (.t 39)), none⟩, none), (⟨none, (.st 1 (.t 40) (.t 34)), none⟩, (some [37, 33])), (⟨(some 41), (.fldA 6 (.t 11)), none⟩, none), (⟨(some 42), (.fldA 5 (.t 41)), none⟩, none), (⟨none, (.st 1 (.t 42) (.t 38)), none⟩, (some [37, 33]))]) (.seq (.reg [⟨(some 43), (.mv (.t 9)), none⟩, ⟨(some 44), (.ld 12 true (.t 11)), none⟩, ⟨(some 45), (.bldF 42 12 [(.t 44)]), none⟩, ⟨(some 46), (.app 42 12 160 (.t 43) (.t 45)), none⟩, ⟨(some 9), (.mv (.t 46)), none⟩]) (.seq (.reg [⟨(some 47), (.mv (.t 9)), none⟩, ⟨(some 48), (.len (.t 47)), none⟩, ⟨(some 12), (.mv (.t 48)), none⟩]) (.block 2 (.loop (.seq (.seq (.reg [⟨(some 49), (.mv (.t 12)), none⟩, ⟨(some 50), (.bin .gtr (.t 49) (.c (.int .i64 (1)))), none⟩]) (.cond (.t 50) .skip (.exit 2))) (.seq (.block 3 (.seq (.dreg [(⟨(some 54), (.mv (.t 9)), none⟩, none), (⟨(some 55), (.mv (.t 12)), none⟩, none), (⟨(some 56), (.bin .sub (.t 55) (.c (.int .i64 (2)))), none⟩, none), (⟨(some 57), (.idxA 12 (.t 54) (.t 56)), none⟩, none), (⟨(some 58), (.ld 12 true (.t 57)), none⟩, none), (⟨(some 59), (.mv (.t 9)), none⟩, none), (⟨(some 60), (.mv (.t 12)), none⟩, none), (⟨(some 61), (.bin .sub (.t 60) (.c (.int .i64 (1)))), none⟩, none), (⟨(some 62), (.idxA 12 (.t 59) (.t 61)), none⟩, none), (⟨(some 63), (.ld 12 true (.t 62)), none⟩, none), (⟨(some 64), (.pcall 71 [(.t 58), (.t 63)]), none⟩, none), (⟨(some 53), (.mv (.t 64)), none⟩, none), (⟨(some 65), (.ext (.t 53) 0), none⟩, none), (⟨(some 66), (.ext (.t 53) 1), none⟩, none), (⟨(some 13), (.mv (.t 65)), none⟩, none), (⟨(some 14), (.mv (.t 66)), none⟩, none)]) (.seq (.seq (.reg [⟨(some 67), (.mv (.t 14)), none⟩, ⟨(some 68), (.un .not (.t 67)), none⟩]) (.cond (.t 68) (.exit 2) .skip)) (.reg [⟨(some 69), (.mv (.t 9)), none⟩, ⟨(some 70), (.mv (.t 12)), none⟩, ⟨(some 71), (.bin .sub (.t 70) (.c (.int .i64 (2)))), none⟩, ⟨(some 72), (.slA 12 (.t 69) none (some (.t 71))), none⟩, ⟨(some 73), (.mv (.t 13)), none⟩, ⟨(some 74), (.app 42 12 160 (.t 72) (.t 73)), none⟩, ⟨(some 9), (.mv (.t 74)), none⟩])))) (.reg [⟨(some 51), (.mv (.t 9)), none⟩, ⟨(some 52), (.len (.t 51)), none⟩, ⟨(some 12), (.mv (.t 52)), none⟩])))))))))) (.reg [⟨(some 75), (.bin .add (.t 27) (.c (.int .i64 (1)))), none⟩, ⟨(some 27), (.mv (.t 75)), none⟩]))))))) (.seq (.reg [⟨(some 76), (.mv (.t 9)), none⟩, ⟨(some 4), (.mv (.t 76)), none⟩, ⟨(some 5), (.mv (.c (.int .i64 (0)))), none⟩]) .ret))))), [(.tmp 4), (.tmp 5)]⟩
theorem hc35 : toSF Tryz.prog {pure := [38, 71, 69, 70]} Tryz.f35 = some c35 := by kernel_rfl
theorem hn35 : (Tryz.f35.name == "runtime.NumGoroutine") = false := by kernel_rfl
set_option maxHeartbeats 2000000 in
set_option maxRecDepth 10000 in
theorem fold_ok (d : HDoc) (sm : DocSm d) (l : List HEdit) (hl : ∀ e ∈ l, EditSm e) (ll : l.length ≤ 1000) : PCalls (Pg G) 35 [.agg (eDoc d), sl eEdit l] (.tup [if (allM d l).2.2 = 0 then sl eEdit (foldM l) else .emp, aInt (allM d l).2.2]) := PCalls.outV fun h => by
  have hAll := all_ok (G := G) d sm l hl (by omega)
  unfold allV at hAll
  refine dcalls_of_vc Tryz.func35 hn35 hc35 (by rw [Tryz.ntmps35]; simp) (by rw [Tryz.ntmps35]; decide) ?_
  simp -dsimp -implicitDefEqProofs (disch := omega) only [VCA, Nat.reduceEqDiff, ↓reduceIte, c35, eDoc_len, eDoc_take]
  repeat' (first | ((with_reducible refine Br.dec (fun _ => ?_) (fun _ => ?_)) <;> try (exfalso; omega)) | ((with_reducible refine Br.eq (fun _ => ?_) (fun _ => ?_)) <;> try (exfalso; omega)) | ((with_reducible refine Br.ne (fun _ => ?_) (fun _ => ?_)) <;> try (exfalso; omega)) | ((with_reducible refine brNdec (fun _ => ?_) (fun _ => ?_)) <;> try (exfalso; omega)) | ((with_reducible refine brNeq (fun _ => ?_) (fun _ => ?_)) <;> try (exfalso; omega)) | with_reducible refine Br.intro (fun _ => ?_) (fun _ => ?_) | (with_reducible apply pcallE.of; · exact hAll) | (with_reducible refine And.intro ?_ ?_; · omega) | simp -dsimp -implicitDefEqProofs (disch := omega) only [VCA, Nat.reduceEqDiff, Nat.reduceAdd, Nat.reduceLT, ↓reduceIte, setAt, exists_eq_left', eDoc_len])
  intro r6 hr6
  by_cases h0 : (allM d l).2.2 = 0
  · rw [if_pos h0]
    have b0 : ((allM d l).2.2 != 0) = false := bN_f h0
    repeat' (first | ((with_reducible refine Br.dec (fun _ => ?_) (fun _ => ?_)) <;> try (exfalso; omega)) | ((with_reducible refine Br.eq (fun _ => ?_) (fun _ => ?_)) <;> try (exfalso; omega)) | ((with_reducible refine Br.ne (fun _ => ?_) (fun _ => ?_)) <;> try (exfalso; omega)) | ((with_reducible refine brNdec (fun _ => ?_) (fun _ => ?_)) <;> try (exfalso; omega)) | ((with_reducible refine brNeq (fun _ => ?_) (fun _ => ?_)) <;> try (exfalso; omega)) | with_reducible refine Br.intro (fun _ => ?_) (fun _ => ?_) | (with_reducible refine And.intro ?_ ?_; · omega) | simp -dsimp -implicitDefEqProofs (disch := omega) only [VCA, Nat.reduceEqDiff, ↓reduceIte, b0])
    refine LoopVC.intro (fun m E h' => ∃ (k : Nat) (a : AVal) (out : List HEdit), k ≤ l.length ∧ m = l.length - k ∧ out.length ≤ k ∧ E 9 = a ∧ E 25 = sl eEdit l ∧ E 26 = aInt l.length ∧ E 27 = aInt k ∧ Acc h 42 12 (out.map eEdit) a h' ∧ Sub h h' ∧ (l.drop k).foldl foldS out = foldM l) l.length
      ⟨0, .emp, [], by omega, by omega, Nat.le_refl _, rfl, rfl, rfl, rfl, .nil, (Sub.refl h).upd hr6, rfl⟩ ?_
    rintro m E h' ⟨k, a, out, hk, rfl, ol, E9, E25, E26, E27, A, S, hM⟩
    simp -dsimp -implicitDefEqProofs (disch := omega) only [VCA, ↓reduceIte, E26, E27]
    refine Br.dec (fun hlt => ?_) (fun hge => ?_)
    · have hk' : k < l.length := by omega
      have hd : l.drop k = nth l k :: l.drop (k + 1) := by
        have e : nth l k = l[k] := by unfold nth; rw [List.getD_eq_getElem?_getD, List.getElem?_eq_getElem hk']; rfl
        rw [e, List.getElem_cons_drop]
      rw [hd, List.foldl_cons] at hM
      have hx := hl _ (nth_mem' hk')
      obtain ⟨x, hxx⟩ : ∃ x, nth l k = x := ⟨_, rfl⟩
      rw [hxx] at hM hx
      have hC1 := cloneA_ok (G := G) x.node.attrs hx.node.attrs
      have hC2 := cloneZ_ok (G := G) x.node.kids hx.node.kids
      repeat' (first | ((with_reducible refine Br.dec (fun _ => ?_) (fun _ => ?_)) <;> try (exfalso; omega)) | ((with_reducible refine Br.eq (fun _ => ?_) (fun _ => ?_)) <;> try (exfalso; omega)) | ((with_reducible refine Br.ne (fun _ => ?_) (fun _ => ?_)) <;> try (exfalso; omega)) | ((with_reducible refine brNdec (fun _ => ?_) (fun _ => ?_)) <;> try (exfalso; omega)) | ((with_reducible refine brNeq (fun _ => ?_) (fun _ => ?_)) <;> try (exfalso; omega)) | with_reducible refine Br.intro (fun _ => ?_) (fun _ => ?_) | (with_reducible refine And.intro ?_ ?_; · omega) | simp -dsimp -implicitDefEqProofs (disch := omega) only [VCA, Nat.reduceEqDiff, Nat.reduceAdd, Nat.reduceLT, Nat.reduceLeDiff, ↓reduceIte, rsOf, rootsOf, setAt, exists_eq_left', rootL, E25, E27, hxx, eEdit_len, eEdit_take])
      intro r11 hr11
      have A5 : ∀ o, Acc h 42 12 (out.map eEdit) a (upd h' r11 (some o)) := fun o => A.re fun r ob q0 q1 => ⟨q0, by rw [upd_ne _ _ (fun e => by rw [e, hr11] at q1; cases q1)]; exact q1⟩
      repeat' (first | ((with_reducible refine Br.dec (fun _ => ?_) (fun _ => ?_)) <;> try (exfalso; omega)) | ((with_reducible refine Br.eq (fun _ => ?_) (fun _ => ?_)) <;> try (exfalso; omega)) | ((with_reducible refine Br.ne (fun _ => ?_) (fun _ => ?_)) <;> try (exfalso; omega)) | ((with_reducible refine brNdec (fun _ => ?_) (fun _ => ?_)) <;> try (exfalso; omega)) | ((with_reducible refine brNeq (fun _ => ?_) (fun _ => ?_)) <;> try (exfalso; omega)) | with_reducible refine Br.intro (fun _ => ?_) (fun _ => ?_) | (with_reducible apply pcallE.of; · exact hC1) | (with_reducible apply pcallE.of; · exact hC2) | ((refine (A5 _).app (S.upd (S.none hr11)) (by simp only [List.length_map]; simp; omega) (by simp only [List.length_map]; simp; omega) (fun a' h3 A' S' => ?_))) | (with_reducible refine And.intro ?_ ?_; · omega) | simp -dsimp -implicitDefEqProofs (disch := omega) only [VCA, Nat.reduceEqDiff, Nat.reduceBEq, Nat.reduceAdd, Nat.reduceLT, Nat.reduceLeDiff, ↓reduceIte, rsOf, rootsOf, SOp.rd, SI.rd, SX.rd, okParts, setAt, forall_eq, exists_eq_left, exists_eq_left', rootL, E9, eEdit])
      have A2 : Acc h 42 12 ((out ++ [x]).map eEdit) a' h3 := by rw [List.map_append]; exact A'
      obtain ⟨q1, q2⟩ := A2.len
      rw [List.length_map] at q1
      rw [q2, q1]
      refine ⟨trivial, ?_⟩
      refine LoopVC.intro (fun m E' h' => ∃ (f : Nat) (a : AVal) (L : List HEdit), m = f ∧ L.length ≤ f ∧ L.length ≤ k + 1 ∧ foldF f L = foldS out x ∧ E' 9 = a ∧ E' 12 = aInt L.length ∧ E' 25 = sl eEdit l ∧ E' 26 = aInt l.length ∧ E' 27 = aInt k ∧ Acc h 42 12 (L.map eEdit) a h' ∧ Sub h h') (out.length + 1)
        ⟨_, a', out ++ [x], rfl, by simp, by simp; omega, rfl, rfl, rfl, E25, E26, E27, A2, S'⟩ ?_
      clear A2 A' S' q1 q2
      rintro m E' h' ⟨f, a, L, rfl, Lf, Lk, hF, E9, E12, E25, E26, E27, A, S⟩
      simp -dsimp -implicitDefEqProofs (disch := omega) only [VCA, ↓reduceIte, E12]
      have leave : foldF m L = L → ∃ m', m' < l.length - k ∧ ∃ (k' : Nat) (a : AVal) (out : List HEdit), k' ≤ l.length ∧ m' = l.length - k' ∧ out.length ≤ k' ∧ E' 9 = a ∧ E' 25 = sl eEdit l ∧ E' 26 = aInt l.length ∧ aInt ((k : Int) + 1) = aInt k' ∧ Acc h 42 12 (out.map eEdit) a h' ∧ Sub h h' ∧ (l.drop k').foldl foldS out = foldM l := fun e => by
        rw [e] at hF
        exact ⟨_, by omega, k + 1, a, L, by omega, rfl, by omega, E9, E25, E26, by congr 1, A, S, by rw [hF]; exact hM⟩
      refine Br.dec (fun hgt => ?_) (fun hle => ?_)
      · have h2 : 1 < L.length := by omega
        obtain ⟨r, s0, s1, rfl⟩ := A.pos (by rw [List.length_map]; omega)
        rw [List.length_map] at E9
        have i1 : ((L.length : Int) - 2).toNat = L.length - 2 := by omega
        have i2 : ((L.length : Int) - 1).toNat = L.length - 1 := by omega
        have g1 := getD_mapE (l := L) (i := L.length - 2) (by omega)
        have g2 := getD_mapE (l := L) (i := L.length - 1) (by omega)
        have hJ := joined_ok (G := G) (nth L (L.length - 2)) (nth L (L.length - 1))
        unfold joinV at hJ
        have lm : ∀ m, joinM (nth L (L.length - 2)) (nth L (L.length - 1)) = some m → _ := fun m (q : joinM (nth L (L.length - 2)) (nth L (L.length - 1)) = some m) => joinM_len q
        have fn := foldF_none (f := m) (l := L)
        have fs := fun f m => foldF_some (f := f) (l := L) (m := m) h2
        generalize nth L (L.length - 2) = y at *
        generalize nth L (L.length - 1) = z at *
        cases hj : joinM y z with
        | none =>
          rw [hj] at hJ
          repeat' (first | ((with_reducible refine Br.dec (fun _ => ?_) (fun _ => ?_)) <;> try (exfalso; omega)) | ((with_reducible refine Br.eq (fun _ => ?_) (fun _ => ?_)) <;> try (exfalso; omega)) | ((with_reducible refine Br.ne (fun _ => ?_) (fun _ => ?_)) <;> try (exfalso; omega)) | ((with_reducible refine brNdec (fun _ => ?_) (fun _ => ?_)) <;> try (exfalso; omega)) | ((with_reducible refine brNeq (fun _ => ?_) (fun _ => ?_)) <;> try (exfalso; omega)) | with_reducible refine Br.intro (fun _ => ?_) (fun _ => ?_) | (with_reducible apply pcallE.of; · exact hJ) | (with_reducible refine And.intro ?_ ?_; · omega) | simp -dsimp -implicitDefEqProofs (disch := omega) only [VCA, Nat.reduceEqDiff, Nat.reduceAdd, Nat.reduceLT, ↓reduceIte, rsOf, rootsOf, exists_eq_left', rootL, E9, E12, E25, E26, E27, s1, i1, i2, g1, g2, eEdit_len, eEdit_take])
          rw [fn hj] at hF
          exact ⟨_, by omega, k + 1, .osl r 12 0 L.length, L, by omega, rfl, by omega, rfl, by omega, by rw [List.length_map] at A; exact A, S, by rw [hF]; exact hM⟩
        | some m2 =>
          obtain ⟨j1, j2⟩ := lm _ hj
          obtain ⟨f', rfl⟩ : ∃ f', m = f' + 1 := ⟨m - 1, by omega⟩
          rw [fs f' m2 hj] at hF
          have hcase : m2 = [] ∨ m2 = [z] := by
            cases m2 with
            | nil => exact .inl rfl
            | cons w t =>
              have : t = [] := by simpa using j1
              subst this
              right; rw [j2 w List.mem_cons_self]
          rcases hcase with rfl | rfl
          · rw [hj] at hJ
            repeat' (first | ((with_reducible refine Br.dec (fun _ => ?_) (fun _ => ?_)) <;> try (exfalso; omega)) | ((with_reducible refine Br.eq (fun _ => ?_) (fun _ => ?_)) <;> try (exfalso; omega)) | ((with_reducible refine Br.ne (fun _ => ?_) (fun _ => ?_)) <;> try (exfalso; omega)) | ((with_reducible refine brNdec (fun _ => ?_) (fun _ => ?_)) <;> try (exfalso; omega)) | ((with_reducible refine brNeq (fun _ => ?_) (fun _ => ?_)) <;> try (exfalso; omega)) | with_reducible refine Br.intro (fun _ => ?_) (fun _ => ?_) | (with_reducible apply pcallE.of; · exact hJ) | (with_reducible refine And.intro ?_ ?_; · omega) | simp -dsimp -implicitDefEqProofs (disch := omega) only [VCA, Nat.reduceEqDiff, Nat.reduceAdd, Nat.reduceLT, ↓reduceIte, rsOf, rootsOf, exists_eq_left, exists_eq_left', rootL, E9, E12, E25, E26, E27, s1, i1, i2, g1, g2, eEdit_len, eEdit_take])
            intro r' hr'
            have lt : (L.take (L.length - 2) ++ []).length = L.length - 2 := by rw [List.length_append, List.length_take, Nat.min_eq_left (by omega)]; rfl
            have A3 : Acc h 42 12 ((L.take (L.length - 2) ++ []).map eEdit) (.osl r' 12 0 (L.length - 2)) (upd (del h' r) r' (some ⟨.t 42, 12, (L.map eEdit).take (L.length - 2)⟩)) :=
              .inr ⟨r', (S.del s0).none hr', by rw [upd_same, List.map_append, List.map_take]; simp, by rw [List.length_map, lt]⟩
            exact ⟨f', by omega, f', .osl r' 12 0 (L.length - 2), L.take (L.length - 2) ++ [], rfl, by omega, by omega, hF, rfl, by rw [lt], A3, (S.del s0).upd ((S.del s0).none hr')⟩
          · rw [hj] at hJ
            repeat' (first | ((with_reducible refine Br.dec (fun _ => ?_) (fun _ => ?_)) <;> try (exfalso; omega)) | ((with_reducible refine Br.eq (fun _ => ?_) (fun _ => ?_)) <;> try (exfalso; omega)) | ((with_reducible refine Br.ne (fun _ => ?_) (fun _ => ?_)) <;> try (exfalso; omega)) | ((with_reducible refine brNdec (fun _ => ?_) (fun _ => ?_)) <;> try (exfalso; omega)) | ((with_reducible refine brNeq (fun _ => ?_) (fun _ => ?_)) <;> try (exfalso; omega)) | with_reducible refine Br.intro (fun _ => ?_) (fun _ => ?_) | (with_reducible apply pcallE.of; · exact hJ) | (with_reducible refine And.intro ?_ ?_; · omega) | simp -dsimp -implicitDefEqProofs (disch := omega) only [VCA, Nat.reduceEqDiff, Nat.reduceAdd, Nat.reduceLT, Nat.reduceLeDiff, ↓reduceIte, rsOf, rootsOf, forall_eq, exists_eq_left, exists_eq_left', rootL, E9, E12, E25, E26, E27, s1, i1, i2, g1, g2, eEdit_len, eEdit_take])
            intro r' hr'
            have lt : (L.take (L.length - 2) ++ [z]).length = L.length - 2 + 1 := by rw [List.length_append, List.length_take, Nat.min_eq_left (by omega)]; rfl
            have A3 : Acc h 42 12 ((L.take (L.length - 2) ++ [z]).map eEdit) (.osl r' 12 0 (L.length - 2 + 1)) (upd (del h' r) r' (some ⟨.t 42, 12, (L.map eEdit).take (L.length - 2) ++ [eEdit z]⟩)) :=
              .inr ⟨r', (S.del s0).none hr', by rw [upd_same, List.map_append, List.map_take]; simp, by rw [List.length_map, lt]⟩
            exact ⟨f', by omega, f', .osl r' 12 0 (L.length - 2 + 1), L.take (L.length - 2) ++ [z], rfl, by omega, by omega, hF, rfl, by rw [lt], A3, (S.del s0).upd ((S.del s0).none hr')⟩
      · have e := foldF_end (f := m) (l := L) (by omega)
        repeat' (first | ((with_reducible refine Br.dec (fun _ => ?_) (fun _ => ?_)) <;> try (exfalso; omega)) | ((with_reducible refine Br.eq (fun _ => ?_) (fun _ => ?_)) <;> try (exfalso; omega)) | ((with_reducible refine Br.ne (fun _ => ?_) (fun _ => ?_)) <;> try (exfalso; omega)) | ((with_reducible refine brNdec (fun _ => ?_) (fun _ => ?_)) <;> try (exfalso; omega)) | ((with_reducible refine brNeq (fun _ => ?_) (fun _ => ?_)) <;> try (exfalso; omega)) | with_reducible refine Br.intro (fun _ => ?_) (fun _ => ?_) | (with_reducible refine And.intro ?_ ?_; · omega) | simp -dsimp -implicitDefEqProofs (disch := omega) only [VCA, Nat.reduceEqDiff, ↓reduceIte, E9, E25, E26, E27])
        rw [e] at hF
        exact ⟨_, by omega, k + 1, a, L, by omega, rfl, by omega, rfl, by omega, A, S, by rw [hF]; exact hM⟩
    · obtain rfl : k = l.length := by omega
      rw [List.drop_length] at hM
      have hM : out = foldM l := hM
      rw [← hM]
      repeat' (first | ((with_reducible refine Br.dec (fun _ => ?_) (fun _ => ?_)) <;> try (exfalso; omega)) | ((with_reducible refine Br.eq (fun _ => ?_) (fun _ => ?_)) <;> try (exfalso; omega)) | ((with_reducible refine Br.ne (fun _ => ?_) (fun _ => ?_)) <;> try (exfalso; omega)) | ((with_reducible refine brNdec (fun _ => ?_) (fun _ => ?_)) <;> try (exfalso; omega)) | ((with_reducible refine brNeq (fun _ => ?_) (fun _ => ?_)) <;> try (exfalso; omega)) | with_reducible refine Br.intro (fun _ => ?_) (fun _ => ?_) | (with_reducible refine And.intro ?_ ?_; · omega) | simp -dsimp -implicitDefEqProofs (disch := omega) only [VCA, Nat.reduceEqDiff, ↓reduceIte, E9])
      exact ⟨_, Sub.refl _, S, .tup' (.cons (A.vw fun q hq => by obtain ⟨x, _, rfl⟩ := List.mem_map.1 hq; rfl) (.cons (by rw [h0]; exact .refl _) .nil))⟩
  · rw [if_neg h0]
    have b0 : ((allM d l).2.2 != 0) = true := bN_t h0
    repeat' (first | ((with_reducible refine Br.dec (fun _ => ?_) (fun _ => ?_)) <;> try (exfalso; omega)) | ((with_reducible refine Br.eq (fun _ => ?_) (fun _ => ?_)) <;> try (exfalso; omega)) | ((with_reducible refine Br.ne (fun _ => ?_) (fun _ => ?_)) <;> try (exfalso; omega)) | ((with_reducible refine brNdec (fun _ => ?_) (fun _ => ?_)) <;> try (exfalso; omega)) | ((with_reducible refine brNeq (fun _ => ?_) (fun _ => ?_)) <;> try (exfalso; omega)) | with_reducible refine Br.intro (fun _ => ?_) (fun _ => ?_) | (with_reducible refine And.intro ?_ ?_; · omega) | simp -dsimp -implicitDefEqProofs (disch := omega) only [VCA, Nat.reduceEqDiff, ↓reduceIte, b0])
    all_goals first
      | exact ⟨_, Sub.refl _, (Sub.refl h).upd hr6, .tup' (.cons (.refl _) (.cons (.refl _) .nil))⟩
      | trace_state
end Go.Proofs.K
end
section
/- Edits apart: the law of Touch and Clash. -/
set_option linter.unusedSimpArgs false
set_option linter.unusedVariables false
namespace Go.Proofs.K
open Go Go.Sim Go.Proofs
variable {G : Glob}
end Go.Proofs.K
end
section
/- Edits apart: the law of Fold. -/
set_option linter.unusedSimpArgs false
set_option linter.unusedVariables false
namespace Go.Proofs.K
open Go Go.Sim Go.Proofs
variable {G : Glob}
def c8 : SFun := ⟨(.seq (.reg [⟨(some 2), (.box 24 2 (.t 0)), none⟩, ⟨(some 4), (.mv (.c (.bool false))), none⟩]) (.seq (.dreg [(⟨(some 13), (.ld 2 true (.t 2)), none⟩, none), (⟨(some 14), (.pcall 10 [(.t 13), (.c (.int .i64 (40)))]), none⟩, none), (⟨(some 15), (.mv (.t 1)), none⟩, none), (⟨(some 16), (.mv (.t 1)), none⟩, none), (⟨(some 17), (.len (.t 16)), none⟩, none), (⟨(some 18), (.min2 (.t 17) (.c (.int .i64 (45)))), none⟩, none), (⟨(some 19), (.slA 12 (.t 15) none (some (.t 18))), none⟩, none), (⟨none, (.st 2 (.t 2) (.t 14)), none⟩, (some [13])), (⟨(some 1), (.mv (.t 19)), none⟩, (some [13]))]) (.seq (.reg [⟨(some 21), (.ld 2 true (.t 2)), none⟩, ⟨(some 22), (.mv (.t 1)), none⟩, ⟨(some 23), (.pcall 35 [(.t 21), (.t 22)]), none⟩, ⟨(some 20), (.mv (.t 23)), none⟩, ⟨(some 24), (.ext (.t 20) 0), none⟩, ⟨(some 25), (.ext (.t 20) 1), none⟩, ⟨(some 5), (.mv (.t 24)), none⟩, ⟨(some 6), (.mv (.t 25)), none⟩]) (.seq (.reg [⟨(some 27), (.ld 2 true (.t 2)), none⟩, ⟨(some 28), (.mv (.t 1)), none⟩, ⟨(some 29), (.pcall 19 [(.t 27), (.t 28)]), none⟩, ⟨(some 26), (.mv (.t 29)), none⟩, ⟨(some 30), (.ext (.t 26) 0), none⟩, ⟨(some 31), (.ext (.t 26) 1), none⟩, ⟨(some 32), (.ext (.t 26) 2), none⟩, ⟨(some 7), (.new 24 2 [.emp, (.bool false)]), none⟩, ⟨none, (.st 2 (.t 7) (.t 30)), none⟩, ⟨(some 8), (.mv (.t 31)), none⟩, ⟨(some 9), (.mv (.t 32)), none⟩]) (.seq (.seq (.reg [⟨(some 33), (.mv (.t 9)), none⟩, ⟨(some 34), (.bin .neq (.t 33) (.c (.int .i64 (0)))), none⟩]) (.cond (.t 34) (.seq (.reg [⟨(some 35), (.pcall 33 []), none⟩, ⟨(some 36), (.mv (.t 35)), none⟩, ⟨(some 37), (.mv (.t 6)), (some (36, true))⟩, ⟨(some 38), (.mv (.t 9)), (some (36, true))⟩, ⟨(some 39), (.bin .eql (.t 37) (.t 38)), (some (36, true))⟩, ⟨(some 40), (.pick (.t 36) (.t 39) (.c (.bool false))), none⟩, ⟨(some 41), (.mv (.t 40)), none⟩, ⟨(some 42), (.mv (.t 5)), (some (41, true))⟩, ⟨(some 43), (.len (.t 42)), (some (41, true))⟩, ⟨(some 44), (.bin .eql (.t 43) (.c (.int .i64 (0)))), (some (41, true))⟩, ⟨(some 45), (.pick (.t 41) (.t 44) (.c (.bool false))), none⟩, ⟨(some 4), (.mv (.t 45)), none⟩]) .ret) .skip)) (.seq (.reg [⟨(some 47), (.ld 2 true (.t 2)), none⟩, ⟨(some 48), (.mv (.t 5)), none⟩, ⟨(some 49), (.pcall 19 [(.t 47), (.t 48)]), none⟩, ⟨(some 46), (.mv (.t 49)), none⟩, ⟨(some 50), (.ext (.t 46) 0), none⟩, ⟨(some 51), (.ext (.t 46) 1), none⟩, ⟨(some 52), (.ext (.t 46) 2), none⟩, ⟨(some 10), (.new 24 2 [.emp, (.bool false)]), none⟩, ⟨none, (.st 2 (.t 10) (.t 50)), none⟩, ⟨(some 11), (.mv (.t 51)), none⟩, ⟨(some 12), (.mv (.t 52)), none⟩]) (.seq (.reg [⟨(some 53), (.pcall 33 []), none⟩, ⟨(some 54), (.mv (.t 53)), none⟩, ⟨(some 55), (.mv (.t 6)), (some (54, true))⟩, ⟨(some 56), (.bin .eql (.t 55) (.c (.int .i64 (0)))), (some (54, true))⟩, ⟨(some 57), (.pick (.t 54) (.t 56) (.c (.bool false))), none⟩, ⟨(some 58), (.mv (.t 57)), none⟩, ⟨(some 59), (.mv (.t 12)), (some (58, true))⟩, ⟨(some 60), (.bin .eql (.t 59) (.c (.int .i64 (0)))), (some (58, true))⟩, ⟨(some 61), (.pick (.t 58) (.t 60) (.c (.bool false))), none⟩, ⟨(some 62), (.mv (.t 61)), none⟩, ⟨(some 63), (.mv (.t 5)), (some (62, true))⟩, ⟨(some 64), (.len (.t 63)), (some (62, true))⟩, ⟨(some 65), (.mv (.t 1)), (some (62, true))⟩, ⟨(some 66), (.len (.t 65)), (some (62, true))⟩, ⟨(some 67), (.bin .leq (.t 64) (.t 66)), (some (62, true))⟩, ⟨(some 68), (.pick (.t 62) (.t 67) (.c (.bool false))), none⟩, ⟨(some 69), (.mv (.t 68)), none⟩, ⟨(some 70), (.ld 2 true (.t 7)), (some (69, true))⟩, ⟨(some 71), (.ld 2 true (.t 10)), (some (69, true))⟩, ⟨(some 72), (.pcall 14 [(.t 70), (.t 71)]), (some (69, true))⟩, ⟨(some 73), (.pick (.t 69) (.t 72) (.c (.bool false))), none⟩, ⟨(some 4), (.mv (.t 73)), none⟩]) .ret))))))), [(.tmp 4)]⟩
theorem hc8 : toSF Tryz.prog {pure := [10, 35, 19, 14, 33], how := [(2, 6)]} Tryz.f8 = some c8 := by kernel_rfl
theorem hn8 : (Tryz.f8.name == "runtime.NumGoroutine") = false := by kernel_rfl
set_option maxHeartbeats 1000000 in
theorem apartFolds_ok (d : HDoc) (sm : DocSm d) (l : List HEdit) (hl : ∀ e ∈ l, EditSm e) (ll : l.length ≤ 1073741824) : PCalls (Pg G) 8 [.agg (eDoc d), sl eEdit l] (.bool true) := fun h => by
  have hF : PCalls (Pg G) 10 [.agg (eDoc d), .int .i64 40] (.agg (eDoc ⟨d.nodes.take 40, d.quirks⟩)) := few_ok (G := G) d 40 sm
  have fs := sm.few 40
  generalize (⟨d.nodes.take 40, d.quirks⟩ : HDoc) = f at *
  obtain ⟨L, hL⟩ : ∃ L, l.take (min (l.length : Int) 45).toNat = L := ⟨_, rfl⟩
  have hm : ∀ e ∈ L, EditSm e := fun e he => hl e (List.mem_of_mem_take (hL ▸ he))
  have ml : L.length ≤ 45 := by rw [← hL, List.length_take]; omega
  have hA := fold_ok (G := G) f fs L hm (by omega)
  have hE := editedAll_ok (G := G) f fs L hm (by omega)
  have asm := allM_sm fs hm
  have hB := apartBegun_ok (G := G)
  unfold allV at hE
  by_cases h0 : (allM f L).2.2 = 0
  · obtain ⟨hd, l40, aM⟩ := allM_zero h0
    have V := docE_DV hd
    obtain ⟨k1, k2, k3, k4⟩ := foldM_ok V fs hm (by rw [← aM]; exact h0)
    have aM2 : allM f (foldM L) = runM f (foldM L) 0 := by unfold allM; rw [if_neg (by simpa using hd), if_neg (by omega)]
    have hE2 := editedAll_ok (G := G) f fs (foldM L) k4 (by omega)
    unfold allV at hE2
    rw [aM2, k1, k2, ← aM] at hE2
    rw [if_pos h0, h0] at hA
    rw [h0] at hE
    have hS2 : PCalls (Pg G) 14 [.agg (eDoc (allM f L).1), .agg (eDoc (allM f L).1)] (.bool true) := by
      have h := sameDoc_ok (G := G) (allM f L).1 (allM f L).1 asm asm
      rwa [show ((allM f L).1 == (allM f L).1) = true by simp] at h
    generalize (allM f L).1 = D at *
    generalize (allM f L).2.1 = N at *
    generalize foldM L = M at *
    refine dcalls_of_vc Tryz.func8 hn8 hc8 (by rw [Tryz.ntmps8]; simp) (by rw [Tryz.ntmps8]; decide) ?_
    simp -dsimp -implicitDefEqProofs (disch := omega) only [VCA, Nat.reduceEqDiff, Nat.reduceLT, ↓reduceIte, rsOf, rootsOf, exists_eq_left', rootL, c8, eDoc_len, eDoc_take]
    intro r2 hr2
    repeat' (first | ((with_reducible refine Br.dec (fun _ => ?_) (fun _ => ?_)) <;> try (exfalso; omega)) | ((with_reducible refine Br.eq (fun _ => ?_) (fun _ => ?_)) <;> try (exfalso; omega)) | ((with_reducible refine Br.ne (fun _ => ?_) (fun _ => ?_)) <;> try (exfalso; omega)) | ((with_reducible refine brNdec (fun _ => ?_) (fun _ => ?_)) <;> try (exfalso; omega)) | ((with_reducible refine brNeq (fun _ => ?_) (fun _ => ?_)) <;> try (exfalso; omega)) | with_reducible refine Br.intro (fun _ => ?_) (fun _ => ?_) | (with_reducible apply pcallE.of; · exact hF) | (with_reducible apply pcallE.of; · exact hA) | (with_reducible apply pcallE.of; · exact hE) | (with_reducible refine And.intro ?_ ?_; · omega) | simp -dsimp -implicitDefEqProofs (disch := omega) only [VCA, ↓upd_none, Nat.reduceEqDiff, Nat.reduceBEq, Nat.reduceAdd, Nat.reduceLT, ↓reduceIte, rsOf, rootsOf, SOp.rd, SI.rd, SX.rd, setAt, ne_eq, exists_eq_left', rootL, eDoc_len, eDoc_take, eDoc_dr, hL])
    intro r7 hr7
    have m1 : ¬ r7 = r2 := hr7.1
    have m2 : ¬ r2 = r7 := fun h => m1 h.symm
    repeat' (first | ((with_reducible refine Br.dec (fun _ => ?_) (fun _ => ?_)) <;> try (exfalso; omega)) | ((with_reducible refine Br.eq (fun _ => ?_) (fun _ => ?_)) <;> try (exfalso; omega)) | ((with_reducible refine Br.ne (fun _ => ?_) (fun _ => ?_)) <;> try (exfalso; omega)) | ((with_reducible refine brNdec (fun _ => ?_) (fun _ => ?_)) <;> try (exfalso; omega)) | ((with_reducible refine brNeq (fun _ => ?_) (fun _ => ?_)) <;> try (exfalso; omega)) | with_reducible refine Br.intro (fun _ => ?_) (fun _ => ?_) | (with_reducible apply pcallE.of; · exact hE2) | (with_reducible refine And.intro ?_ ?_; · omega) | simp -dsimp -implicitDefEqProofs (disch := omega) only [VCA, ↓upd_none, Nat.reduceEqDiff, Nat.reduceAdd, Nat.reduceLT, ↓reduceIte, setAt, ne_eq, exists_eq_left', eDoc_len, eDoc_take, m2])
    intro r10 hr10
    have n1 : ¬ r10 = r7 := hr10.1
    have n2 : ¬ r7 = r10 := fun h => n1 h.symm
    have n3 : ¬ r10 = r2 := hr10.2.1
    have n4 : ¬ r2 = r10 := fun h => n3 h.symm
    repeat' (first | ((with_reducible refine Br.dec (fun _ => ?_) (fun _ => ?_)) <;> try (exfalso; omega)) | ((with_reducible refine Br.eq (fun _ => ?_) (fun _ => ?_)) <;> try (exfalso; omega)) | ((with_reducible refine Br.ne (fun _ => ?_) (fun _ => ?_)) <;> try (exfalso; omega)) | ((with_reducible refine brNdec (fun _ => ?_) (fun _ => ?_)) <;> try (exfalso; omega)) | ((with_reducible refine brNeq (fun _ => ?_) (fun _ => ?_)) <;> try (exfalso; omega)) | with_reducible refine Br.intro (fun _ => ?_) (fun _ => ?_) | (with_reducible apply pcallE.of; · exact hB) | (with_reducible apply pcallE.of; · exact hS2) | (with_reducible refine And.intro ?_ ?_; · omega) | simp -dsimp -implicitDefEqProofs (disch := omega) only [↓vcOps_sp 54, ↓vcOps_sp 58, ↓vcOps_sp 62, ↓vcOps_sp 69, VCA, Nat.reduceEqDiff, Nat.reduceLT, ↓reduceIte, exists_eq_right, exists_eq_left', eDoc_len, eDoc_take, n2])
    all_goals first | exact (((Sub.refl h).upd hr2).upd hr7.2).upd hr10.2.2 | exact ⟨(((Sub.refl h).upd hr2).upd hr7.2).upd hr10.2.2, by simp⟩ | (exfalso; rename_i q; exact q rfl) | (exfalso; omega) | trace_state
  · rw [if_neg h0] at hA
    have b0 : ((allM f L).2.2 != 0) = true := bN_t h0
    have b1 : ((allM f L).2.2 == (allM f L).2.2) = true := by simp
    refine dcalls_of_vc Tryz.func8 hn8 hc8 (by rw [Tryz.ntmps8]; simp) (by rw [Tryz.ntmps8]; decide) ?_
    simp -dsimp -implicitDefEqProofs (disch := omega) only [VCA, Nat.reduceEqDiff, Nat.reduceLT, ↓reduceIte, rsOf, rootsOf, exists_eq_left', rootL, c8, eDoc_len, eDoc_take]
    intro r2 hr2
    repeat' (first | ((with_reducible refine Br.dec (fun _ => ?_) (fun _ => ?_)) <;> try (exfalso; omega)) | ((with_reducible refine Br.eq (fun _ => ?_) (fun _ => ?_)) <;> try (exfalso; omega)) | ((with_reducible refine Br.ne (fun _ => ?_) (fun _ => ?_)) <;> try (exfalso; omega)) | ((with_reducible refine brNdec (fun _ => ?_) (fun _ => ?_)) <;> try (exfalso; omega)) | ((with_reducible refine brNeq (fun _ => ?_) (fun _ => ?_)) <;> try (exfalso; omega)) | with_reducible refine Br.intro (fun _ => ?_) (fun _ => ?_) | (with_reducible apply pcallE.of; · exact hF) | (with_reducible apply pcallE.of; · exact hA) | (with_reducible apply pcallE.of; · exact hE) | (with_reducible refine And.intro ?_ ?_; · omega) | simp -dsimp -implicitDefEqProofs (disch := omega) only [VCA, ↓upd_none, Nat.reduceEqDiff, Nat.reduceBEq, Nat.reduceAdd, Nat.reduceLT, ↓reduceIte, rsOf, rootsOf, SOp.rd, SI.rd, SX.rd, setAt, ne_eq, exists_eq_left', rootL, eDoc_len, eDoc_take, eDoc_dr, hL])
    intro r7 hr7
    have m1 : ¬ r7 = r2 := hr7.1
    have m2 : ¬ r2 = r7 := fun h => m1 h.symm
    repeat' (first | ((with_reducible refine Br.dec (fun _ => ?_) (fun _ => ?_)) <;> try (exfalso; omega)) | ((with_reducible refine Br.eq (fun _ => ?_) (fun _ => ?_)) <;> try (exfalso; omega)) | ((with_reducible refine Br.ne (fun _ => ?_) (fun _ => ?_)) <;> try (exfalso; omega)) | ((with_reducible refine brNdec (fun _ => ?_) (fun _ => ?_)) <;> try (exfalso; omega)) | ((with_reducible refine brNeq (fun _ => ?_) (fun _ => ?_)) <;> try (exfalso; omega)) | with_reducible refine Br.intro (fun _ => ?_) (fun _ => ?_) | (with_reducible apply pcallE.of; · exact hB) | (with_reducible refine And.intro ?_ ?_; · omega) | simp -dsimp -implicitDefEqProofs (disch := omega) only [↓vcOps_sp 36, ↓vcOps_sp 41, VCA, Nat.reduceEqDiff, ↓reduceIte, exists_eq_right_right, b0, b1])
    all_goals first | exact ((Sub.refl h).upd hr2).upd hr7.2 | exact ⟨((Sub.refl h).upd hr2).upd hr7.2, by simp⟩ | (exfalso; rename_i q; exact q rfl) | trace_state
end Go.Proofs.K
end
