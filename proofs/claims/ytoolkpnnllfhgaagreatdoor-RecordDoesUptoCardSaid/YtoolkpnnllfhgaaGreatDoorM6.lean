/- Texts of this claim, one behind the other. -/
import Derived.Test.YtoolkpnnllfhgaaGreatDoorM5
import Derived.Test.YtoolkpnnllfhgaaGreatDoorM3
section
/- Edits: the reference's EditErr. -/
set_option linter.unusedSimpArgs false
set_option linter.unusedVariables false
namespace Go.Proofs.K
open Go Go.Sim Go.Proofs
variable {G : Glob}
theorem betwD_ok (n a b : Int) : PCalls (Pg G) 76 [aInt n, aInt a, aInt b] (.bool (decide (a ≤ n ∧ n ≤ b))) := by
  have h := betw_ok (G := G) n a b
  have e : (decide (a ≤ n) && decide (n ≤ b)) = decide (a ≤ n ∧ n ≤ b) := by simp
  rwa [e] at h
theorem errR_4 {d : HDoc} {e : HEdit} (h4 : e.do' = 4) : errR d e = if 0 < (e.node.kids.length : Int) then 3 else if e.node.kind = 1 then 7 else nodeE e.node := by
  unfold errR
  rw [if_neg (by omega), if_pos h4]
  by_cases hk : e.node.kids = []
  · rw [if_neg (by simpa using hk), if_neg (c := 0 < (e.node.kids.length : Int)) (by rw [hk]; simp)]
  · rw [if_pos hk, if_pos]
    have := List.length_pos_iff.2 hk
    omega
theorem errR_in {d : HDoc} {e : HEdit} (h1 : 1 ≤ e.do') (h6 : e.do' ≤ 6) (h4 : e.do' ≠ 4) (hi : ¬ inD d e.at' ∨ (e.do' = 5 ∧ ¬ inD d e.to)) : errR d e = 5 := by
  unfold errR
  rw [if_neg (by omega), if_neg h4, if_pos hi]
theorem errR_1 {d : HDoc} {e : HEdit} (h : e.do' = 1) (ha : inD d e.at') : errR d e = if (nd d e.at').kind ≠ 2 then 7 else if (!nameOK false e.name) = true then 3 else 0 := by
  unfold errR
  rw [if_neg (by omega), if_neg (by omega), if_neg (by simp [ha]; omega), if_pos h]
  cases nameOK false e.name <;> simp
theorem errR_2 {d : HDoc} {e : HEdit} (h : e.do' = 2) (ha : inD d e.at') : errR d e = if (nd d e.at').kind ≠ 2 then 7 else if ¬ 0 ≤ attrAt (nd d e.at').attrs e.name then 5 else 0 := by
  unfold errR
  rw [if_neg (by omega), if_neg (by omega), if_neg (by simp [ha]; omega), if_neg (by omega), if_pos h]
theorem errR_3 {d : HDoc} {e : HEdit} (h : e.do' = 3) (ha : inD d e.at') : errR d e = if (nd d e.at').kind ≠ 3 ∧ (nd d e.at').kind ≠ 4 then 7 else 0 := by
  unfold errR
  rw [if_neg (by omega), if_neg (by omega), if_neg (by simp [ha]; omega), if_neg (by omega), if_neg (by omega), if_pos h]
theorem errR_6 {d : HDoc} {e : HEdit} (h : e.do' = 6) (ha : inD d e.at') : errR d e = if e.at' = 0 then 7 else if (nd d e.at').parent < 0 then 5 else 0 := by
  unfold errR
  rw [if_neg (by omega), if_neg (by omega), if_neg (by simp [ha]; omega), if_neg (by omega), if_neg (by omega), if_neg (by omega), if_pos h]
theorem errR_5 {d : HDoc} {e : HEdit} (h : e.do' = 5) (ha : inD d e.at') (ht : inD d e.to) : errR d e = if 2 < (nd d e.at').kind ∨ e.to = 0 ∨ (e.at' = 0 ∧ (nd d e.to).kind = 3) then 7 else if 0 ≤ (nd d e.to).parent then 9
    else if e.before ≠ -1 ∧ idxM (· == e.before) (nd d e.at').kids < 0 then 5 else if decide (e.to ∈ chain d e.at') = true then 8 else 0 := by
  have im := idx_mem (nd d e.at').kids e.before
  unfold errR
  rw [if_neg (by omega), if_neg (by omega), if_neg (by simp [ha, ht]), if_neg (by omega), if_neg (by omega), if_neg (by omega), if_neg (by omega)]
  have : (e.before ∉ (nd d e.at').kids) = (idxM (· == e.before) (nd d e.at').kids < 0) := by rw [← im]; exact propext (by omega)
  simp only [this, decide_eq_true_eq]
def c58_s7 : SCode := (.seq (.seq (.reg [⟨(some 65), (.fldA 0 (.t 3)), none⟩, ⟨(some 66), (.ld 1 false (.t 65)), none⟩]) (.block 0 (.seq (.reg [⟨(some 112), (.bin .eql (.t 66) (.c (.int .i64 (1)))), none⟩, ⟨(some 111), (.mv (.t 112)), none⟩]) (.cond (.t 111) (.seq (.seq (.reg [⟨(some 113), (.fldA 0 (.t 6)), none⟩, ⟨(some 114), (.ld 1 false (.t 113)), none⟩, ⟨(some 115), (.bin .neq (.t 114) (.c (.int .i64 (2)))), none⟩]) (.cond (.t 115) (.seq (.reg [⟨(some 4), (.mv (.c (.int .i64 (7)))), none⟩]) .ret) .skip)) (.seq (.reg [⟨(some 116), (.fldA 4 (.t 3)), none⟩, ⟨(some 117), (.ld 1 false (.t 116)), none⟩, ⟨(some 118), (.pcall 102 [(.t 117), (.c (.bool false))]), none⟩, ⟨(some 119), (.un .not (.t 118)), none⟩]) (.cond (.t 119) (.seq (.reg [⟨(some 4), (.mv (.c (.int .i64 (3)))), none⟩]) .ret) .skip))) (.seq (.reg [⟨(some 121), (.bin .eql (.t 66) (.c (.int .i64 (2)))), none⟩, ⟨(some 120), (.mv (.t 121)), none⟩]) (.cond (.t 120) (.seq (.seq (.reg [⟨(some 122), (.fldA 0 (.t 6)), none⟩, ⟨(some 123), (.ld 1 false (.t 122)), none⟩, ⟨(some 124), (.bin .neq (.t 123) (.c (.int .i64 (2)))), none⟩]) (.cond (.t 124) (.seq (.reg [⟨(some 4), (.mv (.c (.int .i64 (7)))), none⟩]) .ret) .skip)) (.seq (.reg [⟨(some 125), (.mv (.t 8)), none⟩, ⟨(some 126), (.un .not (.t 125)), none⟩]) (.cond (.t 126) (.seq (.reg [⟨(some 4), (.mv (.c (.int .i64 (5)))), none⟩]) .ret) .skip))) (.seq (.reg [⟨(some 128), (.bin .eql (.t 66) (.c (.int .i64 (3)))), none⟩, ⟨(some 127), (.mv (.t 128)), none⟩]) (.cond (.t 127) (.seq (.reg [⟨(some 129), (.fldA 0 (.t 6)), none⟩, ⟨(some 130), (.ld 1 false (.t 129)), none⟩, ⟨(some 131), (.bin .neq (.t 130) (.c (.int .i64 (3)))), none⟩, ⟨(some 132), (.mv (.t 131)), none⟩, ⟨(some 133), (.fldA 0 (.t 6)), (some (132, true))⟩, ⟨(some 134), (.ld 1 false (.t 133)), (some (132, true))⟩, ⟨(some 135), (.bin .neq (.t 134) (.c (.int .i64 (4)))), (some (132, true))⟩, ⟨(some 136), (.pick (.t 132) (.t 135) (.c (.bool false))), none⟩]) (.cond (.t 136) (.seq (.reg [⟨(some 4), (.mv (.c (.int .i64 (7)))), none⟩]) .ret) .skip)) (.seq (.reg [⟨(some 138), (.bin .eql (.t 66) (.c (.int .i64 (6)))), none⟩, ⟨(some 137), (.mv (.t 138)), none⟩]) (.cond (.t 137) (.seq (.seq (.reg [⟨(some 139), (.fldA 1 (.t 3)), none⟩, ⟨(some 140), (.ld 1 false (.t 139)), none⟩, ⟨(some 141), (.bin .eql (.t 140) (.c (.int .i64 (0)))), none⟩]) (.cond (.t 141) (.seq (.reg [⟨(some 4), (.mv (.c (.int .i64 (7)))), none⟩]) .ret) .skip)) (.seq (.reg [⟨(some 142), (.fldA 4 (.t 6)), none⟩, ⟨(some 143), (.ld 1 false (.t 142)), none⟩, ⟨(some 144), (.bin .lss (.t 143) (.c (.int .i64 (0)))), none⟩]) (.cond (.t 144) (.seq (.reg [⟨(some 4), (.mv (.c (.int .i64 (5)))), none⟩]) .ret) .skip))) (.seq (.reg [⟨(some 67), (.fldA 0 (.t 2)), none⟩, ⟨(some 68), (.ld 1 false (.t 67)), none⟩, ⟨(some 69), (.fldA 2 (.t 3)), none⟩, ⟨(some 70), (.ld 1 false (.t 69)), none⟩, ⟨(some 71), (.idxA 6 (.t 68) (.t 70)), none⟩, ⟨(some 72), (.ld 6 true (.t 71)), none⟩, ⟨(some 9), (.new 40 6 [(.int .i64 (0)), (.str []), .emp, (.str []), (.int .i64 (0)), .emp]), none⟩, ⟨none, (.st 6 (.t 9) (.t 72)), none⟩]) (.seq (.seq (.reg [⟨(some 73), (.fldA 0 (.t 6)), none⟩, ⟨(some 74), (.ld 1 false (.t 73)), none⟩, ⟨(some 75), (.bin .gtr (.t 74) (.c (.int .i64 (2)))), none⟩, ⟨(some 76), (.mv (.t 75)), none⟩, ⟨(some 77), (.fldA 2 (.t 3)), (some (76, false))⟩, ⟨(some 78), (.ld 1 false (.t 77)), (some (76, false))⟩, ⟨(some 79), (.bin .eql (.t 78) (.c (.int .i64 (0)))), (some (76, false))⟩, ⟨(some 80), (.pick (.t 76) (.c (.bool true)) (.t 79)), none⟩, ⟨(some 81), (.mv (.t 80)), none⟩, ⟨(some 82), (.fldA 1 (.t 3)), (some (81, false))⟩, ⟨(some 83), (.ld 1 false (.t 82)), (some (81, false))⟩, ⟨(some 84), (.bin .eql (.t 83) (.c (.int .i64 (0)))), (some (81, false))⟩, ⟨(some 85), (.mv (.t 84)), (some (81, false))⟩, ⟨(some 86), (.fldA 0 (.t 9)), (some (85, true))⟩, ⟨(some 87), (.ld 1 false (.t 86)), (some (85, true))⟩, ⟨(some 88), (.bin .eql (.t 87) (.c (.int .i64 (3)))), (some (85, true))⟩, ⟨(some 89), (.pick (.t 85) (.t 88) (.c (.bool false))), (some (81, false))⟩, ⟨(some 90), (.pick (.t 81) (.c (.bool true)) (.t 89)), none⟩]) (.cond (.t 90) (.seq (.reg [⟨(some 4), (.mv (.c (.int .i64 (7)))), none⟩]) .ret) .skip)) (.seq (.seq (.reg [⟨(some 91), (.fldA 4 (.t 9)), none⟩, ⟨(some 92), (.ld 1 false (.t 91)), none⟩, ⟨(some 93), (.bin .geq (.t 92) (.c (.int .i64 (0)))), none⟩]) (.cond (.t 93) (.seq (.reg [⟨(some 4), (.mv (.c (.int .i64 (9)))), none⟩]) .ret) .skip)) (.seq (.seq (.reg [⟨(some 94), (.fldA 3 (.t 3)), none⟩, ⟨(some 95), (.ld 1 false (.t 94)), none⟩, ⟨(some 96), (.bin .neq (.t 95) (.c (.int .i64 (-1)))), none⟩, ⟨(some 97), (.mv (.t 96)), none⟩, ⟨(some 98), (.fldA 5 (.t 6)), (some (97, true))⟩, ⟨(some 99), (.ld 1 false (.t 98)), (some (97, true))⟩, ⟨(some 100), (.fldA 3 (.t 3)), (some (97, true))⟩, ⟨(some 101), (.ld 1 false (.t 100)), (some (97, true))⟩, ⟨(some 102), (.pcall 60 [(.t 99), (.t 101)]), (some (97, true))⟩, ⟨(some 103), (.bin .lss (.t 102) (.c (.int .i64 (0)))), (some (97, true))⟩, ⟨(some 104), (.pick (.t 97) (.t 103) (.c (.bool false))), none⟩]) (.cond (.t 104) (.seq (.reg [⟨(some 4), (.mv (.c (.int .i64 (5)))), none⟩]) .ret) .skip)) (.seq (.reg [⟨(some 105), (.ld 2 true (.t 2)), none⟩, ⟨(some 106), (.fldA 1 (.t 3)), none⟩, ⟨(some 107), (.ld 1 false (.t 106)), none⟩, ⟨(some 108), (.fldA 2 (.t 3)), none⟩, ⟨(some 109), (.ld 1 false (.t 108)), none⟩, ⟨(some 110), (.pcall 62 [(.t 105), (.t 107), (.t 109)]), none⟩]) (.cond (.t 110) (.seq (.reg [⟨(some 4), (.mv (.c (.int .i64 (8)))), none⟩]) .ret) .skip)))))))))))))))) (.seq (.reg [⟨(some 4), (.mv (.c (.int .i64 (0)))), none⟩]) .ret))
def c58_s4 : SCode := (.seq (.seq (.reg [⟨(some 32), (.fldA 1 (.t 3)), none⟩, ⟨(some 33), (.ld 1 false (.t 32)), none⟩, ⟨(some 34), (.mv (.t 5)), none⟩, ⟨(some 35), (.bin .sub (.t 34) (.c (.int .i64 (1)))), none⟩, ⟨(some 36), (.pcall 76 [(.t 33), (.c (.int .i64 (0))), (.t 35)]), none⟩, ⟨(some 37), (.un .not (.t 36)), none⟩, ⟨(some 38), (.mv (.t 37)), none⟩, ⟨(some 39), (.fldA 0 (.t 3)), (some (38, false))⟩, ⟨(some 40), (.ld 1 false (.t 39)), (some (38, false))⟩, ⟨(some 41), (.bin .eql (.t 40) (.c (.int .i64 (5)))), (some (38, false))⟩, ⟨(some 42), (.mv (.t 41)), (some (38, false))⟩, ⟨(some 43), (.fldA 2 (.t 3)), (some (42, true))⟩, ⟨(some 44), (.ld 1 false (.t 43)), (some (42, true))⟩, ⟨(some 45), (.mv (.t 5)), (some (42, true))⟩, ⟨(some 46), (.bin .sub (.t 45) (.c (.int .i64 (1)))), (some (42, true))⟩, ⟨(some 47), (.pcall 76 [(.t 44), (.c (.int .i64 (0))), (.t 46)]), (some (42, true))⟩, ⟨(some 48), (.un .not (.t 47)), (some (42, true))⟩, ⟨(some 49), (.pick (.t 42) (.t 48) (.c (.bool false))), (some (38, false))⟩, ⟨(some 50), (.pick (.t 38) (.c (.bool true)) (.t 49)), none⟩]) (.cond (.t 50) (.seq (.reg [⟨(some 4), (.mv (.c (.int .i64 (5)))), none⟩]) .ret) .skip)) (.seq (.reg [⟨(some 51), (.fldA 0 (.t 2)), none⟩, ⟨(some 52), (.ld 1 false (.t 51)), none⟩, ⟨(some 53), (.fldA 1 (.t 3)), none⟩, ⟨(some 54), (.ld 1 false (.t 53)), none⟩, ⟨(some 55), (.idxA 6 (.t 52) (.t 54)), none⟩, ⟨(some 56), (.ld 6 true (.t 55)), none⟩, ⟨(some 6), (.new 40 6 [(.int .i64 (0)), (.str []), .emp, (.str []), (.int .i64 (0)), .emp]), none⟩, ⟨none, (.st 6 (.t 6) (.t 56)), none⟩]) (.seq (.reg [⟨(some 58), (.fldA 2 (.t 6)), none⟩, ⟨(some 59), (.ld 1 false (.t 58)), none⟩, ⟨(some 60), (.fldA 4 (.t 3)), none⟩, ⟨(some 61), (.ld 1 false (.t 60)), none⟩, ⟨(some 62), (.pcall 94 [(.t 59), (.t 61)]), none⟩, ⟨(some 57), (.mv (.t 62)), none⟩, ⟨(some 63), (.ext (.t 57) 0), none⟩, ⟨(some 64), (.ext (.t 57) 1), none⟩, ⟨(some 7), (.mv (.t 63)), none⟩, ⟨(some 8), (.mv (.t 64)), none⟩]) c58_s7)))
def c58 : SFun := ⟨(.seq (.reg [⟨(some 2), (.boxF 24 2 (.t 0)), none⟩, ⟨(some 3), (.boxF 42 12 (.t 1)), none⟩, ⟨(some 4), (.mv (.c (.int .i64 (0)))), none⟩]) (.seq (.reg [⟨(some 10), (.fldA 0 (.t 2)), none⟩, ⟨(some 11), (.ld 1 false (.t 10)), none⟩, ⟨(some 12), (.len (.t 11)), none⟩, ⟨(some 5), (.mv (.t 12)), none⟩]) (.seq (.seq (.reg [⟨(some 13), (.fldA 0 (.t 3)), none⟩, ⟨(some 14), (.ld 1 false (.t 13)), none⟩, ⟨(some 15), (.pcall 76 [(.t 14), (.c (.int .i64 (1))), (.c (.int .i64 (6)))]), none⟩, ⟨(some 16), (.un .not (.t 15)), none⟩]) (.cond (.t 16) (.seq (.reg [⟨(some 4), (.mv (.c (.int .i64 (1)))), none⟩]) .ret) .skip)) (.seq (.seq (.reg [⟨(some 17), (.fldA 0 (.t 3)), none⟩, ⟨(some 18), (.ld 1 false (.t 17)), none⟩, ⟨(some 19), (.bin .eql (.t 18) (.c (.int .i64 (4)))), none⟩]) (.cond (.t 19) (.seq (.seq (.reg [⟨(some 20), (.fldA 6 (.t 3)), none⟩, ⟨(some 21), (.fldA 5 (.t 20)), none⟩, ⟨(some 22), (.ld 1 false (.t 21)), none⟩, ⟨(some 23), (.len (.t 22)), none⟩, ⟨(some 24), (.bin .gtr (.t 23) (.c (.int .i64 (0)))), none⟩]) (.cond (.t 24) (.seq (.reg [⟨(some 4), (.mv (.c (.int .i64 (3)))), none⟩]) .ret) .skip)) (.seq (.seq (.reg [⟨(some 25), (.fldA 6 (.t 3)), none⟩, ⟨(some 26), (.fldA 0 (.t 25)), none⟩, ⟨(some 27), (.ld 1 false (.t 26)), none⟩, ⟨(some 28), (.bin .eql (.t 27) (.c (.int .i64 (1)))), none⟩]) (.cond (.t 28) (.seq (.reg [⟨(some 4), (.mv (.c (.int .i64 (7)))), none⟩]) .ret) .skip)) (.seq (.reg [⟨(some 29), (.fldA 6 (.t 3)), none⟩, ⟨(some 30), (.ld 6 true (.t 29)), none⟩, ⟨(some 31), (.pcall 92 [(.t 30)]), none⟩, ⟨(some 4), (.mv (.t 31)), none⟩]) .ret))) .skip)) c58_s4)))), [(.tmp 4)]⟩
theorem hc58 : toSF Tryz.prog {pure := [76, 92, 60, 94, 102, 62]} Tryz.f58 = some c58 := by kernel_rfl
theorem hn58 : (Tryz.f58.name == "runtime.NumGoroutine") = false := by kernel_rfl
set_option maxHeartbeats 2000000 in
theorem editErr_ok (d : HDoc) (V : DV d) (sm : DocSm d) (e : HEdit) (he : EditSm e) : PCalls (Pg G) 58 [.agg (eDoc d), .agg (eEdit e)] (aInt (errR d e)) := fun h => by
  have hl := sm.len
  have hN := nodeErr_ok (G := G) e.node he.node
  have hB1 : PCalls (Pg G) 76 [aInt e.do', .int .i64 1, .int .i64 6] (.bool (decide (1 ≤ e.do' ∧ e.do' ≤ 6))) := betwD_ok (G := G) e.do' 1 6
  have hB2 : PCalls (Pg G) 76 [aInt e.at', .int .i64 0, aInt ((d.nodes.length : Int) - 1)] (.bool (decide (0 ≤ e.at' ∧ e.at' ≤ (d.nodes.length : Int) - 1))) := betwD_ok (G := G) e.at' 0 ((d.nodes.length : Int) - 1)
  have hB3 : PCalls (Pg G) 76 [aInt e.to, .int .i64 0, aInt ((d.nodes.length : Int) - 1)] (.bool (decide (0 ≤ e.to ∧ e.to ≤ (d.nodes.length : Int) - 1))) := betwD_ok (G := G) e.to 0 ((d.nodes.length : Int) - 1)
  have s7 : inD d e.at' → (e.do' = 5 → inD d e.to) → 1 ≤ e.do' → e.do' ≤ 6 → e.do' ≠ 4 → ∀ (E : Env) (h2 : Heap) (r6 : Nat), h2 r6 = some ⟨.t 40, 6, [eNode (nd d e.at')]⟩ → Sim.Sub h h2 → E 2 = .pin (eDoc d) → E 3 = .pin (eEdit e) → E 6 = .vp r6 0 → E 8 = .bool (decide (0 ≤ attrAt (nd d e.at').attrs e.name)) → vc (Pg G) c58_s7 (retK [.tmp 4] fun r h' => r = aInt (errR d e) ∧ h' = h) E h2 := by
    intro ha hto h1 h6 h4 E h2 r6 hr6 S he2 he3 he6 he8
    unfold eNode at hr6
    unfold c58_s7
    skip
    have a0 := ha.1
    have a1 := ha.2
    have ea : nth d.nodes e.at'.toNat = nd d e.at' := rfl
    have et : nth d.nodes e.to.toNat = nd d e.to := rfl
    have hD : PCalls (Pg G) 102 [.str e.name, .bool false] (.bool (nameOK false e.name)) := domName_ok (G := G) e.name false he.name
    have hP : PCalls (Pg G) 60 [sl eInt (nd d e.at').kids, aInt e.before] (aInt (idxM (· == e.before) (nd d e.at').kids)) := placeIn_ok (G := G) _ _ (sm.nd _).kids
    have im := idx_mem (nd d e.at').kids e.before
    have hU : e.do' = 5 → PCalls (Pg G) 62 [.agg [sl eNode d.nodes, .bool d.quirks], aInt e.at', aInt e.to] (.bool (decide (e.to ∈ chain d e.at'))) := fun h5 => under_ok (G := G) d V e.at' e.to ha (hto h5).1
    by_cases c1 : e.do' = 1
    · have hE := errR_1 c1 ha
      generalize nameOK false e.name = bn at *
      cases bn
      all_goals
        simp -dsimp -implicitDefEqProofs (disch := omega) only [VCA, Nat.reduceAdd, Nat.reduceLeDiff, ↓reduceIte, he3, eEdit, c1]
        repeat' (first | ((with_reducible refine Br.dec (fun _ => ?_) (fun _ => ?_)) <;> try (exfalso; omega)) | ((with_reducible refine Br.eq (fun _ => ?_) (fun _ => ?_)) <;> try (exfalso; omega)) | ((with_reducible refine Br.ne (fun _ => ?_) (fun _ => ?_)) <;> try (exfalso; omega)) | ((with_reducible refine brNdec (fun _ => ?_) (fun _ => ?_)) <;> try (exfalso; omega)) | ((with_reducible refine brNeq (fun _ => ?_) (fun _ => ?_)) <;> try (exfalso; omega)) | with_reducible refine Br.intro (fun _ => ?_) (fun _ => ?_) | (with_reducible apply pcallE.of; · exact hD) | (with_reducible refine And.intro ?_ ?_; · omega) | simp -dsimp -implicitDefEqProofs (disch := omega) only [VCA, Nat.reduceEqDiff, Nat.reduceAdd, Nat.reduceLT, Nat.reduceLeDiff, ↓reduceIte, exists_eq_right_right, exists_eq_left', he3, he6, hr6, eEdit, c1])
      all_goals first | (rw [hE]; ((repeat' split) <;> first | with_reducible rfl | (exfalso; omega) | contradiction); done) | (refine ⟨S, ?_⟩; rw [hE]; ((repeat' split) <;> first | with_reducible rfl | (exfalso; omega) | contradiction); done) | trace_state
    by_cases c2 : e.do' = 2
    · have hE := errR_2 c2 ha
      by_cases hat : 0 ≤ attrAt (nd d e.at').attrs e.name
      all_goals
        first
          | rw [decide_eq_true hat] at he8
          | rw [decide_eq_false hat] at he8
        simp -dsimp -implicitDefEqProofs (disch := omega) only [VCA, Nat.reduceAdd, Nat.reduceLeDiff, ↓reduceIte, he3, eEdit, c2]
        repeat' (first | ((with_reducible refine Br.dec (fun _ => ?_) (fun _ => ?_)) <;> try (exfalso; omega)) | ((with_reducible refine Br.eq (fun _ => ?_) (fun _ => ?_)) <;> try (exfalso; omega)) | ((with_reducible refine Br.ne (fun _ => ?_) (fun _ => ?_)) <;> try (exfalso; omega)) | ((with_reducible refine brNdec (fun _ => ?_) (fun _ => ?_)) <;> try (exfalso; omega)) | ((with_reducible refine brNeq (fun _ => ?_) (fun _ => ?_)) <;> try (exfalso; omega)) | with_reducible refine Br.intro (fun _ => ?_) (fun _ => ?_) | (with_reducible refine And.intro ?_ ?_; · omega) | simp -dsimp -implicitDefEqProofs (disch := omega) only [VCA, Nat.reduceEqDiff, Nat.reduceAdd, Nat.reduceLT, Nat.reduceLeDiff, ↓reduceIte, exists_eq_right_right, exists_eq_left', he6, he8, hr6])
      all_goals first | (rw [hE]; ((repeat' split) <;> first | with_reducible rfl | (exfalso; omega) | contradiction); done) | (refine ⟨S, ?_⟩; rw [hE]; ((repeat' split) <;> first | with_reducible rfl | (exfalso; omega) | contradiction); done) | trace_state
    by_cases c3 : e.do' = 3
    · have hE := errR_3 c3 ha
      simp -dsimp -implicitDefEqProofs (disch := omega) only [VCA, Nat.reduceAdd, Nat.reduceLeDiff, ↓reduceIte, he3, eEdit, c3]
      repeat' (first | ((with_reducible refine Br.dec (fun _ => ?_) (fun _ => ?_)) <;> try (exfalso; omega)) | ((with_reducible refine Br.eq (fun _ => ?_) (fun _ => ?_)) <;> try (exfalso; omega)) | ((with_reducible refine Br.ne (fun _ => ?_) (fun _ => ?_)) <;> try (exfalso; omega)) | ((with_reducible refine brNdec (fun _ => ?_) (fun _ => ?_)) <;> try (exfalso; omega)) | ((with_reducible refine brNeq (fun _ => ?_) (fun _ => ?_)) <;> try (exfalso; omega)) | with_reducible refine Br.intro (fun _ => ?_) (fun _ => ?_) | (with_reducible refine And.intro ?_ ?_; · omega) | simp -dsimp -implicitDefEqProofs (disch := omega) only [↓vcOps_sp 132, VCA, Nat.reduceEqDiff, Nat.reduceAdd, Nat.reduceLT, Nat.reduceLeDiff, ↓reduceIte, exists_eq_right_right, exists_eq_left', he6, hr6])
      all_goals first | (rw [hE]; ((repeat' split) <;> first | with_reducible rfl | (exfalso; omega) | contradiction); done) | (refine ⟨S, ?_⟩; rw [hE]; ((repeat' split) <;> first | with_reducible rfl | (exfalso; omega) | contradiction); done) | trace_state
    by_cases c6 : e.do' = 6
    · have hE := errR_6 c6 ha
      simp -dsimp -implicitDefEqProofs (disch := omega) only [VCA, Nat.reduceAdd, Nat.reduceLeDiff, ↓reduceIte, he3, eEdit, c6]
      repeat' (first | ((with_reducible refine Br.dec (fun _ => ?_) (fun _ => ?_)) <;> try (exfalso; omega)) | ((with_reducible refine Br.eq (fun _ => ?_) (fun _ => ?_)) <;> try (exfalso; omega)) | ((with_reducible refine Br.ne (fun _ => ?_) (fun _ => ?_)) <;> try (exfalso; omega)) | ((with_reducible refine brNdec (fun _ => ?_) (fun _ => ?_)) <;> try (exfalso; omega)) | ((with_reducible refine brNeq (fun _ => ?_) (fun _ => ?_)) <;> try (exfalso; omega)) | with_reducible refine Br.intro (fun _ => ?_) (fun _ => ?_) | (with_reducible refine And.intro ?_ ?_; · omega) | simp -dsimp -implicitDefEqProofs (disch := omega) only [VCA, Nat.reduceEqDiff, Nat.reduceAdd, Nat.reduceLT, Nat.reduceLeDiff, ↓reduceIte, exists_eq_right_right, exists_eq_left', he3, he6, hr6, eEdit, c6])
      all_goals first | (rw [hE]; ((repeat' split) <;> first | with_reducible rfl | (exfalso; omega) | contradiction); done) | (refine ⟨S, ?_⟩; rw [hE]; ((repeat' split) <;> first | with_reducible rfl | (exfalso; omega) | contradiction); done) | trace_state
    have c5 : e.do' = 5 := by omega
    have t0 := (hto c5).1
    have t1 := (hto c5).2
    have hU := hU c5
    have hE := errR_5 c5 ha (hto c5)
    clear im hD hB1 hB2 hB3 hN
    generalize decide (e.to ∈ chain d e.at') = bc at *
    cases bc
    all_goals
      simp -dsimp -implicitDefEqProofs (disch := omega) only [VCA, Nat.reduceAdd, Nat.reduceLeDiff, ↓reduceIte, he3, eEdit, c5]
      repeat' (first | ((with_reducible refine Br.dec (fun _ => ?_) (fun _ => ?_)) <;> try (exfalso; omega)) | ((with_reducible refine Br.eq (fun _ => ?_) (fun _ => ?_)) <;> try (exfalso; omega)) | ((with_reducible refine Br.ne (fun _ => ?_) (fun _ => ?_)) <;> try (exfalso; omega)) | ((with_reducible refine brNdec (fun _ => ?_) (fun _ => ?_)) <;> try (exfalso; omega)) | ((with_reducible refine brNeq (fun _ => ?_) (fun _ => ?_)) <;> try (exfalso; omega)) | with_reducible refine Br.intro (fun _ => ?_) (fun _ => ?_) | (with_reducible refine And.intro ?_ ?_; · omega) | simp -dsimp -implicitDefEqProofs (disch := omega) only [↓vcOps_sp 76, VCA, Nat.reduceEqDiff, Nat.reduceAdd, Nat.reduceLT, Nat.reduceLeDiff, ↓reduceIte, setAt, exists_eq_left', eDoc, he2, he3, he6, hr6, eEdit, eNode, c5])
      intro r9 hr9
      have n69 : ¬ r6 = r9 := fun e => by rw [← e, hr6] at hr9; cases hr9
      have n96 : ¬ r9 = r6 := fun e => n69 e.symm
      repeat' (first | ((with_reducible refine Br.dec (fun _ => ?_) (fun _ => ?_)) <;> try (exfalso; omega)) | ((with_reducible refine Br.eq (fun _ => ?_) (fun _ => ?_)) <;> try (exfalso; omega)) | ((with_reducible refine Br.ne (fun _ => ?_) (fun _ => ?_)) <;> try (exfalso; omega)) | ((with_reducible refine brNdec (fun _ => ?_) (fun _ => ?_)) <;> try (exfalso; omega)) | ((with_reducible refine brNeq (fun _ => ?_) (fun _ => ?_)) <;> try (exfalso; omega)) | with_reducible refine Br.intro (fun _ => ?_) (fun _ => ?_) | (with_reducible apply pcallE.of; · exact hP) | (with_reducible apply pcallE.of; · exact hU) | (with_reducible refine And.intro ?_ ?_; · omega) | simp -dsimp -implicitDefEqProofs (disch := omega) only [↓vcOps_sp 81, ↓vcOps_sp 85, ↓vcOps_sp 97, VCA, Nat.reduceEqDiff, Nat.reduceAdd, Nat.reduceLT, Nat.reduceLeDiff, ↓reduceIte, exists_eq_right_right, exists_eq_left', eDoc, he2, he3, he6, hr6, n69, eEdit, c5, et])
      all_goals first | (rw [hE]; ((repeat' split) <;> first | with_reducible rfl | (exfalso; omega) | contradiction); done) | (refine ⟨S.upd (S.none hr9), ?_⟩; rw [hE]; ((repeat' split) <;> first | with_reducible rfl | (exfalso; omega) | contradiction); done) | trace_state
  have s4 : 1 ≤ e.do' → e.do' ≤ 6 → e.do' ≠ 4 → ∀ E : Env, E 2 = .pin (eDoc d) → E 3 = .pin (eEdit e) → E 5 = aInt d.nodes.length → vc (Pg G) c58_s4 (retK [.tmp 4] fun r h' => r = aInt (errR d e) ∧ h' = h) E h := by
    intro h1 h6 h4 E he2 he3 he5
    unfold c58_s4
    skip
    have ea : nth d.nodes e.at'.toNat = nd d e.at' := rfl
    have hA : PCalls (Pg G) 94 [sl eAttr (nd d e.at').attrs, .str e.name] (.tup [.str (attrOfM (nd d e.at').attrs e.name).1, .bool (attrOfM (nd d e.at').attrs e.name).2]) := attrOf_ok (G := G) _ e.name (sm.nd _).attrs
    rw [attrOf_has] at hA
    simp -dsimp -implicitDefEqProofs (disch := omega) only [VCA, Nat.reduceEqDiff, Nat.reduceAdd, Nat.reduceLeDiff, ↓reduceIte, he3, he5, eEdit]
    repeat' (first | ((with_reducible refine Br.dec (fun _ => ?_) (fun _ => ?_)) <;> try (exfalso; omega)) | ((with_reducible refine Br.eq (fun _ => ?_) (fun _ => ?_)) <;> try (exfalso; omega)) | ((with_reducible refine Br.ne (fun _ => ?_) (fun _ => ?_)) <;> try (exfalso; omega)) | ((with_reducible refine brNdec (fun _ => ?_) (fun _ => ?_)) <;> try (exfalso; omega)) | ((with_reducible refine brNeq (fun _ => ?_) (fun _ => ?_)) <;> try (exfalso; omega)) | with_reducible refine Br.intro (fun _ => ?_) (fun _ => ?_) | (with_reducible apply pcallE.of; · exact hB2) | (with_reducible apply pcallE.of; · exact hB3) | (with_reducible refine And.intro ?_ ?_; · omega) | simp -dsimp -implicitDefEqProofs (disch := omega) only [↓vcOps_sp 38, ↓vcOps_sp 42, VCA, Nat.reduceEqDiff, Nat.reduceAdd, Nat.reduceLT, Nat.reduceLeDiff, ↓reduceIte, setAt, exists_eq_right_right, exists_eq_left', eDoc, he2, he3, he5, eEdit, eNode, ea])
    · exact ⟨Sub.refl _, (errR_in h1 h6 h4 (.inl (by unfold inD; omega))).symm⟩
    · exact ⟨Sub.refl _, (errR_in h1 h6 h4 (.inr (by unfold inD; omega))).symm⟩
    all_goals
      rename_i qq
      intro r6 hr6
      repeat' (first | ((with_reducible refine Br.dec (fun _ => ?_) (fun _ => ?_)) <;> try (exfalso; omega)) | ((with_reducible refine Br.eq (fun _ => ?_) (fun _ => ?_)) <;> try (exfalso; omega)) | ((with_reducible refine Br.ne (fun _ => ?_) (fun _ => ?_)) <;> try (exfalso; omega)) | ((with_reducible refine brNdec (fun _ => ?_) (fun _ => ?_)) <;> try (exfalso; omega)) | ((with_reducible refine brNeq (fun _ => ?_) (fun _ => ?_)) <;> try (exfalso; omega)) | with_reducible refine Br.intro (fun _ => ?_) (fun _ => ?_) | (with_reducible apply pcallE.of; · exact hA) | (with_reducible refine And.intro ?_ ?_; · omega) | simp -dsimp -implicitDefEqProofs (disch := omega) only [VCA, Nat.reduceEqDiff, Nat.reduceAdd, Nat.reduceLT, ↓reduceIte])
      exact s7 (by unfold inD; omega) (fun h5 => by unfold inD; omega) h1 h6 h4 _ _ r6 (upd_same _ _ _) ((Sub.refl _).upd hr6) he2 he3 rfl rfl
  refine dcalls_of_vc Tryz.func58 hn58 hc58 (by rw [Tryz.ntmps58]; simp) (by rw [Tryz.ntmps58]; decide) ?_
  simp -dsimp -implicitDefEqProofs (disch := omega) only [VCA, Nat.reduceEqDiff, Nat.reduceAdd, Nat.reduceLeDiff, ↓reduceIte, eDoc, c58, eEdit]
  unfold eNode at hN
  repeat' (first | ((with_reducible refine Br.dec (fun _ => ?_) (fun _ => ?_)) <;> try (exfalso; omega)) | ((with_reducible refine Br.eq (fun _ => ?_) (fun _ => ?_)) <;> try (exfalso; omega)) | ((with_reducible refine Br.ne (fun _ => ?_) (fun _ => ?_)) <;> try (exfalso; omega)) | ((with_reducible refine brNdec (fun _ => ?_) (fun _ => ?_)) <;> try (exfalso; omega)) | ((with_reducible refine brNeq (fun _ => ?_) (fun _ => ?_)) <;> try (exfalso; omega)) | with_reducible refine Br.intro (fun _ => ?_) (fun _ => ?_) | (with_reducible apply pcallE.of; · exact hB1) | (with_reducible apply pcallE.of; · exact hN) | (with_reducible refine And.intro ?_ ?_; · omega) | simp -dsimp -implicitDefEqProofs (disch := omega) only [VCA, Nat.reduceEqDiff, Nat.reduceAdd, Nat.reduceLeDiff, ↓reduceIte, exists_eq_right_right])
  · rename_i q
    exact ⟨Sub.refl _, by unfold errR; rw [if_pos q]⟩
  · rename_i q1 q2 q3
    exact ⟨Sub.refl _, by rw [errR_4 q2, if_pos q3]⟩
  · rename_i q1 q2 q3 q4
    exact ⟨Sub.refl _, by rw [errR_4 q2, if_neg q3, if_pos q4]⟩
  · rename_i q1 q2 q3 q4
    exact ⟨Sub.refl _, by rw [errR_4 q2, if_neg q3, if_neg q4]⟩
  · rename_i q1 q2
    exact s4 q1.1 q1.2 q2 _ rfl rfl rfl
end Go.Proofs.K
end
section
/- Edits: the reference's Edited: its end, its begin. -/
set_option linter.unusedSimpArgs false
set_option linter.unusedVariables false
namespace Go.Proofs.K
open Go Go.Sim Go.Proofs
variable {G : Glob}
theorem DocSm.setN {d : HDoc} {x : HNode} {n : Int} (sm : DocSm d) (hx : NodeSm x) : DocSm (setN d n x) := ⟨by rw [setN_len]; exact sm.len, fun y hy => by
  rcases List.mem_or_eq_of_mem_set hy with h | h
  · exact sm.each y h
  · exact h ▸ hx⟩
theorem edit_sm {d : HDoc} (V : DV d) (sm : DocSm d) {e : HEdit} (he : EditSm e) (h0 : errR d e = 0) : DocSm (editD d e) := by
  have kl : ∀ n, (nd d n).kids.length ≤ 1073741823 := fun n => by
    by_cases hn : inD d n
    · have := nodup_len d.nodes.length (nd d n).kids (V.nodup n hn) (fun k hk => (V.kid n hn k hk).1)
      have := V.len
      omega
    · have : (nd d n).kids = [] ∨ inD d n.toNat := by
        by_cases h : n.toNat < d.nodes.length
        · exact .inr (inD_nat.2 h)
        · left; unfold nd; rw [nth_def h]; rfl
      rcases this with h | h
      · rw [h]; decide
      · have h2 := nodup_len d.nodes.length (nd d n.toNat).kids (V.nodup _ h) (fun k hk => (V.kid _ h k hk).1)
        have : nd d (n.toNat : Int) = nd d n := by unfold nd; rw [Int.toNat_natCast]
        rw [this] at h2
        have := V.len
        omega
  have ns := fun n => sm.nd n
  unfold editD
  split
  · rename_i h1
    have ha : inD d e.at' := by
      apply Classical.byContradiction; intro ha
      rw [errR_in (by omega) (by omega) (by omega) (.inl ha)] at h0; omega
    have al := ((attrsE_iff _).1 ((nodeE_iff _).1 (V.node _ ha)).2.2.2.1).1
    refine sm.setN ⟨(ns _).name, ?_, ?_, (ns _).text, (ns _).kids⟩
    · unfold setAttr; split
      · rw [List.length_set]; omega
      · rw [List.length_append, List.length_singleton]; omega
    · intro a ha
      have : a ∈ (nd d e.at').attrs ∨ a = ⟨e.name, e.value⟩ := by
        unfold setAttr at ha; split at ha
        · exact List.mem_or_eq_of_mem_set ha
        · rcases List.mem_append.1 ha with h | h
          · exact .inl h
          · exact .inr (by simpa using h)
      rcases this with h | h
      · exact (ns _).each a h
      · subst h; exact ⟨he.name, he.value⟩
  split
  · refine sm.setN ⟨(ns _).name, ?_, ?_, (ns _).text, (ns _).kids⟩
    · have := (ns e.at').attrs
      unfold dropAttr; rw [List.length_append, List.length_take, List.length_drop]; omega
    · intro a ha
      refine (ns e.at').each a ?_
      unfold dropAttr at ha
      rcases List.mem_append.1 ha with h | h
      · exact List.mem_of_mem_take h
      · exact List.mem_of_mem_drop h
  split
  · exact sm.setN ⟨(ns _).name, (ns _).attrs, (ns _).each, he.value, (ns _).kids⟩
  split
  · refine ⟨by rw [addN_len]; have := V.len; omega, fun y hy => ?_⟩
    rcases List.mem_append.1 hy with h | h
    · exact sm.each y h
    · have : y = madeM e.node := by simpa using h
      subst this
      exact ⟨he.node.name, he.node.attrs, he.node.each, he.node.text, Nat.zero_le _⟩
  split
  · unfold hung
    refine DocSm.setN (DocSm.setN sm ⟨(ns e.at').name, (ns e.at').attrs, (ns e.at').each, (ns e.at').text, ?_⟩) ⟨(ns e.to).name, (ns e.to).attrs, (ns e.to).each, (ns e.to).text, (ns e.to).kids⟩
    have := kl e.at'
    show (List.take _ _ ++ _ :: List.drop _ _).length ≤ _
    rw [List.length_append, List.length_cons, List.length_take, List.length_drop]; omega
  · unfold cutN
    refine DocSm.setN (DocSm.setN sm ⟨(ns (nd d e.at').parent).name, (ns (nd d e.at').parent).attrs, (ns (nd d e.at').parent).each, (ns (nd d e.at').parent).text, ?_⟩) ⟨(ns e.at').name, (ns e.at').attrs, (ns e.at').each, (ns e.at').text, (ns e.at').kids⟩
    show (List.take _ _ ++ List.drop _ _).length ≤ _
    have := kl (nd d e.at').parent
    rw [List.length_append, List.length_take, List.length_drop]; omega
/-- what is refused, and what becomes of a document: by its own check -/
theorem apply_by {d : HDoc} (V : DV d) {e : HEdit} (h0 : errR d e = 0) : (docE (editD d e) ≠ 0 → applyE d e = 2) ∧ (docE (editD d e) = 0 → applyE d e = 0) := by
  have hd := (docE_iff d).2 V
  have aE : applyE d e = editE d e := by unfold applyE; rw [if_neg (by simpa using hd)]
  have h1 := edit_DV V e h0
  rw [← docE_iff] at h1
  rw [aE]
  refine ⟨fun h => ?_, fun h => h1.1 h⟩
  rcases (editE_errR V e).2 h0 with h2 | h2
  · exact absurd (h1.2 h2) h
  · exact h2
theorem apply_err {d : HDoc} (V : DV d) {e : HEdit} (h0 : errR d e ≠ 0) : applyE d e = errR d e := by
  have hd := (docE_iff d).2 V
  unfold applyE; rw [if_neg (by simpa using hd)]
  exact (editE_errR V e).1 h0
theorem Fresh.vw {α : Type} [Inhabited α] {enc : α → List AVal} {h h' : Heap} {ty sz : Nat} [LenE enc sz] {l : List α} {a : AVal} (F : Fresh h h' ty sz (l.map enc) a) : Vw (newH h h') a (sl enc l) :=
  (F.own.keep fun r o hr ho => by rw [newH_none (F.new r hr)]; exact ho).vw
def Vz (a b : AVal) : Prop := ∀ h, Vw h a b
theorem Vz.refl (a : AVal) : Vz a a := fun h => .refl a
theorem Vz.emp : Vz .emp (.slc []) := fun h => .emp
theorem F2.imp' {α : Type} {R S : α → α → Prop} (hi : ∀ a b, R a b → S a b) {l m : List α} (h : F2 R l m) : F2 S l m := by
  induction h with
  | nil => exact .nil
  | cons h _ ih => exact .cons (hi _ _ h) ih
theorem F2.app {α : Type} {R : α → α → Prop} {l m l2 m2 : List α} (h : F2 R l m) (h2 : F2 R l2 m2) : F2 R (l ++ l2) (m ++ m2) := by
  induction h with
  | nil => exact h2
  | cons h _ ih => exact .cons h ih
theorem OwnS.vwk {α : Type} [Inhabited α] {enc : α → List AVal} {h : Heap} {ty sz : Nat} [LenE enc sz] {l : List α} {cells : List (List AVal)} {a : AVal} (O : OwnS h ty sz cells a) (M : Mut a) (hc : F2 (F2 Vz) cells (l.map enc)) : Vw h a (sl enc l) := by
  rcases O.live M with ⟨h1, h2⟩ | ⟨r, es, ha, hr, h1, h2⟩
  · subst h1
    have : l = [] := by
      have := hc.len
      rw [List.length_map] at this
      exact List.eq_nil_of_length_eq_zero this.symm
    subst this; subst h2; exact .emp
  · subst ha
    refine Vw.osl0 hr hc.len.symm h1 (fun f hf => by obtain ⟨x, _, rfl⟩ := List.mem_map.1 hf; exact LenE.len x) ?_
    show F2 _ (es.take _) _
    rw [h2]
    exact F2.imp' (fun _ _ hb => F2.imp' (fun _ _ hw => hw h) hb) hc
theorem Fresh.vwk {α : Type} [Inhabited α] {enc : α → List AVal} {h h' : Heap} {ty sz : Nat} [LenE enc sz] {l : List α} {cells : List (List AVal)} {a : AVal} (F : Fresh h h' ty sz cells a) (hc : F2 (F2 Vz) cells (l.map enc)) : Vw (newH h h') a (sl enc l) :=
  OwnS.vwk (F.own.keep fun r o hr ho => by rw [newH_none (F.new r hr)]; exact ho) F.live hc
theorem wks_refl (l : List (List AVal)) : F2 (F2 Vz) l l := F2.refl (fun a => F2.refl (fun x => .refl x) a) l
/-- what Edited answers -/
def edR (d : HDoc) (e : HEdit) : AVal := .tup [.agg (eDoc (applyD d e)), aInt (applyN d e), aInt (applyE d e)]
def EdK (d : HDoc) (e : HEdit) (h : Heap) (a : AVal) (h' : Heap) : Prop := Sub h h' ∧ VwT (newH h h') a (edR d e)
def c26_s6 : SCode := (.seq (.seq (.reg [⟨(some 199), (.ld 2 true (.t 8)), none⟩, ⟨(some 200), (.call (.c (.fn 48 [] [])) [(.t 199)]), none⟩, ⟨(some 201), (.bin .neq (.t 200) (.c (.int .i64 (0)))), none⟩]) (.cond (.t 201) (.seq (.reg [⟨(some 202), (.bld [.emp, (.bool false)] []), none⟩, ⟨none, (.st 2 (.t 4) (.t 202)), none⟩, ⟨(some 5), (.mv (.c (.int .i64 (0)))), none⟩, ⟨(some 6), (.mv (.c (.int .i64 (2)))), none⟩]) .ret) .skip)) (.seq (.reg [⟨(some 203), (.ld 2 true (.t 8)), none⟩, ⟨(some 204), (.mv (.t 9)), none⟩, ⟨none, (.st 2 (.t 4) (.t 203)), none⟩, ⟨(some 5), (.mv (.t 204)), none⟩, ⟨(some 6), (.mv (.c (.int .i64 (0)))), none⟩]) .ret))
def c26_s5 : SCode := (.seq (.seq (.reg [⟨(some 26), (.fldA 0 (.t 3)), none⟩, ⟨(some 27), (.ld 1 false (.t 26)), none⟩, ⟨(some 28), (.bin .eql (.t 27) (.c (.int .i64 (4)))), none⟩]) (.cond (.t 28) (.seq (.reg [⟨(some 29), (.fldA 0 (.t 8)), none⟩, ⟨(some 30), (.ld 1 false (.t 29)), none⟩, ⟨(some 31), (.len (.t 30)), none⟩, ⟨(some 9), (.mv (.t 31)), none⟩]) (.dreg [(⟨(some 32), (.fldA 0 (.t 8)), none⟩, none), (⟨(some 33), (.ld 1 false (.t 32)), none⟩, none), (⟨(some 34), (.fldA 6 (.t 3)), none⟩, none), (⟨(some 35), (.fldA 0 (.t 34)), none⟩, none), (⟨(some 36), (.ld 1 false (.t 35)), none⟩, none), (⟨(some 37), (.fldA 6 (.t 3)), none⟩, none), (⟨(some 38), (.fldA 1 (.t 37)), none⟩, none), (⟨(some 39), (.ld 1 false (.t 38)), none⟩, none), (⟨(some 40), (.bldF 96 2 []), none⟩, none), (⟨(some 41), (.fldA 6 (.t 3)), none⟩, none), (⟨(some 42), (.fldA 2 (.t 41)), none⟩, none), (⟨(some 43), (.ld 1 false (.t 42)), none⟩, none), (⟨(some 45), (.fldA 6 (.t 3)), none⟩, none), (⟨(some 46), (.fldA 3 (.t 45)), none⟩, none), (⟨(some 47), (.ld 1 false (.t 46)), none⟩, none), (⟨(some 44), (.appF 96 2 32 (.t 40) (.t 43)), none⟩, (some [43])), (⟨(some 48), (.bld [(.int .i64 (0)), (.str []), .emp, (.str []), (.int .i64 (0)), .emp] [(0, (1, (.t 36))), (1, (1, (.t 39))), (2, (1, (.t 44))), (3, (1, (.t 47))), (4, (1, (.c (.int .i64 (-1)))))]), none⟩, none), (⟨(some 49), (.bldF 40 6 [(.t 48)]), none⟩, none), (⟨(some 50), (.app 40 6 96 (.t 33) (.t 49)), none⟩, (some [33, 36, 39, 47, 43])), (⟨(some 51), (.fldA 0 (.t 8)), none⟩, none), (⟨none, (.st 1 (.t 51) (.t 50)), none⟩, (some [33, 36, 39, 47, 43]))])) (.seq (.reg [⟨(some 52), (.fldA 0 (.t 8)), none⟩, ⟨(some 53), (.ld 1 false (.t 52)), none⟩, ⟨(some 54), (.fldA 1 (.t 3)), none⟩, ⟨(some 55), (.ld 1 false (.t 54)), none⟩, ⟨(some 56), (.idxA 6 (.t 53) (.t 55)), none⟩, ⟨(some 57), (.ld 6 true (.t 56)), none⟩, ⟨(some 10), (.new 40 6 [(.int .i64 (0)), (.str []), .emp, (.str []), (.int .i64 (0)), .emp]), none⟩, ⟨none, (.st 6 (.t 10) (.t 57)), none⟩]) (.seq (.reg [⟨(some 11), (.mv (.c .emp)), none⟩]) (.seq (.reg [⟨(some 12), (.mv (.c (.bool false))), none⟩]) (.seq (.seq (.reg [⟨(some 13), (.mv (.c (.int .i64 (0)))), none⟩]) (.block 0 (.loop (.seq (.seq (.reg [⟨(some 58), (.mv (.t 13)), none⟩, ⟨(some 59), (.fldA 2 (.t 10)), none⟩, ⟨(some 60), (.ld 1 false (.t 59)), none⟩, ⟨(some 61), (.len (.t 60)), none⟩, ⟨(some 62), (.bin .lss (.t 58) (.t 61)), none⟩]) (.cond (.t 62) .skip (.exit 0))) (.seq (.block 1 (.seq (.reg [⟨(some 65), (.fldA 2 (.t 10)), none⟩, ⟨(some 66), (.ld 1 false (.t 65)), none⟩, ⟨(some 67), (.mv (.t 13)), none⟩, ⟨(some 68), (.idxA 2 (.t 66) (.t 67)), none⟩, ⟨(some 69), (.ld 2 true (.t 68)), none⟩, ⟨(some 14), (.new 96 2 [(.str []), (.str [])]), none⟩, ⟨none, (.st 2 (.t 14) (.t 69)), none⟩]) (.seq (.seq (.reg [⟨(some 70), (.fldA 0 (.t 14)), none⟩, ⟨(some 71), (.ld 1 false (.t 70)), none⟩, ⟨(some 72), (.fldA 4 (.t 3)), none⟩, ⟨(some 73), (.ld 1 false (.t 72)), none⟩, ⟨(some 74), (.bin .eql (.t 71) (.t 73)), none⟩, ⟨(some 75), (.mv (.t 74)), none⟩, ⟨(some 76), (.fldA 0 (.t 3)), (some (75, true))⟩, ⟨(some 77), (.ld 1 false (.t 76)), (some (75, true))⟩, ⟨(some 78), (.bin .eql (.t 77) (.c (.int .i64 (1)))), (some (75, true))⟩, ⟨(some 79), (.pick (.t 75) (.t 78) (.c (.bool false))), none⟩]) (.cond (.t 79) (.seq (.reg [⟨(some 80), (.fldA 5 (.t 3)), none⟩, ⟨(some 81), (.ld 1 false (.t 80)), none⟩, ⟨(some 82), (.fldA 1 (.t 14)), none⟩, ⟨none, (.st 1 (.t 82) (.t 81)), none⟩]) (.reg [⟨(some 12), (.mv (.c (.bool true))), none⟩])) .skip)) (.seq (.reg [⟨(some 83), (.fldA 0 (.t 14)), none⟩, ⟨(some 84), (.ld 1 false (.t 83)), none⟩, ⟨(some 85), (.fldA 4 (.t 3)), none⟩, ⟨(some 86), (.ld 1 false (.t 85)), none⟩, ⟨(some 87), (.bin .neq (.t 84) (.t 86)), none⟩, ⟨(some 88), (.mv (.t 87)), none⟩, ⟨(some 89), (.fldA 0 (.t 3)), (some (88, false))⟩, ⟨(some 90), (.ld 1 false (.t 89)), (some (88, false))⟩, ⟨(some 91), (.bin .neq (.t 90) (.c (.int .i64 (2)))), (some (88, false))⟩, ⟨(some 92), (.pick (.t 88) (.c (.bool true)) (.t 91)), none⟩]) (.cond (.t 92) (.reg [⟨(some 93), (.mv (.t 11)), none⟩, ⟨(some 94), (.ld 2 true (.t 14)), none⟩, ⟨(some 95), (.bldF 96 2 [(.t 94)]), none⟩, ⟨(some 96), (.app 96 2 32 (.t 93) (.t 95)), none⟩, ⟨(some 11), (.mv (.t 96)), none⟩]) .skip))))) (.reg [⟨(some 63), (.mv (.t 13)), none⟩, ⟨(some 64), (.bin .add (.t 63) (.c (.int .i64 (1)))), none⟩, ⟨(some 13), (.mv (.t 64)), none⟩])))))) (.seq (.seq (.reg [⟨(some 97), (.fldA 0 (.t 3)), none⟩, ⟨(some 98), (.ld 1 false (.t 97)), none⟩, ⟨(some 99), (.bin .eql (.t 98) (.c (.int .i64 (1)))), none⟩, ⟨(some 100), (.mv (.t 99)), none⟩, ⟨(some 101), (.mv (.t 12)), (some (100, true))⟩, ⟨(some 102), (.un .not (.t 101)), (some (100, true))⟩, ⟨(some 103), (.pick (.t 100) (.t 102) (.c (.bool false))), none⟩]) (.cond (.t 103) (.reg [⟨(some 104), (.mv (.t 11)), none⟩, ⟨(some 105), (.fldA 4 (.t 3)), none⟩, ⟨(some 106), (.ld 1 false (.t 105)), none⟩, ⟨(some 107), (.fldA 5 (.t 3)), none⟩, ⟨(some 108), (.ld 1 false (.t 107)), none⟩, ⟨(some 109), (.bld [(.str []), (.str [])] [(0, (1, (.t 106))), (1, (1, (.t 108)))]), none⟩, ⟨(some 110), (.bldF 96 2 [(.t 109)]), none⟩, ⟨(some 111), (.app 96 2 32 (.t 104) (.t 110)), none⟩, ⟨(some 11), (.mv (.t 111)), none⟩]) .skip)) (.seq (.seq (.reg [⟨(some 112), (.fldA 0 (.t 3)), none⟩, ⟨(some 113), (.ld 1 false (.t 112)), none⟩, ⟨(some 114), (.bin .eql (.t 113) (.c (.int .i64 (1)))), none⟩, ⟨(some 115), (.mv (.t 114)), none⟩, ⟨(some 116), (.fldA 0 (.t 3)), (some (115, false))⟩, ⟨(some 117), (.ld 1 false (.t 116)), (some (115, false))⟩, ⟨(some 118), (.bin .eql (.t 117) (.c (.int .i64 (2)))), (some (115, false))⟩, ⟨(some 119), (.pick (.t 115) (.c (.bool true)) (.t 118)), none⟩]) (.cond (.t 119) (.reg [⟨(some 120), (.frz (.t 11)), none⟩, ⟨(some 121), (.fldA 2 (.t 10)), none⟩, ⟨none, (.st 1 (.t 121) (.t 120)), none⟩]) .skip)) (.seq (.seq (.reg [⟨(some 122), (.fldA 0 (.t 3)), none⟩, ⟨(some 123), (.ld 1 false (.t 122)), none⟩, ⟨(some 124), (.bin .eql (.t 123) (.c (.int .i64 (3)))), none⟩]) (.cond (.t 124) (.reg [⟨(some 125), (.fldA 5 (.t 3)), none⟩, ⟨(some 126), (.ld 1 false (.t 125)), none⟩, ⟨(some 127), (.fldA 3 (.t 10)), none⟩, ⟨none, (.st 1 (.t 127) (.t 126)), none⟩]) .skip)) (.seq (.seq (.reg [⟨(some 128), (.fldA 0 (.t 3)), none⟩, ⟨(some 129), (.ld 1 false (.t 128)), none⟩, ⟨(some 130), (.bin .eql (.t 129) (.c (.int .i64 (5)))), none⟩]) (.cond (.t 130) (.seq (.reg [⟨(some 131), (.fldA 5 (.t 10)), none⟩, ⟨(some 132), (.ld 1 false (.t 131)), none⟩, ⟨(some 133), (.len (.t 132)), none⟩, ⟨(some 15), (.mv (.t 133)), none⟩]) (.seq (.seq (.reg [⟨(some 134), (.fldA 3 (.t 3)), none⟩, ⟨(some 135), (.ld 1 false (.t 134)), none⟩, ⟨(some 136), (.bin .neq (.t 135) (.c (.int .i64 (-1)))), none⟩]) (.cond (.t 136) (.reg [⟨(some 137), (.fldA 5 (.t 10)), none⟩, ⟨(some 138), (.ld 1 false (.t 137)), none⟩, ⟨(some 139), (.fldA 3 (.t 3)), none⟩, ⟨(some 140), (.ld 1 false (.t 139)), none⟩, ⟨(some 141), (.pcall 60 [(.t 138), (.t 140)]), none⟩, ⟨(some 15), (.mv (.t 141)), none⟩]) .skip)) (.seq (.dreg [(⟨(some 142), (.bldF 3 1 []), none⟩, none), (⟨(some 143), (.fldA 5 (.t 10)), none⟩, none), (⟨(some 144), (.ld 1 false (.t 143)), none⟩, none), (⟨(some 145), (.mv (.t 15)), none⟩, none), (⟨(some 146), (.slA 1 (.t 144) none (some (.t 145))), none⟩, none), (⟨(some 148), (.fldA 2 (.t 3)), none⟩, none), (⟨(some 149), (.ld 1 false (.t 148)), none⟩, none), (⟨(some 150), (.bldF 3 1 [(.t 149)]), none⟩, none), (⟨(some 152), (.fldA 5 (.t 10)), none⟩, none), (⟨(some 153), (.ld 1 false (.t 152)), none⟩, none), (⟨(some 154), (.mv (.t 15)), none⟩, none), (⟨(some 155), (.slA 1 (.t 153) (some (.t 154)) none), none⟩, none), (⟨(some 147), (.app 3 1 8 (.t 142) (.t 146)), none⟩, (some [144])), (⟨(some 151), (.app 3 1 8 (.t 147) (.t 150)), none⟩, (some [149, 144])), (⟨(some 156), (.appF 3 1 8 (.t 151) (.t 155)), none⟩, (some [153, 149, 144])), (⟨(some 157), (.fldA 5 (.t 10)), none⟩, none), (⟨none, (.st 1 (.t 157) (.t 156)), none⟩, (some [153, 149, 144]))]) (.reg [⟨(some 158), (.fldA 0 (.t 8)), none⟩, ⟨(some 159), (.ld 1 false (.t 158)), none⟩, ⟨(some 160), (.fldA 2 (.t 3)), none⟩, ⟨(some 161), (.ld 1 false (.t 160)), none⟩, ⟨(some 162), (.fldA 1 (.t 3)), none⟩, ⟨(some 163), (.ld 1 false (.t 162)), none⟩, ⟨(some 164), (.idxA 6 (.t 159) (.t 161)), none⟩, ⟨(some 165), (.fldA 4 (.t 164)), none⟩, ⟨none, (.st 1 (.t 165) (.t 163)), none⟩])))) .skip)) (.seq (.seq (.reg [⟨(some 166), (.fldA 0 (.t 3)), none⟩, ⟨(some 167), (.ld 1 false (.t 166)), none⟩, ⟨(some 168), (.bin .eql (.t 167) (.c (.int .i64 (6)))), none⟩]) (.cond (.t 168) (.seq (.reg [⟨(some 169), (.fldA 4 (.t 10)), none⟩, ⟨(some 170), (.ld 1 false (.t 169)), none⟩, ⟨(some 16), (.mv (.t 170)), none⟩]) (.seq (.dreg [(⟨(some 171), (.fldA 0 (.t 8)), none⟩, none), (⟨(some 172), (.ld 1 false (.t 171)), none⟩, none), (⟨(some 173), (.mv (.t 16)), none⟩, none), (⟨(some 174), (.fldA 0 (.t 8)), none⟩, none), (⟨(some 175), (.ld 1 false (.t 174)), none⟩, none), (⟨(some 176), (.mv (.t 16)), none⟩, none), (⟨(some 177), (.idxA 6 (.t 175) (.t 176)), none⟩, none), (⟨(some 178), (.fldA 5 (.t 177)), none⟩, none), (⟨(some 179), (.ld 1 false (.t 178)), none⟩, none), (⟨(some 180), (.fldA 0 (.t 8)), none⟩, none), (⟨(some 181), (.ld 1 false (.t 180)), none⟩, none), (⟨(some 182), (.mv (.t 16)), none⟩, none), (⟨(some 183), (.idxA 6 (.t 181) (.t 182)), none⟩, none), (⟨(some 184), (.fldA 5 (.t 183)), none⟩, none), (⟨(some 185), (.ld 1 false (.t 184)), none⟩, none), (⟨(some 186), (.fldA 1 (.t 3)), none⟩, none), (⟨(some 187), (.ld 1 false (.t 186)), none⟩, none), (⟨(some 188), (.pcall 60 [(.t 185), (.t 187)]), none⟩, none), (⟨(some 189), (.pcall 61 [(.t 179), (.t 188)]), none⟩, none), (⟨(some 190), (.idxA 6 (.t 172) (.t 173)), none⟩, none), (⟨(some 191), (.fldA 5 (.t 190)), none⟩, none), (⟨none, (.st 1 (.t 191) (.t 189)), none⟩, (some [172, 179, 175, 185, 187, 181]))]) (.reg [⟨(some 192), (.fldA 4 (.t 10)), none⟩, ⟨none, (.st 1 (.t 192) (.c (.int .i64 (-1)))), none⟩]))) .skip)) (.reg [⟨(some 193), (.fldA 0 (.t 8)), none⟩, ⟨(some 194), (.ld 1 false (.t 193)), none⟩, ⟨(some 195), (.fldA 1 (.t 3)), none⟩, ⟨(some 196), (.ld 1 false (.t 195)), none⟩, ⟨(some 197), (.ld 6 true (.t 10)), none⟩, ⟨(some 198), (.idxA 6 (.t 194) (.t 196)), none⟩, ⟨none, (.st 6 (.t 198) (.t 197)), none⟩])))))))))))) c26_s6)
def c26 : SFun := ⟨(.seq (.reg [⟨(some 2), (.boxF 24 2 (.t 0)), none⟩, ⟨(some 3), (.boxF 42 12 (.t 1)), none⟩, ⟨(some 4), (.new 24 2 [.emp, (.bool false)]), none⟩, ⟨(some 5), (.mv (.c (.int .i64 (0)))), none⟩, ⟨(some 6), (.mv (.c (.int .i64 (0)))), none⟩]) (.seq (.reg [⟨(some 17), (.ld 2 true (.t 2)), none⟩, ⟨(some 18), (.ld 12 true (.t 3)), none⟩, ⟨(some 19), (.pcall 58 [(.t 17), (.t 18)]), none⟩, ⟨(some 7), (.mv (.t 19)), none⟩]) (.seq (.seq (.reg [⟨(some 20), (.mv (.t 7)), none⟩, ⟨(some 21), (.bin .neq (.t 20) (.c (.int .i64 (0)))), none⟩]) (.cond (.t 21) (.seq (.reg [⟨(some 22), (.bld [.emp, (.bool false)] []), none⟩, ⟨(some 23), (.mv (.t 7)), none⟩, ⟨none, (.st 2 (.t 4) (.t 22)), none⟩, ⟨(some 5), (.mv (.c (.int .i64 (0)))), none⟩, ⟨(some 6), (.mv (.t 23)), none⟩]) .ret) .skip)) (.seq (.reg [⟨(some 24), (.ld 2 true (.t 2)), none⟩, ⟨(some 25), (.call (.c (.fn 59 [] [])) [(.t 24)]), none⟩, ⟨(some 8), (.new 24 2 [.emp, (.bool false)]), none⟩, ⟨none, (.st 2 (.t 8) (.t 25)), none⟩]) (.seq (.reg [⟨(some 9), (.mv (.c (.int .i64 (0)))), none⟩]) c26_s5))))), [(.cell 4 2 true), (.tmp 5), (.tmp 6)]⟩
theorem hc26 : toSF Tryz.prog {pure := [58, 60, 61], how := [(44, 8), (120, 8), (156, 8)]} Tryz.f26 = some c26 := by kernel_rfl
theorem hn26 : (Tryz.f26.name == "runtime.NumGoroutine") = false := by kernel_rfl
theorem edited_end {d : HDoc} (V : DV d) (sm : DocSm d) {e : HEdit} (he : EditSm e) (h0 : errR d e = 0) {h h2 : Heap} {b : AVal} {cells : List (List AVal)} {E : Env} {r4 r8 : Nat}
    (S : Sub h h2) (F : Fresh h h2 40 6 cells b) (hc : F2 (F2 Vz) cells ((editD d e).nodes.map eNode)) (h4 : h r4 = none) (g4 : h2 r4 = some ⟨.t 24, 2, [[.emp, .bool false]]⟩) (g8 : h2 r8 = some ⟨.t 24, 2, [[b, .bool d.quirks]]⟩) (n4 : rootOf b ≠ some r4)
    (e4 : E 4 = .vp r4 0) (e8 : E 8 = .vp r8 0) (e9 : E 9 = aInt (editN d e)) :
    vc (Pg G) c26_s6 (retK [.cell 4 2 true, .tmp 5, .tmp 6] (EdK d e h)) E h2 := by
  have sE := edit_sm V sm he h0
  have hD := docErr_ok (G := G) (editD d e) sE
  have hq : (editD d e).quirks = d.quirks := by unfold editD; (repeat' split) <;> rfl
  obtain ⟨a1, a2⟩ := apply_by V h0
  have hB := DCalls.bor hD (h := h2) (args := [.agg [b, .bool d.quirks]]) (.int _ _) (.cons (Vw.agg' (.cons (F.own.vwk F.live hc) (.cons (by rw [hq]; exact .refl _) .nil))) .nil)
  unfold c26_s6
  skip
  simp -dsimp -implicitDefEqProofs (disch := omega) only [VCA, Nat.reduceEqDiff, Nat.reduceAdd, Nat.reduceLT, ↓reduceIte, exists_eq_left', e8, g8]
  refine DCalls.of hB ?_
  rintro _ h3 ⟨rfl, rfl⟩
  simp -dsimp -implicitDefEqProofs (disch := omega) only [VCA, ↓reduceIte]
  refine Br.ne (fun h1 => ?_) (fun h1 => ?_)
  · have aE := a1 h1
    have aD : applyD d e = noDoc := by unfold applyD; rw [aE]; rfl
    have aN : applyN d e = 0 := by unfold applyN; rw [aE]; rfl
    simp -dsimp -implicitDefEqProofs (disch := omega) only [VCA, Nat.reduceEqDiff, Nat.reduceAdd, Nat.reduceLT, ↓reduceIte, fillA, okFill, setAt, exists_eq_left', e4, g4]
    refine ⟨_, Sub.refl _, S.upd h4, ?_⟩
    unfold edR
    rw [aD, aN, aE]
    exact .tup' (.cons (vw_noDoc _) (.cons (.refl _) (.cons (.refl _) .nil)))
  · have aE := a2 h1
    have aD : applyD d e = editD d e := by unfold applyD; rw [if_pos aE]
    have aN : applyN d e = editN d e := by unfold applyN; rw [if_pos aE]
    simp -dsimp -implicitDefEqProofs (disch := omega) only [VCA, Nat.reduceEqDiff, Nat.reduceAdd, Nat.reduceLT, ↓reduceIte, setAt, exists_eq_left', e4, e8, e9, g4, g8]
    refine ⟨_, Sub.refl _, S.upd h4, ?_⟩
    unfold edR
    rw [aD, aN, aE]
    have F2 := F.keep (h2 := upd h3 r4 (some ⟨.t 24, 2, [[b, .bool d.quirks]]⟩)) fun r o hr ho => by rw [upd_ne _ _ (fun e => n4 (by rw [hr, e]))]; exact ho
    exact .tup' (.cons (Vw.agg' (.cons (F2.vwk hc) (.cons (by rw [hq]; exact .refl _) .nil))) (.cons (.refl _) (.cons (.refl _) .nil)))
/-- .. of a new node -/
theorem edited_make {d : HDoc} (V : DV d) (sm : DocSm d) {e : HEdit} (he : EditSm e) (h0 : errR d e = 0) (c4 : e.do' = 4) {h h2 : Heap} {b : AVal} {E : Env} {r4 r8 : Nat}
    (S : Sub h h2) (F : Fresh h h2 40 6 (d.nodes.map eNode) b) (h4 : h r4 = none) (h8 : h r8 = none) (g4 : h2 r4 = some ⟨.t 24, 2, [[.emp, .bool false]]⟩) (g8 : h2 r8 = some ⟨.t 24, 2, [[b, .bool d.quirks]]⟩) (n4 : rootOf b ≠ some r4) (n8 : rootOf b ≠ some r8) (n48 : r4 ≠ r8)
    (e3 : E 3 = .pin (eEdit e)) (e4 : E 4 = .vp r4 0) (e8 : E 8 = .vp r8 0) :
    vc (Pg G) c26_s5 (retK [.cell 4 2 true, .tmp 5, .tmp 6] (EdK d e h)) E h2 := by
  have hl := F.own.len
  have vl := V.len
  have sa := he.node.attrs
  unfold c26_s5
  skip
  have hl1 := hl.1
  have hl2 := hl.2
  rw [List.length_map] at hl1
  simp -dsimp -implicitDefEqProofs (disch := omega) only [VCA, Nat.reduceAdd, Nat.reduceLeDiff, ↓reduceIte, e3, eEdit, c4]
  refine Br.eq (fun _ => ?_) (fun h1 => absurd rfl h1)
  simp -dsimp -implicitDefEqProofs (disch := omega) only [VCA, Nat.reduceEqDiff, Nat.reduceBEq, Nat.reduceAdd, Nat.reduceLT, Nat.reduceLeDiff, ↓reduceIte, rsOf, rootsOf, SOp.rd, SI.rd, SX.rd, okParts, fillA, okFill, forall_eq, exists_eq_left, exists_eq_left', rootL, e3, e8, g8, eEdit, c4, hl1, hl2]
  refine ⟨by omega, by omega, ?_⟩
  refine F.own.app F.live (by rw [List.length_map, List.length_singleton]; omega) (by rw [List.length_map, List.length_singleton]; omega) fun r' h3 q1 q2 q3 => ?_
  have k8 := q3 _ _ g8 n8
  have k4 := q3 _ _ g4 n4
  simp -dsimp -implicitDefEqProofs (disch := omega) only [VCA, Nat.reduceEqDiff, Nat.reduceBEq, Nat.reduceAdd, Nat.reduceLT, Nat.reduceLeDiff, ↓reduceIte, rsOf, rootsOf, SOp.rd, SI.rd, SX.rd, setAt, exists_eq_left', rootL, e8, k8]
  have hr' : h r' = none := by
    rcases q2 with e | e
    · exact F.new _ e
    · exact S.none e
  have m4 : r' ≠ r4 := fun e => by
    rcases q2 with e' | e'
    · exact n4 (by rw [e', e])
    · rw [e, g4] at e'; cases e'
  have m8 : r' ≠ r8 := fun e => by
    rcases q2 with e' | e'
    · exact n8 (by rw [e', e])
    · rw [e, g8] at e'; cases e'
  have eD : editD d e = addN d (madeM e.node) := by unfold editD; rw [if_neg (by omega), if_neg (by omega), if_neg (by omega), if_pos c4]
  have eN : editN d e = d.nodes.length := by unfold editN; rw [if_pos c4]
  refine edited_end V sm he h0 (cells := d.nodes.map eNode ++ [[.int .i64 e.node.kind, .str e.node.name, .slc (e.node.attrs.map eAttr), .str e.node.text, .int .i64 (-1), .emp]]) (b := .osl r' 6 0 (d.nodes.length + 1)) (r4 := r4) (r8 := r8) (Sub.upd (fun t o ht => ?_) h8) ⟨.inr ⟨r', hr', (upd_ne _ _ m8).trans q1, ?_⟩⟩ ?_ h4 (by rw [upd_ne _ _ n48]; exact k4) (upd_same _ _ _) (fun e => m4 (by cases e; rfl)) e4 e8 ?_
  · refine q3 t o (S _ _ ht) (fun e => ?_)
    rw [F.new t e] at ht; cases ht
  · rw [List.length_append, List.length_map]; rfl
  · rw [eD]
    show F2 (F2 Vz) _ ((d.nodes ++ [madeM e.node]).map eNode)
    rw [List.map_append]
    exact F2.app (wks_refl _) (.cons (.cons (.refl _) (.cons (.refl _) (.cons (.refl _) (.cons (.refl _) (.cons (.refl _) (.cons .emp .nil)))))) .nil)
  · rw [eN]; rfl
end Go.Proofs.K
end
section
/- Edits: the reference's Edited: what is done to a node. -/
set_option linter.unusedSimpArgs false
set_option linter.unusedVariables false
namespace Go.Proofs.K
open Go Go.Sim Go.Proofs
variable {G : Glob}
theorem wks_eq {l m : List (List AVal)} (h : l = m) : F2 (F2 Vz) l m := h ▸ wks_refl l
theorem errR_at {d : HDoc} {e : HEdit} (h0 : errR d e = 0) (h4 : e.do' ≠ 4) : 1 ≤ e.do' ∧ e.do' ≤ 6 ∧ inD d e.at' ∧ (e.do' = 5 → inD d e.to) := by
  have h16 : 1 ≤ e.do' ∧ e.do' ≤ 6 := by
    apply Classical.byContradiction; intro h
    unfold errR at h0; rw [if_pos h] at h0; omega
  refine ⟨h16.1, h16.2, ?_, fun h5 => ?_⟩
  · apply Classical.byContradiction; intro h
    rw [errR_in h16.1 h16.2 h4 (.inl h)] at h0; omega
  · apply Classical.byContradiction; intro h
    rw [errR_in h16.1 h16.2 h4 (.inr ⟨h5, h⟩)] at h0; omega
/-- what becomes of an attribute -/
def stepA (e : HEdit) (a : HAttr) : List HAttr := if a.name ≠ e.name ∨ e.do' ≠ 2 then [if a.name = e.name ∧ e.do' = 1 then ⟨a.name, e.value⟩ else a] else []
def setA (e : HEdit) (l : List HAttr) : Bool := decide (e.do' = 1) && l.any fun a => a.name == e.name
theorem stepA_len (e : HEdit) (l : List HAttr) : (l.flatMap (stepA e)).length ≤ l.length := by
  induction l with
  | nil => simp
  | cons a l ih =>
    rw [List.flatMap_cons, List.length_append, List.length_cons]
    have : (stepA e a).length ≤ 1 := by unfold stepA; split <;> simp
    omega
theorem errR_5z {d : HDoc} {e : HEdit} (h : e.do' = 5) (ha : inD d e.at') (ht : inD d e.to) (h0 : errR d e = 0) : e.to ∉ chain d e.at' ∧ ¬ (e.before ≠ -1 ∧ idxM (· == e.before) (nd d e.at').kids < 0) := by
  rw [errR_5 h ha ht] at h0
  split at h0
  · omega
  split at h0
  · omega
  split at h0
  · omega
  rename_i h3
  split at h0
  · omega
  rename_i h4
  exact ⟨by simpa using h4, h3⟩
theorem edited_else {d : HDoc} (V : DV d) (sm : DocSm d) {e : HEdit} (he : EditSm e) (h0 : errR d e = 0) (c4 : e.do' ≠ 4) {h h2 : Heap} {b : AVal} {E : Env} {r4 r8 : Nat}
    (S : Sub h h2) (F : Fresh h h2 40 6 (d.nodes.map eNode) b) (h4 : h r4 = none) (h8 : h r8 = none) (g4 : h2 r4 = some ⟨.t 24, 2, [[.emp, .bool false]]⟩) (g8 : h2 r8 = some ⟨.t 24, 2, [[b, .bool d.quirks]]⟩) (n4 : rootOf b ≠ some r4) (n8 : rootOf b ≠ some r8) (n48 : r4 ≠ r8)
    (e3 : E 3 = .pin (eEdit e)) (e4 : E 4 = .vp r4 0) (e8 : E 8 = .vp r8 0) (e9 : E 9 = aInt 0) :
    vc (Pg G) c26_s5 (retK [.cell 4 2 true, .tmp 5, .tmp 6] (EdK d e h)) E h2 := by
  have vl := V.len
  obtain ⟨d1, d6, ha, hto⟩ := errR_at h0 c4
  have a0 := ha.1
  have a1 := ha.2
  have ea : nth d.nodes e.at'.toNat = nd d e.at' := rfl
  obtain ⟨rN, hN0, gN, rfl⟩ := F.acc.pos (by rw [List.length_map]; exact V.pos)
  rw [List.length_map] at *
  have nN4 : rN ≠ r4 := fun e => n4 (by rw [e]; rfl)
  have nN8 : rN ≠ r8 := fun e => n8 (by rw [e]; rfl)
  unfold c26_s5
  skip
  simp -dsimp -implicitDefEqProofs (disch := omega) only [VCA, Nat.reduceAdd, Nat.reduceLeDiff, ↓reduceIte, e3, eEdit]
  refine Br.eq (fun h1 => absurd h1 c4) (fun _ => ?_)
  simp -dsimp -implicitDefEqProofs (disch := omega) only [VCA, Nat.reduceEqDiff, Nat.reduceAdd, Nat.reduceLT, Nat.reduceLeDiff, ↓reduceIte, setAt, exists_eq_left', e3, e8, g8, gN, eEdit, eNode, ea]
  refine ⟨by omega, by omega, fun r10 hr10 => ?_⟩
  have n10 : ∀ t o, h2 t = some o → ¬ t = r10 := fun t o ht e => by rw [e, hr10] at ht; cases ht
  have n410 := n10 _ _ g4
  have n810 := n10 _ _ g8
  have nN10 := n10 _ _ gN
  have al := ((attrsE_iff _).1 ((nodeE_iff _).1 (V.node _ ha)).2.2.2.1).1
  have anod := ((attrsE_iff _).1 ((nodeE_iff _).1 (V.node _ ha)).2.2.2.1).2.2
  have Sb : Sub h2 (upd h2 r10 (some ⟨.t 40, 6, [eNode (nd d e.at')]⟩)) := (Sub.refl h2).upd hr10
  have gb := upd_same h2 r10 (some ⟨.t 40, 6, [eNode (nd d e.at')]⟩)
  show LoopVC _ _ _ (upd h2 r10 (some ⟨.t 40, 6, [eNode (nd d e.at')]⟩))
  generalize upd h2 r10 (some ⟨.t 40, 6, [eNode (nd d e.at')]⟩) = hb at *
  refine LoopVC.intro (fun m E h' => ∃ k : Nat, k ≤ (nd d e.at').attrs.length ∧ m = (nd d e.at').attrs.length - k ∧ E 3 = .pin (eEdit e) ∧ E 4 = .vp r4 0 ∧ E 8 = .vp r8 0 ∧ E 9 = aInt 0 ∧ E 10 = .vp r10 0 ∧ E 12 = .bool (setA e ((nd d e.at').attrs.take k)) ∧ E 13 = aInt k ∧
    Acc hb 96 2 ((((nd d e.at').attrs.take k).flatMap (stepA e)).map eAttr) (E 11) h' ∧ Sub hb h') (nd d e.at').attrs.length
    ⟨0, by omega, by omega, e3, e4, e8, e9, rfl, by (show AVal.bool false = _); simp [setA], rfl, .inl ⟨rfl, rfl⟩, Sub.refl _⟩ ?_
  clear e3 e4 e8 e9
  rintro m E h' ⟨k, hk, rfl, e3, e4, e8, e9, e10, e12, e13, A, S'⟩
  have g10 := S' _ _ gb
  unfold eNode at g10
  simp -dsimp -implicitDefEqProofs (disch := omega) only [VCA, Nat.reduceEqDiff, Nat.reduceAdd, Nat.reduceLT, Nat.reduceLeDiff, ↓reduceIte, exists_eq_left', e10, e13, g10, eEdit]
  refine Br.dec (fun hlt => ?_) (fun hge => ?_)
  · have hk' : k < (nd d e.at').attrs.length := by omega
    have tk : ((nd d e.at').attrs.take (k + 1)).flatMap (stepA e) = ((nd d e.at').attrs.take k).flatMap (stepA e) ++ stepA e (nth (nd d e.at').attrs k) := by rw [take_snoc hk', List.flatMap_append]; simp
    have ts : setA e ((nd d e.at').attrs.take (k + 1)) = (setA e ((nd d e.at').attrs.take k) || (decide (e.do' = 1) && ((nth (nd d e.at').attrs k).name == e.name))) := by unfold setA; rw [take_snoc hk', List.any_append]; cases decide (e.do' = 1) <;> simp
    have tl := stepA_len e ((nd d e.at').attrs.take k)
    rw [List.length_take] at tl
    have tm : ((((nd d e.at').attrs.take k).flatMap (stepA e)).map eAttr).length ≤ 12 := by rw [List.length_map]; omega
    obtain ⟨x, hx⟩ : ∃ x, nth (nd d e.at').attrs k = x := ⟨_, rfl⟩
    rw [hx] at tk ts
    have A14 : ∀ r y, h' r = none → Acc hb 96 2 ((((nd d e.at').attrs.take k).flatMap (stepA e)).map eAttr) (E 11) (upd h' r (some y)) := fun r y hr => by
      rcases A with q | ⟨r', q0, q1, q2⟩
      · exact .inl q
      · exact .inr ⟨r', q0, by rw [upd_ne _ _ (fun e => by rw [e, hr] at q1; cases q1)]; exact q1, q2⟩
    obtain ⟨sx, tk0⟩ : ∃ sx, stepA e x = sx := ⟨_, rfl⟩
    rw [tk0] at tk
    have nx : (x.name == e.name) = true ↔ x.name = e.name := by simp
    cases bn : (x.name == e.name)
    · by_cases c1 : e.do' = 1
      · have b1 : (e.do' == 1) = true := by simp; omega
        have b2 : (e.do' == 2) = false := by simp; omega
        have b2' : (e.do' != 2) = true := by simp; omega
        have bn' : (x.name != e.name) = true := by simp [bne, bn]
        simp -dsimp -implicitDefEqProofs (disch := omega) only [VCA, Nat.reduceEqDiff, Nat.reduceAdd, Nat.reduceLT, Nat.reduceLeDiff, ↓reduceIte, okParts, setAt, forall_eq, exists_eq_left, exists_eq_left', e3, e10, e13, g10, eEdit, eAttr, hx, bn, bn']
        refine ⟨by omega, fun r14 hr14 => ?_⟩
        refine (A14 _ _ hr14).app (S'.upd (S'.none hr14)) (by rw [List.length_singleton]; omega) (by rw [List.length_singleton]; omega) (fun a' h3 A' S3 => ?_)
        rw [show stepA e x = [x] from by unfold stepA; rw [if_pos (.inl (fun h => by rw [nx.2 h] at bn; cases bn)), if_neg (fun h => by rw [nx.2 h.1] at bn; cases bn)]] at tk0
        simp -dsimp -implicitDefEqProofs (disch := omega) only [VCA, Nat.reduceEqDiff, ↓reduceIte, e3, e4, e8, e9, e10, e12, e13, eEdit]
        refine ⟨_, by omega, k + 1, by omega, rfl, by rw [ts, bn]; simp, by omega, ?_, S3⟩
        rw [tk, ← tk0, List.map_append]
        exact A'
      · by_cases c2 : e.do' = 2
        · have b1 : (e.do' == 1) = false := by simp; omega
          have b2 : (e.do' == 2) = true := by simp; omega
          have b2' : (e.do' != 2) = false := by simp; omega
          have bn' : (x.name != e.name) = true := by simp [bne, bn]
          simp -dsimp -implicitDefEqProofs (disch := omega) only [VCA, Nat.reduceEqDiff, Nat.reduceAdd, Nat.reduceLT, Nat.reduceLeDiff, ↓reduceIte, okParts, setAt, forall_eq, exists_eq_left, exists_eq_left', e3, e10, e13, g10, eEdit, eAttr, hx, bn, bn']
          refine ⟨by omega, fun r14 hr14 => ?_⟩
          refine (A14 _ _ hr14).app (S'.upd (S'.none hr14)) (by rw [List.length_singleton]; omega) (by rw [List.length_singleton]; omega) (fun a' h3 A' S3 => ?_)
          rw [show stepA e x = [x] from by unfold stepA; rw [if_pos (.inl (fun h => by rw [nx.2 h] at bn; cases bn)), if_neg (fun h => by rw [nx.2 h.1] at bn; cases bn)]] at tk0
          simp -dsimp -implicitDefEqProofs (disch := omega) only [VCA, Nat.reduceEqDiff, ↓reduceIte, e3, e4, e8, e9, e10, e12, e13, eEdit]
          refine ⟨_, by omega, k + 1, by omega, rfl, by rw [ts, bn]; simp, by omega, ?_, S3⟩
          rw [tk, ← tk0, List.map_append]
          exact A'
        · have b1 : (e.do' == 1) = false := by simp; omega
          have b2 : (e.do' == 2) = false := by simp; omega
          have b2' : (e.do' != 2) = true := by simp; omega
          have bn' : (x.name != e.name) = true := by simp [bne, bn]
          simp -dsimp -implicitDefEqProofs (disch := omega) only [VCA, Nat.reduceEqDiff, Nat.reduceAdd, Nat.reduceLT, Nat.reduceLeDiff, ↓reduceIte, okParts, setAt, forall_eq, exists_eq_left, exists_eq_left', e3, e10, e13, g10, eEdit, eAttr, hx, bn, bn']
          refine ⟨by omega, fun r14 hr14 => ?_⟩
          refine (A14 _ _ hr14).app (S'.upd (S'.none hr14)) (by rw [List.length_singleton]; omega) (by rw [List.length_singleton]; omega) (fun a' h3 A' S3 => ?_)
          rw [show stepA e x = [x] from by unfold stepA; rw [if_pos (.inr c2), if_neg (fun h => c1 h.2)]] at tk0
          simp -dsimp -implicitDefEqProofs (disch := omega) only [VCA, Nat.reduceEqDiff, ↓reduceIte, e3, e4, e8, e9, e10, e12, e13, eEdit]
          refine ⟨_, by omega, k + 1, by omega, rfl, by rw [ts, bn]; simp, by omega, ?_, S3⟩
          rw [tk, ← tk0, List.map_append]
          exact A'
    · by_cases c1 : e.do' = 1
      · have b1 : (e.do' == 1) = true := by simp; omega
        have b2 : (e.do' == 2) = false := by simp; omega
        have b2' : (e.do' != 2) = true := by simp; omega
        have bn' : (x.name != e.name) = false := by simp [bne, bn]
        simp -dsimp -implicitDefEqProofs (disch := omega) only [VCA, Nat.reduceEqDiff, Nat.reduceAdd, Nat.reduceLT, Nat.reduceLeDiff, ↓reduceIte, okParts, setAt, forall_eq, exists_eq_left, exists_eq_left', e3, e10, e13, g10, eEdit, eAttr, hx, bn, bn', b1, b2']
        refine ⟨by omega, fun r14 hr14 => ?_⟩
        refine (A14 _ _ hr14).app (S'.upd (S'.none hr14)) (by rw [List.length_singleton]; omega) (by rw [List.length_singleton]; omega) (fun a' h3 A' S3 => ?_)
        rw [show stepA e x = [⟨x.name, e.value⟩] from by unfold stepA; rw [if_pos (.inr (by omega)), if_pos ⟨nx.1 bn, c1⟩]] at tk0
        simp -dsimp -implicitDefEqProofs (disch := omega) only [VCA, Nat.reduceEqDiff, ↓reduceIte, e3, e4, e8, e9, e10, e13, eEdit]
        refine ⟨_, by omega, k + 1, by omega, rfl, by rw [ts, bn]; simp [c1], by omega, ?_, S3⟩
        rw [tk, ← tk0, List.map_append]
        exact A'
      · by_cases c2 : e.do' = 2
        · have b1 : (e.do' == 1) = false := by simp; omega
          have b2 : (e.do' == 2) = true := by simp; omega
          have b2' : (e.do' != 2) = false := by simp; omega
          have bn' : (x.name != e.name) = false := by simp [bne, bn]
          rw [show stepA e x = [] from by unfold stepA; rw [if_neg (fun h => h.elim (fun h => h (nx.1 bn)) (fun h => h c2))]] at tk0
          simp -dsimp -implicitDefEqProofs (disch := omega) only [VCA, Nat.reduceEqDiff, Nat.reduceAdd, Nat.reduceLT, Nat.reduceLeDiff, ↓reduceIte, setAt, exists_eq_left', e3, e4, e8, e9, e10, e12, e13, g10, eEdit, eAttr, hx, bn, bn', b1, b2']
          refine ⟨by omega, fun r14 hr14 => ?_⟩
          refine ⟨_, by omega, k + 1, by omega, rfl, by rw [ts]; simp [c1], by omega, ?_, S'.upd (S'.none hr14)⟩
          rw [tk, ← tk0, List.append_nil]
          exact A14 _ _ hr14
        · have b1 : (e.do' == 1) = false := by simp; omega
          have b2 : (e.do' == 2) = false := by simp; omega
          have b2' : (e.do' != 2) = true := by simp; omega
          have bn' : (x.name != e.name) = false := by simp [bne, bn]
          simp -dsimp -implicitDefEqProofs (disch := omega) only [VCA, Nat.reduceEqDiff, Nat.reduceAdd, Nat.reduceLT, Nat.reduceLeDiff, ↓reduceIte, okParts, setAt, forall_eq, exists_eq_left, exists_eq_left', e3, e10, e13, g10, eEdit, eAttr, hx, bn, bn', b1, b2']
          refine ⟨by omega, fun r14 hr14 => ?_⟩
          refine (A14 _ _ hr14).app (S'.upd (S'.none hr14)) (by rw [List.length_singleton]; omega) (by rw [List.length_singleton]; omega) (fun a' h3 A' S3 => ?_)
          rw [show stepA e x = [x] from by unfold stepA; rw [if_pos (.inr c2), if_neg (fun h => c1 h.2)]] at tk0
          simp -dsimp -implicitDefEqProofs (disch := omega) only [VCA, Nat.reduceEqDiff, ↓reduceIte, e3, e4, e8, e9, e10, e12, e13, eEdit]
          refine ⟨_, by omega, k + 1, by omega, rfl, by rw [ts]; simp [c1], by omega, ?_, S3⟩
          rw [tk, ← tk0, List.map_append]
          exact A'
  · obtain rfl : k = (nd d e.at').attrs.length := by omega
    rw [List.take_length] at A e12
    have eN0 : editN d e = 0 := by unfold editN; rw [if_neg c4]
    have qq : ∀ x' : HNode, eNode x' = [aInt x'.kind, .str x'.name, sl eAttr x'.attrs, .str x'.text, aInt x'.parent, sl eInt x'.kids] := fun _ => rfl
    have gbN := Sb _ _ gN
    have gb4 := Sb _ _ g4
    have gb8 := Sb _ _ g8
    have fin : ∀ (h5 : Heap) (E5 : Env) (cells' : List (List AVal)), h5 rN = some ⟨.t 40, 6, cells'⟩ → cells'.length = d.nodes.length → (∀ t o, hb t = some o → t ≠ rN → t ≠ r10 → h5 t = some o) → F2 (F2 Vz) cells' ((editD d e).nodes.map eNode) → E5 4 = .vp r4 0 → E5 8 = .vp r8 0 → E5 9 = aInt 0 →
        vc (Pg G) c26_s6 (retK [.cell 4 2 true, .tmp 5, .tmp 6] (EdK d e h)) E5 h5 := fun h5 E5 cells' q1 q2 q3 q4 q5 q6 q7 => by
      refine edited_end V sm he h0 (cells := cells') (b := .osl rN 6 0 d.nodes.length) (r4 := r4) (r8 := r8) (fun t o ht => ?_) ⟨.inr ⟨rN, hN0, q1, by rw [q2]⟩⟩ q4 h4 (q3 _ _ gb4 (fun e => nN4 e.symm) n410) (q3 _ _ gb8 (fun e => nN8 e.symm) n810) (fun e => nN4 (by cases e; rfl)) q5 q6 (by rw [eN0]; exact q7)
      exact q3 t o (Sb _ _ (S _ _ ht)) (fun e => by rw [e, hN0] at ht; cases ht) (n10 _ _ (S _ _ ht))
    have hN' := S' _ _ gbN
    have h4' := S' _ _ gb4
    have h8' := S' _ _ gb8
    have lenN : (d.nodes.map eNode).length = d.nodes.length := by rw [List.length_map]
    have b4 : (e.do' == 4) = false := by simp [c4]
    have m810 : ¬ r10 = r8 := fun h => n810 (Eq.symm h)
    have m410 : ¬ r10 = r4 := fun h => n410 (Eq.symm h)
    have mN10 : ¬ r10 = rN := fun h => nN10 (Eq.symm h)
    have nN8' : ¬ rN = r8 := nN8
    have nN4' : ¬ rN = r4 := nN4
    have mN8 : ¬ r8 = rN := fun h => nN8 h.symm
    have mN4 : ¬ r4 = rN := fun h => nN4 h.symm
    have gat : (d.nodes.map eNode).getD e.at'.toNat [] = [aInt (nd d e.at').kind, .str (nd d e.at').name, sl eAttr (nd d e.at').attrs, .str (nd d e.at').text, aInt (nd d e.at').parent, sl eInt (nd d e.at').kids] := getD_map_enc (by omega)
    by_cases c3 : e.do' = 3
    · have b1 : (e.do' == 1) = false := by simp; omega
      have b2 : (e.do' == 2) = false := by simp; omega
      have b3 : (e.do' == 3) = true := by simp; omega
      have b5 : (e.do' == 5) = false := by simp; omega
      have b6 : (e.do' == 6) = false := by simp; omega
      simp -dsimp -implicitDefEqProofs (disch := omega) only [VCA, Nat.reduceEqDiff, Nat.reduceAdd, Nat.reduceLT, Nat.reduceLeDiff, ↓reduceIte, setAt, exists_eq_left', e3, e8, e10, g10, hN', h8', eEdit, b1, b2, b3, b5, b6, lenN, gat, n810, nN10]
      have eD : editD d e = setN d e.at' { nd d e.at' with text := e.value } := by unfold editD; rw [if_neg (by omega), if_neg (by omega), if_pos c3]
      refine ⟨by omega, by omega, fin _ _ _ (upd_same _ _ _) (by rw [List.length_set]; exact lenN) (fun t o ht h1 h2 => by rw [upd_ne _ _ h1, upd_ne _ _ h2]; exact S' _ _ ht) ?_ e4 e8 e9⟩
      rw [eD]
      show F2 (F2 Vz) _ ((d.nodes.set _ _).map eNode)
      rw [List.map_set]
      exact wks_refl _
    by_cases c6 : e.do' = 6
    · have b1 : (e.do' == 1) = false := by simp; omega
      have b2 : (e.do' == 2) = false := by simp; omega
      have b3 : (e.do' == 3) = false := by simp; omega
      have b5 : (e.do' == 5) = false := by simp; omega
      have b6 : (e.do' == 6) = true := by simp; omega
      have hE := h0
      rw [errR_6 c6 ha] at hE
      have hz : ¬ e.at' = 0 := fun h => by rw [if_pos h] at hE; omega
      rw [if_neg hz] at hE
      have hp : 0 ≤ (nd d e.at').parent := by
        apply Classical.byContradiction; intro h
        rw [if_pos (by omega)] at hE; omega
      have pin := (V.par_in ha hp).1
      have p1 := pin.2
      have gp : (d.nodes.map eNode).getD (nd d e.at').parent.toNat [] = [aInt (nd d (nd d e.at').parent).kind, .str (nd d (nd d e.at').parent).name, sl eAttr (nd d (nd d e.at').parent).attrs, .str (nd d (nd d e.at').parent).text, aInt (nd d (nd d e.at').parent).parent, sl eInt (nd d (nd d e.at').parent).kids] := getD_map_enc (by omega)
      have hi := idx_at (V.par_in ha hp).2
      have hk0 := (idx_mem (nd d (nd d e.at').parent).kids e.at').2 (V.par_in ha hp).2
      have hPl := placeIn_ok (G := G) (nd d (nd d e.at').parent).kids e.at' (sm.nd _).kids
      have eD : editD d e = cutN d e.at' (idxM (· == e.at') (nd d (nd d e.at').parent).kids).toNat := by unfold editD; rw [if_neg (by omega), if_neg (by omega), if_neg (by omega), if_neg (by omega), if_neg (by omega)]
      obtain ⟨i, hii⟩ : ∃ i : Nat, idxM (· == e.at') (nd d (nd d e.at').parent).kids = i := ⟨(idxM (· == e.at') (nd d (nd d e.at').parent).kids).toNat, by omega⟩
      rw [hii] at hPl eD hi
      rw [Int.toNat_natCast] at eD hi
      have hne : (nd d e.at').parent.toNat ≠ e.at'.toNat := fun h => by
        have := V.up_par ha hp
        have e2 : (nd d e.at').parent = e.at' := by omega
        rw [e2] at this; omega
      have gs : ∀ row : List AVal, ((d.nodes.map eNode).set (nd d e.at').parent.toNat row).getD e.at'.toNat [] = [aInt (nd d e.at').kind, .str (nd d e.at').name, sl eAttr (nd d e.at').attrs, .str (nd d e.at').text, aInt (nd d e.at').parent, sl eInt (nd d e.at').kids] := fun row => by
        rw [List.getD_eq_getElem?_getD, List.getElem?_set_ne hne, ← List.getD_eq_getElem?_getD]; exact gat
      have hW := without_ok (G := G) (nd d (nd d e.at').parent).kids i hi.1 (sm.nd _).kids
      simp -dsimp -implicitDefEqProofs (disch := omega) only [VCA, Nat.reduceEqDiff, Nat.reduceAdd, Nat.reduceLT, Nat.reduceLeDiff, ↓reduceIte, rsOf, rootsOf, exists_eq_left', rootL, e3, e8, e10, g10, hN', h8', eEdit, b1, b2, b3, b5, b6, lenN, gp]
      repeat' (first | ((with_reducible refine Br.dec (fun _ => ?_) (fun _ => ?_)) <;> try (exfalso; omega)) | ((with_reducible refine Br.eq (fun _ => ?_) (fun _ => ?_)) <;> try (exfalso; omega)) | ((with_reducible refine Br.ne (fun _ => ?_) (fun _ => ?_)) <;> try (exfalso; omega)) | ((with_reducible refine brNdec (fun _ => ?_) (fun _ => ?_)) <;> try (exfalso; omega)) | ((with_reducible refine brNeq (fun _ => ?_) (fun _ => ?_)) <;> try (exfalso; omega)) | with_reducible refine Br.intro (fun _ => ?_) (fun _ => ?_) | (with_reducible apply pcallE.of; · exact hPl) | (with_reducible apply pcallE.of; · exact hW) | (with_reducible refine And.intro ?_ ?_; · omega) | simp -dsimp -implicitDefEqProofs (disch := omega) only [VCA, Nat.reduceEqDiff, Nat.reduceBEq, Nat.reduceAdd, Nat.reduceLT, Nat.reduceLeDiff, ↓reduceIte, rsOf, rootsOf, SOp.rd, SI.rd, SX.rd, setAt, implies_true, exists_eq_left', rootL, e3, e8, e10, g10, hN', h8', eEdit, lenN, gp, gs, List.length_set, n810, nN10, mN10, mN8])
      refine fin _ _ _ (upd_same _ _ _) (by rw [List.length_set, List.length_set]; exact lenN) (fun t o ht h1 h2 => by rw [upd_ne _ _ h1, upd_ne _ _ h2, upd_ne _ _ h1]; exact S' _ _ ht) ?_ e4 e8 e9
      rw [eD]
      show F2 (F2 Vz) _ (((d.nodes.set _ _).set _ _).map eNode)
      rw [List.map_set, List.map_set]
      exact wks_refl _
    by_cases c5 : e.do' = 5
    · have b1 : (e.do' == 1) = false := by simp; omega
      have b2 : (e.do' == 2) = false := by simp; omega
      have b3 : (e.do' == 3) = false := by simp; omega
      have b5 : (e.do' == 5) = true := by simp; omega
      have b6 : (e.do' == 6) = false := by simp; omega
      have ht := hto c5
      have t0 := ht.1
      have t1 := ht.2
      obtain ⟨hc, hbe⟩ := errR_5z c5 ha ht h0
      have gt : (d.nodes.map eNode).getD e.to.toNat [] = [aInt (nd d e.to).kind, .str (nd d e.to).name, sl eAttr (nd d e.to).attrs, .str (nd d e.to).text, aInt (nd d e.to).parent, sl eInt (nd d e.to).kids] := getD_map_enc (by omega)
      have hne : e.to.toNat ≠ e.at'.toNat := fun h => hc (by rw [show e.to = e.at' by omega]; exact chain_self d _)
      have gs : ∀ row : List AVal, ((d.nodes.map eNode).set e.to.toNat row).getD e.at'.toNat [] = [aInt (nd d e.at').kind, .str (nd d e.at').name, sl eAttr (nd d e.at').attrs, .str (nd d e.at').text, aInt (nd d e.at').parent, sl eInt (nd d e.at').kids] := fun row => by
        rw [List.getD_eq_getElem?_getD, List.getElem?_set_ne hne, ← List.getD_eq_getElem?_getD]; exact gat
      have eD : editD d e = hung d e.at' e.to (insAt d e) := by unfold editD; rw [if_neg (by omega), if_neg (by omega), if_neg (by omega), if_neg (by omega), if_pos c5]
      have hPl := placeIn_ok (G := G) (nd d e.at').kids e.before (sm.nd _).kids
      have kl := nodup_len d.nodes.length (nd d e.at').kids (V.nodup _ ha) (fun k hk => (V.kid _ ha k hk).1)
      cases bb : (e.before != -1)
      · simp -dsimp -implicitDefEqProofs (disch := omega) only [VCA, Nat.reduceEqDiff, Nat.reduceBEq, Nat.reduceAdd, Nat.reduceLT, Nat.reduceLeDiff, ↓reduceIte, rsOf, rootsOf, SOp.rd, SI.rd, SX.rd, okParts, setAt, forall_const, forall_eq, exists_eq_left, exists_eq_left', rootL, e3, e8, e10, g10, eEdit, b1, b2, b3, b5, bb, n810]
        refine ⟨by omega, by omega, by omega, by omega, fun r hr => ?_⟩
        have nr : ¬ r10 = r := fun e => by rw [← e, g10] at hr; cases hr
        have dd := fun x => del_upd (h := h') (r := r) (o := x) hr
        simp -dsimp -implicitDefEqProofs (disch := omega) only [VCA, Nat.reduceLeDiff, ↓reduceIte, g10, nr, dd, List.drop_length, List.length_append]
        refine ⟨by omega, by omega, fun r' hr' => ?_⟩
        have nr' : ¬ r10 = r' := fun e => by rw [← e, g10] at hr'; cases hr'
        have dd' := fun x => del_upd (h := h') (r := r') (o := x) hr'
        simp -dsimp -implicitDefEqProofs (disch := omega) only [VCA, Nat.reduceEqDiff, Nat.reduceAdd, Nat.reduceLT, Nat.reduceLeDiff, ↓reduceIte, setAt, exists_eq_left', e3, e8, e10, g10, hN', h8', eEdit, b6, lenN, gt, gs, List.length_set, n810, nN10, mN10, mN8, nr', dd, dd', List.drop_length]
        have eI : insAt d e = (nd d e.at').kids.length := by unfold insAt; rw [if_pos (by simpa using bb)]
        refine ⟨by omega, by omega, by omega, by omega, by omega, by omega, fin _ _ _ (upd_same _ _ _) (by rw [List.length_set, List.length_set]; exact lenN) (fun t o ht h1 h2 => by rw [upd_ne _ _ h1, upd_ne _ _ h2]; exact S' _ _ ht) (wks_eq ?_) e4 e8 e9⟩
        rw [eD, eI]
        show _ = ((d.nodes.set _ _).set _ _).map eNode
        rw [List.map_set, List.map_set, List.set_comm _ _ hne.symm]
        refine congrArg (List.set _ _) ?_
        rw [qq]
        simp only [List.take_length, List.drop_length, sl, List.map_append, List.map_cons, List.map_nil]
        rw [List.take_of_length_le (i := (nd d e.at').kids.length + 1) (by simp)]
        rfl
      · have hi := idxM_leK (nd d e.at').kids e.before
        have bb' : e.before ≠ -1 := by simpa using bb
        obtain ⟨i, hii⟩ : ∃ i : Nat, idxM (· == e.before) (nd d e.at').kids = i := ⟨(idxM (· == e.before) (nd d e.at').kids).toNat, by omega⟩
        rw [hii] at hPl hi
        have lt : ((nd d e.at').kids.take i).length = i := by rw [List.length_take]; omega
        have ld : ((nd d e.at').kids.drop i).length = (nd d e.at').kids.length - i := List.length_drop
        simp -dsimp -implicitDefEqProofs (disch := omega) only [VCA, Nat.reduceEqDiff, Nat.reduceAdd, Nat.reduceLT, Nat.reduceLeDiff, ↓reduceIte, exists_eq_left', e3, e10, g10, eEdit, b1, b2, b3, b5, bb]
        refine pcallE.of (hPl) ?_; simp -dsimp -implicitDefEqProofs (disch := omega) only [VCA, Nat.reduceEqDiff, Nat.reduceBEq, Nat.reduceAdd, Nat.reduceLT, Nat.reduceLeDiff, ↓reduceIte, rsOf, rootsOf, SOp.rd, SI.rd, SX.rd, okParts, setAt, forall_const, forall_eq, exists_eq_left, exists_eq_left', rootL, e3, e8, e10, g10, eEdit, n810]
        simp -dsimp -implicitDefEqProofs (disch := omega) only [lt, ld]
        refine ⟨by omega, by omega, by omega, by omega, fun r hr => ?_⟩
        have nr : ¬ r10 = r := fun e => by rw [← e, g10] at hr; cases hr
        have dd := fun x => del_upd (h := h') (r := r) (o := x) hr
        simp -dsimp -implicitDefEqProofs (disch := omega) only [VCA, ↓reduceIte, g10, nr, dd, lt, List.length_append]
        refine ⟨by omega, by omega, fun r' hr' => ?_⟩
        have nr' : ¬ r10 = r' := fun e => by rw [← e, g10] at hr'; cases hr'
        have dd' := fun x => del_upd (h := h') (r := r') (o := x) hr'
        simp -dsimp -implicitDefEqProofs (disch := omega) only [VCA, Nat.reduceEqDiff, Nat.reduceAdd, Nat.reduceLT, Nat.reduceLeDiff, ↓reduceIte, setAt, exists_eq_left', e3, e8, e10, g10, hN', h8', eEdit, b6, lenN, gt, gs, List.length_set, n810, nN10, mN10, mN8, nr', dd, dd', lt]
        have eI : insAt d e = i := by unfold insAt; rw [if_neg bb', hii]; rfl
        refine ⟨by omega, by omega, by omega, by omega, by omega, by omega, fin _ _ _ (upd_same _ _ _) (by rw [List.length_set, List.length_set]; exact lenN) (fun t o ht h1 h2 => by rw [upd_ne _ _ h1, upd_ne _ _ h2]; exact S' _ _ ht) (wks_eq ?_) e4 e8 e9⟩
        rw [eD, eI]
        show _ = ((d.nodes.set _ _).set _ _).map eNode
        rw [List.map_set, List.map_set, List.set_comm _ _ hne.symm]
        refine congrArg (List.set _ _) ?_
        rw [qq]
        simp only [sl, List.map_append, List.map_cons]
        rw [List.take_of_length_le (i := i + 1) (by simp; omega), List.append_assoc]
        rfl
    have tS := stepA_len e (nd d e.at').attrs
    by_cases c2 : e.do' = 2
    · have b1 : (e.do' == 1) = false := by simp; omega
      have b2 : (e.do' == 2) = true := by simp; omega
      have b3 : (e.do' == 3) = false := by simp; omega
      have b5 : (e.do' == 5) = false := by simp; omega
      have b6 : (e.do' == 6) = false := by simp; omega
      have hat : 0 ≤ attrAt (nd d e.at').attrs e.name := by
        have hE := h0
        rw [errR_2 c2 ha] at hE
        split at hE
        · omega
        split at hE
        · omega
        · rename_i q; exact Classical.not_not.1 q
      have eL : (nd d e.at').attrs.flatMap (stepA e) = dropAttr (nd d e.at').attrs e.name := by
        rw [dropAttr_filter anod hat]
        generalize (nd d e.at').attrs = l
        induction l with
        | nil => rfl
        | cons a l ih =>
          rw [List.flatMap_cons, List.filter_cons, ih]
          unfold stepA
          by_cases q : a.name = e.name
          · rw [if_neg (by simp [q, c2])]; simp [q]
          · rw [if_pos (.inl q), if_neg (fun h => q h.1)]; simp [q]
      have eD : editD d e = setN d e.at' { nd d e.at' with attrs := dropAttr (nd d e.at').attrs e.name } := by unfold editD; rw [if_neg (by omega), if_pos c2]
      rw [eL] at A tS
      rcases A with ⟨q0, q1⟩ | ⟨rA, q0, q1, q2⟩
      · simp -dsimp -implicitDefEqProofs (disch := omega) only [VCA, Nat.reduceEqDiff, Nat.reduceAdd, Nat.reduceLT, Nat.reduceLeDiff, ↓reduceIte, setAt, exists_eq_left', e3, e8, e10, g10, hN', h8', eEdit, b1, b2, b3, b5, b6, lenN, gat, n810, nN10, q1]
        refine ⟨by omega, by omega, fin _ _ _ (upd_same _ _ _) (by rw [List.length_set]; exact lenN) (fun t o ht h1 h2 => by rw [upd_ne _ _ h1, upd_ne _ _ h2]; exact S' _ _ ht) (wks_eq ?_) e4 e8 e9⟩
        rw [eD]
        show _ = (d.nodes.set _ _).map eNode
        rw [List.map_set]
        refine congrArg (List.set _ _) ?_
        rw [qq]
        have : dropAttr (nd d e.at').attrs e.name = [] := by simpa using q0
        simp only [this]
        rfl
      · have SD := S'.del q0
        have dA10 := SD _ _ gb
        have dA8 := SD _ _ gb8
        have dAN := SD _ _ gbN
        unfold eNode at dA10
        simp -dsimp -implicitDefEqProofs (disch := omega) only [VCA, Nat.reduceEqDiff, Nat.reduceAdd, Nat.reduceLT, Nat.reduceLeDiff, ↓reduceIte, setAt, exists_eq_left', e3, e8, e10, eEdit, b1, b2, b3, b5, b6, lenN, gat, n810, nN10, q1, q2, dA10, dA8, dAN]
        refine ⟨by omega, by omega, fin _ _ _ (upd_same _ _ _) (by rw [List.length_set]; exact lenN) (fun t o ht h1 h2 => by rw [upd_ne _ _ h1, upd_ne _ _ h2]; exact SD _ _ ht) (wks_eq ?_) e4 e8 e9⟩
        rw [eD]
        show _ = (d.nodes.set _ _).map eNode
        rw [List.map_set]
        refine congrArg (List.set _ _) ?_
        rw [qq]
        rw [List.take_of_length_le (by rw [List.length_map]; exact Nat.le_refl _)]
        rfl
    have c1 : e.do' = 1 := by omega
    have b1 : (e.do' == 1) = true := by simp; omega
    have b2 : (e.do' == 2) = false := by simp; omega
    have b3 : (e.do' == 3) = false := by simp; omega
    have b5 : (e.do' == 5) = false := by simp; omega
    have b6 : (e.do' == 6) = false := by simp; omega
    have hsA : setA e (nd d e.at').attrs = decide (0 ≤ attrAt (nd d e.at').attrs e.name) := by
      unfold setA attrAt
      rw [idxM_any, c1]; simp
    have eL := setAttr_map (l := (nd d e.at').attrs) (name := e.name) (value := e.value) anod
    have eM : ((nd d e.at').attrs.map fun a => if a.name = e.name then (⟨a.name, e.value⟩ : HAttr) else a) = (nd d e.at').attrs.flatMap (stepA e) := by
      generalize (nd d e.at').attrs = l
      induction l with
      | nil => rfl
      | cons a l ih =>
        rw [List.flatMap_cons, List.map_cons, ih]
        unfold stepA
        by_cases q : a.name = e.name
        · rw [if_pos q, if_pos (.inr (by omega)), if_pos ⟨q, c1⟩]; rfl
        · rw [if_neg q, if_pos (.inl q), if_neg (fun h => q h.1)]; rfl
    rw [eM] at eL
    have eD : editD d e = setN d e.at' { nd d e.at' with attrs := setAttr (nd d e.at').attrs e.name e.value } := by unfold editD; rw [if_pos c1]
    by_cases hat : 0 ≤ attrAt (nd d e.at').attrs e.name
    · rw [if_pos hat, List.append_nil] at eL
      rw [hsA, decide_eq_true hat] at e12
      rw [← eL] at A tS
      clear eL
      rcases A with ⟨q0, q1⟩ | ⟨rA, q0, q1, q2⟩
      · simp -dsimp -implicitDefEqProofs (disch := omega) only [VCA, Nat.reduceEqDiff, Nat.reduceAdd, Nat.reduceLT, Nat.reduceLeDiff, ↓reduceIte, setAt, exists_eq_left', e3, e8, e10, e12, g10, hN', h8', eEdit, b1, b3, b5, b6, lenN, gat, n810, nN10, q1]
        refine ⟨by omega, by omega, fin _ _ _ (upd_same _ _ _) (by rw [List.length_set]; exact lenN) (fun t o ht h1 h2 => by rw [upd_ne _ _ h1, upd_ne _ _ h2]; exact S' _ _ ht) (wks_eq ?_) e4 e8 e9⟩
        rw [eD]
        show _ = (d.nodes.set _ _).map eNode
        rw [List.map_set]
        refine congrArg (List.set _ _) ?_
        rw [qq]
        have : setAttr (nd d e.at').attrs e.name e.value = [] := by simpa using q0
        simp only [this]
        rfl
      · have SD := S'.del q0
        have dA10 := SD _ _ gb
        have dA8 := SD _ _ gb8
        have dAN := SD _ _ gbN
        unfold eNode at dA10
        simp -dsimp -implicitDefEqProofs (disch := omega) only [VCA, Nat.reduceEqDiff, Nat.reduceAdd, Nat.reduceLT, Nat.reduceLeDiff, ↓reduceIte, setAt, exists_eq_left', e3, e8, e10, e12, eEdit, b1, b3, b5, b6, lenN, gat, n810, nN10, q1, q2, dA10, dA8, dAN]
        refine ⟨by omega, by omega, fin _ _ _ (upd_same _ _ _) (by rw [List.length_set]; exact lenN) (fun t o ht h1 h2 => by rw [upd_ne _ _ h1, upd_ne _ _ h2]; exact SD _ _ ht) (wks_eq ?_) e4 e8 e9⟩
        rw [eD]
        show _ = (d.nodes.set _ _).map eNode
        rw [List.map_set]
        refine congrArg (List.set _ _) ?_
        rw [qq]
        rw [List.take_of_length_le (by rw [List.length_map]; exact Nat.le_refl _)]
        rfl
    · rw [if_neg hat] at eL
      rw [hsA, decide_eq_false hat] at e12
      simp -dsimp -implicitDefEqProofs (disch := omega) only [VCA, Nat.reduceEqDiff, Nat.reduceAdd, Nat.reduceLeDiff, ↓reduceIte, okParts, fillA, okFill, forall_eq, exists_eq_left, e3, e12, eEdit, b1]
      have tL : (((nd d e.at').attrs.flatMap (stepA e)).map eAttr).length ≤ 12 := by rw [List.length_map]; omega
      refine A.app S' (by rw [List.length_singleton]; omega) (by rw [List.length_singleton]; omega) (fun a' h3 A' S3 => ?_)
      have eT : ((nd d e.at').attrs.flatMap (stepA e)).map eAttr ++ [[.str e.name, .str e.value]] = (setAttr (nd d e.at').attrs e.name e.value).map eAttr := by rw [eL, List.map_append]; rfl
      rw [eT] at A'
      clear eL eT A
      have hN3 := S3 _ _ gbN
      have h43 := S3 _ _ gb4
      have h83 := S3 _ _ gb8
      have k10 := S3 _ _ gb
      unfold eNode at k10
      rcases A' with ⟨q0, q1⟩ | ⟨rA, q0, q1, q2⟩
      · simp -dsimp -implicitDefEqProofs (disch := omega) only [VCA, Nat.reduceEqDiff, Nat.reduceAdd, Nat.reduceLT, Nat.reduceLeDiff, ↓reduceIte, setAt, exists_eq_left', e3, e8, e10, k10, hN3, h83, eEdit, b1, b3, b5, b6, lenN, gat, n810, nN10, q1]
        refine ⟨by omega, by omega, fin _ _ _ (upd_same _ _ _) (by rw [List.length_set]; exact lenN) (fun t o ht h1 h2 => by rw [upd_ne _ _ h1, upd_ne _ _ h2]; exact S3 _ _ ht) (wks_eq ?_) e4 e8 e9⟩
        rw [eD]
        show _ = (d.nodes.set _ _).map eNode
        rw [List.map_set]
        refine congrArg (List.set _ _) ?_
        rw [qq]
        have : setAttr (nd d e.at').attrs e.name e.value = [] := by simpa using q0
        simp only [this]
        rfl
      · have SD := S3.del q0
        have dA10 := SD _ _ gb
        have dA8 := SD _ _ gb8
        have dAN := SD _ _ gbN
        unfold eNode at dA10
        simp -dsimp -implicitDefEqProofs (disch := omega) only [VCA, Nat.reduceEqDiff, Nat.reduceAdd, Nat.reduceLT, Nat.reduceLeDiff, ↓reduceIte, setAt, exists_eq_left', e3, e8, e10, eEdit, b1, b3, b5, b6, lenN, gat, n810, nN10, q1, q2, dA10, dA8, dAN]
        refine ⟨by omega, by omega, fin _ _ _ (upd_same _ _ _) (by rw [List.length_set]; exact lenN) (fun t o ht h1 h2 => by rw [upd_ne _ _ h1, upd_ne _ _ h2]; exact SD _ _ ht) (wks_eq ?_) e4 e8 e9⟩
        rw [eD]
        show _ = (d.nodes.set _ _).map eNode
        rw [List.map_set]
        refine congrArg (List.set _ _) ?_
        rw [qq]
        rw [List.take_of_length_le (by rw [List.length_map]; exact Nat.le_refl _)]
        rfl
end Go.Proofs.K
end
section
/- Edits: the reference's Edited. -/
set_option linter.unusedSimpArgs false
set_option linter.unusedVariables false
namespace Go.Proofs.K
open Go Go.Sim Go.Proofs
variable {G : Glob}
theorem edited_ok (d : HDoc) (V : DV d) (sm : DocSm d) (e : HEdit) (he : EditSm e) : PCalls (Pg G) 26 [.agg (eDoc d), .agg (eEdit e)] (edR d e) := PCalls.outV fun h => by
  have hE := editErr_ok (G := G) d V sm e he
  unfold eEdit eDoc at hE
  have hCp := copyDoc_ok (G := G) d sm
  unfold eDoc at hCp
  show DCalls _ _ _ h (EdK d e h)
  refine dcalls_of_vc Tryz.func26 hn26 hc26 (by rw [Tryz.ntmps26]; simp) (by rw [Tryz.ntmps26]; decide) ?_
  simp -dsimp -implicitDefEqProofs (disch := omega) only [VCA, Nat.reduceEqDiff, Nat.reduceAdd, ↓reduceIte, eDoc, c26, eEdit]
  intro r4 hr4
  refine pcallE.of (hE) ?_; simp -dsimp -implicitDefEqProofs (disch := omega) only [VCA, ↓reduceIte]
  refine Br.ne (fun h0 => ?_) (fun h0 => ?_)
  · have aE := apply_err V h0
    have aD : applyD d e = noDoc := by unfold applyD; rw [aE, if_neg h0]
    have aN : applyN d e = 0 := by unfold applyN; rw [aE, if_neg h0]
    simp -dsimp -implicitDefEqProofs (disch := omega) only [VCA, Nat.reduceEqDiff, Nat.reduceAdd, Nat.reduceLT, ↓reduceIte, fillA, okFill, setAt, exists_eq_left']
    refine ⟨_, Sub.refl _, (Sub.refl h).upd hr4, ?_⟩
    unfold edR
    rw [aD, aN, aE]
    exact .tup' (.cons (vw_noDoc _) (.cons (.refl _) (.cons (.refl _) .nil)))
  · simp -dsimp -implicitDefEqProofs (disch := omega) only [VCA, Nat.reduceEqDiff, Nat.reduceAdd, ↓reduceIte]
    refine DCalls.of (hCp _) ?_
    rintro a h2 ⟨b, rfl, F, S⟩
    have S4 : ∀ x, Sub h (upd h r4 (some x)) := fun x => (Sub.refl h).upd hr4
    have n4 : rootOf b ≠ some r4 := fun e => by have := F.new _ e; rw [upd_same] at this; cases this
    have F' : Fresh h h2 40 6 (d.nodes.map eNode) b := ⟨F.acc.mono (S4 _)⟩
    have g4 := S _ _ (upd_same _ _ _)
    simp -dsimp -implicitDefEqProofs (disch := omega) only [VCA, Nat.reduceEqDiff, Nat.reduceAdd, Nat.reduceLT, ↓reduceIte, setAt, exists_eq_left']
    intro r8 hr8
    have n8 : rootOf b ≠ some r8 := fun e => by
      obtain ⟨o, ho⟩ := F.own.root e
      rw [ho] at hr8; cases hr8
    have n48 : r4 ≠ r8 := fun e => by rw [← e, g4] at hr8; cases hr8
    have Sh : Sub h h2 := (S4 _).trans S
    have h8 : h r8 = none := Sh.none hr8
    have F2 : ∀ y, Fresh h (upd h2 r8 (some y)) 40 6 (d.nodes.map eNode) b := fun y => F'.keep fun r o hr ho => by rw [upd_ne _ _ (fun e => n8 (by rw [hr, e]))]; exact ho
    by_cases c4 : e.do' = 4
    · exact edited_make V sm he h0 c4 (Sh.upd h8) (F2 _) hr4 h8 (by rw [upd_ne _ _ n48]; exact g4) (upd_same _ _ _) n4 n8 n48 rfl rfl rfl
    · exact edited_else V sm he h0 c4 (Sh.upd h8) (F2 _) hr4 h8 (by rw [upd_ne _ _ n48]; exact g4) (upd_same _ _ _) n4 n8 n48 rfl rfl rfl rfl
theorem apply_sm {d : HDoc} (sm : DocSm d) {e : HEdit} (he : EditSm e) : DocSm (applyD d e) := by
  by_cases h0 : applyE d e = 0
  · have aD : applyD d e = editD d e := by unfold applyD; rw [if_pos h0]
    rw [aD]
    unfold applyE at h0
    by_cases h1 : docE d = 0
    · rw [if_neg (by simpa using h1)] at h0
      have V := (docE_iff d).1 h1
      refine edit_sm V sm he (Classical.byContradiction fun h => ?_)
      rw [(editE_errR V e).1 h] at h0
      exact h h0
    · rw [if_pos h1] at h0; exact absurd h0 h1
  · have aD : applyD d e = noDoc := by unfold applyD; rw [if_neg h0]
    rw [aD]; exact ⟨by decide, fun x hx => by cases hx⟩
end Go.Proofs.K
end
section
/- Edits one after another: dom.All. -/
set_option linter.unusedSimpArgs false
set_option linter.unusedVariables false
namespace Go.Proofs.K
open Go Go.Sim Go.Proofs
variable {G : Glob}
theorem eEdit_len' (e : HEdit) : (eEdit e).length = 12 := rfl
theorem eEdit_take' (e : HEdit) : (eEdit e).take 12 = eEdit e := rfl
def runM : HDoc → List HEdit → Int → HDoc × Int × Int
  | d, [], _ => (d, 0, 0)
  | d, e :: l, i => if applyE d e ≠ 0 then (noDoc, i, applyE d e) else runM (applyD d e) l (i + 1)
def allM (d : HDoc) (l : List HEdit) : HDoc × Int × Int := if docE d ≠ 0 then (noDoc, 0, docE d) else if 40 < l.length then (noDoc, 0, 2) else runM d l 0
def allV (x : HDoc × Int × Int) : AVal := .tup [.agg (eDoc x.1), aInt x.2.1, aInt x.2.2]
theorem apply_step {d : HDoc} (V : DV d) (sm : DocSm d) {e : HEdit} (he : EditSm e) (h0 : applyE d e = 0) : DV (applyD d e) ∧ DocSm (applyD d e) ∧ applyD d e = editD d e ∧ editE d e = 0 := by
  have hd := (docE_iff d).2 V
  have aE : applyE d e = editE d e := by unfold applyE; rw [if_neg (by simpa using hd)]
  have aD : applyD d e = editD d e := by unfold applyD; rw [if_pos h0]
  have h1 : editE d e = 0 := by rw [← aE]; exact h0
  have h2 : errR d e = 0 := Classical.byContradiction fun h => by
    rw [(editE_errR V e).1 h] at h1; exact h h1
  exact ⟨by rw [aD]; exact (edit_DV V e h2).2 h1, by rw [aD]; exact edit_sm V sm he h2, aD, h1⟩
theorem runM_cons {d : HDoc} {l : List HEdit} {k : Nat} (hk : k < l.length) (i : Int) : runM d (l.drop k) i = if applyE d (nth l k) ≠ 0 then (noDoc, i, applyE d (nth l k)) else runM (applyD d (nth l k)) (l.drop (k + 1)) (i + 1) := by
  have : l.drop k = nth l k :: l.drop (k + 1) := by
    have e : nth l k = l[k] := by unfold nth; rw [List.getD_eq_getElem?_getD, List.getElem?_eq_getElem hk]; rfl
    rw [e, List.getElem_cons_drop]
  rw [this, runM]
theorem runM_sm : ∀ (l : List HEdit) (d : HDoc) (i : Int), DV d → DocSm d → (∀ e ∈ l, EditSm e) → DocSm (runM d l i).1
  | [], d, i, V, sm, hl => sm
  | e :: l, d, i, V, sm, hl => by
    unfold runM
    by_cases h : applyE d e ≠ 0
    · rw [if_pos h]; exact ⟨Nat.zero_le _, fun x hx => by cases hx⟩
    · rw [if_neg h]
      have := apply_step V sm (hl e List.mem_cons_self) (Classical.not_not.1 h)
      exact runM_sm l _ _ this.1 this.2.1 fun x hx => hl x (List.mem_cons_of_mem _ hx)
theorem allM_sm {d : HDoc} {l : List HEdit} (sm : DocSm d) (hl : ∀ e ∈ l, EditSm e) : DocSm (allM d l).1 := by
  unfold allM
  split
  · exact ⟨Nat.zero_le _, fun x hx => by cases hx⟩
  rename_i h
  split
  · exact ⟨Nat.zero_le _, fun x hx => by cases hx⟩
  · exact runM_sm l d 0 ((docE_iff d).1 (Classical.not_not.1 h)) sm hl
theorem Ed.aside {h0 h : Heap} {re rN r : Nat} {d : HDoc} {sl : Nat → AVal} {made : Int} (E : Ed h0 h re rN d sl made) (hr : h r = none) (o : AObj) : Ed h0 (upd h r (some o)) re rN d sl made :=
  ⟨(E.dw.more hr o).less (fun x hx => by simp at hx; subst hx; simp), by rw [upd_ne _ _ (fun e => by have := E.ed; rw [e, hr] at this; cases this)]; exact E.ed, E.new, E.live⟩
def c38 : SFun := ⟨(.seq (.reg [⟨(some 2), (.boxF 24 2 (.t 0)), none⟩, ⟨(some 4), (.new 24 2 [.emp, (.bool false)]), none⟩, ⟨(some 5), (.mv (.c (.int .i64 (0)))), none⟩, ⟨(some 6), (.mv (.c (.int .i64 (0)))), none⟩]) (.seq (.reg [⟨(some 12), (.ld 2 true (.t 2)), none⟩, ⟨(some 13), (.pcall 47 [(.t 12)]), none⟩, ⟨(some 7), (.mv (.t 13)), none⟩]) (.seq (.seq (.reg [⟨(some 14), (.mv (.t 7)), none⟩, ⟨(some 15), (.bin .eql (.t 14) (.c (.int .i64 (0)))), none⟩, ⟨(some 16), (.mv (.t 15)), none⟩, ⟨(some 17), (.mv (.t 1)), (some (16, true))⟩, ⟨(some 18), (.len (.t 17)), (some (16, true))⟩, ⟨(some 19), (.bin .gtr (.t 18) (.c (.int .i64 (40)))), (some (16, true))⟩, ⟨(some 20), (.pick (.t 16) (.t 19) (.c (.bool false))), none⟩]) (.cond (.t 20) (.reg [⟨(some 7), (.mv (.c (.int .i64 (2)))), none⟩]) .skip)) (.seq (.seq (.reg [⟨(some 21), (.mv (.t 7)), none⟩, ⟨(some 22), (.bin .neq (.t 21) (.c (.int .i64 (0)))), none⟩]) (.cond (.t 22) (.seq (.reg [⟨(some 23), (.bld [.emp, (.bool false)] []), none⟩, ⟨(some 24), (.mv (.t 7)), none⟩, ⟨none, (.st 2 (.t 4) (.t 23)), none⟩, ⟨(some 5), (.mv (.c (.int .i64 (0)))), none⟩, ⟨(some 6), (.mv (.t 24)), none⟩]) .ret) .skip)) (.seq (.reg [⟨(some 25), (.ld 2 true (.t 2)), none⟩, ⟨(some 26), (.call (.c (.fn 77 [] [])) [(.t 25)]), none⟩, ⟨(some 27), (.bld [.emp, (.bool false), (.int .i64 (0))] [(0, (2, (.t 26)))]), none⟩, ⟨(some 28), (.box 118 3 (.t 27)), none⟩, ⟨(some 8), (.mv (.t 28)), none⟩]) (.seq (.seq (.reg [⟨(some 29), (.mv (.t 1)), none⟩, ⟨(some 30), (.len (.t 29)), none⟩, ⟨(some 31), (.mv (.c (.int .i64 (0)))), none⟩]) (.block 0 (.loop (.seq (.reg [⟨(some 32), (.bin .lss (.t 31) (.t 30)), none⟩]) (.seq (.cond (.t 32) .skip (.exit 0)) (.seq (.block 1 (.seq (.reg [⟨(some 33), (.mv (.t 31)), none⟩, ⟨(some 34), (.idxA 12 (.t 29) (.t 31)), none⟩, ⟨(some 35), (.ld 12 true (.t 34)), none⟩, ⟨(some 10), (.new 42 12 [(.int .i64 (0)), (.int .i64 (0)), (.int .i64 (0)), (.int .i64 (0)), (.str []), (.str []), (.int .i64 (0)), (.str []), .emp, (.str []), (.int .i64 (0)), .emp]), none⟩, ⟨(some 9), (.mv (.t 33)), none⟩, ⟨none, (.st 12 (.t 10) (.t 35)), none⟩]) (.seq (.reg [⟨(some 36), (.mv (.t 8)), none⟩, ⟨(some 37), (.ld 12 true (.t 10)), none⟩, ⟨(some 38), (.call (.c (.fn 78 [] [])) [(.t 36), (.t 37)]), none⟩, ⟨(some 11), (.mv (.t 38)), none⟩]) (.seq (.reg [⟨(some 39), (.mv (.t 11)), none⟩, ⟨(some 40), (.bin .neq (.t 39) (.c (.int .i64 (0)))), none⟩]) (.cond (.t 40) (.seq (.reg [⟨(some 41), (.bld [.emp, (.bool false)] []), none⟩, ⟨(some 42), (.mv (.t 9)), none⟩, ⟨(some 43), (.mv (.t 11)), none⟩, ⟨none, (.st 2 (.t 4) (.t 41)), none⟩, ⟨(some 5), (.mv (.t 42)), none⟩, ⟨(some 6), (.mv (.t 43)), none⟩]) .ret) .skip))))) (.reg [⟨(some 44), (.bin .add (.t 31) (.c (.int .i64 (1)))), none⟩, ⟨(some 31), (.mv (.t 44)), none⟩]))))))) (.seq (.reg [⟨(some 45), (.mv (.t 8)), none⟩, ⟨(some 46), (.fldA 0 (.t 45)), none⟩, ⟨(some 47), (.fldA 0 (.t 46)), none⟩, ⟨(some 48), (.ld 2 true (.t 47)), none⟩, ⟨none, (.st 2 (.t 4) (.t 48)), none⟩, ⟨(some 5), (.mv (.c (.int .i64 (0)))), none⟩, ⟨(some 6), (.mv (.c (.int .i64 (0)))), none⟩]) .ret))))))), [(.cell 4 2 true), (.tmp 5), (.tmp 6)]⟩
theorem hc38 : toSF Tryz.prog {pure := [47], how := [(28, 6)]} Tryz.f38 = some c38 := by kernel_rfl
theorem hn38 : (Tryz.f38.name == "runtime.NumGoroutine") = false := by kernel_rfl
set_option maxHeartbeats 1000000 in
theorem all_ok (d : HDoc) (sm : DocSm d) (l : List HEdit) (hl : ∀ e ∈ l, EditSm e) (ll : l.length ≤ 1073741824) : PCalls (Pg G) 38 [.agg (eDoc d), sl eEdit l] (allV (allM d l)) := PCalls.outV fun h => by
  have hC := check_ok (G := G) d sm
  refine dcalls_of_vc Tryz.func38 hn38 hc38 (by rw [Tryz.ntmps38]; simp) (by rw [Tryz.ntmps38]; decide) ?_
  simp -dsimp -implicitDefEqProofs (disch := omega) only [VCA, Nat.reduceEqDiff, ↓reduceIte, c38, eDoc_len, eDoc_take]
  intro r4 hr4
  have S4 : ∀ x, Sim.Sub h (upd h r4 (some x)) := fun x => (Sub.refl h).upd hr4
  by_cases h1 : docE d = 0
  · have V := docE_DV h1
    rw [h1] at hC
    have hOwn := fun hp => own_ok' (G := G) d sm V.pos hp
    by_cases h40 : 40 < l.length
    · have aM : allM d l = (noDoc, 0, 2) := by unfold allM; rw [if_neg (by simpa using h1), if_pos h40]
      repeat' (first | ((with_reducible refine Br.dec (fun _ => ?_) (fun _ => ?_)) <;> try (exfalso; omega)) | ((with_reducible refine Br.eq (fun _ => ?_) (fun _ => ?_)) <;> try (exfalso; omega)) | ((with_reducible refine Br.ne (fun _ => ?_) (fun _ => ?_)) <;> try (exfalso; omega)) | ((with_reducible refine brNdec (fun _ => ?_) (fun _ => ?_)) <;> try (exfalso; omega)) | ((with_reducible refine brNeq (fun _ => ?_) (fun _ => ?_)) <;> try (exfalso; omega)) | with_reducible refine Br.intro (fun _ => ?_) (fun _ => ?_) | (with_reducible apply pcallE.of; · exact hC) | (with_reducible refine And.intro ?_ ?_; · omega) | simp -dsimp -implicitDefEqProofs (disch := omega) only [↓vcOps_sp 16, VCA, Nat.reduceEqDiff, Nat.reduceAdd, Nat.reduceLT, ↓reduceIte, fillA, okFill, setAt, exists_eq_left'])
      rw [aM]
      exact ⟨_, Sub.refl _, S4 _, .tup' (.cons (vw_noDoc _) (.cons (.refl _) (.cons (.refl _) .nil)))⟩
    · have aM : allM d l = runM d l 0 := by unfold allM; rw [if_neg (by simpa using h1), if_neg h40]
      repeat' (first | ((with_reducible refine Br.dec (fun _ => ?_) (fun _ => ?_)) <;> try (exfalso; omega)) | ((with_reducible refine Br.eq (fun _ => ?_) (fun _ => ?_)) <;> try (exfalso; omega)) | ((with_reducible refine Br.ne (fun _ => ?_) (fun _ => ?_)) <;> try (exfalso; omega)) | ((with_reducible refine brNdec (fun _ => ?_) (fun _ => ?_)) <;> try (exfalso; omega)) | ((with_reducible refine brNeq (fun _ => ?_) (fun _ => ?_)) <;> try (exfalso; omega)) | with_reducible refine Br.intro (fun _ => ?_) (fun _ => ?_) | (with_reducible apply pcallE.of; · exact hC) | (with_reducible refine And.intro ?_ ?_; · omega) | simp -dsimp -implicitDefEqProofs (disch := omega) only [↓vcOps_sp 16, VCA, Nat.reduceEqDiff, ↓reduceIte, eDoc_len, eDoc_take])
      have hOwn := hOwn (upd h r4 (some ⟨.t 24, 2, [[.emp, .bool false]]⟩))
      generalize hhb : upd h r4 (some ⟨.t 24, 2, [[.emp, .bool false]]⟩) = hb at *
      have gb4 : hb r4 = some ⟨.t 24, 2, [[.emp, .bool false]]⟩ := by rw [← hhb]; exact upd_same _ _ _
      have Sb : Sub h hb := by rw [← hhb]; exact S4 _
      refine DCalls.of hOwn ?_
      rintro a h2 ⟨rN, sl0, rfl, Dw1, M1⟩
      simp -dsimp -implicitDefEqProofs (disch := omega) only [VCA, Nat.reduceEqDiff, Nat.reduceAdd, Nat.reduceLeDiff, ↓reduceIte, fillA, okFill]
      intro re hre
      have E0 := Ed.begin Dw1 M1 hre
      rw [aM]
      refine LoopVC.intro (fun m e h' => ∃ (k : Nat) (rN : Nat) (sl' : Nat → AVal) (D : HDoc) (made : Int), k ≤ l.length ∧ m = l.length - k ∧ e 4 = .vp r4 0 ∧ e 8 = .vp re 0 ∧ e 29 = sl eEdit l ∧ e 30 = aInt l.length ∧ e 31 = aInt k ∧ Ed hb h' re rN D sl' made ∧ DV D ∧ DocSm D ∧ D.quirks = d.quirks ∧ runM D (l.drop k) k = runM d l 0) l.length
        ⟨0, rN, sl0, d, 0, by omega, by omega, rfl, rfl, rfl, rfl, rfl, E0, V, sm, rfl, rfl⟩ ?_
      clear E0 Dw1 M1 hre hOwn hhb
      rintro m e h' ⟨k, rN, sl', D, made, hk, rfl, e4, e8, e29, e30, e31, E, W, smD, hq, hr⟩
      have g4 := E.dw.sub _ _ gb4
      simp -dsimp -implicitDefEqProofs (disch := omega) only [VCA, ↓reduceIte, e30, e31]
      refine Br.dec (fun hlt => ?_) (fun hge => ?_)
      · have hk' : k < l.length := by omega
        rw [runM_cons hk'] at hr
        have hx := hl _ (nth_mem' hk')
        obtain ⟨x, hxx⟩ : ∃ x, nth l k = x := ⟨_, rfl⟩
        rw [hxx] at hr hx
        simp -dsimp -implicitDefEqProofs (disch := omega) only [VCA, Nat.reduceEqDiff, Nat.reduceAdd, Nat.reduceLT, ↓reduceIte, setAt, exists_eq_left', e8, e29, e31, hxx, eEdit_len', eEdit_take']
        refine ⟨by omega, fun r10 hr10 => ?_⟩
        have hd := (docE_iff D).2 W
        have aE : applyE D x = editE D x := by unfold applyE; rw [if_neg (by simpa using hd)]
        refine DCalls.of (eedit_ok (G := G) (E.aside hr10 _) W smD x hx) ?_
        rintro a h3 ⟨rfl, hR⟩
        rcases hR with ⟨hne, rfl⟩ | ⟨hz, rN', sl2, E3⟩
        · have g4' : upd h' r10 (some ⟨.t 42, 12, [eEdit x]⟩) r4 = some ⟨.t 24, 2, [[.emp, .bool false]]⟩ := by rw [upd_ne _ _ (fun e => by rw [e, hr10] at g4; cases g4)]; exact g4
          have S10 : Sub h (upd h' r10 (some ⟨.t 42, 12, [eEdit x]⟩)) := (Sb.trans E.dw.sub).upd ((Sb.trans E.dw.sub).none hr10)
          rw [← aE] at hne
          rw [if_pos hne] at hr
          generalize upd h' r10 (some ⟨.t 42, 12, [eEdit x]⟩) = h5 at *
          rw [← aE, ← hr]
          repeat' (first | ((with_reducible refine Br.dec (fun _ => ?_) (fun _ => ?_)) <;> try (exfalso; omega)) | ((with_reducible refine Br.eq (fun _ => ?_) (fun _ => ?_)) <;> try (exfalso; omega)) | ((with_reducible refine Br.ne (fun _ => ?_) (fun _ => ?_)) <;> try (exfalso; omega)) | ((with_reducible refine brNdec (fun _ => ?_) (fun _ => ?_)) <;> try (exfalso; omega)) | ((with_reducible refine brNeq (fun _ => ?_) (fun _ => ?_)) <;> try (exfalso; omega)) | with_reducible refine Br.intro (fun _ => ?_) (fun _ => ?_) | (with_reducible refine And.intro ?_ ?_; · omega) | simp -dsimp -implicitDefEqProofs (disch := omega) only [VCA, Nat.reduceEqDiff, Nat.reduceAdd, Nat.reduceLT, ↓reduceIte, fillA, okFill, setAt, exists_eq_left', e4, eEdit_take', g4'])
          all_goals try (exfalso; omega)
          exact ⟨_, Sub.refl _, S10.upd hr4, .tup' (.cons (vw_noDoc _) (.cons (.refl _) (.cons (.refl _) .nil)))⟩
        · rw [← aE] at hz
          rw [if_neg (by simpa using hz)] at hr
          obtain ⟨W2, sm2, aD, _⟩ := apply_step W smD hx hz
          rw [← aE, hz]
          rw [← aD] at E3
          repeat' (first | ((with_reducible refine Br.dec (fun _ => ?_) (fun _ => ?_)) <;> try (exfalso; omega)) | ((with_reducible refine Br.eq (fun _ => ?_) (fun _ => ?_)) <;> try (exfalso; omega)) | ((with_reducible refine Br.ne (fun _ => ?_) (fun _ => ?_)) <;> try (exfalso; omega)) | ((with_reducible refine brNdec (fun _ => ?_) (fun _ => ?_)) <;> try (exfalso; omega)) | ((with_reducible refine brNeq (fun _ => ?_) (fun _ => ?_)) <;> try (exfalso; omega)) | with_reducible refine Br.intro (fun _ => ?_) (fun _ => ?_) | (with_reducible refine And.intro ?_ ?_; · omega) | simp -dsimp -implicitDefEqProofs (disch := omega) only [VCA, Nat.reduceEqDiff, ↓reduceIte, e4, e8, e29, e30, e31, eEdit_take'])
          all_goals try (exfalso; omega)
          refine ⟨_, by omega, k + 1, rN', sl2, applyD D x, _, by omega, rfl, by omega, E3, W2, sm2, ?_, ?_⟩
          · rw [aD, ← hq]; unfold editD; (repeat' split) <;> rfl
          · rw [← hr]; congr 1
      · obtain rfl : k = l.length := by omega
        have gE := E.ed
        simp -dsimp -implicitDefEqProofs (disch := omega) only [VCA, Nat.reduceEqDiff, Nat.reduceAdd, Nat.reduceLT, Nat.reduceLeDiff, ↓reduceIte, setAt, exists_eq_left', e4, e8, g4, gE]
        rw [List.drop_length, runM] at hr
        rw [← hr]
        have nre : r4 ∉ [re] := fun h => by
          have h : r4 = re := by simpa using h
          have := E.new
          rw [← h, gb4] at this; cases this
        exact ⟨_, Sub.refl _, (Sb.trans E.dw.sub).upd hr4, .tup' (.cons (Vw.agg' (.cons (E.dw.beside Sb gb4 hr4 nre _).new'.vw (.cons (.refl _) .nil))) (.cons (.refl _) (.cons (.refl _) .nil)))⟩
  · have aM : allM d l = (noDoc, 0, docE d) := by unfold allM; rw [if_pos h1]
    repeat' (first | ((with_reducible refine Br.dec (fun _ => ?_) (fun _ => ?_)) <;> try (exfalso; omega)) | ((with_reducible refine Br.eq (fun _ => ?_) (fun _ => ?_)) <;> try (exfalso; omega)) | ((with_reducible refine Br.ne (fun _ => ?_) (fun _ => ?_)) <;> try (exfalso; omega)) | ((with_reducible refine brNdec (fun _ => ?_) (fun _ => ?_)) <;> try (exfalso; omega)) | ((with_reducible refine brNeq (fun _ => ?_) (fun _ => ?_)) <;> try (exfalso; omega)) | with_reducible refine Br.intro (fun _ => ?_) (fun _ => ?_) | (with_reducible apply pcallE.of; · exact hC) | (with_reducible refine And.intro ?_ ?_; · omega) | simp -dsimp -implicitDefEqProofs (disch := omega) only [↓vcOps_sp 16, VCA, Nat.reduceEqDiff, Nat.reduceAdd, Nat.reduceLT, ↓reduceIte, fillA, okFill, setAt, exists_eq_left'])
    rw [aM]
    exact ⟨_, Sub.refl _, S4 _, .tup' (.cons (vw_noDoc _) (.cons (.refl _) (.cons (.refl _) .nil)))⟩
end Go.Proofs.K
end
section
/- Ways through a tree: the reference's WalkStep; Common; what must be in any case. -/
set_option linter.unusedSimpArgs false
set_option linter.unusedVariables false
namespace Go.Proofs.K
open Go Go.Sim Go.Proofs
variable {G : Glob}
section
variable {d : HDoc} {n : Int} {A B : List Int}
end
/-! ## the common node -/
/-- a result's weaker reading -/
theorem DCalls.res {P : PG} {f : Nat} {args : List AVal} {h : Heap} {K K' : AVal → Heap → Prop} (hd : DCalls P f args h K) (hk : ∀ a h', K a h' → ∃ b, Wk a b ∧ K' b h') : DCalls P f args h K' :=
  ⟨hd.1, fun g w vs H GR V => (hd.2 g w vs H GR V).mono fun e w' ⟨v', a, h', g', he, k0, H', Va, S⟩ => by
    obtain ⟨b, hb, k1⟩ := hk a h' k0
    exact ⟨v', b, h', g', he, k1, H', hb.rel Va, S⟩⟩
def oneD : HDoc := ⟨[⟨1, [], [], [], -1, [1]⟩, ⟨2, [112], [⟨[97], [34]⟩], [], 0, [2]⟩, ⟨3, [], [], [60, 10], 1, []⟩], false⟩
theorem oneD_sm : DocSm oneD := ⟨by decide, by
  intro x hx
  have : x = ⟨1, [], [], [], -1, [1]⟩ ∨ x = ⟨2, [112], [⟨[97], [34]⟩], [], 0, [2]⟩ ∨ x = ⟨3, [], [], [60, 10], 1, []⟩ := by simpa [oneD] using hx
  rcases this with rfl | rfl | rfl <;> exact ⟨by decide, by decide, by decide, by decide, by decide⟩⟩
def c42 : SFun := ⟨(.seq (.reg [⟨(some 0), (.new 24 2 [.emp, (.bool false)]), none⟩]) (.seq (.reg [⟨(some 1), (.bldF 3 1 [(.c (.int .i64 (1)))]), none⟩, ⟨(some 2), (.bld [(.int .i64 (0)), (.str []), .emp, (.str []), (.int .i64 (0)), .emp] [(0, (1, (.c (.int .i64 (1))))), (4, (1, (.c (.int .i64 (-1))))), (5, (1, (.t 1)))]), none⟩, ⟨(some 3), (.bld [(.str []), (.str [])] [(0, (1, (.c (.str [97])))), (1, (1, (.c (.str [34]))))]), none⟩, ⟨(some 4), (.bldF 96 2 [(.t 3)]), none⟩, ⟨(some 5), (.bldF 3 1 [(.c (.int .i64 (2)))]), none⟩, ⟨(some 6), (.bld [(.int .i64 (0)), (.str []), .emp, (.str []), (.int .i64 (0)), .emp] [(0, (1, (.c (.int .i64 (2))))), (1, (1, (.c (.str [112])))), (2, (1, (.t 4))), (5, (1, (.t 5)))]), none⟩, ⟨(some 7), (.bld [(.int .i64 (0)), (.str []), .emp, (.str []), (.int .i64 (0)), .emp] [(0, (1, (.c (.int .i64 (3))))), (3, (1, (.c (.str [60, 10])))), (4, (1, (.c (.int .i64 (1)))))]), none⟩, ⟨(some 8), (.bldF 40 6 [(.t 2), (.t 6), (.t 7)]), none⟩, ⟨(some 9), (.bld [.emp, (.bool false)] [(0, (1, (.t 8)))]), none⟩, ⟨none, (.st 2 (.t 0) (.t 9)), none⟩]) .ret)), [(.cell 0 2 true)]⟩
theorem hc42 : toSF Tryz.prog {} Tryz.f42 = some c42 := by kernel_rfl
theorem hn42 : (Tryz.f42.name == "runtime.NumGoroutine") = false := by kernel_rfl
theorem oneP_ok : PCalls (Pg G) 42 [] (.agg (eDoc oneD)) := fun h => by
  refine DCalls.res (K := fun a h' => a = .agg [.slc [[.int .i64 1, .str [], .emp, .str [], .int .i64 (-1), .slc [[.int .i64 1]]], [.int .i64 2, .str [112], .slc [[.str [97], .str [34]]], .str [], .int .i64 0, .slc [[.int .i64 2]]], [.int .i64 3, .str [], .emp, .str [60, 10], .int .i64 1, .emp]], .bool false] ∧ h' = h) ?_ ?_
  · refine dcalls_of_vc Tryz.func42 hn42 hc42 (by rw [Tryz.ntmps42]; simp) (by rw [Tryz.ntmps42]; decide) ?_
    simp -dsimp -implicitDefEqProofs (disch := omega) only [VCA, Nat.reduceEqDiff, Nat.reduceAdd, Nat.reduceLT, Nat.reduceLeDiff, ↓reduceIte, reduceCtorEq, okParts, fillA, okFill, setAt, exists_eq_right_right, exists_eq_left', c42]
    intro r hr
    exact (Sub.refl _).upd hr
  · rintro a h' ⟨rfl, rfl⟩
    exact ⟨_, Wk.agg' (.cons (Wk.slc' (.cons (.cons (.refl _) (.cons (.refl _) (.cons .emp (.cons (.refl _) (.cons (.refl _) (.cons (.refl _) .nil)))))) (.cons (.cons (.refl _) (.cons (.refl _) (.cons (.refl _) (.cons (.refl _) (.cons (.refl _) (.cons (.refl _) .nil)))))) (.cons (.cons (.refl _) (.cons (.refl _) (.cons .emp (.cons (.refl _) (.cons (.refl _) (.cons .emp .nil)))))) .nil)))) (.cons (.refl _) .nil)), rfl, rfl⟩
end Go.Proofs.K
end
section
/- Ways through a tree: the law of Step. -/
set_option linter.unusedSimpArgs false
set_option linter.unusedVariables false
namespace Go.Proofs.K
open Go Go.Sim Go.Proofs
variable {G : Glob}
theorem eDoc_drop (d : HDoc) : (eDoc d).drop 2 = [] := rfl
end Go.Proofs.K
end
section
/- Ways through a tree: pairs of nodes, plain law. -/
set_option linter.unusedSimpArgs false
set_option linter.unusedVariables false
namespace Go.Proofs.K
open Go Go.Sim Go.Proofs
section
variable {d : HDoc}
def path (d : HDoc) (n : Int) : List Int := (chain d n).reverse
theorem path_len (V : DV d) {n : Int} (hn : inD d n) : (path d n).length = up d n + 1 := by unfold path; rw [List.length_reverse, chain_len V n hn]
theorem path_up (V : DV d) {n : Int} (hn : inD d n) (hp : 0 ≤ (nd d n).parent) : path d n = path d (nd d n).parent ++ [n] := by unfold path; rw [chain_up V hn hp, List.reverse_cons]
theorem path_top (V : DV d) {n : Int} (hp : ¬ 0 ≤ (nd d n).parent) : path d n = [n] := by unfold path; rw [chain_top V hp]; rfl
theorem nth_snoc_lt {l : List Int} {x : Int} {j : Nat} (h : j < l.length) : nth (l ++ [x]) j = nth l j := by
  unfold nth; rw [List.getD_eq_getElem?_getD, List.getElem?_append_left h, ← List.getD_eq_getElem?_getD]
theorem nth_snoc_eq {l : List Int} {x : Int} : nth (l ++ [x]) l.length = x := by simp [nth, List.getD_eq_getElem?_getD]
theorem path_at (V : DV d) : ∀ n, inD d n → ∀ j, j ≤ up d n → nth (path d n) j ∈ chain d n ∧ up d (nth (path d n) j) = j := V.rise fun n hn ih j hj => by
  by_cases hp : 0 ≤ (nd d n).parent
  · have hu := V.up_par hn hp
    have hl := path_len V (V.par_in hn hp).1
    rw [path_up V hn hp]
    by_cases h1 : j = up d n
    · have : j = (path d (nd d n).parent).length := by omega
      rw [this, nth_snoc_eq]; exact ⟨chain_self _ _, by omega⟩
    · obtain ⟨h2, h3⟩ := ih hp j (by omega)
      rw [nth_snoc_lt (by omega)]
      exact ⟨by rw [chain_up V hn hp]; exact List.mem_cons_of_mem _ h2, h3⟩
  · have hu := V.up_top hp
    obtain rfl : j = 0 := by omega
    rw [path_top V hp]; exact ⟨chain_self _ _, hu⟩
/-- where the ways down to two nodes part -/
structure Part (d : HDoc) (a b : Int) (i : Nat) : Prop where
  pos : 1 ≤ i
  la : i ≤ (path d a).length
  lb : i ≤ (path d b).length
  eq : ∀ j, j < i → nth (path d a) j = nth (path d b) j
  ne : ¬ (i < (path d a).length ∧ i < (path d b).length ∧ nth (path d a) i = nth (path d b) i)
variable {a b : Int} {i : Nat}
theorem Part.node (V : DV d) (ha : inD d a) (hb : inD d b) (p : Part d a b i) : nth (path d a) (i - 1) ∈ chain d a ∧ nth (path d a) (i - 1) ∈ chain d b ∧ up d (nth (path d a) (i - 1)) = i - 1 := by
  have h1 := path_at V a ha (i - 1) (by have := p.la; rw [path_len V ha] at this; omega)
  have h2 := path_at V b hb (i - 1) (by have := p.lb; rw [path_len V hb] at this; omega)
  exact ⟨h1.1, by rw [p.eq _ (by have := p.pos; omega)]; exact h2.1, h1.2⟩
end
end Go.Proofs.K
end
section
/- Ways through a tree: Before, Within, Common, Place. -/
set_option linter.unusedSimpArgs false
set_option linter.unusedVariables false
namespace Go.Proofs.K
open Go Go.Sim Go.Proofs
variable {G : Glob}
end Go.Proofs.K
end
section
/- Ways through a tree: the law of pairs. -/
set_option linter.unusedSimpArgs false
set_option linter.unusedVariables false
namespace Go.Proofs.K
open Go Go.Sim Go.Proofs
variable {G : Glob}
end Go.Proofs.K
end
section
/- Ranges: paths of points, their order. -/
set_option linter.unusedSimpArgs false
set_option linter.unusedVariables false
namespace Go.Proofs.K
open Go Go.Sim Go.Proofs
variable {G : Glob}
structure HPoint where
  node : Int
  at' : Int
deriving DecidableEq, Inhabited
def eP (p : HPoint) : List AVal := [aInt p.node, aInt p.at']
instance : LenE eP 2 := ⟨fun _ => rfl⟩
structure HSpan where
  a : HPoint
  b : HPoint
deriving DecidableEq, Inhabited
def eS (s : HSpan) : List AVal := [aInt s.a.node, aInt s.a.at', aInt s.b.node, aInt s.b.at']
instance : LenE eS 4 := ⟨fun _ => rfl⟩
end Go.Proofs.K
end
section
/- Ranges: points, spans: contracts. -/
set_option linter.unusedSimpArgs false
set_option linter.unusedVariables false
namespace Go.Proofs.K
open Go Go.Sim Go.Proofs
variable {G : Glob}
def roomM (d : HDoc) (n : Int) : Nat := if (nd d n).kind = 3 ∨ (nd d n).kind = 4 then (nd d n).text.length else (nd d n).kids.length
/-- the way down to a node, from below: which kid each one is -/
def rkey (d : HDoc) (n : Int) : List Int := ((chain d n).filter (fun m => decide (0 < m))).map fun m => 2 * idxM (· == m) (nd d (nd d m).parent).kids + 1
def key (d : HDoc) (p : HPoint) : List Int := (2 * p.at' :: rkey d p.node).reverse
section
variable {d : HDoc}
end
end Go.Proofs.K
end
section
/- Ranges: the order of points, plain law. -/
set_option linter.unusedSimpArgs false
set_option linter.unusedVariables false
namespace Go.Proofs.K
open Go Go.Sim Go.Proofs
/-! ## lists by their order -/
/-! ## all points of a tree, in their order -/
def textM (x : HNode) : List UInt8 := if x.kind = 5 then [] else x.text
def mkF : Nat → HDoc → Int → List HPoint
  | 0, _, n => [⟨n, 0⟩]
  | f + 1, d, n => ⟨n, 0⟩ :: ((List.range (nd d n).kids.length).flatMap (fun i => mkF f d (nth (nd d n).kids i) ++ [⟨n, (i : Int) + 1⟩]) ++ (List.range (textM (nd d n)).length).map fun i => ⟨n, (i : Int) + 1⟩)
def marks (d : HDoc) (n : Int) : List HPoint := mkF (41 - up d n) d n
section
variable {d : HDoc}
def pre (d : HDoc) (n : Int) : List Int := (rkey d n).reverse
def markM (d : HDoc) (p : HPoint) : Int := idxM (· == p) (marks d 0)
end
end Go.Proofs.K
end
section
/- Ranges: order, points, span, Check, Less; the reference's errors. -/
set_option linter.unusedSimpArgs false
set_option linter.unusedVariables false
namespace Go.Proofs.K
open Go Go.Sim Go.Proofs
variable {G : Glob}
end Go.Proofs.K
end
section
/- Ranges: the reference's marks, SpanErr. -/
set_option linter.unusedSimpArgs false
set_option linter.unusedVariables false
namespace Go.Proofs.K
open Go Go.Sim Go.Proofs
variable {G : Glob}
end Go.Proofs.K
end
section
/- Ranges: the tree's order, as a list. -/
set_option linter.unusedSimpArgs false
set_option linter.unusedVariables false
namespace Go.Proofs.K
open Go Go.Sim Go.Proofs
variable {G : Glob}
end Go.Proofs.K
end
section
/- Documents: what must be in any case; the law of checks. -/
set_option linter.unusedSimpArgs false
set_option linter.unusedVariables false
namespace Go.Proofs.K
open Go Go.Sim Go.Proofs
variable {G : Glob}
end Go.Proofs.K
end
section
/- Edits: the law of DomEdits. -/
set_option linter.unusedSimpArgs false
set_option linter.unusedVariables false
namespace Go.Proofs.K
open Go Go.Sim Go.Proofs
variable {G : Glob}
end Go.Proofs.K
end
section
/- Edits one after another: the reference; the law of DomAll. -/
set_option linter.unusedSimpArgs false
set_option linter.unusedVariables false
namespace Go.Proofs.K
open Go Go.Sim Go.Proofs
variable {G : Glob}
def c19 : SFun := ⟨(.seq (.reg [⟨(some 2), (.box 24 2 (.t 0)), none⟩, ⟨(some 4), (.new 24 2 [.emp, (.bool false)]), none⟩, ⟨(some 5), (.mv (.c (.int .i64 (0)))), none⟩, ⟨(some 6), (.mv (.c (.int .i64 (0)))), none⟩]) (.seq (.reg [⟨(some 12), (.ld 2 true (.t 2)), none⟩, ⟨(some 13), (.pcall 48 [(.t 12)]), none⟩, ⟨(some 7), (.mv (.t 13)), none⟩]) (.seq (.seq (.reg [⟨(some 14), (.mv (.t 7)), none⟩, ⟨(some 15), (.bin .eql (.t 14) (.c (.int .i64 (0)))), none⟩, ⟨(some 16), (.mv (.t 15)), none⟩, ⟨(some 17), (.mv (.t 1)), (some (16, true))⟩, ⟨(some 18), (.len (.t 17)), (some (16, true))⟩, ⟨(some 19), (.bin .gtr (.t 18) (.c (.int .i64 (40)))), (some (16, true))⟩, ⟨(some 20), (.pick (.t 16) (.t 19) (.c (.bool false))), none⟩]) (.cond (.t 20) (.reg [⟨(some 7), (.mv (.c (.int .i64 (2)))), none⟩]) .skip)) (.seq (.seq (.reg [⟨(some 21), (.mv (.t 7)), none⟩, ⟨(some 22), (.bin .neq (.t 21) (.c (.int .i64 (0)))), none⟩]) (.cond (.t 22) (.seq (.reg [⟨(some 23), (.bld [.emp, (.bool false)] []), none⟩, ⟨(some 24), (.mv (.t 7)), none⟩, ⟨none, (.st 2 (.t 4) (.t 23)), none⟩, ⟨(some 5), (.mv (.c (.int .i64 (0)))), none⟩, ⟨(some 6), (.mv (.t 24)), none⟩]) .ret) .skip)) (.seq (.seq (.reg [⟨(some 8), (.mv (.c (.int .i64 (0)))), none⟩]) (.block 0 (.loop (.seq (.seq (.reg [⟨(some 25), (.mv (.t 8)), none⟩, ⟨(some 26), (.mv (.t 1)), none⟩, ⟨(some 27), (.len (.t 26)), none⟩, ⟨(some 28), (.bin .lss (.t 25) (.t 27)), none⟩]) (.cond (.t 28) .skip (.exit 0))) (.seq (.block 1 (.seq (.dreg [(⟨(some 32), (.ld 2 true (.t 2)), none⟩, none), (⟨(some 33), (.mv (.t 1)), none⟩, none), (⟨(some 34), (.mv (.t 8)), none⟩, none), (⟨(some 35), (.idxA 12 (.t 33) (.t 34)), none⟩, none), (⟨(some 36), (.ld 12 true (.t 35)), none⟩, none), (⟨(some 37), (.pcall 26 [(.t 32), (.t 36)]), none⟩, none), (⟨(some 31), (.mv (.t 37)), none⟩, none), (⟨(some 38), (.ext (.t 31) 0), none⟩, none), (⟨(some 39), (.ext (.t 31) 1), none⟩, none), (⟨(some 40), (.ext (.t 31) 2), none⟩, none), (⟨(some 9), (.new 24 2 [.emp, (.bool false)]), none⟩, (some [])), (⟨none, (.st 2 (.t 9) (.t 38)), none⟩, (some [32, 36])), (⟨(some 10), (.mv (.t 39)), none⟩, none), (⟨(some 11), (.mv (.t 40)), none⟩, none)]) (.seq (.seq (.reg [⟨(some 41), (.mv (.t 11)), none⟩, ⟨(some 42), (.bin .neq (.t 41) (.c (.int .i64 (0)))), none⟩]) (.cond (.t 42) (.seq (.reg [⟨(some 43), (.bld [.emp, (.bool false)] []), none⟩, ⟨(some 44), (.mv (.t 8)), none⟩, ⟨(some 45), (.mv (.t 11)), none⟩, ⟨none, (.st 2 (.t 4) (.t 43)), none⟩, ⟨(some 5), (.mv (.t 44)), none⟩, ⟨(some 6), (.mv (.t 45)), none⟩]) .ret) .skip)) (.reg [⟨(some 46), (.ld 2 true (.t 9)), none⟩, ⟨none, (.st 2 (.t 2) (.t 46)), none⟩])))) (.reg [⟨(some 29), (.mv (.t 8)), none⟩, ⟨(some 30), (.bin .add (.t 29) (.c (.int .i64 (1)))), none⟩, ⟨(some 8), (.mv (.t 30)), none⟩])))))) (.seq (.reg [⟨(some 47), (.ld 2 true (.t 2)), none⟩, ⟨none, (.st 2 (.t 4) (.t 47)), none⟩, ⟨(some 5), (.mv (.c (.int .i64 (0)))), none⟩, ⟨(some 6), (.mv (.c (.int .i64 (0)))), none⟩]) .ret)))))), [(.cell 4 2 true), (.tmp 5), (.tmp 6)]⟩
theorem hc19 : toSF Tryz.prog {pure := [48, 26], how := [(2, 6)]} Tryz.f19 = some c19 := by kernel_rfl
theorem hn19 : (Tryz.f19.name == "runtime.NumGoroutine") = false := by kernel_rfl
set_option maxHeartbeats 1000000 in
theorem editedAll_ok (d : HDoc) (sm : DocSm d) (l : List HEdit) (hl : ∀ e ∈ l, EditSm e) (ll : l.length ≤ 1073741824) : PCalls (Pg G) 19 [.agg (eDoc d), sl eEdit l] (allV (allM d l)) := PCalls.outV fun h => by
  have hC := docErr_ok (G := G) d sm
  refine dcalls_of_vc Tryz.func19 hn19 hc19 (by rw [Tryz.ntmps19]; simp) (by rw [Tryz.ntmps19]; decide) ?_
  simp -dsimp -implicitDefEqProofs (disch := omega) only [VCA, ↓upd_none, Nat.reduceEqDiff, ↓reduceIte, ne_eq, c19, eDoc_len]
  intro r2 hr2 r4 hr4
  have m1 : ¬ r4 = r2 := hr4.1
  have m2 : ¬ r2 = r4 := fun h => m1 h.symm
  have S4 : ∀ x y, Sim.Sub h (upd (upd h r2 (some x)) r4 (some y)) := fun x y => ((Sub.refl h).upd hr2).upd hr4.2
  have nd0 := vw_noDoc
  by_cases h1 : docE d = 0
  · have V := docE_DV h1
    rw [h1] at hC
    by_cases h40 : 40 < l.length
    · have aM : allM d l = (noDoc, 0, 2) := by unfold allM; rw [if_neg (by simpa using h1), if_pos h40]
      rw [aM]
      repeat' (first | ((with_reducible refine Br.dec (fun _ => ?_) (fun _ => ?_)) <;> try (exfalso; omega)) | ((with_reducible refine Br.eq (fun _ => ?_) (fun _ => ?_)) <;> try (exfalso; omega)) | ((with_reducible refine Br.ne (fun _ => ?_) (fun _ => ?_)) <;> try (exfalso; omega)) | ((with_reducible refine brNdec (fun _ => ?_) (fun _ => ?_)) <;> try (exfalso; omega)) | ((with_reducible refine brNeq (fun _ => ?_) (fun _ => ?_)) <;> try (exfalso; omega)) | with_reducible refine Br.intro (fun _ => ?_) (fun _ => ?_) | (with_reducible apply pcallE.of; · exact hC) | (with_reducible refine And.intro ?_ ?_; · omega) | simp -dsimp -implicitDefEqProofs (disch := omega) only [↓vcOps_sp 16, VCA, Nat.reduceEqDiff, Nat.reduceAdd, Nat.reduceLT, ↓reduceIte, fillA, okFill, setAt, exists_eq_left', eDoc_len, eDoc_take, m2])
      exact ⟨_, Sub.refl _, S4 _ _, .tup' (.cons (vw_noDoc _) (.cons (.refl _) (.cons (.refl _) .nil)))⟩
    · have aM : allM d l = runM d l 0 := by unfold allM; rw [if_neg (by simpa using h1), if_neg h40]
      rw [aM]
      repeat' (first | ((with_reducible refine Br.dec (fun _ => ?_) (fun _ => ?_)) <;> try (exfalso; omega)) | ((with_reducible refine Br.eq (fun _ => ?_) (fun _ => ?_)) <;> try (exfalso; omega)) | ((with_reducible refine Br.ne (fun _ => ?_) (fun _ => ?_)) <;> try (exfalso; omega)) | ((with_reducible refine brNdec (fun _ => ?_) (fun _ => ?_)) <;> try (exfalso; omega)) | ((with_reducible refine brNeq (fun _ => ?_) (fun _ => ?_)) <;> try (exfalso; omega)) | with_reducible refine Br.intro (fun _ => ?_) (fun _ => ?_) | (with_reducible apply pcallE.of; · exact hC) | (with_reducible refine And.intro ?_ ?_; · omega) | simp -dsimp -implicitDefEqProofs (disch := omega) only [↓vcOps_sp 16, VCA, Nat.reduceEqDiff, Nat.reduceLT, ↓reduceIte, exists_eq_left', eDoc_len, eDoc_take, m2])
      refine LoopVC.intro (fun m e h' => ∃ (k : Nat) (D : HDoc), k ≤ l.length ∧ m = l.length - k ∧ e 1 = sl eEdit l ∧ e 2 = .vp r2 0 ∧ e 4 = .vp r4 0 ∧ e 8 = aInt k ∧ h' r2 = some ⟨.t 24, 2, [eDoc D]⟩ ∧ h' r4 = some ⟨.t 24, 2, [[.emp, .bool false]]⟩ ∧ Sub h h' ∧ DV D ∧ DocSm D ∧ runM D (l.drop k) k = runM d l 0) l.length
        ⟨0, d, by omega, by omega, rfl, rfl, rfl, rfl, by rw [upd_ne _ _ m2, upd_same], upd_same _ _ _, S4 _ _, V, sm, rfl⟩ ?_
      rintro m e h' ⟨k, D, hk, rfl, e1, e2, e4, e8, g2, g4, S, W, smD, hr⟩
      simp -dsimp -implicitDefEqProofs (disch := omega) only [VCA, Nat.reduceEqDiff, ↓reduceIte, e1, e8]
      refine Br.dec (fun hlt => ?_) (fun hge => ?_)
      · have hk' : k < l.length := by omega
        rw [runM_cons hk'] at hr
        have hx := hl _ (nth_mem' hk')
        obtain ⟨x, hxx⟩ : ∃ x, nth l k = x := ⟨_, rfl⟩
        rw [hxx] at hr hx
        have hE := edited_ok (G := G) D W smD x hx
        unfold edR at hE
        simp -dsimp -implicitDefEqProofs (disch := omega) only [VCA, Nat.reduceEqDiff, Nat.reduceLT, ↓reduceIte, rsOf, rootsOf, exists_eq_left', rootL, e1, e2, e8, g2, hxx, eEdit_len', eEdit_take', eDoc_len, eDoc_take]
        refine ⟨by omega, ?_⟩
        by_cases h0 : applyE D x = 0
        · rw [if_neg (by simpa using h0)] at hr
          rw [h0] at hE
          obtain ⟨W2, sm2, _, _⟩ := apply_step W smD hx h0
          repeat' (first | ((with_reducible refine Br.dec (fun _ => ?_) (fun _ => ?_)) <;> try (exfalso; omega)) | ((with_reducible refine Br.eq (fun _ => ?_) (fun _ => ?_)) <;> try (exfalso; omega)) | ((with_reducible refine Br.ne (fun _ => ?_) (fun _ => ?_)) <;> try (exfalso; omega)) | ((with_reducible refine brNdec (fun _ => ?_) (fun _ => ?_)) <;> try (exfalso; omega)) | ((with_reducible refine brNeq (fun _ => ?_) (fun _ => ?_)) <;> try (exfalso; omega)) | with_reducible refine Br.intro (fun _ => ?_) (fun _ => ?_) | (with_reducible apply pcallE.of; · exact hE) | (with_reducible refine And.intro ?_ ?_; · omega) | simp -dsimp -implicitDefEqProofs (disch := omega) only [VCA, Nat.reduceEqDiff, Nat.reduceBEq, Nat.reduceAdd, Nat.reduceLT, ↓reduceIte, rsOf, rootsOf, SOp.rd, SI.rd, SX.rd, setAt, forall_const, exists_eq_left', rootL, g2, eDoc_len])
          intro r9 hr9
          have k2 : ¬ r2 = r9 := fun e => by rw [← e, g2] at hr9; cases hr9
          have k4 : ¬ r4 = r9 := fun e => by rw [← e, g4] at hr9; cases hr9
          have k2' : ¬ r9 = r2 := fun e => k2 e.symm
          have k4' : ¬ r9 = r4 := fun e => k4 e.symm
          have n0 : ((0 : Int) != 0) = false := rfl
          repeat' (first | ((with_reducible refine Br.dec (fun _ => ?_) (fun _ => ?_)) <;> try (exfalso; omega)) | ((with_reducible refine Br.eq (fun _ => ?_) (fun _ => ?_)) <;> try (exfalso; omega)) | ((with_reducible refine Br.ne (fun _ => ?_) (fun _ => ?_)) <;> try (exfalso; omega)) | ((with_reducible refine brNdec (fun _ => ?_) (fun _ => ?_)) <;> try (exfalso; omega)) | ((with_reducible refine brNeq (fun _ => ?_) (fun _ => ?_)) <;> try (exfalso; omega)) | with_reducible refine Br.intro (fun _ => ?_) (fun _ => ?_) | (with_reducible refine And.intro ?_ ?_; · omega) | simp -dsimp -implicitDefEqProofs (disch := omega) only [VCA, Nat.reduceEqDiff, Nat.reduceLT, ↓reduceIte, setAt, exists_eq_left', e1, e2, e4, e8, g2, g4, eDoc_len, eDoc_take, eDoc_dr, k2, k4, n0])
          all_goals try (exfalso; omega)
          refine ⟨_, by omega, k + 1, applyD D x, by omega, rfl, by omega, rfl, by rw [if_neg m1], (S.upd (S.none hr9)).upd hr2, W2, sm2, by rw [← hr]; congr 1⟩
        · rw [if_pos h0] at hr
          repeat' (first | ((with_reducible refine Br.dec (fun _ => ?_) (fun _ => ?_)) <;> try (exfalso; omega)) | ((with_reducible refine Br.eq (fun _ => ?_) (fun _ => ?_)) <;> try (exfalso; omega)) | ((with_reducible refine Br.ne (fun _ => ?_) (fun _ => ?_)) <;> try (exfalso; omega)) | ((with_reducible refine brNdec (fun _ => ?_) (fun _ => ?_)) <;> try (exfalso; omega)) | ((with_reducible refine brNeq (fun _ => ?_) (fun _ => ?_)) <;> try (exfalso; omega)) | with_reducible refine Br.intro (fun _ => ?_) (fun _ => ?_) | (with_reducible apply pcallE.of; · exact hE) | (with_reducible refine And.intro ?_ ?_; · omega) | simp -dsimp -implicitDefEqProofs (disch := omega) only [VCA, Nat.reduceEqDiff, Nat.reduceBEq, Nat.reduceAdd, Nat.reduceLT, ↓reduceIte, rsOf, rootsOf, SOp.rd, SI.rd, SX.rd, setAt, forall_const, exists_eq_left', rootL, g2, eDoc_len])
          intro r9 hr9
          have k2 : ¬ r2 = r9 := fun e => by rw [← e, g2] at hr9; cases hr9
          have k4 : ¬ r4 = r9 := fun e => by rw [← e, g4] at hr9; cases hr9
          have k2' : ¬ r9 = r2 := fun e => k2 e.symm
          have k4' : ¬ r9 = r4 := fun e => k4 e.symm
          have n0 : ((0 : Int) != 0) = false := rfl
          repeat' (first | ((with_reducible refine Br.dec (fun _ => ?_) (fun _ => ?_)) <;> try (exfalso; omega)) | ((with_reducible refine Br.eq (fun _ => ?_) (fun _ => ?_)) <;> try (exfalso; omega)) | ((with_reducible refine Br.ne (fun _ => ?_) (fun _ => ?_)) <;> try (exfalso; omega)) | ((with_reducible refine brNdec (fun _ => ?_) (fun _ => ?_)) <;> try (exfalso; omega)) | ((with_reducible refine brNeq (fun _ => ?_) (fun _ => ?_)) <;> try (exfalso; omega)) | with_reducible refine Br.intro (fun _ => ?_) (fun _ => ?_) | (with_reducible refine And.intro ?_ ?_; · omega) | simp -dsimp -implicitDefEqProofs (disch := omega) only [VCA, Nat.reduceEqDiff, Nat.reduceAdd, Nat.reduceLT, ↓reduceIte, fillA, okFill, setAt, exists_eq_left', e4, e8, g4, k2, k4])
          all_goals try (exfalso; omega)
          rw [← hr]
          exact ⟨_, Sub.refl _, (S.upd (S.none hr9)).upd hr4.2, .tup' (.cons (vw_noDoc _) (.cons (.refl _) (.cons (.refl _) .nil)))⟩
      · obtain rfl : k = l.length := by omega
        rw [List.drop_length, runM] at hr
        rw [← hr]
        simp -dsimp -implicitDefEqProofs (disch := omega) only [VCA, Nat.reduceEqDiff, Nat.reduceAdd, Nat.reduceLT, ↓reduceIte, setAt, exists_eq_left', e2, e4, g2, g4, eDoc_len, eDoc_take]
        exact ⟨_, Sub.refl _, S.upd hr4.2, .tup' (.cons (.refl _) (.cons (.refl _) (.cons (.refl _) .nil)))⟩
  · have aM : allM d l = (noDoc, 0, docE d) := by unfold allM; rw [if_pos h1]
    rw [aM]
    repeat' (first | ((with_reducible refine Br.dec (fun _ => ?_) (fun _ => ?_)) <;> try (exfalso; omega)) | ((with_reducible refine Br.eq (fun _ => ?_) (fun _ => ?_)) <;> try (exfalso; omega)) | ((with_reducible refine Br.ne (fun _ => ?_) (fun _ => ?_)) <;> try (exfalso; omega)) | ((with_reducible refine brNdec (fun _ => ?_) (fun _ => ?_)) <;> try (exfalso; omega)) | ((with_reducible refine brNeq (fun _ => ?_) (fun _ => ?_)) <;> try (exfalso; omega)) | with_reducible refine Br.intro (fun _ => ?_) (fun _ => ?_) | (with_reducible apply pcallE.of; · exact hC) | (with_reducible refine And.intro ?_ ?_; · omega) | simp -dsimp -implicitDefEqProofs (disch := omega) only [↓vcOps_sp 16, VCA, Nat.reduceEqDiff, Nat.reduceAdd, Nat.reduceLT, ↓reduceIte, fillA, okFill, setAt, exists_eq_left', eDoc_len, eDoc_take, m2])
    exact ⟨_, Sub.refl _, S4 _ _, .tup' (.cons (vw_noDoc _) (.cons (.refl _) (.cons (.refl _) .nil)))⟩
end Go.Proofs.K
end
section
/- Ranges: text: contracts. -/
set_option linter.unusedSimpArgs false
set_option linter.unusedVariables false
namespace Go.Proofs.K
open Go Go.Sim Go.Proofs
variable {G : Glob}
end Go.Proofs.K
end
section
/- Ranges: text, plain law: node by node, or mark by mark. -/
set_option linter.unusedSimpArgs false
set_option linter.unusedVariables false
namespace Go.Proofs.K
open Go Go.Sim Go.Proofs
section
variable {d : HDoc}
end
end Go.Proofs.K
end
section
/- Ranges: text, mark by mark: plain law. -/
set_option linter.unusedSimpArgs false
set_option linter.unusedVariables false
namespace Go.Proofs.K
open Go Go.Sim Go.Proofs
section
variable {d : HDoc}
end
end Go.Proofs.K
end
section
/- Ranges: the reference's text; short documents. -/
set_option linter.unusedSimpArgs false
set_option linter.unusedVariables false
namespace Go.Proofs.K
open Go Go.Sim Go.Proofs
variable {G : Glob}
end Go.Proofs.K
end
section
/- Ranges: short documents; what is cut. -/
set_option linter.unusedSimpArgs false
set_option linter.unusedVariables false
namespace Go.Proofs.K
open Go Go.Sim Go.Proofs
variable {G : Glob}
end Go.Proofs.K
end
section
/- Ranges: what is cut: contracts. -/
set_option linter.unusedSimpArgs false
set_option linter.unusedVariables false
namespace Go.Proofs.K
open Go Go.Sim Go.Proofs
variable {G : Glob}
/-! ## the cut -/
def zE (do' at' : Int) (v : List UInt8) : HEdit := ⟨do', at', 0, 0, [], v, ⟨0, [], [], [], 0, []⟩⟩
section
variable {d : HDoc}
end
end Go.Proofs.K
end
section
/- Ranges: Cut; what must be in any case; the law of points. -/
set_option linter.unusedSimpArgs false
set_option linter.unusedVariables false
namespace Go.Proofs.K
open Go Go.Sim Go.Proofs
variable {G : Glob}
/-! ## what must be in any case -/
/-! ## the law of points -/
end Go.Proofs.K
end
section
/- Ranges: what is cut: plain law. -/
set_option linter.unusedSimpArgs false
set_option linter.unusedVariables false
namespace Go.Proofs.K
open Go Go.Sim Go.Proofs
section
variable {d : HDoc}
/-- lies a node between the two points? -/
def liesM (d : HDoc) (s : HSpan) (n : Int) : Prop :=
  0 ≤ (nd d n).parent ∧ n ∉ chain d s.a.node ∧ n ∉ chain d s.b.node ∧ markM d s.a ≤ markM d ⟨(nd d n).parent, idxM (· == n) (nd d (nd d n).parent).kids⟩ ∧ markM d ⟨(nd d n).parent, idxM (· == n) (nd d (nd d n).parent).kids + 1⟩ ≤ markM d s.b
instance (d : HDoc) (s : HSpan) (n : Int) : Decidable (liesM d s n) := by unfold liesM; infer_instance
end
end Go.Proofs.K
end
section
/- Ranges: the reference's cut; the law of cuts. -/
set_option linter.unusedSimpArgs false
set_option linter.unusedVariables false
namespace Go.Proofs.K
open Go Go.Sim Go.Proofs
variable {G : Glob}
end Go.Proofs.K
end
section
/- Lists of edits: are they one? The law of cuts. -/
set_option linter.unusedSimpArgs false
set_option linter.unusedVariables false
namespace Go.Proofs.K
open Go Go.Sim Go.Proofs
variable {G : Glob}
def c44 : SFun := ⟨(.seq (.reg [⟨(some 2), (.boxF 42 12 (.t 0)), none⟩, ⟨(some 3), (.boxF 42 12 (.t 1)), none⟩, ⟨(some 4), (.mv (.c (.bool false))), none⟩]) (.seq (.reg [⟨(some 5), (.fldA 0 (.t 2)), none⟩, ⟨(some 6), (.ld 1 false (.t 5)), none⟩, ⟨(some 7), (.fldA 0 (.t 3)), none⟩, ⟨(some 8), (.ld 1 false (.t 7)), none⟩, ⟨(some 9), (.bin .eql (.t 6) (.t 8)), none⟩, ⟨(some 10), (.mv (.t 9)), none⟩, ⟨(some 11), (.fldA 1 (.t 2)), (some (10, true))⟩, ⟨(some 12), (.ld 1 false (.t 11)), (some (10, true))⟩, ⟨(some 13), (.fldA 1 (.t 3)), (some (10, true))⟩, ⟨(some 14), (.ld 1 false (.t 13)), (some (10, true))⟩, ⟨(some 15), (.bin .eql (.t 12) (.t 14)), (some (10, true))⟩, ⟨(some 16), (.pick (.t 10) (.t 15) (.c (.bool false))), none⟩, ⟨(some 17), (.mv (.t 16)), none⟩, ⟨(some 18), (.fldA 2 (.t 2)), (some (17, true))⟩, ⟨(some 19), (.ld 1 false (.t 18)), (some (17, true))⟩, ⟨(some 20), (.fldA 2 (.t 3)), (some (17, true))⟩, ⟨(some 21), (.ld 1 false (.t 20)), (some (17, true))⟩, ⟨(some 22), (.bin .eql (.t 19) (.t 21)), (some (17, true))⟩, ⟨(some 23), (.pick (.t 17) (.t 22) (.c (.bool false))), none⟩, ⟨(some 24), (.mv (.t 23)), none⟩, ⟨(some 25), (.fldA 3 (.t 2)), (some (24, true))⟩, ⟨(some 26), (.ld 1 false (.t 25)), (some (24, true))⟩, ⟨(some 27), (.fldA 3 (.t 3)), (some (24, true))⟩, ⟨(some 28), (.ld 1 false (.t 27)), (some (24, true))⟩, ⟨(some 29), (.bin .eql (.t 26) (.t 28)), (some (24, true))⟩, ⟨(some 30), (.pick (.t 24) (.t 29) (.c (.bool false))), none⟩, ⟨(some 31), (.mv (.t 30)), none⟩, ⟨(some 32), (.fldA 4 (.t 2)), (some (31, true))⟩, ⟨(some 33), (.ld 1 false (.t 32)), (some (31, true))⟩, ⟨(some 34), (.fldA 4 (.t 3)), (some (31, true))⟩, ⟨(some 35), (.ld 1 false (.t 34)), (some (31, true))⟩, ⟨(some 36), (.bin .eql (.t 33) (.t 35)), (some (31, true))⟩, ⟨(some 37), (.pick (.t 31) (.t 36) (.c (.bool false))), none⟩, ⟨(some 38), (.mv (.t 37)), none⟩, ⟨(some 39), (.fldA 5 (.t 2)), (some (38, true))⟩, ⟨(some 40), (.ld 1 false (.t 39)), (some (38, true))⟩, ⟨(some 41), (.fldA 5 (.t 3)), (some (38, true))⟩, ⟨(some 42), (.ld 1 false (.t 41)), (some (38, true))⟩, ⟨(some 43), (.bin .eql (.t 40) (.t 42)), (some (38, true))⟩, ⟨(some 44), (.pick (.t 38) (.t 43) (.c (.bool false))), none⟩, ⟨(some 45), (.mv (.t 44)), none⟩, ⟨(some 46), (.fldA 6 (.t 2)), (some (45, true))⟩, ⟨(some 47), (.ld 6 true (.t 46)), (some (45, true))⟩, ⟨(some 48), (.fldA 6 (.t 3)), (some (45, true))⟩, ⟨(some 49), (.ld 6 true (.t 48)), (some (45, true))⟩, ⟨(some 50), (.pcall 43 [(.t 47), (.t 49)]), (some (45, true))⟩, ⟨(some 51), (.pick (.t 45) (.t 50) (.c (.bool false))), none⟩, ⟨(some 4), (.mv (.t 51)), none⟩]) .ret)), [(.tmp 4)]⟩
theorem hc44 : toSF Tryz.prog {pure := [43]} Tryz.f44 = some c44 := by kernel_rfl
theorem hn44 : (Tryz.f44.name == "runtime.NumGoroutine") = false := by kernel_rfl
theorem sameEdit_ok (x y : HEdit) (hx : NodeSm x.node) (hy : NodeSm y.node) : PCalls (Pg G) 44 [.agg (eEdit x), .agg (eEdit y)] (.bool (x == y)) := fun h => by
  have key : (x == y) = (x.do' == y.do' && (x.at' == y.at' && (x.to == y.to && (x.before == y.before && (x.name == y.name && (x.value == y.value && x.node == y.node)))))) := by
    cases x; cases y; rw [Bool.eq_iff_iff]; simp
  have hN := sameNode_ok (G := G) x.node y.node hx hy
  unfold eNode at hN
  refine dcalls_of_vc Tryz.func44 hn44 hc44 (by rw [Tryz.ntmps44]; simp) (by rw [Tryz.ntmps44]; decide) ?_
  simp -dsimp -implicitDefEqProofs (disch := omega) only [↓vcOps_sp 10, VCA, Nat.reduceEqDiff, Nat.reduceAdd, Nat.reduceLeDiff, ↓reduceIte, c44, eEdit]
  repeat' (first | ((with_reducible refine Br.dec (fun _ => ?_) (fun _ => ?_)) <;> try (exfalso; omega)) | ((with_reducible refine Br.eq (fun _ => ?_) (fun _ => ?_)) <;> try (exfalso; omega)) | ((with_reducible refine Br.ne (fun _ => ?_) (fun _ => ?_)) <;> try (exfalso; omega)) | ((with_reducible refine brNdec (fun _ => ?_) (fun _ => ?_)) <;> try (exfalso; omega)) | ((with_reducible refine brNeq (fun _ => ?_) (fun _ => ?_)) <;> try (exfalso; omega)) | with_reducible refine Br.intro (fun _ => ?_) (fun _ => ?_) | (with_reducible apply pcallE.of; · exact hN) | (with_reducible refine And.intro ?_ ?_; · omega) | simp -dsimp -implicitDefEqProofs (disch := omega) only [↓vcOps_sp 17, ↓vcOps_sp 24, ↓vcOps_sp 31, ↓vcOps_sp 38, ↓vcOps_sp 45, VCA, Nat.reduceEqDiff, Nat.reduceAdd, Nat.reduceLeDiff, ↓reduceIte, exists_eq_right_right])
  all_goals (refine ⟨Sub.refl _, ?_⟩; rw [key]; simp_all)
/-- edits without a node -/
def noNode (e : HEdit) : Prop := e.node = ⟨0, [], [], [], 0, []⟩
theorem noNode.bare {e : HEdit} (h : noNode e) : bareE e := by unfold noNode at h; unfold bareE; rw [h]; exact ⟨rfl, rfl⟩
theorem noNode.sm {e : HEdit} (h : noNode e) : NodeSm e.node := by unfold noNode at h; rw [h]; exact ⟨by simp, by simp, (fun a ha => by cases ha), by simp, by simp⟩
end Go.Proofs.K
end
section
/- Steps: what was edited (plain). -/
set_option linter.unusedSimpArgs false
set_option linter.unusedVariables false
namespace Go.Proofs.K
open Go Go.Sim Go.Proofs
structure HStep where
  edit : HEdit
  had : Bool
  was : List UInt8
  parent : Int
  place : Int
deriving DecidableEq, Inhabited
def eStep (s : HStep) : List AVal := [aInt s.edit.do', aInt s.edit.at', aInt s.edit.to, aInt s.edit.before, .str s.edit.name, .str s.edit.value, aInt s.edit.node.kind, .str s.edit.node.name, sl eAttr s.edit.node.attrs, .str s.edit.node.text, aInt s.edit.node.parent, sl eInt s.edit.node.kids, .bool s.had, .str s.was, aInt s.parent, aInt s.place]
instance : LenE eStep 16 := ⟨fun _ => rfl⟩
structure StepSm (s : HStep) : Prop where
  edit : EditSm s.edit
  was : s.was.length ≤ 1073741824
theorem eStep_len (s : HStep) : (eStep s).length = 16 := rfl
theorem eStep_all (s : HStep) : (eStep s).take 16 = eStep s := rfl
/-- what a step is noted as -/
def stepM (d : HDoc) (e : HEdit) : HStep :=
  if e.do' = 4 then ⟨e, false, [], 0, d.nodes.length⟩
  else if e.do' = 1 ∨ e.do' = 2 then (if 0 ≤ attrAt (nd d e.at').attrs e.name then ⟨e, true, (nth (nd d e.at').attrs (attrAt (nd d e.at').attrs e.name).toNat).value, 0, attrAt (nd d e.at').attrs e.name⟩ else ⟨e, false, [], 0, 0⟩)
  else if e.do' = 3 then ⟨e, false, (nd d e.at').text, 0, 0⟩
  else if e.do' = 5 then ⟨e, false, [], -1, insAt d e⟩
  else ⟨e, false, [], (nd d e.at').parent, idxM (· == e.at') (nd d (nd d e.at').parent).kids⟩
def recM : HDoc → List HEdit → List HStep
  | _, [] => []
  | d, e :: l => stepM d e :: recM (applyD d e) l
theorem recM_cons {d : HDoc} {l : List HEdit} {k : Nat} (hk : k < l.length) : recM d (l.drop k) = stepM d (nth l k) :: recM (applyD d (nth l k)) (l.drop (k + 1)) := by
  have : l.drop k = nth l k :: l.drop (k + 1) := by
    have e : nth l k = l[k] := by unfold nth; rw [List.getD_eq_getElem?_getD, List.getElem?_eq_getElem hk]; rfl
    rw [e, List.getElem_cons_drop]
  rw [this, recM]
theorem recM_len : ∀ (l : List HEdit) (d : HDoc), (recM d l).length = l.length
  | [], d => rfl
  | e :: l, d => by rw [recM, List.length_cons, recM_len l, List.length_cons]
theorem stepM_sm {d : HDoc} (sm : DocSm d) {e : HEdit} (he : EditSm e) : StepSm (stepM d e) := by
  unfold stepM
  split
  · exact ⟨he, Nat.zero_le _⟩
  split
  · split
    · refine ⟨he, ?_⟩
      by_cases h : (attrAt (nd d e.at').attrs e.name).toNat < (nd d e.at').attrs.length
      · exact ((sm.nd e.at').each _ (nth_mem' h)).2
      · rw [nth_def h]; exact Nat.zero_le _
    · exact ⟨he, Nat.zero_le _⟩
  split
  · exact ⟨he, (sm.nd e.at').text⟩
  split
  · exact ⟨he, Nat.zero_le _⟩
  · exact ⟨he, Nat.zero_le _⟩
theorem runM_ok {d : HDoc} {e : HEdit} {l : List HEdit} {i : Int} (h : (runM d (e :: l) i).2.2 = 0) : applyE d e = 0 := by
  apply Classical.byContradiction; intro hn
  rw [runM, if_pos hn] at h
  exact hn h
theorem recM_sm : ∀ (l : List HEdit) (d : HDoc) (i : Int), DV d → DocSm d → (∀ e ∈ l, EditSm e) → (runM d l i).2.2 = 0 → ∀ s ∈ recM d l, StepSm s
  | [], d, i, V, sm, hl, h0, s, hs => by cases hs
  | e :: l, d, i, V, sm, hl, h0, s, hs => by
    have hz := runM_ok h0
    have hA := apply_step V sm (hl e List.mem_cons_self) hz
    rw [recM] at hs
    rw [runM, if_neg (by simpa using hz)] at h0
    rcases List.mem_cons.1 hs with rfl | hs
    · exact stepM_sm sm (hl e List.mem_cons_self)
    · exact recM_sm l _ _ hA.1 hA.2.1 (fun x hx => hl x (List.mem_cons_of_mem _ hx)) h0 s hs
theorem allM_zero {d : HDoc} {l : List HEdit} (h : (allM d l).2.2 = 0) : docE d = 0 ∧ l.length ≤ 40 ∧ allM d l = runM d l 0 := by
  unfold allM at h ⊢
  split at h
  · rename_i h1; exact absurd h h1
  · rename_i h1
    split at h
    · cases h
    · rename_i h2
      rw [if_neg h1, if_neg h2]
      exact ⟨Classical.not_not.1 h1, by omega, rfl⟩
theorem allM_nil {d : HDoc} (h : docE d = 0) : allM d [] = (d, 0, 0) := by
  unfold allM; rw [if_neg (by simpa using h), if_neg (by simp)]; rfl
/-- what Do answers -/
def doV (d : HDoc) (l : List HEdit) : AVal :=
  if (allM d l).2.2 = 0 then .tup [.agg (eDoc (allM d l).1), sl eStep (recM d l), aInt 0, aInt 0] else .tup [.agg (eDoc noDoc), sl eStep [], aInt (allM d l).2.1, aInt (allM d l).2.2]
end Go.Proofs.K
end
section
/- Steps: places, names (plain). -/
set_option linter.unusedSimpArgs false
set_option linter.unusedVariables false
namespace Go.Proofs.K
open Go Go.Sim Go.Proofs
theorem idx_put {l : List Int} {i : Nat} {t : Int} (hi : i ≤ l.length) (ht : t ∉ l) : idxM (· == t) (l.take i ++ t :: l.drop i) = i := by
  refine idxM_some (by rw [ins_len l i t hi]; omega) (fun j hj => ?_) ?_
  · rw [ins_nth l i t hi, if_pos hj]
    have : nth l j ≠ t := fun e => ht (e ▸ nth_mem' (by omega))
    simpa using this
  · rw [ins_nth l i t hi, if_neg (by omega), if_pos rfl]; simp
theorem name_once {l : List HAttr} (hn : (l.map (·.name)).Nodup) {i j : Nat} (hij : i < j) (hj : j < l.length) : (nth l i).name ≠ (nth l j).name := by
  have h := List.pairwise_iff_getElem.1 hn i j (by rw [List.length_map]; omega) (by rw [List.length_map]; omega) hij
  have gi := nth_some (l := l) (i := i) (by omega)
  have gj := nth_some (l := l) (i := j) (by omega)
  rw [List.getElem?_eq_getElem (by omega)] at gi gj
  rw [List.getElem_map, List.getElem_map, Option.some.inj gi, Option.some.inj gj] at h
  exact h
theorem name_at {l : List HAttr} (hn : (l.map (·.name)).Nodup) {k : Nat} (hk : k < l.length) (name : List UInt8) : (nth l k).name = name ↔ attrAt l name = k := by
  constructor
  · intro h
    have h0 : 0 ≤ attrAt l name := (attrAt_mem l name).2 (List.mem_map.2 ⟨nth l k, nth_mem' hk, h⟩)
    obtain ⟨g1, g2, g3⟩ := attrAt_spec l name h0
    rcases Nat.lt_trichotomy (attrAt l name).toNat k with q | q | q
    · exact absurd (g2.trans h.symm) (name_once hn q hk)
    · omega
    · exact absurd (h.trans g2.symm) (name_once hn q g1)
  · intro h
    obtain ⟨g1, g2, g3⟩ := attrAt_spec l name (by omega)
    have : (attrAt l name).toNat = k := by omega
    rw [this] at g2; exact g2
theorem attr_nodup {d : HDoc} (V : DV d) {n : Int} (hn : inD d n) : ((nd d n).attrs.map (·.name)).Nodup := ((attrsE_iff _).1 ((nodeE_iff _).1 (V.node _ hn)).2.2.2.1).2.2
/-- a step that is noted by what was seen of the attributes up to a place -/
def attrS (l : List HAttr) (e : HEdit) (k : Nat) : HStep := if 0 ≤ attrAt l e.name ∧ attrAt l e.name < k then ⟨e, true, (nth l (attrAt l e.name).toNat).value, 0, attrAt l e.name⟩ else ⟨e, false, [], 0, 0⟩
theorem attrS_end (l : List HAttr) (e : HEdit) : attrS l e l.length = if 0 ≤ attrAt l e.name then ⟨e, true, (nth l (attrAt l e.name).toNat).value, 0, attrAt l e.name⟩ else ⟨e, false, [], 0, 0⟩ := by
  unfold attrS
  by_cases h : 0 ≤ attrAt l e.name
  · obtain ⟨g1, g2, g3⟩ := attrAt_spec l e.name h
    rw [if_pos ⟨h, by omega⟩, if_pos h]
  · rw [if_neg (fun q => h q.1), if_neg h]
theorem attrS_yes {l : List HAttr} (hn : (l.map (·.name)).Nodup) {e : HEdit} {k : Nat} (hk : k < l.length) (h : (nth l k).name = e.name) : attrS l e (k + 1) = ⟨e, true, (nth l k).value, 0, k⟩ := by
  have := (name_at hn hk e.name).1 h
  unfold attrS
  rw [this, if_pos ⟨by omega, by omega⟩]
  simp
theorem attrS_no {l : List HAttr} (hn : (l.map (·.name)).Nodup) {e : HEdit} {k : Nat} (hk : k < l.length) (h : (nth l k).name ≠ e.name) : attrS l e (k + 1) = attrS l e k := by
  have : attrAt l e.name ≠ k := fun q => h ((name_at hn hk e.name).2 q)
  unfold attrS
  by_cases h1 : 0 ≤ attrAt l e.name ∧ attrAt l e.name < (k : Int)
  · rw [if_pos h1, if_pos ⟨h1.1, by omega⟩]
  · rw [if_neg h1, if_neg (fun q => h1 ⟨q.1, by omega⟩)]
end Go.Proofs.K
end
section
/- Ranges after an edit: what a point becomes (plain). -/
set_option linter.unusedSimpArgs false
set_option linter.unusedVariables false
namespace Go.Proofs.K
open Go Go.Sim Go.Proofs
/-- where a node is put, its kids are its room -/
theorem ins_room {d : HDoc} (V : DV d) {e : HEdit} (h5 : e.do' = 5) (h0 : errR d e = 0) : roomM d e.at' = (nd d e.at').kids.length ∧ (e.before = -1 → insAt d e = roomM d e.at') ∧ (e.before ≠ -1 → 0 ≤ e.before ∧ (insAt d e : Int) = idxM (· == e.before) (nd d e.at').kids) := by
  obtain ⟨_, _, ha, ht⟩ := errR_at h0 (by omega)
  have ht := ht h5
  obtain ⟨_, hb⟩ := errR_5z h5 ha ht h0
  rw [errR_5 h5 ha ht] at h0
  have hk : ¬ 2 < (nd d e.at').kind := fun h => by rw [if_pos (.inl h)] at h0; omega
  have hr : roomM d e.at' = (nd d e.at').kids.length := by unfold roomM; rw [if_neg (by omega)]
  refine ⟨hr, fun h => by unfold insAt; rw [if_pos h, hr], fun h => ?_⟩
  have hi : 0 ≤ idxM (· == e.before) (nd d e.at').kids := by
    apply Classical.byContradiction; intro hh
    exact hb ⟨h, by omega⟩
  have hm := (idx_mem _ _).1 hi
  refine ⟨(V.kid _ ha _ hm).1.1, ?_⟩
  unfold insAt; rw [if_neg h]; omega
end Go.Proofs.K
end
section
/- Steps: what the program notes. -/
set_option linter.unusedSimpArgs false
set_option linter.unusedVariables false
namespace Go.Proofs.K
open Go Go.Sim Go.Proofs
variable {G : Glob}
def c152 : SFun := ⟨(.seq (.reg [⟨(some 2), (.boxF 96 2 (.t 0)), none⟩, ⟨(some 3), (.mv (.c (.bool false))), none⟩]) (.seq (.reg [⟨(some 4), (.fldA 0 (.t 2)), none⟩, ⟨(some 5), (.ld 1 false (.t 4)), none⟩, ⟨(some 6), (.ld 1 false (.t 1)), none⟩, ⟨(some 7), (.bin .eql (.t 5) (.t 6)), none⟩, ⟨(some 3), (.mv (.t 7)), none⟩]) .ret)), [(.tmp 3)]⟩
theorem hc152 : toSF Tryz.prog {} Tryz.f152 = some c152 := by kernel_rfl
theorem hn152 : (Tryz.f152.name == "runtime.NumGoroutine") = false := by kernel_rfl
theorem place1_ok (name : List UInt8) (a : HAttr) : PCalls (Pg G) 152 [.agg (eAttr a), .pin [.str name]] (.bool (a.name == name)) := fun h => by
  refine dcalls_of_vc Tryz.func152 hn152 hc152 (by rw [Tryz.ntmps152]; simp) (by rw [Tryz.ntmps152]; decide) ?_
  simp -dsimp -implicitDefEqProofs (disch := omega) only [VCA, Nat.reduceEqDiff, Nat.reduceAdd, Nat.reduceLeDiff, ↓reduceIte, exists_eq_right, c152, eAttr]
  exact Sub.refl _
def c113 : SFun := ⟨(.seq (.reg [⟨(some 3), (.boxF 9 1 (.t 1)), none⟩, ⟨(some 4), (.mv (.c (.int .i64 (0)))), none⟩]) (.seq (.reg [⟨(some 5), (.mv (.t 0)), none⟩, ⟨(some 6), (.mkf 152 [] [(.t 3)]), none⟩, ⟨(some 7), (.call (.c (.fn 151 [] [])) [(.t 5), (.t 6)]), none⟩, ⟨(some 4), (.mv (.t 7)), none⟩]) .ret)), [(.tmp 4)]⟩
theorem hc113 : toSF Tryz.prog {} Tryz.f113 = some c113 := by kernel_rfl
theorem hn113 : (Tryz.f113.name == "runtime.NumGoroutine") = false := by kernel_rfl
theorem rplace_ok (l : List HAttr) (name : List UInt8) (hl : l.length ≤ 1073741824) : PCalls (Pg G) 113 [sl eAttr l, .str name] (aInt (attrAt l name)) := fun h => by
  refine dcalls_of_vc Tryz.func113 hn113 hc113 (by rw [Tryz.ntmps113]; simp) (by rw [Tryz.ntmps113]; decide) ?_
  simp -dsimp -implicitDefEqProofs (disch := omega) only [VCA, Nat.reduceEqDiff, ↓reduceIte, reduceCtorEq, c113]
  refine DCalls.of (indexFA_ok l 152 [] [.pin [.str name]] (fun a => a.name == name) hl fun x => place1_ok name x h) ?_
  rintro r h' ⟨rfl, rfl⟩
  simp -dsimp -implicitDefEqProofs (disch := omega) only [VCA, ↓reduceIte, exists_eq_right_right]
  exact ⟨Sub.refl _, rfl⟩
def attrM (x : HNode) (s : HStep) : HStep := if 0 ≤ attrAt x.attrs s.edit.name then { s with had := true, was := (nth x.attrs (attrAt x.attrs s.edit.name).toNat).value, place := attrAt x.attrs s.edit.name } else s
def c79 : SFun := ⟨(.seq (.reg [⟨(some 2), (.boxF 40 6 (.t 0)), none⟩]) (.seq (.dreg [(⟨(some 5), (.fldA 2 (.t 2)), none⟩, none), (⟨(some 6), (.ld 1 false (.t 5)), none⟩, none), (⟨(some 7), (.mv (.t 1)), none⟩, none), (⟨(some 8), (.fldA 0 (.t 7)), none⟩, none), (⟨(some 9), (.fldA 0 (.t 8)), none⟩, none), (⟨(some 10), (.fldA 4 (.t 9)), none⟩, none), (⟨(some 11), (.ld 1 false (.t 10)), none⟩, none), (⟨(some 12), (.pcall 113 [(.t 6), (.t 11)]), none⟩, none), (⟨(some 4), (.mv (.t 12)), none⟩, none)]) (.seq (.reg [⟨(some 13), (.mv (.t 4)), none⟩, ⟨(some 14), (.bin .geq (.t 13) (.c (.int .i64 (0)))), none⟩]) (.cond (.t 14) (.reg [⟨(some 15), (.mv (.t 1)), none⟩, ⟨(some 16), (.mv (.t 1)), none⟩, ⟨(some 17), (.mv (.t 1)), none⟩, ⟨(some 18), (.fldA 2 (.t 2)), none⟩, ⟨(some 19), (.ld 1 false (.t 18)), none⟩, ⟨(some 20), (.mv (.t 4)), none⟩, ⟨(some 21), (.idxA 2 (.t 19) (.t 20)), none⟩, ⟨(some 22), (.fldA 1 (.t 21)), none⟩, ⟨(some 23), (.ld 1 false (.t 22)), none⟩, ⟨(some 24), (.mv (.t 4)), none⟩, ⟨(some 25), (.fldA 0 (.t 15)), none⟩, ⟨(some 26), (.fldA 12 (.t 25)), none⟩, ⟨none, (.st 1 (.t 26) (.c (.bool true))), none⟩, ⟨(some 27), (.fldA 0 (.t 16)), none⟩, ⟨(some 28), (.fldA 13 (.t 27)), none⟩, ⟨none, (.st 1 (.t 28) (.t 23)), none⟩, ⟨(some 29), (.fldA 0 (.t 17)), none⟩, ⟨(some 30), (.fldA 15 (.t 29)), none⟩, ⟨none, (.st 1 (.t 30) (.t 24)), none⟩]) .skip)))), []⟩
theorem hc79 : toSF Tryz.prog {pure := [113]} Tryz.f79 = some c79 := by kernel_rfl
theorem hn79 : (Tryz.f79.name == "runtime.NumGoroutine") = false := by kernel_rfl
theorem attribute_ok {h : Heap} (x : HNode) (hx : NodeSm x) (s : HStep) (r : Nat) (hr : h r = some ⟨.t 44, 16, [eStep s]⟩) : DCalls (Pg G) 79 [.agg (eNode x), .vp r 0] h fun a h' => h' = upd h r (some ⟨.t 44, 16, [eStep (attrM x s)]⟩) := by
  have hP := rplace_ok (G := G) x.attrs s.edit.name hx.attrs
  have lx := hx.attrs
  unfold attrM
  refine dcalls_of_vc Tryz.func79 hn79 hc79 (by rw [Tryz.ntmps79]; simp) (by rw [Tryz.ntmps79]; decide) ?_
  by_cases h1 : 0 ≤ attrAt x.attrs s.edit.name
  · rw [if_pos h1]
    obtain ⟨g1, g2, g3⟩ := attrAt_spec x.attrs s.edit.name h1
    generalize attrAt x.attrs s.edit.name = q at *
    simp -dsimp -implicitDefEqProofs (disch := omega) only [VCA, Nat.reduceEqDiff, Nat.reduceAdd, Nat.reduceLT, Nat.reduceLeDiff, ↓reduceIte, rsOf, rootsOf, exists_eq_left', rootL, c79, eNode, hr, eStep]
    repeat' (first | ((with_reducible refine Br.dec (fun _ => ?_) (fun _ => ?_)) <;> try (exfalso; omega)) | ((with_reducible refine Br.eq (fun _ => ?_) (fun _ => ?_)) <;> try (exfalso; omega)) | ((with_reducible refine Br.ne (fun _ => ?_) (fun _ => ?_)) <;> try (exfalso; omega)) | ((with_reducible refine brNdec (fun _ => ?_) (fun _ => ?_)) <;> try (exfalso; omega)) | ((with_reducible refine brNeq (fun _ => ?_) (fun _ => ?_)) <;> try (exfalso; omega)) | with_reducible refine Br.intro (fun _ => ?_) (fun _ => ?_) | (with_reducible apply pcallE.of; · exact hP) | (with_reducible refine And.intro ?_ ?_; · omega) | simp -dsimp -implicitDefEqProofs (disch := omega) only [VCA, Nat.reduceEqDiff, Nat.reduceAdd, Nat.reduceLT, Nat.reduceLeDiff, ↓reduceIte, rsOf, rootsOf, setAt, exists_eq_right, exists_eq_left', rootL, hr, eStep, eAttr])
    exact Sub.refl _
  · rw [if_neg h1]
    generalize attrAt x.attrs s.edit.name = q at *
    simp -dsimp -implicitDefEqProofs (disch := omega) only [VCA, Nat.reduceEqDiff, Nat.reduceAdd, Nat.reduceLT, Nat.reduceLeDiff, ↓reduceIte, rsOf, rootsOf, exists_eq_left', rootL, c79, eNode, hr, eStep]
    repeat' (first | ((with_reducible refine Br.dec (fun _ => ?_) (fun _ => ?_)) <;> try (exfalso; omega)) | ((with_reducible refine Br.eq (fun _ => ?_) (fun _ => ?_)) <;> try (exfalso; omega)) | ((with_reducible refine Br.ne (fun _ => ?_) (fun _ => ?_)) <;> try (exfalso; omega)) | ((with_reducible refine brNdec (fun _ => ?_) (fun _ => ?_)) <;> try (exfalso; omega)) | ((with_reducible refine brNeq (fun _ => ?_) (fun _ => ?_)) <;> try (exfalso; omega)) | with_reducible refine Br.intro (fun _ => ?_) (fun _ => ?_) | (with_reducible apply pcallE.of; · exact hP) | (with_reducible refine And.intro ?_ ?_; · omega) | simp -dsimp -implicitDefEqProofs (disch := omega) only [VCA, ↓reduceIte, rsOf, rootsOf, exists_eq_right, rootL])
    have hu := upd_id hr
    unfold eStep at hu
    rw [hu]
    exact Sub.refl _
end Go.Proofs.K
end
section
/- Ranges after an edit: what the program says. -/
set_option linter.unusedSimpArgs false
set_option linter.unusedVariables false
namespace Go.Proofs.K
open Go Go.Sim Go.Proofs
variable {G : Glob}
theorem bI_t {a b : Int} (h : a = b) : (a == b) = true := by simpa using h
theorem bI_f {a b : Int} (h : ¬ a = b) : (a == b) = false := by simpa using h
theorem bN_t {a b : Int} (h : ¬ a = b) : (a != b) = true := by simpa using h
theorem bN_f {a b : Int} (h : a = b) : (a != b) = false := by simp [h]
end Go.Proofs.K
end
section
/- Steps: one step noted. -/
set_option linter.unusedSimpArgs false
set_option linter.unusedVariables false
namespace Go.Proofs.K
open Go Go.Sim Go.Proofs
variable {G : Glob}
theorem applyE_errR {d : HDoc} (V : DV d) {e : HEdit} (h : applyE d e = 0) : errR d e = 0 := by
  apply Classical.byContradiction; intro h1
  rw [apply_err V h1] at h; exact h1 h
theorem applyD_is {d : HDoc} {e : HEdit} (h : applyE d e = 0) : applyD d e = editD d e := by unfold applyD; rw [if_pos h]
/-- where it was put, it is -/
theorem put_at_is {d : HDoc} (V : DV d) {e : HEdit} (h5 : e.do' = 5) (h0 : errR d e = 0) : inD (hung d e.at' e.to (insAt d e)) e.at' ∧ idxM (· == e.to) (nd (hung d e.at' e.to (insAt d e)) e.at').kids = insAt d e := by
  obtain ⟨_, _, ha, ht⟩ := errR_at h0 (by omega)
  have ht := ht h5
  obtain ⟨hc, hb⟩ := errR_5z h5 ha ht h0
  obtain ⟨i1, i2, i3⟩ := ins_room V h5 h0
  have hne : e.at' ≠ e.to := fun q => hc (q ▸ chain_self d e.at')
  refine ⟨inD_hung.2 ha, ?_⟩
  rw [nd_hung ha ht hne ha, if_neg hne, if_pos rfl]
  refine idx_put ?_ fun hm => ?_
  · by_cases hq : e.before = -1
    · rw [i2 hq, i1]; exact Nat.le_refl _
    · have := (i3 hq).2
      have := (idxM_le (nd d e.at').kids e.before).2.1
      omega
  · have := (V.kid _ ha _ hm).2
    rw [errR_5 h5 ha ht] at h0
    split at h0
    · omega
    split at h0
    · omega
    · have := ha.1; omega
def c40 : SFun := ⟨(.seq (.reg [⟨(some 4), (.boxF 24 2 (.t 0)), none⟩, ⟨(some 5), (.boxF 24 2 (.t 1)), none⟩, ⟨(some 6), (.boxF 42 12 (.t 2)), none⟩, ⟨(some 8), (.new 44 16 [(.int .i64 (0)), (.int .i64 (0)), (.int .i64 (0)), (.int .i64 (0)), (.str []), (.str []), (.int .i64 (0)), (.str []), .emp, (.str []), (.int .i64 (0)), .emp, (.bool false), (.str []), (.int .i64 (0)), (.int .i64 (0))]), none⟩]) (.seq (.reg [⟨(some 10), (.ld 12 true (.t 6)), none⟩, ⟨(some 11), (.bld [(.int .i64 (0)), (.int .i64 (0)), (.int .i64 (0)), (.int .i64 (0)), (.str []), (.str []), (.int .i64 (0)), (.str []), .emp, (.str []), (.int .i64 (0)), .emp, (.bool false), (.str []), (.int .i64 (0)), (.int .i64 (0))] [(0, (12, (.t 10)))]), none⟩, ⟨(some 9), (.new 44 16 [(.int .i64 (0)), (.int .i64 (0)), (.int .i64 (0)), (.int .i64 (0)), (.str []), (.str []), (.int .i64 (0)), (.str []), .emp, (.str []), (.int .i64 (0)), .emp, (.bool false), (.str []), (.int .i64 (0)), (.int .i64 (0))]), none⟩, ⟨none, (.st 16 (.t 9) (.t 11)), none⟩]) (.seq (.seq (.reg [⟨(some 12), (.fldA 0 (.t 6)), none⟩, ⟨(some 13), (.ld 1 false (.t 12)), none⟩]) (.block 0 (.seq (.seq (.reg [⟨(some 15), (.bin .eql (.t 13) (.c (.int .i64 (1)))), none⟩, ⟨(some 14), (.mv (.t 15)), none⟩]) (.cond (.t 14) .skip (.reg [⟨(some 16), (.bin .eql (.t 13) (.c (.int .i64 (2)))), none⟩, ⟨(some 14), (.mv (.t 16)), none⟩]))) (.cond (.t 14) (.reg [⟨(some 17), (.fldA 0 (.t 4)), none⟩, ⟨(some 18), (.ld 1 false (.t 17)), none⟩, ⟨(some 19), (.fldA 1 (.t 6)), none⟩, ⟨(some 20), (.ld 1 false (.t 19)), none⟩, ⟨(some 21), (.idxA 6 (.t 18) (.t 20)), none⟩, ⟨(some 22), (.ld 6 true (.t 21)), none⟩, ⟨(some 23), (.call (.c (.fn 79 [] [])) [(.t 22), (.t 9)]), none⟩]) (.seq (.reg [⟨(some 25), (.bin .eql (.t 13) (.c (.int .i64 (3)))), none⟩, ⟨(some 24), (.mv (.t 25)), none⟩]) (.cond (.t 24) (.reg [⟨(some 26), (.fldA 0 (.t 4)), none⟩, ⟨(some 27), (.ld 1 false (.t 26)), none⟩, ⟨(some 28), (.fldA 1 (.t 6)), none⟩, ⟨(some 29), (.ld 1 false (.t 28)), none⟩, ⟨(some 30), (.idxA 6 (.t 27) (.t 29)), none⟩, ⟨(some 31), (.fldA 3 (.t 30)), none⟩, ⟨(some 32), (.ld 1 false (.t 31)), none⟩, ⟨(some 33), (.fldA 13 (.t 9)), none⟩, ⟨none, (.st 1 (.t 33) (.t 32)), none⟩]) (.seq (.reg [⟨(some 35), (.bin .eql (.t 13) (.c (.int .i64 (4)))), none⟩, ⟨(some 34), (.mv (.t 35)), none⟩]) (.cond (.t 34) (.reg [⟨(some 36), (.mv (.t 3)), none⟩, ⟨(some 37), (.fldA 15 (.t 9)), none⟩, ⟨none, (.st 1 (.t 37) (.t 36)), none⟩]) (.seq (.reg [⟨(some 39), (.bin .eql (.t 13) (.c (.int .i64 (5)))), none⟩, ⟨(some 38), (.mv (.t 39)), none⟩]) (.cond (.t 38) (.dreg [(⟨(some 40), (.fldA 0 (.t 5)), none⟩, none), (⟨(some 41), (.ld 1 false (.t 40)), none⟩, none), (⟨(some 42), (.fldA 1 (.t 6)), none⟩, none), (⟨(some 43), (.ld 1 false (.t 42)), none⟩, none), (⟨(some 44), (.idxA 6 (.t 41) (.t 43)), none⟩, none), (⟨(some 45), (.fldA 5 (.t 44)), none⟩, none), (⟨(some 46), (.ld 1 false (.t 45)), none⟩, none), (⟨(some 47), (.fldA 2 (.t 6)), none⟩, none), (⟨(some 48), (.ld 1 false (.t 47)), none⟩, none), (⟨(some 49), (.pcall 80 [(.t 46), (.t 48)]), none⟩, none), (⟨(some 50), (.fldA 14 (.t 9)), none⟩, none), (⟨none, (.st 1 (.t 50) (.c (.int .i64 (-1)))), none⟩, (some [46, 48, 41, 43])), (⟨(some 51), (.fldA 15 (.t 9)), none⟩, none), (⟨none, (.st 1 (.t 51) (.t 49)), none⟩, (some [46, 48, 41, 43]))]) (.seq (.reg [⟨(some 53), (.bin .eql (.t 13) (.c (.int .i64 (6)))), none⟩, ⟨(some 52), (.mv (.t 53)), none⟩]) (.cond (.t 52) (.seq (.reg [⟨(some 54), (.fldA 0 (.t 4)), none⟩, ⟨(some 55), (.ld 1 false (.t 54)), none⟩, ⟨(some 56), (.fldA 1 (.t 6)), none⟩, ⟨(some 57), (.ld 1 false (.t 56)), none⟩, ⟨(some 58), (.idxA 6 (.t 55) (.t 57)), none⟩, ⟨(some 59), (.fldA 4 (.t 58)), none⟩, ⟨(some 60), (.ld 1 false (.t 59)), none⟩, ⟨(some 61), (.fldA 14 (.t 9)), none⟩, ⟨none, (.st 1 (.t 61) (.t 60)), none⟩]) (.dreg [(⟨(some 62), (.fldA 0 (.t 4)), none⟩, none), (⟨(some 63), (.ld 1 false (.t 62)), none⟩, none), (⟨(some 64), (.fldA 14 (.t 9)), none⟩, none), (⟨(some 65), (.ld 1 false (.t 64)), none⟩, none), (⟨(some 66), (.idxA 6 (.t 63) (.t 65)), none⟩, none), (⟨(some 67), (.fldA 5 (.t 66)), none⟩, none), (⟨(some 68), (.ld 1 false (.t 67)), none⟩, none), (⟨(some 69), (.fldA 1 (.t 6)), none⟩, none), (⟨(some 70), (.ld 1 false (.t 69)), none⟩, none), (⟨(some 71), (.pcall 80 [(.t 68), (.t 70)]), none⟩, none), (⟨(some 72), (.fldA 15 (.t 9)), none⟩, none), (⟨none, (.st 1 (.t 72) (.t 71)), none⟩, (some [68, 70, 63, 65]))])) .skip)))))))))))) (.seq (.dreg [(⟨(some 73), (.fldA 6 (.t 6)), none⟩, none), (⟨(some 74), (.fldA 2 (.t 73)), none⟩, none), (⟨(some 75), (.ld 1 false (.t 74)), none⟩, none), (⟨(some 76), (.pcall 69 [(.t 75)]), none⟩, none), (⟨(some 77), (.fldA 6 (.t 6)), none⟩, none), (⟨(some 78), (.fldA 5 (.t 77)), none⟩, none), (⟨(some 79), (.ld 1 false (.t 78)), none⟩, none), (⟨(some 80), (.pcall 70 [(.t 79)]), none⟩, none), (⟨(some 81), (.fldA 0 (.t 9)), none⟩, none), (⟨(some 82), (.fldA 6 (.t 81)), none⟩, none), (⟨(some 83), (.fldA 2 (.t 82)), none⟩, none), (⟨none, (.st 1 (.t 83) (.t 76)), none⟩, (some [79, 75])), (⟨(some 84), (.fldA 0 (.t 9)), none⟩, none), (⟨(some 85), (.fldA 6 (.t 84)), none⟩, none), (⟨(some 86), (.fldA 5 (.t 85)), none⟩, none), (⟨none, (.st 1 (.t 86) (.t 80)), none⟩, (some [79, 75]))]) (.seq (.reg [⟨(some 87), (.ld 16 true (.t 9)), none⟩, ⟨none, (.st 16 (.t 8) (.t 87)), none⟩]) .ret))))), [(.cell 8 16 true)]⟩
theorem hc40 : toSF Tryz.prog {pure := [80, 69, 70]} Tryz.f40 = some c40 := by kernel_rfl
theorem hn40 : (Tryz.f40.name == "runtime.NumGoroutine") = false := by kernel_rfl
set_option maxHeartbeats 1000000 in
theorem noted_ok (d : HDoc) (V : DV d) (sm : DocSm d) (e : HEdit) (he : EditSm e) (hz : applyE d e = 0) : PCalls (Pg G) 40 [.agg (eDoc d), .agg (eDoc (applyD d e)), .agg (eEdit e), aInt (applyN d e)] (.agg (eStep (stepM d e))) := fun h => by
  have h0 := applyE_errR V hz
  have hC1 := cloneA_ok (G := G) e.node.attrs he.node.attrs
  have hC2 := cloneZ_ok (G := G) e.node.kids he.node.kids
  have vl := V.len
  unfold stepM
  refine dcalls_of_vc Tryz.func40 hn40 hc40 (by rw [Tryz.ntmps40]; simp) (by rw [Tryz.ntmps40]; decide) ?_
  by_cases h4 : e.do' = 4
  · rw [if_pos h4]
    have hN : applyN d e = d.nodes.length := by unfold applyN editN; rw [if_pos hz, if_pos h4]
    rw [hN]
    have b4 := bI_t h4
    have b1 : (e.do' == 1) = false := bI_f (by omega)
    have b2 : (e.do' == 2) = false := bI_f (by omega)
    have b3 : (e.do' == 3) = false := bI_f (by omega)
    have b5 : (e.do' == 5) = false := bI_f (by omega)
    have b6 : (e.do' == 6) = false := bI_f (by omega)
    simp -dsimp -implicitDefEqProofs (disch := omega) only [VCA, ↓upd_none, Nat.reduceEqDiff, Nat.reduceAdd, Nat.reduceLT, Nat.reduceLeDiff, ↓reduceIte, rsOf, rootsOf, fillA, okFill, setAt, ne_eq, exists_eq_left', rootL, c40, eDoc, eEdit, b1, b2, b3, b4]
    intro r8 hr8 r9 hr9
    have n1 : ¬ r8 = r9 := fun q => hr9.1 q.symm
    have n2 : ¬ r9 = r8 := hr9.1
    repeat' (first | ((with_reducible refine Br.dec (fun _ => ?_) (fun _ => ?_)) <;> try (exfalso; omega)) | ((with_reducible refine Br.eq (fun _ => ?_) (fun _ => ?_)) <;> try (exfalso; omega)) | ((with_reducible refine Br.ne (fun _ => ?_) (fun _ => ?_)) <;> try (exfalso; omega)) | ((with_reducible refine brNdec (fun _ => ?_) (fun _ => ?_)) <;> try (exfalso; omega)) | ((with_reducible refine brNeq (fun _ => ?_) (fun _ => ?_)) <;> try (exfalso; omega)) | with_reducible refine Br.intro (fun _ => ?_) (fun _ => ?_) | (with_reducible apply pcallE.of; · exact hC1) | (with_reducible apply pcallE.of; · exact hC2) | (with_reducible refine And.intro ?_ ?_; · omega) | simp -dsimp -implicitDefEqProofs (disch := omega) only [VCA, Nat.reduceEqDiff, Nat.reduceAdd, Nat.reduceLT, Nat.reduceLeDiff, ↓reduceIte, rsOf, rootsOf, SOp.rd, SI.rd, SX.rd, setAt, exists_eq_right_right, exists_eq_left', rootL, eStep, n1])
    all_goals (repeat' (first | exact Sub.refl _ | exact hr8 | exact hr9.2 | with_reducible refine Sub.upd ?_ ?_))
  rw [if_neg h4]
  have b4 := bI_f h4
  obtain ⟨do1, do6, hA, hT⟩ := errR_at h0 (by omega)
  have hA0 := hA.1
  have hA1 := hA.2
  have e0 : nth d.nodes e.at'.toNat = nd d e.at' := rfl
  have N0 := sm.nd e.at'
  by_cases h12 : e.do' = 1 ∨ e.do' = 2
  · rw [if_pos h12]
    have hM : ∀ (h : Heap) (r : Nat), h r = some ⟨.t 44, 16, [eStep ⟨e, false, [], 0, 0⟩]⟩ → _ := fun h r hr => attribute_ok (G := G) (h := h) (nd d e.at') N0 ⟨e, false, [], 0, 0⟩ r hr
    unfold attrM at hM
    have b12 : (e.do' == 1) = true ∨ (e.do' == 1) = false ∧ (e.do' == 2) = true := by
      rcases h12 with h | h
      · exact .inl (bI_t h)
      · exact .inr ⟨bI_f (by omega), bI_t h⟩
    have fin : ∀ (P : Prop), ((e.do' == 1) = true → P) → ((e.do' == 1) = false → (e.do' == 2) = true → P) → P := fun P p q => b12.elim p fun h => q h.1 h.2
    by_cases hq : 0 ≤ attrAt (nd d e.at').attrs e.name
    · rw [if_pos hq]
      simp only [if_pos hq] at hM
      apply fin
      · intro b1
        simp -dsimp -implicitDefEqProofs (disch := omega) only [VCA, ↓upd_none, Nat.reduceEqDiff, Nat.reduceAdd, Nat.reduceLT, Nat.reduceLeDiff, ↓reduceIte, fillA, okFill, setAt, ne_eq, exists_eq_left', c40, eDoc, eEdit, b1]
        intro r8 hr8 r9 hr9
        have n1 : ¬ r8 = r9 := fun q => hr9.1 q.symm
        have n2 : ¬ r9 = r8 := hr9.1
        repeat' (first | ((with_reducible refine Br.dec (fun _ => ?_) (fun _ => ?_)) <;> try (exfalso; omega)) | ((with_reducible refine Br.eq (fun _ => ?_) (fun _ => ?_)) <;> try (exfalso; omega)) | ((with_reducible refine Br.ne (fun _ => ?_) (fun _ => ?_)) <;> try (exfalso; omega)) | ((with_reducible refine brNdec (fun _ => ?_) (fun _ => ?_)) <;> try (exfalso; omega)) | ((with_reducible refine brNeq (fun _ => ?_) (fun _ => ?_)) <;> try (exfalso; omega)) | with_reducible refine Br.intro (fun _ => ?_) (fun _ => ?_) | ((refine DCalls.of (hM _ r9 (upd_same _ _ _)) ?_; rintro _ _ rfl)) | (with_reducible apply pcallE.of; · exact hC1) | (with_reducible apply pcallE.of; · exact hC2) | (with_reducible refine And.intro ?_ ?_; · omega) | simp -dsimp -implicitDefEqProofs (disch := omega) only [VCA, Nat.reduceEqDiff, Nat.reduceAdd, Nat.reduceLT, Nat.reduceLeDiff, ↓reduceIte, rsOf, rootsOf, SOp.rd, SI.rd, SX.rd, setAt, exists_eq_right_right, exists_eq_left', rootL, eStep, e0, eNode, n1])
        all_goals (repeat' (first | exact Sub.refl _ | exact hr8 | exact hr9.2 | with_reducible refine Sub.upd ?_ ?_))
      · intro b1 b2
        simp -dsimp -implicitDefEqProofs (disch := omega) only [VCA, ↓upd_none, Nat.reduceEqDiff, Nat.reduceAdd, Nat.reduceLT, Nat.reduceLeDiff, ↓reduceIte, fillA, okFill, setAt, ne_eq, exists_eq_left', c40, eDoc, eEdit, b1, b2]
        intro r8 hr8 r9 hr9
        have n1 : ¬ r8 = r9 := fun q => hr9.1 q.symm
        have n2 : ¬ r9 = r8 := hr9.1
        repeat' (first | ((with_reducible refine Br.dec (fun _ => ?_) (fun _ => ?_)) <;> try (exfalso; omega)) | ((with_reducible refine Br.eq (fun _ => ?_) (fun _ => ?_)) <;> try (exfalso; omega)) | ((with_reducible refine Br.ne (fun _ => ?_) (fun _ => ?_)) <;> try (exfalso; omega)) | ((with_reducible refine brNdec (fun _ => ?_) (fun _ => ?_)) <;> try (exfalso; omega)) | ((with_reducible refine brNeq (fun _ => ?_) (fun _ => ?_)) <;> try (exfalso; omega)) | with_reducible refine Br.intro (fun _ => ?_) (fun _ => ?_) | ((refine DCalls.of (hM _ r9 (upd_same _ _ _)) ?_; rintro _ _ rfl)) | (with_reducible apply pcallE.of; · exact hC1) | (with_reducible apply pcallE.of; · exact hC2) | (with_reducible refine And.intro ?_ ?_; · omega) | simp -dsimp -implicitDefEqProofs (disch := omega) only [VCA, Nat.reduceEqDiff, Nat.reduceAdd, Nat.reduceLT, Nat.reduceLeDiff, ↓reduceIte, rsOf, rootsOf, SOp.rd, SI.rd, SX.rd, setAt, exists_eq_right_right, exists_eq_left', rootL, eStep, e0, eNode, n1])
        all_goals (repeat' (first | exact Sub.refl _ | exact hr8 | exact hr9.2 | with_reducible refine Sub.upd ?_ ?_))
    · rw [if_neg hq]
      simp only [if_neg hq] at hM
      apply fin
      · intro b1
        simp -dsimp -implicitDefEqProofs (disch := omega) only [VCA, ↓upd_none, Nat.reduceEqDiff, Nat.reduceAdd, Nat.reduceLT, Nat.reduceLeDiff, ↓reduceIte, fillA, okFill, setAt, ne_eq, exists_eq_left', c40, eDoc, eEdit, b1]
        intro r8 hr8 r9 hr9
        have n1 : ¬ r8 = r9 := fun q => hr9.1 q.symm
        have n2 : ¬ r9 = r8 := hr9.1
        repeat' (first | ((with_reducible refine Br.dec (fun _ => ?_) (fun _ => ?_)) <;> try (exfalso; omega)) | ((with_reducible refine Br.eq (fun _ => ?_) (fun _ => ?_)) <;> try (exfalso; omega)) | ((with_reducible refine Br.ne (fun _ => ?_) (fun _ => ?_)) <;> try (exfalso; omega)) | ((with_reducible refine brNdec (fun _ => ?_) (fun _ => ?_)) <;> try (exfalso; omega)) | ((with_reducible refine brNeq (fun _ => ?_) (fun _ => ?_)) <;> try (exfalso; omega)) | with_reducible refine Br.intro (fun _ => ?_) (fun _ => ?_) | ((refine DCalls.of (hM _ r9 (upd_same _ _ _)) ?_; rintro _ _ rfl)) | (with_reducible apply pcallE.of; · exact hC1) | (with_reducible apply pcallE.of; · exact hC2) | (with_reducible refine And.intro ?_ ?_; · omega) | simp -dsimp -implicitDefEqProofs (disch := omega) only [VCA, Nat.reduceEqDiff, Nat.reduceAdd, Nat.reduceLT, Nat.reduceLeDiff, ↓reduceIte, rsOf, rootsOf, SOp.rd, SI.rd, SX.rd, setAt, exists_eq_right_right, exists_eq_left', rootL, eStep, e0, eNode, n1])
        all_goals (repeat' (first | exact Sub.refl _ | exact hr8 | exact hr9.2 | with_reducible refine Sub.upd ?_ ?_))
      · intro b1 b2
        simp -dsimp -implicitDefEqProofs (disch := omega) only [VCA, ↓upd_none, Nat.reduceEqDiff, Nat.reduceAdd, Nat.reduceLT, Nat.reduceLeDiff, ↓reduceIte, fillA, okFill, setAt, ne_eq, exists_eq_left', c40, eDoc, eEdit, b1, b2]
        intro r8 hr8 r9 hr9
        have n1 : ¬ r8 = r9 := fun q => hr9.1 q.symm
        have n2 : ¬ r9 = r8 := hr9.1
        repeat' (first | ((with_reducible refine Br.dec (fun _ => ?_) (fun _ => ?_)) <;> try (exfalso; omega)) | ((with_reducible refine Br.eq (fun _ => ?_) (fun _ => ?_)) <;> try (exfalso; omega)) | ((with_reducible refine Br.ne (fun _ => ?_) (fun _ => ?_)) <;> try (exfalso; omega)) | ((with_reducible refine brNdec (fun _ => ?_) (fun _ => ?_)) <;> try (exfalso; omega)) | ((with_reducible refine brNeq (fun _ => ?_) (fun _ => ?_)) <;> try (exfalso; omega)) | with_reducible refine Br.intro (fun _ => ?_) (fun _ => ?_) | ((refine DCalls.of (hM _ r9 (upd_same _ _ _)) ?_; rintro _ _ rfl)) | (with_reducible apply pcallE.of; · exact hC1) | (with_reducible apply pcallE.of; · exact hC2) | (with_reducible refine And.intro ?_ ?_; · omega) | simp -dsimp -implicitDefEqProofs (disch := omega) only [VCA, Nat.reduceEqDiff, Nat.reduceAdd, Nat.reduceLT, Nat.reduceLeDiff, ↓reduceIte, rsOf, rootsOf, SOp.rd, SI.rd, SX.rd, setAt, exists_eq_right_right, exists_eq_left', rootL, eStep, e0, eNode, n1])
        all_goals (repeat' (first | exact Sub.refl _ | exact hr8 | exact hr9.2 | with_reducible refine Sub.upd ?_ ?_))
  rw [if_neg h12]
  have b1 : (e.do' == 1) = false := bI_f (by omega)
  have b2 : (e.do' == 2) = false := bI_f (by omega)
  by_cases h3 : e.do' = 3
  · rw [if_pos h3]
    have b3 := bI_t h3
    simp -dsimp -implicitDefEqProofs (disch := omega) only [VCA, ↓upd_none, Nat.reduceEqDiff, Nat.reduceAdd, Nat.reduceLT, Nat.reduceLeDiff, ↓reduceIte, rsOf, rootsOf, fillA, okFill, setAt, ne_eq, exists_eq_left', rootL, c40, eDoc, eEdit, b1, b2, b3]
    intro r8 hr8 r9 hr9
    have n1 : ¬ r8 = r9 := fun q => hr9.1 q.symm
    have n2 : ¬ r9 = r8 := hr9.1
    repeat' (first | ((with_reducible refine Br.dec (fun _ => ?_) (fun _ => ?_)) <;> try (exfalso; omega)) | ((with_reducible refine Br.eq (fun _ => ?_) (fun _ => ?_)) <;> try (exfalso; omega)) | ((with_reducible refine Br.ne (fun _ => ?_) (fun _ => ?_)) <;> try (exfalso; omega)) | ((with_reducible refine brNdec (fun _ => ?_) (fun _ => ?_)) <;> try (exfalso; omega)) | ((with_reducible refine brNeq (fun _ => ?_) (fun _ => ?_)) <;> try (exfalso; omega)) | with_reducible refine Br.intro (fun _ => ?_) (fun _ => ?_) | (with_reducible apply pcallE.of; · exact hC1) | (with_reducible apply pcallE.of; · exact hC2) | (with_reducible refine And.intro ?_ ?_; · omega) | simp -dsimp -implicitDefEqProofs (disch := omega) only [VCA, Nat.reduceEqDiff, Nat.reduceAdd, Nat.reduceLT, Nat.reduceLeDiff, ↓reduceIte, rsOf, rootsOf, SOp.rd, SI.rd, SX.rd, setAt, exists_eq_right_right, exists_eq_left', rootL, eStep, e0, eNode, n1])
    all_goals (repeat' (first | exact Sub.refl _ | exact hr8 | exact hr9.2 | with_reducible refine Sub.upd ?_ ?_))
  rw [if_neg h3]
  have b3 := bI_f h3
  by_cases h5 : e.do' = 5
  · rw [if_pos h5]
    have b5 := bI_t h5
    obtain ⟨p1, p2⟩ := put_at_is V h5 h0
    have aD : applyD d e = hung d e.at' e.to (insAt d e) := by
      rw [applyD_is hz]; unfold editD; rw [if_neg (by omega), if_neg (by omega), if_neg (by omega), if_neg (by omega), if_pos h5]
    have smA := apply_sm (d := d) sm he
    rw [aD] at smA ⊢
    have p10 := p1.1
    have p11 := p1.2
    have e1 : nth (hung d e.at' e.to (insAt d e)).nodes e.at'.toNat = nd (hung d e.at' e.to (insAt d e)) e.at' := rfl
    have hI := hasII_ok (G := G) (nd (hung d e.at' e.to (insAt d e)) e.at').kids e.to (smA.nd e.at').kids
    have p3 := p2
    rw [p2] at hI
    generalize hung d e.at' e.to (insAt d e) = D at *
    simp -dsimp -implicitDefEqProofs (disch := omega) only [VCA, ↓upd_none, Nat.reduceEqDiff, Nat.reduceAdd, Nat.reduceLT, Nat.reduceLeDiff, ↓reduceIte, rsOf, rootsOf, fillA, okFill, setAt, ne_eq, exists_eq_left', rootL, c40, eDoc, eEdit, b1, b2, b3, b4, b5]
    intro r8 hr8 r9 hr9
    have n1 : ¬ r8 = r9 := fun q => hr9.1 q.symm
    have n2 : ¬ r9 = r8 := hr9.1
    repeat' (first | ((with_reducible refine Br.dec (fun _ => ?_) (fun _ => ?_)) <;> try (exfalso; omega)) | ((with_reducible refine Br.eq (fun _ => ?_) (fun _ => ?_)) <;> try (exfalso; omega)) | ((with_reducible refine Br.ne (fun _ => ?_) (fun _ => ?_)) <;> try (exfalso; omega)) | ((with_reducible refine brNdec (fun _ => ?_) (fun _ => ?_)) <;> try (exfalso; omega)) | ((with_reducible refine brNeq (fun _ => ?_) (fun _ => ?_)) <;> try (exfalso; omega)) | with_reducible refine Br.intro (fun _ => ?_) (fun _ => ?_) | (with_reducible apply pcallE.of; · exact hI) | (with_reducible apply pcallE.of; · exact hC1) | (with_reducible apply pcallE.of; · exact hC2) | (with_reducible refine And.intro ?_ ?_; · omega) | simp -dsimp -implicitDefEqProofs (disch := omega) only [VCA, Nat.reduceEqDiff, Nat.reduceAdd, Nat.reduceLT, Nat.reduceLeDiff, ↓reduceIte, rsOf, rootsOf, SOp.rd, SI.rd, SX.rd, setAt, exists_eq_right_right, exists_eq_left', rootL, eStep, eNode, n1, e1])
    all_goals (repeat' (first | exact Sub.refl _ | exact hr8 | exact hr9.2 | with_reducible refine Sub.upd ?_ ?_))
  rw [if_neg h5]
  have b5 := bI_f h5
  have h6 : e.do' = 6 := by omega
  have b6 := bI_t h6
  have hpp : 0 ≤ (nd d e.at').parent := by
    rw [errR_6 h6 hA] at h0
    split at h0
    · omega
    · split at h0 <;> omega
  have hP := (V.par_in hA hpp).1
  have hP0 := hP.1
  have hP1 := hP.2
  have kl := (sm.nd (nd d e.at').parent).kids
  have hI := hasII_ok (G := G) (nd d (nd d e.at').parent).kids e.at' kl
  have e1 : nth d.nodes (nd d e.at').parent.toNat = nd d (nd d e.at').parent := rfl
  simp -dsimp -implicitDefEqProofs (disch := omega) only [VCA, ↓upd_none, Nat.reduceEqDiff, Nat.reduceAdd, Nat.reduceLT, Nat.reduceLeDiff, ↓reduceIte, rsOf, rootsOf, fillA, okFill, setAt, ne_eq, exists_eq_left', rootL, c40, eDoc, eEdit, b1, b2, b3, b4, b5, b6]
  intro r8 hr8 r9 hr9
  have n1 : ¬ r8 = r9 := fun q => hr9.1 q.symm
  have n2 : ¬ r9 = r8 := hr9.1
  repeat' (first | ((with_reducible refine Br.dec (fun _ => ?_) (fun _ => ?_)) <;> try (exfalso; omega)) | ((with_reducible refine Br.eq (fun _ => ?_) (fun _ => ?_)) <;> try (exfalso; omega)) | ((with_reducible refine Br.ne (fun _ => ?_) (fun _ => ?_)) <;> try (exfalso; omega)) | ((with_reducible refine brNdec (fun _ => ?_) (fun _ => ?_)) <;> try (exfalso; omega)) | ((with_reducible refine brNeq (fun _ => ?_) (fun _ => ?_)) <;> try (exfalso; omega)) | with_reducible refine Br.intro (fun _ => ?_) (fun _ => ?_) | (with_reducible apply pcallE.of; · exact hI) | (with_reducible apply pcallE.of; · exact hC1) | (with_reducible apply pcallE.of; · exact hC2) | (with_reducible refine And.intro ?_ ?_; · omega) | simp -dsimp -implicitDefEqProofs (disch := omega) only [VCA, Nat.reduceEqDiff, Nat.reduceBEq, Nat.reduceAdd, Nat.reduceLT, Nat.reduceLeDiff, ↓reduceIte, rsOf, rootsOf, SOp.rd, SI.rd, SX.rd, setAt, exists_eq_right_right, exists_eq_left', rootL, eStep, e0, eNode, n1, e1])
  all_goals (repeat' (first | exact Sub.refl _ | exact hr8 | exact hr9.2 | with_reducible refine Sub.upd ?_ ?_))
end Go.Proofs.K
end
section
/- Steps: lists of them compared; the reference's step. -/
set_option linter.unusedSimpArgs false
set_option linter.unusedVariables false
namespace Go.Proofs.K
open Go Go.Sim Go.Proofs
variable {G : Glob}
theorem nthS_sm {l : List HStep} (hs : ∀ s ∈ l, NodeSm s.edit.node) (k : Nat) : NodeSm (nth l k).edit.node := by
  by_cases hk : k < l.length
  · exact hs _ (nth_mem' hk)
  · rw [nth_def hk]; exact nodeSm_default
theorem step_ext {x y : HStep} (h1 : x.edit = y.edit) (h2 : x.had = y.had) (h3 : x.was = y.was) (h4 : x.parent = y.parent) (h5 : x.place = y.place) : x = y := by
  cases x; cases y; simp_all
def c15 : SFun := ⟨(.seq (.reg [⟨(some 4), (.mv (.c (.bool false))), none⟩]) (.seq (.seq (.reg [⟨(some 6), (.mv (.t 0)), none⟩, ⟨(some 7), (.len (.t 6)), none⟩, ⟨(some 8), (.mv (.t 1)), none⟩, ⟨(some 9), (.len (.t 8)), none⟩, ⟨(some 10), (.bin .neq (.t 7) (.t 9)), none⟩]) (.cond (.t 10) (.seq (.reg [⟨(some 4), (.mv (.c (.bool false))), none⟩]) .ret) .skip)) (.seq (.seq (.reg [⟨(some 5), (.mv (.c (.int .i64 (0)))), none⟩]) (.block 0 (.loop (.seq (.seq (.reg [⟨(some 11), (.mv (.t 5)), none⟩, ⟨(some 12), (.mv (.t 0)), none⟩, ⟨(some 13), (.len (.t 12)), none⟩, ⟨(some 14), (.bin .lss (.t 11) (.t 13)), none⟩]) (.cond (.t 14) .skip (.exit 0))) (.seq (.block 1 (.seq (.dreg [(⟨(some 17), (.mv (.t 0)), none⟩, none), (⟨(some 18), (.mv (.t 5)), none⟩, none), (⟨(some 19), (.idxA 16 (.t 17) (.t 18)), none⟩, none), (⟨(some 20), (.fldA 0 (.t 19)), none⟩, none), (⟨(some 21), (.ld 12 true (.t 20)), none⟩, none), (⟨(some 22), (.mv (.t 1)), none⟩, none), (⟨(some 23), (.mv (.t 5)), none⟩, none), (⟨(some 24), (.idxA 16 (.t 22) (.t 23)), none⟩, none), (⟨(some 25), (.fldA 0 (.t 24)), none⟩, none), (⟨(some 26), (.ld 12 true (.t 25)), none⟩, none), (⟨(some 27), (.pcall 44 [(.t 21), (.t 26)]), none⟩, none), (⟨(some 28), (.un .not (.t 27)), none⟩, none), (⟨(some 29), (.mv (.t 28)), none⟩, none), (⟨(some 30), (.mv (.t 0)), (some (29, false))⟩, none), (⟨(some 31), (.mv (.t 5)), (some (29, false))⟩, none), (⟨(some 32), (.idxA 16 (.t 30) (.t 31)), (some (29, false))⟩, none), (⟨(some 33), (.fldA 12 (.t 32)), (some (29, false))⟩, none), (⟨(some 34), (.ld 1 false (.t 33)), (some (29, false))⟩, none), (⟨(some 35), (.mv (.t 1)), (some (29, false))⟩, none), (⟨(some 36), (.mv (.t 5)), (some (29, false))⟩, none), (⟨(some 37), (.idxA 16 (.t 35) (.t 36)), (some (29, false))⟩, none), (⟨(some 38), (.fldA 12 (.t 37)), (some (29, false))⟩, none), (⟨(some 39), (.ld 1 false (.t 38)), (some (29, false))⟩, none), (⟨(some 40), (.eqb true (.t 34) (.t 39)), (some (29, false))⟩, none), (⟨(some 41), (.pick (.t 29) (.c (.bool true)) (.t 40)), none⟩, none), (⟨(some 42), (.mv (.t 41)), none⟩, none), (⟨(some 43), (.mv (.t 0)), (some (42, false))⟩, none), (⟨(some 44), (.mv (.t 5)), (some (42, false))⟩, none), (⟨(some 45), (.idxA 16 (.t 43) (.t 44)), (some (42, false))⟩, none), (⟨(some 46), (.fldA 13 (.t 45)), (some (42, false))⟩, none), (⟨(some 47), (.ld 1 false (.t 46)), (some (42, false))⟩, none), (⟨(some 48), (.mv (.t 1)), (some (42, false))⟩, none), (⟨(some 49), (.mv (.t 5)), (some (42, false))⟩, none), (⟨(some 50), (.idxA 16 (.t 48) (.t 49)), (some (42, false))⟩, none), (⟨(some 51), (.fldA 13 (.t 50)), (some (42, false))⟩, none), (⟨(some 52), (.ld 1 false (.t 51)), (some (42, false))⟩, none), (⟨(some 53), (.bin .neq (.t 47) (.t 52)), (some (42, false))⟩, none), (⟨(some 54), (.pick (.t 42) (.c (.bool true)) (.t 53)), none⟩, none), (⟨(some 55), (.mv (.t 54)), none⟩, none), (⟨(some 56), (.mv (.t 0)), (some (55, false))⟩, none), (⟨(some 57), (.mv (.t 5)), (some (55, false))⟩, none), (⟨(some 58), (.idxA 16 (.t 56) (.t 57)), (some (55, false))⟩, none), (⟨(some 59), (.fldA 14 (.t 58)), (some (55, false))⟩, none), (⟨(some 60), (.ld 1 false (.t 59)), (some (55, false))⟩, none), (⟨(some 61), (.mv (.t 1)), (some (55, false))⟩, none), (⟨(some 62), (.mv (.t 5)), (some (55, false))⟩, none), (⟨(some 63), (.idxA 16 (.t 61) (.t 62)), (some (55, false))⟩, none), (⟨(some 64), (.fldA 14 (.t 63)), (some (55, false))⟩, none), (⟨(some 65), (.ld 1 false (.t 64)), (some (55, false))⟩, none), (⟨(some 66), (.bin .neq (.t 60) (.t 65)), (some (55, false))⟩, none), (⟨(some 67), (.pick (.t 55) (.c (.bool true)) (.t 66)), none⟩, none), (⟨(some 68), (.mv (.t 67)), none⟩, none), (⟨(some 69), (.mv (.t 0)), (some (68, false))⟩, none), (⟨(some 70), (.mv (.t 5)), (some (68, false))⟩, none), (⟨(some 71), (.idxA 16 (.t 69) (.t 70)), (some (68, false))⟩, none), (⟨(some 72), (.fldA 15 (.t 71)), (some (68, false))⟩, none), (⟨(some 73), (.ld 1 false (.t 72)), (some (68, false))⟩, none), (⟨(some 74), (.mv (.t 1)), (some (68, false))⟩, none), (⟨(some 75), (.mv (.t 5)), (some (68, false))⟩, none), (⟨(some 76), (.idxA 16 (.t 74) (.t 75)), (some (68, false))⟩, none), (⟨(some 77), (.fldA 15 (.t 76)), (some (68, false))⟩, none), (⟨(some 78), (.ld 1 false (.t 77)), (some (68, false))⟩, none), (⟨(some 79), (.bin .neq (.t 73) (.t 78)), (some (68, false))⟩, none), (⟨(some 80), (.pick (.t 68) (.c (.bool true)) (.t 79)), none⟩, none)]) (.cond (.t 80) (.seq (.reg [⟨(some 4), (.mv (.c (.bool false))), none⟩]) .ret) .skip))) (.reg [⟨(some 15), (.mv (.t 5)), none⟩, ⟨(some 16), (.bin .add (.t 15) (.c (.int .i64 (1)))), none⟩, ⟨(some 5), (.mv (.t 16)), none⟩])))))) (.seq (.reg [⟨(some 4), (.mv (.c (.bool true))), none⟩]) .ret)))), [(.tmp 4)]⟩
theorem hc15 : toSF Tryz.prog {pure := [44]} Tryz.f15 = some c15 := by kernel_rfl
theorem hn15 : (Tryz.f15.name == "runtime.NumGoroutine") = false := by kernel_rfl
set_option maxHeartbeats 1000000 in
set_option maxRecDepth 10000 in
theorem sameSteps_ok (a b : List HStep) (la : a.length ≤ 1073741824) (lb : b.length ≤ 1073741824) (ha : ∀ s ∈ a, NodeSm s.edit.node) (hb : ∀ s ∈ b, NodeSm s.edit.node) : PCalls (Pg G) 15 [sl eStep a, sl eStep b] (.bool (a == b)) := fun h => by
  refine dcalls_of_vc Tryz.func15 hn15 hc15 (by rw [Tryz.ntmps15]; simp) (by rw [Tryz.ntmps15]; decide) ?_
  simp -dsimp -implicitDefEqProofs (disch := omega) only [VCA, Nat.reduceEqDiff, ↓reduceIte, reduceCtorEq, c15]
  refine Br.ne (fun h1 => ?_) (fun h1 => ?_)
  · simp -dsimp -implicitDefEqProofs (disch := omega) only [VCA, ↓reduceIte, exists_eq_right_right]
    have : ¬ a = b := fun e => h1 (by rw [e])
    first | exact Sub.refl _ | exact ⟨Sub.refl _, by simp [this]⟩
  · have h1' : a.length = b.length := by omega
    simp -dsimp -implicitDefEqProofs (disch := omega) only [VCA]
    refine LoopVC.intro (fun m e h' => ∃ k : Nat, k ≤ a.length ∧ m = a.length - k ∧ e 0 = sl eStep a ∧ e 1 = sl eStep b ∧ e 5 = aInt k ∧ h' = h ∧ ∀ j, j < k → nth a j = nth b j) _ ⟨0, by omega, rfl, rfl, rfl, rfl, rfl, by omega⟩ ?_
    rintro m e h' ⟨k, hk, rfl, he0, he1, he5, rfl, hj⟩
    have hN := sameEdit_ok (G := G) (nth a k).edit (nth b k).edit (nthS_sm ha k) (nthS_sm hb k)
    unfold eEdit at hN
    simp -dsimp -implicitDefEqProofs (disch := omega) only [VCA, Nat.reduceEqDiff, ↓reduceIte, reduceCtorEq, he0, he5]
    refine Br.dec (fun hlt => ?_) (fun hge => ?_)
    · by_cases hxy : nth a k = nth b k
      · rw [hxy] at hN
        have hb1 : ((nth b k).edit == (nth b k).edit) = true := by simp
        rw [hb1] at hN
        simp -dsimp -implicitDefEqProofs (disch := omega) only [VCA, Nat.reduceEqDiff, Nat.reduceAdd, Nat.reduceLeDiff, ↓reduceIte, reduceCtorEq, rsOf, rootsOf, rootL, he0, he1, he5, hxy, eStep]
        refine ⟨by omega, by omega, ?_⟩
        repeat' (first | ((with_reducible refine Br.dec (fun _ => ?_) (fun _ => ?_)) <;> try (exfalso; omega)) | ((with_reducible refine Br.eq (fun _ => ?_) (fun _ => ?_)) <;> try (exfalso; omega)) | ((with_reducible refine Br.ne (fun _ => ?_) (fun _ => ?_)) <;> try (exfalso; omega)) | ((with_reducible refine brNdec (fun _ => ?_) (fun _ => ?_)) <;> try (exfalso; omega)) | ((with_reducible refine brNeq (fun _ => ?_) (fun _ => ?_)) <;> try (exfalso; omega)) | with_reducible refine Br.intro (fun _ => ?_) (fun _ => ?_) | (with_reducible apply pcallE.of; · exact hN) | (with_reducible refine And.intro ?_ ?_; · omega) | simp -dsimp -implicitDefEqProofs (disch := omega) only [↓vcD_sp 29, ↓vcD_sp 42, ↓vcD_sp 55, ↓vcD_sp 68, VCA, Nat.reduceEqDiff, Nat.reduceAdd, Nat.reduceLeDiff, ↓reduceIte, reduceCtorEq, rsOf, rootsOf, exists_eq_right_right, rootL, he0, he1, he5, hxy, eStep, bne_self_eq_false])
        all_goals first
          | (refine ⟨_, by omega, k + 1, by omega, rfl, by omega, fun j hj' => ?_⟩; by_cases hjk : j = k; (subst hjk; exact hxy); exact hj j (by omega))
          | (exfalso; rename_i q; revert q; simp; done)
          | trace_state
      · have hne : ¬ a = b := fun e => hxy (by rw [e])
        simp -dsimp -implicitDefEqProofs (disch := omega) only [VCA, Nat.reduceEqDiff, Nat.reduceAdd, Nat.reduceLeDiff, ↓reduceIte, reduceCtorEq, rsOf, rootsOf, rootL, he0, he1, he5, eStep]
        refine ⟨by omega, by omega, ?_⟩
        repeat' (first | ((with_reducible refine Br.dec (fun _ => ?_) (fun _ => ?_)) <;> try (exfalso; omega)) | ((with_reducible refine Br.eq (fun _ => ?_) (fun _ => ?_)) <;> try (exfalso; omega)) | ((with_reducible refine Br.ne (fun _ => ?_) (fun _ => ?_)) <;> try (exfalso; omega)) | ((with_reducible refine brNdec (fun _ => ?_) (fun _ => ?_)) <;> try (exfalso; omega)) | ((with_reducible refine brNeq (fun _ => ?_) (fun _ => ?_)) <;> try (exfalso; omega)) | with_reducible refine Br.intro (fun _ => ?_) (fun _ => ?_) | (with_reducible apply pcallE.of; · exact hN) | (with_reducible refine And.intro ?_ ?_; · omega) | simp -dsimp -implicitDefEqProofs (disch := omega) only [↓vcD_sp 29, ↓vcD_sp 42, ↓vcD_sp 55, ↓vcD_sp 68, VCA, Nat.reduceEqDiff, Nat.reduceAdd, Nat.reduceLeDiff, ↓reduceIte, reduceCtorEq, rsOf, rootsOf, exists_eq_right_right, rootL, he0, he1, he5, eStep])
        all_goals first
          | (first | exact Sub.refl _ | exact ⟨Sub.refl _, by simp [hne]⟩; done)
          | (exfalso; refine hxy (step_ext ?_ ?_ ?_ ?_ ?_) <;> simp_all; done)
          | trace_state
    · simp -dsimp -implicitDefEqProofs (disch := omega) only [VCA, ↓reduceIte, exists_eq_right_right]
      have : a = b := ext_nth h1' (fun j hj' => hj j (by omega))
      first | exact Sub.refl _ | exact ⟨Sub.refl _, by simp [this]⟩
end Go.Proofs.K
end
section
/- Steps: the reference's step. -/
set_option linter.unusedSimpArgs false
set_option linter.unusedVariables false
namespace Go.Proofs.K
open Go Go.Sim Go.Proofs
variable {G : Glob}
theorem attrS_edit (l : List HAttr) (e : HEdit) (k : Nat) : (attrS l e k).edit = e := by unfold attrS; split <;> rfl
theorem attrS_parent (l : List HAttr) (e : HEdit) (k : Nat) : (attrS l e k).parent = 0 := by unfold attrS; split <;> rfl
def zStep : List AVal := [.int .i64 0, .int .i64 0, .int .i64 0, .int .i64 0, .str [], .str [], .int .i64 0, .str [], .emp, .str [], .int .i64 0, .emp, .bool false, .str [], .int .i64 0, .int .i64 0]
theorem zStep_len : zStep.length = 16 := rfl
def c41 : SFun := ⟨(.seq (.reg [⟨(some 2), (.boxF 24 2 (.t 0)), none⟩, ⟨(some 3), (.boxF 42 12 (.t 1)), none⟩, ⟨(some 4), (.new 44 16 [(.int .i64 (0)), (.int .i64 (0)), (.int .i64 (0)), (.int .i64 (0)), (.str []), (.str []), (.int .i64 (0)), (.str []), .emp, (.str []), (.int .i64 (0)), .emp, (.bool false), (.str []), (.int .i64 (0)), (.int .i64 (0))]), none⟩]) (.seq (.reg [⟨(some 8), (.ld 12 true (.t 3)), none⟩, ⟨(some 9), (.bld [(.int .i64 (0)), (.int .i64 (0)), (.int .i64 (0)), (.int .i64 (0)), (.str []), (.str []), (.int .i64 (0)), (.str []), .emp, (.str []), (.int .i64 (0)), .emp, (.bool false), (.str []), (.int .i64 (0)), (.int .i64 (0))] [(0, (12, (.t 8)))]), none⟩, ⟨(some 5), (.new 44 16 [(.int .i64 (0)), (.int .i64 (0)), (.int .i64 (0)), (.int .i64 (0)), (.str []), (.str []), (.int .i64 (0)), (.str []), .emp, (.str []), (.int .i64 (0)), .emp, (.bool false), (.str []), (.int .i64 (0)), (.int .i64 (0))]), none⟩, ⟨none, (.st 16 (.t 5) (.t 9)), none⟩]) (.seq (.seq (.reg [⟨(some 10), (.fldA 0 (.t 3)), none⟩, ⟨(some 11), (.ld 1 false (.t 10)), none⟩, ⟨(some 12), (.bin .eql (.t 11) (.c (.int .i64 (4)))), none⟩]) (.cond (.t 12) (.seq (.reg [⟨(some 13), (.fldA 0 (.t 2)), none⟩, ⟨(some 14), (.ld 1 false (.t 13)), none⟩, ⟨(some 15), (.len (.t 14)), none⟩, ⟨(some 16), (.fldA 15 (.t 5)), none⟩, ⟨none, (.st 1 (.t 16) (.t 15)), none⟩]) (.seq (.reg [⟨(some 17), (.ld 16 true (.t 5)), none⟩, ⟨none, (.st 16 (.t 4) (.t 17)), none⟩]) .ret)) .skip)) (.seq (.reg [⟨(some 18), (.fldA 0 (.t 2)), none⟩, ⟨(some 19), (.ld 1 false (.t 18)), none⟩, ⟨(some 20), (.fldA 1 (.t 3)), none⟩, ⟨(some 21), (.ld 1 false (.t 20)), none⟩, ⟨(some 22), (.idxA 6 (.t 19) (.t 21)), none⟩, ⟨(some 23), (.ld 6 true (.t 22)), none⟩, ⟨(some 6), (.new 40 6 [(.int .i64 (0)), (.str []), .emp, (.str []), (.int .i64 (0)), .emp]), none⟩, ⟨none, (.st 6 (.t 6) (.t 23)), none⟩]) (.seq (.seq (.reg [⟨(some 24), (.fldA 0 (.t 3)), none⟩, ⟨(some 25), (.ld 1 false (.t 24)), none⟩]) (.block 0 (.seq (.seq (.reg [⟨(some 41), (.bin .eql (.t 25) (.c (.int .i64 (1)))), none⟩, ⟨(some 40), (.mv (.t 41)), none⟩]) (.cond (.t 40) .skip (.reg [⟨(some 42), (.bin .eql (.t 25) (.c (.int .i64 (2)))), none⟩, ⟨(some 40), (.mv (.t 42)), none⟩]))) (.cond (.t 40) (.seq (.reg [⟨(some 7), (.mv (.c (.int .i64 (0)))), none⟩]) (.block 1 (.loop (.seq (.seq (.reg [⟨(some 43), (.mv (.t 7)), none⟩, ⟨(some 44), (.fldA 2 (.t 6)), none⟩, ⟨(some 45), (.ld 1 false (.t 44)), none⟩, ⟨(some 46), (.len (.t 45)), none⟩, ⟨(some 47), (.bin .lss (.t 43) (.t 46)), none⟩]) (.cond (.t 47) .skip (.exit 1))) (.seq (.block 2 (.seq (.dreg [(⟨(some 50), (.fldA 2 (.t 6)), none⟩, none), (⟨(some 51), (.ld 1 false (.t 50)), none⟩, none), (⟨(some 52), (.mv (.t 7)), none⟩, none), (⟨(some 53), (.idxA 2 (.t 51) (.t 52)), none⟩, none), (⟨(some 54), (.fldA 0 (.t 53)), none⟩, none), (⟨(some 55), (.ld 1 false (.t 54)), none⟩, none), (⟨(some 56), (.fldA 4 (.t 3)), none⟩, none), (⟨(some 57), (.ld 1 false (.t 56)), none⟩, none), (⟨(some 58), (.bin .eql (.t 55) (.t 57)), none⟩, none)]) (.cond (.t 58) (.dreg [(⟨(some 59), (.fldA 2 (.t 6)), none⟩, none), (⟨(some 60), (.ld 1 false (.t 59)), none⟩, none), (⟨(some 61), (.mv (.t 7)), none⟩, none), (⟨(some 62), (.idxA 2 (.t 60) (.t 61)), none⟩, none), (⟨(some 63), (.fldA 1 (.t 62)), none⟩, none), (⟨(some 64), (.ld 1 false (.t 63)), none⟩, none), (⟨(some 65), (.mv (.t 7)), none⟩, none), (⟨(some 66), (.fldA 12 (.t 5)), none⟩, none), (⟨none, (.st 1 (.t 66) (.c (.bool true))), none⟩, (some [])), (⟨(some 67), (.fldA 13 (.t 5)), none⟩, none), (⟨none, (.st 1 (.t 67) (.t 64)), none⟩, (some [64, 60])), (⟨(some 68), (.fldA 15 (.t 5)), none⟩, none), (⟨none, (.st 1 (.t 68) (.t 65)), none⟩, (some [64, 60]))]) .skip))) (.reg [⟨(some 48), (.mv (.t 7)), none⟩, ⟨(some 49), (.bin .add (.t 48) (.c (.int .i64 (1)))), none⟩, ⟨(some 7), (.mv (.t 49)), none⟩])))))) (.seq (.reg [⟨(some 70), (.bin .eql (.t 25) (.c (.int .i64 (3)))), none⟩, ⟨(some 69), (.mv (.t 70)), none⟩]) (.cond (.t 69) (.reg [⟨(some 71), (.fldA 3 (.t 6)), none⟩, ⟨(some 72), (.ld 1 false (.t 71)), none⟩, ⟨(some 73), (.fldA 13 (.t 5)), none⟩, ⟨none, (.st 1 (.t 73) (.t 72)), none⟩]) (.seq (.reg [⟨(some 75), (.bin .eql (.t 25) (.c (.int .i64 (5)))), none⟩, ⟨(some 74), (.mv (.t 75)), none⟩]) (.cond (.t 74) (.seq (.reg [⟨(some 76), (.fldA 14 (.t 5)), none⟩, ⟨none, (.st 1 (.t 76) (.c (.int .i64 (-1)))), none⟩]) (.seq (.reg [⟨(some 77), (.fldA 5 (.t 6)), none⟩, ⟨(some 78), (.ld 1 false (.t 77)), none⟩, ⟨(some 79), (.len (.t 78)), none⟩, ⟨(some 80), (.fldA 15 (.t 5)), none⟩, ⟨none, (.st 1 (.t 80) (.t 79)), none⟩]) (.seq (.reg [⟨(some 81), (.fldA 3 (.t 3)), none⟩, ⟨(some 82), (.ld 1 false (.t 81)), none⟩, ⟨(some 83), (.bin .neq (.t 82) (.c (.int .i64 (-1)))), none⟩]) (.cond (.t 83) (.reg [⟨(some 84), (.fldA 5 (.t 6)), none⟩, ⟨(some 85), (.ld 1 false (.t 84)), none⟩, ⟨(some 86), (.fldA 3 (.t 3)), none⟩, ⟨(some 87), (.ld 1 false (.t 86)), none⟩, ⟨(some 88), (.pcall 60 [(.t 85), (.t 87)]), none⟩, ⟨(some 89), (.fldA 15 (.t 5)), none⟩, ⟨none, (.st 1 (.t 89) (.t 88)), none⟩]) .skip)))) (.seq (.reg [⟨(some 26), (.fldA 4 (.t 6)), none⟩, ⟨(some 27), (.ld 1 false (.t 26)), none⟩, ⟨(some 28), (.fldA 14 (.t 5)), none⟩, ⟨none, (.st 1 (.t 28) (.t 27)), none⟩]) (.dreg [(⟨(some 29), (.fldA 0 (.t 2)), none⟩, none), (⟨(some 30), (.ld 1 false (.t 29)), none⟩, none), (⟨(some 31), (.fldA 4 (.t 6)), none⟩, none), (⟨(some 32), (.ld 1 false (.t 31)), none⟩, none), (⟨(some 33), (.idxA 6 (.t 30) (.t 32)), none⟩, none), (⟨(some 34), (.fldA 5 (.t 33)), none⟩, none), (⟨(some 35), (.ld 1 false (.t 34)), none⟩, none), (⟨(some 36), (.fldA 1 (.t 3)), none⟩, none), (⟨(some 37), (.ld 1 false (.t 36)), none⟩, none), (⟨(some 38), (.pcall 60 [(.t 35), (.t 37)]), none⟩, none), (⟨(some 39), (.fldA 15 (.t 5)), none⟩, none), (⟨none, (.st 1 (.t 39) (.t 38)), none⟩, (some [35, 37, 30, 32]))])))))))))) (.seq (.reg [⟨(some 90), (.ld 16 true (.t 5)), none⟩, ⟨none, (.st 16 (.t 4) (.t 90)), none⟩]) .ret)))))), [(.cell 4 16 true)]⟩
theorem hc41 : toSF Tryz.prog {pure := [60]} Tryz.f41 = some c41 := by kernel_rfl
theorem hn41 : (Tryz.f41.name == "runtime.NumGoroutine") = false := by kernel_rfl
set_option maxHeartbeats 1000000 in
set_option maxRecDepth 10000 in
theorem recStep_ok (d : HDoc) (V : DV d) (sm : DocSm d) (e : HEdit) (he : EditSm e) (hz : applyE d e = 0) : PCalls (Pg G) 41 [.agg (eDoc d), .agg (eEdit e)] (.agg (eStep (stepM d e))) := fun h => by
  have h0 := applyE_errR V hz
  have vl := V.len
  unfold stepM
  refine dcalls_of_vc Tryz.func41 hn41 hc41 (by rw [Tryz.ntmps41]; simp) (by rw [Tryz.ntmps41]; decide) ?_
  by_cases h4 : e.do' = 4
  · rw [if_pos h4]
    have b4 := bI_t h4
    simp -dsimp -implicitDefEqProofs (disch := omega) only [VCA, ↓upd_none, Nat.reduceEqDiff, Nat.reduceAdd, Nat.reduceLT, Nat.reduceLeDiff, ↓reduceIte, fillA, okFill, setAt, ne_eq, exists_eq_right_right, exists_eq_left', c41, eDoc, eEdit, b4]
    intro r4 hr4 r5 hr5
    have n1 : ¬ r4 = r5 := fun q => hr5.1 q.symm
    have n2 : ¬ r5 = r4 := hr5.1
    repeat' (first | ((with_reducible refine Br.dec (fun _ => ?_) (fun _ => ?_)) <;> try (exfalso; omega)) | ((with_reducible refine Br.eq (fun _ => ?_) (fun _ => ?_)) <;> try (exfalso; omega)) | ((with_reducible refine Br.ne (fun _ => ?_) (fun _ => ?_)) <;> try (exfalso; omega)) | ((with_reducible refine brNdec (fun _ => ?_) (fun _ => ?_)) <;> try (exfalso; omega)) | ((with_reducible refine brNeq (fun _ => ?_) (fun _ => ?_)) <;> try (exfalso; omega)) | with_reducible refine Br.intro (fun _ => ?_) (fun _ => ?_) | (with_reducible refine And.intro ?_ ?_; · omega) | simp -dsimp -implicitDefEqProofs (disch := omega) only [VCA, Nat.reduceAdd, Nat.reduceLT, ↓reduceIte, exists_eq_left', eStep, n1])
    all_goals (repeat' (first | exact Sub.refl _ | exact hr4 | exact hr5.2 | with_reducible refine Sub.upd ?_ ?_))
  rw [if_neg h4]
  have b4 := bI_f h4
  obtain ⟨do1, do6, hA, hT⟩ := errR_at h0 (by omega)
  have hA0 := hA.1
  have hA1 := hA.2
  have e0 : nth d.nodes e.at'.toNat = nd d e.at' := rfl
  have N0 := sm.nd e.at'
  have al := N0.attrs
  have ka := N0.kids
  have hn := attr_nodup V hA
  by_cases h12 : e.do' = 1 ∨ e.do' = 2
  · rw [if_pos h12, ← attrS_end]
    have b12 : (e.do' == 1) = true ∨ (e.do' == 1) = false ∧ (e.do' == 2) = true := by
      rcases h12 with h | h
      · exact .inl (bI_t h)
      · exact .inr ⟨bI_f (by omega), bI_t h⟩
    have fin : ∀ (P : Prop), ((e.do' == 1) = true → P) → ((e.do' == 1) = false → (e.do' == 2) = true → P) → P := fun P p q => b12.elim p fun h => q h.1 h.2
    have s0 : attrS (nd d e.at').attrs e 0 = ⟨e, false, [], 0, 0⟩ := by unfold attrS; rw [if_neg (by omega)]
    apply fin
    · intro b1
      simp -dsimp -implicitDefEqProofs (disch := omega) only [VCA, ↓upd_none, Nat.reduceEqDiff, Nat.reduceAdd, Nat.reduceLT, Nat.reduceLeDiff, ↓reduceIte, fillA, okFill, setAt, ne_eq, exists_eq_left', c41, eDoc, eEdit, eNode, e0, b1, b4]
      intro r4 hr4 r5 hr5
      refine ⟨by omega, fun r6 hr6 => ?_⟩
      have n1 : ¬ r4 = r5 := fun q => hr5.1 q.symm
      have n2 : ¬ r5 = r4 := hr5.1
      have n3 : ¬ r6 = r5 := hr6.1
      have n4 : ¬ r5 = r6 := fun q => n3 q.symm
      have n5 : ¬ r6 = r4 := hr6.2.1
      have n6 : ¬ r4 = r6 := fun q => n5 q.symm
      simp -dsimp -implicitDefEqProofs (disch := omega) only [eStep]
      refine LoopVC.intro (fun m E h' => ∃ k : Nat, k ≤ (nd d e.at').attrs.length ∧ m = (nd d e.at').attrs.length - k ∧ E 3 = .pin (eEdit e) ∧ E 4 = .vp r4 0 ∧ E 5 = .vp r5 0 ∧ E 6 = .vp r6 0 ∧ E 7 = aInt k ∧ h' r5 = some ⟨.t 44, 16, [eStep (attrS (nd d e.at').attrs e k)]⟩ ∧ h' r6 = some ⟨.t 40, 6, [eNode (nd d e.at')]⟩ ∧ h' r4 = some ⟨.t 44, 16, [zStep]⟩ ∧ Sub h h') _
        ⟨0, by omega, rfl, rfl, rfl, rfl, rfl, rfl, ?_, ?_, ?_, ?_⟩ ?_
      · rw [s0]; simp only [upd, n4, if_true, if_false]; rfl
      · exact upd_same _ _ _
      · simp only [upd, n6, n1, if_true, if_false]; rfl
      · exact ((((Sub.refl h).upd hr4).upd hr5.2).upd hr6.2.2)
      rintro m E h' ⟨k, hk, rfl, E3, E4, E5, E6, E7, g5, g6, g4, S⟩
      simp -dsimp -implicitDefEqProofs (disch := omega) only [VCA, Nat.reduceEqDiff, Nat.reduceAdd, Nat.reduceLT, Nat.reduceLeDiff, ↓reduceIte, exists_eq_left', E6, E7, g6, eNode]
      refine Br.dec (fun hlt => ?_) (fun hge => ?_)
      · have hk' : k < (nd d e.at').attrs.length := by omega
        by_cases hx : (nth (nd d e.at').attrs k).name = e.name
        · have hb : ((nth (nd d e.at').attrs k).name == e.name) = true := by simpa using hx
          have hs := attrS_yes hn (e := e) hk' hx
          repeat' (first | ((with_reducible refine Br.dec (fun _ => ?_) (fun _ => ?_)) <;> try (exfalso; omega)) | ((with_reducible refine Br.eq (fun _ => ?_) (fun _ => ?_)) <;> try (exfalso; omega)) | ((with_reducible refine Br.ne (fun _ => ?_) (fun _ => ?_)) <;> try (exfalso; omega)) | ((with_reducible refine brNdec (fun _ => ?_) (fun _ => ?_)) <;> try (exfalso; omega)) | ((with_reducible refine brNeq (fun _ => ?_) (fun _ => ?_)) <;> try (exfalso; omega)) | with_reducible refine Br.intro (fun _ => ?_) (fun _ => ?_) | (with_reducible refine And.intro ?_ ?_; · omega) | simp -dsimp -implicitDefEqProofs (disch := omega) only [VCA, Nat.reduceEqDiff, Nat.reduceBEq, Nat.reduceAdd, Nat.reduceLT, Nat.reduceLeDiff, ↓reduceIte, rsOf, rootsOf, SOp.rd, SI.rd, SX.rd, setAt, implies_true, exists_eq_left', rootL, E3, E4, E5, E6, E7, g5, g6, eNode, eEdit, eStep, eAttr, hb, n1, n3])
          refine ⟨_, by omega, k + 1, by omega, rfl, by omega, ?_, g4, S.upd hr5.2⟩
          simp only [hs, attrS_edit, attrS_parent]
        · have hb : ((nth (nd d e.at').attrs k).name == e.name) = false := by simpa using hx
          have hs := attrS_no hn (e := e) hk' hx
          repeat' (first | ((with_reducible refine Br.dec (fun _ => ?_) (fun _ => ?_)) <;> try (exfalso; omega)) | ((with_reducible refine Br.eq (fun _ => ?_) (fun _ => ?_)) <;> try (exfalso; omega)) | ((with_reducible refine Br.ne (fun _ => ?_) (fun _ => ?_)) <;> try (exfalso; omega)) | ((with_reducible refine brNdec (fun _ => ?_) (fun _ => ?_)) <;> try (exfalso; omega)) | ((with_reducible refine brNeq (fun _ => ?_) (fun _ => ?_)) <;> try (exfalso; omega)) | with_reducible refine Br.intro (fun _ => ?_) (fun _ => ?_) | (with_reducible refine And.intro ?_ ?_; · omega) | simp -dsimp -implicitDefEqProofs (disch := omega) only [VCA, Nat.reduceEqDiff, Nat.reduceAdd, Nat.reduceLT, Nat.reduceLeDiff, ↓reduceIte, rsOf, rootsOf, exists_eq_left', rootL, E3, E4, E5, E6, E7, g5, g6, eNode, eEdit, eStep, eAttr, hb])
          refine ⟨_, by omega, k + 1, by omega, rfl, by omega, ?_, g4, S⟩
          rw [hs]
      · obtain rfl : k = (nd d e.at').attrs.length := by omega
        repeat' (first | ((with_reducible refine Br.dec (fun _ => ?_) (fun _ => ?_)) <;> try (exfalso; omega)) | ((with_reducible refine Br.eq (fun _ => ?_) (fun _ => ?_)) <;> try (exfalso; omega)) | ((with_reducible refine Br.ne (fun _ => ?_) (fun _ => ?_)) <;> try (exfalso; omega)) | ((with_reducible refine brNdec (fun _ => ?_) (fun _ => ?_)) <;> try (exfalso; omega)) | ((with_reducible refine brNeq (fun _ => ?_) (fun _ => ?_)) <;> try (exfalso; omega)) | with_reducible refine Br.intro (fun _ => ?_) (fun _ => ?_) | (with_reducible refine And.intro ?_ ?_; · omega) | simp -dsimp -implicitDefEqProofs (disch := omega) only [VCA, Nat.reduceEqDiff, Nat.reduceAdd, Nat.reduceLT, Nat.reduceLeDiff, ↓reduceIte, setAt, exists_eq_right_right, exists_eq_left', E4, E5, g4, g5, eEdit, eStep, zStep_len])
        exact S.upd hr4
    · intro b1 b2
      simp -dsimp -implicitDefEqProofs (disch := omega) only [VCA, ↓upd_none, Nat.reduceEqDiff, Nat.reduceAdd, Nat.reduceLT, Nat.reduceLeDiff, ↓reduceIte, fillA, okFill, setAt, ne_eq, exists_eq_left', c41, eDoc, eEdit, eNode, e0, b1, b2, b4]
      intro r4 hr4 r5 hr5
      refine ⟨by omega, fun r6 hr6 => ?_⟩
      have n1 : ¬ r4 = r5 := fun q => hr5.1 q.symm
      have n2 : ¬ r5 = r4 := hr5.1
      have n3 : ¬ r6 = r5 := hr6.1
      have n4 : ¬ r5 = r6 := fun q => n3 q.symm
      have n5 : ¬ r6 = r4 := hr6.2.1
      have n6 : ¬ r4 = r6 := fun q => n5 q.symm
      simp -dsimp -implicitDefEqProofs (disch := omega) only [eStep]
      refine LoopVC.intro (fun m E h' => ∃ k : Nat, k ≤ (nd d e.at').attrs.length ∧ m = (nd d e.at').attrs.length - k ∧ E 3 = .pin (eEdit e) ∧ E 4 = .vp r4 0 ∧ E 5 = .vp r5 0 ∧ E 6 = .vp r6 0 ∧ E 7 = aInt k ∧ h' r5 = some ⟨.t 44, 16, [eStep (attrS (nd d e.at').attrs e k)]⟩ ∧ h' r6 = some ⟨.t 40, 6, [eNode (nd d e.at')]⟩ ∧ h' r4 = some ⟨.t 44, 16, [zStep]⟩ ∧ Sub h h') _
        ⟨0, by omega, rfl, rfl, rfl, rfl, rfl, rfl, ?_, ?_, ?_, ?_⟩ ?_
      · rw [s0]; simp only [upd, n4, if_true, if_false]; rfl
      · exact upd_same _ _ _
      · simp only [upd, n6, n1, if_true, if_false]; rfl
      · exact ((((Sub.refl h).upd hr4).upd hr5.2).upd hr6.2.2)
      rintro m E h' ⟨k, hk, rfl, E3, E4, E5, E6, E7, g5, g6, g4, S⟩
      simp -dsimp -implicitDefEqProofs (disch := omega) only [VCA, Nat.reduceEqDiff, Nat.reduceAdd, Nat.reduceLT, Nat.reduceLeDiff, ↓reduceIte, exists_eq_left', E6, E7, g6, eNode]
      refine Br.dec (fun hlt => ?_) (fun hge => ?_)
      · have hk' : k < (nd d e.at').attrs.length := by omega
        by_cases hx : (nth (nd d e.at').attrs k).name = e.name
        · have hb : ((nth (nd d e.at').attrs k).name == e.name) = true := by simpa using hx
          have hs := attrS_yes hn (e := e) hk' hx
          repeat' (first | ((with_reducible refine Br.dec (fun _ => ?_) (fun _ => ?_)) <;> try (exfalso; omega)) | ((with_reducible refine Br.eq (fun _ => ?_) (fun _ => ?_)) <;> try (exfalso; omega)) | ((with_reducible refine Br.ne (fun _ => ?_) (fun _ => ?_)) <;> try (exfalso; omega)) | ((with_reducible refine brNdec (fun _ => ?_) (fun _ => ?_)) <;> try (exfalso; omega)) | ((with_reducible refine brNeq (fun _ => ?_) (fun _ => ?_)) <;> try (exfalso; omega)) | with_reducible refine Br.intro (fun _ => ?_) (fun _ => ?_) | (with_reducible refine And.intro ?_ ?_; · omega) | simp -dsimp -implicitDefEqProofs (disch := omega) only [VCA, Nat.reduceEqDiff, Nat.reduceBEq, Nat.reduceAdd, Nat.reduceLT, Nat.reduceLeDiff, ↓reduceIte, rsOf, rootsOf, SOp.rd, SI.rd, SX.rd, setAt, implies_true, exists_eq_left', rootL, E3, E4, E5, E6, E7, g5, g6, eNode, eEdit, eStep, eAttr, hb, n1, n3])
          refine ⟨_, by omega, k + 1, by omega, rfl, by omega, ?_, g4, S.upd hr5.2⟩
          simp only [hs, attrS_edit, attrS_parent]
        · have hb : ((nth (nd d e.at').attrs k).name == e.name) = false := by simpa using hx
          have hs := attrS_no hn (e := e) hk' hx
          repeat' (first | ((with_reducible refine Br.dec (fun _ => ?_) (fun _ => ?_)) <;> try (exfalso; omega)) | ((with_reducible refine Br.eq (fun _ => ?_) (fun _ => ?_)) <;> try (exfalso; omega)) | ((with_reducible refine Br.ne (fun _ => ?_) (fun _ => ?_)) <;> try (exfalso; omega)) | ((with_reducible refine brNdec (fun _ => ?_) (fun _ => ?_)) <;> try (exfalso; omega)) | ((with_reducible refine brNeq (fun _ => ?_) (fun _ => ?_)) <;> try (exfalso; omega)) | with_reducible refine Br.intro (fun _ => ?_) (fun _ => ?_) | (with_reducible refine And.intro ?_ ?_; · omega) | simp -dsimp -implicitDefEqProofs (disch := omega) only [VCA, Nat.reduceEqDiff, Nat.reduceAdd, Nat.reduceLT, Nat.reduceLeDiff, ↓reduceIte, rsOf, rootsOf, exists_eq_left', rootL, E3, E4, E5, E6, E7, g5, g6, eNode, eEdit, eStep, eAttr, hb])
          refine ⟨_, by omega, k + 1, by omega, rfl, by omega, ?_, g4, S⟩
          rw [hs]
      · obtain rfl : k = (nd d e.at').attrs.length := by omega
        repeat' (first | ((with_reducible refine Br.dec (fun _ => ?_) (fun _ => ?_)) <;> try (exfalso; omega)) | ((with_reducible refine Br.eq (fun _ => ?_) (fun _ => ?_)) <;> try (exfalso; omega)) | ((with_reducible refine Br.ne (fun _ => ?_) (fun _ => ?_)) <;> try (exfalso; omega)) | ((with_reducible refine brNdec (fun _ => ?_) (fun _ => ?_)) <;> try (exfalso; omega)) | ((with_reducible refine brNeq (fun _ => ?_) (fun _ => ?_)) <;> try (exfalso; omega)) | with_reducible refine Br.intro (fun _ => ?_) (fun _ => ?_) | (with_reducible refine And.intro ?_ ?_; · omega) | simp -dsimp -implicitDefEqProofs (disch := omega) only [VCA, Nat.reduceEqDiff, Nat.reduceAdd, Nat.reduceLT, Nat.reduceLeDiff, ↓reduceIte, setAt, exists_eq_right_right, exists_eq_left', E4, E5, g4, g5, eEdit, eStep, zStep_len])
        exact S.upd hr4
  rw [if_neg h12]
  have b1 : (e.do' == 1) = false := bI_f (by omega)
  have b2 : (e.do' == 2) = false := bI_f (by omega)
  by_cases h3 : e.do' = 3
  · rw [if_pos h3]
    have b3 := bI_t h3
    simp -dsimp -implicitDefEqProofs (disch := omega) only [VCA, ↓upd_none, Nat.reduceEqDiff, Nat.reduceAdd, Nat.reduceLT, Nat.reduceLeDiff, ↓reduceIte, fillA, okFill, setAt, ne_eq, exists_eq_right_right, exists_eq_left', c41, eDoc, eEdit, eNode, e0, b1, b2, b3, b4]
    intro r4 hr4 r5 hr5
    refine ⟨by omega, fun r6 hr6 => ?_⟩
    have n1 : ¬ r4 = r5 := fun q => hr5.1 q.symm
    have n2 : ¬ r5 = r4 := hr5.1
    have n3 : ¬ r6 = r5 := hr6.1
    have n4 : ¬ r5 = r6 := fun q => n3 q.symm
    have n5 : ¬ r6 = r4 := hr6.2.1
    have n6 : ¬ r4 = r6 := fun q => n5 q.symm
    repeat' (first | ((with_reducible refine Br.dec (fun _ => ?_) (fun _ => ?_)) <;> try (exfalso; omega)) | ((with_reducible refine Br.eq (fun _ => ?_) (fun _ => ?_)) <;> try (exfalso; omega)) | ((with_reducible refine Br.ne (fun _ => ?_) (fun _ => ?_)) <;> try (exfalso; omega)) | ((with_reducible refine brNdec (fun _ => ?_) (fun _ => ?_)) <;> try (exfalso; omega)) | ((with_reducible refine brNeq (fun _ => ?_) (fun _ => ?_)) <;> try (exfalso; omega)) | with_reducible refine Br.intro (fun _ => ?_) (fun _ => ?_) | (with_reducible refine And.intro ?_ ?_; · omega) | simp -dsimp -implicitDefEqProofs (disch := omega) only [VCA, Nat.reduceAdd, Nat.reduceLT, Nat.reduceLeDiff, ↓reduceIte, exists_eq_left', eStep, n1, n4, n6])
    all_goals (repeat' (first | exact Sub.refl _ | exact hr4 | exact hr5.2 | exact hr6.2.2 | with_reducible refine Sub.upd ?_ ?_))
  rw [if_neg h3]
  have b3 := bI_f h3
  by_cases h5 : e.do' = 5
  · rw [if_pos h5]
    have b5 := bI_t h5
    obtain ⟨i1, i2, i3⟩ := ins_room V h5 h0
    have hI := placeIn_ok (G := G) (nd d e.at').kids e.before ka
    by_cases c3 : e.before = -1
    · have d3 : (e.before != -1) = false := bN_f c3
      have i2 := i2 c3
      rw [i2, i1]
      simp -dsimp -implicitDefEqProofs (disch := omega) only [VCA, ↓upd_none, Nat.reduceEqDiff, Nat.reduceAdd, Nat.reduceLT, Nat.reduceLeDiff, ↓reduceIte, fillA, okFill, setAt, ne_eq, exists_eq_right_right, exists_eq_left', c41, eDoc, eEdit, eNode, e0, b1, b2, b3, b4, b5, d3]
      intro r4 hr4 r5 hr5
      refine ⟨by omega, fun r6 hr6 => ?_⟩
      have n1 : ¬ r4 = r5 := fun q => hr5.1 q.symm
      have n2 : ¬ r5 = r4 := hr5.1
      have n3 : ¬ r6 = r5 := hr6.1
      have n4 : ¬ r5 = r6 := fun q => n3 q.symm
      have n5 : ¬ r6 = r4 := hr6.2.1
      have n6 : ¬ r4 = r6 := fun q => n5 q.symm
      repeat' (first | ((with_reducible refine Br.dec (fun _ => ?_) (fun _ => ?_)) <;> try (exfalso; omega)) | ((with_reducible refine Br.eq (fun _ => ?_) (fun _ => ?_)) <;> try (exfalso; omega)) | ((with_reducible refine Br.ne (fun _ => ?_) (fun _ => ?_)) <;> try (exfalso; omega)) | ((with_reducible refine brNdec (fun _ => ?_) (fun _ => ?_)) <;> try (exfalso; omega)) | ((with_reducible refine brNeq (fun _ => ?_) (fun _ => ?_)) <;> try (exfalso; omega)) | with_reducible refine Br.intro (fun _ => ?_) (fun _ => ?_) | (with_reducible refine And.intro ?_ ?_; · omega) | simp -dsimp -implicitDefEqProofs (disch := omega) only [VCA, Nat.reduceAdd, Nat.reduceLT, Nat.reduceLeDiff, ↓reduceIte, exists_eq_left', eStep, n1, n3, n4, n6])
      all_goals (repeat' (first | exact Sub.refl _ | exact hr4 | exact hr5.2 | exact hr6.2.2 | with_reducible refine Sub.upd ?_ ?_))
    · have d3 : (e.before != -1) = true := bN_t c3
      obtain ⟨i3, i4⟩ := i3 c3
      rw [i4]
      generalize idxM (· == e.before) (nd d e.at').kids = q at *
      simp -dsimp -implicitDefEqProofs (disch := omega) only [VCA, ↓upd_none, Nat.reduceEqDiff, Nat.reduceAdd, Nat.reduceLT, Nat.reduceLeDiff, ↓reduceIte, fillA, okFill, setAt, ne_eq, exists_eq_left', c41, eDoc, eEdit, eNode, e0, b1, b2, b3, b4, b5, d3]
      intro r4 hr4 r5 hr5
      refine ⟨by omega, fun r6 hr6 => ?_⟩
      have n1 : ¬ r4 = r5 := fun q => hr5.1 q.symm
      have n2 : ¬ r5 = r4 := hr5.1
      have n3 : ¬ r6 = r5 := hr6.1
      have n4 : ¬ r5 = r6 := fun q => n3 q.symm
      have n5 : ¬ r6 = r4 := hr6.2.1
      have n6 : ¬ r4 = r6 := fun q => n5 q.symm
      repeat' (first | ((with_reducible refine Br.dec (fun _ => ?_) (fun _ => ?_)) <;> try (exfalso; omega)) | ((with_reducible refine Br.eq (fun _ => ?_) (fun _ => ?_)) <;> try (exfalso; omega)) | ((with_reducible refine Br.ne (fun _ => ?_) (fun _ => ?_)) <;> try (exfalso; omega)) | ((with_reducible refine brNdec (fun _ => ?_) (fun _ => ?_)) <;> try (exfalso; omega)) | ((with_reducible refine brNeq (fun _ => ?_) (fun _ => ?_)) <;> try (exfalso; omega)) | with_reducible refine Br.intro (fun _ => ?_) (fun _ => ?_) | (with_reducible apply pcallE.of; · exact hI) | (with_reducible refine And.intro ?_ ?_; · omega) | simp -dsimp -implicitDefEqProofs (disch := omega) only [VCA, Nat.reduceEqDiff, Nat.reduceAdd, Nat.reduceLT, Nat.reduceLeDiff, ↓reduceIte, setAt, exists_eq_right_right, exists_eq_left', eStep, n1, n3, n4, n6])
      all_goals (repeat' (first | exact Sub.refl _ | exact hr4 | exact hr5.2 | exact hr6.2.2 | with_reducible refine Sub.upd ?_ ?_))
  rw [if_neg h5]
  have b5 := bI_f h5
  have h6 : e.do' = 6 := by omega
  have b6 := bI_t h6
  have hpp : 0 ≤ (nd d e.at').parent := by
    rw [errR_6 h6 hA] at h0
    split at h0
    · omega
    · split at h0 <;> omega
  have hP := (V.par_in hA hpp).1
  have hP0 := hP.1
  have hP1 := hP.2
  have kl := (sm.nd (nd d e.at').parent).kids
  have hI := placeIn_ok (G := G) (nd d (nd d e.at').parent).kids e.at' kl
  have e1 : nth d.nodes (nd d e.at').parent.toNat = nd d (nd d e.at').parent := rfl
  generalize idxM (· == e.at') (nd d (nd d e.at').parent).kids = q at *
  simp -dsimp -implicitDefEqProofs (disch := omega) only [VCA, ↓upd_none, Nat.reduceEqDiff, Nat.reduceAdd, Nat.reduceLT, Nat.reduceLeDiff, ↓reduceIte, rsOf, rootsOf, fillA, okFill, setAt, ne_eq, exists_eq_left', rootL, c41, eDoc, eEdit, eNode, e0, b1, b2, b3, b4, b5]
  intro r4 hr4 r5 hr5
  refine ⟨by omega, fun r6 hr6 => ?_⟩
  have n1 : ¬ r4 = r5 := fun q => hr5.1 q.symm
  have n2 : ¬ r5 = r4 := hr5.1
  have n3 : ¬ r6 = r5 := hr6.1
  have n4 : ¬ r5 = r6 := fun q => n3 q.symm
  have n5 : ¬ r6 = r4 := hr6.2.1
  have n6 : ¬ r4 = r6 := fun q => n5 q.symm
  repeat' (first | ((with_reducible refine Br.dec (fun _ => ?_) (fun _ => ?_)) <;> try (exfalso; omega)) | ((with_reducible refine Br.eq (fun _ => ?_) (fun _ => ?_)) <;> try (exfalso; omega)) | ((with_reducible refine Br.ne (fun _ => ?_) (fun _ => ?_)) <;> try (exfalso; omega)) | ((with_reducible refine brNdec (fun _ => ?_) (fun _ => ?_)) <;> try (exfalso; omega)) | ((with_reducible refine brNeq (fun _ => ?_) (fun _ => ?_)) <;> try (exfalso; omega)) | with_reducible refine Br.intro (fun _ => ?_) (fun _ => ?_) | (with_reducible apply pcallE.of; · exact hI) | (with_reducible refine And.intro ?_ ?_; · omega) | simp -dsimp -implicitDefEqProofs (disch := omega) only [VCA, Nat.reduceEqDiff, Nat.reduceBEq, Nat.reduceAdd, Nat.reduceLT, Nat.reduceLeDiff, ↓reduceIte, rsOf, rootsOf, SOp.rd, SI.rd, SX.rd, setAt, implies_true, exists_eq_right_right, exists_eq_left', rootL, eStep, eNode, n1, n3, n4, n6, e1])
  all_goals (repeat' (first | exact Sub.refl _ | exact hr4 | exact hr5.2 | exact hr6.2.2 | with_reducible refine Sub.upd ?_ ?_))
end Go.Proofs.K
end
section
/- Steps: Do. -/
set_option linter.unusedSimpArgs false
set_option linter.unusedVariables false
namespace Go.Proofs.K
open Go Go.Sim Go.Proofs
variable {G : Glob}
theorem _root_.Go.Sim.Acc.re {h1 h2 h1' h2' : Heap} {ty : TypeId} {sz : Nat} {cells : List (List AVal)} {a : AVal} (A : Acc h1 ty sz cells a h2) (hd : ∀ r o, h1 r = none → h2 r = some o → h1' r = none ∧ h2' r = some o) : Acc h1' ty sz cells a h2' := by
  rcases A with h | ⟨r, h0, h1, h2⟩
  · exact .inl h
  · exact .inr ⟨r, (hd r _ h0 h1).1, (hd r _ h0 h1).2, h2⟩
theorem _root_.Go.Sim.Acc.keepA {h h1 : Heap} {ty : TypeId} {sz : Nat} {cells : List (List AVal)} {a : AVal} (A : Acc h ty sz cells a h1) {r2 : Nat} (hn : rootOf a ≠ some r2) (o : Option AObj) : Acc h ty sz cells a (upd h1 r2 o) := by
  rcases A with q | ⟨r, q0, q1, q2⟩
  · exact .inl q
  · have : r ≠ r2 := fun e => hn (by rw [q2, e]; rfl)
    exact .inr ⟨r, q0, by rw [upd_ne _ _ this]; exact q1, q2⟩
theorem _root_.Go.Sim.Acc.vw {h h' : Heap} {ty : TypeId} {sz : Nat} {cells : List (List AVal)} {a : AVal} (A : Acc h ty sz cells a h') (hl : ∀ f ∈ cells, f.length = sz) : Vw (newH h h') a (.slc cells) := by
  rcases A with ⟨rfl, rfl⟩ | ⟨r, h0, h1, rfl⟩
  · exact .emp
  · exact Vw.osl0 (by rw [newH_none h0]; exact h1) rfl (Nat.le_refl _) hl (by rw [List.take_length]; exact F2.refl (F2.refl .refl) _)
theorem _root_.Go.Sim.Acc.appW {h h' : Heap} {ty : TypeId} {sz b : Nat} {cells es2 : List (List AVal)} {a : AVal} {K : AVal → Heap → Prop} (A : Acc h ty sz cells a h') (S : Sub h h')
    (h1 : (cells.length + es2.length) * b ≤ 140737488355328) (h2 : cells.length + es2.length ≤ 140737488355328)
    (hk : ∀ a' h'', Acc h ty sz (cells ++ es2) a' h'' → Sub h h'' → (∀ r o, h' r = some o → rootOf a ≠ some r → h'' r = some o ∧ rootOf a' ≠ some r) → K a' h'') : Hd (appE ty sz b a es2 h') K .mk := by
  rcases A with ⟨rfl, rfl⟩ | ⟨r, h0, hr, rfl⟩
  · refine ⟨by simpa using h1, by simpa using h2, fun r hr => hk _ _ ?_ (S.upd (S.none hr)) fun x o hx _ => ?_⟩
    · exact .inr ⟨r, S.none hr, by simp, rfl⟩
    · have : x ≠ r := fun e => by rw [e, hr] at hx; cases hx
      exact ⟨by rw [upd_ne _ _ this]; exact hx, fun e => this (by cases e; rfl)⟩
  · refine ⟨rfl, _, hr, rfl, by simp, h1, h2, fun r' hr' => hk _ _ ?_ ?_ fun x o hx hn => ?_⟩
    · have hn : h r' = none := (S.del h0).none hr'
      refine .inr ⟨r', hn, by simp, by simp⟩
    · exact (S.del h0).upd ((S.del h0).none hr')
    · have hxr : x ≠ r := fun e => hn (by rw [e]; rfl)
      have hd : del h' r x = some o := by unfold del; rw [if_neg hxr]; exact hx
      have : x ≠ r' := fun e => by rw [e, hr'] at hd; cases hd
      exact ⟨by rw [upd_ne _ _ this]; exact hd, fun e => this (by cases e; rfl)⟩
def c11 : SFun := ⟨(.seq (.reg [⟨(some 2), (.box 24 2 (.t 0)), none⟩, ⟨(some 4), (.new 24 2 [.emp, (.bool false)]), none⟩, ⟨(some 5), (.mv (.c .emp)), none⟩, ⟨(some 6), (.mv (.c (.int .i64 (0)))), none⟩, ⟨(some 7), (.mv (.c (.int .i64 (0)))), none⟩]) (.seq (.seq (.reg [⟨(some 18), (.ld 2 true (.t 2)), none⟩, ⟨(some 19), (.mv (.t 1)), none⟩, ⟨(some 20), (.pcall 38 [(.t 18), (.t 19)]), none⟩, ⟨(some 17), (.mv (.t 20)), none⟩, ⟨(some 21), (.ext (.t 17) 0), none⟩, ⟨(some 22), (.ext (.t 17) 1), none⟩, ⟨(some 23), (.ext (.t 17) 2), none⟩, ⟨(some 8), (.new 24 2 [.emp, (.bool false)]), none⟩, ⟨none, (.st 2 (.t 8) (.t 21)), none⟩, ⟨(some 9), (.mv (.t 22)), none⟩, ⟨(some 10), (.mv (.t 23)), none⟩]) (.seq (.reg [⟨(some 24), (.mv (.t 10)), none⟩, ⟨(some 25), (.bin .neq (.t 24) (.c (.int .i64 (0)))), none⟩]) (.cond (.t 25) (.seq (.reg [⟨(some 26), (.bld [.emp, (.bool false)] []), none⟩, ⟨(some 27), (.mv (.t 9)), none⟩, ⟨(some 28), (.mv (.t 10)), none⟩, ⟨none, (.st 2 (.t 4) (.t 26)), none⟩, ⟨(some 5), (.mv (.c .emp)), none⟩, ⟨(some 6), (.mv (.t 27)), none⟩, ⟨(some 7), (.mv (.t 28)), none⟩]) .ret) .skip))) (.seq (.reg [⟨(some 30), (.ld 2 true (.t 2)), none⟩, ⟨(some 31), (.pcall 38 [(.t 30), (.c .emp)]), none⟩, ⟨(some 29), (.mv (.t 31)), none⟩, ⟨(some 32), (.ext (.t 29) 0), none⟩, ⟨(some 33), (.ext (.t 29) 1), none⟩, ⟨(some 34), (.ext (.t 29) 2), none⟩, ⟨none, (.st 2 (.t 2) (.t 32)), none⟩]) (.seq (.reg [⟨(some 11), (.mv (.c .emp)), none⟩]) (.seq (.seq (.reg [⟨(some 35), (.mv (.t 1)), none⟩, ⟨(some 36), (.len (.t 35)), none⟩, ⟨(some 37), (.mv (.c (.int .i64 (0)))), none⟩]) (.block 0 (.loop (.seq (.reg [⟨(some 38), (.bin .lss (.t 37) (.t 36)), none⟩]) (.seq (.cond (.t 38) .skip (.exit 0)) (.seq (.block 1 (.seq (.reg [⟨(some 39), (.idxA 12 (.t 35) (.t 37)), none⟩, ⟨(some 40), (.ld 12 true (.t 39)), none⟩, ⟨(some 13), (.new 42 12 [(.int .i64 (0)), (.int .i64 (0)), (.int .i64 (0)), (.int .i64 (0)), (.str []), (.str []), (.int .i64 (0)), (.str []), .emp, (.str []), (.int .i64 (0)), .emp]), none⟩, ⟨none, (.st 12 (.t 13) (.t 40)), none⟩]) (.seq (.reg [⟨(some 42), (.ld 2 true (.t 2)), none⟩, ⟨(some 43), (.ld 12 true (.t 13)), none⟩, ⟨(some 44), (.pcall 39 [(.t 42), (.t 43)]), none⟩, ⟨(some 41), (.mv (.t 44)), none⟩, ⟨(some 45), (.ext (.t 41) 0), none⟩, ⟨(some 46), (.ext (.t 41) 1), none⟩, ⟨(some 47), (.ext (.t 41) 2), none⟩, ⟨(some 14), (.new 24 2 [.emp, (.bool false)]), none⟩, ⟨none, (.st 2 (.t 14) (.t 45)), none⟩, ⟨(some 15), (.mv (.t 46)), none⟩, ⟨(some 16), (.mv (.t 47)), none⟩]) (.seq (.reg [⟨(some 48), (.mv (.t 11)), none⟩, ⟨(some 49), (.ld 2 true (.t 2)), none⟩, ⟨(some 50), (.ld 2 true (.t 14)), none⟩, ⟨(some 51), (.ld 12 true (.t 13)), none⟩, ⟨(some 52), (.mv (.t 15)), none⟩, ⟨(some 53), (.pcall 40 [(.t 49), (.t 50), (.t 51), (.t 52)]), none⟩, ⟨(some 54), (.bldF 44 16 [(.t 53)]), none⟩, ⟨(some 55), (.app 44 16 200 (.t 48) (.t 54)), none⟩, ⟨(some 11), (.mv (.t 55)), none⟩]) (.reg [⟨(some 56), (.ld 2 true (.t 14)), none⟩, ⟨none, (.st 2 (.t 2) (.t 56)), none⟩]))))) (.reg [⟨(some 57), (.bin .add (.t 37) (.c (.int .i64 (1)))), none⟩, ⟨(some 37), (.mv (.t 57)), none⟩]))))))) (.seq (.reg [⟨(some 58), (.ld 2 true (.t 2)), none⟩, ⟨(some 59), (.mv (.t 11)), none⟩, ⟨none, (.st 2 (.t 4) (.t 58)), none⟩, ⟨(some 5), (.mv (.t 59)), none⟩, ⟨(some 6), (.mv (.c (.int .i64 (0)))), none⟩, ⟨(some 7), (.mv (.c (.int .i64 (0)))), none⟩]) .ret)))))), [(.cell 4 2 true), (.tmp 5), (.tmp 6), (.tmp 7)]⟩
theorem hc11 : toSF Tryz.prog {pure := [38, 39, 40], how := [(2, 6)]} Tryz.f11 = some c11 := by kernel_rfl
theorem hn11 : (Tryz.f11.name == "runtime.NumGoroutine") = false := by kernel_rfl
set_option maxHeartbeats 1000000 in
set_option maxRecDepth 10000 in
theorem do_ok (d : HDoc) (sm : DocSm d) (l : List HEdit) (hl : ∀ e ∈ l, EditSm e) (ll : l.length ≤ 1073741824) : PCalls (Pg G) 11 [.agg (eDoc d), sl eEdit l] (doV d l) := PCalls.outV fun h => by
  have hAll := all_ok (G := G) d sm l hl ll
  have hNil := (all_ok (G := G) d sm [] (fun e he => by cases he) (Nat.zero_le _)).wk (.cons (.refl _) (.cons .emp .nil))
  unfold allV at hAll hNil
  unfold doV
  refine dcalls_of_vc Tryz.func11 hn11 hc11 (by rw [Tryz.ntmps11]; simp) (by rw [Tryz.ntmps11]; decide) ?_
  simp -dsimp -implicitDefEqProofs (disch := omega) only [VCA, ↓upd_none, Nat.reduceEqDiff, ↓reduceIte, ne_eq, c11, eDoc_len]
  intro r2 hr2 r4 hr4
  have n1 : ¬ r4 = r2 := hr4.1
  have n2 : ¬ r2 = r4 := fun q => n1 q.symm
  by_cases h0 : (allM d l).2.2 = 0
  · obtain ⟨hd, l40, aM⟩ := allM_zero h0
    rw [allM_nil hd] at hNil
    have V := docE_DV hd
    rw [if_pos h0]
    have b0 : ((allM d l).2.2 != 0) = false := bN_f h0
    repeat' (first | ((with_reducible refine Br.dec (fun _ => ?_) (fun _ => ?_)) <;> try (exfalso; omega)) | ((with_reducible refine Br.eq (fun _ => ?_) (fun _ => ?_)) <;> try (exfalso; omega)) | ((with_reducible refine Br.ne (fun _ => ?_) (fun _ => ?_)) <;> try (exfalso; omega)) | ((with_reducible refine brNdec (fun _ => ?_) (fun _ => ?_)) <;> try (exfalso; omega)) | ((with_reducible refine brNeq (fun _ => ?_) (fun _ => ?_)) <;> try (exfalso; omega)) | with_reducible refine Br.intro (fun _ => ?_) (fun _ => ?_) | (with_reducible apply pcallE.of; · exact hAll) | (with_reducible refine And.intro ?_ ?_; · omega) | simp -dsimp -implicitDefEqProofs (disch := omega) only [VCA, ↓upd_none, Nat.reduceEqDiff, Nat.reduceAdd, Nat.reduceLT, ↓reduceIte, setAt, ne_eq, exists_eq_left', eDoc_len, eDoc_take, n2, b0])
    intro r8 hr8
    have n3 : ¬ r8 = r4 := hr8.1
    have n4 : ¬ r4 = r8 := fun q => n3 q.symm
    have n5 : ¬ r8 = r2 := hr8.2.1
    have n6 : ¬ r2 = r8 := fun q => n5 q.symm
    repeat' (first | ((with_reducible refine Br.dec (fun _ => ?_) (fun _ => ?_)) <;> try (exfalso; omega)) | ((with_reducible refine Br.eq (fun _ => ?_) (fun _ => ?_)) <;> try (exfalso; omega)) | ((with_reducible refine Br.ne (fun _ => ?_) (fun _ => ?_)) <;> try (exfalso; omega)) | ((with_reducible refine brNdec (fun _ => ?_) (fun _ => ?_)) <;> try (exfalso; omega)) | ((with_reducible refine brNeq (fun _ => ?_) (fun _ => ?_)) <;> try (exfalso; omega)) | with_reducible refine Br.intro (fun _ => ?_) (fun _ => ?_) | (with_reducible apply pcallE.of; · exact hNil) | (with_reducible refine And.intro ?_ ?_; · omega) | simp -dsimp -implicitDefEqProofs (disch := omega) only [VCA, Nat.reduceEqDiff, Nat.reduceAdd, Nat.reduceLT, ↓reduceIte, setAt, exists_eq_left', eDoc_len, eDoc_take, eDoc_drop, n2, n6])
    refine LoopVC.intro (fun m E h' => ∃ (k : Nat) (D : HDoc) (a : AVal) (acc : List HStep), k ≤ l.length ∧ m = l.length - k ∧ acc.length = k ∧ E 2 = .vp r2 0 ∧ E 4 = .vp r4 0 ∧ E 11 = a ∧ E 35 = sl eEdit l ∧ E 36 = aInt l.length ∧ E 37 = aInt k ∧ h' r2 = some ⟨.t 24, 2, [eDoc D]⟩ ∧ h' r4 = some ⟨.t 24, 2, [[.emp, .bool false]]⟩ ∧
        Acc h 44 16 (acc.map eStep) a h' ∧ Sub h h' ∧ rootOf a ≠ some r2 ∧ rootOf a ≠ some r4 ∧ DV D ∧ DocSm D ∧ runM D (l.drop k) k = allM d l ∧ acc ++ recM D (l.drop k) = recM d l) l.length
      ⟨0, d, .emp, [], by omega, by omega, rfl, rfl, rfl, rfl, rfl, rfl, rfl, ?_, ?_, .nil, ?_, (fun e => by cases e), (fun e => by cases e), V, sm, by rw [aM]; rfl, rfl⟩ ?_
    · exact upd_same _ _ _
    · simp only [upd, n1, n4, if_true, if_false]
    · repeat' (first | exact Sub.refl _ | exact hr2 | exact hr4.2 | exact hr8.2.2 | with_reducible refine Sub.upd ?_ ?_)
    rintro m E h' ⟨k, D, a, acc, hk, rfl, la, E2, E4, E11, E35, E36, E37, g2, g4, A, S, na2, na4, W, smD, hrun, hrec⟩
    simp -dsimp -implicitDefEqProofs (disch := omega) only [VCA, ↓reduceIte, ne_eq, E36, E37]
    refine Br.dec (fun hlt => ?_) (fun hge => ?_)
    · have hk' : k < l.length := by omega
      rw [runM_cons hk'] at hrun
      rw [recM_cons hk'] at hrec
      have hx := hl _ (nth_mem' hk')
      obtain ⟨x, hxx⟩ : ∃ x, nth l k = x := ⟨_, rfl⟩
      rw [hxx] at hrun hrec hx
      have hz : applyE D x = 0 := by
        apply Classical.byContradiction; intro hn
        rw [if_pos hn] at hrun
        rw [← hrun] at h0; exact hn h0
      rw [if_neg (by simpa using hz)] at hrun
      obtain ⟨W2, sm2, _, _⟩ := apply_step W smD hx hz
      have hAp := apply_ok (G := G) D smD x hx
      rw [hz] at hAp
      have hNo := noted_ok (G := G) D W smD x hx hz
      repeat' (first | ((with_reducible refine Br.dec (fun _ => ?_) (fun _ => ?_)) <;> try (exfalso; omega)) | ((with_reducible refine Br.eq (fun _ => ?_) (fun _ => ?_)) <;> try (exfalso; omega)) | ((with_reducible refine Br.ne (fun _ => ?_) (fun _ => ?_)) <;> try (exfalso; omega)) | ((with_reducible refine brNdec (fun _ => ?_) (fun _ => ?_)) <;> try (exfalso; omega)) | ((with_reducible refine brNeq (fun _ => ?_) (fun _ => ?_)) <;> try (exfalso; omega)) | with_reducible refine Br.intro (fun _ => ?_) (fun _ => ?_) | (with_reducible refine And.intro ?_ ?_; · omega) | simp -dsimp -implicitDefEqProofs (disch := omega) only [VCA, Nat.reduceEqDiff, Nat.reduceAdd, Nat.reduceLT, ↓reduceIte, setAt, exists_eq_left', E2, E35, E37, g2, hxx, eEdit_len', eEdit_take'])
      intro r13 hr13
      have k1 : ¬ r2 = r13 := fun q => by rw [← q, g2] at hr13; cases hr13
      have k2 : ¬ r13 = r2 := fun q => k1 q.symm
      have k3 : ¬ r4 = r13 := fun q => by rw [← q, g4] at hr13; cases hr13
      have k4 : ¬ r13 = r4 := fun q => k3 q.symm
      repeat' (first | ((with_reducible refine Br.dec (fun _ => ?_) (fun _ => ?_)) <;> try (exfalso; omega)) | ((with_reducible refine Br.eq (fun _ => ?_) (fun _ => ?_)) <;> try (exfalso; omega)) | ((with_reducible refine Br.ne (fun _ => ?_) (fun _ => ?_)) <;> try (exfalso; omega)) | ((with_reducible refine brNdec (fun _ => ?_) (fun _ => ?_)) <;> try (exfalso; omega)) | ((with_reducible refine brNeq (fun _ => ?_) (fun _ => ?_)) <;> try (exfalso; omega)) | with_reducible refine Br.intro (fun _ => ?_) (fun _ => ?_) | (with_reducible apply pcallE.of; · exact hAp) | (with_reducible refine And.intro ?_ ?_; · omega) | simp -dsimp -implicitDefEqProofs (disch := omega) only [VCA, ↓upd_none, Nat.reduceEqDiff, Nat.reduceAdd, Nat.reduceLT, ↓reduceIte, setAt, ne_eq, exists_eq_left', E2, E11, g2, k1, eEdit_take', eDoc_len, eDoc_take])
      intro r14 hr14
      have j1 : ¬ r2 = r14 := fun q => by rw [← q, g2] at hr14; cases hr14.2
      have j2 : ¬ r14 = r2 := fun q => j1 q.symm
      have j3 : ¬ r4 = r14 := fun q => by rw [← q, g4] at hr14; cases hr14.2
      have j4 : ¬ r14 = r4 := fun q => j3 q.symm
      have j5 : ¬ r14 = r13 := hr14.1
      have j6 : ¬ r13 = r14 := fun q => j5 q.symm
      have A1 : ∀ o o', Acc h 44 16 (acc.map eStep) a (upd (upd h' r13 (some o)) r14 (some o')) := fun o o' => A.re fun r ob q0 q1 =>
        ⟨q0, by rw [upd_ne _ _ (fun e => by rw [e, hr14.2] at q1; cases q1), upd_ne _ _ (fun e => by rw [e, hr13] at q1; cases q1)]; exact q1⟩
      have S1 : ∀ o o', Sub h (upd (upd h' r13 (some o)) r14 (some o')) := fun o o' => (S.upd (S.none hr13)).upd (S.none hr14.2)
      have m13 : rootOf a ≠ some r13 := fun q => by
        rcases A with ⟨_, rfl⟩ | ⟨r, _, q1, rfl⟩
        · cases q
        · cases q; rw [q1] at hr13; cases hr13
      have m14 : rootOf a ≠ some r14 := fun q => by
        rcases A with ⟨_, rfl⟩ | ⟨r, _, q1, rfl⟩
        · cases q
        · cases q; rw [q1] at hr14; cases hr14.2
      repeat' (first | ((with_reducible refine Br.dec (fun _ => ?_) (fun _ => ?_)) <;> try (exfalso; omega)) | ((with_reducible refine Br.eq (fun _ => ?_) (fun _ => ?_)) <;> try (exfalso; omega)) | ((with_reducible refine Br.ne (fun _ => ?_) (fun _ => ?_)) <;> try (exfalso; omega)) | ((with_reducible refine brNdec (fun _ => ?_) (fun _ => ?_)) <;> try (exfalso; omega)) | ((with_reducible refine brNeq (fun _ => ?_) (fun _ => ?_)) <;> try (exfalso; omega)) | with_reducible refine Br.intro (fun _ => ?_) (fun _ => ?_) | (with_reducible apply pcallE.of; · exact hNo) | ((refine (A1 _ _).appW (S1 _ _) (by simp; omega) (by simp; omega) (fun a' h3 A' S' kp => ?_))) | (with_reducible refine And.intro ?_ ?_; · omega) | simp -dsimp -implicitDefEqProofs (disch := omega) only [VCA, Nat.reduceEqDiff, Nat.reduceLT, ↓reduceIte, okParts, setAt, forall_eq, exists_eq_left, exists_eq_left', E2, E4, E35, E36, E37, j1, j6, eEdit_len', eEdit_take', eDoc_len, eDoc_take, eStep_len])
      obtain ⟨f2, p2⟩ := kp r2 ⟨24, 2, [eDoc D]⟩ (by simp only [upd, k1, j1, if_false]; exact g2) na2
      obtain ⟨f4, p4⟩ := kp r4 ⟨24, 2, [[.emp, .bool false]]⟩ (by simp only [upd, k3, j3, if_false]; exact g4) na4
      obtain ⟨f14, p14⟩ := kp r14 _ (upd_same _ _ _) m14
      repeat' (first | ((with_reducible refine Br.dec (fun _ => ?_) (fun _ => ?_)) <;> try (exfalso; omega)) | ((with_reducible refine Br.eq (fun _ => ?_) (fun _ => ?_)) <;> try (exfalso; omega)) | ((with_reducible refine Br.ne (fun _ => ?_) (fun _ => ?_)) <;> try (exfalso; omega)) | ((with_reducible refine brNdec (fun _ => ?_) (fun _ => ?_)) <;> try (exfalso; omega)) | ((with_reducible refine brNeq (fun _ => ?_) (fun _ => ?_)) <;> try (exfalso; omega)) | with_reducible refine Br.intro (fun _ => ?_) (fun _ => ?_) | (with_reducible refine And.intro ?_ ?_; · omega) | simp -dsimp -implicitDefEqProofs (disch := omega) only [VCA, Nat.reduceLT, exists_eq_left', f2, f4, f14, eDoc_len, eDoc_take, eDoc_drop])
      refine ⟨_, by omega, k + 1, applyD D x, a', acc ++ [stepM D x], by omega, rfl, by rw [List.length_append, la]; rfl, rfl, by omega, rfl, by rw [if_neg n1], ?_, S'.upd hr2, p2, p4, W2, sm2, ?_, ?_⟩
      · rw [List.map_append]; exact A'.keepA p2 _
      · rw [← hrun]; congr 1
      · rw [← hrec, List.append_assoc]; rfl
    · obtain rfl : k = l.length := by omega
      rw [List.drop_length, runM] at hrun
      rw [List.drop_length, recM, List.append_nil] at hrec
      rw [← hrun, ← hrec]
      repeat' (first | ((with_reducible refine Br.dec (fun _ => ?_) (fun _ => ?_)) <;> try (exfalso; omega)) | ((with_reducible refine Br.eq (fun _ => ?_) (fun _ => ?_)) <;> try (exfalso; omega)) | ((with_reducible refine Br.ne (fun _ => ?_) (fun _ => ?_)) <;> try (exfalso; omega)) | ((with_reducible refine brNdec (fun _ => ?_) (fun _ => ?_)) <;> try (exfalso; omega)) | ((with_reducible refine brNeq (fun _ => ?_) (fun _ => ?_)) <;> try (exfalso; omega)) | with_reducible refine Br.intro (fun _ => ?_) (fun _ => ?_) | (with_reducible refine And.intro ?_ ?_; · omega) | simp -dsimp -implicitDefEqProofs (disch := omega) only [VCA, Nat.reduceEqDiff, Nat.reduceAdd, Nat.reduceLT, ↓reduceIte, setAt, exists_eq_left', E2, E4, E11, g2, g4, eDoc_len, eDoc_take])
      refine ⟨_, Sub.refl _, S.upd hr4.2, .tup' (.cons (.refl _) (.cons ?_ (.cons (.refl _) (.cons (.refl _) .nil))))⟩
      exact (A.keepA na4 _).vw fun f hf => by obtain ⟨x, _, rfl⟩ := List.mem_map.1 hf; rfl
  · rw [if_neg h0]
    have b0 : ((allM d l).2.2 != 0) = true := bN_t h0
    repeat' (first | ((with_reducible refine Br.dec (fun _ => ?_) (fun _ => ?_)) <;> try (exfalso; omega)) | ((with_reducible refine Br.eq (fun _ => ?_) (fun _ => ?_)) <;> try (exfalso; omega)) | ((with_reducible refine Br.ne (fun _ => ?_) (fun _ => ?_)) <;> try (exfalso; omega)) | ((with_reducible refine brNdec (fun _ => ?_) (fun _ => ?_)) <;> try (exfalso; omega)) | ((with_reducible refine brNeq (fun _ => ?_) (fun _ => ?_)) <;> try (exfalso; omega)) | with_reducible refine Br.intro (fun _ => ?_) (fun _ => ?_) | (with_reducible apply pcallE.of; · exact hAll) | (with_reducible refine And.intro ?_ ?_; · omega) | simp -dsimp -implicitDefEqProofs (disch := omega) only [VCA, ↓upd_none, Nat.reduceEqDiff, Nat.reduceAdd, Nat.reduceLT, ↓reduceIte, fillA, okFill, setAt, ne_eq, exists_eq_left', eDoc_len, eDoc_take, n2, b0])
    intro r8 hr8
    have n3 : ¬ r8 = r4 := hr8.1
    have n4 : ¬ r4 = r8 := fun q => n3 q.symm
    have n5 : ¬ r8 = r2 := hr8.2.1
    have n6 : ¬ r2 = r8 := fun q => n5 q.symm
    repeat' (first | ((with_reducible refine Br.dec (fun _ => ?_) (fun _ => ?_)) <;> try (exfalso; omega)) | ((with_reducible refine Br.eq (fun _ => ?_) (fun _ => ?_)) <;> try (exfalso; omega)) | ((with_reducible refine Br.ne (fun _ => ?_) (fun _ => ?_)) <;> try (exfalso; omega)) | ((with_reducible refine brNdec (fun _ => ?_) (fun _ => ?_)) <;> try (exfalso; omega)) | ((with_reducible refine brNeq (fun _ => ?_) (fun _ => ?_)) <;> try (exfalso; omega)) | with_reducible refine Br.intro (fun _ => ?_) (fun _ => ?_) | (with_reducible refine And.intro ?_ ?_; · omega) | simp -dsimp -implicitDefEqProofs (disch := omega) only [VCA, Nat.reduceAdd, Nat.reduceLT, ↓reduceIte, exists_eq_left', n4])
    exact ⟨_, Sub.refl _, (((Sub.refl h).upd hr2).upd hr4.2 |>.upd hr8.2.2).upd hr4.2, .tup' (.cons (vw_noDoc _) (.cons .emp (.cons (.refl _) (.cons (.refl _) .nil))))⟩
end Go.Proofs.K
end
section
/- Steps: the reference's Do. -/
set_option linter.unusedSimpArgs false
set_option linter.unusedVariables false
namespace Go.Proofs.K
open Go Go.Sim Go.Proofs
variable {G : Glob}
def c12 : SFun := ⟨(.seq (.reg [⟨(some 2), (.box 24 2 (.t 0)), none⟩, ⟨(some 4), (.new 24 2 [.emp, (.bool false)]), none⟩, ⟨(some 5), (.mv (.c .emp)), none⟩, ⟨(some 6), (.mv (.c (.int .i64 (0)))), none⟩, ⟨(some 7), (.mv (.c (.int .i64 (0)))), none⟩]) (.seq (.reg [⟨(some 14), (.ld 2 true (.t 2)), none⟩, ⟨(some 15), (.mv (.t 1)), none⟩, ⟨(some 16), (.pcall 19 [(.t 14), (.t 15)]), none⟩, ⟨(some 13), (.mv (.t 16)), none⟩, ⟨(some 17), (.ext (.t 13) 0), none⟩, ⟨(some 18), (.ext (.t 13) 1), none⟩, ⟨(some 19), (.ext (.t 13) 2), none⟩, ⟨(some 8), (.new 24 2 [.emp, (.bool false)]), none⟩, ⟨none, (.st 2 (.t 8) (.t 17)), none⟩, ⟨(some 9), (.mv (.t 18)), none⟩, ⟨(some 10), (.mv (.t 19)), none⟩]) (.seq (.seq (.reg [⟨(some 20), (.mv (.t 10)), none⟩, ⟨(some 21), (.bin .neq (.t 20) (.c (.int .i64 (0)))), none⟩]) (.cond (.t 21) (.seq (.reg [⟨(some 22), (.bld [.emp, (.bool false)] []), none⟩, ⟨(some 23), (.mv (.t 9)), none⟩, ⟨(some 24), (.mv (.t 10)), none⟩, ⟨none, (.st 2 (.t 4) (.t 22)), none⟩, ⟨(some 5), (.mv (.c .emp)), none⟩, ⟨(some 6), (.mv (.t 23)), none⟩, ⟨(some 7), (.mv (.t 24)), none⟩]) .ret) .skip)) (.seq (.reg [⟨(some 11), (.mv (.c .emp)), none⟩]) (.seq (.seq (.reg [⟨(some 12), (.mv (.c (.int .i64 (0)))), none⟩]) (.block 0 (.loop (.seq (.seq (.reg [⟨(some 25), (.mv (.t 12)), none⟩, ⟨(some 26), (.mv (.t 1)), none⟩, ⟨(some 27), (.len (.t 26)), none⟩, ⟨(some 28), (.bin .lss (.t 25) (.t 27)), none⟩]) (.cond (.t 28) .skip (.exit 0))) (.seq (.block 1 (.seq (.dreg [(⟨(some 31), (.mv (.t 11)), none⟩, none), (⟨(some 32), (.ld 2 true (.t 2)), none⟩, none), (⟨(some 33), (.mv (.t 1)), none⟩, none), (⟨(some 34), (.mv (.t 12)), none⟩, none), (⟨(some 35), (.idxA 12 (.t 33) (.t 34)), none⟩, none), (⟨(some 36), (.ld 12 true (.t 35)), none⟩, none), (⟨(some 37), (.pcall 41 [(.t 32), (.t 36)]), none⟩, none), (⟨(some 38), (.bldF 44 16 [(.t 37)]), none⟩, none), (⟨(some 39), (.app 44 16 200 (.t 31) (.t 38)), none⟩, (some [32, 36])), (⟨(some 11), (.mv (.t 39)), none⟩, (some [32, 36]))]) (.dreg [(⟨(some 41), (.ld 2 true (.t 2)), none⟩, none), (⟨(some 42), (.mv (.t 1)), none⟩, none), (⟨(some 43), (.mv (.t 12)), none⟩, none), (⟨(some 44), (.idxA 12 (.t 42) (.t 43)), none⟩, none), (⟨(some 45), (.ld 12 true (.t 44)), none⟩, none), (⟨(some 46), (.pcall 26 [(.t 41), (.t 45)]), none⟩, none), (⟨(some 40), (.mv (.t 46)), none⟩, none), (⟨(some 47), (.ext (.t 40) 0), none⟩, none), (⟨(some 48), (.ext (.t 40) 1), none⟩, none), (⟨(some 49), (.ext (.t 40) 2), none⟩, none), (⟨none, (.st 2 (.t 2) (.t 47)), none⟩, (some [41, 45]))]))) (.reg [⟨(some 29), (.mv (.t 12)), none⟩, ⟨(some 30), (.bin .add (.t 29) (.c (.int .i64 (1)))), none⟩, ⟨(some 12), (.mv (.t 30)), none⟩])))))) (.seq (.reg [⟨(some 50), (.ld 2 true (.t 8)), none⟩, ⟨(some 51), (.mv (.t 11)), none⟩, ⟨none, (.st 2 (.t 4) (.t 50)), none⟩, ⟨(some 5), (.mv (.t 51)), none⟩, ⟨(some 6), (.mv (.c (.int .i64 (0)))), none⟩, ⟨(some 7), (.mv (.c (.int .i64 (0)))), none⟩]) .ret)))))), [(.cell 4 2 true), (.tmp 5), (.tmp 6), (.tmp 7)]⟩
theorem hc12 : toSF Tryz.prog {pure := [19, 26, 41], how := [(2, 6)]} Tryz.f12 = some c12 := by kernel_rfl
theorem hn12 : (Tryz.f12.name == "runtime.NumGoroutine") = false := by kernel_rfl
set_option maxHeartbeats 1000000 in
set_option maxRecDepth 10000 in
theorem recordDo_ok (d : HDoc) (sm : DocSm d) (l : List HEdit) (hl : ∀ e ∈ l, EditSm e) (ll : l.length ≤ 1073741824) : PCalls (Pg G) 12 [.agg (eDoc d), sl eEdit l] (doV d l) := PCalls.outV fun h => by
  have hAll := editedAll_ok (G := G) d sm l hl ll
  unfold allV at hAll
  unfold doV
  refine dcalls_of_vc Tryz.func12 hn12 hc12 (by rw [Tryz.ntmps12]; simp) (by rw [Tryz.ntmps12]; decide) ?_
  simp -dsimp -implicitDefEqProofs (disch := omega) only [VCA, ↓upd_none, Nat.reduceEqDiff, ↓reduceIte, ne_eq, c12, eDoc_len]
  intro r2 hr2 r4 hr4
  have n1 : ¬ r4 = r2 := hr4.1
  have n2 : ¬ r2 = r4 := fun q => n1 q.symm
  by_cases h0 : (allM d l).2.2 = 0
  · obtain ⟨hd, l40, aM⟩ := allM_zero h0
    have V := docE_DV hd
    rw [if_pos h0]
    have b0 : ((allM d l).2.2 != 0) = false := bN_f h0
    repeat' (first | ((with_reducible refine Br.dec (fun _ => ?_) (fun _ => ?_)) <;> try (exfalso; omega)) | ((with_reducible refine Br.eq (fun _ => ?_) (fun _ => ?_)) <;> try (exfalso; omega)) | ((with_reducible refine Br.ne (fun _ => ?_) (fun _ => ?_)) <;> try (exfalso; omega)) | ((with_reducible refine brNdec (fun _ => ?_) (fun _ => ?_)) <;> try (exfalso; omega)) | ((with_reducible refine brNeq (fun _ => ?_) (fun _ => ?_)) <;> try (exfalso; omega)) | with_reducible refine Br.intro (fun _ => ?_) (fun _ => ?_) | (with_reducible apply pcallE.of; · exact hAll) | (with_reducible refine And.intro ?_ ?_; · omega) | simp -dsimp -implicitDefEqProofs (disch := omega) only [VCA, ↓upd_none, Nat.reduceEqDiff, Nat.reduceAdd, Nat.reduceLT, ↓reduceIte, setAt, ne_eq, exists_eq_left', eDoc_len, eDoc_take, n2, b0])
    intro r8 hr8
    have n3 : ¬ r8 = r4 := hr8.1
    have n4 : ¬ r4 = r8 := fun q => n3 q.symm
    have n5 : ¬ r8 = r2 := hr8.2.1
    have n6 : ¬ r2 = r8 := fun q => n5 q.symm
    repeat' (first | ((with_reducible refine Br.dec (fun _ => ?_) (fun _ => ?_)) <;> try (exfalso; omega)) | ((with_reducible refine Br.eq (fun _ => ?_) (fun _ => ?_)) <;> try (exfalso; omega)) | ((with_reducible refine Br.ne (fun _ => ?_) (fun _ => ?_)) <;> try (exfalso; omega)) | ((with_reducible refine brNdec (fun _ => ?_) (fun _ => ?_)) <;> try (exfalso; omega)) | ((with_reducible refine brNeq (fun _ => ?_) (fun _ => ?_)) <;> try (exfalso; omega)) | with_reducible refine Br.intro (fun _ => ?_) (fun _ => ?_) | (with_reducible refine And.intro ?_ ?_; · omega) | simp -dsimp -implicitDefEqProofs (disch := omega) only [h0])
    refine LoopVC.intro (fun m E h' => ∃ (k : Nat) (D : HDoc) (a : AVal) (acc : List HStep), k ≤ l.length ∧ m = l.length - k ∧ acc.length = k ∧ E 1 = sl eEdit l ∧ E 2 = .vp r2 0 ∧ E 4 = .vp r4 0 ∧ E 8 = .vp r8 0 ∧ E 11 = a ∧ E 12 = aInt k ∧ h' r2 = some ⟨.t 24, 2, [eDoc D]⟩ ∧ h' r4 = some ⟨.t 24, 2, [[.emp, .bool false]]⟩ ∧ h' r8 = some ⟨.t 24, 2, [eDoc (allM d l).1]⟩ ∧
        Acc h 44 16 (acc.map eStep) a h' ∧ Sub h h' ∧ rootOf a ≠ some r2 ∧ rootOf a ≠ some r4 ∧ rootOf a ≠ some r8 ∧ DV D ∧ DocSm D ∧ runM D (l.drop k) k = allM d l ∧ acc ++ recM D (l.drop k) = recM d l) l.length
      ⟨0, d, .emp, [], by omega, by omega, rfl, rfl, rfl, rfl, rfl, rfl, rfl, ?_, ?_, ?_, .nil, ?_, (fun e => by cases e), (fun e => by cases e), (fun e => by cases e), V, sm, by rw [aM]; rfl, rfl⟩ ?_
    · simp only [upd, n2, n6, if_true, if_false]
    · simp only [upd, n1, n4, if_true, if_false]
    · simp only [upd, n3, n5, if_true, if_false]
    · repeat' (first | exact Sub.refl _ | exact hr2 | exact hr4.2 | exact hr8.2.2 | with_reducible refine Sub.upd ?_ ?_)
    rintro m E h' ⟨k, D, a, acc, hk, rfl, la, E1, E2, E4, E8, E11, E12, g2, g4, g8, A, S, na2, na4, na8, W, smD, hrun, hrec⟩
    simp -dsimp -implicitDefEqProofs (disch := omega) only [VCA, Nat.reduceEqDiff, ↓reduceIte, ne_eq, E1, E12]
    refine Br.dec (fun hlt => ?_) (fun hge => ?_)
    · have hk' : k < l.length := by omega
      rw [runM_cons hk'] at hrun
      rw [recM_cons hk'] at hrec
      have hx := hl _ (nth_mem' hk')
      obtain ⟨x, hxx⟩ : ∃ x, nth l k = x := ⟨_, rfl⟩
      rw [hxx] at hrun hrec hx
      have hz : applyE D x = 0 := by
        apply Classical.byContradiction; intro hn
        rw [if_pos hn] at hrun
        rw [← hrun] at h0; exact hn h0
      rw [if_neg (by simpa using hz)] at hrun
      obtain ⟨W2, sm2, _, _⟩ := apply_step W smD hx hz
      have hEd := edited_ok (G := G) D W smD x hx
      unfold edR at hEd
      rw [hz] at hEd
      have hSt := recStep_ok (G := G) D W smD x hx hz
      repeat' (first | ((with_reducible refine Br.dec (fun _ => ?_) (fun _ => ?_)) <;> try (exfalso; omega)) | ((with_reducible refine Br.eq (fun _ => ?_) (fun _ => ?_)) <;> try (exfalso; omega)) | ((with_reducible refine Br.ne (fun _ => ?_) (fun _ => ?_)) <;> try (exfalso; omega)) | ((with_reducible refine brNdec (fun _ => ?_) (fun _ => ?_)) <;> try (exfalso; omega)) | ((with_reducible refine brNeq (fun _ => ?_) (fun _ => ?_)) <;> try (exfalso; omega)) | with_reducible refine Br.intro (fun _ => ?_) (fun _ => ?_) | (with_reducible apply pcallE.of; · exact hSt) | ((refine A.appW S (by simp; omega) (by simp; omega) (fun a' h3 A' S' kp => ?_))) | (with_reducible refine And.intro ?_ ?_; · omega) | simp -dsimp -implicitDefEqProofs (disch := omega) only [VCA, Nat.reduceEqDiff, Nat.reduceBEq, Nat.reduceLT, ↓reduceIte, rsOf, rootsOf, SOp.rd, SI.rd, SX.rd, okParts, forall_eq, exists_eq_left, exists_eq_left', rootL, E1, E2, E11, E12, g2, hxx, eEdit_len', eEdit_take', eDoc_len, eDoc_take, eStep_len])
      obtain ⟨f2, p2⟩ := kp r2 _ g2 na2
      obtain ⟨f4, p4⟩ := kp r4 _ g4 na4
      obtain ⟨f8, p8⟩ := kp r8 _ g8 na8
      repeat' (first | ((with_reducible refine Br.dec (fun _ => ?_) (fun _ => ?_)) <;> try (exfalso; omega)) | ((with_reducible refine Br.eq (fun _ => ?_) (fun _ => ?_)) <;> try (exfalso; omega)) | ((with_reducible refine Br.ne (fun _ => ?_) (fun _ => ?_)) <;> try (exfalso; omega)) | ((with_reducible refine brNdec (fun _ => ?_) (fun _ => ?_)) <;> try (exfalso; omega)) | ((with_reducible refine brNeq (fun _ => ?_) (fun _ => ?_)) <;> try (exfalso; omega)) | with_reducible refine Br.intro (fun _ => ?_) (fun _ => ?_) | (with_reducible apply pcallE.of; · exact hEd) | (with_reducible refine And.intro ?_ ?_; · omega) | simp -dsimp -implicitDefEqProofs (disch := omega) only [VCA, Nat.reduceEqDiff, Nat.reduceBEq, Nat.reduceAdd, Nat.reduceLT, ↓reduceIte, rsOf, rootsOf, SOp.rd, SI.rd, SX.rd, setAt, exists_eq_left', rootL, E1, E2, E4, E8, E12, f2, f4, f8, eDoc_len, eDoc_take, eDoc_drop])
      refine ⟨_, by omega, k + 1, applyD D x, a', acc ++ [stepM D x], by omega, rfl, by rw [List.length_append, la]; rfl, rfl, by omega, rfl, by rw [if_neg n1], by rw [if_neg n5], ?_, S'.upd hr2, p2, p4, p8, W2, sm2, ?_, ?_⟩
      · rw [List.map_append]; exact A'.keepA p2 _
      · rw [← hrun]; congr 1
      · rw [← hrec, List.append_assoc]; rfl
    · obtain rfl : k = l.length := by omega
      rw [List.drop_length, runM] at hrun
      rw [List.drop_length, recM, List.append_nil] at hrec
      rw [← hrec]
      repeat' (first | ((with_reducible refine Br.dec (fun _ => ?_) (fun _ => ?_)) <;> try (exfalso; omega)) | ((with_reducible refine Br.eq (fun _ => ?_) (fun _ => ?_)) <;> try (exfalso; omega)) | ((with_reducible refine Br.ne (fun _ => ?_) (fun _ => ?_)) <;> try (exfalso; omega)) | ((with_reducible refine brNdec (fun _ => ?_) (fun _ => ?_)) <;> try (exfalso; omega)) | ((with_reducible refine brNeq (fun _ => ?_) (fun _ => ?_)) <;> try (exfalso; omega)) | with_reducible refine Br.intro (fun _ => ?_) (fun _ => ?_) | (with_reducible refine And.intro ?_ ?_; · omega) | simp -dsimp -implicitDefEqProofs (disch := omega) only [VCA, Nat.reduceEqDiff, Nat.reduceAdd, Nat.reduceLT, ↓reduceIte, setAt, exists_eq_left', E4, E8, E11, g4, g8, eDoc_len, eDoc_take])
      refine ⟨_, Sub.refl _, S.upd hr4.2, .tup' (.cons (.refl _) (.cons ?_ (.cons (.refl _) (.cons (.refl _) .nil))))⟩
      exact (A.keepA na4 _).vw fun f hf => by obtain ⟨x, _, rfl⟩ := List.mem_map.1 hf; rfl
  · rw [if_neg h0]
    have b0 : ((allM d l).2.2 != 0) = true := bN_t h0
    repeat' (first | ((with_reducible refine Br.dec (fun _ => ?_) (fun _ => ?_)) <;> try (exfalso; omega)) | ((with_reducible refine Br.eq (fun _ => ?_) (fun _ => ?_)) <;> try (exfalso; omega)) | ((with_reducible refine Br.ne (fun _ => ?_) (fun _ => ?_)) <;> try (exfalso; omega)) | ((with_reducible refine brNdec (fun _ => ?_) (fun _ => ?_)) <;> try (exfalso; omega)) | ((with_reducible refine brNeq (fun _ => ?_) (fun _ => ?_)) <;> try (exfalso; omega)) | with_reducible refine Br.intro (fun _ => ?_) (fun _ => ?_) | (with_reducible apply pcallE.of; · exact hAll) | (with_reducible refine And.intro ?_ ?_; · omega) | simp -dsimp -implicitDefEqProofs (disch := omega) only [VCA, ↓upd_none, Nat.reduceEqDiff, Nat.reduceAdd, Nat.reduceLT, ↓reduceIte, fillA, okFill, setAt, ne_eq, exists_eq_left', eDoc_len, eDoc_take, n2, b0])
    intro r8 hr8
    have n3 : ¬ r8 = r4 := hr8.1
    have n4 : ¬ r4 = r8 := fun q => n3 q.symm
    have n5 : ¬ r8 = r2 := hr8.2.1
    have n6 : ¬ r2 = r8 := fun q => n5 q.symm
    repeat' (first | ((with_reducible refine Br.dec (fun _ => ?_) (fun _ => ?_)) <;> try (exfalso; omega)) | ((with_reducible refine Br.eq (fun _ => ?_) (fun _ => ?_)) <;> try (exfalso; omega)) | ((with_reducible refine Br.ne (fun _ => ?_) (fun _ => ?_)) <;> try (exfalso; omega)) | ((with_reducible refine brNdec (fun _ => ?_) (fun _ => ?_)) <;> try (exfalso; omega)) | ((with_reducible refine brNeq (fun _ => ?_) (fun _ => ?_)) <;> try (exfalso; omega)) | with_reducible refine Br.intro (fun _ => ?_) (fun _ => ?_) | (with_reducible refine And.intro ?_ ?_; · omega) | simp -dsimp -implicitDefEqProofs (disch := omega) only [VCA, Nat.reduceAdd, Nat.reduceLT, ↓reduceIte, exists_eq_left', n4])
    exact ⟨_, Sub.refl _, (((Sub.refl h).upd hr2).upd hr4.2 |>.upd hr8.2.2).upd hr4.2, .tup' (.cons (vw_noDoc _) (.cons .emp (.cons (.refl _) (.cons (.refl _) .nil))))⟩
end Go.Proofs.K
end
section
/- Steps undone (plain). -/
set_option linter.unusedSimpArgs false
set_option linter.unusedVariables false
namespace Go.Proofs.K
open Go Go.Sim Go.Proofs
def cutList {α : Type} (l : List α) (i : Nat) : List α := l.take i ++ l.drop (i + 1)
def putList {α : Type} (l : List α) (i : Nat) (x : α) : List α := l.take i ++ x :: l.drop i
def popN (d : HDoc) : HDoc := ⟨d.nodes.take (d.nodes.length - 1), d.quirks⟩
/-- does a step fit? -/
def fitM (d : HDoc) (s : HStep) : Prop :=
  if s.edit.do' = 1 then inD d s.edit.at' ∧ 0 ≤ attrAt (nd d s.edit.at').attrs s.edit.name ∧ (s.had = true ∨ attrAt (nd d s.edit.at').attrs s.edit.name = ((nd d s.edit.at').attrs.length : Int) - 1)
  else if s.edit.do' = 2 then inD d s.edit.at' ∧ (nd d s.edit.at').kind = 2 ∧ 0 ≤ s.place ∧ s.place ≤ (nd d s.edit.at').attrs.length ∧ ¬ 0 ≤ attrAt (nd d s.edit.at').attrs s.edit.name
  else if s.edit.do' = 3 then inD d s.edit.at' ∧ ((nd d s.edit.at').kind = 3 ∨ (nd d s.edit.at').kind = 4)
  else if s.edit.do' = 4 then s.place = (d.nodes.length : Int) - 1 ∧ 2 ≤ d.nodes.length ∧ (nd d ((d.nodes.length : Int) - 1)).parent = -1 ∧ (nd d ((d.nodes.length : Int) - 1)).kids = []
  else if s.edit.do' = 5 then inD d s.edit.at' ∧ inD d s.edit.to ∧ 0 ≤ s.place ∧ s.place < (nd d s.edit.at').kids.length ∧ nth (nd d s.edit.at').kids s.place.toNat = s.edit.to
  else if s.edit.do' = 6 then inD d s.parent ∧ inD d s.edit.at' ∧ s.edit.at' ≠ 0 ∧ (nd d s.edit.at').parent = -1 ∧ 0 ≤ s.place ∧ s.place ≤ (nd d s.parent).kids.length
  else False
instance (d : HDoc) (s : HStep) : Decidable (fitM d s) := by unfold fitM inD; infer_instance
/-- a document whose node's kids are l, and another node's parent is p -/
def rehung (d : HDoc) (a t : Int) (l : List Int) (p : Int) : HDoc :=
  setN (setN d a { nd d a with kids := l }) t { nd (setN d a { nd d a with kids := l }) t with parent := p }
/-- what a step that fits leaves -/
def undoD (d : HDoc) (s : HStep) : HDoc :=
  if s.edit.do' = 1 then setN d s.edit.at' { nd d s.edit.at' with attrs := if s.had = true then (nd d s.edit.at').attrs.set (attrAt (nd d s.edit.at').attrs s.edit.name).toNat ⟨s.edit.name, s.was⟩ else (nd d s.edit.at').attrs.take (attrAt (nd d s.edit.at').attrs s.edit.name).toNat }
  else if s.edit.do' = 2 then setN d s.edit.at' { nd d s.edit.at' with attrs := putList (nd d s.edit.at').attrs s.place.toNat ⟨s.edit.name, s.was⟩ }
  else if s.edit.do' = 3 then setN d s.edit.at' { nd d s.edit.at' with text := s.was }
  else if s.edit.do' = 4 then popN d
  else if s.edit.do' = 5 then rehung d s.edit.at' s.edit.to (cutList (nd d s.edit.at').kids s.place.toNat) (-1)
  else rehung d s.parent s.edit.at' (putList (nd d s.parent).kids s.place.toNat s.edit.at') s.parent
/-- what undoing leaves as it is: small lists, no name twice -/
structure USm (k : Nat) (d : HDoc) : Prop where
  len : d.nodes.length ≤ 200
  sm : DocSm d
  kids : ∀ n, (nd d n).kids.length ≤ 300 + k
  attrs : ∀ n, (nd d n).attrs.length ≤ 300 + k
  names : ∀ n, ((nd d n).attrs.map (·.name)).Nodup
theorem nd_out {d : HDoc} {n : Int} (h : ¬ n.toNat < d.nodes.length) : nd d n = default := nth_def h
theorem nd_or {d : HDoc} (n : Int) : nd d n = default ∨ ∃ m, inD d m ∧ nd d n = nd d m := by
  by_cases h : n.toNat < d.nodes.length
  · exact .inr ⟨n.toNat, inD_nat.2 h, by unfold nd; rw [Int.toNat_natCast]⟩
  · exact .inl (nd_out h)
theorem DV.usm {d : HDoc} (V : DV d) (sm : DocSm d) : USm 0 d := by
  refine ⟨V.len, sm, fun n => ?_, fun n => ?_, fun n => ?_⟩
  · rcases nd_or (d := d) n with h | ⟨m, hm, h⟩
    · rw [h]; decide
    · rw [h]
      have := nodup_len d.nodes.length (nd d m).kids (V.nodup m hm) (fun k hk => (V.kid m hm k hk).1)
      have := V.len
      omega
  · rcases nd_or (d := d) n with h | ⟨m, hm, h⟩
    · rw [h]; decide
    · rw [h]
      have := ((attrsE_iff _).1 ((nodeE_iff _).1 (V.node _ hm)).2.2.2.1).1
      omega
  · rcases nd_or (d := d) n with h | ⟨m, hm, h⟩
    · rw [h]; exact List.nodup_nil
    · rw [h]; exact ((attrsE_iff _).1 ((nodeE_iff _).1 (V.node _ hm)).2.2.2.1).2.2
theorem nd_setN_any {d : HDoc} {n m : Int} {x : HNode} : nd (setN d n x) m = x ∨ nd (setN d n x) m = nd d m := by
  unfold nd setN nth
  simp only [List.getD_eq_getElem?_getD, List.getElem?_set]
  split
  · split
    · exact .inl rfl
    · rename_i h1 h2
      right
      rw [List.getElem?_eq_none (by omega)]
  · exact .inr rfl
theorem USm.set {k : Nat} {d : HDoc} (U : USm k d) {n : Int} {x : HNode} (hx : NodeSm x) (h1 : x.kids.length ≤ 300 + (k + 1)) (h2 : x.attrs.length ≤ 300 + (k + 1)) (h3 : (x.attrs.map (·.name)).Nodup) : USm (k + 1) (setN d n x) := by
  refine ⟨by rw [setN_len]; exact U.len, U.sm.setN hx, fun m => ?_, fun m => ?_, fun m => ?_⟩
  · rcases nd_setN_any (d := d) (n := n) (m := m) (x := x) with h | h <;> rw [h]
    · exact h1
    · have := U.kids m; omega
  · rcases nd_setN_any (d := d) (n := n) (m := m) (x := x) with h | h <;> rw [h]
    · exact h2
    · have := U.attrs m; omega
  · rcases nd_setN_any (d := d) (n := n) (m := m) (x := x) with h | h <;> rw [h]
    · exact h3
    · exact U.names m
theorem USm.same {k : Nat} {d : HDoc} (U : USm k d) {n m : Int} {p : Int} : USm k (setN d n { nd d m with parent := p }) := by
  have N := U.sm.nd m
  refine ⟨by rw [setN_len]; exact U.len, U.sm.setN ⟨N.name, N.attrs, N.each, N.text, N.kids⟩, fun t => ?_, fun t => ?_, fun t => ?_⟩
  · rcases nd_setN_any (d := d) (n := n) (m := t) (x := { nd d m with parent := p }) with h | h <;> rw [h]
    · exact U.kids m
    · exact U.kids t
  · rcases nd_setN_any (d := d) (n := n) (m := t) (x := { nd d m with parent := p }) with h | h <;> rw [h]
    · exact U.attrs m
    · exact U.attrs t
  · rcases nd_setN_any (d := d) (n := n) (m := t) (x := { nd d m with parent := p }) with h | h <;> rw [h]
    · exact U.names m
    · exact U.names t
theorem putList_len {α : Type} {l : List α} {i : Nat} {x : α} (hi : i ≤ l.length) : (putList l i x).length = l.length + 1 := by
  unfold putList; rw [List.length_append, List.length_cons, List.length_take, List.length_drop]; omega
theorem cutList_len {α : Type} {l : List α} {i : Nat} (hi : i < l.length) : (cutList l i).length + 1 = l.length := by
  unfold cutList; rw [List.length_append, List.length_take, List.length_drop]; omega
theorem mem_putList {α : Type} {l : List α} {i : Nat} {x y : α} (h : y ∈ putList l i x) : y = x ∨ y ∈ l := by
  unfold putList at h
  rcases List.mem_append.1 h with h | h
  · exact .inr (List.mem_of_mem_take h)
  · rcases List.mem_cons.1 h with h | h
    · exact .inl h
    · exact .inr (List.mem_of_mem_drop h)
theorem USm.undo {k : Nat} {d : HDoc} {s : HStep} (U : USm k d) (hs : StepSm s) (hk : k ≤ 1000) (hf : fitM d s) : USm (k + 1) (undoD d s) := by
  have N := fun n => U.sm.nd n
  have ka := U.kids
  have aa := U.attrs
  have na := U.names
  unfold fitM at hf
  unfold undoD
  by_cases h1 : s.edit.do' = 1
  · rw [if_pos h1] at hf ⊢
    obtain ⟨_, h0, _⟩ := hf
    obtain ⟨g1, g2, g3⟩ := attrAt_spec _ _ h0
    have := ka s.edit.at'; have := aa s.edit.at'
    refine U.set ⟨(N _).name, ?_, ?_, (N _).text, (N _).kids⟩ (by show (nd d s.edit.at').kids.length ≤ _; omega) ?_ ?_
    · show List.length (if _ then _ else _) ≤ _
      split
      · rw [List.length_set]; omega
      · rw [List.length_take]; omega
    · intro a ha
      have ha : a ∈ (if s.had = true then (nd d s.edit.at').attrs.set (attrAt (nd d s.edit.at').attrs s.edit.name).toNat ⟨s.edit.name, s.was⟩ else (nd d s.edit.at').attrs.take (attrAt (nd d s.edit.at').attrs s.edit.name).toNat) := ha
      split at ha
      · rcases List.mem_or_eq_of_mem_set ha with h | h
        · exact (N _).each a h
        · subst h; exact ⟨hs.edit.name, hs.was⟩
      · exact (N _).each a (List.mem_of_mem_take ha)
    · show List.length (if _ then _ else _) ≤ _
      split
      · rw [List.length_set]; omega
      · rw [List.length_take]; omega
    · show (List.map _ (if _ then _ else _)).Nodup
      split
      · rw [map_set_name g1 (by rw [g2])]; exact na _
      · rw [List.map_take]; exact (na _).sublist (List.take_sublist _ _)
  rw [if_neg h1] at hf ⊢
  by_cases h2 : s.edit.do' = 2
  · rw [if_pos h2] at hf ⊢
    obtain ⟨_, _, p0, p1, h0⟩ := hf
    have := ka s.edit.at'; have := aa s.edit.at'
    have pl := putList_len (l := (nd d s.edit.at').attrs) (i := s.place.toNat) (x := (⟨s.edit.name, s.was⟩ : HAttr)) (by omega)
    refine U.set ⟨(N _).name, ?_, ?_, (N _).text, (N _).kids⟩ (by show (nd d s.edit.at').kids.length ≤ _; omega) ?_ ?_
    · show (putList _ _ _).length ≤ _; omega
    · intro a ha
      rcases mem_putList ha with h | h
      · subst h; exact ⟨hs.edit.name, hs.was⟩
      · exact (N _).each a h
    · show (putList _ _ _).length ≤ _; omega
    · show (List.map _ (putList _ _ _)).Nodup
      have nn := na s.edit.at'
      have hm : s.edit.name ∉ (nd d s.edit.at').attrs.map (·.name) := fun h => h0 ((attrAt_mem _ _).2 h)
      unfold putList
      rw [List.map_append, List.map_cons, List.map_take, List.map_drop]
      generalize (nd d s.edit.at').attrs.map (·.name) = L at nn hm
      have h4 : (L.take s.place.toNat ++ L.drop s.place.toNat).Nodup := by rw [List.take_append_drop]; exact nn
      rw [List.nodup_append] at h4 ⊢
      obtain ⟨q1, q2, q3⟩ := h4
      refine ⟨q1, List.nodup_cons.2 ⟨fun h => hm (List.mem_of_mem_drop h), q2⟩, fun a ha b hb => ?_⟩
      rcases List.mem_cons.1 hb with rfl | hb
      · intro e; subst e; exact hm (List.mem_of_mem_take ha)
      · exact q3 a ha b hb
  rw [if_neg h2] at hf ⊢
  by_cases h3 : s.edit.do' = 3
  · rw [if_pos h3]
    have := ka s.edit.at'; have := aa s.edit.at'
    exact U.set ⟨(N _).name, (N _).attrs, (N _).each, hs.was, (N _).kids⟩ (by show (nd d s.edit.at').kids.length ≤ _; omega) (by show (nd d s.edit.at').attrs.length ≤ _; omega) (na _)
  rw [if_neg h3] at hf ⊢
  by_cases h4 : s.edit.do' = 4
  · rw [if_pos h4]
    have hp : ∀ n, nd (popN d) n = default ∨ nd (popN d) n = nd d n := fun n => by
      unfold nd popN nth
      simp only [List.getD_eq_getElem?_getD, List.getElem?_take]
      split
      · exact .inr rfl
      · exact .inl rfl
    refine ⟨by show (List.take _ _).length ≤ _; rw [List.length_take]; have := U.len; omega, ⟨by show (List.take _ _).length ≤ _; rw [List.length_take]; have := U.len; omega, fun x hx => U.sm.each x (List.mem_of_mem_take hx)⟩, fun n => ?_, fun n => ?_, fun n => ?_⟩
    · rcases hp n with h | h <;> rw [h]
      · exact Nat.zero_le _
      · have := ka n; omega
    · rcases hp n with h | h <;> rw [h]
      · exact Nat.zero_le _
      · have := aa n; omega
    · rcases hp n with h | h <;> rw [h]
      · exact List.nodup_nil
      · exact na n
  rw [if_neg h4] at hf ⊢
  by_cases h5 : s.edit.do' = 5
  · rw [if_pos h5] at hf ⊢
    obtain ⟨_, _, p0, p1, _⟩ := hf
    have cl := cutList_len (l := (nd d s.edit.at').kids) (i := s.place.toNat) (by omega)
    have := ka s.edit.at'; have := aa s.edit.at'
    unfold rehung
    exact (U.set (n := s.edit.at') (x := { nd d s.edit.at' with kids := cutList (nd d s.edit.at').kids s.place.toNat }) ⟨(N _).name, (N _).attrs, (N _).each, (N _).text, by show (cutList _ _).length ≤ _; omega⟩ (by show (cutList _ _).length ≤ _; omega) (by show (nd d s.edit.at').attrs.length ≤ _; omega) (na _)).same
  rw [if_neg h5] at hf ⊢
  by_cases h6 : s.edit.do' = 6
  · rw [if_pos h6] at hf
    obtain ⟨_, _, _, _, p0, p1⟩ := hf
    have pl := putList_len (l := (nd d s.parent).kids) (i := s.place.toNat) (x := s.edit.at') (by omega)
    have := ka s.parent; have := aa s.parent
    unfold rehung
    exact (U.set (n := s.parent) (x := { nd d s.parent with kids := putList (nd d s.parent).kids s.place.toNat s.edit.at' }) ⟨(N _).name, (N _).attrs, (N _).each, (N _).text, by show (putList _ _ _).length ≤ _; omega⟩ (by show (putList _ _ _).length ≤ _; omega) (by show (nd d s.parent).attrs.length ≤ _; omega) (na _)).same
  · rw [if_neg h6] at hf; exact hf.elim
/-- all steps, the last one first; none: one did not fit -/
def backM : HDoc → List HStep → Option HDoc
  | d, [] => some d
  | d, s :: l => if fitM d s then backM (undoD d s) l else none
/-- what Undo answers -/
def undoE (d : HDoc) (l : List HStep) : Int :=
  if docE d ≠ 0 then docE d else if 40 < l.length then 2 else match backM d l.reverse with | none => 9 | some x => if docE x ≠ 0 then 9 else 0
def undoR (d : HDoc) (l : List HStep) : HDoc := if undoE d l = 0 then (backM d l.reverse).getD noDoc else noDoc
end Go.Proofs.K
end
section
/- Steps undone: the undoer's document. -/
set_option linter.unusedSimpArgs false
set_option linter.unusedVariables false
namespace Go.Proofs.K
open Go Go.Sim Go.Proofs
variable {G : Glob}
/-- an undoer: a document of its own, of which the first n nodes are there -/
structure Un (h0 h : Heap) (re rN : Nat) (d : HDoc) (n : Nat) (sl : Nat → AVal) : Prop where
  dw : Dw [re] h0 h rN d sl
  un : h re = some ⟨.t 79, 2, [[.osl rN 6 0 n, .bool d.quirks]]⟩
  new : h0 re = none
  live : ∀ k, k < 2 * d.nodes.length → Mut (sl k)
  le : n ≤ d.nodes.length
section
variable {h0 h : Heap} {re rN : Nat} {d : HDoc} {n : Nat} {sl : Nat → AVal}
theorem Un.ne (E : Un h0 h re rN d n sl) : re ≠ rN := fun e => E.dw.new.2 (by simp [e])
/-- a node's row changed -/
theorem Un.put (E : Un h0 h re rN d n sl) {h2 : Heap} {sl' : Nat → AVal} {i : Nat} (hi : i < d.nodes.length) {x' : HNode}
    (hs : ∀ j, j ≠ 2 * i → j ≠ 2 * i + 1 → sl' j = sl j)
    (hN : h2 rN = some ⟨.t 40, 6, (rowsA d sl).set i (rowA x' (sl' (2 * i)) (sl' (2 * i + 1)))⟩)
    (hk : ∀ r o, h r = some o → r ≠ rN → rootOf (sl (2 * i)) ≠ some r → rootOf (sl (2 * i + 1)) ≠ some r → h2 r = some o)
    (hA : OwnS h2 96 2 (x'.attrs.map eAttr) (sl' (2 * i))) (hK : OwnS h2 3 1 (x'.kids.map eInt) (sl' (2 * i + 1)))
    (hf : ∀ r, rootOf (sl' (2 * i)) = some r ∨ rootOf (sl' (2 * i + 1)) = some r → rootOf (sl (2 * i)) = some r ∨ rootOf (sl (2 * i + 1)) = some r ∨ h r = none)
    (hd : ∀ r, rootOf (sl' (2 * i)) = some r → rootOf (sl' (2 * i + 1)) ≠ some r)
    (hm : Mut (sl' (2 * i)) ∧ Mut (sl' (2 * i + 1))) : Un h0 h2 re rN ⟨d.nodes.set i x', d.quirks⟩ n sl' := by
  have hl : (d.nodes.set i x').length = d.nodes.length := by simp
  refine ⟨E.dw.put hi hs hN hk hA hK hf hd, ?_, E.new, fun k hk' => ?_, by rw [hl]; exact E.le⟩
  · show h2 re = some ⟨_, 2, [[.osl rN 6 0 n, _]]⟩
    refine hk re _ E.un E.ne (fun h => (E.dw.fresh _ (by omega) re h).2.2 (by simp)) (fun h => (E.dw.fresh _ (by omega) re h).2.2 (by simp))
  · simp only [hl] at hk'
    by_cases e1 : k = 2 * i
    · rw [e1]; exact hm.1
    · by_cases e2 : k = 2 * i + 1
      · rw [e2]; exact hm.2
      · rw [hs k e1 e2]; exact E.live k hk'
/-- .. but for its lists -/
theorem Un.cells (E : Un h0 h re rN d n sl) {i : Nat} (hi : i < d.nodes.length) {x' : HNode} (hA : x'.attrs = (nth d.nodes i).attrs) (hK : x'.kids = (nth d.nodes i).kids) :
    Un h0 (upd h rN (some ⟨.t 40, 6, (rowsA d sl).set i (rowA x' (sl (2 * i)) (sl (2 * i + 1)))⟩)) re rN ⟨d.nodes.set i x', d.quirks⟩ n sl := by
  obtain ⟨g1, g2⟩ := E.dw.own i hi
  have k1 : ∀ k, k < 2 * d.nodes.length → ∀ r, rootOf (sl k) = some r → r ≠ rN := fun k hk r hr => (E.dw.fresh k hk r hr).2.1
  refine E.put hi (fun _ _ _ => rfl) (upd_same _ _ _) (fun r o ho hne _ _ => by rw [upd_ne _ _ hne]; exact ho) ?_ ?_ (fun r hr => by rcases hr with h | h; exact .inl h; exact .inr (.inl h)) (fun r hr => E.dw.sep _ _ (by omega) (by omega) (by omega) r hr) ⟨E.live _ (by omega), E.live _ (by omega)⟩
  · rw [hA]; exact g1.keep fun r o hr ho => by rw [upd_ne _ _ (k1 _ (by omega) r hr)]; exact ho
  · rw [hK]; exact g2.keep fun r o hr ho => by rw [upd_ne _ _ (k1 _ (by omega) r hr)]; exact ho
end

/-- the first n nodes -/
def headD (d : HDoc) (n : Nat) : HDoc := ⟨d.nodes.take n, d.quirks⟩
theorem headD_len {d : HDoc} {n : Nat} (h : n ≤ d.nodes.length) : (headD d n).nodes.length = n := by unfold headD; rw [List.length_take]; omega
theorem inD_head {d : HDoc} {n : Nat} (h : n ≤ d.nodes.length) (m : Int) : inD (headD d n) m ↔ 0 ≤ m ∧ m < n := by unfold inD; rw [headD_len h]
theorem nth_take' {α : Type} [Inhabited α] {l : List α} {i n : Nat} (h : i < n) : nth (l.take n) i = nth l i := by
  unfold nth; rw [List.getD_eq_getElem?_getD, List.getD_eq_getElem?_getD, List.getElem?_take, if_pos h]
theorem nd_head {d : HDoc} {n : Nat} {m : Int} (h : m.toNat < n) : nd (headD d n) m = nd d m := by unfold nd headD; exact nth_take' h
theorem head_setN {d : HDoc} {n : Nat} {m : Int} {x : HNode} : headD (setN d m x) n = setN (headD d n) m x := by
  unfold headD setN; rw [List.take_set]
def nodeU (rN n : Nat) (m : Int) : AVal := if 0 ≤ m ∧ m < n then .ptr rN m.toNat 0 else .prim (.pointer none)
def c114 : SFun := ⟨(.seq (.reg [⟨(some 4), (.mv (.c (.prim (Value.pointer none)))), none⟩]) (.seq (.seq (.reg [⟨(some 5), (.mv (.t 1)), none⟩, ⟨(some 6), (.bin .lss (.t 5) (.c (.int .i64 (0)))), none⟩, ⟨(some 7), (.mv (.t 6)), none⟩, ⟨(some 8), (.mv (.t 1)), (some (7, false))⟩, ⟨(some 9), (.mv (.t 0)), (some (7, false))⟩, ⟨(some 10), (.fldA 0 (.t 9)), (some (7, false))⟩, ⟨(some 11), (.fldA 0 (.t 10)), (some (7, false))⟩, ⟨(some 12), (.fldA 0 (.t 11)), (some (7, false))⟩, ⟨(some 13), (.ld 1 false (.t 12)), (some (7, false))⟩, ⟨(some 14), (.len (.t 13)), (some (7, false))⟩, ⟨(some 15), (.bin .geq (.t 8) (.t 14)), (some (7, false))⟩, ⟨(some 16), (.pick (.t 7) (.c (.bool true)) (.t 15)), none⟩]) (.cond (.t 16) (.seq (.reg [⟨(some 4), (.mv (.c (.prim (Value.pointer none)))), none⟩]) .ret) .skip)) (.seq (.reg [⟨(some 17), (.mv (.t 0)), none⟩, ⟨(some 18), (.fldA 0 (.t 17)), none⟩, ⟨(some 19), (.fldA 0 (.t 18)), none⟩, ⟨(some 20), (.fldA 0 (.t 19)), none⟩, ⟨(some 21), (.ld 1 false (.t 20)), none⟩, ⟨(some 22), (.mv (.t 1)), none⟩, ⟨(some 23), (.idxA 6 (.t 21) (.t 22)), none⟩, ⟨(some 4), (.mv (.t 23)), none⟩]) .ret))), [(.tmp 4)]⟩
theorem hc114 : toSF Tryz.prog {} Tryz.f114 = some c114 := by kernel_rfl
theorem hn114 : (Tryz.f114.name == "runtime.NumGoroutine") = false := by kernel_rfl
theorem unode_ok {h0 h : Heap} {re rN : Nat} {d : HDoc} {n : Nat} {sl : Nat → AVal} (E : Un h0 h re rN d n sl) (hn : n ≤ 100000) (m : Int) : DCalls (Pg G) 114 [.vp re 0, aInt m] h fun r h' => r = nodeU rN n m ∧ h' = h := by
  have g := E.un
  refine dcalls_of_vc Tryz.func114 hn114 hc114 (by rw [Tryz.ntmps114]; simp) (by rw [Tryz.ntmps114]; decide) ?_
  unfold nodeU
  by_cases hm : 0 ≤ m ∧ m < n
  · have n0 := hm.1
    have n1 := hm.2
    rw [if_pos hm]
    simp -dsimp -implicitDefEqProofs (disch := omega) only [↓vcOps_sp 7, VCA, Nat.reduceEqDiff, ↓reduceIte, c114]
    repeat' (first | ((with_reducible refine Br.dec (fun _ => ?_) (fun _ => ?_)) <;> try (exfalso; omega)) | ((with_reducible refine Br.eq (fun _ => ?_) (fun _ => ?_)) <;> try (exfalso; omega)) | ((with_reducible refine Br.ne (fun _ => ?_) (fun _ => ?_)) <;> try (exfalso; omega)) | ((with_reducible refine brNdec (fun _ => ?_) (fun _ => ?_)) <;> try (exfalso; omega)) | ((with_reducible refine brNeq (fun _ => ?_) (fun _ => ?_)) <;> try (exfalso; omega)) | with_reducible refine Br.intro (fun _ => ?_) (fun _ => ?_) | (with_reducible refine And.intro ?_ ?_; · omega) | simp -dsimp -implicitDefEqProofs (disch := omega) only [VCA, Nat.reduceEqDiff, Nat.reduceAdd, Nat.reduceLT, Nat.reduceLeDiff, ↓reduceIte, reduceCtorEq, exists_eq_right, exists_eq_left', g])
    all_goals first | (exfalso; omega) | exact ⟨Sub.refl _, by simp⟩ | exact Sub.refl _
  · rw [if_neg hm]
    simp -dsimp -implicitDefEqProofs (disch := omega) only [↓vcOps_sp 7, VCA, Nat.reduceEqDiff, ↓reduceIte, c114]
    repeat' (first | ((with_reducible refine Br.dec (fun _ => ?_) (fun _ => ?_)) <;> try (exfalso; omega)) | ((with_reducible refine Br.eq (fun _ => ?_) (fun _ => ?_)) <;> try (exfalso; omega)) | ((with_reducible refine Br.ne (fun _ => ?_) (fun _ => ?_)) <;> try (exfalso; omega)) | ((with_reducible refine brNdec (fun _ => ?_) (fun _ => ?_)) <;> try (exfalso; omega)) | ((with_reducible refine brNeq (fun _ => ?_) (fun _ => ?_)) <;> try (exfalso; omega)) | with_reducible refine Br.intro (fun _ => ?_) (fun _ => ?_) | (with_reducible refine And.intro ?_ ?_; · omega) | simp -dsimp -implicitDefEqProofs (disch := omega) only [VCA, Nat.reduceEqDiff, Nat.reduceAdd, Nat.reduceLT, Nat.reduceLeDiff, ↓reduceIte, reduceCtorEq, exists_eq_right, exists_eq_left', g])
    all_goals first | (exfalso; omega) | exact Sub.refl _
/-- what undoing a step leaves -/
def UnR (h0 h : Heap) (re : Nat) (d : HDoc) (s : HStep) (r : AVal) (h' : Heap) : Prop :=
  r = .bool (decide (fitM d s)) ∧ ((¬ fitM d s ∧ h' = h) ∨ (fitM d s ∧ ∃ rN' d' n' sl', Un h0 h' re rN' d' n' sl' ∧ headD d' n' = undoD d s))
theorem UnR.bad {h0 h : Heap} {re : Nat} {d : HDoc} {s : HStep} (hf : ¬ fitM d s) : UnR h0 h re d s (.bool false) h := ⟨by rw [decide_eq_false hf], .inl ⟨hf, rfl⟩⟩
theorem UnR.good {h0 h h' : Heap} {re rN' n' : Nat} {d d' : HDoc} {sl' : Nat → AVal} {s : HStep} (hf : fitM d s) (E : Un h0 h' re rN' d' n' sl') (hd : headD d' n' = undoD d s) : UnR h0 h re d s (.bool true) h' :=
  ⟨by rw [decide_eq_true hf], .inr ⟨hf, rN', d', n', sl', E, hd⟩⟩
def c85 : SFun := ⟨(.seq (.reg [⟨(some 3), (.boxF 44 16 (.t 1)), none⟩, ⟨(some 4), (.mv (.c (.bool false))), none⟩]) (.seq (.reg [⟨(some 6), (.mv (.t 0)), none⟩, ⟨(some 7), (.fldA 0 (.t 3)), none⟩, ⟨(some 8), (.fldA 1 (.t 7)), none⟩, ⟨(some 9), (.ld 1 false (.t 8)), none⟩, ⟨(some 10), (.call (.c (.fn 114 [] [])) [(.t 6), (.t 9)]), none⟩, ⟨(some 5), (.mv (.t 10)), none⟩]) (.seq (.seq (.reg [⟨(some 11), (.mv (.t 5)), none⟩, ⟨(some 12), (.isnil 1 false (.t 11)), none⟩, ⟨(some 13), (.mv (.t 12)), none⟩, ⟨(some 14), (.mv (.t 5)), (some (13, false))⟩, ⟨(some 15), (.fldA 0 (.t 14)), (some (13, false))⟩, ⟨(some 16), (.fldA 0 (.t 15)), (some (13, false))⟩, ⟨(some 17), (.ld 1 false (.t 16)), (some (13, false))⟩, ⟨(some 18), (.bin .neq (.t 17) (.c (.int .i64 (3)))), (some (13, false))⟩, ⟨(some 19), (.mv (.t 18)), (some (13, false))⟩, ⟨(some 20), (.mv (.t 5)), (some (19, true))⟩, ⟨(some 21), (.fldA 0 (.t 20)), (some (19, true))⟩, ⟨(some 22), (.fldA 0 (.t 21)), (some (19, true))⟩, ⟨(some 23), (.ld 1 false (.t 22)), (some (19, true))⟩, ⟨(some 24), (.bin .neq (.t 23) (.c (.int .i64 (4)))), (some (19, true))⟩, ⟨(some 25), (.pick (.t 19) (.t 24) (.c (.bool false))), (some (13, false))⟩, ⟨(some 26), (.pick (.t 13) (.c (.bool true)) (.t 25)), none⟩]) (.cond (.t 26) (.seq (.reg [⟨(some 4), (.mv (.c (.bool false))), none⟩]) .ret) .skip)) (.seq (.reg [⟨(some 27), (.mv (.t 5)), none⟩, ⟨(some 28), (.fldA 13 (.t 3)), none⟩, ⟨(some 29), (.ld 1 false (.t 28)), none⟩, ⟨(some 30), (.fldA 0 (.t 27)), none⟩, ⟨(some 31), (.fldA 3 (.t 30)), none⟩, ⟨none, (.st 1 (.t 31) (.t 29)), none⟩]) (.seq (.reg [⟨(some 4), (.mv (.c (.bool true))), none⟩]) .ret))))), [(.tmp 4)]⟩
theorem hc85 : toSF Tryz.prog {} Tryz.f85 = some c85 := by kernel_rfl
theorem hn85 : (Tryz.f85.name == "runtime.NumGoroutine") = false := by kernel_rfl
theorem utext_ok {h0 h : Heap} {re rN : Nat} {d : HDoc} {n : Nat} {sl : Nat → AVal} (E : Un h0 h re rN d n sl) (hn : n ≤ 100000) (s : HStep) (hs : StepSm s) (hdo : s.edit.do' = 3) : DCalls (Pg G) 85 [.vp re 0, .agg (eStep s)] h (UnR h0 h re (headD d n) s) := by
  have gN := E.dw.nodes
  have le := E.le
  have hE := unode_ok (G := G) E hn s.edit.at'
  unfold nodeU at hE
  have eF : fitM (headD d n) s ↔ (0 ≤ s.edit.at' ∧ s.edit.at' < n) ∧ ((nd (headD d n) s.edit.at').kind = 3 ∨ (nd (headD d n) s.edit.at').kind = 4) := by
    unfold fitM; rw [if_neg (by omega), if_neg (by omega), if_pos hdo, inD_head le]
  have eD : undoD (headD d n) s = setN (headD d n) s.edit.at' { nd (headD d n) s.edit.at' with text := s.was } := by unfold undoD; rw [if_neg (by omega), if_neg (by omega), if_pos hdo]
  refine dcalls_of_vc Tryz.func85 hn85 hc85 (by rw [Tryz.ntmps85]; simp) (by rw [Tryz.ntmps85]; decide) ?_
  simp -dsimp -implicitDefEqProofs (disch := omega) only [VCA, Nat.reduceEqDiff, Nat.reduceAdd, Nat.reduceLeDiff, ↓reduceIte, reduceCtorEq, c85, eStep]
  by_cases hm : 0 ≤ s.edit.at' ∧ s.edit.at' < n
  · rw [if_pos hm] at hE
    have hn' : s.edit.at'.toNat < d.nodes.length := by omega
    have gk := rowsA_get (sl := sl) hn'
    have rl := rowsA_len d sl
    have nh : nd (headD d n) s.edit.at' = nd d s.edit.at' := nd_head (by omega)
    have e0 : nth d.nodes s.edit.at'.toNat = nd d s.edit.at' := rfl
    rw [e0] at gk
    rw [nh] at eF eD
    have Ec := E.cells hn' (x' := { nd d s.edit.at' with text := s.was }) rfl rfl
    unfold rowA at gk
    refine DCalls.of hE ?_
    rintro _ _ ⟨rfl, rfl⟩
    by_cases hk : (nd d s.edit.at').kind ≠ 3 ∧ (nd d s.edit.at').kind ≠ 4
    · have hb : ¬ fitM (headD d n) s := fun h => by have := (eF.1 h).2; omega
      repeat' (first | ((with_reducible refine Br.dec (fun _ => ?_) (fun _ => ?_)) <;> try (exfalso; omega)) | ((with_reducible refine Br.eq (fun _ => ?_) (fun _ => ?_)) <;> try (exfalso; omega)) | ((with_reducible refine Br.ne (fun _ => ?_) (fun _ => ?_)) <;> try (exfalso; omega)) | ((with_reducible refine brNdec (fun _ => ?_) (fun _ => ?_)) <;> try (exfalso; omega)) | ((with_reducible refine brNeq (fun _ => ?_) (fun _ => ?_)) <;> try (exfalso; omega)) | with_reducible refine Br.intro (fun _ => ?_) (fun _ => ?_) | (with_reducible refine And.intro ?_ ?_; · omega) | simp -dsimp -implicitDefEqProofs (disch := omega) only [↓vcOps_sp 13, ↓vcOps_sp 19, VCA, Nat.reduceEqDiff, Nat.reduceAdd, Nat.reduceLeDiff, ↓reduceIte, exists_eq_left', gN, gk, rl])
      all_goals first | (exfalso; omega) | exact ⟨_, Sub.refl _, UnR.bad hb⟩ | trace_state
    · have hb : fitM (headD d n) s := eF.2 ⟨hm, by omega⟩
      repeat' (first | ((with_reducible refine Br.dec (fun _ => ?_) (fun _ => ?_)) <;> try (exfalso; omega)) | ((with_reducible refine Br.eq (fun _ => ?_) (fun _ => ?_)) <;> try (exfalso; omega)) | ((with_reducible refine Br.ne (fun _ => ?_) (fun _ => ?_)) <;> try (exfalso; omega)) | ((with_reducible refine brNdec (fun _ => ?_) (fun _ => ?_)) <;> try (exfalso; omega)) | ((with_reducible refine brNeq (fun _ => ?_) (fun _ => ?_)) <;> try (exfalso; omega)) | with_reducible refine Br.intro (fun _ => ?_) (fun _ => ?_) | (with_reducible refine And.intro ?_ ?_; · omega) | simp -dsimp -implicitDefEqProofs (disch := omega) only [↓vcOps_sp 13, ↓vcOps_sp 19, VCA, Nat.reduceEqDiff, Nat.reduceAdd, Nat.reduceLeDiff, ↓reduceIte, setAt, exists_eq_left', gN, gk, rl])
      all_goals first | (exfalso; omega) | exact ⟨_, Sub.refl _, UnR.good hb Ec (by rw [eD]; exact head_setN)⟩ | trace_state
  · rw [if_neg hm] at hE
    have hb : ¬ fitM (headD d n) s := fun h => hm (eF.1 h).1
    refine DCalls.of hE ?_
    rintro _ _ ⟨rfl, rfl⟩
    repeat' (first | ((with_reducible refine Br.dec (fun _ => ?_) (fun _ => ?_)) <;> try (exfalso; omega)) | ((with_reducible refine Br.eq (fun _ => ?_) (fun _ => ?_)) <;> try (exfalso; omega)) | ((with_reducible refine Br.ne (fun _ => ?_) (fun _ => ?_)) <;> try (exfalso; omega)) | ((with_reducible refine brNdec (fun _ => ?_) (fun _ => ?_)) <;> try (exfalso; omega)) | ((with_reducible refine brNeq (fun _ => ?_) (fun _ => ?_)) <;> try (exfalso; omega)) | with_reducible refine Br.intro (fun _ => ?_) (fun _ => ?_) | (with_reducible refine And.intro ?_ ?_; · omega) | simp -dsimp -implicitDefEqProofs (disch := omega) only [↓vcOps_sp 13, ↓vcOps_sp 19, VCA, Nat.reduceEqDiff, ↓reduceIte])
    all_goals exact ⟨_, Sub.refl _, UnR.bad hb⟩
end Go.Proofs.K
end
