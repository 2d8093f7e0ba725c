/- Texts of this claim, one behind the other. -/
import Derived.Test.YtcbhonddhmeibaaGreatDoorM4
set_option maxHeartbeats 4000000
set_option maxRecDepth 100000
section
set_option linter.unusedSimpArgs false
set_option linter.unusedVariables false
namespace Go.Proofs.K
open Go Go.Sim Go.Proofs
variable {G : Glob}
def Z6 (b : Bool) : List AVal := [.bool b]
instance : LenE Z6 1 := ⟨fun _ => rfl⟩
theorem upF_top {d : HDoc} {n : Int} (h : ¬ 0 <= (nd d n).parent) (f : Nat) : upF f d n = 0 := by cases f <;> simp [upF, h]
def c130 : SFun := ⟨.seq (.reg [o 2 (.boxF 39 2 (.t 0)), o 4 (.mv (.c (.int .i64 0)))]) (.seq (.block 0 (.loop (.seq (.seq (.reg [o 5 (.fldA 0 (.t 2)), o 6 (.ld 1 false (.t 5)), o 7 (.mv (.t 1)), o 8 (.idxA 6 (.t 6) (.t 7)), o 9 (.fldA 4 (.t 8)), o 10 (.ld 1 false (.t 9)), o 11 (.bin .geq (.t 10) (.c (.int .i64 0))), o 12 (.mv (.t 11)), ⟨some 13, .mv (.t 4), some (12, true)⟩, ⟨some 14, .fldA 0 (.t 2), some (12, true)⟩, ⟨some 15, .ld 1 false (.t 14), some (12, true)⟩, ⟨some 16, .len (.t 15), some (12, true)⟩, ⟨some 17, .bin .leq (.t 13) (.t 16), some (12, true)⟩, o 18 (.pick (.t 12) (.t 17) (.c (.bool false)))]) (.cond (.t 18) .skip (.exit 0))) (.seq (.block 1 (.reg [o 25 (.mv (.t 4)), o 26 (.bin .add (.t 25) (.c (.int .i64 1))), o 4 (.mv (.t 26))])) (.reg [o 19 (.fldA 0 (.t 2)), o 20 (.ld 1 false (.t 19)), o 21 (.mv (.t 1)), o 22 (.idxA 6 (.t 20) (.t 21)), o 23 (.fldA 4 (.t 22)), o 24 (.ld 1 false (.t 23)), o 1 (.mv (.t 24))]))))) (.seq (.reg [o 27 (.mv (.t 4)), o 4 (.mv (.t 27))]) .ret)), [.tmp 4]⟩
theorem hc130 : X8 Tryz.prog {} Tryz.f130 = some c130 := by kernel_rfl
theorem up_ok (d : HDoc) (sm : DocSm d) (hP : ∀ n, inD d n -> 0 <= (nd d n).parent -> inD d (nd d n).parent) (n : Int) (hn : inD d n) : PCalls (Pg G) 130 [.agg (J4 d), Y0 n] (Y0 (up d n)) := fun h => by
 have hl := sm.len
 refine Z9 Tryz.func130 (by kernel_rfl) hc130 (by rw [Tryz.ntmps130]; simp) (by rw [Tryz.ntmps130]; decide) ?_
 simp -dsimp -implicitDefEqProofs (disch := omega) only [↓Q0 12, ↓Q1 12, VCA, Z1, ↓Q3, Nat.reduceEqDiff, Nat.reduceBEq, Nat.reduceAdd, Nat.reduceSub, Nat.reduceMul, Nat.reduceLT, Nat.reduceLeDiff, ↓reduceIte, reduceCtorEq, Z7, Q6, SOp.rd, SI.rd, SX.rd, rdL, rdO, rdP, Q5, Q4, Q2, Q8, Q7, Z0, implies_true, forall_const, forall_eq, ne_eq, exists_eq_right_right, exists_eq_right, exists_eq_left, exists_eq_left', Q9, Z3, Z8, Z5, J4, Z6, c130, J4]
 refine LoopVC.intro (fun m e h' => ∃ (c : Int) (k : Nat), k <= d.nodes.length + 1 /\ m = d.nodes.length + 1 - k /\ inD d c /\ e 1 = Y0 c /\ e 2 = .pin (J4 d) /\ e 4 = Y0 k /\ h' = h /\ k + upF (d.nodes.length + 1 - k) d c = up d n) (d.nodes.length + 1) ⟨n, 0, by omega, rfl, hn, rfl, rfl, rfl, rfl, by simp [up]⟩ ?_
 rintro m e h' ⟨c, k, hk, rfl, hc, he1, he2, he4, rfl, hu⟩
 have hc0 := hc.1
 have hc1 := hc.2
 simp -dsimp -implicitDefEqProofs (disch := omega) only [↓Q0 12, ↓Q1 12, VCA, Z1, ↓Q3, Nat.reduceEqDiff, Nat.reduceBEq, Nat.reduceAdd, Nat.reduceSub, Nat.reduceMul, Nat.reduceLT, Nat.reduceLeDiff, ↓reduceIte, reduceCtorEq, Z7, Q6, SOp.rd, SI.rd, SX.rd, rdL, rdO, rdP, Q5, Q4, Q2, Q8, Q7, Z0, implies_true, forall_const, forall_eq, ne_eq, exists_eq_right_right, exists_eq_right, exists_eq_left, exists_eq_left', Q9, Z3, Z8, Z5, J4, Z6, he1, he2, he4, J4]
 refine ⟨by omega, ?_⟩
 have e0 : nth d.nodes c.toNat = nd d c := rfl
 rw [e0]
 refine Br.dec (fun h1 => ?_) (fun h1 => ?_)
 ·simp -dsimp -implicitDefEqProofs (disch := omega) only [↓Q0 12, ↓Q1 12, VCA, Z1, ↓Q3, Nat.reduceEqDiff, Nat.reduceBEq, Nat.reduceAdd, Nat.reduceSub, Nat.reduceMul, Nat.reduceLT, Nat.reduceLeDiff, ↓reduceIte, reduceCtorEq, Z7, Q6, SOp.rd, SI.rd, SX.rd, rdL, rdO, rdP, Q5, Q4, Q2, Q8, Q7, Z0, implies_true, forall_const, forall_eq, ne_eq, exists_eq_right_right, exists_eq_right, exists_eq_left, exists_eq_left', Q9, Z3, Z8, Z5, J4, Z6, he1, he2, he4, J4]
  refine Br.dec (fun h2 => ?_) (fun h2 => ?_)
  ·simp -dsimp -implicitDefEqProofs (disch := omega) only [↓Q0 12, ↓Q1 12, VCA, Z1, ↓Q3, Nat.reduceEqDiff, Nat.reduceBEq, Nat.reduceAdd, Nat.reduceSub, Nat.reduceMul, Nat.reduceLT, Nat.reduceLeDiff, ↓reduceIte, reduceCtorEq, Z7, Q6, SOp.rd, SI.rd, SX.rd, rdL, rdO, rdP, Q5, Q4, Q2, Q8, Q7, Z0, implies_true, forall_const, forall_eq, ne_eq, exists_eq_right_right, exists_eq_right, exists_eq_left, exists_eq_left', Q9, Z3, Z8, Z5, J4, Z6, he1, he2, he4, J4]
   refine ⟨by omega, _, ?_, (nd d c).parent, k + 1, by omega, rfl, hP c hc h1, rfl, by omega, ?_⟩
   ·omega
   ·obtain ⟨f, hf⟩ : ∃ f, d.nodes.length + 1 - k = f + 1 := ⟨d.nodes.length - k, by omega⟩
    rw [hf, upF, if_pos h1] at hu
    have e2 : d.nodes.length + 1 - (k + 1) = f := by omega
    rw [e2]; omega
  ·simp -dsimp -implicitDefEqProofs (disch := omega) only [↓Q0 12, ↓Q1 12, VCA, Z1, ↓Q3, Nat.reduceEqDiff, Nat.reduceBEq, Nat.reduceAdd, Nat.reduceSub, Nat.reduceMul, Nat.reduceLT, Nat.reduceLeDiff, ↓reduceIte, reduceCtorEq, Z7, Q6, SOp.rd, SI.rd, SX.rd, rdL, rdO, rdP, Q5, Q4, Q2, Q8, Q7, Z0, implies_true, forall_const, forall_eq, ne_eq, exists_eq_right_right, exists_eq_right, exists_eq_left, exists_eq_left', Q9, Z3, Z8, Z5, J4, Z6, he4]
   have hk' : k = d.nodes.length + 1 := by omega
   subst hk'
   rw [Nat.sub_self, upF] at hu
   exact ⟨Sub.refl _, by omega⟩
 ·simp -dsimp -implicitDefEqProofs (disch := omega) only [↓Q0 12, ↓Q1 12, VCA, Z1, ↓Q3, Nat.reduceEqDiff, Nat.reduceBEq, Nat.reduceAdd, Nat.reduceSub, Nat.reduceMul, Nat.reduceLT, Nat.reduceLeDiff, ↓reduceIte, reduceCtorEq, Z7, Q6, SOp.rd, SI.rd, SX.rd, rdL, rdO, rdP, Q5, Q4, Q2, Q8, Q7, Z0, implies_true, forall_const, forall_eq, ne_eq, exists_eq_right_right, exists_eq_right, exists_eq_left, exists_eq_left', Q9, Z3, Z8, Z5, J4, Z6, he4]
  rw [upF_top h1] at hu
  exact ⟨Sub.refl _, by omega⟩
def SeenI (d : HDoc) (i k : Nat) (sn : List Bool) : Prop := sn.length = d.nodes.length /\ ∀ j, j < d.nodes.length -> (nth sn j = true ↔ (∃ i', i' < i /\ (j : Int) ∈ (nth d.nodes i').kids) \/ (j : Int) ∈ (nth d.nodes i).kids.take k)
def X0 (d : HDoc) : Int :=
 if fe d.nodes.length (kidsE d) ≠ 0 then fe d.nodes.length (kidsE d)
 else if fe d.nodes.length (parE d) ≠ 0 then fe d.nodes.length (parE d)
 else if (nd d 0).parent ≠ -1 then 3 else 0
theorem seen_zero (d : HDoc) : SeenI d 0 0 (List.replicate d.nodes.length false) := by
 refine ⟨by simp, fun j hj => ?_⟩
 have : nth (List.replicate d.nodes.length false) j = false := by simp [nth, List.getD_eq_getElem?_getD, List.getElem?_replicate, hj]
 rw [this]
 simp
theorem seen_next {d : HDoc} {i : Nat} {sn : List Bool} (h : SeenI d i (nth d.nodes i).kids.length sn) : SeenI d (i + 1) 0 sn := by
 refine ⟨h.1, fun j hj => ?_⟩
 rw [h.2 j hj, List.take_length]
 constructor
 ·rintro (⟨i', h1, h2⟩ | h1)
  ·exact .inl ⟨i', by omega, h2⟩
  ·exact .inl ⟨i, by omega, h1⟩
 ·rintro (⟨i', h1, h2⟩ | h1)
  ·by_cases hi : i' = i
   ·subst hi; exact .inr h2
   ·exact .inl ⟨i', by omega, h2⟩
  ·simp at h1
theorem seen_kid {d : HDoc} {i k : Nat} {sn : List Bool} (h : SeenI d i k sn) (hk : k < (nth d.nodes i).kids.length) (hd : inD d (nth (nth d.nodes i).kids k)) : SeenI d i (k + 1) (sn.set (nth (nth d.nodes i).kids k).toNat true) := by
 have hn := hd.nat
 refine ⟨by rw [List.length_set]; exact h.1, fun j hj => ?_⟩
 rw [nth_set _ _ _ _ (by rw [h.1]; exact hn.1), K7 hk, List.mem_append, List.mem_singleton]
 split
 ·rename_i hj'
  subst hj'
  rw [hn.2]
  simp
 ·rename_i hj'
  rw [h.2 j hj]
  constructor
  ·rintro (h1 | h1)
   ·exact .inl h1
   ·exact .inr (.inl h1)
  ·rintro (h1 | h1 | h1)
   ·exact .inl h1
   ·exact .inr h1
   ·exact absurd (by omega) hj'
theorem seen_is {d : HDoc} {i k : Nat} {sn : List Bool} (h : SeenI d i k sn) (hi : i < d.nodes.length) (h0 : ∀ j, j < i -> kidsE d j = 0) {c : Int} (hc : inD d c) (hp : (nd d c).parent = i) : nth sn c.toNat = true ↔ c ∈ (nth d.nodes i).kids.take k := by
 rw [h.2 _ hc.nat.1, hc.nat.2]
 constructor
 ·rintro (⟨i', h1, h2⟩ | h1)
  ·obtain ⟨q, hq, rfl⟩ := mem_nth h2
   have := fe_zero (h0 i' h1) q hq
   unfold kidE at this
   simp only at this
   split at this
   ·omega
   ·rename_i hn
    simp only [not_or, Classical.not_not] at hn
    omega
  ·exact h1
 ·exact .inr
theorem seen_end {d : HDoc} {sn : List Bool} (h : SeenI d d.nodes.length 0 sn) (h0 : ∀ j, j < d.nodes.length -> kidsE d j = 0) {i : Nat} (hi : i < d.nodes.length) : nth sn i = true ↔ (inD d (nth d.nodes i).parent /\ (i : Int) ∈ (nd d (nth d.nodes i).parent).kids) := by
 rw [h.2 _ hi]
 constructor
 ·rintro (⟨i', h1, h2⟩ | h1)
  ·obtain ⟨q, hq, he⟩ := mem_nth h2
   have := fe_zero (h0 i' h1) q hq
   unfold kidE at this
   simp only [he] at this
   split at this
   ·omega
   ·rename_i hn
    simp only [not_or, Classical.not_not] at hn
    rw [nd_nat] at hn
    rw [hn.2.1, nd_nat]
    exact ⟨inD_nat.2 h1, h2⟩
  ·simp at h1
 ·intro ⟨h1, h2⟩
  exact .inl ⟨_, h1.nat.1, h2⟩
theorem eBool_set (sn : List Bool) (k : Nat) (b : Bool) : (sn.map Z6).set k [.bool b] = (sn.set k b).map Z6 := by
 rw [List.map_set]; rfl
def c129 : SFun := ⟨.seq (.reg [o 1 (.boxF 39 2 (.t 0)), o 2 (.mv (.c (.int .i64 0)))]) (.seq (.reg [o 10 (.fldA 0 (.t 1)), o 11 (.ld 1 false (.t 10)), o 12 (.len (.t 11)), o 13 (.mks 4 1 1 [.bool false] (.t 12) (.t 12)), o 3 (.mv (.t 13))]) (.seq (.seq (.reg [o 14 (.fldA 0 (.t 1)), o 15 (.ld 1 false (.t 14)), o 16 (.len (.t 15)), o 17 (.mv (.c (.int .i64 0)))]) (.block 0 (.loop (.seq (.reg [o 18 (.bin .lss (.t 17) (.t 16))]) (.seq (.cond (.t 18) .skip (.exit 0)) (.seq (.block 1 (.seq (.reg [o 19 (.mv (.t 17)), o 20 (.idxA 6 (.t 15) (.t 17)), o 21 (.ld 6 true (.t 20)), o 5 (.new 101 6 [.int .i64 0, .str [], .emp, .str [], .int .i64 0, .emp]), o 4 (.mv (.t 19)), ⟨none, .st 6 (.t 5) (.t 21), none⟩]) (.seq (.reg [o 22 (.fldA 5 (.t 5)), o 23 (.ld 1 false (.t 22)), o 24 (.len (.t 23)), o 25 (.mv (.c (.int .i64 0)))]) (.block 2 (.loop (.seq (.reg [o 26 (.bin .lss (.t 25) (.t 24))]) (.seq (.cond (.t 26) .skip (.exit 2)) (.seq (.block 3 (.seq (.reg [o 27 (.idxA 1 (.t 23) (.t 25)), o 28 (.ld 1 false (.t 27)), o 7 (.mv (.t 28))]) (.seq (.block 4 (.seq (.reg [o 30 (.mv (.t 7)), o 31 (.bin .lss (.t 30) (.c (.int .i64 0))), o 32 (.mv (.t 31)), ⟨some 33, .mv (.t 7), some (32, false)⟩, ⟨some 34, .mv (.t 3), some (32, false)⟩, ⟨some 35, .len (.t 34), some (32, false)⟩, ⟨some 36, .bin .geq (.t 33) (.t 35), some (32, false)⟩, o 37 (.pick (.t 32) (.c (.bool true)) (.t 36)), o 38 (.mv (.t 37)), ⟨some 39, .fldA 0 (.t 1), some (38, false)⟩, ⟨some 40, .ld 1 false (.t 39), some (38, false)⟩, ⟨some 41, .mv (.t 7), some (38, false)⟩, ⟨some 42, .idxA 6 (.t 40) (.t 41), some (38, false)⟩, ⟨some 43, .fldA 4 (.t 42), some (38, false)⟩, ⟨some 44, .ld 1 false (.t 43), some (38, false)⟩, ⟨some 45, .mv (.t 4), some (38, false)⟩, ⟨some 46, .bin .neq (.t 44) (.t 45), some (38, false)⟩, o 47 (.pick (.t 38) (.c (.bool true)) (.t 46)), o 48 (.mv (.t 47)), ⟨some 49, .mv (.t 3), some (48, false)⟩, ⟨some 50, .mv (.t 7), some (48, false)⟩, ⟨some 51, .idxA 1 (.t 49) (.t 50), some (48, false)⟩, ⟨some 52, .ld 1 false (.t 51), some (48, false)⟩, o 53 (.pick (.t 48) (.c (.bool true)) (.t 52)), o 29 (.mv (.t 53))]) (.cond (.t 29) (.seq (.reg [o 2 (.mv (.c (.int .i64 3)))]) .ret) (.seq (.reg [o 55 (.mv (.t 4)), o 56 (.bin .eql (.t 55) (.c (.int .i64 0))), o 57 (.mv (.t 56)), ⟨some 58, .fldA 0 (.t 1), some (57, true)⟩, ⟨some 59, .ld 1 false (.t 58), some (57, true)⟩, ⟨some 60, .mv (.t 7), some (57, true)⟩, ⟨some 61, .idxA 6 (.t 59) (.t 60), some (57, true)⟩, ⟨some 62, .fldA 0 (.t 61), some (57, true)⟩, ⟨some 63, .ld 1 false (.t 62), some (57, true)⟩, ⟨some 64, .bin .eql (.t 63) (.c (.int .i64 3)), some (57, true)⟩, o 65 (.pick (.t 57) (.t 64) (.c (.bool false))), o 54 (.mv (.t 65))]) (.cond (.t 54) (.seq (.reg [o 2 (.mv (.c (.int .i64 7)))]) .ret) .skip))))) (.reg [o 66 (.mv (.t 3)), o 67 (.mv (.t 7)), o 68 (.idxA 1 (.t 66) (.t 67)), ⟨none, .st 1 (.t 68) (.c (.bool true)), none⟩])))) (.reg [o 69 (.bin .add (.t 25) (.c (.int .i64 1))), o 25 (.mv (.t 69))]))))))))) (.reg [o 70 (.bin .add (.t 17) (.c (.int .i64 1))), o 17 (.mv (.t 70))]))))))) (.seq (.seq (.reg [o 71 (.fldA 0 (.t 1)), o 72 (.ld 1 false (.t 71)), o 73 (.len (.t 72)), o 74 (.mv (.c (.int .i64 0)))]) (.block 5 (.loop (.seq (.reg [o 75 (.bin .lss (.t 74) (.t 73))]) (.seq (.cond (.t 75) .skip (.exit 5)) (.seq (.block 6 (.seq (.reg [o 76 (.mv (.t 74)), o 77 (.idxA 6 (.t 72) (.t 74)), o 78 (.ld 6 true (.t 77)), o 9 (.new 101 6 [.int .i64 0, .str [], .emp, .str [], .int .i64 0, .emp]), o 8 (.mv (.t 76)), ⟨none, .st 6 (.t 9) (.t 78), none⟩]) (.seq (.reg [o 79 (.fldA 4 (.t 9)), o 80 (.ld 1 false (.t 79)), o 81 (.bin .neq (.t 80) (.c (.int .i64 (-1)))), o 82 (.mv (.t 81)), ⟨some 83, .mv (.t 3), some (82, true)⟩, ⟨some 84, .mv (.t 8), some (82, true)⟩, ⟨some 85, .idxA 1 (.t 83) (.t 84), some (82, true)⟩, ⟨some 86, .ld 1 false (.t 85), some (82, true)⟩, ⟨some 87, .un .not (.t 86), some (82, true)⟩, o 88 (.pick (.t 82) (.t 87) (.c (.bool false)))]) (.cond (.t 88) (.seq (.reg [o 2 (.mv (.c (.int .i64 3)))]) .ret) .skip)))) (.reg [o 89 (.bin .add (.t 74) (.c (.int .i64 1))), o 74 (.mv (.t 89))]))))))) (.seq (.seq (.reg [o 90 (.fldA 0 (.t 1)), o 91 (.ld 1 false (.t 90)), o 92 (.idxA 6 (.t 91) (.c (.int .i64 0))), o 93 (.fldA 4 (.t 92)), o 94 (.ld 1 false (.t 93)), o 95 (.bin .neq (.t 94) (.c (.int .i64 (-1))))]) (.cond (.t 95) (.seq (.reg [o 2 (.mv (.c (.int .i64 3)))]) .ret) .skip)) (.seq (.reg [o 2 (.mv (.c (.int .i64 0)))]) .ret))))), [.tmp 2]⟩
theorem hc129 : X8 Tryz.prog {} Tryz.f129 = some c129 := by kernel_rfl
theorem kids_ok (d : HDoc) (sm : DocSm d) (hp : 0 < d.nodes.length) : PCalls (Pg G) 129 [.agg (J4 d)] (Y0 (X0 d)) := fun h => by
 have hl := sm.len
 refine Z9 Tryz.func129 (by kernel_rfl) hc129 (by rw [Tryz.ntmps129]; simp) (by rw [Tryz.ntmps129]; decide) ?_
 simp -dsimp -implicitDefEqProofs (disch := omega) only [↓Q0 32, ↓Q1 32, ↓Q0 38, ↓Q1 38, ↓Q0 48, ↓Q1 48, ↓Q0 57, ↓Q1 57, ↓Q0 82, ↓Q1 82, VCA, Z1, ↓Q3, Nat.reduceEqDiff, Nat.reduceBEq, Nat.reduceAdd, Nat.reduceSub, Nat.reduceMul, Nat.reduceLT, Nat.reduceLeDiff, ↓reduceIte, reduceCtorEq, Z7, Q6, SOp.rd, SI.rd, SX.rd, rdL, rdO, rdP, Q5, Q4, Q2, Q8, Q7, Z0, implies_true, forall_const, forall_eq, ne_eq, exists_eq_right_right, exists_eq_right, exists_eq_left, exists_eq_left', Q9, Z3, Z8, Z5, J4, Z6, c129, J4]
 refine ⟨by omega, by omega, by omega, by omega, fun r hr => ?_⟩
 have S0 : Sim.Sub h (upd h r (some ⟨.t 4, 1, List.replicate d.nodes.length [.bool false]⟩)) := (Sub.refl h).upd hr
 refine LoopVC.intro (fun m e h' => ∃ (i : Nat) (sn : List Bool), i <= d.nodes.length /\ m = d.nodes.length - i /\ e 1 = .pin (J4 d) /\ e 3 = .osl r 1 0 d.nodes.length /\ e 15 = sl Z5 d.nodes /\ e 16 = Y0 d.nodes.length /\ e 17 = Y0 i /\ Sim.Sub h h' /\
   h' r = some ⟨.t 4, 1, sn.map Z6⟩ /\ SeenI d i 0 sn /\ ∀ j, j < i -> kidsE d j = 0) d.nodes.length ⟨0, List.replicate d.nodes.length false, by omega, by omega, rfl, rfl, rfl, rfl, rfl, S0, by simp [Z6], seen_zero d, by omega⟩ ?_
 rintro m e h' ⟨i, sn, hi, rfl, he1, he3, he15, he16, he17, S, hr', hS, hj⟩
 simp -dsimp -implicitDefEqProofs (disch := omega) only [↓Q0 32, ↓Q1 32, ↓Q0 38, ↓Q1 38, ↓Q0 48, ↓Q1 48, ↓Q0 57, ↓Q1 57, ↓Q0 82, ↓Q1 82, VCA, Z1, ↓Q3, Nat.reduceEqDiff, Nat.reduceBEq, Nat.reduceAdd, Nat.reduceSub, Nat.reduceMul, Nat.reduceLT, Nat.reduceLeDiff, ↓reduceIte, reduceCtorEq, Z7, Q6, SOp.rd, SI.rd, SX.rd, rdL, rdO, rdP, Q5, Q4, Q2, Q8, Q7, Z0, implies_true, forall_const, forall_eq, ne_eq, exists_eq_right_right, exists_eq_right, exists_eq_left, exists_eq_left', Q9, Z3, Z8, Z5, J4, Z6, he1, he3, he15, he16, he17]
 refine Br.dec (fun hlt => ?_) (fun hge => ?_)
 ·have hi' : i < d.nodes.length := by omega
  have smi := sm.nth i
  simp -dsimp -implicitDefEqProofs (disch := omega) only [↓Q0 32, ↓Q1 32, ↓Q0 38, ↓Q1 38, ↓Q0 48, ↓Q1 48, ↓Q0 57, ↓Q1 57, ↓Q0 82, ↓Q1 82, VCA, Z1, ↓Q3, Nat.reduceEqDiff, Nat.reduceBEq, Nat.reduceAdd, Nat.reduceSub, Nat.reduceMul, Nat.reduceLT, Nat.reduceLeDiff, ↓reduceIte, reduceCtorEq, Z7, Q6, SOp.rd, SI.rd, SX.rd, rdL, rdO, rdP, Q5, Q4, Q2, Q8, Q7, Z0, implies_true, forall_const, forall_eq, ne_eq, exists_eq_right_right, exists_eq_right, exists_eq_left, exists_eq_left', Q9, Z3, Z8, Z5, J4, Z6, he1, he3, he15, he16, he17]
  refine ⟨by omega, fun rx hrx => ?_⟩
  have hne : r ≠ rx := fun e => by subst e; rw [hr'] at hrx; cases hrx
  have S1 := S.upd (x := some ⟨.t 101, 6, [Z5 (nth d.nodes i)]⟩) (S.none hrx)
  have hr1 : upd h' rx (some ⟨.t 101, 6, [Z5 (nth d.nodes i)]⟩) r = some ⟨.t 4, 1, sn.map Z6⟩ := by rw [Y3 _ _ hne]; exact hr'
  have kl := smi.kids
  refine LoopVC.intro (fun m e h' => ∃ (k : Nat) (sn : List Bool), k <= (nth d.nodes i).kids.length /\ m = (nth d.nodes i).kids.length - k /\ e 1 = .pin (J4 d) /\ e 3 = .osl r 1 0 d.nodes.length /\ e 4 = Y0 i /\ e 15 = sl Z5 d.nodes /\ e 16 = Y0 d.nodes.length /\ e 17 = Y0 i /\
   e 23 = sl Z8 (nth d.nodes i).kids /\ e 24 = Y0 (nth d.nodes i).kids.length /\ e 25 = Y0 k /\ Sim.Sub h h' /\ h' r = some ⟨.t 4, 1, sn.map Z6⟩ /\ SeenI d i k sn /\ ∀ j, j < k -> kidE d i j = 0) (nth d.nodes i).kids.length ⟨0, sn, by omega, by omega, he1, he3, rfl, he15, he16, he17, rfl, rfl, rfl, S1, hr1, hS, by omega⟩ ?_
  rintro m e h' ⟨k, sn, hk, rfl, he1, he3, he4, he15, he16, he17, he23, he24, he25, S, hr', hS, hk0⟩
  have hsl := hS.1
  simp -dsimp -implicitDefEqProofs (disch := omega) only [↓Q0 32, ↓Q1 32, ↓Q0 38, ↓Q1 38, ↓Q0 48, ↓Q1 48, ↓Q0 57, ↓Q1 57, ↓Q0 82, ↓Q1 82, VCA, Z1, ↓Q3, Nat.reduceEqDiff, Nat.reduceBEq, Nat.reduceAdd, Nat.reduceSub, Nat.reduceMul, Nat.reduceLT, Nat.reduceLeDiff, ↓reduceIte, reduceCtorEq, Z7, Q6, SOp.rd, SI.rd, SX.rd, rdL, rdO, rdP, Q5, Q4, Q2, Q8, Q7, Z0, implies_true, forall_const, forall_eq, ne_eq, exists_eq_right_right, exists_eq_right, exists_eq_left, exists_eq_left', Q9, Z3, Z8, Z5, J4, Z6, he1, he3, he4, he15, he16, he17, he23, he24, he25]
  refine Br.dec (fun hlt => ?_) (fun hge => ?_)
  ·have hk' : k < (nth d.nodes i).kids.length := by omega
   have bad : ∀ x : Int, x ≠ 0 -> kidE d i k = x -> X0 d = x := fun x hx he => by
    have h1 : kidsE d i = x := by unfold kidsE; rw [fe_some hk' hk0 (by rw [he]; exact hx), he]
    have h2 : fe d.nodes.length (kidsE d) = x := by rw [fe_some hi' hj (by rw [h1]; exact hx), h1]
    unfold X0; rw [h2, if_pos hx]
   have ks : ∀ hc : inD d (nth (nth d.nodes i).kids k), (nd d (nth (nth d.nodes i).kids k)).parent = i -> (nth sn (nth (nth d.nodes i).kids k).toNat = true ↔ nth (nth d.nodes i).kids k ∈ (nth d.nodes i).kids.take k) := fun hc hp => seen_is hS hi' hj hc hp
   have hsk := fun hc => seen_kid hS hk' hc
   have kdef : kidE d i k = if ¬ inD d (nth (nth d.nodes i).kids k) \/ (nd d (nth (nth d.nodes i).kids k)).parent ≠ i \/ nth (nth d.nodes i).kids k ∈ (nth d.nodes i).kids.take k then 3 else if i = 0 /\ (nd d (nth (nth d.nodes i).kids k)).kind = 3 then 7 else 0 := rfl
   have inC : inD d (nth (nth d.nodes i).kids k) ↔ ¬ nth (nth d.nodes i).kids k < 0 /\ ¬ (d.nodes.length : Int) <= nth (nth d.nodes i).kids k := by unfold inD; omega
   have ok0 : ∀ j, kidE d i k = 0 -> j < k + 1 -> kidE d i j = 0 := fun j h0 hj' => by
    by_cases hjk : j = k
    ·subst hjk; exact h0
    ·exact hk0 j (by omega)
   simp -dsimp -implicitDefEqProofs (disch := omega) only [↓Q0 32, ↓Q1 32, ↓Q0 38, ↓Q1 38, ↓Q0 48, ↓Q1 48, ↓Q0 57, ↓Q1 57, ↓Q0 82, ↓Q1 82, VCA, Z1, ↓Q3, Nat.reduceEqDiff, Nat.reduceBEq, Nat.reduceAdd, Nat.reduceSub, Nat.reduceMul, Nat.reduceLT, Nat.reduceLeDiff, ↓reduceIte, reduceCtorEq, Z7, Q6, SOp.rd, SI.rd, SX.rd, rdL, rdO, rdP, Q5, Q4, Q2, Q8, Q7, Z0, implies_true, forall_const, forall_eq, ne_eq, exists_eq_right_right, exists_eq_right, exists_eq_left, exists_eq_left', Q9, Z3, Z8, Z5, J4, Z6, he1, he3, he4, he15, he16, he17, he23, he24, he25, J4, Z5, hr']
   repeat' (first | ((with_reducible refine brC (fun _ => ?_) fun _ => ?_) <;> try (exfalso; omega)) | (with_reducible refine And.intro ?_ ?_; · omega) | simp -dsimp -implicitDefEqProofs (disch := omega) only [↓Q0 32, ↓Q1 32, ↓Q0 38, ↓Q1 38, ↓Q0 48, ↓Q1 48, ↓Q0 57, ↓Q1 57, ↓Q0 82, ↓Q1 82, VCA, Z1, ↓Q3, Nat.reduceEqDiff, Nat.reduceBEq, Nat.reduceAdd, Nat.reduceSub, Nat.reduceMul, Nat.reduceLT, Nat.reduceLeDiff, ↓reduceIte, reduceCtorEq, Z7, Q6, SOp.rd, SI.rd, SX.rd, rdL, rdO, rdP, Q5, Q4, Q2, Q8, Q7, Z0, implies_true, forall_const, forall_eq, ne_eq, exists_eq_right_right, exists_eq_right, exists_eq_left, exists_eq_left', Q9, Z3, Z8, Z5, J4, Z6, he1, he3, he4, he15, he16, he17, he23, he24, he25, J4, Z5, hr', Z6])
   ·rename_i q
    exact (bad 3 (by decide) (by rw [kdef, if_pos (.inl fun hc => (inC.1 hc).1 q)])).symm
   ·rename_i q
    exact (bad 3 (by decide) (by rw [kdef, if_pos (.inl fun hc => (inC.1 hc).2 q)])).symm
   ·rename_i q
    exact (bad 3 (by decide) (by rw [kdef, if_pos (.inr (.inl q))])).symm
   ·rename_i q3 q2 q1 q
    exact (bad 3 (by decide) (by rw [kdef, if_pos (.inr (.inr ((ks (inC.2 ⟨q3, q2⟩) q1).1 q)))])).symm
   ·rename_i q5 q4 q3 q2 q1 q
    refine (bad 7 (by decide) ?_).symm
    rw [kdef, if_neg, if_pos ⟨by omega, q⟩]
    rintro (hh | hh | hh)
    ·exact hh (inC.2 ⟨q5, q4⟩)
    ·exact hh q3
    ·rw [(ks (inC.2 ⟨q5, q4⟩) q3).2 hh] at q2; cases q2
   ·rename_i q5 q4 q3 q2 q1 q
    have k0 : kidE d i k = 0 := by
     rw [kdef, if_neg, if_neg (fun hh => q hh.2)]
     rintro (hh | hh | hh)
     ·exact hh (inC.2 ⟨q5, q4⟩)
     ·exact hh q3
     ·rw [(ks (inC.2 ⟨q5, q4⟩) q3).2 hh] at q2; cases q2
    refine ⟨_, by omega, k + 1, sn.set (nth (nth d.nodes i).kids k).toNat true, by omega, rfl, by omega, S.upd hr, ?_, hsk (inC.2 ⟨q5, q4⟩), fun j => ok0 j k0⟩
    rw [eBool_set]
   ·rename_i q4 q3 q2 q1 q
    have k0 : kidE d i k = 0 := by
     rw [kdef, if_neg, if_neg (fun hh => q (by omega))]
     rintro (hh | hh | hh)
     ·exact hh (inC.2 ⟨q4, q3⟩)
     ·exact hh q2
     ·rw [(ks (inC.2 ⟨q4, q3⟩) q2).2 hh] at q1; cases q1
    refine ⟨_, by omega, k + 1, sn.set (nth (nth d.nodes i).kids k).toNat true, by omega, rfl, by omega, S.upd hr, ?_, hsk (inC.2 ⟨q4, q3⟩), fun j => ok0 j k0⟩
    rw [eBool_set]
  ·simp -dsimp -implicitDefEqProofs (disch := omega) only [↓Q0 32, ↓Q1 32, ↓Q0 38, ↓Q1 38, ↓Q0 48, ↓Q1 48, ↓Q0 57, ↓Q1 57, ↓Q0 82, ↓Q1 82, VCA, Z1, ↓Q3, Nat.reduceEqDiff, Nat.reduceBEq, Nat.reduceAdd, Nat.reduceSub, Nat.reduceMul, Nat.reduceLT, Nat.reduceLeDiff, ↓reduceIte, reduceCtorEq, Z7, Q6, SOp.rd, SI.rd, SX.rd, rdL, rdO, rdP, Q5, Q4, Q2, Q8, Q7, Z0, implies_true, forall_const, forall_eq, ne_eq, exists_eq_right_right, exists_eq_right, exists_eq_left, exists_eq_left', Q9, Z3, Z8, Z5, J4, Z6, he1, he3, he4, he15, he16, he17, he23, he24, he25]
   obtain rfl : k = (nth d.nodes i).kids.length := by omega
   refine ⟨_, by omega, i + 1, sn, by omega, rfl, by omega, S, hr', seen_next hS, fun j hj' => ?_⟩
   by_cases hji : j = i
   ·subst hji; exact fe_none hk0
   ·exact hj j (by omega)
 ·obtain rfl : i = d.nodes.length := by omega
  have hk0 : fe d.nodes.length (kidsE d) = 0 := fe_none hj
  have hsl := hS.1
  simp -dsimp -implicitDefEqProofs (disch := omega) only [↓Q0 32, ↓Q1 32, ↓Q0 38, ↓Q1 38, ↓Q0 48, ↓Q1 48, ↓Q0 57, ↓Q1 57, ↓Q0 82, ↓Q1 82, VCA, Z1, ↓Q3, Nat.reduceEqDiff, Nat.reduceBEq, Nat.reduceAdd, Nat.reduceSub, Nat.reduceMul, Nat.reduceLT, Nat.reduceLeDiff, ↓reduceIte, reduceCtorEq, Z7, Q6, SOp.rd, SI.rd, SX.rd, rdL, rdO, rdP, Q5, Q4, Q2, Q8, Q7, Z0, implies_true, forall_const, forall_eq, ne_eq, exists_eq_right_right, exists_eq_right, exists_eq_left, exists_eq_left', Q9, Z3, Z8, Z5, J4, Z6, he1, he3, J4]
  refine LoopVC.intro (fun m e h' => ∃ i : Nat, i <= d.nodes.length /\ m = d.nodes.length - i /\ e 1 = .pin (J4 d) /\ e 3 = .osl r 1 0 d.nodes.length /\ e 72 = sl Z5 d.nodes /\ e 73 = Y0 d.nodes.length /\ e 74 = Y0 i /\ Sim.Sub h h' /\
   h' r = some ⟨.t 4, 1, sn.map Z6⟩ /\ ∀ j, j < i -> parE d j = 0) d.nodes.length ⟨0, by omega, by omega, he1, he3, rfl, rfl, rfl, S, hr', by omega⟩ ?_
  rintro m e h' ⟨i, hi, rfl, he1, he3, he72, he73, he74, S, hr', hp0⟩
  simp -dsimp -implicitDefEqProofs (disch := omega) only [↓Q0 32, ↓Q1 32, ↓Q0 38, ↓Q1 38, ↓Q0 48, ↓Q1 48, ↓Q0 57, ↓Q1 57, ↓Q0 82, ↓Q1 82, VCA, Z1, ↓Q3, Nat.reduceEqDiff, Nat.reduceBEq, Nat.reduceAdd, Nat.reduceSub, Nat.reduceMul, Nat.reduceLT, Nat.reduceLeDiff, ↓reduceIte, reduceCtorEq, Z7, Q6, SOp.rd, SI.rd, SX.rd, rdL, rdO, rdP, Q5, Q4, Q2, Q8, Q7, Z0, implies_true, forall_const, forall_eq, ne_eq, exists_eq_right_right, exists_eq_right, exists_eq_left, exists_eq_left', Q9, Z3, Z8, Z5, J4, Z6, he1, he3, he72, he73, he74]
  refine Br.dec (fun hlt => ?_) (fun hge => ?_)
  ·have hi' : i < d.nodes.length := by omega
   have se := seen_end hS hj hi'
   have bad : parE d i = 3 -> X0 d = 3 := fun h3 => by
    have h2 : fe d.nodes.length (parE d) = 3 := by rw [fe_some hi' hp0 (by rw [h3]; decide), h3]
    unfold X0; rw [hk0, if_neg (by simp), h2]; rfl
   simp -dsimp -implicitDefEqProofs (disch := omega) only [↓Q0 32, ↓Q1 32, ↓Q0 38, ↓Q1 38, ↓Q0 48, ↓Q1 48, ↓Q0 57, ↓Q1 57, ↓Q0 82, ↓Q1 82, VCA, Z1, ↓Q3, Nat.reduceEqDiff, Nat.reduceBEq, Nat.reduceAdd, Nat.reduceSub, Nat.reduceMul, Nat.reduceLT, Nat.reduceLeDiff, ↓reduceIte, reduceCtorEq, Z7, Q6, SOp.rd, SI.rd, SX.rd, rdL, rdO, rdP, Q5, Q4, Q2, Q8, Q7, Z0, implies_true, forall_const, forall_eq, ne_eq, exists_eq_right_right, exists_eq_right, exists_eq_left, exists_eq_left', Q9, Z3, Z8, Z5, J4, Z6, he1, he3, he72, he73, he74, Z5]
   refine ⟨by omega, fun rx hrx => ?_⟩
   have hne : r ≠ rx := fun e => by subst e; rw [hr'] at hrx; cases hrx
   have S1 := S.upd (x := some ⟨.t 101, 6, [Z5 (nth d.nodes i)]⟩) (S.none hrx)
   have hr1 : ∀ x, upd h' rx (some x) r = some ⟨.t 4, 1, sn.map Z6⟩ := fun x => by rw [Y3 _ _ hne]; exact hr'
   have pdef : parE d i = if (nth d.nodes i).parent ≠ -1 /\ (¬ inD d (nth d.nodes i).parent \/ (i : Int) ∉ (nd d (nth d.nodes i).parent).kids) then 3 else 0 := rfl
   have ok0 : parE d i = 0 -> ∀ j, j < i + 1 -> parE d j = 0 := fun h0 j hj' => by
    by_cases hji : j = i
    ·subst hji; exact h0
    ·exact hp0 j (by omega)
   repeat' (first | ((with_reducible refine brC (fun _ => ?_) fun _ => ?_) <;> try (exfalso; omega)) | (with_reducible refine And.intro ?_ ?_; · omega) | simp -dsimp -implicitDefEqProofs (disch := omega) only [↓Q0 32, ↓Q1 32, ↓Q0 38, ↓Q1 38, ↓Q0 48, ↓Q1 48, ↓Q0 57, ↓Q1 57, ↓Q0 82, ↓Q1 82, VCA, Z1, ↓Q3, Nat.reduceEqDiff, Nat.reduceBEq, Nat.reduceAdd, Nat.reduceSub, Nat.reduceMul, Nat.reduceLT, Nat.reduceLeDiff, ↓reduceIte, reduceCtorEq, Z7, Q6, SOp.rd, SI.rd, SX.rd, rdL, rdO, rdP, Q5, Q4, Q2, Q8, Q7, Z0, implies_true, forall_const, forall_eq, ne_eq, exists_eq_right_right, exists_eq_right, exists_eq_left, exists_eq_left', Q9, Z3, Z8, Z5, J4, Z6, he1, he3, he72, he73, he74, Z5, hne, hr', Z6])
   ·rename_i q1 q
    have hb := bad (by
     rw [pdef, if_pos]
     refine ⟨q1, ?_⟩
     rw [<- Classical.not_and_iff_not_or_not, <- se]
     simpa using q)
    exact ⟨S1, by rw [hb]⟩
   ·rename_i q1 q
    refine ⟨_, by omega, i + 1, by omega, rfl, by omega, S1, ok0 ?_⟩
    rw [pdef, if_neg]
    rintro ⟨_, hh⟩
    rw [<- Classical.not_and_iff_not_or_not, <- se] at hh
    simp [hh] at q
   ·rename_i q
    refine ⟨_, by omega, i + 1, by omega, rfl, by omega, S1, ok0 ?_⟩
    rw [pdef, if_neg (fun hh => hh.1 q)]
  ·obtain rfl : i = d.nodes.length := by omega
   have hp1 : fe d.nodes.length (parE d) = 0 := fe_none hp0
   have e0 : nd d 0 = nth d.nodes 0 := nd_nat d 0
   have kd : X0 d = if (nth d.nodes 0).parent ≠ -1 then 3 else 0 := by
    unfold X0; rw [hk0, if_neg (by simp), hp1, if_neg (by simp), e0]
   repeat' (first | ((with_reducible refine brC (fun _ => ?_) fun _ => ?_) <;> try (exfalso; omega)) | (with_reducible refine And.intro ?_ ?_; · omega) | simp -dsimp -implicitDefEqProofs (disch := omega) only [↓Q0 32, ↓Q1 32, ↓Q0 38, ↓Q1 38, ↓Q0 48, ↓Q1 48, ↓Q0 57, ↓Q1 57, ↓Q0 82, ↓Q1 82, VCA, Z1, ↓Q3, Nat.reduceEqDiff, Nat.reduceBEq, Nat.reduceAdd, Nat.reduceSub, Nat.reduceMul, Nat.reduceLT, Nat.reduceLeDiff, ↓reduceIte, reduceCtorEq, Z7, Q6, SOp.rd, SI.rd, SX.rd, rdL, rdO, rdP, Q5, Q4, Q2, Q8, Q7, Z0, implies_true, forall_const, forall_eq, ne_eq, exists_eq_right_right, exists_eq_right, exists_eq_left, exists_eq_left', Q9, Z3, Z8, Z5, J4, Z6, he1, he3, he72, he73, he74, J4, Z5])
   ·rename_i q
    rw [kd, if_pos q]
   ·rename_i q
    rw [kd, if_neg (by simpa using q)]
theorem docE_kids (d : HDoc) : docE d = if 200 < d.nodes.length then 2 else if d.nodes.length = 0 then 3 else if fe d.nodes.length (headE d) ≠ 0 then fe d.nodes.length (headE d) else if X0 d ≠ 0 then X0 d else fe d.nodes.length (deepE d) := by
 unfold docE X0
 by_cases h1 : fe d.nodes.length (kidsE d) ≠ 0
 ·simp [h1]
 ·by_cases h2 : fe d.nodes.length (parE d) ≠ 0
  ·simp [h1, h2]
  ·by_cases h3 : (nd d 0).parent ≠ -1 <;> simp [h1, h2, h3]
theorem kids_par {d : HDoc} (h : X0 d = 0) : ∀ n, inD d n -> 0 <= (nd d n).parent -> inD d (nd d n).parent := by
 intro n hn hp
 have h2 : fe d.nodes.length (parE d) = 0 := by
  unfold X0 at h
  split at h
  ·contradiction
  ·split at h
   ·contradiction
   ·rename_i hh; simpa using hh
 have := fe_zero h2 n.toNat hn.nat.1
 unfold parE at this
 simp only at this
 split at this
 ·omega
 ·rename_i hh
  have e : (nth d.nodes n.toNat) = nd d n := rfl
  rw [e] at hh
  simp only [not_and, not_or, Classical.not_not] at hh
  exact (hh (by omega)).1
def c57 : SFun := ⟨.seq (.reg [o 1 (.boxF 39 2 (.t 0)), o 2 (.mv (.c (.int .i64 0)))]) (.seq (.block 0 (.seq (.reg [o 10 (.fldA 0 (.t 1)), o 11 (.ld 1 false (.t 10)), o 12 (.len (.t 11)), o 13 (.bin .gtr (.t 12) (.c (.int .i64 200))), o 9 (.mv (.t 13))]) (.cond (.t 9) (.seq (.reg [o 2 (.mv (.c (.int .i64 2)))]) .ret) (.seq (.reg [o 15 (.fldA 0 (.t 1)), o 16 (.ld 1 false (.t 15)), o 17 (.len (.t 16)), o 18 (.bin .eql (.t 17) (.c (.int .i64 0))), o 14 (.mv (.t 18))]) (.cond (.t 14) (.seq (.reg [o 2 (.mv (.c (.int .i64 3)))]) .ret) .skip))))) (.seq (.seq (.reg [o 19 (.fldA 0 (.t 1)), o 20 (.ld 1 false (.t 19)), o 21 (.len (.t 20)), o 22 (.mv (.c (.int .i64 0)))]) (.block 1 (.loop (.seq (.reg [o 23 (.bin .lss (.t 22) (.t 21))]) (.seq (.cond (.t 23) .skip (.exit 1)) (.seq (.block 2 (.seq (.reg [o 24 (.mv (.t 22)), o 25 (.idxA 6 (.t 20) (.t 22)), o 26 (.ld 6 true (.t 25)), o 4 (.new 101 6 [.int .i64 0, .str [], .emp, .str [], .int .i64 0, .emp]), o 3 (.mv (.t 24)), ⟨none, .st 6 (.t 4) (.t 26), none⟩]) (.seq (.seq (.reg [o 27 (.fldA 0 (.t 4)), o 28 (.ld 1 false (.t 27)), o 29 (.bin .eql (.t 28) (.c (.int .i64 1))), o 30 (.mv (.t 3)), o 31 (.bin .eql (.t 30) (.c (.int .i64 0))), o 32 (.eqb true (.t 29) (.t 31))]) (.cond (.t 32) (.seq (.reg [o 2 (.mv (.c (.int .i64 3)))]) .ret) .skip)) (.seq (.reg [o 33 (.ld 6 true (.t 4)), o 34 (.pcall 128 [.t 33]), o 5 (.mv (.t 34))]) (.seq (.reg [o 35 (.mv (.t 5)), o 36 (.bin .neq (.t 35) (.c (.int .i64 0)))]) (.cond (.t 36) (.seq (.reg [o 37 (.mv (.t 5)), o 2 (.mv (.t 37))]) .ret) .skip)))))) (.reg [o 38 (.bin .add (.t 22) (.c (.int .i64 1))), o 22 (.mv (.t 38))]))))))) (.seq (.seq (.reg [o 39 (.ld 2 true (.t 1)), o 40 (.pcall 129 [.t 39]), o 6 (.mv (.t 40))]) (.seq (.reg [o 41 (.mv (.t 6)), o 42 (.bin .neq (.t 41) (.c (.int .i64 0)))]) (.cond (.t 42) (.seq (.reg [o 43 (.mv (.t 6)), o 2 (.mv (.t 43))]) .ret) .skip))) (.seq (.seq (.reg [o 44 (.fldA 0 (.t 1)), o 45 (.ld 1 false (.t 44)), o 46 (.len (.t 45)), o 47 (.mv (.c (.int .i64 0)))]) (.block 3 (.loop (.seq (.reg [o 48 (.bin .lss (.t 47) (.t 46))]) (.seq (.cond (.t 48) .skip (.exit 3)) (.seq (.block 4 (.seq (.reg [o 49 (.mv (.t 47)), o 7 (.mv (.t 49))]) (.seq (.reg [o 50 (.ld 2 true (.t 1)), o 51 (.mv (.t 7)), o 52 (.pcall 130 [.t 50, .t 51]), o 8 (.mv (.t 52))]) (.block 5 (.seq (.reg [o 54 (.mv (.t 8)), o 55 (.fldA 0 (.t 1)), o 56 (.ld 1 false (.t 55)), o 57 (.len (.t 56)), o 58 (.bin .gtr (.t 54) (.t 57)), o 53 (.mv (.t 58))]) (.cond (.t 53) (.seq (.reg [o 2 (.mv (.c (.int .i64 8)))]) .ret) (.seq (.reg [o 60 (.mv (.t 8)), o 61 (.bin .gtr (.t 60) (.c (.int .i64 40))), o 59 (.mv (.t 61))]) (.cond (.t 59) (.seq (.reg [o 2 (.mv (.c (.int .i64 2)))]) .ret) .skip)))))))) (.reg [o 62 (.bin .add (.t 47) (.c (.int .i64 1))), o 47 (.mv (.t 62))]))))))) (.seq (.reg [o 2 (.mv (.c (.int .i64 0)))]) .ret))))), [.tmp 2]⟩
theorem hc57 : X8 Tryz.prog {pure := [128, 129, 130]} Tryz.f57 = some c57 := by kernel_rfl
theorem check_ok (d : HDoc) (sm : DocSm d) : PCalls (Pg G) 57 [.agg (J4 d)] (Y0 (docE d)) := fun h => by
 have hl := sm.len
 rw [docE_kids]
 refine Z9 Tryz.func57 (by kernel_rfl) hc57 (by rw [Tryz.ntmps57]; simp) (by rw [Tryz.ntmps57]; decide) ?_
 simp -dsimp -implicitDefEqProofs (disch := omega) only [VCA, Z1, ↓Q3, Nat.reduceEqDiff, Nat.reduceBEq, Nat.reduceAdd, Nat.reduceSub, Nat.reduceMul, Nat.reduceLT, Nat.reduceLeDiff, ↓reduceIte, reduceCtorEq, Z7, Q6, SOp.rd, SI.rd, SX.rd, rdL, rdO, rdP, Q5, Q4, Q2, Q8, Q7, Z0, implies_true, forall_const, forall_eq, ne_eq, exists_eq_right_right, exists_eq_right, exists_eq_left, exists_eq_left', Q9, Z3, Z8, Z5, J4, Z6, c57, J4]
 refine Br.dec (fun h1 => ?_) (fun h1 => ?_)
 ·rw [if_pos (by omega)]
  simp -dsimp -implicitDefEqProofs (disch := omega) only [VCA, Z1, ↓Q3, Nat.reduceEqDiff, Nat.reduceBEq, Nat.reduceAdd, Nat.reduceSub, Nat.reduceMul, Nat.reduceLT, Nat.reduceLeDiff, ↓reduceIte, reduceCtorEq, Z7, Q6, SOp.rd, SI.rd, SX.rd, rdL, rdO, rdP, Q5, Q4, Q2, Q8, Q7, Z0, implies_true, forall_const, forall_eq, ne_eq, exists_eq_right_right, exists_eq_right, exists_eq_left, exists_eq_left', Q9, Z3, Z8, Z5, J4, Z6]
  exact Sub.refl _
 ·rw [if_neg (by omega)]
  simp -dsimp -implicitDefEqProofs (disch := omega) only [VCA, Z1, ↓Q3, Nat.reduceEqDiff, Nat.reduceBEq, Nat.reduceAdd, Nat.reduceSub, Nat.reduceMul, Nat.reduceLT, Nat.reduceLeDiff, ↓reduceIte, reduceCtorEq, Z7, Q6, SOp.rd, SI.rd, SX.rd, rdL, rdO, rdP, Q5, Q4, Q2, Q8, Q7, Z0, implies_true, forall_const, forall_eq, ne_eq, exists_eq_right_right, exists_eq_right, exists_eq_left, exists_eq_left', Q9, Z3, Z8, Z5, J4, Z6]
  refine Br.eq (fun h2 => ?_) (fun h2 => ?_)
  ·rw [if_pos (by omega)]
   simp -dsimp -implicitDefEqProofs (disch := omega) only [VCA, Z1, ↓Q3, Nat.reduceEqDiff, Nat.reduceBEq, Nat.reduceAdd, Nat.reduceSub, Nat.reduceMul, Nat.reduceLT, Nat.reduceLeDiff, ↓reduceIte, reduceCtorEq, Z7, Q6, SOp.rd, SI.rd, SX.rd, rdL, rdO, rdP, Q5, Q4, Q2, Q8, Q7, Z0, implies_true, forall_const, forall_eq, ne_eq, exists_eq_right_right, exists_eq_right, exists_eq_left, exists_eq_left', Q9, Z3, Z8, Z5, J4, Z6]
   exact Sub.refl _
  ·rw [if_neg (by omega)]
   simp -dsimp -implicitDefEqProofs (disch := omega) only [VCA, Z1, ↓Q3, Nat.reduceEqDiff, Nat.reduceBEq, Nat.reduceAdd, Nat.reduceSub, Nat.reduceMul, Nat.reduceLT, Nat.reduceLeDiff, ↓reduceIte, reduceCtorEq, Z7, Q6, SOp.rd, SI.rd, SX.rd, rdL, rdO, rdP, Q5, Q4, Q2, Q8, Q7, Z0, implies_true, forall_const, forall_eq, ne_eq, exists_eq_right_right, exists_eq_right, exists_eq_left, exists_eq_left', Q9, Z3, Z8, Z5, J4, Z6]
   refine LoopVC.intro (fun m e h' => ∃ i : Nat, i <= d.nodes.length /\ m = d.nodes.length - i /\ e 1 = .pin (J4 d) /\ e 20 = sl Z5 d.nodes /\ e 21 = Y0 d.nodes.length /\ e 22 = Y0 i /\ Sim.Sub h h' /\ ∀ j, j < i -> headE d j = 0) d.nodes.length ⟨0, by omega, by omega, rfl, rfl, rfl, rfl, Sub.refl _, by omega⟩ ?_
   rintro m e h' ⟨i, hi, rfl, he1, he20, he21, he22, S, hj⟩
   simp -dsimp -implicitDefEqProofs (disch := omega) only [VCA, Z1, ↓Q3, Nat.reduceEqDiff, Nat.reduceBEq, Nat.reduceAdd, Nat.reduceSub, Nat.reduceMul, Nat.reduceLT, Nat.reduceLeDiff, ↓reduceIte, reduceCtorEq, Z7, Q6, SOp.rd, SI.rd, SX.rd, rdL, rdO, rdP, Q5, Q4, Q2, Q8, Q7, Z0, implies_true, forall_const, forall_eq, ne_eq, exists_eq_right_right, exists_eq_right, exists_eq_left, exists_eq_left', Q9, Z3, Z8, Z5, J4, Z6, he1, he20, he21, he22]
   refine Br.dec (fun hlt => ?_) (fun hge => ?_)
   ·have hi' : i < d.nodes.length := by omega
    have hO : PCalls (Pg G) 128 [.agg [Y0 (nth d.nodes i).kind, .str (nth d.nodes i).name, sl Z3 (nth d.nodes i).attrs, .str (nth d.nodes i).text, Y0 (nth d.nodes i).parent, sl Z8 (nth d.nodes i).kids]] (Y0 (nodeE (nth d.nodes i))) := one_ok' _ (sm.nth i)
    simp -dsimp -implicitDefEqProofs (disch := omega) only [VCA, Z1, ↓Q3, Nat.reduceEqDiff, Nat.reduceBEq, Nat.reduceAdd, Nat.reduceSub, Nat.reduceMul, Nat.reduceLT, Nat.reduceLeDiff, ↓reduceIte, reduceCtorEq, Z7, Q6, SOp.rd, SI.rd, SX.rd, rdL, rdO, rdP, Q5, Q4, Q2, Q8, Q7, Z0, implies_true, forall_const, forall_eq, ne_eq, exists_eq_right_right, exists_eq_right, exists_eq_left, exists_eq_left', Q9, Z3, Z8, Z5, J4, Z6, he1, he20, he21, he22, Z5]
    refine ⟨by omega, fun rx hrx => ?_⟩
    have S1 := S.upd (x := some ⟨.t 101, 6, [Z5 (nth d.nodes i)]⟩) (S.none hrx)
    have hdef : headE d i = if ¬ ((nth d.nodes i).kind = 1 ↔ i = 0) then 3 else nodeE (nth d.nodes i) := rfl
    have bad : ∀ x : Int, x ≠ 0 -> headE d i = x -> fe d.nodes.length (headE d) = x := fun x hx he => by rw [fe_some hi' hj (by rw [he]; exact hx), he]
    have bq : (((nth d.nodes i).kind == 1) == ((i : Int) == 0)) = true ↔ ((nth d.nodes i).kind = 1 ↔ i = 0) := by
     rw [beq_iff_eq, Bool.eq_iff_iff, beq_iff_eq, beq_iff_eq]; omega
    repeat' (first | ((with_reducible refine brC (fun _ => ?_) fun _ => ?_) <;> try (exfalso; omega)) | (with_reducible apply pcallE.of; · exact hO) | (with_reducible refine And.intro ?_ ?_; · omega) | simp -dsimp -implicitDefEqProofs (disch := omega) only [VCA, Z1, ↓Q3, Nat.reduceEqDiff, Nat.reduceBEq, Nat.reduceAdd, Nat.reduceSub, Nat.reduceMul, Nat.reduceLT, Nat.reduceLeDiff, ↓reduceIte, reduceCtorEq, Z7, Q6, SOp.rd, SI.rd, SX.rd, rdL, rdO, rdP, Q5, Q4, Q2, Q8, Q7, Z0, implies_true, forall_const, forall_eq, ne_eq, exists_eq_right_right, exists_eq_right, exists_eq_left, exists_eq_left', Q9, Z3, Z8, Z5, J4, Z6, he1, he20, he21, he22, Z5])
    ·rename_i q
     have q : ¬ ((nth d.nodes i).kind = 1 ↔ i = 0) := fun hh => q (beq_iff_eq.1 (bq.2 hh))
     have := bad 3 (by decide) (by rw [hdef, if_pos q])
     exact ⟨S1, by rw [this]; rfl⟩
    ·rename_i q1 q
     have q1 : ¬ ¬ ((nth d.nodes i).kind = 1 ↔ i = 0) := fun hh => hh (bq.1 (beq_iff_eq.2 q1))
     have := bad _ q (by rw [hdef, if_neg q1])
     exact ⟨S1, by rw [this, if_pos q]⟩
    ·rename_i q1 q
     have q1 : ¬ ¬ ((nth d.nodes i).kind = 1 ↔ i = 0) := fun hh => hh (bq.1 (beq_iff_eq.2 q1))
     refine ⟨_, by omega, i + 1, by omega, rfl, by omega, S1, fun j hj' => ?_⟩
     by_cases hji : j = i
     ·subst hji; rw [hdef, if_neg q1, q]
     ·exact hj j (by omega)
   ·obtain rfl : i = d.nodes.length := by omega
    rw [if_neg (by rw [fe_none hj]; simp)]
    have hK : PCalls (Pg G) 129 [.agg [sl Z5 d.nodes, .bool d.quirks]] (Y0 (X0 d)) := kids_ok d sm (by omega)
    simp -dsimp -implicitDefEqProofs (disch := omega) only [VCA, Z1, ↓Q3, Nat.reduceEqDiff, Nat.reduceBEq, Nat.reduceAdd, Nat.reduceSub, Nat.reduceMul, Nat.reduceLT, Nat.reduceLeDiff, ↓reduceIte, reduceCtorEq, Z7, Q6, SOp.rd, SI.rd, SX.rd, rdL, rdO, rdP, Q5, Q4, Q2, Q8, Q7, Z0, implies_true, forall_const, forall_eq, ne_eq, exists_eq_right_right, exists_eq_right, exists_eq_left, exists_eq_left', Q9, Z3, Z8, Z5, J4, Z6, he1, J4]
    refine pcallE.of (hK) ?_; simp -dsimp -implicitDefEqProofs (disch := omega) only [VCA, Z1, ↓Q3, Nat.reduceEqDiff, Nat.reduceBEq, Nat.reduceAdd, Nat.reduceSub, Nat.reduceMul, Nat.reduceLT, Nat.reduceLeDiff, ↓reduceIte, reduceCtorEq, Z7, Q6, SOp.rd, SI.rd, SX.rd, rdL, rdO, rdP, Q5, Q4, Q2, Q8, Q7, Z0, implies_true, forall_const, forall_eq, ne_eq, exists_eq_right_right, exists_eq_right, exists_eq_left, exists_eq_left', Q9, Z3, Z8, Z5, J4, Z6, he1, J4]
    refine Br.ne (fun h3 => ?_) (fun h3 => ?_)
    ·simp -dsimp -implicitDefEqProofs (disch := omega) only [VCA, Z1, ↓Q3, Nat.reduceEqDiff, Nat.reduceBEq, Nat.reduceAdd, Nat.reduceSub, Nat.reduceMul, Nat.reduceLT, Nat.reduceLeDiff, ↓reduceIte, reduceCtorEq, Z7, Q6, SOp.rd, SI.rd, SX.rd, rdL, rdO, rdP, Q5, Q4, Q2, Q8, Q7, Z0, implies_true, forall_const, forall_eq, ne_eq, exists_eq_right_right, exists_eq_right, exists_eq_left, exists_eq_left', Q9, Z3, Z8, Z5, J4, Z6]
     exact ⟨S, by rw [if_pos h3]⟩
    ·rw [if_neg (by simpa using h3)]
     have hP := kids_par h3
     simp -dsimp -implicitDefEqProofs (disch := omega) only [VCA, Z1, ↓Q3, Nat.reduceEqDiff, Nat.reduceBEq, Nat.reduceAdd, Nat.reduceSub, Nat.reduceMul, Nat.reduceLT, Nat.reduceLeDiff, ↓reduceIte, reduceCtorEq, Z7, Q6, SOp.rd, SI.rd, SX.rd, rdL, rdO, rdP, Q5, Q4, Q2, Q8, Q7, Z0, implies_true, forall_const, forall_eq, ne_eq, exists_eq_right_right, exists_eq_right, exists_eq_left, exists_eq_left', Q9, Z3, Z8, Z5, J4, Z6, he1, J4]
     refine LoopVC.intro (fun m e h' => ∃ i : Nat, i <= d.nodes.length /\ m = d.nodes.length - i /\ e 1 = .pin (J4 d) /\ e 46 = Y0 d.nodes.length /\ e 47 = Y0 i /\ Sim.Sub h h' /\ ∀ j, j < i -> deepE d j = 0) d.nodes.length ⟨0, by omega, by omega, he1, rfl, rfl, S, by omega⟩ ?_
     rintro m e h' ⟨i, hi, rfl, he1, he46, he47, S, hj⟩
     simp -dsimp -implicitDefEqProofs (disch := omega) only [VCA, Z1, ↓Q3, Nat.reduceEqDiff, Nat.reduceBEq, Nat.reduceAdd, Nat.reduceSub, Nat.reduceMul, Nat.reduceLT, Nat.reduceLeDiff, ↓reduceIte, reduceCtorEq, Z7, Q6, SOp.rd, SI.rd, SX.rd, rdL, rdO, rdP, Q5, Q4, Q2, Q8, Q7, Z0, implies_true, forall_const, forall_eq, ne_eq, exists_eq_right_right, exists_eq_right, exists_eq_left, exists_eq_left', Q9, Z3, Z8, Z5, J4, Z6, he1, he46, he47]
     refine Br.dec (fun hlt => ?_) (fun hge => ?_)
     ·have hi' : i < d.nodes.length := by omega
      have hU : PCalls (Pg G) 130 [.agg [sl Z5 d.nodes, .bool d.quirks], Y0 i] (Y0 (up d i)) := up_ok d sm hP i (inD_nat.2 hi')
      have bad : ∀ x : Int, x ≠ 0 -> deepE d i = x -> fe d.nodes.length (deepE d) = x := fun x hx he => by rw [fe_some hi' hj (by rw [he]; exact hx), he]
      have ddef : deepE d i = if d.nodes.length < up d i then 8 else if 40 < up d i then 2 else 0 := rfl
      simp -dsimp -implicitDefEqProofs (disch := omega) only [VCA, Z1, ↓Q3, Nat.reduceEqDiff, Nat.reduceBEq, Nat.reduceAdd, Nat.reduceSub, Nat.reduceMul, Nat.reduceLT, Nat.reduceLeDiff, ↓reduceIte, reduceCtorEq, Z7, Q6, SOp.rd, SI.rd, SX.rd, rdL, rdO, rdP, Q5, Q4, Q2, Q8, Q7, Z0, implies_true, forall_const, forall_eq, ne_eq, exists_eq_right_right, exists_eq_right, exists_eq_left, exists_eq_left', Q9, Z3, Z8, Z5, J4, Z6, he1, he46, he47, J4]
      repeat' (first | ((with_reducible refine brC (fun _ => ?_) fun _ => ?_) <;> try (exfalso; omega)) | (with_reducible apply pcallE.of; · exact hU) | (with_reducible refine And.intro ?_ ?_; · omega) | simp -dsimp -implicitDefEqProofs (disch := omega) only [VCA, Z1, ↓Q3, Nat.reduceEqDiff, Nat.reduceBEq, Nat.reduceAdd, Nat.reduceSub, Nat.reduceMul, Nat.reduceLT, Nat.reduceLeDiff, ↓reduceIte, reduceCtorEq, Z7, Q6, SOp.rd, SI.rd, SX.rd, rdL, rdO, rdP, Q5, Q4, Q2, Q8, Q7, Z0, implies_true, forall_const, forall_eq, ne_eq, exists_eq_right_right, exists_eq_right, exists_eq_left, exists_eq_left', Q9, Z3, Z8, Z5, J4, Z6, he1, he46, he47, J4])
      ·exact (bad 8 (by decide) (by rw [ddef, if_pos (by omega)])).symm
      ·exact (bad 2 (by decide) (by rw [ddef, if_neg (by omega), if_pos (by omega)])).symm
      ·refine ⟨_, by omega, i + 1, by omega, rfl, by omega, S, fun j hj' => ?_⟩
       by_cases hji : j = i
       ·subst hji; rw [ddef, if_neg (by omega), if_neg (by omega)]
       ·exact hj j (by omega)
     ·obtain rfl : i = d.nodes.length := by omega
      simp -dsimp -implicitDefEqProofs (disch := omega) only [VCA, Z1, ↓Q3, Nat.reduceEqDiff, Nat.reduceBEq, Nat.reduceAdd, Nat.reduceSub, Nat.reduceMul, Nat.reduceLT, Nat.reduceLeDiff, ↓reduceIte, reduceCtorEq, Z7, Q6, SOp.rd, SI.rd, SX.rd, rdL, rdO, rdP, Q5, Q4, Q2, Q8, Q7, Z0, implies_true, forall_const, forall_eq, ne_eq, exists_eq_right_right, exists_eq_right, exists_eq_left, exists_eq_left', Q9, Z3, Z8, Z5, J4, Z6]
      exact ⟨S, (fe_none hj).symm⟩
theorem betw_ok (n a b : Int) : PCalls (Pg G) 61 [Y0 n, Y0 a, Y0 b] (.bool (decide (a <= n) && decide (n <= b))) := between_ok n a b
def c62 : SFun := ⟨.seq (.reg [o 4 (.mv (.c (.int .i64 0)))]) (.seq (.seq (.reg [o 5 (.mv (.c (.int .i64 0)))]) (.block 0 (.loop (.seq (.seq (.reg [o 6 (.mv (.t 5)), o 7 (.mv (.t 0)), o 8 (.len (.t 7)), o 9 (.bin .lss (.t 6) (.t 8))]) (.cond (.t 9) .skip (.exit 0))) (.seq (.block 1 (.seq (.reg [o 12 (.mv (.t 0)), o 13 (.mv (.t 5)), o 14 (.idxA 1 (.t 12) (.t 13)), o 15 (.ld 1 false (.t 14)), o 16 (.mv (.t 1)), o 17 (.bin .eql (.t 15) (.t 16))]) (.cond (.t 17) (.seq (.reg [o 18 (.mv (.t 5)), o 4 (.mv (.t 18))]) .ret) .skip))) (.reg [o 10 (.mv (.t 5)), o 11 (.bin .add (.t 10) (.c (.int .i64 1))), o 5 (.mv (.t 11))])))))) (.seq (.reg [o 4 (.mv (.c (.int .i64 (-1))))]) .ret)), [.tmp 4]⟩
theorem hc62 : X8 Tryz.prog {} Tryz.f62 = some c62 := by kernel_rfl
theorem placeIn_ok (l : List Int) (n : Int) (hl : l.length <= 1073741824) : PCalls (Pg G) 62 [sl Z8 l, Y0 n] (Y0 (idxM (· == n) l)) := fun h => by
 refine Z9 Tryz.func62 (by kernel_rfl) hc62 (by rw [Tryz.ntmps62]; simp) (by rw [Tryz.ntmps62]; decide) ?_
 simp -dsimp -implicitDefEqProofs (disch := omega) only [VCA, Z1, ↓Q3, Nat.reduceEqDiff, Nat.reduceBEq, Nat.reduceAdd, Nat.reduceSub, Nat.reduceMul, Nat.reduceLT, Nat.reduceLeDiff, ↓reduceIte, reduceCtorEq, Z7, Q6, SOp.rd, SI.rd, SX.rd, rdL, rdO, rdP, Q5, Q4, Q2, Q8, Q7, Z0, implies_true, forall_const, forall_eq, ne_eq, exists_eq_right_right, exists_eq_right, exists_eq_left, exists_eq_left', Q9, Z3, Z8, Z5, J4, Z6, c62]
 refine LoopVC.intro (fun m e h' => ∃ k : Nat, k <= l.length /\ m = l.length - k /\ e 0 = sl Z8 l /\ e 1 = Y0 n /\ e 5 = Y0 k /\ h' = h /\ ∀ j, j < k -> (nth l j == n) = false) l.length ⟨0, by omega, by omega, rfl, rfl, rfl, rfl, by omega⟩ ?_
 rintro m e h' ⟨k, hk, rfl, he0, he1, he5, rfl, hj⟩
 simp -dsimp -implicitDefEqProofs (disch := omega) only [VCA, Z1, ↓Q3, Nat.reduceEqDiff, Nat.reduceBEq, Nat.reduceAdd, Nat.reduceSub, Nat.reduceMul, Nat.reduceLT, Nat.reduceLeDiff, ↓reduceIte, reduceCtorEq, Z7, Q6, SOp.rd, SI.rd, SX.rd, rdL, rdO, rdP, Q5, Q4, Q2, Q8, Q7, Z0, implies_true, forall_const, forall_eq, ne_eq, exists_eq_right_right, exists_eq_right, exists_eq_left, exists_eq_left', Q9, Z3, Z8, Z5, J4, Z6, he0, he1, he5]
 repeat' (first | ((with_reducible refine brC (fun _ => ?_) fun _ => ?_) <;> try (exfalso; omega)) | (with_reducible refine And.intro ?_ ?_; · omega) | simp -dsimp -implicitDefEqProofs (disch := omega) only [VCA, Z1, ↓Q3, Nat.reduceEqDiff, Nat.reduceBEq, Nat.reduceAdd, Nat.reduceSub, Nat.reduceMul, Nat.reduceLT, Nat.reduceLeDiff, ↓reduceIte, reduceCtorEq, Z7, Q6, SOp.rd, SI.rd, SX.rd, rdL, rdO, rdP, Q5, Q4, Q2, Q8, Q7, Z0, implies_true, forall_const, forall_eq, ne_eq, exists_eq_right_right, exists_eq_right, exists_eq_left, exists_eq_left', Q9, Z3, Z8, Z5, J4, Z6, he0, he1, he5])
 ·rename_i h1 h2
  exact ⟨Sub.refl _, (idxM_some (by omega) hj (by simpa using h2)).symm⟩
 ·rename_i h1 h2
  refine ⟨_, by omega, k + 1, by omega, rfl, by omega, fun j hj' => ?_⟩
  by_cases hjk : j = k
  ·subst hjk; simpa using h2
  ·exact hj j (by omega)
 ·rename_i h1
  exact ⟨Sub.refl _, (idxM_none (fun j hj' => hj j (by omega))).symm⟩
theorem idx_mem (l : List Int) (n : Int) : 0 <= idxM (· == n) l ↔ n ∈ l := by
 have := idxM_any (· == n) l
 rw [<- decide_eq_true_iff (p := 0 <= idxM (· == n) l), this, List.any_eq_true]
 simp
def c116 : SFun := ⟨.seq (.reg [o 4 (.mv (.c (.str []))), o 5 (.mv (.c (.bool false)))]) (.seq (.seq (.reg [o 6 (.mv (.c (.int .i64 0)))]) (.block 0 (.loop (.seq (.seq (.reg [o 7 (.mv (.t 6)), o 8 (.mv (.t 0)), o 9 (.len (.t 8)), o 10 (.bin .lss (.t 7) (.t 9))]) (.cond (.t 10) .skip (.exit 0))) (.seq (.block 1 (.seq (.reg [o 13 (.mv (.t 0)), o 14 (.mv (.t 6)), o 15 (.idxA 2 (.t 13) (.t 14)), o 16 (.fldA 0 (.t 15)), o 17 (.ld 1 false (.t 16)), o 18 (.mv (.t 1)), o 19 (.bin .eql (.t 17) (.t 18))]) (.cond (.t 19) (.seq (.reg [o 20 (.mv (.t 0)), o 21 (.mv (.t 6)), o 22 (.idxA 2 (.t 20) (.t 21)), o 23 (.fldA 1 (.t 22)), o 24 (.ld 1 false (.t 23)), o 4 (.mv (.t 24)), o 5 (.mv (.c (.bool true)))]) .ret) .skip))) (.reg [o 11 (.mv (.t 6)), o 12 (.bin .add (.t 11) (.c (.int .i64 1))), o 6 (.mv (.t 12))])))))) (.seq (.reg [o 4 (.mv (.c (.str []))), o 5 (.mv (.c (.bool false)))]) .ret)), [.tmp 4, .tmp 5]⟩
theorem hc116 : X8 Tryz.prog {} Tryz.f116 = some c116 := by kernel_rfl
def attrOfM (l : List HAttr) (name : List UInt8) : List UInt8 × Bool := if 0 <= attrAt l name then ((nth l (attrAt l name).toNat).value, true) else ([], false)
theorem attrOf_ok (l : List HAttr) (name : List UInt8) (hl : l.length <= 1073741824) : PCalls (Pg G) 116 [sl Z3 l, .str name] (.tup [.str (attrOfM l name).1, .bool (attrOfM l name).2]) := fun h => by
 refine Z9 Tryz.func116 (by kernel_rfl) hc116 (by rw [Tryz.ntmps116]; simp) (by rw [Tryz.ntmps116]; decide) ?_
 simp -dsimp -implicitDefEqProofs (disch := omega) only [VCA, Z1, ↓Q3, Nat.reduceEqDiff, Nat.reduceBEq, Nat.reduceAdd, Nat.reduceSub, Nat.reduceMul, Nat.reduceLT, Nat.reduceLeDiff, ↓reduceIte, reduceCtorEq, Z7, Q6, SOp.rd, SI.rd, SX.rd, rdL, rdO, rdP, Q5, Q4, Q2, Q8, Q7, Z0, implies_true, forall_const, forall_eq, ne_eq, exists_eq_right_right, exists_eq_right, exists_eq_left, exists_eq_left', Q9, Z3, Z8, Z5, J4, Z6, c116]
 refine LoopVC.intro (fun m e h' => ∃ k : Nat, k <= l.length /\ m = l.length - k /\ e 0 = sl Z3 l /\ e 1 = .str name /\ e 6 = Y0 k /\ h' = h /\ ∀ j, j < k -> ((nth l j).name == name) = false) l.length ⟨0, by omega, by omega, rfl, rfl, rfl, rfl, by omega⟩ ?_
 rintro m e h' ⟨k, hk, rfl, he0, he1, he6, rfl, hj⟩
 simp -dsimp -implicitDefEqProofs (disch := omega) only [VCA, Z1, ↓Q3, Nat.reduceEqDiff, Nat.reduceBEq, Nat.reduceAdd, Nat.reduceSub, Nat.reduceMul, Nat.reduceLT, Nat.reduceLeDiff, ↓reduceIte, reduceCtorEq, Z7, Q6, SOp.rd, SI.rd, SX.rd, rdL, rdO, rdP, Q5, Q4, Q2, Q8, Q7, Z0, implies_true, forall_const, forall_eq, ne_eq, exists_eq_right_right, exists_eq_right, exists_eq_left, exists_eq_left', Q9, Z3, Z8, Z5, J4, Z6, he0, he1, he6]
 repeat' (first | ((with_reducible refine brC (fun _ => ?_) fun _ => ?_) <;> try (exfalso; omega)) | (with_reducible refine And.intro ?_ ?_; · omega) | simp -dsimp -implicitDefEqProofs (disch := omega) only [VCA, Z1, ↓Q3, Nat.reduceEqDiff, Nat.reduceBEq, Nat.reduceAdd, Nat.reduceSub, Nat.reduceMul, Nat.reduceLT, Nat.reduceLeDiff, ↓reduceIte, reduceCtorEq, Z7, Q6, SOp.rd, SI.rd, SX.rd, rdL, rdO, rdP, Q5, Q4, Q2, Q8, Q7, Z0, implies_true, forall_const, forall_eq, ne_eq, exists_eq_right_right, exists_eq_right, exists_eq_left, exists_eq_left', Q9, Z3, Z8, Z5, J4, Z6, he0, he1, he6, Z3])
 ·rename_i h1 h2
  have e1 : attrAt l name = k := idxM_some (by omega) hj (by simpa using h2)
  unfold attrOfM
  rw [e1, if_pos (by omega)]
  exact ⟨Sub.refl _, rfl⟩
 ·rename_i h1 h2
  refine ⟨_, by omega, k + 1, by omega, rfl, by omega, fun j hj' => ?_⟩
  by_cases hjk : j = k
  ·subst hjk; simpa using h2
  ·exact hj j (by omega)
 ·rename_i h1
  have e1 : attrAt l name = -1 := idxM_none (fun j hj' => hj j (by omega))
  unfold attrOfM
  rw [e1, if_neg (by omega)]
  exact ⟨Sub.refl _, rfl⟩
theorem attrOf_has (l : List HAttr) (name : List UInt8) : (attrOfM l name).2 = decide (0 <= attrAt l name) := by
 unfold attrOfM; split <;> simp_all
def c135 : SFun := ⟨.seq (.reg [o 4 (.mv (.c (.bool false)))]) (.seq (.seq (.reg [o 8 (.mv (.t 0)), o 9 (.lenS (.t 8)), o 10 (.bin .lss (.t 9) (.c (.int .i64 1))), o 11 (.mv (.t 10)), ⟨some 12, .mv (.t 0), some (11, false)⟩, ⟨some 13, .lenS (.t 12), some (11, false)⟩, ⟨some 14, .bin .gtr (.t 13) (.c (.int .i64 40)), some (11, false)⟩, o 15 (.pick (.t 11) (.c (.bool true)) (.t 14))]) (.cond (.t 15) (.seq (.reg [o 4 (.mv (.c (.bool false)))]) .ret) .skip)) (.seq (.seq (.reg [o 5 (.mv (.c (.int .i64 0)))]) (.block 0 (.loop (.seq (.seq (.reg [o 16 (.mv (.t 5)), o 17 (.mv (.t 0)), o 18 (.lenS (.t 17)), o 19 (.bin .lss (.t 16) (.t 18))]) (.cond (.t 19) .skip (.exit 0))) (.seq (.block 1 (.seq (.reg [o 22 (.mv (.t 0)), o 23 (.mv (.t 5)), o 24 (.idxS (.t 22) (.t 23)), o 6 (.mv (.t 24))]) (.seq (.reg [o 25 (.mv (.t 6)), o 26 (.bin .geq (.t 25) (.c (.int .u8 97))), o 27 (.mv (.t 26)), ⟨some 28, .mv (.t 6), some (27, true)⟩, ⟨some 29, .bin .leq (.t 28) (.c (.int .u8 122)), some (27, true)⟩, o 30 (.pick (.t 27) (.t 29) (.c (.bool false))), o 7 (.mv (.t 30))]) (.seq (.seq (.reg [o 31 (.mv (.t 7)), o 32 (.un .not (.t 31)), o 33 (.mv (.t 32)), ⟨some 34, .mv (.t 6), some (33, true)⟩, ⟨some 35, .bin .geq (.t 34) (.c (.int .u8 48)), some (33, true)⟩, ⟨some 36, .mv (.t 35), some (33, true)⟩, ⟨some 37, .mv (.t 6), some (36, true)⟩, ⟨some 38, .bin .leq (.t 37) (.c (.int .u8 57)), some (36, true)⟩, ⟨some 39, .pick (.t 36) (.t 38) (.c (.bool false)), some (33, true)⟩, ⟨some 40, .un .not (.t 39), some (33, true)⟩, o 41 (.pick (.t 33) (.t 40) (.c (.bool false))), o 42 (.mv (.t 41)), ⟨some 43, .mv (.t 6), some (42, true)⟩, ⟨some 44, .bin .neq (.t 43) (.c (.int .u8 45)), some (42, true)⟩, o 45 (.pick (.t 42) (.t 44) (.c (.bool false))), o 46 (.mv (.t 45)), ⟨some 47, .mv (.t 6), some (46, true)⟩, ⟨some 48, .bin .neq (.t 47) (.c (.int .u8 95)), some (46, true)⟩, o 49 (.pick (.t 46) (.t 48) (.c (.bool false))), o 50 (.mv (.t 49)), ⟨some 51, .mv (.t 6), some (50, true)⟩, ⟨some 52, .bin .neq (.t 51) (.c (.int .u8 58)), some (50, true)⟩, o 53 (.pick (.t 50) (.t 52) (.c (.bool false)))]) (.cond (.t 53) (.seq (.reg [o 4 (.mv (.c (.bool false)))]) .ret) .skip)) (.seq (.reg [o 54 (.mv (.t 5)), o 55 (.bin .eql (.t 54) (.c (.int .i64 0))), o 56 (.mv (.t 55)), ⟨some 57, .mv (.t 7), some (56, true)⟩, ⟨some 58, .un .not (.t 57), some (56, true)⟩, o 59 (.pick (.t 56) (.t 58) (.c (.bool false))), o 60 (.mv (.t 59)), ⟨some 61, .mv (.t 1), some (60, true)⟩, ⟨some 62, .mv (.t 61), some (60, true)⟩, ⟨some 63, .mv (.t 6), some (62, false)⟩, ⟨some 64, .bin .neq (.t 63) (.c (.int .u8 45)), some (62, false)⟩, ⟨some 65, .mv (.t 64), some (62, false)⟩, ⟨some 66, .mv (.t 6), some (65, true)⟩, ⟨some 67, .bin .neq (.t 66) (.c (.int .u8 95)), some (65, true)⟩, ⟨some 68, .pick (.t 65) (.t 67) (.c (.bool false)), some (62, false)⟩, ⟨some 69, .pick (.t 62) (.c (.bool true)) (.t 68), some (60, true)⟩, o 70 (.pick (.t 60) (.t 69) (.c (.bool false)))]) (.cond (.t 70) (.seq (.reg [o 4 (.mv (.c (.bool false)))]) .ret) .skip)))))) (.reg [o 20 (.mv (.t 5)), o 21 (.bin .add (.t 20) (.c (.int .i64 1))), o 5 (.mv (.t 21))])))))) (.seq (.reg [o 4 (.mv (.c (.bool true)))]) .ret))), [.tmp 4]⟩
theorem hc135 : X8 Tryz.prog {} Tryz.f135 = some c135 := by kernel_rfl
theorem domName_ok (s : List UInt8) (el : Bool) (hs : s.length <= 1073741824) : PCalls (Pg G) 135 [.str s, .bool el] (.bool (K6 el s)) := fun h => by
 refine Z9 Tryz.func135 (by kernel_rfl) hc135 (by rw [Tryz.ntmps135]; simp) (by rw [Tryz.ntmps135]; decide) ?_
 simp -dsimp -implicitDefEqProofs (disch := omega) only [↓Q0 11, ↓Q1 11, ↓Q0 27, ↓Q1 27, ↓Q0 33, ↓Q1 33, ↓Q0 36, ↓Q1 36, ↓Q0 42, ↓Q1 42, ↓Q0 46, ↓Q1 46, ↓Q0 50, ↓Q1 50, ↓Q0 56, ↓Q1 56, ↓Q0 60, ↓Q1 60, ↓Q0 62, ↓Q1 62, ↓Q0 65, ↓Q1 65, VCA, Z1, ↓Q3, Nat.reduceEqDiff, Nat.reduceBEq, Nat.reduceAdd, Nat.reduceSub, Nat.reduceMul, Nat.reduceLT, Nat.reduceLeDiff, ↓reduceIte, reduceCtorEq, Z7, Q6, SOp.rd, SI.rd, SX.rd, rdL, rdO, rdP, Q5, Q4, Q2, Q8, Q7, Z0, implies_true, forall_const, forall_eq, ne_eq, exists_eq_right_right, exists_eq_right, exists_eq_left, exists_eq_left', Q9, Z3, Z8, Z5, J4, Z6, c135]
 have nd' : K6 el s = decide (1 <= s.length /\ s.length <= 40 /\ firstB el (s.getD 0 0) = true /\ s.all signB = true) := by
  unfold K6; rw [Bool.eq_iff_iff]; simp
 refine Br.dec (fun h1 => ?_) (fun h1 => ?_)
 ·simp -dsimp -implicitDefEqProofs (disch := omega) only [↓Q0 11, ↓Q1 11, ↓Q0 27, ↓Q1 27, ↓Q0 33, ↓Q1 33, ↓Q0 36, ↓Q1 36, ↓Q0 42, ↓Q1 42, ↓Q0 46, ↓Q1 46, ↓Q0 50, ↓Q1 50, ↓Q0 56, ↓Q1 56, ↓Q0 60, ↓Q1 60, ↓Q0 62, ↓Q1 62, ↓Q0 65, ↓Q1 65, VCA, Z1, ↓Q3, Nat.reduceEqDiff, Nat.reduceBEq, Nat.reduceAdd, Nat.reduceSub, Nat.reduceMul, Nat.reduceLT, Nat.reduceLeDiff, ↓reduceIte, reduceCtorEq, Z7, Q6, SOp.rd, SI.rd, SX.rd, rdL, rdO, rdP, Q5, Q4, Q2, Q8, Q7, Z0, implies_true, forall_const, forall_eq, ne_eq, exists_eq_right_right, exists_eq_right, exists_eq_left, exists_eq_left', Q9, Z3, Z8, Z5, J4, Z6]
  exact ⟨Sub.refl _, by rw [nd']; symm; rw [decide_eq_false_iff_not]; omega⟩
 ·simp -dsimp -implicitDefEqProofs (disch := omega) only [↓Q0 11, ↓Q1 11, ↓Q0 27, ↓Q1 27, ↓Q0 33, ↓Q1 33, ↓Q0 36, ↓Q1 36, ↓Q0 42, ↓Q1 42, ↓Q0 46, ↓Q1 46, ↓Q0 50, ↓Q1 50, ↓Q0 56, ↓Q1 56, ↓Q0 60, ↓Q1 60, ↓Q0 62, ↓Q1 62, ↓Q0 65, ↓Q1 65, VCA, Z1, ↓Q3, Nat.reduceEqDiff, Nat.reduceBEq, Nat.reduceAdd, Nat.reduceSub, Nat.reduceMul, Nat.reduceLT, Nat.reduceLeDiff, ↓reduceIte, reduceCtorEq, Z7, Q6, SOp.rd, SI.rd, SX.rd, rdL, rdO, rdP, Q5, Q4, Q2, Q8, Q7, Z0, implies_true, forall_const, forall_eq, ne_eq, exists_eq_right_right, exists_eq_right, exists_eq_left, exists_eq_left', Q9, Z3, Z8, Z5, J4, Z6]
  refine Br.dec (fun h2 => ?_) (fun h2 => ?_)
  ·simp -dsimp -implicitDefEqProofs (disch := omega) only [↓Q0 11, ↓Q1 11, ↓Q0 27, ↓Q1 27, ↓Q0 33, ↓Q1 33, ↓Q0 36, ↓Q1 36, ↓Q0 42, ↓Q1 42, ↓Q0 46, ↓Q1 46, ↓Q0 50, ↓Q1 50, ↓Q0 56, ↓Q1 56, ↓Q0 60, ↓Q1 60, ↓Q0 62, ↓Q1 62, ↓Q0 65, ↓Q1 65, VCA, Z1, ↓Q3, Nat.reduceEqDiff, Nat.reduceBEq, Nat.reduceAdd, Nat.reduceSub, Nat.reduceMul, Nat.reduceLT, Nat.reduceLeDiff, ↓reduceIte, reduceCtorEq, Z7, Q6, SOp.rd, SI.rd, SX.rd, rdL, rdO, rdP, Q5, Q4, Q2, Q8, Q7, Z0, implies_true, forall_const, forall_eq, ne_eq, exists_eq_right_right, exists_eq_right, exists_eq_left, exists_eq_left', Q9, Z3, Z8, Z5, J4, Z6]
   exact ⟨Sub.refl _, by rw [nd']; symm; rw [decide_eq_false_iff_not]; omega⟩
  ·simp -dsimp -implicitDefEqProofs (disch := omega) only [↓Q0 11, ↓Q1 11, ↓Q0 27, ↓Q1 27, ↓Q0 33, ↓Q1 33, ↓Q0 36, ↓Q1 36, ↓Q0 42, ↓Q1 42, ↓Q0 46, ↓Q1 46, ↓Q0 50, ↓Q1 50, ↓Q0 56, ↓Q1 56, ↓Q0 60, ↓Q1 60, ↓Q0 62, ↓Q1 62, ↓Q0 65, ↓Q1 65, VCA, Z1, ↓Q3, Nat.reduceEqDiff, Nat.reduceBEq, Nat.reduceAdd, Nat.reduceSub, Nat.reduceMul, Nat.reduceLT, Nat.reduceLeDiff, ↓reduceIte, reduceCtorEq, Z7, Q6, SOp.rd, SI.rd, SX.rd, rdL, rdO, rdP, Q5, Q4, Q2, Q8, Q7, Z0, implies_true, forall_const, forall_eq, ne_eq, exists_eq_right_right, exists_eq_right, exists_eq_left, exists_eq_left', Q9, Z3, Z8, Z5, J4, Z6]
   refine LoopVC.intro (fun m e h' => ∃ k : Nat, k <= s.length /\ m = s.length - k /\ e 0 = .str s /\ e 1 = .bool el /\ e 5 = Y0 k /\ h' = h /\ (∀ j, j < k -> signB (s.getD j 0) = true) /\ (0 < k -> firstB el (s.getD 0 0) = true)) s.length ⟨0, by omega, by omega, rfl, rfl, rfl, rfl, by omega, by omega⟩ ?_
   rintro m e h' ⟨k, hk, rfl, he0, he1, he5, rfl, hj, hf⟩
   simp -dsimp -implicitDefEqProofs (disch := omega) only [↓Q0 11, ↓Q1 11, ↓Q0 27, ↓Q1 27, ↓Q0 33, ↓Q1 33, ↓Q0 36, ↓Q1 36, ↓Q0 42, ↓Q1 42, ↓Q0 46, ↓Q1 46, ↓Q0 50, ↓Q1 50, ↓Q0 56, ↓Q1 56, ↓Q0 60, ↓Q1 60, ↓Q0 62, ↓Q1 62, ↓Q0 65, ↓Q1 65, VCA, Z1, ↓Q3, Nat.reduceEqDiff, Nat.reduceBEq, Nat.reduceAdd, Nat.reduceSub, Nat.reduceMul, Nat.reduceLT, Nat.reduceLeDiff, ↓reduceIte, reduceCtorEq, Z7, Q6, SOp.rd, SI.rd, SX.rd, rdL, rdO, rdP, Q5, Q4, Q2, Q8, Q7, Z0, implies_true, forall_const, forall_eq, ne_eq, exists_eq_right_right, exists_eq_right, exists_eq_left, exists_eq_left', Q9, Z3, Z8, Z5, J4, Z6, he0, he1, he5]
   refine Br.dec (fun hlt => ?_) (fun hge => ?_)
   ·have hk' : k < s.length := by omega
    have sg : signB (s.getD k 0) = true ↔ ((97 <= ((s.getD k 0).toNat : Int) /\ ((s.getD k 0).toNat : Int) <= 122) \/ (48 <= ((s.getD k 0).toNat : Int) /\ ((s.getD k 0).toNat : Int) <= 57) \/ ((s.getD k 0).toNat : Int) = 45 \/ ((s.getD k 0).toNat : Int) = 95 \/ ((s.getD k 0).toNat : Int) = 58) := by
     generalize s.getD k 0 = b
     unfold signB
     have e45 : (b = 45) ↔ ((b.toNat : Int) = 45) := by rw [<- UInt8.toNat_inj]; exact (by omega : b.toNat = 45 ↔ (b.toNat : Int) = 45)
     have e95 : (b = 95) ↔ ((b.toNat : Int) = 95) := by rw [<- UInt8.toNat_inj]; exact (by omega : b.toNat = 95 ↔ (b.toNat : Int) = 95)
     have e58 : (b = 58) ↔ ((b.toNat : Int) = 58) := by rw [<- UInt8.toNat_inj]; exact (by omega : b.toNat = 58 ↔ (b.toNat : Int) = 58)
     simp only [Bool.or_eq_true, Bool.and_eq_true, decide_eq_true_eq, beq_iff_eq, e45, e95, e58]
     omega
    have fs : k = 0 -> (firstB el (s.getD 0 0) = true ↔ ((97 <= ((s.getD k 0).toNat : Int) /\ ((s.getD k 0).toNat : Int) <= 122) \/ (el = false /\ (((s.getD k 0).toNat : Int) = 45 \/ ((s.getD k 0).toNat : Int) = 95)))) := by
     rintro rfl
     generalize s.getD 0 0 = b
     unfold firstB
     have e45 : (b = 45) ↔ ((b.toNat : Int) = 45) := by rw [<- UInt8.toNat_inj]; exact (by omega : b.toNat = 45 ↔ (b.toNat : Int) = 45)
     have e95 : (b = 95) ↔ ((b.toNat : Int) = 95) := by rw [<- UInt8.toNat_inj]; exact (by omega : b.toNat = 95 ↔ (b.toNat : Int) = 95)
     simp only [Bool.or_eq_true, Bool.and_eq_true, decide_eq_true_eq, beq_iff_eq, e45, e95, Bool.not_eq_true']
     exact or_congr (by omega) Iff.rfl
    have badS : ¬ signB (s.getD k 0) = true -> false = K6 el s := fun hn => by
     rw [nd']; symm; rw [decide_eq_false_iff_not]
     rintro ⟨_, _, _, hall⟩
     rw [List.all_eq_true] at hall
     refine hn (hall _ ?_)
     rw [List.getD_eq_getElem?_getD, List.getElem?_eq_getElem hk']
     exact List.getElem_mem hk'
    have badF : k = 0 -> ¬ firstB el (s.getD 0 0) = true -> false = K6 el s := fun _ hn => by
     rw [nd']; symm; rw [decide_eq_false_iff_not]
     rintro ⟨_, _, hh, _⟩
     exact hn hh
    have go : signB (s.getD k 0) = true -> (k = 0 -> firstB el (s.getD 0 0) = true) -> ∃ m', m' < s.length - k /\ ∃ k1, k1 <= s.length /\ m' = s.length - k1 /\ (k : Int) + 1 = k1 /\ (∀ j, j < k1 -> signB (s.getD j 0) = true) /\ (0 < k1 -> firstB el (s.getD 0 0) = true) := fun h1 h2 =>
     ⟨_, by omega, k + 1, by omega, rfl, by omega, fun j hj' => by
      by_cases hjk : j = k
      ·subst hjk; exact h1
      ·exact hj j (by omega), fun _ => by
      by_cases hk0 : k = 0
      ·exact h2 hk0
      ·exact hf (by omega)⟩
    clear nd'
    cases el
    ·simp only [true_and] at fs
     simp -dsimp -implicitDefEqProofs (disch := omega) only [↓Q0 11, ↓Q1 11, ↓Q0 27, ↓Q1 27, ↓Q0 33, ↓Q1 33, ↓Q0 36, ↓Q1 36, ↓Q0 42, ↓Q1 42, ↓Q0 46, ↓Q1 46, ↓Q0 50, ↓Q1 50, ↓Q0 56, ↓Q1 56, ↓Q0 60, ↓Q1 60, ↓Q0 62, ↓Q1 62, ↓Q0 65, ↓Q1 65, VCA, Z1, ↓Q3, Nat.reduceEqDiff, Nat.reduceBEq, Nat.reduceAdd, Nat.reduceSub, Nat.reduceMul, Nat.reduceLT, Nat.reduceLeDiff, ↓reduceIte, reduceCtorEq, Z7, Q6, SOp.rd, SI.rd, SX.rd, rdL, rdO, rdP, Q5, Q4, Q2, Q8, Q7, Z0, implies_true, forall_const, forall_eq, ne_eq, exists_eq_right_right, exists_eq_right, exists_eq_left, exists_eq_left', Q9, Z3, Z8, Z5, J4, Z6, he0, he1, he5]
     repeat' (first | ((with_reducible refine brC (fun _ => ?_) fun _ => ?_) <;> try (exfalso; omega)) | (with_reducible refine And.intro ?_ ?_; · omega) | simp -dsimp -implicitDefEqProofs (disch := omega) only [↓Q0 11, ↓Q1 11, ↓Q0 27, ↓Q1 27, ↓Q0 33, ↓Q1 33, ↓Q0 36, ↓Q1 36, ↓Q0 42, ↓Q1 42, ↓Q0 46, ↓Q1 46, ↓Q0 50, ↓Q1 50, ↓Q0 56, ↓Q1 56, ↓Q0 60, ↓Q1 60, ↓Q0 62, ↓Q1 62, ↓Q0 65, ↓Q1 65, VCA, Z1, ↓Q3, Nat.reduceEqDiff, Nat.reduceBEq, Nat.reduceAdd, Nat.reduceSub, Nat.reduceMul, Nat.reduceLT, Nat.reduceLeDiff, ↓reduceIte, reduceCtorEq, Z7, Q6, SOp.rd, SI.rd, SX.rd, rdL, rdO, rdP, Q5, Q4, Q2, Q8, Q7, Z0, implies_true, forall_const, forall_eq, ne_eq, exists_eq_right_right, exists_eq_right, exists_eq_left, exists_eq_left', Q9, Z3, Z8, Z5, J4, Z6, he0, he1, he5])
     all_goals first
      | exact ⟨Sub.refl _, badS (by rw [sg]; omega)⟩
      | exact ⟨Sub.refl _, badF (by omega) (by rw [fs (by omega)]; omega)⟩
      | exact go (by rw [sg]; omega) (fun hk0 => by rw [fs hk0]; omega)
    ·simp only [Bool.true_eq_false, false_and, or_false] at fs
     simp -dsimp -implicitDefEqProofs (disch := omega) only [↓Q0 11, ↓Q1 11, ↓Q0 27, ↓Q1 27, ↓Q0 33, ↓Q1 33, ↓Q0 36, ↓Q1 36, ↓Q0 42, ↓Q1 42, ↓Q0 46, ↓Q1 46, ↓Q0 50, ↓Q1 50, ↓Q0 56, ↓Q1 56, ↓Q0 60, ↓Q1 60, ↓Q0 62, ↓Q1 62, ↓Q0 65, ↓Q1 65, VCA, Z1, ↓Q3, Nat.reduceEqDiff, Nat.reduceBEq, Nat.reduceAdd, Nat.reduceSub, Nat.reduceMul, Nat.reduceLT, Nat.reduceLeDiff, ↓reduceIte, reduceCtorEq, Z7, Q6, SOp.rd, SI.rd, SX.rd, rdL, rdO, rdP, Q5, Q4, Q2, Q8, Q7, Z0, implies_true, forall_const, forall_eq, ne_eq, exists_eq_right_right, exists_eq_right, exists_eq_left, exists_eq_left', Q9, Z3, Z8, Z5, J4, Z6, he0, he1, he5]
     repeat' (first | ((with_reducible refine brC (fun _ => ?_) fun _ => ?_) <;> try (exfalso; omega)) | (with_reducible refine And.intro ?_ ?_; · omega) | simp -dsimp -implicitDefEqProofs (disch := omega) only [↓Q0 11, ↓Q1 11, ↓Q0 27, ↓Q1 27, ↓Q0 33, ↓Q1 33, ↓Q0 36, ↓Q1 36, ↓Q0 42, ↓Q1 42, ↓Q0 46, ↓Q1 46, ↓Q0 50, ↓Q1 50, ↓Q0 56, ↓Q1 56, ↓Q0 60, ↓Q1 60, ↓Q0 62, ↓Q1 62, ↓Q0 65, ↓Q1 65, VCA, Z1, ↓Q3, Nat.reduceEqDiff, Nat.reduceBEq, Nat.reduceAdd, Nat.reduceSub, Nat.reduceMul, Nat.reduceLT, Nat.reduceLeDiff, ↓reduceIte, reduceCtorEq, Z7, Q6, SOp.rd, SI.rd, SX.rd, rdL, rdO, rdP, Q5, Q4, Q2, Q8, Q7, Z0, implies_true, forall_const, forall_eq, ne_eq, exists_eq_right_right, exists_eq_right, exists_eq_left, exists_eq_left', Q9, Z3, Z8, Z5, J4, Z6, he0, he1, he5])
     all_goals first
      | exact ⟨Sub.refl _, badS (by rw [sg]; omega)⟩
      | exact ⟨Sub.refl _, badF (by omega) (by rw [fs (by omega)]; omega)⟩
      | exact go (by rw [sg]; omega) (fun hk0 => by rw [fs hk0]; omega)
   ·obtain rfl : k = s.length := by omega
    simp -dsimp -implicitDefEqProofs (disch := omega) only [↓Q0 11, ↓Q1 11, ↓Q0 27, ↓Q1 27, ↓Q0 33, ↓Q1 33, ↓Q0 36, ↓Q1 36, ↓Q0 42, ↓Q1 42, ↓Q0 46, ↓Q1 46, ↓Q0 50, ↓Q1 50, ↓Q0 56, ↓Q1 56, ↓Q0 60, ↓Q1 60, ↓Q0 62, ↓Q1 62, ↓Q0 65, ↓Q1 65, VCA, Z1, ↓Q3, Nat.reduceEqDiff, Nat.reduceBEq, Nat.reduceAdd, Nat.reduceSub, Nat.reduceMul, Nat.reduceLT, Nat.reduceLeDiff, ↓reduceIte, reduceCtorEq, Z7, Q6, SOp.rd, SI.rd, SX.rd, rdL, rdO, rdP, Q5, Q4, Q2, Q8, Q7, Z0, implies_true, forall_const, forall_eq, ne_eq, exists_eq_right_right, exists_eq_right, exists_eq_left, exists_eq_left', Q9, Z3, Z8, Z5, J4, Z6]
    refine ⟨Sub.refl _, ?_⟩
    rw [nd']; symm; rw [decide_eq_true_iff]
    refine ⟨by omega, by omega, hf (by omega), List.all_eq_true.2 fun x hx => ?_⟩
    obtain ⟨j, hj', rfl⟩ := List.getElem_of_mem hx
    have := hj j hj'
    rwa [List.getD_eq_getElem?_getD, List.getElem?_eq_getElem hj'] at this
theorem lenp {α : Type} (l : List α) : (0 < (l.length : Int)) = (l ≠ []) := by rw [<- List.length_pos_iff]; exact propext (by omega)
def c60_s5 : SCode := (.seq (.seq (.reg [o 3 (.mv (.c (.int .i64 0)))]) (.block 0 (.loop (.seq (.seq (.reg [o 73 (.mv (.t 3)), o 74 (.fldA 2 (.t 1)), o 75 (.ld 1 false (.t 74)), o 76 (.len (.t 75)), o 77 (.bin .lss (.t 73) (.t 76))]) (.cond (.t 77) .skip (.exit 0))) (.seq (.block 1 (.seq (.seq (.reg [o 80 (.fldA 2 (.t 1)), o 81 (.ld 1 false (.t 80)), o 82 (.mv (.t 3)), o 83 (.idxA 2 (.t 81) (.t 82)), o 84 (.fldA 0 (.t 83)), o 85 (.ld 1 false (.t 84)), o 86 (.pcall 135 [.t 85, .c (.bool false)]), o 87 (.un .not (.t 86))]) (.cond (.t 87) (.seq (.reg [o 2 (.mv (.c (.int .i64 3)))]) .ret) .skip)) (.seq (.seq (.reg [o 88 (.fldA 2 (.t 1)), o 89 (.ld 1 false (.t 88)), o 90 (.mv (.t 3)), o 91 (.idxA 2 (.t 89) (.t 90)), o 92 (.fldA 1 (.t 91)), o 93 (.ld 1 false (.t 92)), o 94 (.lenS (.t 93)), o 95 (.bin .gtr (.t 94) (.c (.int .i64 400)))]) (.cond (.t 95) (.seq (.reg [o 2 (.mv (.c (.int .i64 2)))]) .ret) .skip)) (.seq (.dreg [(o 97 (.fldA 2 (.t 1)), none), (o 98 (.ld 1 false (.t 97)), none), (o 99 (.mv (.t 3)), none), (o 100 (.slA 2 (.t 98) none (some (.t 99))), none), (o 101 (.fldA 2 (.t 1)), none), (o 102 (.ld 1 false (.t 101)), none), (o 103 (.mv (.t 3)), none), (o 104 (.idxA 2 (.t 102) (.t 103)), none), (o 105 (.fldA 0 (.t 104)), none), (o 106 (.ld 1 false (.t 105)), none), (o 107 (.pcall 116 [.t 100, .t 106]), none), (o 96 (.mv (.t 107)), none), (o 108 (.ext (.t 96) 0), none), (o 109 (.ext (.t 96) 1), none), (o 4 (.mv (.t 108)), none), (o 5 (.mv (.t 109)), none)]) (.seq (.reg [o 110 (.mv (.t 5))]) (.cond (.t 110) (.seq (.reg [o 2 (.mv (.c (.int .i64 3)))]) .ret) .skip)))))) (.reg [o 78 (.mv (.t 3)), o 79 (.bin .add (.t 78) (.c (.int .i64 1))), o 3 (.mv (.t 79))])))))) (.seq (.seq (.reg [o 111 (.fldA 3 (.t 1)), o 112 (.ld 1 false (.t 111)), o 113 (.lenS (.t 112)), o 114 (.bin .gtr (.t 113) (.c (.int .i64 400))), o 115 (.mv (.t 114)), ⟨some 116, .fldA 1 (.t 1), some (115, false)⟩, ⟨some 117, .ld 1 false (.t 116), some (115, false)⟩, ⟨some 118, .lenS (.t 117), some (115, false)⟩, ⟨some 119, .bin .gtr (.t 118) (.c (.int .i64 400)), some (115, false)⟩, o 120 (.pick (.t 115) (.c (.bool true)) (.t 119))]) (.cond (.t 120) (.seq (.reg [o 2 (.mv (.c (.int .i64 2)))]) .ret) .skip)) (.seq (.reg [o 2 (.mv (.c (.int .i64 0)))]) .ret)))
def c60_s3 : SCode := (.seq (.seq (.reg [o 60 (.fldA 0 (.t 1)), o 61 (.ld 1 false (.t 60)), o 62 (.bin .eql (.t 61) (.c (.int .i64 2))), o 63 (.mv (.t 62)), ⟨some 64, .fldA 1 (.t 1), some (63, true)⟩, ⟨some 65, .ld 1 false (.t 64), some (63, true)⟩, ⟨some 66, .pcall 135 [.t 65, .c (.bool true)], some (63, true)⟩, ⟨some 67, .un .not (.t 66), some (63, true)⟩, o 68 (.pick (.t 63) (.t 67) (.c (.bool false)))]) (.cond (.t 68) (.seq (.reg [o 2 (.mv (.c (.int .i64 3)))]) .ret) .skip)) (.seq (.seq (.reg [o 69 (.fldA 2 (.t 1)), o 70 (.ld 1 false (.t 69)), o 71 (.len (.t 70)), o 72 (.bin .gtr (.t 71) (.c (.int .i64 12)))]) (.cond (.t 72) (.seq (.reg [o 2 (.mv (.c (.int .i64 2)))]) .ret) .skip)) c60_s5))
def c60 : SFun := ⟨.seq (.reg [o 1 (.boxF 101 6 (.t 0)), o 2 (.mv (.c (.int .i64 0)))]) (.seq (.seq (.reg [o 6 (.fldA 0 (.t 1)), o 7 (.ld 1 false (.t 6)), o 8 (.pcall 61 [.t 7, .c (.int .i64 1), .c (.int .i64 5)]), o 9 (.un .not (.t 8))]) (.cond (.t 9) (.seq (.reg [o 2 (.mv (.c (.int .i64 7)))]) .ret) .skip)) (.seq (.seq (.reg [o 10 (.fldA 1 (.t 1)), o 11 (.ld 1 false (.t 10)), o 12 (.bin .neq (.t 11) (.c (.str []))), o 13 (.mv (.t 12)), ⟨some 14, .fldA 0 (.t 1), some (13, true)⟩, ⟨some 15, .ld 1 false (.t 14), some (13, true)⟩, ⟨some 16, .bin .neq (.t 15) (.c (.int .i64 2)), some (13, true)⟩, o 17 (.pick (.t 13) (.t 16) (.c (.bool false))), o 18 (.mv (.t 17)), ⟨some 19, .fldA 0 (.t 1), some (18, true)⟩, ⟨some 20, .ld 1 false (.t 19), some (18, true)⟩, ⟨some 21, .bin .neq (.t 20) (.c (.int .i64 5)), some (18, true)⟩, o 22 (.pick (.t 18) (.t 21) (.c (.bool false))), o 23 (.mv (.t 22)), ⟨some 24, .fldA 2 (.t 1), some (23, false)⟩, ⟨some 25, .ld 1 false (.t 24), some (23, false)⟩, ⟨some 26, .len (.t 25), some (23, false)⟩, ⟨some 27, .bin .gtr (.t 26) (.c (.int .i64 0)), some (23, false)⟩, ⟨some 28, .mv (.t 27), some (23, false)⟩, ⟨some 29, .fldA 0 (.t 1), some (28, true)⟩, ⟨some 30, .ld 1 false (.t 29), some (28, true)⟩, ⟨some 31, .bin .neq (.t 30) (.c (.int .i64 2)), some (28, true)⟩, ⟨some 32, .pick (.t 28) (.t 31) (.c (.bool false)), some (23, false)⟩, o 33 (.pick (.t 23) (.c (.bool true)) (.t 32)), o 34 (.mv (.t 33)), ⟨some 35, .fldA 3 (.t 1), some (34, false)⟩, ⟨some 36, .ld 1 false (.t 35), some (34, false)⟩, ⟨some 37, .bin .neq (.t 36) (.c (.str [])), some (34, false)⟩, ⟨some 38, .mv (.t 37), some (34, false)⟩, ⟨some 39, .fldA 0 (.t 1), some (38, true)⟩, ⟨some 40, .ld 1 false (.t 39), some (38, true)⟩, ⟨some 41, .bin .neq (.t 40) (.c (.int .i64 3)), some (38, true)⟩, ⟨some 42, .pick (.t 38) (.t 41) (.c (.bool false)), some (34, false)⟩, ⟨some 43, .mv (.t 42), some (34, false)⟩, ⟨some 44, .fldA 0 (.t 1), some (43, true)⟩, ⟨some 45, .ld 1 false (.t 44), some (43, true)⟩, ⟨some 46, .bin .neq (.t 45) (.c (.int .i64 4)), some (43, true)⟩, ⟨some 47, .pick (.t 43) (.t 46) (.c (.bool false)), some (34, false)⟩, o 48 (.pick (.t 34) (.c (.bool true)) (.t 47)), o 49 (.mv (.t 48)), ⟨some 50, .fldA 5 (.t 1), some (49, false)⟩, ⟨some 51, .ld 1 false (.t 50), some (49, false)⟩, ⟨some 52, .len (.t 51), some (49, false)⟩, ⟨some 53, .bin .gtr (.t 52) (.c (.int .i64 0)), some (49, false)⟩, ⟨some 54, .mv (.t 53), some (49, false)⟩, ⟨some 55, .fldA 0 (.t 1), some (54, true)⟩, ⟨some 56, .ld 1 false (.t 55), some (54, true)⟩, ⟨some 57, .bin .gtr (.t 56) (.c (.int .i64 2)), some (54, true)⟩, ⟨some 58, .pick (.t 54) (.t 57) (.c (.bool false)), some (49, false)⟩, o 59 (.pick (.t 49) (.c (.bool true)) (.t 58))]) (.cond (.t 59) (.seq (.reg [o 2 (.mv (.c (.int .i64 7)))]) .ret) .skip)) c60_s3)), [.tmp 2]⟩
theorem hc60 : X8 Tryz.prog {pure := [61, 135, 116]} Tryz.f60 = some c60 := by kernel_rfl
theorem nodeErr_ok (x : HNode) (hx : NodeSm x) : PCalls (Pg G) 60 [.agg (Z5 x)] (Y0 (nodeE x)) := fun h => by
 have ka := hx.attrs
 have key7 : (x.kind < 1 \/ 5 < x.kind \/ bareM x = false) -> 7 = nodeE x := fun hh => by unfold nodeE; rw [if_pos hh]
 have rest : ¬ (x.kind < 1 \/ 5 < x.kind \/ bareM x = false) -> ∀ e : Env, e 1 = .pin (Z5 x) -> vc (Pg G) c60_s3 (retK [.tmp 2] fun r h' => r = Y0 (nodeE x) /\ h' = h) e h := by
  intro k3 e he1
  unfold nodeE
  rw [if_neg k3]
  have nm := domName_ok (G := G) x.name true hx.name
  have loop : ¬ (x.kind = 2 /\ K6 true x.name = false) -> ¬ 12 < x.attrs.length -> ∀ e : Env, e 1 = .pin (Z5 x) -> vc (Pg G) c60_s5 (retK [.tmp 2] fun r h' => r = Y0 (if x.kind = 2 /\ K6 true x.name = false then 3
   else if attrsE x.attrs ≠ 0 then attrsE x.attrs else if 400 < x.text.length \/ 400 < x.name.length then 2 else 0) /\ h' = h) e h := by
   intro g1 g2 e he1
   have ae : attrsE x.attrs = fe x.attrs.length (attrE x.attrs) := by unfold attrsE; rw [if_neg g2]
   rw [if_neg g1, ae]
   unfold c60_s5
   skip
   simp -dsimp -implicitDefEqProofs (disch := omega) only [↓Q0 13, ↓Q1 13, ↓Q0 18, ↓Q1 18, ↓Q0 23, ↓Q1 23, ↓Q0 28, ↓Q1 28, ↓Q0 34, ↓Q1 34, ↓Q0 38, ↓Q1 38, ↓Q0 43, ↓Q1 43, ↓Q0 49, ↓Q1 49, ↓Q0 54, ↓Q1 54, ↓Q0 63, ↓Q1 63, ↓Q0 115, ↓Q1 115, VCA, Z1, ↓Q3, Nat.reduceEqDiff, Nat.reduceBEq, Nat.reduceAdd, Nat.reduceSub, Nat.reduceMul, Nat.reduceLT, Nat.reduceLeDiff, ↓reduceIte, reduceCtorEq, Z7, Q6, SOp.rd, SI.rd, SX.rd, rdL, rdO, rdP, Q5, Q4, Q2, Q8, Q7, Z0, implies_true, forall_const, forall_eq, ne_eq, exists_eq_right_right, exists_eq_right, exists_eq_left, exists_eq_left', Q9, Z3, Z8, Z5, J4, Z6]
   refine LoopVC.intro (fun m e h' => ∃ k : Nat, k <= x.attrs.length /\ m = x.attrs.length - k /\ e 1 = .pin (Z5 x) /\ e 3 = Y0 k /\ h' = h /\ ∀ j, j < k -> attrE x.attrs j = 0) x.attrs.length ⟨0, by omega, by omega, he1, rfl, rfl, by omega⟩ ?_
   rintro m e h' ⟨k, hk, rfl, he1, he3, rfl, hj⟩
   simp -dsimp -implicitDefEqProofs (disch := omega) only [↓Q0 13, ↓Q1 13, ↓Q0 18, ↓Q1 18, ↓Q0 23, ↓Q1 23, ↓Q0 28, ↓Q1 28, ↓Q0 34, ↓Q1 34, ↓Q0 38, ↓Q1 38, ↓Q0 43, ↓Q1 43, ↓Q0 49, ↓Q1 49, ↓Q0 54, ↓Q1 54, ↓Q0 63, ↓Q1 63, ↓Q0 115, ↓Q1 115, VCA, Z1, ↓Q3, Nat.reduceEqDiff, Nat.reduceBEq, Nat.reduceAdd, Nat.reduceSub, Nat.reduceMul, Nat.reduceLT, Nat.reduceLeDiff, ↓reduceIte, reduceCtorEq, Z7, Q6, SOp.rd, SI.rd, SX.rd, rdL, rdO, rdP, Q5, Q4, Q2, Q8, Q7, Z0, implies_true, forall_const, forall_eq, ne_eq, exists_eq_right_right, exists_eq_right, exists_eq_left, exists_eq_left', Q9, Z3, Z8, Z5, J4, Z6, he1, he3, Z5]
   refine Br.dec (fun hlt => ?_) (fun hge => ?_)
   ·have hk' : k < x.attrs.length := by omega
    have bad : ∀ y : Int, y ≠ 0 -> attrE x.attrs k = y -> fe x.attrs.length (attrE x.attrs) = y := fun y hy he => by rw [fe_some hk' hj (by rw [he]; exact hy), he]
    have adef : attrE x.attrs k = if K6 false (nth x.attrs k).name = false then 3 else if 400 < (nth x.attrs k).value.length then 2 else if 0 <= attrAt (x.attrs.take k) (nth x.attrs k).name then 3 else 0 := rfl
    have e2 : x.attrs.take (Int.toNat (k : Int)) = x.attrs.take k := by simp
    have hh := attrOf_has (x.attrs.take k) (nth x.attrs k).name
    have hA := attrOf_ok (G := G) (x.attrs.take k) (nth x.attrs k).name (by simp; omega)
    simp -dsimp -implicitDefEqProofs (disch := omega) only [↓Q0 13, ↓Q1 13, ↓Q0 18, ↓Q1 18, ↓Q0 23, ↓Q1 23, ↓Q0 28, ↓Q1 28, ↓Q0 34, ↓Q1 34, ↓Q0 38, ↓Q1 38, ↓Q0 43, ↓Q1 43, ↓Q0 49, ↓Q1 49, ↓Q0 54, ↓Q1 54, ↓Q0 63, ↓Q1 63, ↓Q0 115, ↓Q1 115, VCA, Z1, ↓Q3, Nat.reduceEqDiff, Nat.reduceBEq, Nat.reduceAdd, Nat.reduceSub, Nat.reduceMul, Nat.reduceLT, Nat.reduceLeDiff, ↓reduceIte, reduceCtorEq, Z7, Q6, SOp.rd, SI.rd, SX.rd, rdL, rdO, rdP, Q5, Q4, Q2, Q8, Q7, Z0, implies_true, forall_const, forall_eq, ne_eq, exists_eq_right_right, exists_eq_right, exists_eq_left, exists_eq_left', Q9, Z3, Z8, Z5, J4, Z6, he1, he3, Z5]
    repeat' (first | ((with_reducible refine brC (fun _ => ?_) fun _ => ?_) <;> try (exfalso; omega)) | (with_reducible apply pcallE.of; · exact domName_ok (nth x.attrs k).name false (hx.each _ (X9 hk')).1) | (with_reducible apply pcallE.of; · exact hA) | (with_reducible refine And.intro ?_ ?_; · omega) | simp -dsimp -implicitDefEqProofs (disch := omega) only [↓Q0 13, ↓Q1 13, ↓Q0 18, ↓Q1 18, ↓Q0 23, ↓Q1 23, ↓Q0 28, ↓Q1 28, ↓Q0 34, ↓Q1 34, ↓Q0 38, ↓Q1 38, ↓Q0 43, ↓Q1 43, ↓Q0 49, ↓Q1 49, ↓Q0 54, ↓Q1 54, ↓Q0 63, ↓Q1 63, ↓Q0 115, ↓Q1 115, VCA, Z1, ↓Q3, Nat.reduceEqDiff, Nat.reduceBEq, Nat.reduceAdd, Nat.reduceSub, Nat.reduceMul, Nat.reduceLT, Nat.reduceLeDiff, ↓reduceIte, reduceCtorEq, Z7, Q6, SOp.rd, SI.rd, SX.rd, rdL, rdO, rdP, Q5, Q4, Q2, Q8, Q7, Z0, implies_true, forall_const, forall_eq, ne_eq, exists_eq_right_right, exists_eq_right, exists_eq_left, exists_eq_left', Q9, Z3, Z8, Z5, J4, Z6, he1, he3, Z5, hh, e2])
    ·rename_i q
     have q : K6 false (nth x.attrs k).name = false := by simpa using q
     have := bad 3 (by decide) (by rw [adef, if_pos q])
     exact ⟨Sub.refl _, by rw [this]; rfl⟩
    ·rename_i q1 q
     have q1 : ¬ K6 false (nth x.attrs k).name = false := by simpa using q1
     have := bad 2 (by decide) (by rw [adef, if_neg q1, if_pos (by omega)])
     exact ⟨Sub.refl _, by rw [this]; rfl⟩
    ·rename_i q2 q1 q
     have q2 : ¬ K6 false (nth x.attrs k).name = false := by simpa using q2
     have := bad 3 (by decide) (by rw [adef, if_neg q2, if_neg (by omega), if_pos q])
     exact ⟨Sub.refl _, by rw [this]; rfl⟩
    ·rename_i q2 q1 q
     have q2 : ¬ K6 false (nth x.attrs k).name = false := by simpa using q2
     refine ⟨_, by omega, k + 1, by omega, rfl, by omega, fun j hj' => ?_⟩
     by_cases hjk : j = k
     ·subst hjk; rw [adef, if_neg q2, if_neg (by omega), if_neg q]
     ·exact hj j (by omega)
   ·obtain rfl : k = x.attrs.length := by omega
    rw [fe_none hj, if_neg (by simp)]
    simp -dsimp -implicitDefEqProofs (disch := omega) only [↓Q0 13, ↓Q1 13, ↓Q0 18, ↓Q1 18, ↓Q0 23, ↓Q1 23, ↓Q0 28, ↓Q1 28, ↓Q0 34, ↓Q1 34, ↓Q0 38, ↓Q1 38, ↓Q0 43, ↓Q1 43, ↓Q0 49, ↓Q1 49, ↓Q0 54, ↓Q1 54, ↓Q0 63, ↓Q1 63, ↓Q0 115, ↓Q1 115, VCA, Z1, ↓Q3, Nat.reduceEqDiff, Nat.reduceBEq, Nat.reduceAdd, Nat.reduceSub, Nat.reduceMul, Nat.reduceLT, Nat.reduceLeDiff, ↓reduceIte, reduceCtorEq, Z7, Q6, SOp.rd, SI.rd, SX.rd, rdL, rdO, rdP, Q5, Q4, Q2, Q8, Q7, Z0, implies_true, forall_const, forall_eq, ne_eq, exists_eq_right_right, exists_eq_right, exists_eq_left, exists_eq_left', Q9, Z3, Z8, Z5, J4, Z6, he1, Z5]
    repeat' (first | ((with_reducible refine brC (fun _ => ?_) fun _ => ?_) <;> try (exfalso; omega)) | (with_reducible refine And.intro ?_ ?_; · omega) | simp -dsimp -implicitDefEqProofs (disch := omega) only [↓Q0 13, ↓Q1 13, ↓Q0 18, ↓Q1 18, ↓Q0 23, ↓Q1 23, ↓Q0 28, ↓Q1 28, ↓Q0 34, ↓Q1 34, ↓Q0 38, ↓Q1 38, ↓Q0 43, ↓Q1 43, ↓Q0 49, ↓Q1 49, ↓Q0 54, ↓Q1 54, ↓Q0 63, ↓Q1 63, ↓Q0 115, ↓Q1 115, VCA, Z1, ↓Q3, Nat.reduceEqDiff, Nat.reduceBEq, Nat.reduceAdd, Nat.reduceSub, Nat.reduceMul, Nat.reduceLT, Nat.reduceLeDiff, ↓reduceIte, reduceCtorEq, Z7, Q6, SOp.rd, SI.rd, SX.rd, rdL, rdO, rdP, Q5, Q4, Q2, Q8, Q7, Z0, implies_true, forall_const, forall_eq, ne_eq, exists_eq_right_right, exists_eq_right, exists_eq_left, exists_eq_left', Q9, Z3, Z8, Z5, J4, Z6, he1, Z5])
    ·exact ⟨Sub.refl _, by rw [if_pos (by omega)]⟩
    ·exact ⟨Sub.refl _, by rw [if_pos (by omega)]⟩
    ·exact ⟨Sub.refl _, by rw [if_neg (by omega)]⟩
  unfold c60_s3
  skip
  simp -dsimp -implicitDefEqProofs (disch := omega) only [↓Q0 13, ↓Q1 13, ↓Q0 18, ↓Q1 18, ↓Q0 23, ↓Q1 23, ↓Q0 28, ↓Q1 28, ↓Q0 34, ↓Q1 34, ↓Q0 38, ↓Q1 38, ↓Q0 43, ↓Q1 43, ↓Q0 49, ↓Q1 49, ↓Q0 54, ↓Q1 54, ↓Q0 63, ↓Q1 63, ↓Q0 115, ↓Q1 115, VCA, Z1, ↓Q3, Nat.reduceEqDiff, Nat.reduceBEq, Nat.reduceAdd, Nat.reduceSub, Nat.reduceMul, Nat.reduceLT, Nat.reduceLeDiff, ↓reduceIte, reduceCtorEq, Z7, Q6, SOp.rd, SI.rd, SX.rd, rdL, rdO, rdP, Q5, Q4, Q2, Q8, Q7, Z0, implies_true, forall_const, forall_eq, ne_eq, exists_eq_right_right, exists_eq_right, exists_eq_left, exists_eq_left', Q9, Z3, Z8, Z5, J4, Z6, Z5, he1]
  repeat' (first | ((with_reducible refine brC (fun _ => ?_) fun _ => ?_) <;> try (exfalso; omega)) | (with_reducible apply pcallE.of; · exact nm) | (with_reducible refine And.intro ?_ ?_; · omega) | simp -dsimp -implicitDefEqProofs (disch := omega) only [↓Q0 13, ↓Q1 13, ↓Q0 18, ↓Q1 18, ↓Q0 23, ↓Q1 23, ↓Q0 28, ↓Q1 28, ↓Q0 34, ↓Q1 34, ↓Q0 38, ↓Q1 38, ↓Q0 43, ↓Q1 43, ↓Q0 49, ↓Q1 49, ↓Q0 54, ↓Q1 54, ↓Q0 63, ↓Q1 63, ↓Q0 115, ↓Q1 115, VCA, Z1, ↓Q3, Nat.reduceEqDiff, Nat.reduceBEq, Nat.reduceAdd, Nat.reduceSub, Nat.reduceMul, Nat.reduceLT, Nat.reduceLeDiff, ↓reduceIte, reduceCtorEq, Z7, Q6, SOp.rd, SI.rd, SX.rd, rdL, rdO, rdP, Q5, Q4, Q2, Q8, Q7, Z0, implies_true, forall_const, forall_eq, ne_eq, exists_eq_right_right, exists_eq_right, exists_eq_left, exists_eq_left', Q9, Z3, Z8, Z5, J4, Z6, Z5, he1])
  ·rename_i q1 q
   exact ⟨Sub.refl _, by rw [if_pos ⟨q1, by simpa using q⟩]⟩
  ·rename_i q2 q1 q
   have ae : attrsE x.attrs = 2 := by unfold attrsE; rw [if_pos (by omega)]
   exact ⟨Sub.refl _, by rw [if_neg (fun hh => by simp [hh.2] at q1), ae]; rfl⟩
  ·rename_i q2 q1 q
   exact loop (fun hh => by simp [hh.2] at q1) (by omega) _ he1
  ·rename_i q1 q
   have ae : attrsE x.attrs = 2 := by unfold attrsE; rw [if_pos (by omega)]
   exact ⟨Sub.refl _, by rw [if_neg (fun hh => q1 hh.1), ae]; rfl⟩
  ·rename_i q1 q
   exact loop (fun hh => q1 hh.1) (by omega) _ he1
 refine Z9 Tryz.func60 (by kernel_rfl) hc60 (by rw [Tryz.ntmps60]; simp) (by rw [Tryz.ntmps60]; decide) ?_
 simp -dsimp -implicitDefEqProofs (disch := omega) only [↓Q0 13, ↓Q1 13, ↓Q0 18, ↓Q1 18, ↓Q0 23, ↓Q1 23, ↓Q0 28, ↓Q1 28, ↓Q0 34, ↓Q1 34, ↓Q0 38, ↓Q1 38, ↓Q0 43, ↓Q1 43, ↓Q0 49, ↓Q1 49, ↓Q0 54, ↓Q1 54, ↓Q0 63, ↓Q1 63, ↓Q0 115, ↓Q1 115, VCA, Z1, ↓Q3, Nat.reduceEqDiff, Nat.reduceBEq, Nat.reduceAdd, Nat.reduceSub, Nat.reduceMul, Nat.reduceLT, Nat.reduceLeDiff, ↓reduceIte, reduceCtorEq, Z7, Q6, SOp.rd, SI.rd, SX.rd, rdL, rdO, rdP, Q5, Q4, Q2, Q8, Q7, Z0, implies_true, forall_const, forall_eq, ne_eq, exists_eq_right_right, exists_eq_right, exists_eq_left, exists_eq_left', Q9, Z3, Z8, Z5, J4, Z6, c60, Z5]
 refine pcallE.of (betw_ok x.kind 1 5) ?_; simp -dsimp -implicitDefEqProofs (disch := omega) only [↓Q0 13, ↓Q1 13, ↓Q0 18, ↓Q1 18, ↓Q0 23, ↓Q1 23, ↓Q0 28, ↓Q1 28, ↓Q0 34, ↓Q1 34, ↓Q0 38, ↓Q1 38, ↓Q0 43, ↓Q1 43, ↓Q0 49, ↓Q1 49, ↓Q0 54, ↓Q1 54, ↓Q0 63, ↓Q1 63, ↓Q0 115, ↓Q1 115, VCA, Z1, ↓Q3, Nat.reduceEqDiff, Nat.reduceBEq, Nat.reduceAdd, Nat.reduceSub, Nat.reduceMul, Nat.reduceLT, Nat.reduceLeDiff, ↓reduceIte, reduceCtorEq, Z7, Q6, SOp.rd, SI.rd, SX.rd, rdL, rdO, rdP, Q5, Q4, Q2, Q8, Q7, Z0, implies_true, forall_const, forall_eq, ne_eq, exists_eq_right_right, exists_eq_right, exists_eq_left, exists_eq_left', Q9, Z3, Z8, Z5, J4, Z6]
 cases hb : (decide (1 <= x.kind) && decide (x.kind <= 5))
 ·have : x.kind < 1 \/ 5 < x.kind := by
   rw [Bool.and_eq_false_iff, decide_eq_false_iff_not, decide_eq_false_iff_not] at hb; omega
  simp -dsimp -implicitDefEqProofs (disch := omega) only [↓Q0 13, ↓Q1 13, ↓Q0 18, ↓Q1 18, ↓Q0 23, ↓Q1 23, ↓Q0 28, ↓Q1 28, ↓Q0 34, ↓Q1 34, ↓Q0 38, ↓Q1 38, ↓Q0 43, ↓Q1 43, ↓Q0 49, ↓Q1 49, ↓Q0 54, ↓Q1 54, ↓Q0 63, ↓Q1 63, ↓Q0 115, ↓Q1 115, VCA, Z1, ↓Q3, Nat.reduceEqDiff, Nat.reduceBEq, Nat.reduceAdd, Nat.reduceSub, Nat.reduceMul, Nat.reduceLT, Nat.reduceLeDiff, ↓reduceIte, reduceCtorEq, Z7, Q6, SOp.rd, SI.rd, SX.rd, rdL, rdO, rdP, Q5, Q4, Q2, Q8, Q7, Z0, implies_true, forall_const, forall_eq, ne_eq, exists_eq_right_right, exists_eq_right, exists_eq_left, exists_eq_left', Q9, Z3, Z8, Z5, J4, Z6]
  exact ⟨Sub.refl _, key7 (by omega)⟩
 ·have hk : 1 <= x.kind /\ x.kind <= 5 := by simpa using hb
  simp -dsimp -implicitDefEqProofs (disch := omega) only [↓Q0 13, ↓Q1 13, ↓Q0 18, ↓Q1 18, ↓Q0 23, ↓Q1 23, ↓Q0 28, ↓Q1 28, ↓Q0 34, ↓Q1 34, ↓Q0 38, ↓Q1 38, ↓Q0 43, ↓Q1 43, ↓Q0 49, ↓Q1 49, ↓Q0 54, ↓Q1 54, ↓Q0 63, ↓Q1 63, ↓Q0 115, ↓Q1 115, VCA, Z1, ↓Q3, Nat.reduceEqDiff, Nat.reduceBEq, Nat.reduceAdd, Nat.reduceSub, Nat.reduceMul, Nat.reduceLT, Nat.reduceLeDiff, ↓reduceIte, reduceCtorEq, Z7, Q6, SOp.rd, SI.rd, SX.rd, rdL, rdO, rdP, Q5, Q4, Q2, Q8, Q7, Z0, implies_true, forall_const, forall_eq, ne_eq, exists_eq_right_right, exists_eq_right, exists_eq_left, exists_eq_left', Q9, Z3, Z8, Z5, J4, Z6]
  repeat' (first | ((with_reducible refine brC (fun _ => ?_) fun _ => ?_) <;> try (exfalso; omega)) | (with_reducible refine And.intro ?_ ?_; · omega) | simp -dsimp -implicitDefEqProofs (disch := omega) only [↓Q0 13, ↓Q1 13, ↓Q0 18, ↓Q1 18, ↓Q0 23, ↓Q1 23, ↓Q0 28, ↓Q1 28, ↓Q0 34, ↓Q1 34, ↓Q0 38, ↓Q1 38, ↓Q0 43, ↓Q1 43, ↓Q0 49, ↓Q1 49, ↓Q0 54, ↓Q1 54, ↓Q0 63, ↓Q1 63, ↓Q0 115, ↓Q1 115, VCA, Z1, ↓Q3, Nat.reduceEqDiff, Nat.reduceBEq, Nat.reduceAdd, Nat.reduceSub, Nat.reduceMul, Nat.reduceLT, Nat.reduceLeDiff, ↓reduceIte, reduceCtorEq, Z7, Q6, SOp.rd, SI.rd, SX.rd, rdL, rdO, rdP, Q5, Q4, Q2, Q8, Q7, Z0, implies_true, forall_const, forall_eq, ne_eq, exists_eq_right_right, exists_eq_right, exists_eq_left, exists_eq_left', Q9, Z3, Z8, Z5, J4, Z6])
  all_goals first
   | (refine ⟨Sub.refl _, key7 (.inr (.inr ?_))⟩; clear rest key7 hx; simp_all [bareM, lenp, List.length_pos_iff]; done)
   | (refine ⟨Sub.refl _, key7 (.inr (.inr ?_))⟩; clear rest key7 hx; simp_all [bareM, lenp, List.length_pos_iff]; omega)
   | (refine rest ?_ _ rfl; clear rest key7 hx; simp_all [bareM, lenp, List.length_pos_iff]; done)
   | (refine rest ?_ _ rfl; clear rest key7 hx; simp_all [bareM, lenp, List.length_pos_iff]; omega)
   | trace_state
def deepM (d : HDoc) (n : Int) : Int := if d.nodes.length < up d n then -1 else up d n
def c63 : SFun := ⟨.seq (.reg [o 2 (.boxF 39 2 (.t 0)), o 4 (.mv (.c (.int .i64 0)))]) (.seq (.reg [o 5 (.mv (.c (.int .i64 0)))]) (.seq (.block 0 (.loop (.seq (.seq (.reg [o 6 (.fldA 0 (.t 2)), o 7 (.ld 1 false (.t 6)), o 8 (.mv (.t 1)), o 9 (.idxA 6 (.t 7) (.t 8)), o 10 (.fldA 4 (.t 9)), o 11 (.ld 1 false (.t 10)), o 12 (.bin .geq (.t 11) (.c (.int .i64 0)))]) (.cond (.t 12) .skip (.exit 0))) (.block 1 (.seq (.reg [o 13 (.fldA 0 (.t 2)), o 14 (.ld 1 false (.t 13)), o 15 (.mv (.t 1)), o 16 (.idxA 6 (.t 14) (.t 15)), o 17 (.fldA 4 (.t 16)), o 18 (.ld 1 false (.t 17)), o 1 (.mv (.t 18))]) (.seq (.reg [o 19 (.mv (.t 5)), o 20 (.bin .add (.t 19) (.c (.int .i64 1))), o 5 (.mv (.t 20))]) (.seq (.reg [o 21 (.mv (.t 5)), o 22 (.fldA 0 (.t 2)), o 23 (.ld 1 false (.t 22)), o 24 (.len (.t 23)), o 25 (.bin .gtr (.t 21) (.t 24))]) (.cond (.t 25) (.seq (.reg [o 4 (.mv (.c (.int .i64 (-1))))]) .ret) .skip)))))))) (.seq (.reg [o 26 (.mv (.t 5)), o 4 (.mv (.t 26))]) .ret))), [.tmp 4]⟩
theorem hc63 : X8 Tryz.prog {} Tryz.f63 = some c63 := by kernel_rfl
theorem deep_ok (d : HDoc) (sm : DocSm d) (hP : ∀ n, inD d n -> 0 <= (nd d n).parent -> inD d (nd d n).parent) (n : Int) (hn : inD d n) : PCalls (Pg G) 63 [.agg (J4 d), Y0 n] (Y0 (deepM d n)) := fun h => by
 have hl := sm.len
 refine Z9 Tryz.func63 (by kernel_rfl) hc63 (by rw [Tryz.ntmps63]; simp) (by rw [Tryz.ntmps63]; decide) ?_
 simp -dsimp -implicitDefEqProofs (disch := omega) only [VCA, Z1, ↓Q3, Nat.reduceEqDiff, Nat.reduceBEq, Nat.reduceAdd, Nat.reduceSub, Nat.reduceMul, Nat.reduceLT, Nat.reduceLeDiff, ↓reduceIte, reduceCtorEq, Z7, Q6, SOp.rd, SI.rd, SX.rd, rdL, rdO, rdP, Q5, Q4, Q2, Q8, Q7, Z0, implies_true, forall_const, forall_eq, ne_eq, exists_eq_right_right, exists_eq_right, exists_eq_left, exists_eq_left', Q9, Z3, Z8, Z5, J4, Z6, Z4, c63, J4]
 refine LoopVC.intro (fun m e h' => ∃ (c : Int) (k : Nat), k <= d.nodes.length /\ m = d.nodes.length + 1 - k /\ inD d c /\ e 1 = Y0 c /\ e 2 = .pin (J4 d) /\ e 5 = Y0 k /\ h' = h /\ k + upF (d.nodes.length + 1 - k) d c = up d n) (d.nodes.length + 1) ⟨n, 0, by omega, rfl, hn, rfl, rfl, rfl, rfl, by simp [up]⟩ ?_
 rintro m e h' ⟨c, k, hk, rfl, hc, he1, he2, he5, rfl, hu⟩
 have hc0 := hc.1
 have hc1 := hc.2
 simp -dsimp -implicitDefEqProofs (disch := omega) only [VCA, Z1, ↓Q3, Nat.reduceEqDiff, Nat.reduceBEq, Nat.reduceAdd, Nat.reduceSub, Nat.reduceMul, Nat.reduceLT, Nat.reduceLeDiff, ↓reduceIte, reduceCtorEq, Z7, Q6, SOp.rd, SI.rd, SX.rd, rdL, rdO, rdP, Q5, Q4, Q2, Q8, Q7, Z0, implies_true, forall_const, forall_eq, ne_eq, exists_eq_right_right, exists_eq_right, exists_eq_left, exists_eq_left', Q9, Z3, Z8, Z5, J4, Z6, Z4, he1, he2, he5, J4]
 refine ⟨by omega, ?_⟩
 have e0 : nth d.nodes c.toNat = nd d c := rfl
 rw [e0]
 refine Br.dec (fun h1 => ?_) (fun h1 => ?_)
 ·obtain ⟨f, hf⟩ : ∃ f, d.nodes.length + 1 - k = f + 1 := ⟨d.nodes.length - k, by omega⟩
  rw [hf, upF, if_pos h1] at hu
  simp -dsimp -implicitDefEqProofs (disch := omega) only [VCA, Z1, ↓Q3, Nat.reduceEqDiff, Nat.reduceBEq, Nat.reduceAdd, Nat.reduceSub, Nat.reduceMul, Nat.reduceLT, Nat.reduceLeDiff, ↓reduceIte, reduceCtorEq, Z7, Q6, SOp.rd, SI.rd, SX.rd, rdL, rdO, rdP, Q5, Q4, Q2, Q8, Q7, Z0, implies_true, forall_const, forall_eq, ne_eq, exists_eq_right_right, exists_eq_right, exists_eq_left, exists_eq_left', Q9, Z3, Z8, Z5, J4, Z6, Z4, he1, he2, he5, J4]
  rw [e0]
  refine ⟨by omega, ?_⟩
  refine Br.dec (fun h2 => ?_) (fun h2 => ?_)
  ·simp -dsimp -implicitDefEqProofs (disch := omega) only [VCA, Z1, ↓Q3, Nat.reduceEqDiff, Nat.reduceBEq, Nat.reduceAdd, Nat.reduceSub, Nat.reduceMul, Nat.reduceLT, Nat.reduceLeDiff, ↓reduceIte, reduceCtorEq, Z7, Q6, SOp.rd, SI.rd, SX.rd, rdL, rdO, rdP, Q5, Q4, Q2, Q8, Q7, Z0, implies_true, forall_const, forall_eq, ne_eq, exists_eq_right_right, exists_eq_right, exists_eq_left, exists_eq_left', Q9, Z3, Z8, Z5, J4, Z6, Z4]
   have : d.nodes.length < up d n := by omega
   exact ⟨Sub.refl _, by unfold deepM; rw [if_pos this]⟩
  ·simp -dsimp -implicitDefEqProofs (disch := omega) only [VCA, Z1, ↓Q3, Nat.reduceEqDiff, Nat.reduceBEq, Nat.reduceAdd, Nat.reduceSub, Nat.reduceMul, Nat.reduceLT, Nat.reduceLeDiff, ↓reduceIte, reduceCtorEq, Z7, Q6, SOp.rd, SI.rd, SX.rd, rdL, rdO, rdP, Q5, Q4, Q2, Q8, Q7, Z0, implies_true, forall_const, forall_eq, ne_eq, exists_eq_right_right, exists_eq_right, exists_eq_left, exists_eq_left', Q9, Z3, Z8, Z5, J4, Z6, Z4, he2, he5]
   refine ⟨_, ?_, (nd d c).parent, k + 1, by omega, rfl, hP c hc h1, rfl, by omega, ?_⟩
   ·omega
   ·have e2 : d.nodes.length + 1 - (k + 1) = f := by omega
    rw [e2]; omega
 ·simp -dsimp -implicitDefEqProofs (disch := omega) only [VCA, Z1, ↓Q3, Nat.reduceEqDiff, Nat.reduceBEq, Nat.reduceAdd, Nat.reduceSub, Nat.reduceMul, Nat.reduceLT, Nat.reduceLeDiff, ↓reduceIte, reduceCtorEq, Z7, Q6, SOp.rd, SI.rd, SX.rd, rdL, rdO, rdP, Q5, Q4, Q2, Q8, Q7, Z0, implies_true, forall_const, forall_eq, ne_eq, exists_eq_right_right, exists_eq_right, exists_eq_left, exists_eq_left', Q9, Z3, Z8, Z5, J4, Z6, Z4, he5]
  rw [upF_top h1] at hu
  exact ⟨Sub.refl _, by unfold deepM; rw [if_neg (by omega)]; omega⟩
def c20_s7 : SCode := (.seq (.seq (.reg [o 153 (.fldA 0 (.t 1)), o 154 (.ld 1 false (.t 153)), o 155 (.idxA 6 (.t 154) (.c (.int .i64 0))), o 156 (.fldA 4 (.t 155)), o 157 (.ld 1 false (.t 156)), o 158 (.bin .neq (.t 157) (.c (.int .i64 (-1))))]) (.cond (.t 158) (.seq (.reg [o 2 (.mv (.c (.int .i64 3)))]) .ret) .skip)) (.seq (.seq (.reg [o 11 (.mv (.c (.int .i64 0)))]) (.block 8 (.loop (.seq (.seq (.reg [o 159 (.mv (.t 11)), o 160 (.mv (.t 3)), o 161 (.bin .lss (.t 159) (.t 160))]) (.cond (.t 161) .skip (.exit 8))) (.seq (.block 9 (.seq (.reg [o 164 (.ld 2 true (.t 1)), o 165 (.mv (.t 11)), o 166 (.pcall 63 [.t 164, .t 165]), o 12 (.mv (.t 166))]) (.seq (.seq (.reg [o 167 (.mv (.t 12)), o 168 (.bin .lss (.t 167) (.c (.int .i64 0)))]) (.cond (.t 168) (.seq (.reg [o 2 (.mv (.c (.int .i64 8)))]) .ret) .skip)) (.seq (.reg [o 169 (.mv (.t 12)), o 170 (.bin .gtr (.t 169) (.c (.int .i64 40)))]) (.cond (.t 170) (.seq (.reg [o 2 (.mv (.c (.int .i64 2)))]) .ret) .skip))))) (.reg [o 162 (.mv (.t 11)), o 163 (.bin .add (.t 162) (.c (.int .i64 1))), o 11 (.mv (.t 163))])))))) (.seq (.reg [o 2 (.mv (.c (.int .i64 0)))]) .ret)))
def c20_s6 : SCode := (.seq (.seq (.reg [o 9 (.mv (.c (.int .i64 0)))]) (.block 6 (.loop (.seq (.seq (.reg [o 122 (.mv (.t 9)), o 123 (.mv (.t 3)), o 124 (.bin .lss (.t 122) (.t 123))]) (.cond (.t 124) .skip (.exit 6))) (.seq (.block 7 (.seq (.reg [o 127 (.fldA 0 (.t 1)), o 128 (.ld 1 false (.t 127)), o 129 (.mv (.t 9)), o 130 (.idxA 6 (.t 128) (.t 129)), o 131 (.fldA 4 (.t 130)), o 132 (.ld 1 false (.t 131)), o 10 (.mv (.t 132))]) (.seq (.reg [o 133 (.mv (.t 10)), o 134 (.bin .neq (.t 133) (.c (.int .i64 (-1)))), o 135 (.mv (.t 134)), ⟨some 136, .mv (.t 10), some (135, true)⟩, ⟨some 137, .mv (.t 3), some (135, true)⟩, ⟨some 138, .bin .sub (.t 137) (.c (.int .i64 1)), some (135, true)⟩, ⟨some 139, .pcall 61 [.t 136, .c (.int .i64 0), .t 138], some (135, true)⟩, ⟨some 140, .un .not (.t 139), some (135, true)⟩, ⟨some 141, .mv (.t 140), some (135, true)⟩, ⟨some 142, .fldA 0 (.t 1), some (141, false)⟩, ⟨some 143, .ld 1 false (.t 142), some (141, false)⟩, ⟨some 144, .mv (.t 10), some (141, false)⟩, ⟨some 145, .idxA 6 (.t 143) (.t 144), some (141, false)⟩, ⟨some 146, .fldA 5 (.t 145), some (141, false)⟩, ⟨some 147, .ld 1 false (.t 146), some (141, false)⟩, ⟨some 148, .mv (.t 9), some (141, false)⟩, ⟨some 149, .pcall 62 [.t 147, .t 148], some (141, false)⟩, ⟨some 150, .bin .lss (.t 149) (.c (.int .i64 0)), some (141, false)⟩, ⟨some 151, .pick (.t 141) (.c (.bool true)) (.t 150), some (135, true)⟩, o 152 (.pick (.t 135) (.t 151) (.c (.bool false)))]) (.cond (.t 152) (.seq (.reg [o 2 (.mv (.c (.int .i64 3)))]) .ret) .skip)))) (.reg [o 125 (.mv (.t 9)), o 126 (.bin .add (.t 125) (.c (.int .i64 1))), o 9 (.mv (.t 126))])))))) c20_s7)
def c20_s5 : SCode := (.seq (.seq (.reg [o 6 (.mv (.c (.int .i64 0)))]) (.block 2 (.loop (.seq (.seq (.reg [o 58 (.mv (.t 6)), o 59 (.mv (.t 3)), o 60 (.bin .lss (.t 58) (.t 59))]) (.cond (.t 60) .skip (.exit 2))) (.seq (.block 3 (.seq (.reg [o 7 (.mv (.c (.int .i64 0)))]) (.block 4 (.loop (.seq (.seq (.reg [o 63 (.mv (.t 7)), o 64 (.fldA 0 (.t 1)), o 65 (.ld 1 false (.t 64)), o 66 (.mv (.t 6)), o 67 (.idxA 6 (.t 65) (.t 66)), o 68 (.fldA 5 (.t 67)), o 69 (.ld 1 false (.t 68)), o 70 (.len (.t 69)), o 71 (.bin .lss (.t 63) (.t 70))]) (.cond (.t 71) .skip (.exit 4))) (.seq (.block 5 (.seq (.reg [o 74 (.fldA 0 (.t 1)), o 75 (.ld 1 false (.t 74)), o 76 (.mv (.t 6)), o 77 (.idxA 6 (.t 75) (.t 76)), o 78 (.fldA 5 (.t 77)), o 79 (.ld 1 false (.t 78)), o 80 (.mv (.t 7)), o 81 (.idxA 1 (.t 79) (.t 80)), o 82 (.ld 1 false (.t 81)), o 8 (.mv (.t 82))]) (.seq (.seq (.reg [o 83 (.mv (.t 8)), o 84 (.mv (.t 3)), o 85 (.bin .sub (.t 84) (.c (.int .i64 1))), o 86 (.pcall 61 [.t 83, .c (.int .i64 0), .t 85]), o 87 (.un .not (.t 86)), o 88 (.mv (.t 87)), ⟨some 89, .fldA 0 (.t 1), some (88, false)⟩, ⟨some 90, .ld 1 false (.t 89), some (88, false)⟩, ⟨some 91, .mv (.t 8), some (88, false)⟩, ⟨some 92, .idxA 6 (.t 90) (.t 91), some (88, false)⟩, ⟨some 93, .fldA 4 (.t 92), some (88, false)⟩, ⟨some 94, .ld 1 false (.t 93), some (88, false)⟩, ⟨some 95, .mv (.t 6), some (88, false)⟩, ⟨some 96, .bin .neq (.t 94) (.t 95), some (88, false)⟩, o 97 (.pick (.t 88) (.c (.bool true)) (.t 96)), o 98 (.mv (.t 97)), ⟨some 99, .fldA 0 (.t 1), some (98, false)⟩, ⟨some 100, .ld 1 false (.t 99), some (98, false)⟩, ⟨some 101, .mv (.t 6), some (98, false)⟩, ⟨some 102, .idxA 6 (.t 100) (.t 101), some (98, false)⟩, ⟨some 103, .fldA 5 (.t 102), some (98, false)⟩, ⟨some 104, .ld 1 false (.t 103), some (98, false)⟩, ⟨some 105, .mv (.t 7), some (98, false)⟩, ⟨some 106, .slA 1 (.t 104) none (some (.t 105)), some (98, false)⟩, ⟨some 107, .mv (.t 8), some (98, false)⟩, ⟨some 108, .pcall 62 [.t 106, .t 107], some (98, false)⟩, ⟨some 109, .bin .geq (.t 108) (.c (.int .i64 0)), some (98, false)⟩, o 110 (.pick (.t 98) (.c (.bool true)) (.t 109))]) (.cond (.t 110) (.seq (.reg [o 2 (.mv (.c (.int .i64 3)))]) .ret) .skip)) (.seq (.reg [o 111 (.mv (.t 6)), o 112 (.bin .eql (.t 111) (.c (.int .i64 0))), o 113 (.mv (.t 112)), ⟨some 114, .fldA 0 (.t 1), some (113, true)⟩, ⟨some 115, .ld 1 false (.t 114), some (113, true)⟩, ⟨some 116, .mv (.t 8), some (113, true)⟩, ⟨some 117, .idxA 6 (.t 115) (.t 116), some (113, true)⟩, ⟨some 118, .fldA 0 (.t 117), some (113, true)⟩, ⟨some 119, .ld 1 false (.t 118), some (113, true)⟩, ⟨some 120, .bin .eql (.t 119) (.c (.int .i64 3)), some (113, true)⟩, o 121 (.pick (.t 113) (.t 120) (.c (.bool false)))]) (.cond (.t 121) (.seq (.reg [o 2 (.mv (.c (.int .i64 7)))]) .ret) .skip))))) (.reg [o 72 (.mv (.t 7)), o 73 (.bin .add (.t 72) (.c (.int .i64 1))), o 7 (.mv (.t 73))]))))))) (.reg [o 61 (.mv (.t 6)), o 62 (.bin .add (.t 61) (.c (.int .i64 1))), o 6 (.mv (.t 62))])))))) c20_s6)
def c20_s4 : SCode := (.seq (.seq (.reg [o 4 (.mv (.c (.int .i64 0)))]) (.block 0 (.loop (.seq (.seq (.reg [o 20 (.mv (.t 4)), o 21 (.mv (.t 3)), o 22 (.bin .lss (.t 20) (.t 21))]) (.cond (.t 22) .skip (.exit 0))) (.seq (.block 1 (.seq (.seq (.reg [o 25 (.mv (.t 4)), o 26 (.bin .eql (.t 25) (.c (.int .i64 0))), o 27 (.mv (.t 26)), ⟨some 28, .fldA 0 (.t 1), some (27, true)⟩, ⟨some 29, .ld 1 false (.t 28), some (27, true)⟩, ⟨some 30, .mv (.t 4), some (27, true)⟩, ⟨some 31, .idxA 6 (.t 29) (.t 30), some (27, true)⟩, ⟨some 32, .fldA 0 (.t 31), some (27, true)⟩, ⟨some 33, .ld 1 false (.t 32), some (27, true)⟩, ⟨some 34, .bin .neq (.t 33) (.c (.int .i64 1)), some (27, true)⟩, o 35 (.pick (.t 27) (.t 34) (.c (.bool false))), o 36 (.mv (.t 35)), ⟨some 37, .mv (.t 4), some (36, false)⟩, ⟨some 38, .bin .gtr (.t 37) (.c (.int .i64 0)), some (36, false)⟩, ⟨some 39, .mv (.t 38), some (36, false)⟩, ⟨some 40, .fldA 0 (.t 1), some (39, true)⟩, ⟨some 41, .ld 1 false (.t 40), some (39, true)⟩, ⟨some 42, .mv (.t 4), some (39, true)⟩, ⟨some 43, .idxA 6 (.t 41) (.t 42), some (39, true)⟩, ⟨some 44, .fldA 0 (.t 43), some (39, true)⟩, ⟨some 45, .ld 1 false (.t 44), some (39, true)⟩, ⟨some 46, .bin .eql (.t 45) (.c (.int .i64 1)), some (39, true)⟩, ⟨some 47, .pick (.t 39) (.t 46) (.c (.bool false)), some (36, false)⟩, o 48 (.pick (.t 36) (.c (.bool true)) (.t 47))]) (.cond (.t 48) (.seq (.reg [o 2 (.mv (.c (.int .i64 3)))]) .ret) .skip)) (.seq (.reg [o 49 (.fldA 0 (.t 1)), o 50 (.ld 1 false (.t 49)), o 51 (.mv (.t 4)), o 52 (.idxA 6 (.t 50) (.t 51)), o 53 (.ld 6 true (.t 52)), o 54 (.pcall 60 [.t 53]), o 5 (.mv (.t 54))]) (.seq (.reg [o 55 (.mv (.t 5)), o 56 (.bin .neq (.t 55) (.c (.int .i64 0)))]) (.cond (.t 56) (.seq (.reg [o 57 (.mv (.t 5)), o 2 (.mv (.t 57))]) .ret) .skip))))) (.reg [o 23 (.mv (.t 4)), o 24 (.bin .add (.t 23) (.c (.int .i64 1))), o 4 (.mv (.t 24))])))))) c20_s5)
def c20 : SFun := ⟨.seq (.reg [o 1 (.boxF 39 2 (.t 0)), o 2 (.mv (.c (.int .i64 0)))]) (.seq (.reg [o 13 (.fldA 0 (.t 1)), o 14 (.ld 1 false (.t 13)), o 15 (.len (.t 14)), o 3 (.mv (.t 15))]) (.seq (.seq (.reg [o 16 (.mv (.t 3)), o 17 (.bin .gtr (.t 16) (.c (.int .i64 200)))]) (.cond (.t 17) (.seq (.reg [o 2 (.mv (.c (.int .i64 2)))]) .ret) .skip)) (.seq (.seq (.reg [o 18 (.mv (.t 3)), o 19 (.bin .eql (.t 18) (.c (.int .i64 0)))]) (.cond (.t 19) (.seq (.reg [o 2 (.mv (.c (.int .i64 3)))]) .ret) .skip)) c20_s4))), [.tmp 2]⟩
theorem hc20 : X8 Tryz.prog {pure := [61, 60, 62, 63]} Tryz.f20 = some c20 := by kernel_rfl
theorem docErr_ok (d : HDoc) (sm : DocSm d) : PCalls (Pg G) 20 [.agg (J4 d)] (Y0 (docE d)) := fun h => by
 have hl := sm.len
 have s7 : X0 d = 0 \/ (fe d.nodes.length (kidsE d) = 0 /\ fe d.nodes.length (parE d) = 0) -> 0 < d.nodes.length -> ∀ e : Env, e 1 = .pin (J4 d) -> e 3 = Y0 d.nodes.length -> vc (Pg G) c20_s7 (retK [.tmp 2] fun r h' => r = Y0 (if X0 d ≠ 0 then X0 d else fe d.nodes.length (deepE d)) /\ h' = h) e h := by
  intro hk hp e he1 he3
  have e0 : nth d.nodes 0 = nd d 0 := rfl
  unfold c20_s7
  skip
  simp -dsimp -implicitDefEqProofs (disch := omega) only [↓Q0 27, ↓Q1 27, ↓Q0 36, ↓Q1 36, ↓Q0 39, ↓Q1 39, ↓Q0 88, ↓Q1 88, ↓Q0 98, ↓Q1 98, ↓Q0 113, ↓Q1 113, ↓Q0 135, ↓Q1 135, ↓Q0 141, ↓Q1 141, VCA, Z1, ↓Q3, Nat.reduceEqDiff, Nat.reduceBEq, Nat.reduceAdd, Nat.reduceSub, Nat.reduceMul, Nat.reduceLT, Nat.reduceLeDiff, ↓reduceIte, reduceCtorEq, Z7, Q6, SOp.rd, SI.rd, SX.rd, rdL, rdO, rdP, Q5, Q4, Q2, Q8, Q7, Z0, implies_true, forall_const, forall_eq, ne_eq, exists_eq_right_right, exists_eq_right, exists_eq_left, exists_eq_left', Q9, Z3, Z8, Z5, J4, Z6, Z4, he1, he3, J4, Z5]
  rw [e0]
  refine ⟨by omega, Br.ne (fun h1 => ?_) (fun h1 => ?_)⟩
  ·simp -dsimp -implicitDefEqProofs (disch := omega) only [↓Q0 27, ↓Q1 27, ↓Q0 36, ↓Q1 36, ↓Q0 39, ↓Q1 39, ↓Q0 88, ↓Q1 88, ↓Q0 98, ↓Q1 98, ↓Q0 113, ↓Q1 113, ↓Q0 135, ↓Q1 135, ↓Q0 141, ↓Q1 141, VCA, Z1, ↓Q3, Nat.reduceEqDiff, Nat.reduceBEq, Nat.reduceAdd, Nat.reduceSub, Nat.reduceMul, Nat.reduceLT, Nat.reduceLeDiff, ↓reduceIte, reduceCtorEq, Z7, Q6, SOp.rd, SI.rd, SX.rd, rdL, rdO, rdP, Q5, Q4, Q2, Q8, Q7, Z0, implies_true, forall_const, forall_eq, ne_eq, exists_eq_right_right, exists_eq_right, exists_eq_left, exists_eq_left', Q9, Z3, Z8, Z5, J4, Z6, Z4]
   have : X0 d = 3 := by
    rcases hk with hk | ⟨k1, k2⟩
    ·unfold X0 at hk
     split at hk
     ·contradiction
     ·split at hk
      ·contradiction
      ·first | omega | (rw [if_pos h1] at hk; omega)
    ·unfold X0; rw [if_neg (by rw [k1]; simp), if_neg (by rw [k2]; simp), if_pos h1]
   exact ⟨Sub.refl _, by rw [this]; rfl⟩
  ·have h0 : X0 d = 0 := by
    rcases hk with hk | ⟨k1, k2⟩
    ·exact hk
    ·unfold X0; rw [if_neg (by rw [k1]; simp), if_neg (by rw [k2]; simp), if_neg (by simpa using h1)]
   rw [h0, if_neg (by simp)]
   have hP := kids_par h0
   simp -dsimp -implicitDefEqProofs (disch := omega) only [↓Q0 27, ↓Q1 27, ↓Q0 36, ↓Q1 36, ↓Q0 39, ↓Q1 39, ↓Q0 88, ↓Q1 88, ↓Q0 98, ↓Q1 98, ↓Q0 113, ↓Q1 113, ↓Q0 135, ↓Q1 135, ↓Q0 141, ↓Q1 141, VCA, Z1, ↓Q3, Nat.reduceEqDiff, Nat.reduceBEq, Nat.reduceAdd, Nat.reduceSub, Nat.reduceMul, Nat.reduceLT, Nat.reduceLeDiff, ↓reduceIte, reduceCtorEq, Z7, Q6, SOp.rd, SI.rd, SX.rd, rdL, rdO, rdP, Q5, Q4, Q2, Q8, Q7, Z0, implies_true, forall_const, forall_eq, ne_eq, exists_eq_right_right, exists_eq_right, exists_eq_left, exists_eq_left', Q9, Z3, Z8, Z5, J4, Z6, Z4, he1, he3, J4]
   refine LoopVC.intro (fun m e h' => ∃ i : Nat, i <= d.nodes.length /\ m = d.nodes.length - i /\ e 1 = .pin (J4 d) /\ e 3 = Y0 d.nodes.length /\ e 11 = Y0 i /\ h' = h /\ ∀ j, j < i -> deepE d j = 0) d.nodes.length ⟨0, by omega, by omega, he1, he3, rfl, rfl, by omega⟩ ?_
   rintro m e h' ⟨i, hi, rfl, he1, he3, he11, rfl, hj⟩
   simp -dsimp -implicitDefEqProofs (disch := omega) only [↓Q0 27, ↓Q1 27, ↓Q0 36, ↓Q1 36, ↓Q0 39, ↓Q1 39, ↓Q0 88, ↓Q1 88, ↓Q0 98, ↓Q1 98, ↓Q0 113, ↓Q1 113, ↓Q0 135, ↓Q1 135, ↓Q0 141, ↓Q1 141, VCA, Z1, ↓Q3, Nat.reduceEqDiff, Nat.reduceBEq, Nat.reduceAdd, Nat.reduceSub, Nat.reduceMul, Nat.reduceLT, Nat.reduceLeDiff, ↓reduceIte, reduceCtorEq, Z7, Q6, SOp.rd, SI.rd, SX.rd, rdL, rdO, rdP, Q5, Q4, Q2, Q8, Q7, Z0, implies_true, forall_const, forall_eq, ne_eq, exists_eq_right_right, exists_eq_right, exists_eq_left, exists_eq_left', Q9, Z3, Z8, Z5, J4, Z6, Z4, he1, he3, he11]
   refine Br.dec (fun hlt => ?_) (fun hge => ?_)
   ·have hi' : i < d.nodes.length := by omega
    have hU : PCalls (Pg G) 63 [.agg [sl Z5 d.nodes, .bool d.quirks], Y0 i] (Y0 (deepM d i)) := deep_ok d sm hP i (inD_nat.2 hi')
    have bad : ∀ x : Int, x ≠ 0 -> deepE d i = x -> fe d.nodes.length (deepE d) = x := fun x hx he => by rw [fe_some hi' hj (by rw [he]; exact hx), he]
    have ddef : deepE d i = if d.nodes.length < up d i then 8 else if 40 < up d i then 2 else 0 := rfl
    have dm : deepM d i = if d.nodes.length < up d i then -1 else (up d i : Int) := rfl
    simp -dsimp -implicitDefEqProofs (disch := omega) only [↓Q0 27, ↓Q1 27, ↓Q0 36, ↓Q1 36, ↓Q0 39, ↓Q1 39, ↓Q0 88, ↓Q1 88, ↓Q0 98, ↓Q1 98, ↓Q0 113, ↓Q1 113, ↓Q0 135, ↓Q1 135, ↓Q0 141, ↓Q1 141, VCA, Z1, ↓Q3, Nat.reduceEqDiff, Nat.reduceBEq, Nat.reduceAdd, Nat.reduceSub, Nat.reduceMul, Nat.reduceLT, Nat.reduceLeDiff, ↓reduceIte, reduceCtorEq, Z7, Q6, SOp.rd, SI.rd, SX.rd, rdL, rdO, rdP, Q5, Q4, Q2, Q8, Q7, Z0, implies_true, forall_const, forall_eq, ne_eq, exists_eq_right_right, exists_eq_right, exists_eq_left, exists_eq_left', Q9, Z3, Z8, Z5, J4, Z6, Z4, he1, he3, he11, J4]
    repeat' (first | ((with_reducible refine brC (fun _ => ?_) fun _ => ?_) <;> try (exfalso; omega)) | (with_reducible apply pcallE.of; · exact hU) | (with_reducible refine And.intro ?_ ?_; · omega) | simp -dsimp -implicitDefEqProofs (disch := omega) only [↓Q0 27, ↓Q1 27, ↓Q0 36, ↓Q1 36, ↓Q0 39, ↓Q1 39, ↓Q0 88, ↓Q1 88, ↓Q0 98, ↓Q1 98, ↓Q0 113, ↓Q1 113, ↓Q0 135, ↓Q1 135, ↓Q0 141, ↓Q1 141, VCA, Z1, ↓Q3, Nat.reduceEqDiff, Nat.reduceBEq, Nat.reduceAdd, Nat.reduceSub, Nat.reduceMul, Nat.reduceLT, Nat.reduceLeDiff, ↓reduceIte, reduceCtorEq, Z7, Q6, SOp.rd, SI.rd, SX.rd, rdL, rdO, rdP, Q5, Q4, Q2, Q8, Q7, Z0, implies_true, forall_const, forall_eq, ne_eq, exists_eq_right_right, exists_eq_right, exists_eq_left, exists_eq_left', Q9, Z3, Z8, Z5, J4, Z6, Z4, he1, he3, he11, J4])
    ·rename_i q
     have : d.nodes.length < up d i := by rw [dm] at q; split at q <;> omega
     exact ⟨Sub.refl _, (bad 8 (by decide) (by rw [ddef, if_pos this])).symm⟩
    ·rename_i q1 q
     have : ¬ d.nodes.length < up d i := by rw [dm] at q1; split at q1 <;> omega
     rw [dm, if_neg this] at q
     exact ⟨Sub.refl _, (bad 2 (by decide) (by rw [ddef, if_neg this, if_pos (by omega)])).symm⟩
    ·rename_i q1 q
     have : ¬ d.nodes.length < up d i := by rw [dm] at q1; split at q1 <;> omega
     rw [dm, if_neg this] at q
     refine ⟨_, by omega, i + 1, by omega, rfl, by omega, fun j hj' => ?_⟩
     by_cases hji : j = i
     ·subst hji; rw [ddef, if_neg this, if_neg (by omega)]
     ·exact hj j (by omega)
   ·obtain rfl : i = d.nodes.length := by omega
    simp -dsimp -implicitDefEqProofs (disch := omega) only [↓Q0 27, ↓Q1 27, ↓Q0 36, ↓Q1 36, ↓Q0 39, ↓Q1 39, ↓Q0 88, ↓Q1 88, ↓Q0 98, ↓Q1 98, ↓Q0 113, ↓Q1 113, ↓Q0 135, ↓Q1 135, ↓Q0 141, ↓Q1 141, VCA, Z1, ↓Q3, Nat.reduceEqDiff, Nat.reduceBEq, Nat.reduceAdd, Nat.reduceSub, Nat.reduceMul, Nat.reduceLT, Nat.reduceLeDiff, ↓reduceIte, reduceCtorEq, Z7, Q6, SOp.rd, SI.rd, SX.rd, rdL, rdO, rdP, Q5, Q4, Q2, Q8, Q7, Z0, implies_true, forall_const, forall_eq, ne_eq, exists_eq_right_right, exists_eq_right, exists_eq_left, exists_eq_left', Q9, Z3, Z8, Z5, J4, Z6, Z4]
    exact ⟨Sub.refl _, (fe_none hj).symm⟩
 have s6 : fe d.nodes.length (kidsE d) = 0 -> 0 < d.nodes.length -> ∀ e : Env, e 1 = .pin (J4 d) -> e 3 = Y0 d.nodes.length -> vc (Pg G) c20_s6 (retK [.tmp 2] fun r h' => r = Y0 (if X0 d ≠ 0 then X0 d else fe d.nodes.length (deepE d)) /\ h' = h) e h := by
  intro hk hp e he1 he3
  unfold c20_s6
  skip
  simp -dsimp -implicitDefEqProofs (disch := omega) only [↓Q0 27, ↓Q1 27, ↓Q0 36, ↓Q1 36, ↓Q0 39, ↓Q1 39, ↓Q0 88, ↓Q1 88, ↓Q0 98, ↓Q1 98, ↓Q0 113, ↓Q1 113, ↓Q0 135, ↓Q1 135, ↓Q0 141, ↓Q1 141, VCA, Z1, ↓Q3, Nat.reduceEqDiff, Nat.reduceBEq, Nat.reduceAdd, Nat.reduceSub, Nat.reduceMul, Nat.reduceLT, Nat.reduceLeDiff, ↓reduceIte, reduceCtorEq, Z7, Q6, SOp.rd, SI.rd, SX.rd, rdL, rdO, rdP, Q5, Q4, Q2, Q8, Q7, Z0, implies_true, forall_const, forall_eq, ne_eq, exists_eq_right_right, exists_eq_right, exists_eq_left, exists_eq_left', Q9, Z3, Z8, Z5, J4, Z6, Z4, he1, he3]
  refine LoopVC.intro (fun m e h' => ∃ i : Nat, i <= d.nodes.length /\ m = d.nodes.length - i /\ e 1 = .pin (J4 d) /\ e 3 = Y0 d.nodes.length /\ e 9 = Y0 i /\ h' = h /\ ∀ j, j < i -> parE d j = 0) d.nodes.length ⟨0, by omega, by omega, he1, he3, rfl, rfl, by omega⟩ ?_
  rintro m e h' ⟨i, hi, rfl, he1, he3, he9, rfl, hj⟩
  simp -dsimp -implicitDefEqProofs (disch := omega) only [↓Q0 27, ↓Q1 27, ↓Q0 36, ↓Q1 36, ↓Q0 39, ↓Q1 39, ↓Q0 88, ↓Q1 88, ↓Q0 98, ↓Q1 98, ↓Q0 113, ↓Q1 113, ↓Q0 135, ↓Q1 135, ↓Q0 141, ↓Q1 141, VCA, Z1, ↓Q3, Nat.reduceEqDiff, Nat.reduceBEq, Nat.reduceAdd, Nat.reduceSub, Nat.reduceMul, Nat.reduceLT, Nat.reduceLeDiff, ↓reduceIte, reduceCtorEq, Z7, Q6, SOp.rd, SI.rd, SX.rd, rdL, rdO, rdP, Q5, Q4, Q2, Q8, Q7, Z0, implies_true, forall_const, forall_eq, ne_eq, exists_eq_right_right, exists_eq_right, exists_eq_left, exists_eq_left', Q9, Z3, Z8, Z5, J4, Z6, Z4, he1, he3, he9]
  refine Br.dec (fun hlt => ?_) (fun hge => ?_)
  ·have hi' : i < d.nodes.length := by omega
   have pdef : parE d i = if (nth d.nodes i).parent ≠ -1 /\ (¬ inD d (nth d.nodes i).parent \/ (i : Int) ∉ (nd d (nth d.nodes i).parent).kids) then 3 else 0 := rfl
   have bad : parE d i = 3 -> 3 = (if X0 d ≠ 0 then X0 d else fe d.nodes.length (deepE d)) := fun h3 => by
    have h2 : fe d.nodes.length (parE d) = 3 := by rw [fe_some hi' hj (by rw [h3]; decide), h3]
    have : X0 d = 3 := by unfold X0; rw [hk, if_neg (by simp), h2]; rfl
    rw [this]; rfl
   have ok0 : parE d i = 0 -> ∀ j, j < i + 1 -> parE d j = 0 := fun h0 j hj' => by
    by_cases hji : j = i
    ·subst hji; exact h0
    ·exact hj j (by omega)
   have hB := betw_ok (G := G) (nth d.nodes i).parent 0 ((d.nodes.length : Int) - 1)
   have inP : inD d (nth d.nodes i).parent ↔ (decide ((0 : Int) <= (nth d.nodes i).parent) && decide ((nth d.nodes i).parent <= (d.nodes.length : Int) - 1)) = true := by
    unfold inD; simp; omega
   have im := idx_mem (nd d (nth d.nodes i).parent).kids i
   have hPl := placeIn_ok (G := G) (nd d (nth d.nodes i).parent).kids i (sm.nd _).kids
   have en : nth d.nodes (nth d.nodes i).parent.toNat = nd d (nth d.nodes i).parent := rfl
   simp -dsimp -implicitDefEqProofs (disch := omega) only [↓Q0 27, ↓Q1 27, ↓Q0 36, ↓Q1 36, ↓Q0 39, ↓Q1 39, ↓Q0 88, ↓Q1 88, ↓Q0 98, ↓Q1 98, ↓Q0 113, ↓Q1 113, ↓Q0 135, ↓Q1 135, ↓Q0 141, ↓Q1 141, VCA, Z1, ↓Q3, Nat.reduceEqDiff, Nat.reduceBEq, Nat.reduceAdd, Nat.reduceSub, Nat.reduceMul, Nat.reduceLT, Nat.reduceLeDiff, ↓reduceIte, reduceCtorEq, Z7, Q6, SOp.rd, SI.rd, SX.rd, rdL, rdO, rdP, Q5, Q4, Q2, Q8, Q7, Z0, implies_true, forall_const, forall_eq, ne_eq, exists_eq_right_right, exists_eq_right, exists_eq_left, exists_eq_left', Q9, Z3, Z8, Z5, J4, Z6, Z4, he1, he3, he9, J4, Z5]
   refine ⟨by omega, Br.ne (fun h1 => ?_) (fun h1 => ?_)⟩
   ·simp -dsimp -implicitDefEqProofs (disch := omega) only [↓Q0 27, ↓Q1 27, ↓Q0 36, ↓Q1 36, ↓Q0 39, ↓Q1 39, ↓Q0 88, ↓Q1 88, ↓Q0 98, ↓Q1 98, ↓Q0 113, ↓Q1 113, ↓Q0 135, ↓Q1 135, ↓Q0 141, ↓Q1 141, VCA, Z1, ↓Q3, Nat.reduceEqDiff, Nat.reduceBEq, Nat.reduceAdd, Nat.reduceSub, Nat.reduceMul, Nat.reduceLT, Nat.reduceLeDiff, ↓reduceIte, reduceCtorEq, Z7, Q6, SOp.rd, SI.rd, SX.rd, rdL, rdO, rdP, Q5, Q4, Q2, Q8, Q7, Z0, implies_true, forall_const, forall_eq, ne_eq, exists_eq_right_right, exists_eq_right, exists_eq_left, exists_eq_left', Q9, Z3, Z8, Z5, J4, Z6, Z4, he1, he3, he9, J4, Z5]
    refine pcallE.of (hB) ?_; simp -dsimp -implicitDefEqProofs (disch := omega) only [↓Q0 27, ↓Q1 27, ↓Q0 36, ↓Q1 36, ↓Q0 39, ↓Q1 39, ↓Q0 88, ↓Q1 88, ↓Q0 98, ↓Q1 98, ↓Q0 113, ↓Q1 113, ↓Q0 135, ↓Q1 135, ↓Q0 141, ↓Q1 141, VCA, Z1, ↓Q3, Nat.reduceEqDiff, Nat.reduceBEq, Nat.reduceAdd, Nat.reduceSub, Nat.reduceMul, Nat.reduceLT, Nat.reduceLeDiff, ↓reduceIte, reduceCtorEq, Z7, Q6, SOp.rd, SI.rd, SX.rd, rdL, rdO, rdP, Q5, Q4, Q2, Q8, Q7, Z0, implies_true, forall_const, forall_eq, ne_eq, exists_eq_right_right, exists_eq_right, exists_eq_left, exists_eq_left', Q9, Z3, Z8, Z5, J4, Z6, Z4, he1, he3, he9, J4, Z5]
    cases hb : (decide ((0 : Int) <= (nth d.nodes i).parent) && decide ((nth d.nodes i).parent <= (d.nodes.length : Int) - 1))
    ·simp -dsimp -implicitDefEqProofs (disch := omega) only [↓Q0 27, ↓Q1 27, ↓Q0 36, ↓Q1 36, ↓Q0 39, ↓Q1 39, ↓Q0 88, ↓Q1 88, ↓Q0 98, ↓Q1 98, ↓Q0 113, ↓Q1 113, ↓Q0 135, ↓Q1 135, ↓Q0 141, ↓Q1 141, VCA, Z1, ↓Q3, Nat.reduceEqDiff, Nat.reduceBEq, Nat.reduceAdd, Nat.reduceSub, Nat.reduceMul, Nat.reduceLT, Nat.reduceLeDiff, ↓reduceIte, reduceCtorEq, Z7, Q6, SOp.rd, SI.rd, SX.rd, rdL, rdO, rdP, Q5, Q4, Q2, Q8, Q7, Z0, implies_true, forall_const, forall_eq, ne_eq, exists_eq_right_right, exists_eq_right, exists_eq_left, exists_eq_left', Q9, Z3, Z8, Z5, J4, Z6, Z4]
     exact ⟨Sub.refl _, bad (by rw [pdef, if_pos ⟨h1, .inl (by rw [inP, hb]; simp)⟩])⟩
    ·have hin := inP.2 hb
     have q1 := hin.1
     have q2 := hin.2
     simp -dsimp -implicitDefEqProofs (disch := omega) only [↓Q0 27, ↓Q1 27, ↓Q0 36, ↓Q1 36, ↓Q0 39, ↓Q1 39, ↓Q0 88, ↓Q1 88, ↓Q0 98, ↓Q1 98, ↓Q0 113, ↓Q1 113, ↓Q0 135, ↓Q1 135, ↓Q0 141, ↓Q1 141, VCA, Z1, ↓Q3, Nat.reduceEqDiff, Nat.reduceBEq, Nat.reduceAdd, Nat.reduceSub, Nat.reduceMul, Nat.reduceLT, Nat.reduceLeDiff, ↓reduceIte, reduceCtorEq, Z7, Q6, SOp.rd, SI.rd, SX.rd, rdL, rdO, rdP, Q5, Q4, Q2, Q8, Q7, Z0, implies_true, forall_const, forall_eq, ne_eq, exists_eq_right_right, exists_eq_right, exists_eq_left, exists_eq_left', Q9, Z3, Z8, Z5, J4, Z6, Z4, he1, he3, he9, J4, Z5]
     refine ⟨by omega, ?_⟩
     rw [en]
     refine pcallE.of (hPl) ?_; simp -dsimp -implicitDefEqProofs (disch := omega) only [↓Q0 27, ↓Q1 27, ↓Q0 36, ↓Q1 36, ↓Q0 39, ↓Q1 39, ↓Q0 88, ↓Q1 88, ↓Q0 98, ↓Q1 98, ↓Q0 113, ↓Q1 113, ↓Q0 135, ↓Q1 135, ↓Q0 141, ↓Q1 141, VCA, Z1, ↓Q3, Nat.reduceEqDiff, Nat.reduceBEq, Nat.reduceAdd, Nat.reduceSub, Nat.reduceMul, Nat.reduceLT, Nat.reduceLeDiff, ↓reduceIte, reduceCtorEq, Z7, Q6, SOp.rd, SI.rd, SX.rd, rdL, rdO, rdP, Q5, Q4, Q2, Q8, Q7, Z0, implies_true, forall_const, forall_eq, ne_eq, exists_eq_right_right, exists_eq_right, exists_eq_left, exists_eq_left', Q9, Z3, Z8, Z5, J4, Z6, Z4, he1, he3, he9, J4, Z5]
     refine Br.dec (fun h2 => ?_) (fun h2 => ?_)
     ·simp -dsimp -implicitDefEqProofs (disch := omega) only [↓Q0 27, ↓Q1 27, ↓Q0 36, ↓Q1 36, ↓Q0 39, ↓Q1 39, ↓Q0 88, ↓Q1 88, ↓Q0 98, ↓Q1 98, ↓Q0 113, ↓Q1 113, ↓Q0 135, ↓Q1 135, ↓Q0 141, ↓Q1 141, VCA, Z1, ↓Q3, Nat.reduceEqDiff, Nat.reduceBEq, Nat.reduceAdd, Nat.reduceSub, Nat.reduceMul, Nat.reduceLT, Nat.reduceLeDiff, ↓reduceIte, reduceCtorEq, Z7, Q6, SOp.rd, SI.rd, SX.rd, rdL, rdO, rdP, Q5, Q4, Q2, Q8, Q7, Z0, implies_true, forall_const, forall_eq, ne_eq, exists_eq_right_right, exists_eq_right, exists_eq_left, exists_eq_left', Q9, Z3, Z8, Z5, J4, Z6, Z4]
      exact ⟨Sub.refl _, bad (by rw [pdef, if_pos ⟨h1, .inr (fun hm => by have := im.2 hm; omega)⟩])⟩
     ·simp -dsimp -implicitDefEqProofs (disch := omega) only [↓Q0 27, ↓Q1 27, ↓Q0 36, ↓Q1 36, ↓Q0 39, ↓Q1 39, ↓Q0 88, ↓Q1 88, ↓Q0 98, ↓Q1 98, ↓Q0 113, ↓Q1 113, ↓Q0 135, ↓Q1 135, ↓Q0 141, ↓Q1 141, VCA, Z1, ↓Q3, Nat.reduceEqDiff, Nat.reduceBEq, Nat.reduceAdd, Nat.reduceSub, Nat.reduceMul, Nat.reduceLT, Nat.reduceLeDiff, ↓reduceIte, reduceCtorEq, Z7, Q6, SOp.rd, SI.rd, SX.rd, rdL, rdO, rdP, Q5, Q4, Q2, Q8, Q7, Z0, implies_true, forall_const, forall_eq, ne_eq, exists_eq_right_right, exists_eq_right, exists_eq_left, exists_eq_left', Q9, Z3, Z8, Z5, J4, Z6, Z4, he1, he3, he9]
      refine ⟨_, by omega, i + 1, by omega, rfl, by omega, ok0 ?_⟩
      rw [pdef, if_neg]
      rintro ⟨_, hh | hh⟩
      ·exact hh hin
      ·exact hh (im.1 (by omega))
   ·simp -dsimp -implicitDefEqProofs (disch := omega) only [↓Q0 27, ↓Q1 27, ↓Q0 36, ↓Q1 36, ↓Q0 39, ↓Q1 39, ↓Q0 88, ↓Q1 88, ↓Q0 98, ↓Q1 98, ↓Q0 113, ↓Q1 113, ↓Q0 135, ↓Q1 135, ↓Q0 141, ↓Q1 141, VCA, Z1, ↓Q3, Nat.reduceEqDiff, Nat.reduceBEq, Nat.reduceAdd, Nat.reduceSub, Nat.reduceMul, Nat.reduceLT, Nat.reduceLeDiff, ↓reduceIte, reduceCtorEq, Z7, Q6, SOp.rd, SI.rd, SX.rd, rdL, rdO, rdP, Q5, Q4, Q2, Q8, Q7, Z0, implies_true, forall_const, forall_eq, ne_eq, exists_eq_right_right, exists_eq_right, exists_eq_left, exists_eq_left', Q9, Z3, Z8, Z5, J4, Z6, Z4, he1, he3, he9]
    refine ⟨_, by omega, i + 1, by omega, rfl, by omega, ok0 ?_⟩
    rw [pdef, if_neg (fun hh => hh.1 h1)]
  ·obtain rfl : i = d.nodes.length := by omega
   simp -dsimp -implicitDefEqProofs (disch := omega) only [↓Q0 27, ↓Q1 27, ↓Q0 36, ↓Q1 36, ↓Q0 39, ↓Q1 39, ↓Q0 88, ↓Q1 88, ↓Q0 98, ↓Q1 98, ↓Q0 113, ↓Q1 113, ↓Q0 135, ↓Q1 135, ↓Q0 141, ↓Q1 141, VCA, Z1, ↓Q3, Nat.reduceEqDiff, Nat.reduceBEq, Nat.reduceAdd, Nat.reduceSub, Nat.reduceMul, Nat.reduceLT, Nat.reduceLeDiff, ↓reduceIte, reduceCtorEq, Z7, Q6, SOp.rd, SI.rd, SX.rd, rdL, rdO, rdP, Q5, Q4, Q2, Q8, Q7, Z0, implies_true, forall_const, forall_eq, ne_eq, exists_eq_right_right, exists_eq_right, exists_eq_left, exists_eq_left', Q9, Z3, Z8, Z5, J4, Z6, Z4]
   exact s7 (.inr ⟨hk, fe_none hj⟩) hp _ he1 he3
 have s5 : 0 < d.nodes.length -> ∀ e : Env, e 1 = .pin (J4 d) -> e 3 = Y0 d.nodes.length -> vc (Pg G) c20_s5 (retK [.tmp 2] fun r h' => r = Y0 (if X0 d ≠ 0 then X0 d else fe d.nodes.length (deepE d)) /\ h' = h) e h := by
  intro hp e he1 he3
  unfold c20_s5
  skip
  simp -dsimp -implicitDefEqProofs (disch := omega) only [↓Q0 27, ↓Q1 27, ↓Q0 36, ↓Q1 36, ↓Q0 39, ↓Q1 39, ↓Q0 88, ↓Q1 88, ↓Q0 98, ↓Q1 98, ↓Q0 113, ↓Q1 113, ↓Q0 135, ↓Q1 135, ↓Q0 141, ↓Q1 141, VCA, Z1, ↓Q3, Nat.reduceEqDiff, Nat.reduceBEq, Nat.reduceAdd, Nat.reduceSub, Nat.reduceMul, Nat.reduceLT, Nat.reduceLeDiff, ↓reduceIte, reduceCtorEq, Z7, Q6, SOp.rd, SI.rd, SX.rd, rdL, rdO, rdP, Q5, Q4, Q2, Q8, Q7, Z0, implies_true, forall_const, forall_eq, ne_eq, exists_eq_right_right, exists_eq_right, exists_eq_left, exists_eq_left', Q9, Z3, Z8, Z5, J4, Z6, Z4, he1, he3]
  refine LoopVC.intro (fun m e h' => ∃ i : Nat, i <= d.nodes.length /\ m = d.nodes.length - i /\ e 1 = .pin (J4 d) /\ e 3 = Y0 d.nodes.length /\ e 6 = Y0 i /\ h' = h /\ ∀ j, j < i -> kidsE d j = 0) d.nodes.length ⟨0, by omega, by omega, he1, he3, rfl, rfl, by omega⟩ ?_
  rintro m e h' ⟨i, hi, rfl, he1, he3, he6, rfl, hj⟩
  simp -dsimp -implicitDefEqProofs (disch := omega) only [↓Q0 27, ↓Q1 27, ↓Q0 36, ↓Q1 36, ↓Q0 39, ↓Q1 39, ↓Q0 88, ↓Q1 88, ↓Q0 98, ↓Q1 98, ↓Q0 113, ↓Q1 113, ↓Q0 135, ↓Q1 135, ↓Q0 141, ↓Q1 141, VCA, Z1, ↓Q3, Nat.reduceEqDiff, Nat.reduceBEq, Nat.reduceAdd, Nat.reduceSub, Nat.reduceMul, Nat.reduceLT, Nat.reduceLeDiff, ↓reduceIte, reduceCtorEq, Z7, Q6, SOp.rd, SI.rd, SX.rd, rdL, rdO, rdP, Q5, Q4, Q2, Q8, Q7, Z0, implies_true, forall_const, forall_eq, ne_eq, exists_eq_right_right, exists_eq_right, exists_eq_left, exists_eq_left', Q9, Z3, Z8, Z5, J4, Z6, Z4, he1, he3, he6]
  refine Br.dec (fun hlt => ?_) (fun hge => ?_)
  ·have hi' : i < d.nodes.length := by omega
   have kl := (sm.nth i).kids
   simp -dsimp -implicitDefEqProofs (disch := omega) only [↓Q0 27, ↓Q1 27, ↓Q0 36, ↓Q1 36, ↓Q0 39, ↓Q1 39, ↓Q0 88, ↓Q1 88, ↓Q0 98, ↓Q1 98, ↓Q0 113, ↓Q1 113, ↓Q0 135, ↓Q1 135, ↓Q0 141, ↓Q1 141, VCA, Z1, ↓Q3, Nat.reduceEqDiff, Nat.reduceBEq, Nat.reduceAdd, Nat.reduceSub, Nat.reduceMul, Nat.reduceLT, Nat.reduceLeDiff, ↓reduceIte, reduceCtorEq, Z7, Q6, SOp.rd, SI.rd, SX.rd, rdL, rdO, rdP, Q5, Q4, Q2, Q8, Q7, Z0, implies_true, forall_const, forall_eq, ne_eq, exists_eq_right_right, exists_eq_right, exists_eq_left, exists_eq_left', Q9, Z3, Z8, Z5, J4, Z6, Z4, he1, he3, he6]
   refine LoopVC.intro (fun m e h2 => ∃ k : Nat, k <= (nth d.nodes i).kids.length /\ m = (nth d.nodes i).kids.length - k /\ e 1 = .pin (J4 d) /\ e 3 = Y0 d.nodes.length /\ e 6 = Y0 i /\ e 7 = Y0 k /\ h2 = h' /\ ∀ j, j < k -> kidE d i j = 0) (nth d.nodes i).kids.length ⟨0, by omega, by omega, he1, he3, he6, rfl, rfl, by omega⟩ ?_
   rintro m e h2 ⟨k, hk, rfl, he1, he3, he6, he7, rfl, hk0⟩
   simp -dsimp -implicitDefEqProofs (disch := omega) only [↓Q0 27, ↓Q1 27, ↓Q0 36, ↓Q1 36, ↓Q0 39, ↓Q1 39, ↓Q0 88, ↓Q1 88, ↓Q0 98, ↓Q1 98, ↓Q0 113, ↓Q1 113, ↓Q0 135, ↓Q1 135, ↓Q0 141, ↓Q1 141, VCA, Z1, ↓Q3, Nat.reduceEqDiff, Nat.reduceBEq, Nat.reduceAdd, Nat.reduceSub, Nat.reduceMul, Nat.reduceLT, Nat.reduceLeDiff, ↓reduceIte, reduceCtorEq, Z7, Q6, SOp.rd, SI.rd, SX.rd, rdL, rdO, rdP, Q5, Q4, Q2, Q8, Q7, Z0, implies_true, forall_const, forall_eq, ne_eq, exists_eq_right_right, exists_eq_right, exists_eq_left, exists_eq_left', Q9, Z3, Z8, Z5, J4, Z6, Z4, he1, he3, he6, he7, J4, Z5]
   refine ⟨by omega, ?_⟩
   refine Br.dec (fun hlt => ?_) (fun hge => ?_)
   ·have hk' : k < (nth d.nodes i).kids.length := by omega
    have bad : ∀ x : Int, x ≠ 0 -> kidE d i k = x -> x = (if X0 d ≠ 0 then X0 d else fe d.nodes.length (deepE d)) := fun x hx he => by
     have h1 : kidsE d i = x := by unfold kidsE; rw [fe_some hk' hk0 (by rw [he]; exact hx), he]
     have h2 : fe d.nodes.length (kidsE d) = x := by rw [fe_some hi' hj (by rw [h1]; exact hx), h1]
     have h3 : X0 d = x := by unfold X0; rw [h2, if_pos hx]
     rw [h3, if_pos hx]
    have kdef : kidE d i k = if ¬ inD d (nth (nth d.nodes i).kids k) \/ (nd d (nth (nth d.nodes i).kids k)).parent ≠ i \/ nth (nth d.nodes i).kids k ∈ (nth d.nodes i).kids.take k then 3 else if i = 0 /\ (nd d (nth (nth d.nodes i).kids k)).kind = 3 then 7 else 0 := rfl
    have ok0 : ∀ j, kidE d i k = 0 -> j < k + 1 -> kidE d i j = 0 := fun j h0 hj' => by
     by_cases hjk : j = k
     ·subst hjk; exact h0
     ·exact hk0 j (by omega)
    have hB := betw_ok (G := G) (nth (nth d.nodes i).kids k) 0 ((d.nodes.length : Int) - 1)
    have inP : inD d (nth (nth d.nodes i).kids k) ↔ (decide ((0 : Int) <= nth (nth d.nodes i).kids k) && decide (nth (nth d.nodes i).kids k <= (d.nodes.length : Int) - 1)) = true := by
     unfold inD; simp; omega
    have im := idx_mem ((nth d.nodes i).kids.take k) (nth (nth d.nodes i).kids k)
    have e2 : (nth d.nodes i).kids.take (Int.toNat (k : Int)) = (nth d.nodes i).kids.take k := by simp
    have hPl := placeIn_ok (G := G) ((nth d.nodes i).kids.take k) (nth (nth d.nodes i).kids k) (by simp; omega)
    have en : nth d.nodes (nth (nth d.nodes i).kids k).toNat = nd d (nth (nth d.nodes i).kids k) := rfl
    simp -dsimp -implicitDefEqProofs (disch := omega) only [↓Q0 27, ↓Q1 27, ↓Q0 36, ↓Q1 36, ↓Q0 39, ↓Q1 39, ↓Q0 88, ↓Q1 88, ↓Q0 98, ↓Q1 98, ↓Q0 113, ↓Q1 113, ↓Q0 135, ↓Q1 135, ↓Q0 141, ↓Q1 141, VCA, Z1, ↓Q3, Nat.reduceEqDiff, Nat.reduceBEq, Nat.reduceAdd, Nat.reduceSub, Nat.reduceMul, Nat.reduceLT, Nat.reduceLeDiff, ↓reduceIte, reduceCtorEq, Z7, Q6, SOp.rd, SI.rd, SX.rd, rdL, rdO, rdP, Q5, Q4, Q2, Q8, Q7, Z0, implies_true, forall_const, forall_eq, ne_eq, exists_eq_right_right, exists_eq_right, exists_eq_left, exists_eq_left', Q9, Z3, Z8, Z5, J4, Z6, Z4, he1, he3, he6, he7, J4, Z5]
    refine ⟨by omega, by omega, ?_⟩
    refine pcallE.of (hB) ?_; simp -dsimp -implicitDefEqProofs (disch := omega) only [↓Q0 27, ↓Q1 27, ↓Q0 36, ↓Q1 36, ↓Q0 39, ↓Q1 39, ↓Q0 88, ↓Q1 88, ↓Q0 98, ↓Q1 98, ↓Q0 113, ↓Q1 113, ↓Q0 135, ↓Q1 135, ↓Q0 141, ↓Q1 141, VCA, Z1, ↓Q3, Nat.reduceEqDiff, Nat.reduceBEq, Nat.reduceAdd, Nat.reduceSub, Nat.reduceMul, Nat.reduceLT, Nat.reduceLeDiff, ↓reduceIte, reduceCtorEq, Z7, Q6, SOp.rd, SI.rd, SX.rd, rdL, rdO, rdP, Q5, Q4, Q2, Q8, Q7, Z0, implies_true, forall_const, forall_eq, ne_eq, exists_eq_right_right, exists_eq_right, exists_eq_left, exists_eq_left', Q9, Z3, Z8, Z5, J4, Z6, Z4, he1, he3, he6, he7, J4, Z5]
    cases hb : (decide ((0 : Int) <= nth (nth d.nodes i).kids k) && decide (nth (nth d.nodes i).kids k <= (d.nodes.length : Int) - 1))
    ·simp -dsimp -implicitDefEqProofs (disch := omega) only [↓Q0 27, ↓Q1 27, ↓Q0 36, ↓Q1 36, ↓Q0 39, ↓Q1 39, ↓Q0 88, ↓Q1 88, ↓Q0 98, ↓Q1 98, ↓Q0 113, ↓Q1 113, ↓Q0 135, ↓Q1 135, ↓Q0 141, ↓Q1 141, VCA, Z1, ↓Q3, Nat.reduceEqDiff, Nat.reduceBEq, Nat.reduceAdd, Nat.reduceSub, Nat.reduceMul, Nat.reduceLT, Nat.reduceLeDiff, ↓reduceIte, reduceCtorEq, Z7, Q6, SOp.rd, SI.rd, SX.rd, rdL, rdO, rdP, Q5, Q4, Q2, Q8, Q7, Z0, implies_true, forall_const, forall_eq, ne_eq, exists_eq_right_right, exists_eq_right, exists_eq_left, exists_eq_left', Q9, Z3, Z8, Z5, J4, Z6, Z4]
     exact ⟨Sub.refl _, bad 3 (by decide) (by rw [kdef, if_pos (.inl (by rw [inP, hb]; simp))])⟩
    ·have hin := inP.2 hb
     have q1 := hin.1
     have q2 := hin.2
     simp -dsimp -implicitDefEqProofs (disch := omega) only [↓Q0 27, ↓Q1 27, ↓Q0 36, ↓Q1 36, ↓Q0 39, ↓Q1 39, ↓Q0 88, ↓Q1 88, ↓Q0 98, ↓Q1 98, ↓Q0 113, ↓Q1 113, ↓Q0 135, ↓Q1 135, ↓Q0 141, ↓Q1 141, VCA, Z1, ↓Q3, Nat.reduceEqDiff, Nat.reduceBEq, Nat.reduceAdd, Nat.reduceSub, Nat.reduceMul, Nat.reduceLT, Nat.reduceLeDiff, ↓reduceIte, reduceCtorEq, Z7, Q6, SOp.rd, SI.rd, SX.rd, rdL, rdO, rdP, Q5, Q4, Q2, Q8, Q7, Z0, implies_true, forall_const, forall_eq, ne_eq, exists_eq_right_right, exists_eq_right, exists_eq_left, exists_eq_left', Q9, Z3, Z8, Z5, J4, Z6, Z4, he1, he3, he6, he7, J4, Z5]
     refine ⟨by omega, ?_⟩
     rw [en]
     refine Br.ne (fun h1 => ?_) (fun h1 => ?_)
     ·simp -dsimp -implicitDefEqProofs (disch := omega) only [↓Q0 27, ↓Q1 27, ↓Q0 36, ↓Q1 36, ↓Q0 39, ↓Q1 39, ↓Q0 88, ↓Q1 88, ↓Q0 98, ↓Q1 98, ↓Q0 113, ↓Q1 113, ↓Q0 135, ↓Q1 135, ↓Q0 141, ↓Q1 141, VCA, Z1, ↓Q3, Nat.reduceEqDiff, Nat.reduceBEq, Nat.reduceAdd, Nat.reduceSub, Nat.reduceMul, Nat.reduceLT, Nat.reduceLeDiff, ↓reduceIte, reduceCtorEq, Z7, Q6, SOp.rd, SI.rd, SX.rd, rdL, rdO, rdP, Q5, Q4, Q2, Q8, Q7, Z0, implies_true, forall_const, forall_eq, ne_eq, exists_eq_right_right, exists_eq_right, exists_eq_left, exists_eq_left', Q9, Z3, Z8, Z5, J4, Z6, Z4]
      exact ⟨Sub.refl _, bad 3 (by decide) (by rw [kdef, if_pos (.inr (.inl h1))])⟩
     ·simp -dsimp -implicitDefEqProofs (disch := omega) only [↓Q0 27, ↓Q1 27, ↓Q0 36, ↓Q1 36, ↓Q0 39, ↓Q1 39, ↓Q0 88, ↓Q1 88, ↓Q0 98, ↓Q1 98, ↓Q0 113, ↓Q1 113, ↓Q0 135, ↓Q1 135, ↓Q0 141, ↓Q1 141, VCA, Z1, ↓Q3, Nat.reduceEqDiff, Nat.reduceBEq, Nat.reduceAdd, Nat.reduceSub, Nat.reduceMul, Nat.reduceLT, Nat.reduceLeDiff, ↓reduceIte, reduceCtorEq, Z7, Q6, SOp.rd, SI.rd, SX.rd, rdL, rdO, rdP, Q5, Q4, Q2, Q8, Q7, Z0, implies_true, forall_const, forall_eq, ne_eq, exists_eq_right_right, exists_eq_right, exists_eq_left, exists_eq_left', Q9, Z3, Z8, Z5, J4, Z6, Z4, he1, he3, he6, he7, J4, Z5]
      refine ⟨by omega, by omega, ?_⟩
      refine pcallE.of (hPl) ?_; simp -dsimp -implicitDefEqProofs (disch := omega) only [↓Q0 27, ↓Q1 27, ↓Q0 36, ↓Q1 36, ↓Q0 39, ↓Q1 39, ↓Q0 88, ↓Q1 88, ↓Q0 98, ↓Q1 98, ↓Q0 113, ↓Q1 113, ↓Q0 135, ↓Q1 135, ↓Q0 141, ↓Q1 141, VCA, Z1, ↓Q3, Nat.reduceEqDiff, Nat.reduceBEq, Nat.reduceAdd, Nat.reduceSub, Nat.reduceMul, Nat.reduceLT, Nat.reduceLeDiff, ↓reduceIte, reduceCtorEq, Z7, Q6, SOp.rd, SI.rd, SX.rd, rdL, rdO, rdP, Q5, Q4, Q2, Q8, Q7, Z0, implies_true, forall_const, forall_eq, ne_eq, exists_eq_right_right, exists_eq_right, exists_eq_left, exists_eq_left', Q9, Z3, Z8, Z5, J4, Z6, Z4, he1, he3, he6, he7, J4, Z5]
      refine Br.dec (fun h2 => ?_) (fun h2 => ?_)
      ·simp -dsimp -implicitDefEqProofs (disch := omega) only [↓Q0 27, ↓Q1 27, ↓Q0 36, ↓Q1 36, ↓Q0 39, ↓Q1 39, ↓Q0 88, ↓Q1 88, ↓Q0 98, ↓Q1 98, ↓Q0 113, ↓Q1 113, ↓Q0 135, ↓Q1 135, ↓Q0 141, ↓Q1 141, VCA, Z1, ↓Q3, Nat.reduceEqDiff, Nat.reduceBEq, Nat.reduceAdd, Nat.reduceSub, Nat.reduceMul, Nat.reduceLT, Nat.reduceLeDiff, ↓reduceIte, reduceCtorEq, Z7, Q6, SOp.rd, SI.rd, SX.rd, rdL, rdO, rdP, Q5, Q4, Q2, Q8, Q7, Z0, implies_true, forall_const, forall_eq, ne_eq, exists_eq_right_right, exists_eq_right, exists_eq_left, exists_eq_left', Q9, Z3, Z8, Z5, J4, Z6, Z4]
       exact ⟨Sub.refl _, bad 3 (by decide) (by rw [kdef, if_pos (.inr (.inr (im.1 h2)))])⟩
      ·have hno : ¬ (¬ inD d (nth (nth d.nodes i).kids k) \/ (nd d (nth (nth d.nodes i).kids k)).parent ≠ i \/ nth (nth d.nodes i).kids k ∈ (nth d.nodes i).kids.take k) := by
        rintro (hh | hh | hh)
        ·exact hh hin
        ·exact hh h1
        ·exact h2 (im.2 hh)
       have e0 : ∀ h0 : i = 0, nth d.nodes (nth (nth d.nodes i).kids k).toNat = nd d (nth (nth d.nodes i).kids k) := fun _ => rfl
       simp -dsimp -implicitDefEqProofs (disch := omega) only [↓Q0 27, ↓Q1 27, ↓Q0 36, ↓Q1 36, ↓Q0 39, ↓Q1 39, ↓Q0 88, ↓Q1 88, ↓Q0 98, ↓Q1 98, ↓Q0 113, ↓Q1 113, ↓Q0 135, ↓Q1 135, ↓Q0 141, ↓Q1 141, VCA, Z1, ↓Q3, Nat.reduceEqDiff, Nat.reduceBEq, Nat.reduceAdd, Nat.reduceSub, Nat.reduceMul, Nat.reduceLT, Nat.reduceLeDiff, ↓reduceIte, reduceCtorEq, Z7, Q6, SOp.rd, SI.rd, SX.rd, rdL, rdO, rdP, Q5, Q4, Q2, Q8, Q7, Z0, implies_true, forall_const, forall_eq, ne_eq, exists_eq_right_right, exists_eq_right, exists_eq_left, exists_eq_left', Q9, Z3, Z8, Z5, J4, Z6, Z4, he1, he3, he6, he7, J4, Z5]
       repeat' (first | ((with_reducible refine brC (fun _ => ?_) fun _ => ?_) <;> try (exfalso; omega)) | (with_reducible refine And.intro ?_ ?_; · omega) | simp -dsimp -implicitDefEqProofs (disch := omega) only [↓Q0 27, ↓Q1 27, ↓Q0 36, ↓Q1 36, ↓Q0 39, ↓Q1 39, ↓Q0 88, ↓Q1 88, ↓Q0 98, ↓Q1 98, ↓Q0 113, ↓Q1 113, ↓Q0 135, ↓Q1 135, ↓Q0 141, ↓Q1 141, VCA, Z1, ↓Q3, Nat.reduceEqDiff, Nat.reduceBEq, Nat.reduceAdd, Nat.reduceSub, Nat.reduceMul, Nat.reduceLT, Nat.reduceLeDiff, ↓reduceIte, reduceCtorEq, Z7, Q6, SOp.rd, SI.rd, SX.rd, rdL, rdO, rdP, Q5, Q4, Q2, Q8, Q7, Z0, implies_true, forall_const, forall_eq, ne_eq, exists_eq_right_right, exists_eq_right, exists_eq_left, exists_eq_left', Q9, Z3, Z8, Z5, J4, Z6, Z4, he1, he3, he6, he7, J4, Z5])
       ·rename_i g1 g2
        exact ⟨Sub.refl _, bad 7 (by decide) (by rw [kdef, if_neg hno, if_pos ⟨by omega, g2⟩])⟩
       ·rename_i g1 g2
        exact ⟨_, by omega, k + 1, by omega, rfl, by omega, fun j => ok0 j (by rw [kdef, if_neg hno, if_neg (fun hh => g2 hh.2)])⟩
       ·rename_i g1
        exact ⟨_, by omega, k + 1, by omega, rfl, by omega, fun j => ok0 j (by rw [kdef, if_neg hno, if_neg (fun hh => g1 (by omega))])⟩
   ·obtain rfl : k = (nth d.nodes i).kids.length := by omega
    simp -dsimp -implicitDefEqProofs (disch := omega) only [↓Q0 27, ↓Q1 27, ↓Q0 36, ↓Q1 36, ↓Q0 39, ↓Q1 39, ↓Q0 88, ↓Q1 88, ↓Q0 98, ↓Q1 98, ↓Q0 113, ↓Q1 113, ↓Q0 135, ↓Q1 135, ↓Q0 141, ↓Q1 141, VCA, Z1, ↓Q3, Nat.reduceEqDiff, Nat.reduceBEq, Nat.reduceAdd, Nat.reduceSub, Nat.reduceMul, Nat.reduceLT, Nat.reduceLeDiff, ↓reduceIte, reduceCtorEq, Z7, Q6, SOp.rd, SI.rd, SX.rd, rdL, rdO, rdP, Q5, Q4, Q2, Q8, Q7, Z0, implies_true, forall_const, forall_eq, ne_eq, exists_eq_right_right, exists_eq_right, exists_eq_left, exists_eq_left', Q9, Z3, Z8, Z5, J4, Z6, Z4, he1, he3, he6]
    refine ⟨_, by omega, i + 1, by omega, rfl, by omega, fun j hj' => ?_⟩
    by_cases hji : j = i
    ·subst hji; exact fe_none hk0
    ·exact hj j (by omega)
  ·obtain rfl : i = d.nodes.length := by omega
   simp -dsimp -implicitDefEqProofs (disch := omega) only [↓Q0 27, ↓Q1 27, ↓Q0 36, ↓Q1 36, ↓Q0 39, ↓Q1 39, ↓Q0 88, ↓Q1 88, ↓Q0 98, ↓Q1 98, ↓Q0 113, ↓Q1 113, ↓Q0 135, ↓Q1 135, ↓Q0 141, ↓Q1 141, VCA, Z1, ↓Q3, Nat.reduceEqDiff, Nat.reduceBEq, Nat.reduceAdd, Nat.reduceSub, Nat.reduceMul, Nat.reduceLT, Nat.reduceLeDiff, ↓reduceIte, reduceCtorEq, Z7, Q6, SOp.rd, SI.rd, SX.rd, rdL, rdO, rdP, Q5, Q4, Q2, Q8, Q7, Z0, implies_true, forall_const, forall_eq, ne_eq, exists_eq_right_right, exists_eq_right, exists_eq_left, exists_eq_left', Q9, Z3, Z8, Z5, J4, Z6, Z4]
   exact s6 (fe_none hj) hp _ he1 he3
 have s4 : 0 < d.nodes.length -> ∀ e : Env, e 1 = .pin (J4 d) -> e 3 = Y0 d.nodes.length -> vc (Pg G) c20_s4 (retK [.tmp 2] fun r h' => r = Y0 (if fe d.nodes.length (headE d) ≠ 0 then fe d.nodes.length (headE d) else if X0 d ≠ 0 then X0 d else fe d.nodes.length (deepE d)) /\ h' = h) e h := by
  intro hp e he1 he3
  unfold c20_s4
  skip
  simp -dsimp -implicitDefEqProofs (disch := omega) only [↓Q0 27, ↓Q1 27, ↓Q0 36, ↓Q1 36, ↓Q0 39, ↓Q1 39, ↓Q0 88, ↓Q1 88, ↓Q0 98, ↓Q1 98, ↓Q0 113, ↓Q1 113, ↓Q0 135, ↓Q1 135, ↓Q0 141, ↓Q1 141, VCA, Z1, ↓Q3, Nat.reduceEqDiff, Nat.reduceBEq, Nat.reduceAdd, Nat.reduceSub, Nat.reduceMul, Nat.reduceLT, Nat.reduceLeDiff, ↓reduceIte, reduceCtorEq, Z7, Q6, SOp.rd, SI.rd, SX.rd, rdL, rdO, rdP, Q5, Q4, Q2, Q8, Q7, Z0, implies_true, forall_const, forall_eq, ne_eq, exists_eq_right_right, exists_eq_right, exists_eq_left, exists_eq_left', Q9, Z3, Z8, Z5, J4, Z6, Z4, he1, he3]
  refine LoopVC.intro (fun m e h' => ∃ i : Nat, i <= d.nodes.length /\ m = d.nodes.length - i /\ e 1 = .pin (J4 d) /\ e 3 = Y0 d.nodes.length /\ e 4 = Y0 i /\ h' = h /\ ∀ j, j < i -> headE d j = 0) d.nodes.length ⟨0, by omega, by omega, he1, he3, rfl, rfl, by omega⟩ ?_
  rintro m e h' ⟨i, hi, rfl, he1, he3, he4, rfl, hj⟩
  simp -dsimp -implicitDefEqProofs (disch := omega) only [↓Q0 27, ↓Q1 27, ↓Q0 36, ↓Q1 36, ↓Q0 39, ↓Q1 39, ↓Q0 88, ↓Q1 88, ↓Q0 98, ↓Q1 98, ↓Q0 113, ↓Q1 113, ↓Q0 135, ↓Q1 135, ↓Q0 141, ↓Q1 141, VCA, Z1, ↓Q3, Nat.reduceEqDiff, Nat.reduceBEq, Nat.reduceAdd, Nat.reduceSub, Nat.reduceMul, Nat.reduceLT, Nat.reduceLeDiff, ↓reduceIte, reduceCtorEq, Z7, Q6, SOp.rd, SI.rd, SX.rd, rdL, rdO, rdP, Q5, Q4, Q2, Q8, Q7, Z0, implies_true, forall_const, forall_eq, ne_eq, exists_eq_right_right, exists_eq_right, exists_eq_left, exists_eq_left', Q9, Z3, Z8, Z5, J4, Z6, Z4, he1, he3, he4]
  refine Br.dec (fun hlt => ?_) (fun hge => ?_)
  ·have hi' : i < d.nodes.length := by omega
   have hdef : headE d i = if ¬ ((nth d.nodes i).kind = 1 ↔ i = 0) then 3 else nodeE (nth d.nodes i) := rfl
   have bad : ∀ x : Int, x ≠ 0 -> headE d i = x -> x = (if fe d.nodes.length (headE d) ≠ 0 then fe d.nodes.length (headE d) else if X0 d ≠ 0 then X0 d else fe d.nodes.length (deepE d)) := fun x hx he => by
    have : fe d.nodes.length (headE d) = x := by rw [fe_some hi' hj (by rw [he]; exact hx), he]
    rw [this, if_pos hx]
   have ok0 : headE d i = 0 -> ∀ j, j < i + 1 -> headE d j = 0 := fun h0 j hj' => by
    by_cases hji : j = i
    ·subst hji; exact h0
    ·exact hj j (by omega)
   have hO : PCalls (Pg G) 60 [.agg [Y0 (nth d.nodes i).kind, .str (nth d.nodes i).name, sl Z3 (nth d.nodes i).attrs, .str (nth d.nodes i).text, Y0 (nth d.nodes i).parent, sl Z8 (nth d.nodes i).kids]] (Y0 (nodeE (nth d.nodes i))) := nodeErr_ok _ (sm.nth i)
   simp -dsimp -implicitDefEqProofs (disch := omega) only [↓Q0 27, ↓Q1 27, ↓Q0 36, ↓Q1 36, ↓Q0 39, ↓Q1 39, ↓Q0 88, ↓Q1 88, ↓Q0 98, ↓Q1 98, ↓Q0 113, ↓Q1 113, ↓Q0 135, ↓Q1 135, ↓Q0 141, ↓Q1 141, VCA, Z1, ↓Q3, Nat.reduceEqDiff, Nat.reduceBEq, Nat.reduceAdd, Nat.reduceSub, Nat.reduceMul, Nat.reduceLT, Nat.reduceLeDiff, ↓reduceIte, reduceCtorEq, Z7, Q6, SOp.rd, SI.rd, SX.rd, rdL, rdO, rdP, Q5, Q4, Q2, Q8, Q7, Z0, implies_true, forall_const, forall_eq, ne_eq, exists_eq_right_right, exists_eq_right, exists_eq_left, exists_eq_left', Q9, Z3, Z8, Z5, J4, Z6, Z4, he1, he3, he4, J4, Z5]
   repeat' (first | ((with_reducible refine brC (fun _ => ?_) fun _ => ?_) <;> try (exfalso; omega)) | (with_reducible apply pcallE.of; · exact hO) | (with_reducible refine And.intro ?_ ?_; · omega) | simp -dsimp -implicitDefEqProofs (disch := omega) only [↓Q0 27, ↓Q1 27, ↓Q0 36, ↓Q1 36, ↓Q0 39, ↓Q1 39, ↓Q0 88, ↓Q1 88, ↓Q0 98, ↓Q1 98, ↓Q0 113, ↓Q1 113, ↓Q0 135, ↓Q1 135, ↓Q0 141, ↓Q1 141, VCA, Z1, ↓Q3, Nat.reduceEqDiff, Nat.reduceBEq, Nat.reduceAdd, Nat.reduceSub, Nat.reduceMul, Nat.reduceLT, Nat.reduceLeDiff, ↓reduceIte, reduceCtorEq, Z7, Q6, SOp.rd, SI.rd, SX.rd, rdL, rdO, rdP, Q5, Q4, Q2, Q8, Q7, Z0, implies_true, forall_const, forall_eq, ne_eq, exists_eq_right_right, exists_eq_right, exists_eq_left, exists_eq_left', Q9, Z3, Z8, Z5, J4, Z6, Z4, he1, he3, he4, J4, Z5])
   all_goals first
    | exact ⟨Sub.refl _, bad 3 (by decide) (by rw [hdef, if_pos (by omega)])⟩
    | (rename_i q; exact ⟨Sub.refl _, bad _ q (by rw [hdef, if_neg (by omega)])⟩)
    | (rename_i q; exact ⟨_, by omega, i + 1, by omega, rfl, by omega, ok0 (by rw [hdef, if_neg (by omega), q])⟩)
  ·obtain rfl : i = d.nodes.length := by omega
   rw [fe_none hj, if_neg (by simp)]
   simp -dsimp -implicitDefEqProofs (disch := omega) only [↓Q0 27, ↓Q1 27, ↓Q0 36, ↓Q1 36, ↓Q0 39, ↓Q1 39, ↓Q0 88, ↓Q1 88, ↓Q0 98, ↓Q1 98, ↓Q0 113, ↓Q1 113, ↓Q0 135, ↓Q1 135, ↓Q0 141, ↓Q1 141, VCA, Z1, ↓Q3, Nat.reduceEqDiff, Nat.reduceBEq, Nat.reduceAdd, Nat.reduceSub, Nat.reduceMul, Nat.reduceLT, Nat.reduceLeDiff, ↓reduceIte, reduceCtorEq, Z7, Q6, SOp.rd, SI.rd, SX.rd, rdL, rdO, rdP, Q5, Q4, Q2, Q8, Q7, Z0, implies_true, forall_const, forall_eq, ne_eq, exists_eq_right_right, exists_eq_right, exists_eq_left, exists_eq_left', Q9, Z3, Z8, Z5, J4, Z6, Z4]
   exact s5 hp _ he1 he3
 rw [docE_kids]
 refine Z9 Tryz.func20 (by kernel_rfl) hc20 (by rw [Tryz.ntmps20]; simp) (by rw [Tryz.ntmps20]; decide) ?_
 simp -dsimp -implicitDefEqProofs (disch := omega) only [↓Q0 27, ↓Q1 27, ↓Q0 36, ↓Q1 36, ↓Q0 39, ↓Q1 39, ↓Q0 88, ↓Q1 88, ↓Q0 98, ↓Q1 98, ↓Q0 113, ↓Q1 113, ↓Q0 135, ↓Q1 135, ↓Q0 141, ↓Q1 141, VCA, Z1, ↓Q3, Nat.reduceEqDiff, Nat.reduceBEq, Nat.reduceAdd, Nat.reduceSub, Nat.reduceMul, Nat.reduceLT, Nat.reduceLeDiff, ↓reduceIte, reduceCtorEq, Z7, Q6, SOp.rd, SI.rd, SX.rd, rdL, rdO, rdP, Q5, Q4, Q2, Q8, Q7, Z0, implies_true, forall_const, forall_eq, ne_eq, exists_eq_right_right, exists_eq_right, exists_eq_left, exists_eq_left', Q9, Z3, Z8, Z5, J4, Z6, Z4, c20, J4]
 refine Br.dec (fun h1 => ?_) (fun h1 => ?_)
 ·rw [if_pos (by omega)]
  simp -dsimp -implicitDefEqProofs (disch := omega) only [↓Q0 27, ↓Q1 27, ↓Q0 36, ↓Q1 36, ↓Q0 39, ↓Q1 39, ↓Q0 88, ↓Q1 88, ↓Q0 98, ↓Q1 98, ↓Q0 113, ↓Q1 113, ↓Q0 135, ↓Q1 135, ↓Q0 141, ↓Q1 141, VCA, Z1, ↓Q3, Nat.reduceEqDiff, Nat.reduceBEq, Nat.reduceAdd, Nat.reduceSub, Nat.reduceMul, Nat.reduceLT, Nat.reduceLeDiff, ↓reduceIte, reduceCtorEq, Z7, Q6, SOp.rd, SI.rd, SX.rd, rdL, rdO, rdP, Q5, Q4, Q2, Q8, Q7, Z0, implies_true, forall_const, forall_eq, ne_eq, exists_eq_right_right, exists_eq_right, exists_eq_left, exists_eq_left', Q9, Z3, Z8, Z5, J4, Z6, Z4]
  exact Sub.refl _
 ·rw [if_neg (by omega)]
  simp -dsimp -implicitDefEqProofs (disch := omega) only [↓Q0 27, ↓Q1 27, ↓Q0 36, ↓Q1 36, ↓Q0 39, ↓Q1 39, ↓Q0 88, ↓Q1 88, ↓Q0 98, ↓Q1 98, ↓Q0 113, ↓Q1 113, ↓Q0 135, ↓Q1 135, ↓Q0 141, ↓Q1 141, VCA, Z1, ↓Q3, Nat.reduceEqDiff, Nat.reduceBEq, Nat.reduceAdd, Nat.reduceSub, Nat.reduceMul, Nat.reduceLT, Nat.reduceLeDiff, ↓reduceIte, reduceCtorEq, Z7, Q6, SOp.rd, SI.rd, SX.rd, rdL, rdO, rdP, Q5, Q4, Q2, Q8, Q7, Z0, implies_true, forall_const, forall_eq, ne_eq, exists_eq_right_right, exists_eq_right, exists_eq_left, exists_eq_left', Q9, Z3, Z8, Z5, J4, Z6, Z4]
  refine Br.eq (fun h2 => ?_) (fun h2 => ?_)
  ·rw [if_pos (by omega)]
   simp -dsimp -implicitDefEqProofs (disch := omega) only [↓Q0 27, ↓Q1 27, ↓Q0 36, ↓Q1 36, ↓Q0 39, ↓Q1 39, ↓Q0 88, ↓Q1 88, ↓Q0 98, ↓Q1 98, ↓Q0 113, ↓Q1 113, ↓Q0 135, ↓Q1 135, ↓Q0 141, ↓Q1 141, VCA, Z1, ↓Q3, Nat.reduceEqDiff, Nat.reduceBEq, Nat.reduceAdd, Nat.reduceSub, Nat.reduceMul, Nat.reduceLT, Nat.reduceLeDiff, ↓reduceIte, reduceCtorEq, Z7, Q6, SOp.rd, SI.rd, SX.rd, rdL, rdO, rdP, Q5, Q4, Q2, Q8, Q7, Z0, implies_true, forall_const, forall_eq, ne_eq, exists_eq_right_right, exists_eq_right, exists_eq_left, exists_eq_left', Q9, Z3, Z8, Z5, J4, Z6, Z4]
   exact Sub.refl _
  ·rw [if_neg (by omega)]
   simp -dsimp -implicitDefEqProofs (disch := omega) only [↓Q0 27, ↓Q1 27, ↓Q0 36, ↓Q1 36, ↓Q0 39, ↓Q1 39, ↓Q0 88, ↓Q1 88, ↓Q0 98, ↓Q1 98, ↓Q0 113, ↓Q1 113, ↓Q0 135, ↓Q1 135, ↓Q0 141, ↓Q1 141, VCA, Z1, ↓Q3, Nat.reduceEqDiff, Nat.reduceBEq, Nat.reduceAdd, Nat.reduceSub, Nat.reduceMul, Nat.reduceLT, Nat.reduceLeDiff, ↓reduceIte, reduceCtorEq, Z7, Q6, SOp.rd, SI.rd, SX.rd, rdL, rdO, rdP, Q5, Q4, Q2, Q8, Q7, Z0, implies_true, forall_const, forall_eq, ne_eq, exists_eq_right_right, exists_eq_right, exists_eq_left, exists_eq_left', Q9, Z3, Z8, Z5, J4, Z6, Z4]
   exact s4 (by omega) _ rfl rfl
def c139 : SFun := ⟨.seq (.reg [o 2 (.boxF 101 6 (.t 0)), o 3 (.boxF 101 6 (.t 1)), o 4 (.mv (.c (.bool false)))]) (.seq (.reg [o 5 (.fldA 0 (.t 2)), o 6 (.ld 1 false (.t 5)), o 7 (.fldA 0 (.t 3)), o 8 (.ld 1 false (.t 7)), o 9 (.bin .eql (.t 6) (.t 8)), o 10 (.mv (.t 9)), ⟨some 11, .fldA 1 (.t 2), some (10, true)⟩, ⟨some 12, .ld 1 false (.t 11), some (10, true)⟩, ⟨some 13, .fldA 1 (.t 3), some (10, true)⟩, ⟨some 14, .ld 1 false (.t 13), some (10, true)⟩, ⟨some 15, .bin .eql (.t 12) (.t 14), some (10, true)⟩, o 16 (.pick (.t 10) (.t 15) (.c (.bool false))), o 17 (.mv (.t 16)), ⟨some 18, .fldA 3 (.t 2), some (17, true)⟩, ⟨some 19, .ld 1 false (.t 18), some (17, true)⟩, ⟨some 20, .fldA 3 (.t 3), some (17, true)⟩, ⟨some 21, .ld 1 false (.t 20), some (17, true)⟩, ⟨some 22, .bin .eql (.t 19) (.t 21), some (17, true)⟩, o 23 (.pick (.t 17) (.t 22) (.c (.bool false))), o 24 (.mv (.t 23)), ⟨some 25, .fldA 4 (.t 2), some (24, true)⟩, ⟨some 26, .ld 1 false (.t 25), some (24, true)⟩, ⟨some 27, .fldA 4 (.t 3), some (24, true)⟩, ⟨some 28, .ld 1 false (.t 27), some (24, true)⟩, ⟨some 29, .bin .eql (.t 26) (.t 28), some (24, true)⟩, o 30 (.pick (.t 24) (.t 29) (.c (.bool false))), o 31 (.mv (.t 30)), ⟨some 32, .fldA 2 (.t 2), some (31, true)⟩, ⟨some 33, .ld 1 false (.t 32), some (31, true)⟩, ⟨some 34, .fldA 2 (.t 3), some (31, true)⟩, ⟨some 35, .ld 1 false (.t 34), some (31, true)⟩, ⟨some 36, .pcall 117 [.t 33, .t 35], some (31, true)⟩, o 37 (.pick (.t 31) (.t 36) (.c (.bool false))), o 38 (.mv (.t 37)), ⟨some 39, .fldA 5 (.t 2), some (38, true)⟩, ⟨some 40, .ld 1 false (.t 39), some (38, true)⟩, ⟨some 41, .fldA 5 (.t 3), some (38, true)⟩, ⟨some 42, .ld 1 false (.t 41), some (38, true)⟩, ⟨some 43, .pcall 197 [.t 40, .t 42], some (38, true)⟩, o 44 (.pick (.t 38) (.t 43) (.c (.bool false))), o 4 (.mv (.t 44))]) .ret), [.tmp 4]⟩
theorem hc139 : X8 Tryz.prog {pure := [117, 197]} Tryz.f139 = some c139 := by kernel_rfl
theorem sameNode_ok (x y : HNode) (hx : NodeSm x) (hy : NodeSm y) : PCalls (Pg G) 139 [.agg (Z5 x), .agg (Z5 y)] (.bool (x == y)) := fun h => by
 have key : (x == y) = (x.kind == y.kind && (x.name == y.name && (x.text == y.text && (x.parent == y.parent && (x.attrs == y.attrs && x.kids == y.kids))))) := by
  cases x; cases y; rw [Bool.eq_iff_iff]; simp; intro _ _; exact ⟨fun ⟨a, b, c, d⟩ => ⟨b, c, a, d⟩, fun ⟨a, b, c, d⟩ => ⟨c, a, b, d⟩⟩
 refine Z9 Tryz.func139 (by kernel_rfl) hc139 (by rw [Tryz.ntmps139]; simp) (by rw [Tryz.ntmps139]; decide) ?_
 simp -dsimp -implicitDefEqProofs (disch := omega) only [↓Q0 10, ↓Q1 10, ↓Q0 17, ↓Q1 17, ↓Q0 24, ↓Q1 24, ↓Q0 31, ↓Q1 31, ↓Q0 38, ↓Q1 38, VCA, Z1, ↓Q3, Nat.reduceEqDiff, Nat.reduceBEq, Nat.reduceAdd, Nat.reduceSub, Nat.reduceMul, Nat.reduceLT, Nat.reduceLeDiff, ↓reduceIte, reduceCtorEq, Z7, Q6, SOp.rd, SI.rd, SX.rd, rdL, rdO, rdP, Q5, Q4, Q2, Q8, Q7, Z0, implies_true, forall_const, forall_eq, ne_eq, exists_eq_right_right, exists_eq_right, exists_eq_left, exists_eq_left', Q9, Z3, Z8, Z5, J4, Z6, Z4, c139, Z5]
 repeat' (first | ((with_reducible refine brC (fun _ => ?_) fun _ => ?_) <;> try (exfalso; omega)) | (with_reducible apply pcallE.of; · exact sameA_ok x.attrs y.attrs hx.attrs hy.attrs) | (with_reducible apply pcallE.of; · exact sameN_ok x.kids y.kids hx.kids hy.kids) | (with_reducible refine And.intro ?_ ?_; · omega) | simp -dsimp -implicitDefEqProofs (disch := omega) only [↓Q0 10, ↓Q1 10, ↓Q0 17, ↓Q1 17, ↓Q0 24, ↓Q1 24, ↓Q0 31, ↓Q1 31, ↓Q0 38, ↓Q1 38, VCA, Z1, ↓Q3, Nat.reduceEqDiff, Nat.reduceBEq, Nat.reduceAdd, Nat.reduceSub, Nat.reduceMul, Nat.reduceLT, Nat.reduceLeDiff, ↓reduceIte, reduceCtorEq, Z7, Q6, SOp.rd, SI.rd, SX.rd, rdL, rdO, rdP, Q5, Q4, Q2, Q8, Q7, Z0, implies_true, forall_const, forall_eq, ne_eq, exists_eq_right_right, exists_eq_right, exists_eq_left, exists_eq_left', Q9, Z3, Z8, Z5, J4, Z6, Z4])
 all_goals (refine ⟨Sub.refl _, ?_⟩; rw [key]; simp_all)
def c66 : SFun := ⟨.seq (.reg [o 2 (.boxF 39 2 (.t 0)), o 3 (.boxF 39 2 (.t 1)), o 4 (.mv (.c (.bool false)))]) (.seq (.seq (.reg [o 6 (.fldA 0 (.t 2)), o 7 (.ld 1 false (.t 6)), o 8 (.len (.t 7)), o 9 (.fldA 0 (.t 3)), o 10 (.ld 1 false (.t 9)), o 11 (.len (.t 10)), o 12 (.bin .neq (.t 8) (.t 11)), o 13 (.mv (.t 12)), ⟨some 14, .fldA 1 (.t 2), some (13, false)⟩, ⟨some 15, .ld 1 false (.t 14), some (13, false)⟩, ⟨some 16, .fldA 1 (.t 3), some (13, false)⟩, ⟨some 17, .ld 1 false (.t 16), some (13, false)⟩, ⟨some 18, .eqb true (.t 15) (.t 17), some (13, false)⟩, o 19 (.pick (.t 13) (.c (.bool true)) (.t 18))]) (.cond (.t 19) (.seq (.reg [o 4 (.mv (.c (.bool false)))]) .ret) .skip)) (.seq (.seq (.reg [o 5 (.mv (.c (.int .i64 0)))]) (.block 0 (.loop (.seq (.seq (.reg [o 20 (.mv (.t 5)), o 21 (.fldA 0 (.t 2)), o 22 (.ld 1 false (.t 21)), o 23 (.len (.t 22)), o 24 (.bin .lss (.t 20) (.t 23))]) (.cond (.t 24) .skip (.exit 0))) (.seq (.block 1 (.seq (.dreg [(o 27 (.fldA 0 (.t 2)), none), (o 28 (.ld 1 false (.t 27)), none), (o 29 (.mv (.t 5)), none), (o 30 (.idxA 6 (.t 28) (.t 29)), none), (o 31 (.ld 6 true (.t 30)), none), (o 32 (.fldA 0 (.t 3)), none), (o 33 (.ld 1 false (.t 32)), none), (o 34 (.mv (.t 5)), none), (o 35 (.idxA 6 (.t 33) (.t 34)), none), (o 36 (.ld 6 true (.t 35)), none), (o 37 (.pcall 139 [.t 31, .t 36]), none), (o 38 (.un .not (.t 37)), none)]) (.cond (.t 38) (.seq (.reg [o 4 (.mv (.c (.bool false)))]) .ret) .skip))) (.reg [o 25 (.mv (.t 5)), o 26 (.bin .add (.t 25) (.c (.int .i64 1))), o 5 (.mv (.t 26))])))))) (.seq (.reg [o 4 (.mv (.c (.bool true)))]) .ret))), [.tmp 4]⟩
theorem hc66 : X8 Tryz.prog {pure := [139]} Tryz.f66 = some c66 := by kernel_rfl
theorem sameDoc_ok (a b : HDoc) (ha : DocSm a) (hb : DocSm b) : PCalls (Pg G) 66 [.agg (J4 a), .agg (J4 b)] (.bool (a == b)) := fun h => by
 have l1 := ha.len
 have l2 := hb.len
 refine Z9 Tryz.func66 (by kernel_rfl) hc66 (by rw [Tryz.ntmps66]; simp) (by rw [Tryz.ntmps66]; decide) ?_
 simp -dsimp -implicitDefEqProofs (disch := omega) only [↓Q0 13, ↓Q1 13, VCA, Z1, ↓Q3, Nat.reduceEqDiff, Nat.reduceBEq, Nat.reduceAdd, Nat.reduceSub, Nat.reduceMul, Nat.reduceLT, Nat.reduceLeDiff, ↓reduceIte, reduceCtorEq, Z7, Q6, SOp.rd, SI.rd, SX.rd, rdL, rdO, rdP, Q5, Q4, Q2, Q8, Q7, Z0, implies_true, forall_const, forall_eq, ne_eq, exists_eq_right_right, exists_eq_right, exists_eq_left, exists_eq_left', Q9, Z3, Z8, Z5, J4, Z6, Z4, c66, J4]
 refine Br.ne (fun h1 => ?_) (fun h1 => ?_)
 ·simp -dsimp -implicitDefEqProofs (disch := omega) only [↓Q0 13, ↓Q1 13, VCA, Z1, ↓Q3, Nat.reduceEqDiff, Nat.reduceBEq, Nat.reduceAdd, Nat.reduceSub, Nat.reduceMul, Nat.reduceLT, Nat.reduceLeDiff, ↓reduceIte, reduceCtorEq, Z7, Q6, SOp.rd, SI.rd, SX.rd, rdL, rdO, rdP, Q5, Q4, Q2, Q8, Q7, Z0, implies_true, forall_const, forall_eq, ne_eq, exists_eq_right_right, exists_eq_right, exists_eq_left, exists_eq_left', Q9, Z3, Z8, Z5, J4, Z6, Z4]
  have : ¬ a = b := fun e => h1 (by rw [e])
  first | exact Sub.refl _ | exact ⟨Sub.refl _, by simp [this]⟩
 ·have h1' : a.nodes.length = b.nodes.length := by omega
  simp -dsimp -implicitDefEqProofs (disch := omega) only [↓Q0 13, ↓Q1 13, VCA, Z1, ↓Q3, Nat.reduceEqDiff, Nat.reduceBEq, Nat.reduceAdd, Nat.reduceSub, Nat.reduceMul, Nat.reduceLT, Nat.reduceLeDiff, ↓reduceIte, reduceCtorEq, Z7, Q6, SOp.rd, SI.rd, SX.rd, rdL, rdO, rdP, Q5, Q4, Q2, Q8, Q7, Z0, implies_true, forall_const, forall_eq, ne_eq, exists_eq_right_right, exists_eq_right, exists_eq_left, exists_eq_left', Q9, Z3, Z8, Z5, J4, Z6, Z4, J4]
  refine brNeq (fun h2 => ?_) (fun h2 => ?_)
  ·simp -dsimp -implicitDefEqProofs (disch := omega) only [↓Q0 13, ↓Q1 13, VCA, Z1, ↓Q3, Nat.reduceEqDiff, Nat.reduceBEq, Nat.reduceAdd, Nat.reduceSub, Nat.reduceMul, Nat.reduceLT, Nat.reduceLeDiff, ↓reduceIte, reduceCtorEq, Z7, Q6, SOp.rd, SI.rd, SX.rd, rdL, rdO, rdP, Q5, Q4, Q2, Q8, Q7, Z0, implies_true, forall_const, forall_eq, ne_eq, exists_eq_right_right, exists_eq_right, exists_eq_left, exists_eq_left', Q9, Z3, Z8, Z5, J4, Z6, Z4]
   have : ¬ a = b := fun e => h2 (by rw [e])
   first | exact Sub.refl _ | exact ⟨Sub.refl _, by simp [this]⟩
  ·simp -dsimp -implicitDefEqProofs (disch := omega) only [↓Q0 13, ↓Q1 13, VCA, Z1, ↓Q3, Nat.reduceEqDiff, Nat.reduceBEq, Nat.reduceAdd, Nat.reduceSub, Nat.reduceMul, Nat.reduceLT, Nat.reduceLeDiff, ↓reduceIte, reduceCtorEq, Z7, Q6, SOp.rd, SI.rd, SX.rd, rdL, rdO, rdP, Q5, Q4, Q2, Q8, Q7, Z0, implies_true, forall_const, forall_eq, ne_eq, exists_eq_right_right, exists_eq_right, exists_eq_left, exists_eq_left', Q9, Z3, Z8, Z5, J4, Z6, Z4]
   refine LoopVC.intro (fun m e h' => ∃ k : Nat, k <= a.nodes.length /\ m = a.nodes.length - k /\ e 2 = .pin (J4 a) /\ e 3 = .pin (J4 b) /\ e 5 = Y0 k /\ h' = h /\ ∀ j, j < k -> nth a.nodes j = nth b.nodes j) a.nodes.length ⟨0, by omega, by omega, rfl, rfl, rfl, rfl, fun j hj => absurd hj (Nat.not_lt_zero j)⟩ ?_
   rintro m e h' ⟨k, hk, rfl, he2, he3, he5, rfl, hj⟩
   have hN : PCalls (Pg G) 139 [.agg (Z5 (nth a.nodes k)), .agg (Z5 (nth b.nodes k))] (.bool (nth a.nodes k == nth b.nodes k)) := sameNode_ok _ _ (ha.nth k) (hb.nth k)
   unfold Z5 at hN
   simp -dsimp -implicitDefEqProofs (disch := omega) only [↓Q0 13, ↓Q1 13, VCA, Z1, ↓Q3, Nat.reduceEqDiff, Nat.reduceBEq, Nat.reduceAdd, Nat.reduceSub, Nat.reduceMul, Nat.reduceLT, Nat.reduceLeDiff, ↓reduceIte, reduceCtorEq, Z7, Q6, SOp.rd, SI.rd, SX.rd, rdL, rdO, rdP, Q5, Q4, Q2, Q8, Q7, Z0, implies_true, forall_const, forall_eq, ne_eq, exists_eq_right_right, exists_eq_right, exists_eq_left, exists_eq_left', Q9, Z3, Z8, Z5, J4, Z6, Z4, he2, he3, he5, J4]
   refine Br.dec (fun hlt => ?_) (fun hge => ?_)
   ·simp -dsimp -implicitDefEqProofs (disch := omega) only [↓Q0 13, ↓Q1 13, VCA, Z1, ↓Q3, Nat.reduceEqDiff, Nat.reduceBEq, Nat.reduceAdd, Nat.reduceSub, Nat.reduceMul, Nat.reduceLT, Nat.reduceLeDiff, ↓reduceIte, reduceCtorEq, Z7, Q6, SOp.rd, SI.rd, SX.rd, rdL, rdO, rdP, Q5, Q4, Q2, Q8, Q7, Z0, implies_true, forall_const, forall_eq, ne_eq, exists_eq_right_right, exists_eq_right, exists_eq_left, exists_eq_left', Q9, Z3, Z8, Z5, J4, Z6, Z4, he2, he3, he5, J4, Z5]
    refine ⟨by omega, by omega, ?_⟩
    refine pcallE.of (hN) ?_; simp -dsimp -implicitDefEqProofs (disch := omega) only [↓Q0 13, ↓Q1 13, VCA, Z1, ↓Q3, Nat.reduceEqDiff, Nat.reduceBEq, Nat.reduceAdd, Nat.reduceSub, Nat.reduceMul, Nat.reduceLT, Nat.reduceLeDiff, ↓reduceIte, reduceCtorEq, Z7, Q6, SOp.rd, SI.rd, SX.rd, rdL, rdO, rdP, Q5, Q4, Q2, Q8, Q7, Z0, implies_true, forall_const, forall_eq, ne_eq, exists_eq_right_right, exists_eq_right, exists_eq_left, exists_eq_left', Q9, Z3, Z8, Z5, J4, Z6, Z4, he2, he3, he5, J4, Z5]
    refine brNeq (fun h3 => ?_) (fun h3 => ?_)
    ·simp -dsimp -implicitDefEqProofs (disch := omega) only [↓Q0 13, ↓Q1 13, VCA, Z1, ↓Q3, Nat.reduceEqDiff, Nat.reduceBEq, Nat.reduceAdd, Nat.reduceSub, Nat.reduceMul, Nat.reduceLT, Nat.reduceLeDiff, ↓reduceIte, reduceCtorEq, Z7, Q6, SOp.rd, SI.rd, SX.rd, rdL, rdO, rdP, Q5, Q4, Q2, Q8, Q7, Z0, implies_true, forall_const, forall_eq, ne_eq, exists_eq_right_right, exists_eq_right, exists_eq_left, exists_eq_left', Q9, Z3, Z8, Z5, J4, Z6, Z4]
     have : ¬ a = b := fun e => h3 (by rw [e])
     first | exact Sub.refl _ | exact ⟨Sub.refl _, by simp [this]⟩
    ·simp -dsimp -implicitDefEqProofs (disch := omega) only [↓Q0 13, ↓Q1 13, VCA, Z1, ↓Q3, Nat.reduceEqDiff, Nat.reduceBEq, Nat.reduceAdd, Nat.reduceSub, Nat.reduceMul, Nat.reduceLT, Nat.reduceLeDiff, ↓reduceIte, reduceCtorEq, Z7, Q6, SOp.rd, SI.rd, SX.rd, rdL, rdO, rdP, Q5, Q4, Q2, Q8, Q7, Z0, implies_true, forall_const, forall_eq, ne_eq, exists_eq_right_right, exists_eq_right, exists_eq_left, exists_eq_left', Q9, Z3, Z8, Z5, J4, Z6, Z4, he2, he3, he5, J4]
     refine ⟨_, by omega, k + 1, by omega, rfl, by omega, fun j hj' => ?_⟩
     by_cases hjk : j = k
     ·subst hjk; exact h3
     ·exact hj j (by omega)
   ·simp -dsimp -implicitDefEqProofs (disch := omega) only [↓Q0 13, ↓Q1 13, VCA, Z1, ↓Q3, Nat.reduceEqDiff, Nat.reduceBEq, Nat.reduceAdd, Nat.reduceSub, Nat.reduceMul, Nat.reduceLT, Nat.reduceLeDiff, ↓reduceIte, reduceCtorEq, Z7, Q6, SOp.rd, SI.rd, SX.rd, rdL, rdO, rdP, Q5, Q4, Q2, Q8, Q7, Z0, implies_true, forall_const, forall_eq, ne_eq, exists_eq_right_right, exists_eq_right, exists_eq_left, exists_eq_left', Q9, Z3, Z8, Z5, J4, Z6, Z4]
    have hn : a.nodes = b.nodes := ext_nth h1' (fun j hj' => hj j (by omega))
    have : a = b := by cases a; cases b; simp_all
    first | exact Sub.refl _ | exact ⟨Sub.refl _, by simp [this]⟩
def c17 : SFun := ⟨.seq (.reg [o 2 (.box 39 2 (.t 0)), o 4 (.new 39 2 [.emp, .bool false])]) (.seq (.reg [o 5 (.fldA 0 (.t 2)), o 6 (.ld 1 false (.t 5)), o 7 (.fldA 0 (.t 2)), o 8 (.ld 1 false (.t 7)), o 9 (.len (.t 8)), o 10 (.mv (.t 1)), o 11 (.min2 (.t 9) (.t 10)), o 12 (.slA 6 (.t 6) none (some (.t 11))), o 13 (.fldA 0 (.t 2)), ⟨none, .st 1 (.t 13) (.t 12), none⟩]) (.seq (.reg [o 14 (.ld 2 true (.t 2)), ⟨none, .st 2 (.t 4) (.t 14), none⟩]) .ret)), [.cell 4 2 true]⟩
theorem hc17 : X8 Tryz.prog {how := [(2, 6)]} Tryz.f17 = some c17 := by kernel_rfl
theorem few_ok (d : HDoc) (n : Nat) (sm : DocSm d) : PCalls (Pg G) 17 [.agg (J4 d), Y0 n] (.agg (J4 ⟨d.nodes.take n, d.quirks⟩)) := fun h => by
 have l1 := sm.len
 refine Z9 Tryz.func17 (by kernel_rfl) hc17 (by rw [Tryz.ntmps17]; simp) (by rw [Tryz.ntmps17]; decide) ?_
 simp -dsimp -implicitDefEqProofs (disch := omega) only [VCA, Z1, ↓Q3, Nat.reduceEqDiff, Nat.reduceBEq, Nat.reduceAdd, Nat.reduceSub, Nat.reduceMul, Nat.reduceLT, Nat.reduceLeDiff, ↓reduceIte, reduceCtorEq, Z7, Q6, SOp.rd, SI.rd, SX.rd, rdL, rdO, rdP, Q5, Q4, Q2, Q8, Q7, Z0, implies_true, forall_const, forall_eq, ne_eq, exists_eq_right_right, exists_eq_right, exists_eq_left, exists_eq_left', Q9, Z3, Z8, Z5, J4, Z6, Z4, c17, J4]
 intro r hr r1 hr1
 have ne : ¬ r = r1 := fun e => hr1.1 e.symm
 have ne' : ¬ r1 = r := hr1.1
 have et : d.nodes.take (min (d.nodes.length : Int) n).toNat = d.nodes.take n := by
  rw [show (min (d.nodes.length : Int) n).toNat = min n d.nodes.length from by omega, List.take_eq_take_iff]; omega
 simp -dsimp -implicitDefEqProofs (disch := omega) only [VCA, Z1, ↓Q3, Nat.reduceEqDiff, Nat.reduceBEq, Nat.reduceAdd, Nat.reduceSub, Nat.reduceMul, Nat.reduceLT, Nat.reduceLeDiff, ↓reduceIte, reduceCtorEq, Z7, Q6, SOp.rd, SI.rd, SX.rd, rdL, rdO, rdP, Q5, Q4, Q2, Q8, Q7, Z0, implies_true, forall_const, forall_eq, ne_eq, exists_eq_right_right, exists_eq_right, exists_eq_left, exists_eq_left', Q9, Z3, Z8, Z5, J4, Z6, Z4, ne, ne']
 exact ⟨by omega, ((((Sub.refl h).upd hr).upd hr1.2).upd hr).upd hr1.2, by rw [et]⟩
theorem DocSm.few {d : HDoc} (sm : DocSm d) (n : Nat) : DocSm ⟨d.nodes.take n, d.quirks⟩ := ⟨by have := sm.len; simp; omega, fun x hx => sm.each x (List.mem_of_mem_take hx)⟩
def c67 : SFun := ⟨.seq (.reg [o 2 (.boxF 39 2 (.t 0)), o 4 (.mv (.c .emp))]) (.seq (.reg [o 7 (.mv (.t 1)), o 8 (.bldR 3 1 [.t 7]), o 5 (.mv (.t 8))]) (.seq (.seq (.reg [o 6 (.mv (.c (.int .i64 0)))]) (.block 0 (.loop (.seq (.seq (.reg [o 9 (.mv (.t 6)), o 10 (.fldA 0 (.t 2)), o 11 (.ld 1 false (.t 10)), o 12 (.mv (.t 1)), o 13 (.idxA 6 (.t 11) (.t 12)), o 14 (.fldA 5 (.t 13)), o 15 (.ld 1 false (.t 14)), o 16 (.len (.t 15)), o 17 (.bin .lss (.t 9) (.t 16))]) (.cond (.t 17) .skip (.exit 0))) (.seq (.block 1 (.dreg [(o 20 (.mv (.t 5)), none), (o 21 (.ld 2 true (.t 2)), none), (o 22 (.fldA 0 (.t 2)), none), (o 23 (.ld 1 false (.t 22)), none), (o 24 (.mv (.t 1)), none), (o 25 (.idxA 6 (.t 23) (.t 24)), none), (o 26 (.fldA 5 (.t 25)), none), (o 27 (.ld 1 false (.t 26)), none), (o 28 (.mv (.t 6)), none), (o 29 (.idxA 1 (.t 27) (.t 28)), none), (o 30 (.ld 1 false (.t 29)), none), (o 31 (.pcall 67 [.t 21, .t 30]), none), (o 32 (.app 3 1 8 (.t 20) (.t 31)), (some [21, 30, 27, 23])), (o 5 (.mv (.t 32)), (some [21, 30, 27, 23]))])) (.reg [o 18 (.mv (.t 6)), o 19 (.bin .add (.t 18) (.c (.int .i64 1))), o 6 (.mv (.t 19))])))))) (.seq (.reg [o 33 (.mv (.t 5)), o 4 (.mv (.t 33))]) .ret))), [.tmp 4]⟩
theorem hc67 : X8 Tryz.prog {pure := [67], how := [(8, 2)]} Tryz.f67 = some c67 := by kernel_rfl
theorem below_ok (d : HDoc) (V : DV d) (sm : DocSm d) : ∀ n, inD d n -> PCalls (Pg G) 67 [.agg (J4 d), Y0 n] (sl Z8 (below d n)) := V.down fun n hn ih => PCalls.acc (ty := 3) (sz := 1) fun h => by
 have hl := V.len
 have n0 := hn.1
 have n1 := hn.2
 have e0 : nth d.nodes n.toNat = nd d n := rfl
 have kl := (sm.nd n).kids
 refine Z9 Tryz.func67 (by kernel_rfl) hc67 (by rw [Tryz.ntmps67]; simp) (by rw [Tryz.ntmps67]; decide) ?_
 simp -dsimp -implicitDefEqProofs (disch := omega) only [VCA, Z1, ↓Q3, Nat.reduceEqDiff, Nat.reduceBEq, Nat.reduceAdd, Nat.reduceSub, Nat.reduceMul, Nat.reduceLT, Nat.reduceLeDiff, ↓reduceIte, reduceCtorEq, Z7, Q6, SOp.rd, SI.rd, SX.rd, rdL, rdO, rdP, Q5, Q4, Q2, Q8, Q7, Z0, implies_true, forall_const, forall_eq, ne_eq, exists_eq_right_right, exists_eq_right, exists_eq_left, exists_eq_left', Q9, Z3, Z8, Z5, J4, Z6, Z4, c67, J4]
 intro r hr
 have bl := below_len V hn
 rw [below_eq V hn] at bl ⊢
 simp only [List.length_cons] at bl
 refine LoopVC.intro (fun m e h' => ∃ k : Nat, k <= (nd d n).kids.length /\ m = (nd d n).kids.length - k /\ e 1 = Y0 n /\ e 2 = .pin (J4 d) /\ e 6 = Y0 k /\ Acc h 3 1 ((n :: ((nd d n).kids.take k).flatMap (below d)).map Z8) (e 5) h' /\ Sim.Sub h h') _ ⟨0, by omega, rfl, rfl, rfl, rfl, Acc.root hr (J5 _ _ _), (Sub.refl h).upd hr⟩ ?_
 rintro m e h' ⟨k, hk, rfl, he1, he2, he6, A, S⟩
 simp -dsimp -implicitDefEqProofs (disch := omega) only [VCA, Z1, ↓Q3, Nat.reduceEqDiff, Nat.reduceBEq, Nat.reduceAdd, Nat.reduceSub, Nat.reduceMul, Nat.reduceLT, Nat.reduceLeDiff, ↓reduceIte, reduceCtorEq, Z7, Q6, SOp.rd, SI.rd, SX.rd, rdL, rdO, rdP, Q5, Q4, Q2, Q8, Q7, Z0, implies_true, forall_const, forall_eq, ne_eq, exists_eq_right_right, exists_eq_right, exists_eq_left, exists_eq_left', Q9, Z3, Z8, Z5, J4, Z6, Z4, he1, he2, he6, J4, Z5, e0]
 refine ⟨by omega, Br.dec (fun hlt => ?_) (fun hge => ?_)⟩
 ·have hk' : k < (nd d n).kids.length := by omega
  have hB := ih _ (X9 hk')
  unfold J4 at hB
  have hfl : (((nd d n).kids.take (k + 1)).flatMap (below d)).length <= ((nd d n).kids.flatMap (below d)).length := by
   conv => rhs; rw [<- List.take_append_drop (k + 1) (nd d n).kids, List.flatMap_append, List.length_append]
   omega
  rw [K7 hk', List.flatMap_append, List.length_append] at hfl
  simp only [List.flatMap_cons, List.flatMap_nil, List.append_nil] at hfl
  simp -dsimp -implicitDefEqProofs (disch := omega) only [VCA, Z1, ↓Q3, Nat.reduceEqDiff, Nat.reduceBEq, Nat.reduceAdd, Nat.reduceSub, Nat.reduceMul, Nat.reduceLT, Nat.reduceLeDiff, ↓reduceIte, reduceCtorEq, Z7, Q6, SOp.rd, SI.rd, SX.rd, rdL, rdO, rdP, Q5, Q4, Q2, Q8, Q7, Z0, implies_true, forall_const, forall_eq, ne_eq, exists_eq_right_right, exists_eq_right, exists_eq_left, exists_eq_left', Q9, Z3, Z8, Z5, J4, Z6, Z4, he1, he2, he6, J4, Z5, e0]
  refine ⟨by omega, by omega, ?_⟩
  refine pcallE.of (hB) ?_; simp -dsimp -implicitDefEqProofs (disch := omega) only [VCA, Z1, ↓Q3, Nat.reduceEqDiff, Nat.reduceBEq, Nat.reduceAdd, Nat.reduceSub, Nat.reduceMul, Nat.reduceLT, Nat.reduceLeDiff, ↓reduceIte, reduceCtorEq, Z7, Q6, SOp.rd, SI.rd, SX.rd, rdL, rdO, rdP, Q5, Q4, Q2, Q8, Q7, Z0, implies_true, forall_const, forall_eq, ne_eq, exists_eq_right_right, exists_eq_right, exists_eq_left, exists_eq_left', Q9, Z3, Z8, Z5, J4, Z6, Z4, he1, he2, he6, J4, Z5, e0]
  refine A.app S (by simp only [List.length_map, List.length_cons]; omega) (by simp only [List.length_map, List.length_cons]; omega) fun a' h'' A' S' => ?_
  simp -dsimp -implicitDefEqProofs (disch := omega) only [VCA, Z1, ↓Q3, Nat.reduceEqDiff, Nat.reduceBEq, Nat.reduceAdd, Nat.reduceSub, Nat.reduceMul, Nat.reduceLT, Nat.reduceLeDiff, ↓reduceIte, reduceCtorEq, Z7, Q6, SOp.rd, SI.rd, SX.rd, rdL, rdO, rdP, Q5, Q4, Q2, Q8, Q7, Z0, implies_true, forall_const, forall_eq, ne_eq, exists_eq_right_right, exists_eq_right, exists_eq_left, exists_eq_left', Q9, Z3, Z8, Z5, J4, Z6, Z4, he1, he2, he6]
  refine ⟨_, by omega, k + 1, by omega, rfl, by omega, ?_, S'⟩
  rw [K7 hk', List.flatMap_append]
  simpa [Z8] using A'
 ·obtain rfl : k = (nd d n).kids.length := by omega
  simp -dsimp -implicitDefEqProofs (disch := omega) only [VCA, Z1, ↓Q3, Nat.reduceEqDiff, Nat.reduceBEq, Nat.reduceAdd, Nat.reduceSub, Nat.reduceMul, Nat.reduceLT, Nat.reduceLeDiff, ↓reduceIte, reduceCtorEq, Z7, Q6, SOp.rd, SI.rd, SX.rd, rdL, rdO, rdP, Q5, Q4, Q2, Q8, Q7, Z0, implies_true, forall_const, forall_eq, ne_eq, exists_eq_right_right, exists_eq_right, exists_eq_left, exists_eq_left', Q9, Z3, Z8, Z5, J4, Z6, Z4, he6]
  rw [List.take_length] at A
  exact ⟨_, Sub.refl _, A, S⟩
def attrH (a : HAttr) : List UInt8 := [32] ++ a.name ++ [61, 34] ++ escD true a.value ++ [34]
def openH (x : HNode) : List UInt8 := [60] ++ x.name ++ x.attrs.flatMap attrH ++ [62]
def X2 (d : HDoc) (x : HNode) : Bool :=
 (x.name == [112, 114, 101] || x.name == [116, 101, 120, 116, 97, 114, 101, 97]) && (decide (x.kids ≠ []) && ((nd d (nth x.kids 0)).kind == 3 && ((nd d (nth x.kids 0)).text != [] && bt (nd d (nth x.kids 0)).text 0 == 10)))
def htG (d : HDoc) (x : HNode) (inner : List UInt8) : List UInt8 :=
 if x.kind = 1 then inner
 else if x.kind = 5 then [60, 33, 68, 79, 67, 84, 89, 80, 69, 32] ++ x.name ++ [62]
 else if x.kind = 4 then [60, 33, 45, 45] ++ x.text ++ [45, 45, 62]
 else if x.kind = 3 then (if 0 <= x.parent /\ rawM (nd d x.parent).name = 1 then x.text else escD false x.text)
 else if inW x.name voidS = true /\ x.kids = [] then openH x
 else openH x ++ (if X2 d x = true then [10] else []) ++ inner ++ [60, 47] ++ x.name ++ [62]
def htF : Nat -> HDoc -> Int -> List UInt8
 | 0, _, _ => []
 | f + 1, d, n => htG d (nd d n) ((nd d n).kids.flatMap (htF f d))
def K3 (d : HDoc) (n : Int) : List UInt8 := htF 41 d n
theorem htF_eq {d : HDoc} (V : DV d) : ∀ (f g : Nat) (n : Int), inD d n -> 41 <= f + up d n -> 41 <= g + up d n -> htF f d n = htF g d n
 | 0, g, n, hn, hf, _ => by have := V.deep n hn; omega
 | f + 1, 0, n, hn, _, hg => by have := V.deep n hn; omega
 | f + 1, g + 1, n, hn, hf, hg => by
  unfold htF
  rw [U4 fun k hk => htF_eq V f g k (V.kid n hn k hk).1 (by have := V.up_kid hn hk; omega) (by have := V.up_kid hn hk; omega)]
theorem html_eq {d : HDoc} (V : DV d) {n : Int} (hn : inD d n) : K3 d n = htG d (nd d n) ((nd d n).kids.flatMap (K3 d)) := by
 show htF 41 d n = _
 unfold htF
 rw [U4 fun k hk => htF_eq V 40 41 k (V.kid n hn k hk).1 (by have := V.up_kid hn hk; omega) (by omega)]
 rfl
theorem esc_len (attr : Bool) : ∀ (n : Nat) (s : List UInt8), s.length <= n -> (escD attr s).length <= 6 * s.length
 | _, [], _ => by rw [escD_nil]; simp
 | 0, c :: t, h => by simp at h
 | n + 1, c :: t, h => by
  by_cases hc : c = 194 /\ t.head? = some 160
  ·obtain ⟨rfl, ht⟩ := hc
   cases t with
   | nil => cases ht
   | cons b u =>
    simp only [List.head?_cons, Option.some.injEq] at ht
    subst ht
    rw [escD_nb]
    have := esc_len attr n u (by simp at h; omega)
    simp only [List.length_append, List.length_cons]
    have : nbspS.length = 6 := rfl
    omega
  ·rw [escD_c attr c t hc]
   have h1 := esc_len attr n t (by simp at h; omega)
   have h2 : (escC attr c).length <= 6 := by
    unfold escC
    repeat' split
    all_goals first | decide | simp
   simp only [List.length_append, List.length_cons]
   omega
theorem flat_le {α β : Type} {f : α -> List β} {k : Nat} : ∀ l : List α, (∀ x ∈ l, (f x).length <= k) -> (l.flatMap f).length <= k * l.length
 | [], _ => by simp
 | x :: r, h => by
  have h1 := h x List.mem_cons_self
  have h2 := flat_le r fun y hy => h y (List.mem_cons_of_mem _ hy)
  rw [List.flatMap_cons, List.length_append, List.length_cons, Nat.mul_add]
  omega
theorem flat_le2 {α β γ : Type} {f : α -> List β} {g : α -> List γ} {k : Nat} : ∀ l : List α, (∀ x ∈ l, (f x).length <= k * (g x).length) -> (l.flatMap f).length <= k * (l.flatMap g).length
 | [], _ => by simp
 | x :: r, h => by
  have h1 := h x List.mem_cons_self
  have h2 := flat_le2 r fun y hy => h y (List.mem_cons_of_mem _ hy)
  rw [List.flatMap_cons, List.flatMap_cons, List.length_append, List.length_append, Nat.mul_add]
  omega
structure NodeSz (x : HNode) : Prop where
 name : x.name.length <= 400
 attrs : x.attrs.length <= 12
 each : ∀ a ∈ x.attrs, a.name.length <= 40 /\ a.value.length <= 400 /\ K6 false a.name = true
 text : x.text.length <= 400
 elem : x.kind = 2 -> K6 true x.name = true
 kind : 1 <= x.kind /\ x.kind <= 5 /\ bareM x = true
theorem nodeE_sz {x : HNode} (h : nodeE x = 0) : NodeSz x := by
 unfold nodeE at h
 split at h
 ·omega
 rename_i hk
 split at h
 ·omega
 rename_i he
 split at h
 ·rename_i ha; exact absurd h ha
 rename_i ha
 split at h
 ·omega
 rename_i hl
 have ha : attrsE x.attrs = 0 := by simpa using ha
 unfold attrsE at ha
 split at ha
 ·omega
 have hz := fe_zero ha
 refine ⟨by omega, by omega, fun a hm => ?_, by omega, fun k => ?_, by omega, by omega, ?_⟩
 ·obtain ⟨j, hj, rfl⟩ := mem_nth hm
  have h1 := hz j hj
  unfold attrE at h1
  split at h1
  ·omega
  rename_i hn
  split at h1
  ·omega
  have hn : K6 false (nth x.attrs j).name = true := by simpa using hn
  refine ⟨?_, by omega, hn⟩
  unfold K6 at hn
  simp only [Bool.and_eq_true, decide_eq_true_eq] at hn
  omega
 ·cases hq : K6 true x.name with
  | true => rfl
  | false => exact absurd ⟨k, hq⟩ he
 ·cases hq : bareM x with
  | true => rfl
  | false => exact absurd (.inr (.inr hq)) hk
theorem html_len {d : HDoc} (V : DV d) : ∀ n, inD d n -> (K3 d n).length <= 40000 * (below d n).length := V.down fun n hn ih => by
 have Z := nodeE_sz (V.node n hn)
 rw [html_eq V hn, below_eq V hn]
 have hin : ((nd d n).kids.flatMap (K3 d)).length <= 40000 * ((nd d n).kids.flatMap (below d)).length := flat_le2 _ ih
 have h1 := Z.name
 have h2 := Z.text
 have h3 := esc_len false _ (nd d n).text (Nat.le_refl _)
 have h4 : (openH (nd d n)).length <= 36000 := by
  unfold openH
  have := flat_le (f := attrH) (k := 2500) (nd d n).attrs fun a ha => by
   have h1 := Z.each a ha
   have h2 := esc_len true _ a.value (Nat.le_refl _)
   unfold attrH
   simp only [List.length_append, List.length_cons, List.length_nil]
   omega
  have h5 := Z.attrs
  simp only [List.length_append, List.length_cons, List.length_nil]
  omega
 unfold htG
 simp only [List.length_cons]
 repeat' split
 all_goals (try simp only [List.length_append, List.length_cons, List.length_nil]); omega
def hexD (n : Nat) : UInt8 := UInt8.ofNat (if n < 10 then 48 + n else 87 + n)
def plainB (b : UInt8) : Bool := decide (32 <= b.toNat) && (decide (b.toNat <= 126) && (b != 34 && b != 92))
def quoB (b : UInt8) : List UInt8 := if plainB b = true then [b] else [92, hexD (b.toNat / 16), hexD (b.toNat % 16)]
def K8 (s : List UInt8) : List UInt8 := 34 :: (s.flatMap quoB ++ [34])
def attrL (a : HAttr) : List UInt8 := [32] ++ a.name ++ [61] ++ K8 a.value
def lineM (x : HNode) : List UInt8 :=
 if x.kind = 5 then 33 :: K8 x.name else if x.kind = 3 then K8 x.text else if x.kind = 4 then 45 :: K8 x.text
 else x.name ++ x.attrs.flatMap attrL
def rowL (d : HDoc) (k : Nat) (n : Int) : List UInt8 := List.replicate k 32 ++ lineM (nd d n) ++ [10]
def lnF : Nat -> HDoc -> Int -> Nat -> List UInt8
 | 0, _, _, _ => []
 | f + 1, d, n, k => (nd d n).kids.flatMap fun m => rowL d k m ++ lnF f d m (k + 1)
def linesM (d : HDoc) (n : Int) (k : Nat) : List UInt8 := lnF 41 d n k
theorem lnF_eq {d : HDoc} (V : DV d) : ∀ (f g : Nat) (n : Int) (k : Nat), inD d n -> 41 <= f + up d n -> 41 <= g + up d n -> lnF f d n k = lnF g d n k
 | 0, g, n, k, hn, hf, _ => by have := V.deep n hn; omega
 | f + 1, 0, n, k, hn, _, hg => by have := V.deep n hn; omega
 | f + 1, g + 1, n, k, hn, hf, hg => by
  unfold lnF
  exact U4 fun m hm => by rw [lnF_eq V f g m (k + 1) (V.kid n hn m hm).1 (by have := V.up_kid hn hm; omega) (by have := V.up_kid hn hm; omega)]
theorem lines_eq {d : HDoc} (V : DV d) {n : Int} (hn : inD d n) (k : Nat) : linesM d n k = (nd d n).kids.flatMap fun m => rowL d k m ++ linesM d m (k + 1) := by
 show lnF 41 d n k = _
 unfold lnF
 exact U4 fun m hm => by rw [lnF_eq V 40 41 m (k + 1) (V.kid n hn m hm).1 (by have := V.up_kid hn hm; omega) (by omega)]; rfl
def treeM (d : HDoc) : List UInt8 := (if d.quirks = true then [126, 10] else []) ++ linesM d 0 0
theorem quote_len (s : List UInt8) : (K8 s).length <= 3 * s.length + 2 := by
 have := flat_le (f := quoB) (k := 3) s fun b _ => by unfold quoB; split <;> simp
 unfold K8; simp only [List.length_cons, List.length_append, List.length_nil]; omega
theorem line_len {x : HNode} (Z : NodeSz x) : (lineM x).length <= 20000 := by
 have h1 := quote_len x.name
 have h2 := quote_len x.text
 have h3 := Z.name
 have h4 := Z.text
 have h5 := Z.attrs
 have := flat_le (f := attrL) (k := 1300) x.attrs fun a ha => by
  have h1 := Z.each a ha
  have h2 := quote_len a.value
  unfold attrL
  simp only [List.length_append, List.length_cons, List.length_nil]; omega
 unfold lineM
 repeat' split
 all_goals (try simp only [List.length_append, List.length_cons]); omega
theorem lines_len {d : HDoc} (V : DV d) : ∀ n, inD d n -> ∀ k, k <= up d n -> (linesM d n k).length + 20100 <= 20100 * (below d n).length := V.down fun n hn ih k hk => by
 rw [lines_eq V hn, below_eq V hn]
 have : (((nd d n).kids.flatMap fun m => rowL d k m ++ linesM d m (k + 1))).length <= 20100 * ((nd d n).kids.flatMap (below d)).length := flat_le2 _ fun m hm => by
  have h1 := ih m hm (k + 1) (by have := V.up_kid hn hm; omega)
  have h2 := line_len (nodeE_sz (V.node m (V.kid n hn m hm).1))
  have h3 := V.deep m (V.kid n hn m hm).1
  have h4 := V.up_kid hn hm
  unfold rowL
  simp only [List.length_append, List.length_replicate, List.length_cons, List.length_nil]
  omega
 simp only [List.length_cons]
 omega
theorem lines_below {d : HDoc} (V : DV d) : ∀ n, inD d n -> ∀ k, k = up d n -> linesM d n k = ((below d n).drop 1).flatMap fun m => rowL d (up d m - 1) m := V.down fun n hn ih k hk => by
 rw [lines_eq V hn, below_eq V hn, List.drop_succ_cons, List.drop_zero, List.flatMap_assoc]
 refine U4 fun m hm => ?_
 have hi := (V.kid n hn m hm).1
 have hu := V.up_kid hn hm
 rw [ih m hm (k + 1) (by omega), below_eq V hi, List.flatMap_cons, List.drop_succ_cons, List.drop_zero, hu, hk]
 rfl
end Go.Proofs.K
end
section
set_option linter.unusedSimpArgs false
set_option linter.unusedVariables false
namespace Go.Proofs.K
open Go Go.Sim Go.Proofs Go.Shelf Go.RowKit
variable {G : Glob}
abbrev Tw : Nat := 97
theorem lies_w : liesAt Tryz.prog Tryz.prog.depth Tw (4 / Tryz.prog.cellsOf Tw) 0 (bren.t 72) 1 = true := by kernel_rfl
theorem cc_fresh (b : Nat) (w : World) (h0 : w.cell? ⟨b, 0, none⟩ = some (.pointer none)) (hsh : w.shape? b = some (Tw, 4)) (hfz : w.frozen? ⟨b, 0, none⟩ = false) :
  Calls Tryz.prog 124 #[.pointer (some ⟨b, 0, none⟩)] w fun e w' => e = .returned (.tuple #[]) /\ w' = w.setCell ⟨b, 0, none⟩ (.pointer (some ⟨b, 0, none⟩)) := by
 have L := lays240
 obtain ⟨j, hj, hjs⟩ := Option.map_eq_some_iff.1 x72.sizeBuilder
 have mixed := L.mixed
 have t72 := L.t72; have a72 := L.a72; have z72 := L.z72; have v72 := L.v72; have u72 := run_underlying L.t72
 have t70 := L.t70; have a70 := L.a70; have z70 := L.z70; have v70 := L.v70; have u70 := run_underlying L.t70
 have t9 := L.t9; have a9 := L.a9; have z9 := L.z9; have v9 := L.v9; have u9 := run_underlying L.t9
 have t4 := L.t4; have a4 := L.a4; have z4 := L.z4; have v4 := L.v4; have u4 := run_underlying L.t4
 have t164 := L.t164; have a164 := L.a164; have z164 := L.z164; have v164 := L.v164; have u164 := run_underlying L.t164
 show Calls Tryz.prog (bren.f 240) _ _ _
 go_enter L.f240, Body.n240_ntmps bren
 go_wp2
 rw [Lib.run_to_unsafe w ⟨b, 0, none⟩ L.t70 L.t164 hj (by rw [hjs]; decide) hsh (Nat.zero_lt_succ 3)]
 simp only [Result.andThen]
 rw [Oper.upon_value]
 go_wp2
 rw [run_callFunc_extern L.f276 (by kernel_rfl) (by kernel_rfl) (by kernel_rfl) (e := Extern.AbiNoEscape.same) (by kernel_rfl)]
 rw [Lib.run_noEscape]
 simp only [Result.andThen]
 rw [Oper.upon_value]
 go_wp2
 rw [Lib.run_from_unsafe w ⟨b, 0, none⟩ L.t164 L.t70 hj hsh lies_w]
 simp only [Result.andThen]
 rw [Oper.upon_value]
 go_wp2
 go_end0
 exact ⟨rfl, rfl⟩
theorem copyCheckE_ok (rb : Nat) (h : J1) (p buf x y : AVal) (hp : BP rb p) (hr : h rb = some ⟨Tw, 4, [[p, buf, x, y]]⟩) {K : AVal -> J1 -> Prop} (hk : K (.tup []) (upd h rb (some ⟨Tw, 4, [[.vp rb 0, buf, x, y]]⟩))) :
  DCalls (Pg G) 124 [.vp rb 0] h K := by
 refine ⟨⟨_, Tryz.func124, by kernel_rfl, by kernel_rfl⟩, fun g w vs H GR V => ?_⟩
 obtain ⟨v, rfl, hv⟩ := V.one_inv
 obtain ⟨hlt, ⟨hb, hc⟩, rfl⟩ := hv.vp_inv
 have O := H.obj rb _ hr
 rcases O.block with h0 | ⟨hl, hf, cur, hcur, hsz, hcell⟩
 ·omega
 obtain ⟨lo, hi, hq, hlh⟩ := id hcur
 have hcs : cur.size = 4 := by have h1 : g.bo rb + g.cap rb * 4 = cur.size := hsz; omega
 obtain ⟨u, hu, ho, hvu⟩ := hcell 0 0 _ p rfl rfl
 have rest : ∀ (j : Nat) (z : AVal), 1 <= j -> [p, buf, x, y][j]? = some z -> ∃ u, cur[j]? = some u /\ u.oneCell' = true /\ VRel g w u z := fun j z hj hz => by
  obtain ⟨u, hu, ho, hv⟩ := hcell 0 j _ z rfl hz
  exact ⟨u, by simpa [hb] using hu, ho, hv⟩
 simp only [hb] at hu
 have hw0 : w.cell? ⟨g.eta rb, 0, none⟩ = some u := by
  rw [hcur.cell]; exact hu
 rcases hp with rfl | rfl
 ·rw [prim_inv hvu] at hw0
  refine (cc_fresh (g.eta rb) w hw0 ?_ ?_).mono ?_
  ·simp only [World.shape?, hq]; show some (Tw, cur.size) = some (Tw, 4); rw [hcs]
  ·simp [World.frozen?, hq]; omega
  ·rintro e w' ⟨rfl, rfl⟩
   rw [setCell_eq_setRow w _ _ cur _ _ _ hq]
   obtain ⟨S, H'⟩ := root_write H hr hcur (by omega) (cur.setIfInBounds 0 (.pointer (some ⟨g.eta rb, 0, none⟩))) (by simp) (es' := [[.vp rb 0, buf, x, y]]) (by simp) (by simp; omega) (fun i j e z he hx => by
    cases i with
    | succ i => simp at he
    | zero =>
     simp at he; subst he
     cases j with
     | zero => simp at hx; subst hx; exact ⟨_, by simp [hb, hcs], rfl, .vp rb 0 hlt hb hc⟩
     | succ j =>
      obtain ⟨u2, q1, q2, q3⟩ := rest (j + 1) z (by omega) (by simpa using hx)
      exact ⟨u2, by simpa [hb] using q1, q2, q3⟩)
   exact ⟨_, _, _, g, rfl, hk, H', .tup #[] [] rfl (fun j u a hu => by simp at hu), S⟩
 ·obtain ⟨_, _, hu'⟩ := hvu.vp_inv
  rw [hu'] at hw0
  refine (Any.Builder_copyCheck_used lays240 x72 (g.eta rb) w hw0).mono ?_
  rintro e w' ⟨rfl, rfl⟩
  have : upd h rb (some ⟨Tw, 4, [[.vp rb 0, buf, x, y]]⟩) = h := upd_id hr
  rw [this] at hk
  exact ⟨_, _, h, g, rfl, hk, H, .tup #[] [] rfl (fun j u a hu => by simp at hu), GS.refl g _⟩
def BlE (x y : AVal) (h0 : J1) (rb : Nat) (s : List UInt8) (h : J1) : Prop := h0 rb = none /\ ∃ p buf, BP rb p /\ (buf ≠ .emp -> s ≠ []) /\ Acc (upd h0 rb (some ⟨Tw, 4, [[p, buf, x, y]]⟩)) Tu 1 (Y5 s) buf h /\ Sub (upd h0 rb (some ⟨Tw, 4, [[p, buf, x, y]]⟩)) h
section
variable {x y : AVal}
theorem BlE.new (h : J1) (rb : Nat) (h0 : h rb = none) : BlE x y h rb [] (upd h rb (some ⟨Tw, 4, [[.prim (.pointer none), .emp, x, y]]⟩)) :=
 ⟨h0, _, _, .inl rfl, fun h => absurd rfl h, Acc.nil, Sub.refl _⟩
theorem BlE.sub {h0 h : J1} {rb : Nat} {s : List UInt8} (B : BlE x y h0 rb s h) : Sub h0 h := by
 obtain ⟨h1, p, buf, _, _, _, S⟩ := B
 exact sub_off h1 S
theorem BlE.at {h0 h : J1} {rb : Nat} {s : List UInt8} (B : BlE x y h0 rb s h) : ∃ p buf, h rb = some ⟨Tw, 4, [[p, buf, x, y]]⟩ := by
 obtain ⟨h1, p, buf, _, _, _, S⟩ := B
 exact ⟨p, buf, sub_is S⟩
theorem BlE.more {h0 h : J1} {rb : Nat} {s : List UInt8} (B : BlE x y h0 rb s h) {r : Nat} (hr : h r = none) (o : AObj) : BlE x y (upd h0 r (some o)) rb s (upd h r (some o)) := by
 obtain ⟨h1, p, buf, hp, hb, A, S⟩ := B
 have hrb : r ≠ rb := fun e => by rw [e, sub_is S] at hr; cases hr
 have hc : ∀ z : AObj, upd (upd h0 r (some o)) rb (some z) = upd (upd h0 rb (some z)) r (some o) := fun z => by
  funext t; unfold Sim.upd; by_cases e1 : t = rb <;> by_cases e2 : t = r <;> simp_all
 refine ⟨by rw [Y3 _ _ (Ne.symm hrb)]; exact h1, p, buf, hp, hb, ?_, ?_⟩
 ·rw [hc]
  rcases A with q | ⟨t, q1, q2, q3⟩
  ·exact .inl q
  ·have hne : t ≠ r := fun e => by rw [e, hr] at q2; cases q2
   exact .inr ⟨t, by rw [Y3 _ _ hne]; exact q1, by rw [Y3 _ _ hne]; exact q2, q3⟩
 ·rw [hc]
  intro t z ht
  by_cases e : t = r
  ·subst e; rw [J5] at ht ⊢; exact ht
  ·rw [Y3 _ _ e] at ht ⊢; exact S t z ht
theorem BlE.less {h0 h : J1} {rb : Nat} {s : List UInt8} {r : Nat} {o : AObj} (B : BlE x y (upd h0 r (some o)) rb s h) (hr : h0 r = none) : BlE x y h0 rb s h := by
 obtain ⟨h1, p, buf, hp, hb, A, S⟩ := B
 have hrb : rb ≠ r := fun e => by rw [e, J5] at h1; cases h1
 rw [Y3 _ _ hrb] at h1
 have lo : ∀ z t, upd (upd h0 r (some o)) rb (some z) t = none -> upd h0 rb (some z) t = none := fun z t ht => by
  unfold Sim.upd at ht ⊢
  split at ht
  ·cases ht
  ·split at ht
   ·cases ht
   ·rename_i q1 q2; rw [if_neg q1]; exact ht
 refine ⟨h1, p, buf, hp, hb, ?_, fun t z ht => S t z ?_⟩
 ·rcases A with q | ⟨t, q1, q2, q3⟩
  ·exact .inl q
  ·exact .inr ⟨t, lo _ _ q1, q2, q3⟩
 ·unfold Sim.upd at ht ⊢
  split at ht
  ·rename_i q; rw [if_pos q]; exact ht
  ·rename_i q
   rw [if_neg q, if_neg (fun e => by subst e; rw [hr] at ht; cases ht)]; exact ht
theorem BlE.has {h0 h : J1} {rb : Nat} {s : List UInt8} {r : Nat} {o : AObj} (B : BlE x y (upd h0 r (some o)) rb s h) : h r = some o := B.sub r o (J5 _ _ _)
theorem BlE.free {h0 h : J1} {rb : Nat} {s : List UInt8} (B : BlE x y h0 rb s h) {r : Nat} (hr : h r = none) : h0 r = none := B.sub.none hr
theorem K4 {h0 h : J1} {rb : Nat} {s : List UInt8} (t : List UInt8) (B : BlE x y h0 rb s h) (hs : s.length + t.length <= 140737488355328) :
  DCalls (Pg G) 51 [.vp rb 0, .str t] h fun a h' => a = .tup [Y0 t.length, .prim .nilIface] /\ BlE x y h0 rb (s ++ t) h' := by
 obtain ⟨hn, p, buf, hp, hnb, A, S⟩ := B
 refine Z9 Tryz.func51 hn51 hc51 (by rw [Tryz.ntmps51]; simp) (by rw [Tryz.ntmps51]; decide) ?_
 simp -dsimp -implicitDefEqProofs (disch := omega) only [VCA, Z1, ↓Q3, Nat.reduceEqDiff, Nat.reduceBEq, Nat.reduceAdd, Nat.reduceSub, Nat.reduceMul, Nat.reduceLT, Nat.reduceLeDiff, ↓reduceIte, reduceCtorEq, Z7, Q6, SOp.rd, SI.rd, SX.rd, rdL, rdO, rdP, Q5, Q4, Q2, Q8, Q7, Z0, implies_true, forall_const, forall_eq, ne_eq, exists_eq_right_right, exists_eq_right, exists_eq_left, exists_eq_left', Q9, c51]
 refine copyCheckE_ok rb h p buf x y hp (sub_is S) ?_
 simp -dsimp -implicitDefEqProofs (disch := omega) only [VCA, Z1, ↓Q3, Nat.reduceEqDiff, Nat.reduceBEq, Nat.reduceAdd, Nat.reduceSub, Nat.reduceMul, Nat.reduceLT, Nat.reduceLeDiff, ↓reduceIte, reduceCtorEq, Z7, Q6, SOp.rd, SI.rd, SX.rd, rdL, rdO, rdP, Q5, Q4, Q2, Q8, Q7, Z0, implies_true, forall_const, forall_eq, ne_eq, exists_eq_right_right, exists_eq_right, exists_eq_left, exists_eq_left', Q9]
 by_cases he : buf = .emp /\ t = []
 ·obtain ⟨rfl, rfl⟩ := he
  refine .inl ⟨rfl, rfl, ?_⟩
  simp -dsimp -implicitDefEqProofs (disch := omega) only [VCA, Z1, ↓Q3, Nat.reduceEqDiff, Nat.reduceBEq, Nat.reduceAdd, Nat.reduceSub, Nat.reduceMul, Nat.reduceLT, Nat.reduceLeDiff, ↓reduceIte, reduceCtorEq, Z7, Q6, SOp.rd, SI.rd, SX.rd, rdL, rdO, rdP, Q5, Q4, Q2, Q8, Q7, Z0, implies_true, forall_const, forall_eq, ne_eq, exists_eq_right_right, exists_eq_right, exists_eq_left, exists_eq_left', Q9]
  exact ⟨_, Sub.refl _, hn, _, _, .inr rfl, fun q => absurd rfl q, by simpa using acc_at A, sub_at S⟩
 have hne : s ++ t ≠ [] := fun q => by
  obtain ⟨rfl, rfl⟩ := List.append_eq_nil_iff.1 q
  exact he ⟨Classical.byContradiction fun q => hnb q rfl, rfl⟩
 refine .inr ((acc_at A).app (sub_at S) (by simp [Y5]; omega) (by simp [Y5]; omega) fun a' h3 A' S' => ?_)
 obtain ⟨hv, hc⟩ : isV a' = true /\ cellsOf a' = [a'] := by
  rcases A' with ⟨_, rfl⟩ | ⟨r, _, _, rfl⟩ <;> exact ⟨rfl, rfl⟩
 simp -dsimp -implicitDefEqProofs (disch := omega) only [VCA, Z1, ↓Q3, Nat.reduceEqDiff, Nat.reduceBEq, Nat.reduceAdd, Nat.reduceSub, Nat.reduceMul, Nat.reduceLT, Nat.reduceLeDiff, ↓reduceIte, reduceCtorEq, Z7, Q6, SOp.rd, SI.rd, SX.rd, rdL, rdO, rdP, Q5, Q4, Q2, Q8, Q7, Z0, implies_true, forall_const, forall_eq, ne_eq, exists_eq_right_right, exists_eq_right, exists_eq_left, exists_eq_left', Q9, sub_is S', hv, hc]
 exact ⟨_, Sub.refl _, hn, _, _, .inr rfl, fun _ => hne, by simpa [Y5] using acc_at A', sub_at S'⟩
theorem stringE_ok {h0 h : J1} {rb : Nat} {s : List UInt8} (B : BlE x y h0 rb s h) (hs : s.length < 140737488355328) :
  DCalls (Pg G) 54 [.vp rb 0] h fun a h' => a = .str s /\ Sub h0 h' := by
 obtain ⟨hn, p, buf, hp, hne, A, S⟩ := B
 refine Z9 Tryz.func54 hn54 hc54 (by rw [Tryz.ntmps54]; simp) (by rw [Tryz.ntmps54]; decide) ?_
 rcases A with ⟨he, rfl⟩ | ⟨r, h1, h2, rfl⟩
 ·have hs0 : s = [] := by simpa [Y5] using he
  subst hs0
  simp -dsimp -implicitDefEqProofs (disch := omega) only [VCA, Z1, ↓Q3, Nat.reduceEqDiff, Nat.reduceBEq, Nat.reduceAdd, Nat.reduceSub, Nat.reduceMul, Nat.reduceLT, Nat.reduceLeDiff, ↓reduceIte, reduceCtorEq, Z7, Q6, SOp.rd, SI.rd, SX.rd, rdL, rdO, rdP, Q5, Q4, Q2, Q8, Q7, Z0, implies_true, forall_const, forall_eq, ne_eq, exists_eq_right_right, exists_eq_right, exists_eq_left, exists_eq_left', Q9, c54, sub_is S]
  exact ⟨_, Sub.refl _, sub_off hn S⟩
 ·have hs1 : s ≠ [] := hne (by intro h; cases h)
  have hs2 : 0 < s.length := List.length_pos_iff.2 hs1
  have h1' : h0 r = none /\ r ≠ rb := by
   have hne : r ≠ rb := by rintro rfl; simp at h1
   exact ⟨by simpa [Sim.upd, hne] using h1, hne⟩
  simp -dsimp -implicitDefEqProofs (disch := omega) only [VCA, Z1, ↓Q3, Nat.reduceEqDiff, Nat.reduceBEq, Nat.reduceAdd, Nat.reduceSub, Nat.reduceMul, Nat.reduceLT, Nat.reduceLeDiff, ↓reduceIte, reduceCtorEq, Z7, Q6, SOp.rd, SI.rd, SX.rd, rdL, rdO, rdP, Q5, Q4, Q2, Q8, Q7, Z0, implies_true, forall_const, forall_eq, ne_eq, exists_eq_right_right, exists_eq_right, exists_eq_left, exists_eq_left', Q9, c54, sub_is S]
  have hl : (Y5 s).length = s.length := by simp [Y5]
  refine ⟨by omega, s, _, h2, rfl, rfl, by simp [Y5], List.take_of_length_le (by simp [Y5]), by simp [Y5], hs1, by omega, ?_⟩
  simp -dsimp -implicitDefEqProofs (disch := omega) only [VCA, Z1, ↓Q3, Nat.reduceEqDiff, Nat.reduceBEq, Nat.reduceAdd, Nat.reduceSub, Nat.reduceMul, Nat.reduceLT, Nat.reduceLeDiff, ↓reduceIte, reduceCtorEq, Z7, Q6, SOp.rd, SI.rd, SX.rd, rdL, rdO, rdP, Q5, Q4, Q2, Q8, Q7, Z0, implies_true, forall_const, forall_eq, ne_eq, exists_eq_right_right, exists_eq_right, exists_eq_left, exists_eq_left', Q9, sub_is S]
  first
   | exact ⟨_, Sub.refl _, Sub.del (sub_off hn S) h1'.1⟩
   | (refine ⟨?_, _, Sub.refl _, Sub.del (sub_off hn S) h1'.1⟩; rw [<- sub_is S]; simp [Sim.del, Ne.symm h1'.2])
end
end Go.Proofs.K
end
