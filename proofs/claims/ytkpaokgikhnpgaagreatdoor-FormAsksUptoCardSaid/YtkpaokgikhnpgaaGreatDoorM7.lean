/- Texts of this claim, one behind the other. -/
import Derived.Test.YtkpaokgikhnpgaaGreatDoorM6
import Derived.Test.YtkpaokgikhnpgaaGreatDoorM5
import Derived.Test.YtkpaokgikhnpgaaGreatDoorM4
set_option maxHeartbeats 4000000
set_option maxRecDepth 100000
section
set_option linter.unusedSimpArgs false
set_option linter.unusedVariables false
namespace Go.Proofs.K
open Go Go.Sim Go.Proofs
variable {G : T0}
def k47_1 : List UInt8 := [104, 105, 100, 100, 101, 110, 32, 116, 101, 120, 116, 32, 110, 117, 109, 98, 101, 114, 32, 99, 104, 101, 99, 107, 98, 111, 120, 32, 114, 97, 100, 105, 111, 32, 115, 117, 98, 109, 105, 116, 32, 114, 101, 115, 101, 116, 32, 98, 117, 116, 116, 111, 110, 32, 105, 109, 97, 103, 101, 32, 102, 105, 108, 101]
def c47 : SFun := ⟨.seq (.reg [o 2 (.boxF 36 2 (.t 0)), o 4 (.mv (.c (.str [])))]) (.seq (.seq (.reg [o 8 (.fldA 0 (.t 2)), o 9 (.ld 1 false (.t 8)), o 10 (.mv (.t 1)), o 11 (.idxA 6 (.t 9) (.t 10)), o 12 (.fldA 1 (.t 11)), o 13 (.ld 1 false (.t 12)), o 14 (.bin .neq (.t 13) (.c (.str [105, 110, 112, 117, 116])))]) (.cond (.t 14) (.seq (.reg [o 15 (.fldA 0 (.t 2)), o 16 (.ld 1 false (.t 15)), o 17 (.mv (.t 1)), o 18 (.idxA 6 (.t 16) (.t 17)), o 19 (.fldA 1 (.t 18)), o 20 (.ld 1 false (.t 19)), o 4 (.mv (.t 20))]) .ret) .skip)) (.seq (.reg [o 21 (.ld 2 true (.t 2)), o 22 (.mv (.t 1)), o 23 (.pcall 46 [.t 21, .t 22, .c (.str [116, 121, 112, 101])]), o 5 (.mv (.t 23))]) (.seq (.reg [o 6 (.mv (.c (.str [])))]) (.seq (.seq (.reg [o 7 (.mv (.c (.int .i64 0)))]) (.block 0 (.loop (.seq (.seq (.reg [o 24 (.mv (.t 7)), o 25 (.mv (.t 5)), o 26 (.lenS (.t 25)), o 27 (.bin .lss (.t 24) (.t 26))]) (.cond (.t 27) .skip (.exit 0))) (.seq (.block 1 (.reg [o 30 (.mv (.t 6)), o 31 (.mv (.t 5)), o 32 (.mv (.t 7)), o 33 (.idxS (.t 31) (.t 32)), o 34 (.pcall 91 [.t 33]), o 35 (.bldF 5 1 [.t 34]), o 36 (.b2s (.t 35)), o 37 (.bin .add (.t 30) (.t 36)), o 6 (.mv (.t 37))])) (.reg [o 28 (.mv (.t 7)), o 29 (.bin .add (.t 28) (.c (.int .i64 1))), o 7 (.mv (.t 29))])))))) (.seq (.seq (.reg [o 38 (.mv (.t 6)), o 39 (.bin .neq (.t 38) (.c (.str []))), o 40 (.mv (.t 39)), ⟨some 41, .mv (.t 6), some (40, true)⟩, ⟨some 42, .pcall 59 [.t 41, .c (.str k47_1)], some (40, true)⟩, o 43 (.pick (.t 40) (.t 42) (.c (.bool false)))]) (.cond (.t 43) (.seq (.reg [o 44 (.mv (.t 6)), o 4 (.mv (.t 44))]) .ret) .skip)) (.seq (.reg [o 4 (.mv (.c (.str [116, 101, 120, 116])))]) .ret)))))), [.tmp 4]⟩
theorem hc47 : J1 Tryz.prog {pure := [46, 91, 59]} Tryz.f47 = some c47 := by kernel_rfl
theorem inputType_ok (d : HDoc) (V : DV d) (sm : DocSm d) (n : Int) (hn : inD d n) : PCalls (Pg G) 47 [.agg (Q7 d), Q4 n] (.str (Y1 d n)) := fun h => by
  have hl := V.len
  have n0 := hn.1
  have n1 := hn.2
  have e0 : nth d.nodes n.toNat = nd d n := rfl
  unfold Y1
  by_cases hi : (nd d n).name = [105, 110, 112, 117, 116]
  · have bi : ((nd d n).name != [105, 110, 112, 117, 116]) = false := by simpa using hi
    rw [if_pos hi]
    have cA := JT (G := G) d sm n hn [116, 121, 112, 101]
    have al := T6 V hn [116, 121, 112, 101]
    obtain ⟨v, hv⟩ : ∃ v, X5 d n [116, 121, 112, 101] = v := ⟨_, rfl⟩
    rw [hv] at cA al ⊢
    unfold Q7 at cA
    have ek : k47_1 = typS := by decide +kernel
    have cW := fun x => wordW_ok (G := G) x typS (by decide)
    have hnil : inW [] typS = false := by decide +kernel
    refine Q1 Tryz.func47 (by kernel_rfl) hc47 (by rw [Tryz.ntmps47]; simp) (by rw [Tryz.ntmps47]; decide) ?_
    simp -dsimp -implicitDefEqProofs (disch := omega) only [VCA, Nat.reduceEqDiff, Nat.reduceAdd, Nat.reduceLeDiff, ↓reduceIte, c47, Q7, Q5, e0, bi]
    repeat' (first | ((with_reducible refine brC (fun _ => ?_) fun _ => ?_) <;> try (exfalso; omega)) | (with_reducible apply pcallE.of; · exact cA) | (with_reducible refine And.intro ?_ ?_; · omega) | simp -dsimp -implicitDefEqProofs (disch := omega) only [VCA, ↓reduceIte])
    refine LoopVC.intro (fun m e h' => ∃ k : Nat, k <= v.length /\ m = v.length - k /\ e 5 = .str v /\ e 6 = .str ((v.take k).map lwB) /\ e 7 = Q4 k /\ h' = h) v.length
      (by exact ⟨0, by omega, by omega, rfl, rfl, rfl, rfl⟩) ?_
    rintro m e h' ⟨k, hk, rfl, e5, e6, e7, rfl⟩
    by_cases hlt : k < v.length
    · have d1 : decide ((k : Int) < (v.length : Int)) = true := decide_eq_true (by omega)
      obtain ⟨b, hb⟩ : ∃ b, v.getD k 0 = b := ⟨_, rfl⟩
      have cL := lwB_ok (G := G) b
      have tk : (v.take (k + 1)).map lwB = (v.take k).map lwB ++ [lwB b] := by
        have : v.take (k + 1) = v.take k ++ [b] := by
          rw [List.take_succ_eq_append_getElem hlt, <- hb, List.getD_eq_getElem?_getD, List.getElem?_eq_getElem hlt]; rfl
        rw [this, List.map_append]; rfl
      have tl : ((v.take k).map lwB).length = k := by rw [List.length_map, List.length_take]; omega
      repeat' (first | ((with_reducible refine brC (fun _ => ?_) fun _ => ?_) <;> try (exfalso; omega)) | (with_reducible apply pcallE.of; · exact cL) | (with_reducible refine And.intro ?_ ?_; · omega) | simp -dsimp -implicitDefEqProofs (disch := omega) only [VCA, Nat.reduceEqDiff, ↓reduceIte, Z2, forall_eq, e5, e6, e7, d1, hb])
      all_goals first
        | exact ⟨[lwB b], rfl, by rw [List.length_take]; simp; omega, _, by omega, k + 1, by omega, rfl, by rw [tk], by omega⟩
        | trace_state
    · obtain rfl : k = v.length := by omega
      have d1 : decide ((v.length : Int) < (v.length : Int)) = false := decide_eq_false (by omega)
      rw [List.take_length] at e6
      have cW := cW (v.map lwB)
      have hW : (Z6 32 [] typS).any (· == v.map lwB) = inW (v.map lwB) typS := rfl
      rw [hW] at cW
      unfold typM
      generalize v.map lwB = u at *
      by_cases hu : u = []
      · subst hu
        have bu : (([] : List UInt8) != []) = false := rfl
        rw [hnil, if_neg (by simp)]
        repeat' (first | ((with_reducible refine brC (fun _ => ?_) fun _ => ?_) <;> try (exfalso; omega)) | (with_reducible refine And.intro ?_ ?_; · omega) | simp -dsimp -implicitDefEqProofs (disch := omega) only [↓Q0 40, VCA, Nat.reduceEqDiff, ↓reduceIte, exists_eq_right, e5, e6, e7, d1, bu])
        all_goals first | exact Sub.refl _ | exact ⟨Sub.refl _, rfl⟩ | trace_state
      · have bu : (u != []) = true := by simpa using hu
        cases hw : inW u typS
        · rw [hw] at cW
          rw [if_neg (by simp)]
          repeat' (first | ((with_reducible refine brC (fun _ => ?_) fun _ => ?_) <;> try (exfalso; omega)) | (with_reducible apply pcallE.of; · exact cW) | (with_reducible refine And.intro ?_ ?_; · omega) | simp -dsimp -implicitDefEqProofs (disch := omega) only [↓Q0 40, VCA, Nat.reduceEqDiff, ↓reduceIte, exists_eq_right, e5, e6, e7, d1, bu, ek])
          all_goals first | exact Sub.refl _ | exact ⟨Sub.refl _, rfl⟩ | trace_state
        · rw [hw] at cW
          rw [if_pos rfl]
          repeat' (first | ((with_reducible refine brC (fun _ => ?_) fun _ => ?_) <;> try (exfalso; omega)) | (with_reducible apply pcallE.of; · exact cW) | (with_reducible refine And.intro ?_ ?_; · omega) | simp -dsimp -implicitDefEqProofs (disch := omega) only [↓Q0 40, VCA, Nat.reduceEqDiff, ↓reduceIte, exists_eq_right, e5, e6, e7, d1, bu, ek])
          all_goals first | exact Sub.refl _ | exact ⟨Sub.refl _, rfl⟩ | trace_state
  · have bi : ((nd d n).name != [105, 110, 112, 117, 116]) = true := by simpa using hi
    rw [if_neg hi]
    refine Q1 Tryz.func47 (by kernel_rfl) hc47 (by rw [Tryz.ntmps47]; simp) (by rw [Tryz.ntmps47]; decide) ?_
    simp -dsimp -implicitDefEqProofs (disch := omega) only [VCA, Nat.reduceEqDiff, Nat.reduceAdd, Nat.reduceLeDiff, ↓reduceIte, exists_eq_right, c47, Q7, Q5, e0, bi]
    repeat' (first | ((with_reducible refine brC (fun _ => ?_) fun _ => ?_) <;> try (exfalso; omega)) | (with_reducible refine And.intro ?_ ?_; · omega) | simp -dsimp -implicitDefEqProofs (disch := omega) only [↓Q0 40, ↓Z0 40, VCA, TX, ↓U5, Nat.reduceEqDiff, Nat.reduceBEq, Nat.reduceAdd, Nat.reduceSub, Nat.reduceMul, Nat.reduceLT, Nat.reduceLeDiff, ↓reduceIte, reduceCtorEq, Y6, Q9, SOp.rd, SI.rd, SX.rd, rdL, rdO, rdP, Z2, Y3, J6, K7, X0, Y7, implies_true, forall_const, forall_eq, ne_eq, exists_eq_right_right, exists_eq_right, exists_eq_left, exists_eq_left', Z7, Z3, ZJ, X6, ZX, Q7, Q5, e0, bi])
    all_goals first | exact ⟨by omega, by omega, Sub.refl _⟩ | exact Sub.refl _ | trace_state
def c20 : SFun := ⟨.seq (.reg [o 2 (.boxF 36 2 (.t 0)), o 4 (.mv (.c (.int .i64 0)))]) (.seq (.seq (.reg [o 7 (.ld 2 true (.t 2)), o 8 (.mv (.t 1)), o 9 (.pcall 49 [.t 7, .t 8, .c (.str [102, 111, 114, 109])])]) (.cond (.t 9) (.seq (.reg [o 10 (.ld 2 true (.t 2)), o 11 (.pcall 44 [.t 10, .c (.int .i64 0)]), o 5 (.mv (.t 11))]) (.seq (.seq (.reg [o 6 (.mv (.c (.int .i64 0)))]) (.block 0 (.loop (.seq (.seq (.reg [o 12 (.mv (.t 6)), o 13 (.mv (.t 5)), o 14 (.len (.t 13)), o 15 (.bin .lss (.t 12) (.t 14))]) (.cond (.t 15) .skip (.exit 0))) (.seq (.block 1 (.seq (.dreg [(o 18 (.ld 2 true (.t 2)), none), (o 19 (.mv (.t 5)), none), (o 20 (.mv (.t 6)), none), (o 21 (.idxA 1 (.t 19) (.t 20)), none), (o 22 (.ld 1 false (.t 21)), none), (o 23 (.pcall 49 [.t 18, .t 22, .c (.str [105, 100])]), none), (o 24 (.mv (.t 23)), none), (⟨some 25, .ld 2 true (.t 2), some (24, true)⟩, none), (⟨some 26, .mv (.t 5), some (24, true)⟩, none), (⟨some 27, .mv (.t 6), some (24, true)⟩, none), (⟨some 28, .idxA 1 (.t 26) (.t 27), some (24, true)⟩, none), (⟨some 29, .ld 1 false (.t 28), some (24, true)⟩, none), (⟨some 30, .pcall 46 [.t 25, .t 29, .c (.str [105, 100])], some (24, true)⟩, none), (⟨some 31, .ld 2 true (.t 2), some (24, true)⟩, none), (⟨some 32, .mv (.t 1), some (24, true)⟩, none), (⟨some 33, .pcall 46 [.t 31, .t 32, .c (.str [102, 111, 114, 109])], some (24, true)⟩, none), (⟨some 34, .bin .eql (.t 30) (.t 33), some (24, true)⟩, none), (o 35 (.pick (.t 24) (.t 34) (.c (.bool false))), none)]) (.cond (.t 35) (.seq (.seq (.dreg [(o 36 (.fldA 0 (.t 2)), none), (o 37 (.ld 1 false (.t 36)), none), (o 38 (.mv (.t 5)), none), (o 39 (.mv (.t 6)), none), (o 40 (.idxA 1 (.t 38) (.t 39)), none), (o 41 (.ld 1 false (.t 40)), none), (o 42 (.idxA 6 (.t 37) (.t 41)), none), (o 43 (.fldA 1 (.t 42)), none), (o 44 (.ld 1 false (.t 43)), none), (o 45 (.bin .eql (.t 44) (.c (.str [102, 111, 114, 109]))), none)]) (.cond (.t 45) (.seq (.reg [o 46 (.mv (.t 5)), o 47 (.mv (.t 6)), o 48 (.idxA 1 (.t 46) (.t 47)), o 49 (.ld 1 false (.t 48)), o 4 (.mv (.t 49))]) .ret) .skip)) (.seq (.reg [o 4 (.mv (.c (.int .i64 (-1))))]) .ret)) .skip))) (.reg [o 16 (.mv (.t 6)), o 17 (.bin .add (.t 16) (.c (.int .i64 1))), o 6 (.mv (.t 17))])))))) (.seq (.reg [o 4 (.mv (.c (.int .i64 (-1))))]) .ret))) .skip)) (.seq (.seq (.reg [o 50 (.fldA 0 (.t 2)), o 51 (.ld 1 false (.t 50)), o 52 (.mv (.t 1)), o 53 (.idxA 6 (.t 51) (.t 52)), o 54 (.fldA 4 (.t 53)), o 55 (.ld 1 false (.t 54)), o 1 (.mv (.t 55))]) (.block 2 (.loop (.seq (.seq (.reg [o 56 (.mv (.t 1)), o 57 (.bin .geq (.t 56) (.c (.int .i64 0)))]) (.cond (.t 57) .skip (.exit 2))) (.seq (.block 3 (.seq (.reg [o 64 (.fldA 0 (.t 2)), o 65 (.ld 1 false (.t 64)), o 66 (.mv (.t 1)), o 67 (.idxA 6 (.t 65) (.t 66)), o 68 (.fldA 0 (.t 67)), o 69 (.ld 1 false (.t 68)), o 70 (.bin .eql (.t 69) (.c (.int .i64 2))), o 71 (.mv (.t 70)), ⟨some 72, .fldA 0 (.t 2), some (71, true)⟩, ⟨some 73, .ld 1 false (.t 72), some (71, true)⟩, ⟨some 74, .mv (.t 1), some (71, true)⟩, ⟨some 75, .idxA 6 (.t 73) (.t 74), some (71, true)⟩, ⟨some 76, .fldA 1 (.t 75), some (71, true)⟩, ⟨some 77, .ld 1 false (.t 76), some (71, true)⟩, ⟨some 78, .bin .eql (.t 77) (.c (.str [102, 111, 114, 109])), some (71, true)⟩, o 79 (.pick (.t 71) (.t 78) (.c (.bool false)))]) (.cond (.t 79) (.seq (.reg [o 80 (.mv (.t 1)), o 4 (.mv (.t 80))]) .ret) .skip))) (.reg [o 58 (.fldA 0 (.t 2)), o 59 (.ld 1 false (.t 58)), o 60 (.mv (.t 1)), o 61 (.idxA 6 (.t 59) (.t 60)), o 62 (.fldA 4 (.t 61)), o 63 (.ld 1 false (.t 62)), o 1 (.mv (.t 63))])))))) (.seq (.reg [o 4 (.mv (.c (.int .i64 (-1))))]) .ret))), [.tmp 4]⟩
theorem hc20 : J1 Tryz.prog {pure := [49, 46, 44]} Tryz.f20 = some c20 := by kernel_rfl
theorem refOwner_ok (d : HDoc) (V : DV d) (sm : DocSm d) (n : Int) (hn : inD d n) : PCalls (Pg G) 20 [.agg (Q7 d), Q4 n] (Q4 (ownM d (Z4 d 0) n)) := fun h => by
  have hl := V.len
  have n0 := hn.1
  have n1 := hn.2
  have e0 : ∀ k : Int, nth d.nodes k.toNat = nd d k := fun _ => rfl
  have cH := YV (G := G) d sm n hn [102, 111, 114, 109]
  have cA := JT (G := G) d sm n hn [102, 111, 114, 109]
  have cB := below_ok (G := G) d V sm 0 V.zero
  have gH := fun k hk => YV (G := G) d sm k hk [105, 100]
  have gA := fun k hk => JT (G := G) d sm k hk [105, 100]
  have bl := U1 V V.zero
  have bi := T7 V 0 V.zero
  unfold ownM
  generalize Z4 d 0 = o at *
  have eD : ∀ x, (Q7 d = x) = (Q7 d = x) := fun _ => rfl
  have dE : Q7 d = [sl Q5 d.nodes, .bool d.quirks] := rfl
  rw [dE] at cH cA cB
  cases hh : X2 d n [102, 111, 114, 109]
  · rw [hh] at cH
    rw [if_pos rfl]
    have hpar : ∀ k, inD d k -> (nd d k).parent = -1 \/ (inD d (nd d k).parent /\ up d k = up d (nd d k).parent + 1) := fun k hk => by
      rcases V.par k hk with h1 | h1
      · exact .inl h1
      · exact .inr ⟨h1.1, V.up_par hk h1.1.1⟩
    have hdeep := V.deep
    refine Q1 Tryz.func20 (by kernel_rfl) hc20 (by rw [Tryz.ntmps20]; simp) (by rw [Tryz.ntmps20]; decide) ?_
    simp -dsimp -implicitDefEqProofs (disch := omega) only [VCA, Nat.reduceEqDiff, Nat.reduceAdd, ↓reduceIte, c20, Q7]
    repeat' (first | ((with_reducible refine brC (fun _ => ?_) fun _ => ?_) <;> try (exfalso; omega)) | (with_reducible apply pcallE.of; · exact cH) | (with_reducible refine And.intro ?_ ?_; · omega) | simp -dsimp -implicitDefEqProofs (disch := omega) only [VCA, Nat.reduceEqDiff, Nat.reduceAdd, Nat.reduceLeDiff, ↓reduceIte, Q5, e0])
    refine LoopVC.intro (fun m e h' => ∃ (c : Int) (g : Nat), m = g /\ (c = -1 \/ (inD d c /\ up d c + 1 < g)) /\ 0 < g /\ e 1 = Q4 c /\ e 2 = .pin [sl Q5 d.nodes, .bool d.quirks] /\ h' = h /\ abF g d (isN d [102, 111, 114, 109]) c = abM d (isN d [102, 111, 114, 109]) n) 42
      (by
        refine ⟨(nd d n).parent, 42, rfl, ?_, by omega, rfl, rfl, rfl, rfl⟩
        rcases hpar n hn with h1 | h1
        · exact .inl h1
        · have := hdeep _ h1.1; exact .inr ⟨h1.1, by omega⟩) ?_
    rintro m e h' ⟨c, g, rfl, hc, hg, e1, e2, rfl, hM⟩
    obtain ⟨g, rfl⟩ : ∃ k, m = k + 1 := ⟨m - 1, by omega⟩
    rw [abF] at hM
    by_cases h0 : 0 <= c
    · rcases hc with rfl | ⟨hc, hu⟩
      · omega
      · rw [if_neg (by omega)] at hM
        have c0 := hc.1
        have c1 := hc.2
        have d0 : decide (0 <= c) = true := decide_eq_true h0
        obtain ⟨b2, hb2⟩ : ∃ b, ((nd d c).kind == 2) = b := ⟨_, rfl⟩
        obtain ⟨b3, hb3⟩ : ∃ b, ((nd d c).name == [102, 111, 114, 109]) = b := ⟨_, rfl⟩
        have hi : isN d [102, 111, 114, 109] c = (b3 && b2) := by unfold isN; rw [hb2, hb3]
        rw [hi] at hM
        cases b2 <;> cases b3
        all_goals
          simp only [Bool.and_true, Bool.and_false, Bool.false_eq_true, if_false, if_true] at hM
          repeat' (first | ((with_reducible refine brC (fun _ => ?_) fun _ => ?_) <;> try (exfalso; omega)) | (with_reducible refine And.intro ?_ ?_; · omega) | simp -dsimp -implicitDefEqProofs (disch := omega) only [↓Q0 71, VCA, Nat.reduceEqDiff, Nat.reduceAdd, Nat.reduceLeDiff, ↓reduceIte, exists_eq_right_right, exists_eq_left', e1, e2, d0, Q5, e0, hb2, hb3])
        all_goals first
          | exact ⟨Sub.refl _, hM⟩
          | (refine ⟨g, by omega, (nd d c).parent, ?_, by omega, rfl, hM⟩
             rcases hpar c hc with h1 | h1
             · exact .inl h1
             · exact .inr ⟨h1.1, by omega⟩)
          | trace_state
    · have d0 : decide (0 <= c) = false := decide_eq_false h0
      have hcm : c = -1 := by
        rcases hc with rfl | ⟨hc, hu⟩
        · rfl
        · have := hc.1; omega
      rw [if_pos (by omega)] at hM
      repeat' (first | ((with_reducible refine brC (fun _ => ?_) fun _ => ?_) <;> try (exfalso; omega)) | (with_reducible refine And.intro ?_ ?_; · omega) | simp -dsimp -implicitDefEqProofs (disch := omega) only [VCA, ↓reduceIte, exists_eq_right_right, exists_eq_left', e1, d0])
      all_goals first | exact ⟨Sub.refl _, by rw [<- hM, hcm]⟩ | (rw [<- hM, hcm]; exact Sub.refl _) | trace_state
  · rw [hh] at cH
    rw [if_neg (by simp)]
    generalize X5 d n [102, 111, 114, 109] = id at *
    refine Q1 Tryz.func20 (by kernel_rfl) hc20 (by rw [Tryz.ntmps20]; simp) (by rw [Tryz.ntmps20]; decide) ?_
    simp -dsimp -implicitDefEqProofs (disch := omega) only [VCA, Nat.reduceEqDiff, Nat.reduceAdd, ↓reduceIte, c20, Q7]
    repeat' (first | ((with_reducible refine brC (fun _ => ?_) fun _ => ?_) <;> try (exfalso; omega)) | (with_reducible apply pcallE.of; · exact cH) | (with_reducible apply pcallE.of; · exact cB) | (with_reducible refine And.intro ?_ ?_; · omega) | simp -dsimp -implicitDefEqProofs (disch := omega) only [VCA, Nat.reduceEqDiff, Nat.reduceAdd, ↓reduceIte])
    refine LoopVC.intro (fun m e h' => ∃ k : Nat, k <= o.length /\ m = o.length - k /\ e 1 = Q4 n /\ e 2 = .pin [sl Q5 d.nodes, .bool d.quirks] /\ e 5 = sl Z3 o /\ e 6 = Q4 k /\ h' = h /\ o.find? (fun k => X2 d k [105, 100] && X5 d k [105, 100] == id) = (o.drop k).find? (fun k => X2 d k [105, 100] && X5 d k [105, 100] == id)) o.length
      (by exact ⟨0, by omega, by omega, rfl, rfl, rfl, rfl, rfl, rfl⟩) ?_
    rintro m e h' ⟨k, hk, rfl, e1, e2, e5, e6, rfl, hf⟩
    by_cases hlt : k < o.length
    · have d1 : decide ((k : Int) < (o.length : Int)) = true := decide_eq_true (by omega)
      rw [drop_cons' hlt, List.find?_cons] at hf
      obtain ⟨x, hx⟩ : ∃ x, nth o k = x := ⟨_, rfl⟩
      have hxo : inD d x := by rw [<- hx]; exact bi _ (Y2 hlt)
      rw [hx] at hf
      have x0 := hxo.1
      have x1 := hxo.2
      have g1 := gH x hxo
      have g2 := gA x hxo
      rw [dE] at g1 g2
      cases hb : X2 d x [105, 100]
      · rw [hb] at g1
        rw [hb] at hf
        repeat' (first | ((with_reducible refine brC (fun _ => ?_) fun _ => ?_) <;> try (exfalso; omega)) | (with_reducible apply pcallE.of; · exact g1) | (with_reducible refine And.intro ?_ ?_; · omega) | simp -dsimp -implicitDefEqProofs (disch := omega) only [↓Z0 24, VCA, Nat.reduceEqDiff, Nat.reduceAdd, ↓reduceIte, Y6, Q9, Z7, Z3, e1, e2, e5, e6, d1, hx])
        all_goals first
          | exact ⟨_, by omega, k + 1, by omega, rfl, by omega, hf⟩
          | trace_state
      · rw [hb] at g1
        rw [hb] at hf
        have hk2 := has_el V hxo hb
        cases hc : (X5 d x [105, 100] == id)
        · rw [hc] at hf
          repeat' (first | ((with_reducible refine brC (fun _ => ?_) fun _ => ?_) <;> try (exfalso; omega)) | (with_reducible apply pcallE.of; · exact g1) | (with_reducible apply pcallE.of; · exact g2) | (with_reducible apply pcallE.of; · exact cA) | (with_reducible refine And.intro ?_ ?_; · omega) | simp -dsimp -implicitDefEqProofs (disch := omega) only [↓Z0 24, VCA, Nat.reduceEqDiff, Nat.reduceAdd, ↓reduceIte, Y6, Q9, Z7, Z3, e1, e2, e5, e6, d1, hx, hc])
          all_goals first
            | exact ⟨_, by omega, k + 1, by omega, rfl, by omega, hf⟩
            | trace_state
        · rw [hc] at hf
          simp only [Bool.and_self] at hf
          rw [hf]
          have hi : isN d [102, 111, 114, 109] x = ((nd d x).name == [102, 111, 114, 109]) := by unfold isN; rw [hk2]; simp
          obtain ⟨b3, hb3⟩ : ∃ b, ((nd d x).name == [102, 111, 114, 109]) = b := ⟨_, rfl⟩
          simp only [hi, hb3]
          cases b3
          all_goals
            repeat' (first | ((with_reducible refine brC (fun _ => ?_) fun _ => ?_) <;> try (exfalso; omega)) | (with_reducible apply pcallE.of; · exact g1) | (with_reducible apply pcallE.of; · exact g2) | (with_reducible apply pcallE.of; · exact cA) | (with_reducible refine And.intro ?_ ?_; · omega) | simp -dsimp -implicitDefEqProofs (disch := omega) only [↓Z0 24, VCA, Nat.reduceEqDiff, Nat.reduceAdd, Nat.reduceLeDiff, ↓reduceIte, Y6, Q9, exists_eq_right, Z7, Z3, e1, e2, e5, e6, d1, hx, hc, hb3, Q5, e0])
          all_goals first | exact Sub.refl _ | exact ⟨Sub.refl _, rfl⟩ | trace_state
    · obtain rfl : k = o.length := by omega
      have d1 : decide ((o.length : Int) < (o.length : Int)) = false := decide_eq_false (by omega)
      rw [List.drop_length] at hf
      rw [hf]
      repeat' (first | ((with_reducible refine brC (fun _ => ?_) fun _ => ?_) <;> try (exfalso; omega)) | (with_reducible refine And.intro ?_ ?_; · omega) | simp -dsimp -implicitDefEqProofs (disch := omega) only [VCA, Nat.reduceEqDiff, ↓reduceIte, exists_eq_right_right, e5, e6, d1])
      all_goals first | exact Sub.refl _ | exact ⟨Sub.refl _, rfl⟩ | trace_state
theorem text_name (d : HDoc) (V : DV d) {n : Int} (hn : inD d n) (h : (nd d n).name ≠ []) : YZ d n = Z9 d (Z4 d n) := by
  have h1 := V.node n hn
  unfold ZV at h1
  split at h1
  · omega
  · rename_i h2
    have hb : JZ (nd d n) = true := by
      cases hq : JZ (nd d n)
      · exact absurd (.inr (.inr hq)) h2
      · rfl
    unfold JZ at hb
    simp only [Bool.and_eq_true, Bool.or_eq_true, decide_eq_true_eq] at hb
    have hk : (nd d n).kind = 2 \/ (nd d n).kind = 5 := by
      rcases hb.1.1.1 with (h3 | h3) | h3
      · exact .inl h3
      · exact .inr h3
      · exact absurd h3 h
    unfold YZ
    rw [if_neg (by omega)]
def c50 : SFun := ⟨.seq (.reg [o 2 (.boxF 36 2 (.t 0)), o 4 (.mv (.c (.str [])))]) (.seq (.seq (.reg [o 5 (.ld 2 true (.t 2)), o 6 (.mv (.t 1)), o 7 (.pcall 49 [.t 5, .t 6, .c (.str [118, 97, 108, 117, 101])])]) (.cond (.t 7) (.seq (.reg [o 8 (.ld 2 true (.t 2)), o 9 (.mv (.t 1)), o 10 (.pcall 46 [.t 8, .t 9, .c (.str [118, 97, 108, 117, 101])]), o 4 (.mv (.t 10))]) .ret) .skip)) (.seq (.reg [o 11 (.ld 2 true (.t 2)), o 12 (.mv (.t 1)), o 13 (.pcall 58 [.t 11, .t 12]), o 4 (.mv (.t 13))]) .ret)), [.tmp 4]⟩
theorem hc50 : J1 Tryz.prog {pure := [49, 46, 58]} Tryz.f50 = some c50 := by kernel_rfl
theorem refOptV_ok (d : HDoc) (V : DV d) (sm : DocSm d) (n : Int) (hn : inD d n) (hm : (nd d n).name ≠ []) : PCalls (Pg G) 50 [.agg (Q7 d), Q4 n] (.str (optV d n)) := fun h => by
  have cH := YV (G := G) d sm n hn [118, 97, 108, 117, 101]
  have cA := JT (G := G) d sm n hn [118, 97, 108, 117, 101]
  have cT := textUnder_ok (G := G) d V sm n hn
  rw [text_name d V hn hm] at cT
  unfold optV
  unfold Q7 at cH cA cT
  cases hb : X2 d n [118, 97, 108, 117, 101]
  all_goals
    rw [hb] at cH
    refine Q1 Tryz.func50 (by kernel_rfl) hc50 (by rw [Tryz.ntmps50]; simp) (by rw [Tryz.ntmps50]; decide) ?_
    simp -dsimp -implicitDefEqProofs (disch := omega) only [VCA, Nat.reduceEqDiff, Nat.reduceAdd, ↓reduceIte, c50, Q7]
    repeat' (first | ((with_reducible refine brC (fun _ => ?_) fun _ => ?_) <;> try (exfalso; omega)) | (with_reducible apply pcallE.of; · exact cH) | (with_reducible apply pcallE.of; · exact cA) | (with_reducible apply pcallE.of; · exact cT) | (with_reducible refine And.intro ?_ ?_; · omega) | simp -dsimp -implicitDefEqProofs (disch := omega) only [VCA, Nat.reduceEqDiff, Nat.reduceAdd, ↓reduceIte, exists_eq_right])
  all_goals first | exact Sub.refl _ | exact ⟨Sub.refl _, rfl⟩ | trace_state
theorem acc_keep {h0 h h2 : Q2} {ty : TypeId} {sz : Nat} {cells : List (List AVal)} {a b b' : AVal} (A : Acc h0 ty sz cells a h) (hd : ∀ r, U3 a = some r -> U3 b ≠ some r) (kp : ∀ r o, h r = some o -> U3 b ≠ some r -> h2 r = some o /\ U3 b' ≠ some r) :
    Acc h0 ty sz cells a h2 /\ ∀ r, U3 a = some r -> U3 b' ≠ some r := by
  rcases A with ⟨h1, rfl⟩ | ⟨r, q0, q1, rfl⟩
  · exact ⟨.inl ⟨h1, rfl⟩, fun r e => by cases e⟩
  · have := kp r _ q1 (hd r rfl)
    exact ⟨.inr ⟨r, q0, this.1, rfl⟩, fun r' e => by cases e; exact this.2⟩
def alO (d : HDoc) (L : List Int) (k : Nat) : List Int := ((L.take k).drop 1).filter (isN d [111, 112, 116, 105, 111, 110])
def seO (d : HDoc) (L : List Int) (k : Nat) : List Int := (alO d L k).filter fun k => X2 d k [115, 101, 108, 101, 99, 116, 101, 100]
theorem alO_step {d : HDoc} {L : List Int} {k : Nat} (h1 : 1 <= k) (hk : k < L.length) : alO d L (k + 1) = alO d L k ++ (if isN d [111, 112, 116, 105, 111, 110] (nth L k) = true then [nth L k] else []) := by
  unfold alO
  rw [X4 hk, List.drop_append_of_le_length (by rw [List.length_take]; omega), List.filter_append, List.filter_cons, List.filter_nil]
theorem seO_step {d : HDoc} {L : List Int} {k : Nat} (h1 : 1 <= k) (hk : k < L.length) : seO d L (k + 1) = seO d L k ++ (if isN d [111, 112, 116, 105, 111, 110] (nth L k) = true /\ X2 d (nth L k) [115, 101, 108, 101, 99, 116, 101, 100] = true then [nth L k] else []) := by
  unfold seO
  rw [alO_step h1 hk, List.filter_append]
  congr 1
  cases isN d [111, 112, 116, 105, 111, 110] (nth L k) <;> cases hb : X2 d (nth L k) [115, 101, 108, 101, 99, 116, 101, 100] <;> simp [hb]
theorem alO_len (d : HDoc) (L : List Int) (k : Nat) : (alO d L k).length <= L.length := by
  have := List.length_filter_le (isN d [111, 112, 116, 105, 111, 110]) ((L.take k).drop 1)
  rw [List.length_drop, List.length_take] at this
  unfold alO; omega
theorem seO_len (d : HDoc) (L : List Int) (k : Nat) : (seO d L k).length <= L.length := Nat.le_trans (List.length_filter_le _ _) (alO_len d L k)
theorem take1_filter {p : Int -> Bool} {l : List Int} {k : Nat} (h : (l.take k).filter p ≠ []) : (l.filter p).take 1 = ((l.take k).filter p).take 1 := by
  conv => lhs; rw [<- List.take_append_drop k l, List.filter_append]
  cases hq : (l.take k).filter p with
  | nil => exact absurd hq h
  | cons x r => rfl
def c48 : SFun := ⟨.seq (.reg [o 2 (.boxF 36 2 (.t 0)), o 4 (.mv (.c .emp))]) (.seq (.reg [o 5 (.mv (.c .emp)), o 6 (.mv (.c .emp))]) (.seq (.reg [o 10 (.ld 2 true (.t 2)), o 11 (.mv (.t 1)), o 12 (.pcall 44 [.t 10, .t 11]), o 7 (.mv (.t 12))]) (.seq (.seq (.reg [o 8 (.mv (.c (.int .i64 1)))]) (.block 0 (.loop (.seq (.seq (.reg [o 13 (.mv (.t 8)), o 14 (.mv (.t 7)), o 15 (.len (.t 14)), o 16 (.bin .lss (.t 13) (.t 15))]) (.cond (.t 16) .skip (.exit 0))) (.seq (.block 1 (.seq (.dreg [(o 19 (.fldA 0 (.t 2)), none), (o 20 (.ld 1 false (.t 19)), none), (o 21 (.mv (.t 7)), none), (o 22 (.mv (.t 8)), none), (o 23 (.idxA 1 (.t 21) (.t 22)), none), (o 24 (.ld 1 false (.t 23)), none), (o 25 (.idxA 6 (.t 20) (.t 24)), none), (o 26 (.fldA 0 (.t 25)), none), (o 27 (.ld 1 false (.t 26)), none), (o 28 (.bin .eql (.t 27) (.c (.int .i64 2))), none), (o 29 (.mv (.t 28)), none), (⟨some 30, .fldA 0 (.t 2), some (29, true)⟩, none), (⟨some 31, .ld 1 false (.t 30), some (29, true)⟩, none), (⟨some 32, .mv (.t 7), some (29, true)⟩, none), (⟨some 33, .mv (.t 8), some (29, true)⟩, none), (⟨some 34, .idxA 1 (.t 32) (.t 33), some (29, true)⟩, none), (⟨some 35, .ld 1 false (.t 34), some (29, true)⟩, none), (⟨some 36, .idxA 6 (.t 31) (.t 35), some (29, true)⟩, none), (⟨some 37, .fldA 1 (.t 36), some (29, true)⟩, none), (⟨some 38, .ld 1 false (.t 37), some (29, true)⟩, none), (⟨some 39, .bin .eql (.t 38) (.c (.str [111, 112, 116, 105, 111, 110])), some (29, true)⟩, none), (o 40 (.pick (.t 29) (.t 39) (.c (.bool false))), none)]) (.cond (.t 40) (.seq (.reg [o 41 (.mv (.t 5)), o 42 (.mv (.t 7)), o 43 (.mv (.t 8)), o 44 (.idxA 1 (.t 42) (.t 43)), o 45 (.ld 1 false (.t 44)), o 46 (.bldF 3 1 [.t 45]), o 47 (.app 3 1 8 (.t 41) (.t 46)), o 5 (.mv (.t 47))]) (.seq (.dreg [(o 48 (.ld 2 true (.t 2)), none), (o 49 (.mv (.t 7)), none), (o 50 (.mv (.t 8)), none), (o 51 (.idxA 1 (.t 49) (.t 50)), none), (o 52 (.ld 1 false (.t 51)), none), (o 53 (.pcall 49 [.t 48, .t 52, .c (.str [115, 101, 108, 101, 99, 116, 101, 100])]), none)]) (.cond (.t 53) (.reg [o 54 (.mv (.t 6)), o 55 (.mv (.t 7)), o 56 (.mv (.t 8)), o 57 (.idxA 1 (.t 55) (.t 56)), o 58 (.ld 1 false (.t 57)), o 59 (.bldF 3 1 [.t 58]), o 60 (.app 3 1 8 (.t 54) (.t 59)), o 6 (.mv (.t 60))]) .skip))) .skip))) (.reg [o 17 (.mv (.t 8)), o 18 (.bin .add (.t 17) (.c (.int .i64 1))), o 8 (.mv (.t 18))])))))) (.seq (.seq (.reg [o 9 (.mv (.c (.int .i64 0)))]) (.block 2 (.loop (.seq (.seq (.reg [o 61 (.mv (.t 9)), o 62 (.mv (.t 5)), o 63 (.len (.t 62)), o 64 (.bin .lss (.t 61) (.t 63)), o 65 (.mv (.t 64)), ⟨some 66, .mv (.t 6), some (65, true)⟩, ⟨some 67, .len (.t 66), some (65, true)⟩, ⟨some 68, .bin .eql (.t 67) (.c (.int .i64 0)), some (65, true)⟩, o 69 (.pick (.t 65) (.t 68) (.c (.bool false))), o 70 (.mv (.t 69)), ⟨some 71, .ld 2 true (.t 2), some (70, true)⟩, ⟨some 72, .mv (.t 1), some (70, true)⟩, ⟨some 73, .pcall 49 [.t 71, .t 72, .c (.str [109, 117, 108, 116, 105, 112, 108, 101])], some (70, true)⟩, ⟨some 74, .un .not (.t 73), some (70, true)⟩, o 75 (.pick (.t 70) (.t 74) (.c (.bool false)))]) (.cond (.t 75) .skip (.exit 2))) (.seq (.block 3 (.seq (.dreg [(o 78 (.ld 2 true (.t 2)), none), (o 79 (.mv (.t 5)), none), (o 80 (.mv (.t 9)), none), (o 81 (.idxA 1 (.t 79) (.t 80)), none), (o 82 (.ld 1 false (.t 81)), none), (o 83 (.pcall 49 [.t 78, .t 82, .c (.str [100, 105, 115, 97, 98, 108, 101, 100])]), none), (o 84 (.un .not (.t 83)), none)]) (.cond (.t 84) (.reg [o 85 (.mv (.t 6)), o 86 (.mv (.t 5)), o 87 (.mv (.t 9)), o 88 (.idxA 1 (.t 86) (.t 87)), o 89 (.ld 1 false (.t 88)), o 90 (.bldF 3 1 [.t 89]), o 91 (.app 3 1 8 (.t 85) (.t 90)), o 6 (.mv (.t 91))]) .skip))) (.reg [o 76 (.mv (.t 9)), o 77 (.bin .add (.t 76) (.c (.int .i64 1))), o 9 (.mv (.t 77))])))))) (.seq (.reg [o 92 (.mv (.t 6)), o 4 (.mv (.t 92))]) .ret))))), [.tmp 4]⟩
theorem hc48 : J1 Tryz.prog {pure := [49, 44]} Tryz.f48 = some c48 := by kernel_rfl
theorem refOpts_ok (d : HDoc) (V : DV d) (sm : DocSm d) (n : Int) (hn : inD d n) : PCalls (Pg G) 48 [.agg (Q7 d), Q4 n] (sl Z3 (JJ d n)) := PCalls.outV fun h => by
  have hl := V.len
  have e0 : ∀ k : Int, nth d.nodes k.toNat = nd d k := fun _ => rfl
  have cB := below_ok (G := G) d V sm n hn
  have cM := YV (G := G) d sm n hn [109, 117, 108, 116, 105, 112, 108, 101]
  have gS := fun k hk => YV (G := G) d sm k hk [115, 101, 108, 101, 99, 116, 101, 100]
  have gD := fun k hk => YV (G := G) d sm k hk [100, 105, 115, 97, 98, 108, 101, 100]
  have bl := U1 V hn
  have bi := T7 V n hn
  have bp : 0 < (Z4 d n).length := List.length_pos_iff.2 (List.ne_nil_of_mem (below_self V hn))
  have dE : Q7 d = [sl Q5 d.nodes, .bool d.quirks] := rfl
  rw [dE] at cB cM
  have aE : belO d [111, 112, 116, 105, 111, 110] n = alO d (Z4 d n) (Z4 d n).length := by unfold belO alO; rw [List.take_length]
  unfold JJ
  rw [aE]
  generalize Z4 d n = L at *
  generalize X2 d n [109, 117, 108, 116, 105, 112, 108, 101] = mu at *
  refine Q1 Tryz.func48 (by kernel_rfl) hc48 (by rw [Tryz.ntmps48]; simp) (by rw [Tryz.ntmps48]; decide) ?_
  simp -dsimp -implicitDefEqProofs (disch := omega) only [VCA, Nat.reduceEqDiff, Nat.reduceAdd, ↓reduceIte, ne_eq, c48, Q7]
  repeat' (first | ((with_reducible refine brC (fun _ => ?_) fun _ => ?_) <;> try (exfalso; omega)) | (with_reducible apply pcallE.of; · exact cB) | (with_reducible refine And.intro ?_ ?_; · omega) | simp -dsimp -implicitDefEqProofs (disch := omega) only [VCA, ↓reduceIte])
  refine LoopVC.intro (fun m e h' => ∃ k : Nat, 1 <= k /\ k <= L.length /\ m = L.length - k /\ e 1 = Q4 n /\ e 2 = .pin [sl Q5 d.nodes, .bool d.quirks] /\ e 7 = sl Z3 L /\ e 8 = Q4 k /\ Acc h 3 1 ((alO d L k).map Z3) (e 5) h' /\ Acc h 3 1 ((seO d L k).map Z3) (e 6) h' /\ (∀ r, U3 (e 5) = some r -> U3 (e 6) ≠ some r) /\ Sim.Sub h h') (L.length - 1)
    (by
      have z1 : alO d L 1 = [] := by
        unfold alO; rw [List.drop_eq_nil_of_le (by rw [List.length_take]; omega)]; rfl
      refine ⟨1, by omega, by omega, rfl, rfl, rfl, rfl, rfl, ?_, ?_, (fun r e => nomatch e), Sub.refl _⟩
      · rw [z1]; exact Acc.nil
      · unfold seO; rw [z1]; exact Acc.nil) ?_
  rintro m e h' ⟨k, h1, hk, rfl, e1, e2, e7, e8, A5, A6, hne, S⟩
  have l5 := alO_len d L k
  have l6 := seO_len d L k
  by_cases hlt : k < L.length
  · have d1 : decide ((k : Int) < (L.length : Int)) = true := decide_eq_true (by omega)
    have s5 := alO_step (d := d) h1 hlt
    have s6 := seO_step (d := d) h1 hlt
    obtain ⟨x, hx⟩ : ∃ x, nth L k = x := ⟨_, rfl⟩
    have hxo : inD d x := by rw [<- hx]; exact bi _ (Y2 hlt)
    rw [hx] at s5 s6
    have x0 := hxo.1
    have x1 := hxo.2
    have g1 := gS x hxo
    rw [dE] at g1
    obtain ⟨b2, hb2⟩ : ∃ b, ((nd d x).kind == 2) = b := ⟨_, rfl⟩
    obtain ⟨b3, hb3⟩ : ∃ b, ((nd d x).name == [111, 112, 116, 105, 111, 110]) = b := ⟨_, rfl⟩
    have hi : isN d [111, 112, 116, 105, 111, 110] x = (b3 && b2) := by unfold isN; rw [hb2, hb3]
    rw [hi] at s5 s6
    cases hbb : (b3 && b2)
    · rw [hbb] at s5 s6
      rw [if_neg (by simp), List.append_nil] at s5 s6
      have hz : ((nd d x).kind == 2 && (nd d x).name == [111, 112, 116, 105, 111, 110]) = false := by rw [hb2, hb3, Bool.and_comm]; exact hbb
      cases b2
      · repeat' (first | ((with_reducible refine brC (fun _ => ?_) fun _ => ?_) <;> try (exfalso; omega)) | (with_reducible refine And.intro ?_ ?_; · omega) | simp -dsimp -implicitDefEqProofs (disch := omega) only [↓Z0 29, VCA, Nat.reduceEqDiff, Nat.reduceAdd, Nat.reduceLeDiff, ↓reduceIte, Y6, Q9, ne_eq, Z7, Z3, e1, e2, e7, e8, d1, hx, Q5, e0, hb2])
        all_goals first | exact ⟨_, by omega, k + 1, by omega, by omega, rfl, by omega, by rw [s5]; exact A5, by rw [s6]; exact A6, hne, S⟩ | trace_state
      · cases b3
        · repeat' (first | ((with_reducible refine brC (fun _ => ?_) fun _ => ?_) <;> try (exfalso; omega)) | (with_reducible refine And.intro ?_ ?_; · omega) | simp -dsimp -implicitDefEqProofs (disch := omega) only [↓Z0 29, VCA, Nat.reduceEqDiff, Nat.reduceAdd, Nat.reduceLeDiff, ↓reduceIte, Y6, Q9, ne_eq, Z7, Z3, e1, e2, e7, e8, d1, hx, Q5, e0, hb2, hb3])
          all_goals first | exact ⟨_, by omega, k + 1, by omega, by omega, rfl, by omega, by rw [s5]; exact A5, by rw [s6]; exact A6, hne, S⟩ | trace_state
        · cases hbb
    · rw [hbb] at s5 s6
      obtain ⟨rfl, rfl⟩ : b3 = true /\ b2 = true := by simpa using hbb
      rw [if_pos rfl] at s5
      repeat' (first | ((with_reducible refine brC (fun _ => ?_) fun _ => ?_) <;> try (exfalso; omega)) | (with_reducible refine And.intro ?_ ?_; · omega) | simp -dsimp -implicitDefEqProofs (disch := omega) only [↓Z0 29, VCA, Nat.reduceEqDiff, Nat.reduceAdd, Nat.reduceLeDiff, ↓reduceIte, Y6, Q9, Z2, forall_eq, ne_eq, exists_eq_left, Z7, Z3, e2, e7, e8, d1, hx, Q5, e0, hb2, hb3])
      refine A5.appW S (by simp only [List.length_map, List.length_cons, List.length_nil]; omega) (by simp only [List.length_map, List.length_cons, List.length_nil]; omega) fun a5 h2 A5' S2 kp => ?_
      obtain ⟨A6', hne'⟩ := acc_keep A6 (fun r q q' => hne r q' q) kp
      cases hz : X2 d x [115, 101, 108, 101, 99, 116, 101, 100]
      · rw [hz] at g1 s6
        rw [if_neg (by simp), List.append_nil] at s6
        repeat' (first | ((with_reducible refine brC (fun _ => ?_) fun _ => ?_) <;> try (exfalso; omega)) | (with_reducible apply pcallE.of; · exact g1) | (with_reducible refine And.intro ?_ ?_; · omega) | simp -dsimp -implicitDefEqProofs (disch := omega) only [VCA, Nat.reduceEqDiff, Nat.reduceAdd, ↓reduceIte, Y6, Q9, Z7, Z3, e1, e2, e7, e8, hx])
        all_goals first | exact ⟨_, by omega, k + 1, by omega, by omega, rfl, by omega, by rw [s5, List.map_append]; exact A5', by rw [s6]; exact A6', fun r q q' => hne' r q' q, S2⟩ | trace_state
      · rw [hz] at g1 s6
        rw [if_pos ⟨rfl, rfl⟩] at s6
        repeat' (first | ((with_reducible refine brC (fun _ => ?_) fun _ => ?_) <;> try (exfalso; omega)) | (with_reducible apply pcallE.of; · exact g1) | (with_reducible refine And.intro ?_ ?_; · omega) | simp -dsimp -implicitDefEqProofs (disch := omega) only [VCA, Nat.reduceEqDiff, Nat.reduceAdd, ↓reduceIte, Y6, Q9, Z2, forall_eq, exists_eq_left, Z7, Z3, e2, e7, e8, hx])
        refine A6'.appW S2 (by simp only [List.length_map, List.length_cons, List.length_nil]; omega) (by simp only [List.length_map, List.length_cons, List.length_nil]; omega) fun a6 h3 A6'' S3 kp2 => ?_
        obtain ⟨A5'', hne''⟩ := acc_keep A5' (fun r q q' => hne' r q' q) kp2
        repeat' (first | ((with_reducible refine brC (fun _ => ?_) fun _ => ?_) <;> try (exfalso; omega)) | (with_reducible refine And.intro ?_ ?_; · omega) | simp -dsimp -implicitDefEqProofs (disch := omega) only [VCA, Nat.reduceEqDiff, ↓reduceIte, e1, e2, e7, e8])
        all_goals first | exact ⟨_, by omega, k + 1, by omega, by omega, rfl, by omega, by rw [s5, List.map_append]; exact A5'', by rw [s6, List.map_append]; exact A6'', hne'', S3⟩ | trace_state
  · obtain rfl : k = L.length := by omega
    have d1 : decide ((L.length : Int) < (L.length : Int)) = false := decide_eq_false (by omega)
    have ali : ∀ x ∈ alO d L L.length, inD d x := fun x hx => bi x (by
      unfold alO at hx
      exact List.mem_of_mem_take (List.mem_of_mem_drop (List.mem_filter.1 hx).1))
    have hW0 : (alO d L L.length).filter (fun k => X2 d k [115, 101, 108, 101, 99, 116, 101, 100]) = seO d L L.length := rfl
    rw [hW0]
    generalize alO d L L.length = A at *
    generalize seO d L L.length = W at *
    repeat' (first | ((with_reducible refine brC (fun _ => ?_) fun _ => ?_) <;> try (exfalso; omega)) | (with_reducible refine And.intro ?_ ?_; · omega) | simp -dsimp -implicitDefEqProofs (disch := omega) only [VCA, Nat.reduceEqDiff, ↓reduceIte, ne_eq, e7, e8, d1])
    refine LoopVC.intro (fun m e2 h2 => ∃ (k : Nat) (o : List Int), k <= A.length /\ m = A.length - k /\ e2 1 = Q4 n /\ e2 2 = .pin [sl Q5 d.nodes, .bool d.quirks] /\ e2 9 = Q4 k /\ Acc h 3 1 (A.map Z3) (e2 5) h2 /\ Acc h 3 1 (o.map Z3) (e2 6) h2 /\ (∀ r, U3 (e2 5) = some r -> U3 (e2 6) ≠ some r) /\ Sim.Sub h h2 /\
        o = (if W ≠ [] \/ mu = true then W else ((A.take k).filter fun k => !X2 d k [100, 105, 115, 97, 98, 108, 101, 100]).take 1)) A.length
      (by
        refine ⟨0, W, by omega, by omega, e1, e2, rfl, A5, A6, hne, S, ?_⟩
        split
        · rfl
        · rename_i q; simp only [not_or, Classical.not_not] at q; rw [q.1]; rfl) ?_
    rintro m e h2 ⟨k, o, hk, rfl, e1, e2, e9, A5, A6, hne, S, ho⟩
    have aL := A5.len
    have oL := A6.len
    simp only [List.length_map] at aL oL
    have hv : Vw (newH h h2) (e 6) (sl Z3 o) := (OwnS.of_acc A6).1.vwN fun r hr => (OwnS.of_acc A6).2.1 r hr
    by_cases hlt : k < A.length
    · have d2 : decide ((k : Int) < (A.length : Int)) = true := decide_eq_true (by omega)
      by_cases hoe : o = []
      · have d3 : ((o.length : Int) == 0) = true := by rw [hoe]; rfl
        cases mu
        · have hW : W = [] := Classical.byContradiction fun q => by
            rw [if_pos (.inl q)] at ho
            exact q (ho.symm.trans hoe)
          rw [if_neg (by simp [hW])] at ho
          have hf : (A.take k).filter (fun k => !X2 d k [100, 105, 115, 97, 98, 108, 101, 100]) = [] := by
            rw [hoe] at ho
            cases hq : (A.take k).filter (fun k => !X2 d k [100, 105, 115, 97, 98, 108, 101, 100]) with
            | nil => rfl
            | cons y r => rw [hq] at ho; cases ho
          have tk : (A.take (k + 1)).filter (fun k => !X2 d k [100, 105, 115, 97, 98, 108, 101, 100]) = if X2 d (nth A k) [100, 105, 115, 97, 98, 108, 101, 100] = true then [] else [nth A k] := by
            rw [X4 hlt, List.filter_append, hf, List.filter_cons, List.filter_nil]
            cases X2 d (nth A k) [100, 105, 115, 97, 98, 108, 101, 100] <;> rfl
          have hxo := ali _ (Y2 hlt)
          obtain ⟨r5, q0, q1, q2⟩ := A5.pos (by rw [List.length_map]; omega)
          have hget := getD_map_enc (enc := Z3) hlt
          obtain ⟨x, hx⟩ : ∃ x, nth A k = x := ⟨_, rfl⟩
          rw [hx] at hxo tk hget
          have g1 := gD x hxo
          rw [dE] at g1
          have hlm : (A.map Z3).length = A.length := List.length_map _
          rw [hlm] at q2
          rw [q2] at A5 hne
          cases hz : X2 d x [100, 105, 115, 97, 98, 108, 101, 100]
          · rw [hz] at g1 tk
            rw [if_neg (by simp)] at tk
            repeat' (first | ((with_reducible refine brC (fun _ => ?_) fun _ => ?_) <;> try (exfalso; omega)) | (with_reducible apply pcallE.of; · exact cM) | (with_reducible apply pcallE.of; · exact g1) | (with_reducible refine And.intro ?_ ?_; · omega) | simp -dsimp -implicitDefEqProofs (disch := omega) only [↓Q0 65, ↓Q0 70, VCA, Nat.reduceEqDiff, Nat.reduceAdd, ↓reduceIte, Y6, Q9, Z2, forall_eq, ne_eq, exists_eq_left, exists_eq_left', Z7, Z3, e1, e2, e9, oL.1, oL.2, d2, d3, q2, q1, hlm, hget])
            refine A6.appW S (by rw [hoe]; simp only [List.length_map, List.length_cons, List.length_nil]; omega) (by rw [hoe]; simp only [List.length_map, List.length_cons, List.length_nil]; omega) fun a6 h3 A6' S3 kp => ?_
            obtain ⟨A5', hne'⟩ := acc_keep A5 hne kp
            repeat' (first | ((with_reducible refine brC (fun _ => ?_) fun _ => ?_) <;> try (exfalso; omega)) | (with_reducible refine And.intro ?_ ?_; · omega) | simp -dsimp -implicitDefEqProofs (disch := omega) only [VCA, Nat.reduceEqDiff, ↓reduceIte, e1, e2, e9, q2])
            refine ⟨_, by omega, k + 1, [x], by omega, rfl, by omega, A5', by rw [hoe] at A6'; exact A6', hne', S3, ?_⟩
            rw [if_neg (by simp [hW]), tk]; rfl
          · rw [hz] at g1 tk
            rw [if_pos rfl] at tk
            repeat' (first | ((with_reducible refine brC (fun _ => ?_) fun _ => ?_) <;> try (exfalso; omega)) | (with_reducible apply pcallE.of; · exact cM) | (with_reducible apply pcallE.of; · exact g1) | (with_reducible refine And.intro ?_ ?_; · omega) | simp -dsimp -implicitDefEqProofs (disch := omega) only [↓Q0 65, ↓Q0 70, VCA, Nat.reduceEqDiff, Nat.reduceAdd, ↓reduceIte, Y6, Q9, ne_eq, exists_eq_left', Z7, Z3, e1, e2, e9, oL.1, oL.2, d2, d3, q2, q1, hlm, hget])
            refine ⟨_, by omega, k + 1, o, by omega, rfl, by omega, A5, A6, hne, S, ?_⟩
            rw [if_neg (by simp [hW]), tk, hoe]; rfl
        · have hc : (if W ≠ [] \/ True then W else (A.filter fun k => !X2 d k [100, 105, 115, 97, 98, 108, 101, 100]).take 1) = o := by
            rw [ho]; simp
          rw [if_pos (.inr rfl)]
          rw [if_pos (.inr rfl)] at ho
          rw [<- ho]
          repeat' (first | ((with_reducible refine brC (fun _ => ?_) fun _ => ?_) <;> try (exfalso; omega)) | (with_reducible apply pcallE.of; · exact cM) | (with_reducible refine And.intro ?_ ?_; · omega) | simp -dsimp -implicitDefEqProofs (disch := omega) only [↓Q0 65, ↓Q0 70, VCA, Nat.reduceEqDiff, Nat.reduceAdd, ↓reduceIte, ne_eq, e1, e2, e9, aL.1, aL.2, oL.1, oL.2, d2, d3])
          exact ⟨_, Sub.refl _, S, .one _ _ hv⟩
      · have d3 : ((o.length : Int) == 0) = false := by
          have := List.length_pos_iff.2 hoe
          simp; omega
        have hc : (if W ≠ [] \/ mu = true then W else (A.filter fun k => !X2 d k [100, 105, 115, 97, 98, 108, 101, 100]).take 1) = o := by
          rw [ho]
          by_cases q : W ≠ [] \/ mu = true
          · rw [if_pos q, if_pos q]
          · rw [if_neg q] at ho ⊢
            rw [if_neg q]
            exact take1_filter fun q2 => hoe (by rw [ho, q2]; rfl)
        rw [hc]
        repeat' (first | ((with_reducible refine brC (fun _ => ?_) fun _ => ?_) <;> try (exfalso; omega)) | (with_reducible refine And.intro ?_ ?_; · omega) | simp -dsimp -implicitDefEqProofs (disch := omega) only [↓Q0 65, ↓Q0 70, VCA, Nat.reduceEqDiff, ↓reduceIte, ne_eq, e9, aL.1, aL.2, oL.1, oL.2, d2, d3])
        exact ⟨_, Sub.refl _, S, .one _ _ hv⟩
    · obtain rfl : k = A.length := by omega
      have d2 : decide ((A.length : Int) < (A.length : Int)) = false := decide_eq_false (by omega)
      rw [List.take_length] at ho
      rw [<- ho]
      repeat' (first | ((with_reducible refine brC (fun _ => ?_) fun _ => ?_) <;> try (exfalso; omega)) | (with_reducible refine And.intro ?_ ?_; · omega) | simp -dsimp -implicitDefEqProofs (disch := omega) only [↓Q0 65, ↓Q0 70, VCA, Nat.reduceEqDiff, ↓reduceIte, ne_eq, e9, aL.1, aL.2, d2])
      exact ⟨_, Sub.refl _, S, .one _ _ hv⟩
theorem belO_name (d : HDoc) (n : Int) : ∀ k ∈ belO d [111, 112, 116, 105, 111, 110] n, (nd d k).name ≠ [] := fun k hk => by
  have h := (List.mem_filter.1 hk).2
  unfold isN at h
  simp only [Bool.and_eq_true, beq_iff_eq] at h
  rw [h.1]; simp
theorem chosM_name (d : HDoc) (n : Int) : ∀ k ∈ JJ d n, (nd d k).name ≠ [] := fun k hk => by
  unfold JJ at hk
  split at hk
  · exact belO_name d n k (List.mem_filter.1 hk).1
  · exact belO_name d n k (List.mem_filter.1 (List.mem_of_mem_take hk)).1
theorem inW_tick (x : List UInt8) : inW x [99, 104, 101, 99, 107, 98, 111, 120, 32, 114, 97, 100, 105, 111] = TV x :=
  inW_two x [99, 104, 101, 99, 107, 98, 111, 120] [114, 97, 100, 105, 111] (by decide) (by decide)
def c21 : SFun := ⟨.seq (.reg [o 2 (.boxF 36 2 (.t 0)), o 4 (.mv (.c (.str [])))]) (.seq (.seq (.reg [o 6 (.fldA 0 (.t 2)), o 7 (.ld 1 false (.t 6)), o 8 (.mv (.t 1)), o 9 (.idxA 6 (.t 7) (.t 8)), o 10 (.fldA 1 (.t 9)), o 11 (.ld 1 false (.t 10)), o 12 (.bin .eql (.t 11) (.c (.str [116, 101, 120, 116, 97, 114, 101, 97])))]) (.cond (.t 12) (.seq (.reg [o 13 (.ld 2 true (.t 2)), o 14 (.mv (.t 1)), o 15 (.pcall 58 [.t 13, .t 14]), o 4 (.mv (.t 15))]) .ret) .skip)) (.seq (.seq (.reg [o 16 (.fldA 0 (.t 2)), o 17 (.ld 1 false (.t 16)), o 18 (.mv (.t 1)), o 19 (.idxA 6 (.t 17) (.t 18)), o 20 (.fldA 1 (.t 19)), o 21 (.ld 1 false (.t 20)), o 22 (.bin .eql (.t 21) (.c (.str [115, 101, 108, 101, 99, 116])))]) (.cond (.t 22) (.seq (.reg [o 23 (.ld 2 true (.t 2)), o 24 (.mv (.t 1)), o 25 (.pcall 48 [.t 23, .t 24]), o 5 (.mv (.t 25))]) (.seq (.seq (.reg [o 26 (.mv (.t 5)), o 27 (.len (.t 26)), o 28 (.bin .eql (.t 27) (.c (.int .i64 0)))]) (.cond (.t 28) (.seq (.reg [o 4 (.mv (.c (.str [])))]) .ret) .skip)) (.seq (.dreg [(o 29 (.ld 2 true (.t 2)), none), (o 30 (.mv (.t 5)), none), (o 31 (.mv (.t 5)), none), (o 32 (.len (.t 31)), none), (o 33 (.bin .sub (.t 32) (.c (.int .i64 1))), none), (o 34 (.idxA 1 (.t 30) (.t 33)), none), (o 35 (.ld 1 false (.t 34)), none), (o 36 (.pcall 50 [.t 29, .t 35]), none), (o 4 (.mv (.t 36)), none)]) .ret))) .skip)) (.seq (.seq (.reg [o 37 (.ld 2 true (.t 2)), o 38 (.mv (.t 1)), o 39 (.pcall 47 [.t 37, .t 38]), o 40 (.pcall 59 [.t 39, .c (.str [99, 104, 101, 99, 107, 98, 111, 120, 32, 114, 97, 100, 105, 111])]), o 41 (.mv (.t 40)), ⟨some 42, .ld 2 true (.t 2), some (41, true)⟩, ⟨some 43, .mv (.t 1), some (41, true)⟩, ⟨some 44, .pcall 49 [.t 42, .t 43, .c (.str [118, 97, 108, 117, 101])], some (41, true)⟩, ⟨some 45, .un .not (.t 44), some (41, true)⟩, o 46 (.pick (.t 41) (.t 45) (.c (.bool false)))]) (.cond (.t 46) (.seq (.reg [o 4 (.mv (.c (.str [111, 110])))]) .ret) .skip)) (.seq (.reg [o 47 (.ld 2 true (.t 2)), o 48 (.mv (.t 1)), o 49 (.pcall 46 [.t 47, .t 48, .c (.str [118, 97, 108, 117, 101])]), o 4 (.mv (.t 49))]) .ret)))), [.tmp 4]⟩
theorem hc21 : J1 Tryz.prog {pure := [58, 48, 50, 59, 47, 49, 46]} Tryz.f21 = some c21 := by kernel_rfl
theorem hn21 : (Tryz.f21.name == "runtime.NumGoroutine") = false := by kernel_rfl
theorem refValue_ok (d : HDoc) (V : DV d) (sm : DocSm d) (n : Int) (hn : inD d n) : PCalls (Pg G) 21 [.agg (Q7 d), Q4 n] (.str (X7 d n)) := fun h => by
  have hl := V.len
  have n0 := hn.1
  have n1 := hn.2
  have e0 : nth d.nodes n.toNat = nd d n := rfl
  have cX := textUnder_ok (G := G) d V sm n hn
  have cC := refOpts_ok (G := G) d V sm n hn
  have cK := inputType_ok (G := G) d V sm n hn
  have cH := YV (G := G) d sm n hn [118, 97, 108, 117, 101]
  have cA := JT (G := G) d sm n hn [118, 97, 108, 117, 101]
  have cW : PCalls (Pg G) 59 [.str (Y1 d n), .str [99, 104, 101, 99, 107, 98, 111, 120, 32, 114, 97, 100, 105, 111]] (.bool (TV (Y1 d n))) := by
    have h := wordW_ok (G := G) (Y1 d n) [99, 104, 101, 99, 107, 98, 111, 120, 32, 114, 97, 100, 105, 111] (by decide)
    rw [<- inW_tick]; exact h
  have ci := chosM_in V hn
  have cl := chosM_len V hn
  have cn := chosM_name d n
  have gO := fun x hx hm => refOptV_ok (G := G) d V sm x hx hm
  have dE : Q7 d = [sl Q5 d.nodes, .bool d.quirks] := rfl
  rw [dE] at cX cC cK cH cA
  unfold X7
  generalize JJ d n = L at *
  generalize Y1 d n = kd at *
  by_cases h1 : (nd d n).name = [116, 101, 120, 116, 97, 114, 101, 97]
  · have b1 : ((nd d n).name == [116, 101, 120, 116, 97, 114, 101, 97]) = true := by simpa using h1
    rw [text_name d V hn (by rw [h1]; simp)] at cX
    rw [if_pos h1]
    refine Q1 Tryz.func21 hn21 hc21 (by rw [Tryz.ntmps21]; simp) (by rw [Tryz.ntmps21]; decide) ?_
    simp -dsimp -implicitDefEqProofs (disch := omega) only [VCA, Nat.reduceEqDiff, Nat.reduceAdd, Nat.reduceLeDiff, ↓reduceIte, c21, Q7]
    repeat' (first | ((with_reducible refine brC (fun _ => ?_) fun _ => ?_) <;> try (exfalso; omega)) | (with_reducible apply pcallE.of; · exact cX) | (with_reducible refine And.intro ?_ ?_; · omega) | simp -dsimp -implicitDefEqProofs (disch := omega) only [VCA, Nat.reduceEqDiff, Nat.reduceAdd, Nat.reduceLeDiff, ↓reduceIte, exists_eq_right, Q5, e0, b1])
    all_goals first | exact Sub.refl _ | exact ⟨by omega, Sub.refl _⟩ | trace_state
  · have b1 : ((nd d n).name == [116, 101, 120, 116, 97, 114, 101, 97]) = false := by simpa using h1
    rw [if_neg h1]
    by_cases h2 : (nd d n).name = [115, 101, 108, 101, 99, 116]
    · have b2 : ((nd d n).name == [115, 101, 108, 101, 99, 116]) = true := by simpa using h2
      rw [if_pos h2]
      by_cases h3 : L = []
      · have d3 : ((L.length : Int) == 0) = true := by rw [h3]; rfl
        rw [if_pos h3]
        refine Q1 Tryz.func21 hn21 hc21 (by rw [Tryz.ntmps21]; simp) (by rw [Tryz.ntmps21]; decide) ?_
        simp -dsimp -implicitDefEqProofs (disch := omega) only [VCA, Nat.reduceEqDiff, Nat.reduceAdd, Nat.reduceLeDiff, ↓reduceIte, c21, Q7]
        repeat' (first | ((with_reducible refine brC (fun _ => ?_) fun _ => ?_) <;> try (exfalso; omega)) | (with_reducible apply pcallE.of; · exact cC) | (with_reducible refine And.intro ?_ ?_; · omega) | simp -dsimp -implicitDefEqProofs (disch := omega) only [VCA, Nat.reduceEqDiff, Nat.reduceAdd, Nat.reduceLeDiff, ↓reduceIte, exists_eq_right, Q5, e0, b1, b2, d3])
        all_goals first | exact Sub.refl _ | exact ⟨by omega, Sub.refl _⟩ | trace_state
      · have hp := List.length_pos_iff.2 h3
        have d3 : ((L.length : Int) == 0) = false := by simp; omega
        have hlt : L.length - 1 < L.length := by omega
        have eL : ((L.length : Int) - 1).toNat = L.length - 1 := by omega
        have g := gO _ (ci _ (Y2 hlt)) (cn _ (Y2 hlt))
        rw [dE] at g
        rw [if_neg h3]
        obtain ⟨x, hxx⟩ : ∃ x, nth L (L.length - 1) = x := ⟨_, rfl⟩
        rw [hxx] at g ⊢
        refine Q1 Tryz.func21 hn21 hc21 (by rw [Tryz.ntmps21]; simp) (by rw [Tryz.ntmps21]; decide) ?_
        simp -dsimp -implicitDefEqProofs (disch := omega) only [VCA, Nat.reduceEqDiff, Nat.reduceAdd, Nat.reduceLeDiff, ↓reduceIte, c21, Q7]
        repeat' (first | ((with_reducible refine brC (fun _ => ?_) fun _ => ?_) <;> try (exfalso; omega)) | (with_reducible apply pcallE.of; · exact cC) | (with_reducible apply pcallE.of; · exact g) | (with_reducible refine And.intro ?_ ?_; · omega) | simp -dsimp -implicitDefEqProofs (disch := omega) only [VCA, Nat.reduceEqDiff, Nat.reduceAdd, Nat.reduceLeDiff, ↓reduceIte, Y6, Q9, exists_eq_right, Z7, Z3, Q5, e0, b1, b2, d3, eL, hxx])
        all_goals first | exact Sub.refl _ | exact ⟨by omega, Sub.refl _⟩ | trace_state
    · have b2 : ((nd d n).name == [115, 101, 108, 101, 99, 116]) = false := by simpa using h2
      rw [if_neg h2]
      cases h3 : TV kd
      · rw [h3] at cW
        rw [if_neg (by simp)]
        refine Q1 Tryz.func21 hn21 hc21 (by rw [Tryz.ntmps21]; simp) (by rw [Tryz.ntmps21]; decide) ?_
        simp -dsimp -implicitDefEqProofs (disch := omega) only [VCA, Nat.reduceEqDiff, Nat.reduceAdd, Nat.reduceLeDiff, ↓reduceIte, c21, Q7]
        repeat' (first | ((with_reducible refine brC (fun _ => ?_) fun _ => ?_) <;> try (exfalso; omega)) | (with_reducible apply pcallE.of; · exact cK) | (with_reducible apply pcallE.of; · exact cW) | (with_reducible apply pcallE.of; · exact cA) | (with_reducible refine And.intro ?_ ?_; · omega) | simp -dsimp -implicitDefEqProofs (disch := omega) only [↓Q0 41, VCA, Nat.reduceEqDiff, Nat.reduceAdd, Nat.reduceLeDiff, ↓reduceIte, exists_eq_right, Q5, e0, b1, b2])
        all_goals first | exact Sub.refl _ | exact ⟨by omega, Sub.refl _⟩ | trace_state
      · rw [h3] at cW
        cases h4 : X2 d n [118, 97, 108, 117, 101]
        · rw [h4] at cH
          rw [if_pos ⟨rfl, rfl⟩]
          refine Q1 Tryz.func21 hn21 hc21 (by rw [Tryz.ntmps21]; simp) (by rw [Tryz.ntmps21]; decide) ?_
          simp -dsimp -implicitDefEqProofs (disch := omega) only [VCA, Nat.reduceEqDiff, Nat.reduceAdd, Nat.reduceLeDiff, ↓reduceIte, c21, Q7]
          repeat' (first | ((with_reducible refine brC (fun _ => ?_) fun _ => ?_) <;> try (exfalso; omega)) | (with_reducible apply pcallE.of; · exact cK) | (with_reducible apply pcallE.of; · exact cW) | (with_reducible apply pcallE.of; · exact cH) | (with_reducible refine And.intro ?_ ?_; · omega) | simp -dsimp -implicitDefEqProofs (disch := omega) only [↓Q0 41, VCA, Nat.reduceEqDiff, Nat.reduceAdd, Nat.reduceLeDiff, ↓reduceIte, exists_eq_right, Q5, e0, b1, b2])
          all_goals first | exact Sub.refl _ | exact ⟨by omega, Sub.refl _⟩ | trace_state
        · rw [h4] at cH
          rw [if_neg (by simp)]
          refine Q1 Tryz.func21 hn21 hc21 (by rw [Tryz.ntmps21]; simp) (by rw [Tryz.ntmps21]; decide) ?_
          simp -dsimp -implicitDefEqProofs (disch := omega) only [VCA, Nat.reduceEqDiff, Nat.reduceAdd, Nat.reduceLeDiff, ↓reduceIte, c21, Q7]
          repeat' (first | ((with_reducible refine brC (fun _ => ?_) fun _ => ?_) <;> try (exfalso; omega)) | (with_reducible apply pcallE.of; · exact cK) | (with_reducible apply pcallE.of; · exact cW) | (with_reducible apply pcallE.of; · exact cH) | (with_reducible apply pcallE.of; · exact cA) | (with_reducible refine And.intro ?_ ?_; · omega) | simp -dsimp -implicitDefEqProofs (disch := omega) only [↓Q0 41, VCA, Nat.reduceEqDiff, Nat.reduceAdd, Nat.reduceLeDiff, ↓reduceIte, exists_eq_right, Q5, e0, b1, b2])
          all_goals first | exact Sub.refl _ | exact ⟨by omega, Sub.refl _⟩ | trace_state
theorem tick_two (k : List UInt8) : ((k != [99, 104, 101, 99, 107, 98, 111, 120]) && (k != [114, 97, 100, 105, 111])) = !TV k := by
  unfold TV
  show (!(k == [99, 104, 101, 99, 107, 98, 111, 120]) && !(k == [114, 97, 100, 105, 111])) = _
  rw [Bool.not_or]
theorem mate_is (d : HDoc) (V : DV d) (o : List Int) (n : Int) {k : Int} (hk : inD d k) : (((nd d k).kind == 2 && inW (nd d k).name V6) && ((Y1 d k == [114, 97, 100, 105, 111]) && (X2 d k [99, 104, 101, 99, 107, 101, 100] && ((X5 d k [110, 97, 109, 101] == X5 d n [110, 97, 109, 101]) && (ownM d o k == ownM d o n))))) = QU d o n k := by
  unfold QU
  cases hc : X2 d k [99, 104, 101, 99, 107, 101, 100]
  · simp
  · have h2 := has_el V hk hc
    cases hr : (Y1 d k == [114, 97, 100, 105, 111])
    · simp
    · have e1 : ((nd d k).kind == 2 && inW (nd d k).name V6) = ((nd d k).name == [105, 110, 112, 117, 116]) := by
        rw [h2]
        by_cases hi : (nd d k).name = [105, 110, 112, 117, 116]
        · rw [hi]; decide +kernel
        · have hk2 : Y1 d k = (nd d k).name := if_neg hi
          rw [hk2] at hr
          have hn : (nd d k).name = [114, 97, 100, 105, 111] := by simpa using hr
          rw [hn]; decide +kernel
      rw [e1]
def c22_s7 : SCode := (.seq (.seq (.reg [o 125 (.mv (.t 6)), o 126 (.bin .eql (.t 125) (.c (.str [110, 117, 109, 98, 101, 114]))), o 127 (.mv (.t 126)), ⟨some 128, .mv (.t 5), some (127, true)⟩, ⟨some 129, .bin .neq (.t 128) (.c (.str [])), some (127, true)⟩, o 130 (.pick (.t 127) (.t 129) (.c (.bool false)))]) (.cond (.t 130) (.seq (.reg [o 132 (.mv (.t 5)), o 133 (.pcall 61 [.t 132]), o 131 (.mv (.t 133)), o 134 (.ext (.t 131) 0), o 135 (.ext (.t 131) 1), o 16 (.mv (.t 134)), o 17 (.mv (.t 135))]) (.seq (.reg [o 137 (.ld 2 true (.t 2)), o 138 (.mv (.t 1)), o 139 (.pcall 46 [.t 137, .t 138, .c (.str [109, 105, 110])]), o 140 (.pcall 61 [.t 139]), o 136 (.mv (.t 140)), o 141 (.ext (.t 136) 0), o 142 (.ext (.t 136) 1), o 18 (.mv (.t 141)), o 19 (.mv (.t 142))]) (.seq (.reg [o 144 (.ld 2 true (.t 2)), o 145 (.mv (.t 1)), o 146 (.pcall 46 [.t 144, .t 145, .c (.str [109, 97, 120])]), o 147 (.pcall 61 [.t 146]), o 143 (.mv (.t 147)), o 148 (.ext (.t 143) 0), o 149 (.ext (.t 143) 1), o 20 (.mv (.t 148)), o 21 (.mv (.t 149))]) (.seq (.reg [o 150 (.mv (.t 17)), o 151 (.un .not (.t 150)), o 152 (.mv (.t 151)), ⟨some 153, .mv (.t 19), some (152, false)⟩, ⟨some 154, .mv (.t 153), some (152, false)⟩, ⟨some 155, .mv (.t 16), some (154, true)⟩, ⟨some 156, .mv (.t 18), some (154, true)⟩, ⟨some 157, .bin .lss (.t 155) (.t 156), some (154, true)⟩, ⟨some 158, .pick (.t 154) (.t 157) (.c (.bool false)), some (152, false)⟩, o 159 (.pick (.t 152) (.c (.bool true)) (.t 158)), o 160 (.mv (.t 159)), ⟨some 161, .mv (.t 21), some (160, false)⟩, ⟨some 162, .mv (.t 161), some (160, false)⟩, ⟨some 163, .mv (.t 16), some (162, true)⟩, ⟨some 164, .mv (.t 20), some (162, true)⟩, ⟨some 165, .bin .gtr (.t 163) (.t 164), some (162, true)⟩, ⟨some 166, .pick (.t 162) (.t 165) (.c (.bool false)), some (160, false)⟩, o 167 (.pick (.t 160) (.c (.bool true)) (.t 166))]) (.cond (.t 167) (.seq (.reg [o 4 (.mv (.c (.int .i64 4)))]) .ret) .skip))))) .skip)) (.seq (.reg [o 4 (.mv (.c (.int .i64 0)))]) .ret))
def c22_s6 : SCode := (.seq (.seq (.reg [o 109 (.ld 2 true (.t 2)), o 110 (.mv (.t 1)), o 111 (.pcall 46 [.t 109, .t 110, .c (.str [109, 105, 110, 108, 101, 110, 103, 116, 104])]), o 112 (.pcall 61 [.t 111]), o 108 (.mv (.t 112)), o 113 (.ext (.t 108) 0), o 114 (.ext (.t 108) 1), o 14 (.mv (.t 113)), o 15 (.mv (.t 114))]) (.seq (.reg [o 115 (.mv (.t 15)), o 116 (.mv (.t 115)), ⟨some 117, .mv (.t 7), some (116, true)⟩, ⟨some 118, .bin .gtr (.t 117) (.c (.int .i64 0)), some (116, true)⟩, o 119 (.pick (.t 116) (.t 118) (.c (.bool false))), o 120 (.mv (.t 119)), ⟨some 121, .mv (.t 7), some (120, true)⟩, ⟨some 122, .mv (.t 14), some (120, true)⟩, ⟨some 123, .bin .lss (.t 121) (.t 122), some (120, true)⟩, o 124 (.pick (.t 120) (.t 123) (.c (.bool false)))]) (.cond (.t 124) (.seq (.reg [o 4 (.mv (.c (.int .i64 3)))]) .ret) .skip))) c22_s7)
def c22_s5 : SCode := (.seq (.seq (.reg [o 96 (.ld 2 true (.t 2)), o 97 (.mv (.t 1)), o 98 (.pcall 46 [.t 96, .t 97, .c (.str [109, 97, 120, 108, 101, 110, 103, 116, 104])]), o 99 (.pcall 61 [.t 98]), o 95 (.mv (.t 99)), o 100 (.ext (.t 95) 0), o 101 (.ext (.t 95) 1), o 12 (.mv (.t 100)), o 13 (.mv (.t 101))]) (.seq (.reg [o 102 (.mv (.t 13)), o 103 (.mv (.t 102)), ⟨some 104, .mv (.t 7), some (103, true)⟩, ⟨some 105, .mv (.t 12), some (103, true)⟩, ⟨some 106, .bin .gtr (.t 104) (.t 105), some (103, true)⟩, o 107 (.pick (.t 103) (.t 106) (.c (.bool false)))]) (.cond (.t 107) (.seq (.reg [o 4 (.mv (.c (.int .i64 2)))]) .ret) .skip))) c22_s6)
def c22 : SFun := ⟨.seq (.reg [o 2 (.boxF 36 2 (.t 0)), o 4 (.mv (.c (.int .i64 0)))]) (.seq (.reg [o 22 (.ld 2 true (.t 2)), o 23 (.mv (.t 1)), o 24 (.pcall 21 [.t 22, .t 23]), o 5 (.mv (.t 24))]) (.seq (.reg [o 25 (.ld 2 true (.t 2)), o 26 (.mv (.t 1)), o 27 (.pcall 47 [.t 25, .t 26]), o 6 (.mv (.t 27))]) (.seq (.reg [o 28 (.mv (.t 5)), o 29 (.pcall 60 [.t 28]), o 30 (.len (.t 29)), o 7 (.mv (.t 30))]) (.seq (.seq (.reg [o 31 (.ld 2 true (.t 2)), o 32 (.mv (.t 1)), o 33 (.pcall 49 [.t 31, .t 32, .c (.str [114, 101, 113, 117, 105, 114, 101, 100])])]) (.cond (.t 33) (.seq (.reg [o 34 (.mv (.t 6)), o 35 (.bin .neq (.t 34) (.c (.str [99, 104, 101, 99, 107, 98, 111, 120]))), o 36 (.mv (.t 35)), ⟨some 37, .mv (.t 6), some (36, true)⟩, ⟨some 38, .bin .neq (.t 37) (.c (.str [114, 97, 100, 105, 111])), some (36, true)⟩, o 39 (.pick (.t 36) (.t 38) (.c (.bool false)))]) (.cond (.t 39) (.seq (.reg [o 40 (.mv (.t 5)), o 41 (.bin .eql (.t 40) (.c (.str [])))]) (.cond (.t 41) (.seq (.reg [o 4 (.mv (.c (.int .i64 1)))]) .ret) .skip)) (.seq (.reg [o 42 (.ld 2 true (.t 2)), o 43 (.mv (.t 1)), o 44 (.pcall 49 [.t 42, .t 43, .c (.str [99, 104, 101, 99, 107, 101, 100])]), o 8 (.mv (.t 44))]) (.seq (.reg [o 45 (.ld 2 true (.t 2)), o 46 (.pcall 44 [.t 45, .c (.int .i64 0)]), o 9 (.mv (.t 46))]) (.seq (.seq (.reg [o 10 (.mv (.c (.int .i64 0)))]) (.block 0 (.loop (.seq (.seq (.reg [o 47 (.mv (.t 10)), o 48 (.mv (.t 9)), o 49 (.len (.t 48)), o 50 (.bin .lss (.t 47) (.t 49)), o 51 (.mv (.t 50)), ⟨some 52, .mv (.t 6), some (51, true)⟩, ⟨some 53, .bin .eql (.t 52) (.c (.str [114, 97, 100, 105, 111])), some (51, true)⟩, o 54 (.pick (.t 51) (.t 53) (.c (.bool false)))]) (.cond (.t 54) .skip (.exit 0))) (.seq (.block 1 (.seq (.reg [o 57 (.mv (.t 9)), o 58 (.mv (.t 10)), o 59 (.idxA 1 (.t 57) (.t 58)), o 60 (.ld 1 false (.t 59)), o 11 (.mv (.t 60))]) (.seq (.dreg [(o 61 (.ld 2 true (.t 2)), none), (o 62 (.mv (.t 11)), none), (o 63 (.pcall 42 [.t 61, .t 62]), none), (o 64 (.mv (.t 63)), none), (⟨some 65, .ld 2 true (.t 2), some (64, true)⟩, none), (⟨some 66, .mv (.t 11), some (64, true)⟩, none), (⟨some 67, .pcall 47 [.t 65, .t 66], some (64, true)⟩, none), (⟨some 68, .bin .eql (.t 67) (.c (.str [114, 97, 100, 105, 111])), some (64, true)⟩, none), (o 69 (.pick (.t 64) (.t 68) (.c (.bool false))), none), (o 70 (.mv (.t 69)), none), (⟨some 71, .ld 2 true (.t 2), some (70, true)⟩, none), (⟨some 72, .mv (.t 11), some (70, true)⟩, none), (⟨some 73, .pcall 49 [.t 71, .t 72, .c (.str [99, 104, 101, 99, 107, 101, 100])], some (70, true)⟩, none), (o 74 (.pick (.t 70) (.t 73) (.c (.bool false))), none), (o 75 (.mv (.t 74)), none), (⟨some 76, .ld 2 true (.t 2), some (75, true)⟩, none), (⟨some 77, .mv (.t 11), some (75, true)⟩, none), (⟨some 78, .pcall 46 [.t 76, .t 77, .c (.str [110, 97, 109, 101])], some (75, true)⟩, none), (⟨some 79, .ld 2 true (.t 2), some (75, true)⟩, none), (⟨some 80, .mv (.t 1), some (75, true)⟩, none), (⟨some 81, .pcall 46 [.t 79, .t 80, .c (.str [110, 97, 109, 101])], some (75, true)⟩, none), (⟨some 82, .bin .eql (.t 78) (.t 81), some (75, true)⟩, none), (o 83 (.pick (.t 75) (.t 82) (.c (.bool false))), none), (o 84 (.mv (.t 83)), none), (⟨some 85, .ld 2 true (.t 2), some (84, true)⟩, none), (⟨some 86, .mv (.t 11), some (84, true)⟩, none), (⟨some 87, .pcall 20 [.t 85, .t 86], some (84, true)⟩, none), (⟨some 88, .ld 2 true (.t 2), some (84, true)⟩, none), (⟨some 89, .mv (.t 1), some (84, true)⟩, none), (⟨some 90, .pcall 20 [.t 88, .t 89], some (84, true)⟩, none), (⟨some 91, .bin .eql (.t 87) (.t 90), some (84, true)⟩, none), (o 92 (.pick (.t 84) (.t 91) (.c (.bool false))), none)]) (.cond (.t 92) (.reg [o 8 (.mv (.c (.bool true)))]) .skip)))) (.reg [o 55 (.mv (.t 10)), o 56 (.bin .add (.t 55) (.c (.int .i64 1))), o 10 (.mv (.t 56))])))))) (.seq (.reg [o 93 (.mv (.t 8)), o 94 (.un .not (.t 93))]) (.cond (.t 94) (.seq (.reg [o 4 (.mv (.c (.int .i64 1)))]) .ret) .skip))))))) .skip)) c22_s5)))), [.tmp 4]⟩
theorem hc22 : J1 Tryz.prog {pure := [21, 47, 60, 49, 44, 42, 46, 20, 61]} Tryz.f22 = some c22 := by kernel_rfl
theorem hn22 : (Tryz.f22.name == "runtime.NumGoroutine") = false := by kernel_rfl
def fltW (d : HDoc) (n : Int) : Int := if wrongM d n = true then 4 else 0
def fltN (d : HDoc) (n : Int) : Int := if 0 < TJ d n /\ bndM d n [109, 105, 110, 108, 101, 110, 103, 116, 104] (fun k => decide (TJ d n < k)) = true then 3 else fltW d n
def fltX (d : HDoc) (n : Int) : Int := if bndM d n [109, 97, 120, 108, 101, 110, 103, 116, 104] (fun k => decide (k < TJ d n)) = true then 2 else fltN d n
theorem fault_s7 (d : HDoc) (V : DV d) (sm : DocSm d) (n : Int) (hn : inD d n) {h : Q2} (E : Env) (e1 : E 1 = Q4 n) (e2 : E 2 = .pin [sl Q5 d.nodes, .bool d.quirks]) (e5 : E 5 = .str (X7 d n)) (e6 : E 6 = .str (Y1 d n)) :
    vc (Pg G) c22_s7 (retK [.tmp 4] fun r h' => r = Q4 (fltW d n) /\ h' = h) E h := by
  have vl := fvalM_len V hn
  have cN := XZ (G := G) (X7 d n) (by omega)
  have a1 := T6 V hn [109, 105, 110]
  have a2 := T6 V hn [109, 97, 120]
  have c1 := JT (G := G) d sm n hn [109, 105, 110]
  have c2 := JT (G := G) d sm n hn [109, 97, 120]
  have g1 := XZ (G := G) (X5 d n [109, 105, 110]) (by omega)
  have g2 := XZ (G := G) (X5 d n [109, 97, 120]) (by omega)
  unfold Q7 at c1 c2
  unfold fltW wrongM bndM
  obtain ⟨b1, h1⟩ : ∃ b, (Y1 d n == [110, 117, 109, 98, 101, 114]) = b := ⟨_, rfl⟩
  obtain ⟨b2, h2⟩ : ∃ b, (X7 d n != []) = b := ⟨_, rfl⟩
  rw [h1, h2]
  generalize X7 d n = v at *
  generalize Y1 d n = kd at *
  generalize X5 d n [109, 105, 110] = am at *
  generalize X5 d n [109, 97, 120] = ax at *
  generalize XX v = q at *
  generalize XX am = q1 at *
  generalize XX ax = q2 at *
  obtain ⟨x, ok⟩ := q
  obtain ⟨x1, ok1⟩ := q1
  obtain ⟨x2, ok2⟩ := q2
  simp only at cN g1 g2 ⊢
  obtain ⟨b3, h3⟩ : ∃ b, decide (x < x1) = b := ⟨_, rfl⟩
  obtain ⟨b4, h4⟩ : ∃ b, decide (x2 < x) = b := ⟨_, rfl⟩
  simp only [h3, h4]
  unfold c22_s7
  skip
  cases b1
  · repeat' (first | ((with_reducible refine brC (fun _ => ?_) fun _ => ?_) <;> try (exfalso; omega)) | (with_reducible refine And.intro ?_ ?_; · omega) | simp -dsimp -implicitDefEqProofs (disch := omega) only [↓Q0 127, VCA, Nat.reduceEqDiff, ↓reduceIte, exists_eq_right_right, e6, h1])
    all_goals first | exact Sub.refl _ | exact ⟨Sub.refl _, rfl⟩ | trace_state
  · cases b2
    · repeat' (first | ((with_reducible refine brC (fun _ => ?_) fun _ => ?_) <;> try (exfalso; omega)) | (with_reducible refine And.intro ?_ ?_; · omega) | simp -dsimp -implicitDefEqProofs (disch := omega) only [↓Q0 127, VCA, Nat.reduceEqDiff, ↓reduceIte, exists_eq_right_right, e5, e6, h1, h2])
      all_goals first | exact Sub.refl _ | exact ⟨Sub.refl _, rfl⟩ | trace_state
    · cases ok <;> cases ok1 <;> cases ok2 <;> cases b3 <;> cases b4
      all_goals
        repeat' (first | ((with_reducible refine brC (fun _ => ?_) fun _ => ?_) <;> try (exfalso; omega)) | (with_reducible apply pcallE.of; · exact cN) | (with_reducible apply pcallE.of; · exact c1) | (with_reducible apply pcallE.of; · exact g1) | (with_reducible apply pcallE.of; · exact c2) | (with_reducible apply pcallE.of; · exact g2) | (with_reducible refine And.intro ?_ ?_; · omega) | simp -dsimp -implicitDefEqProofs (disch := omega) only [↓Q0 127, ↓Q0 152, ↓Q0 154, ↓Q0 160, ↓Q0 162, VCA, Nat.reduceEqDiff, Nat.reduceAdd, Nat.reduceLT, ↓reduceIte, exists_eq_right_right, exists_eq_right, e1, e2, e5, e6, h1, h2, h3, h4])
      all_goals first | exact Sub.refl _ | exact ⟨Sub.refl _, rfl⟩ | trace_state
theorem fault_s6 (d : HDoc) (V : DV d) (sm : DocSm d) (n : Int) (hn : inD d n) {h : Q2} (E : Env) (e1 : E 1 = Q4 n) (e2 : E 2 = .pin [sl Q5 d.nodes, .bool d.quirks]) (e5 : E 5 = .str (X7 d n)) (e6 : E 6 = .str (Y1 d n)) (e7 : E 7 = Q4 (TJ d n)) :
    vc (Pg G) c22_s6 (retK [.tmp 4] fun r h' => r = Q4 (fltN d n) /\ h' = h) E h := by
  have a1 := T6 V hn [109, 105, 110, 108, 101, 110, 103, 116, 104]
  have c1 := JT (G := G) d sm n hn [109, 105, 110, 108, 101, 110, 103, 116, 104]
  have g1 := XZ (G := G) (X5 d n [109, 105, 110, 108, 101, 110, 103, 116, 104]) (by omega)
  unfold Q7 at c1
  unfold fltN bndM
  generalize hmm : TJ d n = many at *
  generalize X5 d n [109, 105, 110, 108, 101, 110, 103, 116, 104] = am at *
  generalize XX am = q1 at *
  obtain ⟨x1, ok1⟩ := q1
  simp only at g1 ⊢
  obtain ⟨b3, h3⟩ : ∃ b, decide (0 < many) = b := ⟨_, rfl⟩
  obtain ⟨b4, h4⟩ : ∃ b, decide (many < x1) = b := ⟨_, rfl⟩
  have hv : (if 0 < many /\ (ok1 && decide (many < x1)) = true then (3 : Int) else fltW d n) = if (ok1 && (b3 && b4)) = true then 3 else fltW d n := by
    rw [h4, <- h3]; cases ok1 <;> simp
  rw [hv]
  unfold c22_s6
  skip
  cases ok1
  · repeat' (first | ((with_reducible refine brC (fun _ => ?_) fun _ => ?_) <;> try (exfalso; omega)) | (with_reducible apply pcallE.of; · exact c1) | (with_reducible apply pcallE.of; · exact g1) | (with_reducible refine And.intro ?_ ?_; · omega) | simp -dsimp -implicitDefEqProofs (disch := omega) only [↓Q0 116, ↓Q0 120, VCA, Nat.reduceEqDiff, Nat.reduceAdd, Nat.reduceLT, ↓reduceIte, e1, e2])
    refine fault_s7 d V sm n hn _ e1 e2 e5 e6
  · cases b3
    · repeat' (first | ((with_reducible refine brC (fun _ => ?_) fun _ => ?_) <;> try (exfalso; omega)) | (with_reducible apply pcallE.of; · exact c1) | (with_reducible apply pcallE.of; · exact g1) | (with_reducible refine And.intro ?_ ?_; · omega) | simp -dsimp -implicitDefEqProofs (disch := omega) only [↓Q0 116, ↓Q0 120, VCA, Nat.reduceEqDiff, Nat.reduceAdd, Nat.reduceLT, ↓reduceIte, e1, e2, e7, h3])
      refine fault_s7 d V sm n hn _ e1 e2 e5 e6
    · cases b4
      · repeat' (first | ((with_reducible refine brC (fun _ => ?_) fun _ => ?_) <;> try (exfalso; omega)) | (with_reducible apply pcallE.of; · exact c1) | (with_reducible apply pcallE.of; · exact g1) | (with_reducible refine And.intro ?_ ?_; · omega) | simp -dsimp -implicitDefEqProofs (disch := omega) only [↓Q0 116, ↓Q0 120, VCA, Nat.reduceEqDiff, Nat.reduceAdd, Nat.reduceLT, ↓reduceIte, e1, e2, e7, h3, h4])
        refine fault_s7 d V sm n hn _ e1 e2 e5 e6
      · repeat' (first | ((with_reducible refine brC (fun _ => ?_) fun _ => ?_) <;> try (exfalso; omega)) | (with_reducible apply pcallE.of; · exact c1) | (with_reducible apply pcallE.of; · exact g1) | (with_reducible refine And.intro ?_ ?_; · omega) | simp -dsimp -implicitDefEqProofs (disch := omega) only [↓Q0 116, ↓Q0 120, VCA, Nat.reduceEqDiff, Nat.reduceAdd, Nat.reduceLT, ↓reduceIte, exists_eq_right, e1, e2, e7, h3, h4])
        all_goals first | exact Sub.refl _ | exact ⟨Sub.refl _, rfl⟩ | trace_state
theorem fault_s5 (d : HDoc) (V : DV d) (sm : DocSm d) (n : Int) (hn : inD d n) {h : Q2} (E : Env) (e1 : E 1 = Q4 n) (e2 : E 2 = .pin [sl Q5 d.nodes, .bool d.quirks]) (e5 : E 5 = .str (X7 d n)) (e6 : E 6 = .str (Y1 d n)) (e7 : E 7 = Q4 (TJ d n)) :
    vc (Pg G) c22_s5 (retK [.tmp 4] fun r h' => r = Q4 (fltX d n) /\ h' = h) E h := by
  have a1 := T6 V hn [109, 97, 120, 108, 101, 110, 103, 116, 104]
  have c1 := JT (G := G) d sm n hn [109, 97, 120, 108, 101, 110, 103, 116, 104]
  have g1 := XZ (G := G) (X5 d n [109, 97, 120, 108, 101, 110, 103, 116, 104]) (by omega)
  unfold Q7 at c1
  unfold fltX bndM
  have hs6 := fun (E : Env) a b c dd e => fault_s6 (G := G) d V sm n hn (h := h) E a b c dd e
  generalize X5 d n [109, 97, 120, 108, 101, 110, 103, 116, 104] = am at *
  generalize XX am = q1 at *
  obtain ⟨x1, ok1⟩ := q1
  simp only at g1 ⊢
  obtain ⟨b4, h4⟩ : ∃ b, decide (x1 < TJ d n) = b := ⟨_, rfl⟩
  simp only [h4]
  unfold c22_s5
  skip
  cases ok1
  · repeat' (first | ((with_reducible refine brC (fun _ => ?_) fun _ => ?_) <;> try (exfalso; omega)) | (with_reducible apply pcallE.of; · exact c1) | (with_reducible apply pcallE.of; · exact g1) | (with_reducible refine And.intro ?_ ?_; · omega) | simp -dsimp -implicitDefEqProofs (disch := omega) only [↓Q0 103, VCA, Nat.reduceEqDiff, Nat.reduceAdd, Nat.reduceLT, ↓reduceIte, e1, e2])
    refine hs6 _ e1 e2 e5 e6 e7
  · cases b4
    · repeat' (first | ((with_reducible refine brC (fun _ => ?_) fun _ => ?_) <;> try (exfalso; omega)) | (with_reducible apply pcallE.of; · exact c1) | (with_reducible apply pcallE.of; · exact g1) | (with_reducible refine And.intro ?_ ?_; · omega) | simp -dsimp -implicitDefEqProofs (disch := omega) only [↓Q0 103, VCA, Nat.reduceEqDiff, Nat.reduceAdd, Nat.reduceLT, ↓reduceIte, e1, e2, e7, h4])
      refine hs6 _ e1 e2 e5 e6 e7
    · repeat' (first | ((with_reducible refine brC (fun _ => ?_) fun _ => ?_) <;> try (exfalso; omega)) | (with_reducible apply pcallE.of; · exact c1) | (with_reducible apply pcallE.of; · exact g1) | (with_reducible refine And.intro ?_ ?_; · omega) | simp -dsimp -implicitDefEqProofs (disch := omega) only [↓Q0 103, VCA, Nat.reduceEqDiff, Nat.reduceAdd, Nat.reduceLT, ↓reduceIte, exists_eq_right, e1, e2, e7, h4])
      all_goals first | exact Sub.refl _ | exact ⟨Sub.refl _, rfl⟩ | trace_state
theorem faultM_X (d : HDoc) (o : List Int) (n : Int) : faultM d o n = if missM d o n = true then 1 else fltX d n := rfl
theorem refFault_ok (d : HDoc) (V : DV d) (sm : DocSm d) (n : Int) (hn : inD d n) : PCalls (Pg G) 22 [.agg (Q7 d), Q4 n] (Q4 (faultM d (Z4 d 0) n)) := fun h => by
  have hl := V.len
  have cV := refValue_ok (G := G) d V sm n hn
  have cK := inputType_ok (G := G) d V sm n hn
  have vl := fvalM_len V hn
  have cD := refDecode_ok (G := G) (X7 d n) (by omega)
  have cR := YV (G := G) d sm n hn [114, 101, 113, 117, 105, 114, 101, 100]
  have cC := YV (G := G) d sm n hn [99, 104, 101, 99, 107, 101, 100]
  have cB := below_ok (G := G) d V sm 0 V.zero
  have cA := JT (G := G) d sm n hn [110, 97, 109, 101]
  have cO := refOwner_ok (G := G) d V sm n hn
  have gI := fun k hk => isCtl_ok (G := G) d sm k hk
  have gK := fun k hk => inputType_ok (G := G) d V sm k hk
  have gC := fun k hk => YV (G := G) d sm k hk [99, 104, 101, 99, 107, 101, 100]
  have gA := fun k hk => JT (G := G) d sm k hk [110, 97, 109, 101]
  have gO := fun k hk => refOwner_ok (G := G) d V sm k hk
  have bl := U1 V V.zero
  have bi := T7 V 0 V.zero
  have hM : TJ d n = ((decD (X7 d n)).length : Int) := rfl
  have dE : Q7 d = [sl Q5 d.nodes, .bool d.quirks] := rfl
  rw [dE] at cV cK cR cC cB cA cO
  have hs5 := fun (E : Env) a b c dd e => fault_s5 (G := G) d V sm n hn (h := h) E a b c dd e
  rw [faultM_X]
  unfold missM
  obtain ⟨o, ho⟩ : ∃ o, Z4 d 0 = o := ⟨_, rfl⟩
  rw [ho] at cB cO bl bi gO ⊢
  obtain ⟨b1, h1⟩ : ∃ b, X2 d n [114, 101, 113, 117, 105, 114, 101, 100] = b := ⟨_, rfl⟩
  rw [h1] at cR ⊢
  have e2k := tick_two (Y1 d n)
  obtain ⟨b2, h2⟩ : ∃ b, TV (Y1 d n) = b := ⟨_, rfl⟩
  rw [h2] at e2k
  rw [h2]
  have hX : (if (false && (if b2 = true then !X2 d n [99, 104, 101, 99, 107, 101, 100] && ((Y1 d n == [99, 104, 101, 99, 107, 98, 111, 120]) || !(o.any (QU d o n))) else X7 d n == [])) = true then (1 : Int) else fltX d n) = fltX d n := by rw [Bool.false_and]; rfl
  cases b1
  · rw [hX]
    refine Q1 Tryz.func22 hn22 hc22 (by rw [Tryz.ntmps22]; simp) (by rw [Tryz.ntmps22]; decide) ?_
    simp -dsimp -implicitDefEqProofs (disch := omega) only [VCA, Nat.reduceEqDiff, Nat.reduceAdd, ↓reduceIte, c22, Q7]
    repeat' (first | ((with_reducible refine brC (fun _ => ?_) fun _ => ?_) <;> try (exfalso; omega)) | (with_reducible apply pcallE.of; · exact cV) | (with_reducible apply pcallE.of; · exact cK) | (with_reducible apply pcallE.of; · exact cD) | (with_reducible apply pcallE.of; · exact cR) | (with_reducible refine And.intro ?_ ?_; · omega) | simp -dsimp -implicitDefEqProofs (disch := omega) only [VCA, Nat.reduceEqDiff, Nat.reduceAdd, ↓reduceIte])
    exact hs5 _ rfl rfl rfl rfl (congrArg Q4 hM.symm)
  · obtain ⟨b3, h3⟩ : ∃ b, X2 d n [99, 104, 101, 99, 107, 101, 100] = b := ⟨_, rfl⟩
    rw [h3] at cC
    obtain ⟨b6, h6⟩ : ∃ b, (X7 d n == []) = b := ⟨_, rfl⟩
    cases b2
    · have e1 : (Y1 d n != [99, 104, 101, 99, 107, 98, 111, 120]) = true := by
        rw [Bool.not_false, Bool.and_eq_true] at e2k; exact e2k.1
      have e2 : (Y1 d n != [114, 97, 100, 105, 111]) = true := by
        rw [Bool.not_false, Bool.and_eq_true] at e2k; exact e2k.2
      cases b6
      · have hv : (if (true && (if false = true then !X2 d n [99, 104, 101, 99, 107, 101, 100] && ((Y1 d n == [99, 104, 101, 99, 107, 98, 111, 120]) || !(o.any (QU d o n))) else X7 d n == [])) = true then (1 : Int) else fltX d n) = fltX d n := by simp [h6]
        rw [hv]
        refine Q1 Tryz.func22 hn22 hc22 (by rw [Tryz.ntmps22]; simp) (by rw [Tryz.ntmps22]; decide) ?_
        simp -dsimp -implicitDefEqProofs (disch := omega) only [VCA, Nat.reduceEqDiff, Nat.reduceAdd, ↓reduceIte, c22, Q7]
        repeat' (first | ((with_reducible refine brC (fun _ => ?_) fun _ => ?_) <;> try (exfalso; omega)) | (with_reducible apply pcallE.of; · exact cV) | (with_reducible apply pcallE.of; · exact cK) | (with_reducible apply pcallE.of; · exact cD) | (with_reducible apply pcallE.of; · exact cR) | (with_reducible refine And.intro ?_ ?_; · omega) | simp -dsimp -implicitDefEqProofs (disch := omega) only [↓Q0 36, VCA, Nat.reduceEqDiff, Nat.reduceAdd, ↓reduceIte, e1, e2, h6])
        exact hs5 _ rfl rfl rfl rfl (congrArg Q4 hM.symm)
      · have hv : (if (true && (if false = true then !X2 d n [99, 104, 101, 99, 107, 101, 100] && ((Y1 d n == [99, 104, 101, 99, 107, 98, 111, 120]) || !(o.any (QU d o n))) else X7 d n == [])) = true then (1 : Int) else fltX d n) = 1 := by simp [h6]
        rw [hv]
        refine Q1 Tryz.func22 hn22 hc22 (by rw [Tryz.ntmps22]; simp) (by rw [Tryz.ntmps22]; decide) ?_
        simp -dsimp -implicitDefEqProofs (disch := omega) only [VCA, Nat.reduceEqDiff, Nat.reduceAdd, ↓reduceIte, c22, Q7]
        repeat' (first | ((with_reducible refine brC (fun _ => ?_) fun _ => ?_) <;> try (exfalso; omega)) | (with_reducible apply pcallE.of; · exact cV) | (with_reducible apply pcallE.of; · exact cK) | (with_reducible apply pcallE.of; · exact cD) | (with_reducible apply pcallE.of; · exact cR) | (with_reducible refine And.intro ?_ ?_; · omega) | simp -dsimp -implicitDefEqProofs (disch := omega) only [↓Q0 36, VCA, Nat.reduceEqDiff, Nat.reduceAdd, ↓reduceIte, exists_eq_right, e1, e2, h6])
        all_goals first | exact Sub.refl _ | exact ⟨Sub.refl _, rfl⟩ | trace_state
    · obtain ⟨b7, h7⟩ : ∃ b, (Y1 d n == [114, 97, 100, 105, 111]) = b := ⟨_, rfl⟩
      have h7n : (Y1 d n != [114, 97, 100, 105, 111]) = !b7 := by rw [<- h7]; rfl
      obtain ⟨b8, h8⟩ : ∃ b, (Y1 d n == [99, 104, 101, 99, 107, 98, 111, 120]) = b := ⟨_, rfl⟩
      have h8n : (Y1 d n != [99, 104, 101, 99, 107, 98, 111, 120]) = !b8 := by rw [<- h8]; rfl
      have hor : b8 = !b7 := by
        unfold TV at h2
        rw [h7, h8] at h2
        cases b7 <;> cases b8
        · cases h2
        · rfl
        · rfl
        · exfalso
          have q1 : Y1 d n = [99, 104, 101, 99, 107, 98, 111, 120] := by simpa using h8
          rw [q1] at h7
          exact absurd h7 (by decide)
      obtain ⟨R, hRd⟩ : ∃ R, (b3 || (b7 && o.any (QU d o n))) = R := ⟨_, rfl⟩
      have hv : (if (true && (if true = true then !X2 d n [99, 104, 101, 99, 107, 101, 100] && ((Y1 d n == [99, 104, 101, 99, 107, 98, 111, 120]) || !(o.any (QU d o n))) else X7 d n == [])) = true then (1 : Int) else fltX d n) = if R = true then fltX d n else 1 := by
        rw [h3, h8, <- hRd, hor]
        cases b3 <;> cases b7 <;> cases o.any (QU d o n) <;> simp
      rw [hv]
      subst hor
      rw [Bool.not_not] at h8n
      have pin : (AVal.pin (Q7 d)) = .pin [sl Q5 d.nodes, .bool d.quirks] := rfl
      generalize hmany : TJ d n = many at *
      cases b7
      · have hR : R = b3 := by rw [<- hRd]; simp
        subst hR
        simp only [Bool.not_false] at h7n h8n
        refine Q1 Tryz.func22 hn22 hc22 (by rw [Tryz.ntmps22]; simp) (by rw [Tryz.ntmps22]; decide) ?_
        simp -dsimp -implicitDefEqProofs (disch := omega) only [VCA, Nat.reduceEqDiff, Nat.reduceAdd, ↓reduceIte, c22, Q7]
        repeat' (first | ((with_reducible refine brC (fun _ => ?_) fun _ => ?_) <;> try (exfalso; omega)) | (with_reducible apply pcallE.of; · exact cV) | (with_reducible apply pcallE.of; · exact cK) | (with_reducible apply pcallE.of; · exact cD) | (with_reducible apply pcallE.of; · exact cR) | (with_reducible apply pcallE.of; · exact cC) | (with_reducible apply pcallE.of; · exact cB) | (with_reducible refine And.intro ?_ ?_; · omega) | simp -dsimp -implicitDefEqProofs (disch := omega) only [↓Q0 36, VCA, Nat.reduceEqDiff, Nat.reduceAdd, ↓reduceIte, h8n])
        refine LoopVC.intro (fun m e h' => m = 0 /\ e 1 = Q4 n /\ e 2 = .pin [sl Q5 d.nodes, .bool d.quirks] /\ e 5 = .str (X7 d n) /\ e 6 = .str (Y1 d n) /\ e 7 = Q4 many /\ e 8 = .bool R /\ e 9 = sl Z3 o /\ e 10 = Q4 0 /\ h' = h) 0
          ⟨rfl, rfl, rfl, rfl, rfl, congrArg Q4 hM.symm, rfl, rfl, rfl, rfl⟩ ?_
        rintro m e h' ⟨rfl, e1, e2, e5, e6, e7, e8, e9, e10, rfl⟩
        obtain ⟨bj, hbj⟩ : ∃ b, decide ((0 : Int) < (o.length : Int)) = b := ⟨_, rfl⟩
        cases bj <;> cases R
        all_goals
          repeat' (first | ((with_reducible refine brC (fun _ => ?_) fun _ => ?_) <;> try (exfalso; omega)) | (with_reducible refine And.intro ?_ ?_; · omega) | simp -dsimp -implicitDefEqProofs (disch := omega) only [↓Q0 51, VCA, Nat.reduceEqDiff, ↓reduceIte, exists_eq_right, e6, e8, e9, e10, hbj, h7])
        all_goals first | exact hs5 _ e1 e2 e5 e6 e7 | exact Sub.refl _ | exact ⟨Sub.refl _, rfl⟩ | trace_state
      · have hR : R = (b3 || o.any (QU d o n)) := by rw [<- hRd]; simp
        simp only [Bool.not_true] at h7n h8n
        refine Q1 Tryz.func22 hn22 hc22 (by rw [Tryz.ntmps22]; simp) (by rw [Tryz.ntmps22]; decide) ?_
        simp -dsimp -implicitDefEqProofs (disch := omega) only [VCA, Nat.reduceEqDiff, Nat.reduceAdd, ↓reduceIte, c22, Q7]
        repeat' (first | ((with_reducible refine brC (fun _ => ?_) fun _ => ?_) <;> try (exfalso; omega)) | (with_reducible apply pcallE.of; · exact cV) | (with_reducible apply pcallE.of; · exact cK) | (with_reducible apply pcallE.of; · exact cD) | (with_reducible apply pcallE.of; · exact cR) | (with_reducible apply pcallE.of; · exact cC) | (with_reducible apply pcallE.of; · exact cB) | (with_reducible refine And.intro ?_ ?_; · omega) | simp -dsimp -implicitDefEqProofs (disch := omega) only [↓Q0 36, VCA, Nat.reduceEqDiff, Nat.reduceAdd, ↓reduceIte, h7n, h8n])
        refine LoopVC.intro (fun m e h' => ∃ k : Nat, k <= o.length /\ m = o.length - k /\ e 1 = Q4 n /\ e 2 = .pin [sl Q5 d.nodes, .bool d.quirks] /\ e 5 = .str (X7 d n) /\ e 6 = .str (Y1 d n) /\ e 7 = Q4 many /\ e 8 = .bool (b3 || (o.take k).any (QU d o n)) /\ e 9 = sl Z3 o /\ e 10 = Q4 k /\ h' = h) o.length
          ⟨0, by omega, rfl, rfl, rfl, rfl, rfl, congrArg Q4 hM.symm, (by show AVal.bool b3 = .bool (b3 || (o.take 0).any (QU d o n)); rw [List.take_zero, List.any_nil, Bool.or_false]), rfl, rfl, rfl⟩ ?_
        rintro m e h' ⟨k, hk, rfl, e1, e2, e5, e6, e7, e8, e9, e10, rfl⟩
        by_cases hlt : k < o.length
        · have d1 : decide ((k : Int) < (o.length : Int)) = true := decide_eq_true (by omega)
          obtain ⟨x, hx⟩ : ∃ x, nth o k = x := ⟨_, rfl⟩
          have hxo : inD d x := by rw [<- hx]; exact bi _ (Y2 hlt)
          have tk : (o.take (k + 1)).any (QU d o n) = ((o.take k).any (QU d o n) || QU d o n x) := by
            rw [X4 hlt, List.any_append, hx, List.any_cons, List.any_nil, Bool.or_false]
          have hmi := mate_is d V o n hxo
          obtain ⟨z, hz⟩ : ∃ z, (b3 || (o.take k).any (QU d o n)) = z := ⟨_, rfl⟩
          have tk2 : (b3 || (o.take (k + 1)).any (QU d o n)) = (z || QU d o n x) := by rw [tk, <- Bool.or_assoc, hz]
          rw [hz] at e8
          have yI := gI x hxo
          have yK := gK x hxo
          have yC := gC x hxo
          have yA := gA x hxo
          have yO := gO x hxo
          rw [dE] at yI yK yC yA yO
          generalize ((nd d x).kind == 2 && inW (nd d x).name V6) = w1 at *
          obtain ⟨w2, h2x⟩ : ∃ b, (Y1 d x == [114, 97, 100, 105, 111]) = b := ⟨_, rfl⟩
          obtain ⟨w4, h4x⟩ : ∃ b, (X5 d x [110, 97, 109, 101] == X5 d n [110, 97, 109, 101]) = b := ⟨_, rfl⟩
          obtain ⟨w5, h5x⟩ : ∃ b, (ownM d o x == ownM d o n) = b := ⟨_, rfl⟩
          rw [h2x, h4x, h5x] at hmi
          generalize X2 d x [99, 104, 101, 99, 107, 101, 100] = w3 at *
          rw [<- hmi] at tk2
          cases w1
          · simp only [Bool.false_and, Bool.or_false] at tk2
            repeat' (first | ((with_reducible refine brC (fun _ => ?_) fun _ => ?_) <;> try (exfalso; omega)) | (with_reducible apply pcallE.of; · exact yI) | (with_reducible refine And.intro ?_ ?_; · omega) | simp -dsimp -implicitDefEqProofs (disch := omega) only [↓Q0 51, ↓Z0 64, ↓Z0 70, ↓Z0 75, ↓Z0 84, VCA, Nat.reduceEqDiff, Nat.reduceAdd, ↓reduceIte, Y6, Q9, Z7, Z3, e1, e2, e5, e6, e7, e8, e9, e10, d1, h7, hx])
            all_goals first | exact ⟨_, by omega, k + 1, by omega, rfl, tk2.symm, by omega⟩ | trace_state
          · cases w2
            · simp only [Bool.false_and, Bool.and_false, Bool.or_false] at tk2
              repeat' (first | ((with_reducible refine brC (fun _ => ?_) fun _ => ?_) <;> try (exfalso; omega)) | (with_reducible apply pcallE.of; · exact yI) | (with_reducible apply pcallE.of; · exact yK) | (with_reducible refine And.intro ?_ ?_; · omega) | simp -dsimp -implicitDefEqProofs (disch := omega) only [↓Q0 51, ↓Z0 64, ↓Z0 70, ↓Z0 75, ↓Z0 84, VCA, Nat.reduceEqDiff, Nat.reduceAdd, ↓reduceIte, Y6, Q9, Z7, Z3, e1, e2, e5, e6, e7, e8, e9, e10, d1, h7, hx, h2x])
              all_goals first | exact ⟨_, by omega, k + 1, by omega, rfl, tk2.symm, by omega⟩ | trace_state
            · cases w3
              · simp only [Bool.false_and, Bool.and_false, Bool.or_false] at tk2
                repeat' (first | ((with_reducible refine brC (fun _ => ?_) fun _ => ?_) <;> try (exfalso; omega)) | (with_reducible apply pcallE.of; · exact yI) | (with_reducible apply pcallE.of; · exact yK) | (with_reducible apply pcallE.of; · exact yC) | (with_reducible refine And.intro ?_ ?_; · omega) | simp -dsimp -implicitDefEqProofs (disch := omega) only [↓Q0 51, ↓Z0 64, ↓Z0 70, ↓Z0 75, ↓Z0 84, VCA, Nat.reduceEqDiff, Nat.reduceAdd, ↓reduceIte, Y6, Q9, Z7, Z3, e1, e2, e5, e6, e7, e8, e9, e10, d1, h7, hx, h2x])
                all_goals first | exact ⟨_, by omega, k + 1, by omega, rfl, tk2.symm, by omega⟩ | trace_state
              · cases w4
                · simp only [Bool.false_and, Bool.and_false, Bool.or_false] at tk2
                  repeat' (first | ((with_reducible refine brC (fun _ => ?_) fun _ => ?_) <;> try (exfalso; omega)) | (with_reducible apply pcallE.of; · exact yI) | (with_reducible apply pcallE.of; · exact yK) | (with_reducible apply pcallE.of; · exact yC) | (with_reducible apply pcallE.of; · exact yA) | (with_reducible apply pcallE.of; · exact cA) | (with_reducible refine And.intro ?_ ?_; · omega) | simp -dsimp -implicitDefEqProofs (disch := omega) only [↓Q0 51, ↓Z0 64, ↓Z0 70, ↓Z0 75, ↓Z0 84, VCA, Nat.reduceEqDiff, Nat.reduceAdd, ↓reduceIte, Y6, Q9, Z7, Z3, e1, e2, e5, e6, e7, e8, e9, e10, d1, h7, hx, h2x, h4x])
                  all_goals first | exact ⟨_, by omega, k + 1, by omega, rfl, tk2.symm, by omega⟩ | trace_state
                · cases w5
                  · simp only [Bool.and_false, Bool.or_false] at tk2
                    repeat' (first | ((with_reducible refine brC (fun _ => ?_) fun _ => ?_) <;> try (exfalso; omega)) | (with_reducible apply pcallE.of; · exact yI) | (with_reducible apply pcallE.of; · exact yK) | (with_reducible apply pcallE.of; · exact yC) | (with_reducible apply pcallE.of; · exact yA) | (with_reducible apply pcallE.of; · exact cA) | (with_reducible apply pcallE.of; · exact yO) | (with_reducible apply pcallE.of; · exact cO) | (with_reducible refine And.intro ?_ ?_; · omega) | simp -dsimp -implicitDefEqProofs (disch := omega) only [↓Q0 51, ↓Z0 64, ↓Z0 70, ↓Z0 75, ↓Z0 84, VCA, Nat.reduceEqDiff, Nat.reduceAdd, ↓reduceIte, Y6, Q9, Z7, Z3, e1, e2, e5, e6, e7, e8, e9, e10, d1, h7, hx, h2x, h4x, h5x])
                    all_goals first | exact ⟨_, by omega, k + 1, by omega, rfl, tk2.symm, by omega⟩ | trace_state
                  · simp only [Bool.and_true, Bool.or_true] at tk2
                    repeat' (first | ((with_reducible refine brC (fun _ => ?_) fun _ => ?_) <;> try (exfalso; omega)) | (with_reducible apply pcallE.of; · exact yI) | (with_reducible apply pcallE.of; · exact yK) | (with_reducible apply pcallE.of; · exact yC) | (with_reducible apply pcallE.of; · exact yA) | (with_reducible apply pcallE.of; · exact cA) | (with_reducible apply pcallE.of; · exact yO) | (with_reducible apply pcallE.of; · exact cO) | (with_reducible refine And.intro ?_ ?_; · omega) | simp -dsimp -implicitDefEqProofs (disch := omega) only [↓Q0 51, ↓Z0 64, ↓Z0 70, ↓Z0 75, ↓Z0 84, VCA, Nat.reduceEqDiff, Nat.reduceAdd, ↓reduceIte, Y6, Q9, Z7, Z3, e1, e2, e5, e6, e7, e9, e10, d1, h7, hx, h2x, h4x, h5x])
                    all_goals first | exact ⟨_, by omega, k + 1, by omega, rfl, tk2.symm, by omega⟩ | trace_state
        · obtain rfl : k = o.length := by omega
          have d1 : decide ((o.length : Int) < (o.length : Int)) = false := decide_eq_false (by omega)
          rw [List.take_length, <- hR] at e8
          cases R
          all_goals
            repeat' (first | ((with_reducible refine brC (fun _ => ?_) fun _ => ?_) <;> try (exfalso; omega)) | (with_reducible refine And.intro ?_ ?_; · omega) | simp -dsimp -implicitDefEqProofs (disch := omega) only [↓Q0 51, VCA, Nat.reduceEqDiff, ↓reduceIte, exists_eq_right, e8, e9, e10, d1])
          all_goals first | exact hs5 _ e1 e2 e5 e6 e7 | exact Sub.refl _ | exact ⟨Sub.refl _, rfl⟩ | trace_state
structure EI (h0 : Q2) (d : HDoc) (F : AVal) (r6 r8 r9 rM : Nat) (f : Int) (R : List Int) (seen : List (List UInt8)) (ao : AVal) (h : Q2) : Prop where
  c6 : h r6 = some ⟨.t 60, 1, [[F]]⟩
  c8 : h r8 = some ⟨.t 22, 1, [[ao]]⟩
  c9 : h r9 = some ⟨.t 63, 1, [[.mpr rM]]⟩
  cM : h rM = some ⟨.m 63 (eMs seen), 1, []⟩
  acc : Acc h0 25 2 ((KW d f R).map JK) ao h
  sub : Sim.Sub h0 h
  fr : h0 r6 = none /\ h0 r8 = none /\ h0 r9 = none /\ h0 rM = none
  seen : ∀ nm, nm ∈ seen ↔ R.any (fun k => YQ d f k && (radM d k && X5 d k [110, 97, 109, 101] == nm)) = true
theorem EI.strp {h0 hb : Q2} {d : HDoc} {F : AVal} {r6 r8 r9 rM : Nat} {f : Int} {R : List Int} {o' : AObj} (h01 : Sim.Sub h0 hb) (hM : hb rM = some o') (hm : o'.ty.isM = true) : StrpM hb fun h => ∃ seen ao, EI h0 d F r6 r8 r9 rM f R seen ao h := by
  rintro h' h'' ⟨seen, ao, S⟩ _ hk hk2
  have k : ∀ r o, h' r = some o -> o.ty.isM = false -> h'' r = some o := fun r o ho hm => hk r o ho (.inl hm)
  refine ⟨seen, ao, k _ _ S.c6 rfl, k _ _ S.c8 rfl, k _ _ S.c9 rfl, hk2 _ _ _ S.cM hM hm, ?_, fun t o ht => hk t o (S.sub t o ht) (.inr (h01 t o ht)), S.fr, S.seen⟩
  rcases S.acc with q | ⟨r, q0, q1, q2⟩
  · exact .inl q
  · exact .inr ⟨r, q0, k _ _ q1 rfl, q2⟩
theorem EI.skip {h0 h : Q2} {d : HDoc} {F : AVal} {r6 r8 r9 rM : Nat} {f n : Int} {R : List Int} {seen : List (List UInt8)} {ao : AVal} (S : EI h0 d F r6 r8 r9 rM f R seen ao h) (ht : YQ d f n = false) : EI h0 d F r6 r8 r9 rM f (n :: R) seen ao h :=
  ⟨S.c6, S.c8, S.c9, S.cM, by rw [KW, if_neg (by rw [ht]; simp), List.nil_append]; exact S.acc, S.sub, S.fr, fun nm => by rw [S.seen nm, List.any_cons, ht, Bool.false_and, Bool.false_or]⟩
theorem EI.put {h0 h : Q2} {d : HDoc} {F : AVal} {r6 r8 r9 rM : Nat} {f : Int} {R : List Int} {seen : List (List UInt8)} {ao : AVal} (S : EI h0 d F r6 r8 r9 rM f R seen ao h) (nm : List UInt8) (h' : Q2) (hh : h' = upd h rM (some ⟨.m 63 (eMs (putS nm seen)), 1, []⟩)) :
    h' r6 = some ⟨.t 60, 1, [[F]]⟩ /\ h' r8 = some ⟨.t 22, 1, [[ao]]⟩ /\ h' r9 = some ⟨.t 63, 1, [[.mpr rM]]⟩ /\ h' rM = some ⟨.m 63 (eMs (putS nm seen)), 1, []⟩ /\ Acc h0 25 2 ((KW d f R).map JK) ao h' /\ Sim.Sub h0 h' := by
  subst hh
  have m6 : r6 ≠ rM := fun e => by have q := S.c6; rw [e, S.cM] at q; cases q
  have m8 : r8 ≠ rM := fun e => by have q := S.c8; rw [e, S.cM] at q; cases q
  have m9 : r9 ≠ rM := fun e => by have q := S.c9; rw [e, S.cM] at q; cases q
  refine ⟨by rw [J9 _ _ m6]; exact S.c6, by rw [J9 _ _ m8]; exact S.c8, by rw [J9 _ _ m9]; exact S.c9, J7 _ _ _, ?_, S.sub.upd S.fr.2.2.2⟩
  refine S.acc.keepA (fun e => ?_) _
  rcases S.acc with ⟨_, q⟩ | ⟨r, q0, q1, q2⟩
  · rw [q] at e; cases e
  · rw [q2] at e
    have e : r = rM := Option.some.inj e
    rw [e, S.cM] at q1; cases q1
theorem EI.add {h0 h h3 : Q2} {d : HDoc} {F : AVal} {r6 r8 r9 rM : Nat} {f n : Int} {R : List Int} {sn : List (List UInt8)} {ao a3 : AVal} (sub : Sim.Sub h0 h) (fr : h0 r6 = none /\ h0 r8 = none /\ h0 r9 = none /\ h0 rM = none)
    (A3 : Acc h 25 2 ((JU d n).map JK ++ (KW d f R).map JK) a3 h3) (S3 : Sim.Sub h h3) (n8 : U3 a3 ≠ some r8)
    (e6 : h3 r6 = some ⟨.t 60, 1, [[F]]⟩) (e8 : h3 r8 = some ⟨.t 22, 1, [[ao]]⟩) (e9 : h3 r9 = some ⟨.t 63, 1, [[.mpr rM]]⟩) (eM : h3 rM = some ⟨.m 63 (eMs sn), 1, []⟩)
    (ht : KW d f (n :: R) = JU d n ++ KW d f R) (hs : ∀ nm, nm ∈ sn ↔ (n :: R).any (fun k => YQ d f k && (radM d k && X5 d k [110, 97, 109, 101] == nm)) = true) :
    EI h0 d F r6 r8 r9 rM f (n :: R) sn a3 (upd h3 r8 (some ⟨.t 22, 1, [[a3]]⟩)) := by
  have n6 : r6 ≠ r8 := fun e => by rw [e, e8] at e6; cases e6
  have n9 : r9 ≠ r8 := fun e => by rw [e, e8] at e9; cases e9
  have nM : rM ≠ r8 := fun e => by rw [e, e8] at eM; cases eM
  refine ⟨by rw [J9 _ _ n6]; exact e6, J7 _ _ _, by rw [J9 _ _ n9]; exact e9, by rw [J9 _ _ nM]; exact eM, ?_, Sim.Sub.upd (fun t o q => S3 t o (sub t o q)) fr.2.1, fr, hs⟩
  rw [ht, List.map_append]
  exact (A3.mono sub).keepA n8 _
theorem putS_mem (nm : List UInt8) (l : List (List UInt8)) (x : List UInt8) : x ∈ putS nm l ↔ x ∈ l \/ nm = x := by
  unfold putS
  split
  · rename_i h
    exact ⟨.inl, fun q => q.elim id fun e => e ▸ h⟩
  · rw [List.mem_append, List.mem_singleton]
    exact or_congr_right eq_comm
theorem seen_put {d : HDoc} {f n : Int} {R : List Int} {seen : List (List UInt8)} (hs : ∀ nm, nm ∈ seen ↔ R.any (fun k => YQ d f k && (radM d k && X5 d k [110, 97, 109, 101] == nm)) = true) (ht : YQ d f n = true) (hr : radM d n = true) :
    ∀ nm, nm ∈ putS (X5 d n [110, 97, 109, 101]) seen ↔ (n :: R).any (fun k => YQ d f k && (radM d k && X5 d k [110, 97, 109, 101] == nm)) = true := fun nm => by
  rw [putS_mem, hs nm, List.any_cons, Bool.or_eq_true, ht, hr, Bool.true_and, Bool.true_and, beq_iff_eq]
  exact or_comm
theorem late_seen {d : HDoc} {f n : Int} {R : List Int} {seen : List (List UInt8)} (hs : ∀ nm, nm ∈ seen ↔ R.any (fun k => YQ d f k && (radM d k && X5 d k [110, 97, 109, 101] == nm)) = true) (hr : radM d n = true) : lateM d f R n = decide (X5 d n [110, 97, 109, 101] ∈ seen) := by
  unfold lateM
  rw [hr, Bool.true_and, Bool.eq_iff_iff, decide_eq_true_iff, hs]
theorem aFnd_y (z v : AVal) : KY true z (some v) = .tup [v, .bool true] := rfl
theorem aFnd_n (z : AVal) : KY true z none = .tup [z, .bool false] := rfl
theorem lift_sub {α : Type} {Q : α -> Prop} : ∀ l : List α, (∀ x ∈ l, Q x) -> ∃ xs : List { x // Q x }, xs.map (·.1) = l
  | [], _ => ⟨[], rfl⟩
  | x :: r, h => by
    obtain ⟨xs, hx⟩ := lift_sub r fun y hy => h y (List.mem_cons_of_mem _ hy)
    exact ⟨⟨x, h x List.mem_cons_self⟩ :: xs, by rw [List.map_cons, hx]⟩
theorem EI.late {h0 h : Q2} {d : HDoc} {F : AVal} {r6 r8 r9 rM : Nat} {f n : Int} {R : List Int} {sn : List (List UInt8)} {ao : AVal} (S : EI h0 d F r6 r8 r9 rM f R sn ao h) (ht : YQ d f n = true) (hr : radM d n = true) (hl : lateM d f R n = true) :
    EI h0 d F r6 r8 r9 rM f (n :: R) (putS (X5 d n [110, 97, 109, 101]) sn) ao (upd h rM (some ⟨.m 63 (eMs (putS (X5 d n [110, 97, 109, 101]) sn)), 1, []⟩)) := by
  obtain ⟨c6, c8, c9, cM, A, B⟩ := S.put (X5 d n [110, 97, 109, 101]) _ rfl
  exact ⟨c6, c8, c9, cM, by rw [KW, if_neg (by rw [hl]; simp), List.nil_append]; exact A, B, S.fr, seen_put S.seen ht hr⟩
def tellsM (d : HDoc) (n : Int) : List HEnt × Int :=
  if V5 d n [102, 111, 114, 109] ≠ 0 then ([], V5 d n [102, 111, 114, 109]) else if 100 < (KW d n (Z4 d 0)).length then ([], 2) else (KW d n (Z4 d 0), 0)
def k14_1 : List UInt8 := [32, 105, 110, 112, 117, 116, 32, 116, 101, 120, 116, 97, 114, 101, 97, 32, 115, 101, 108, 101, 99, 116, 32, 98, 117, 116, 116, 111, 110, 32]
def c14 : SFun := ⟨.seq (.reg [o 2 (.boxF 36 2 (.t 0)), o 3 (.boxF 3 1 (.t 1)), o 4 (.mv (.c .emp)), o 5 (.mv (.c (.int .i64 0)))]) (.seq (.reg [o 15 (.ld 2 true (.t 2)), o 16 (.ld 1 false (.t 3)), o 17 (.pcall 32 [.t 15, .t 16, .c (.str [32, 102, 111, 114, 109, 32])]), o 14 (.mv (.t 17)), o 18 (.ext (.t 14) 0), o 19 (.ext (.t 14) 1), o 6 (.new 60 1 [.prim (Value.pointer none)]), ⟨none, .st 1 (.t 6) (.t 18), none⟩, o 7 (.mv (.t 19))]) (.seq (.seq (.reg [o 20 (.mv (.t 7)), o 21 (.bin .neq (.t 20) (.c (.int .i64 0)))]) (.cond (.t 21) (.seq (.reg [o 22 (.mv (.t 7)), o 4 (.mv (.c .emp)), o 5 (.mv (.t 22))]) .ret) .skip)) (.seq (.reg [o 8 (.new 22 1 [.emp])]) (.seq (.reg [o 23 (.mkm 63), o 9 (.new 63 1 [.prim (Value.map none)]), ⟨none, .st 1 (.t 9) (.t 23), none⟩]) (.seq (.seq (.reg [o 24 (.ld 1 false (.t 6)), o 25 (.fldA 0 (.t 24)), o 26 (.fldA 2 (.t 25)), o 27 (.ld 1 false (.t 26)), o 28 (.pcall 33 [.t 27])]) (.block 0 (.range (.t 28) [29, 30] (.reg [o 11 (.mv (.t 30))]) (.block 1 (.seq (.seq (.dreg [(o 31 (.fldA 0 (.t 2)), none), (o 32 (.ld 1 false (.t 31)), none), (o 33 (.mv (.t 11)), none), (o 34 (.idxA 6 (.t 32) (.t 33)), none), (o 35 (.fldA 1 (.t 34)), none), (o 36 (.ld 1 false (.t 35)), none), (o 37 (.pcall 34 [.t 36, .c (.str k14_1)]), none), (o 38 (.un .not (.t 37)), none), (o 39 (.mv (.t 38)), none), (⟨some 40, .ld 1 false (.t 6), some (39, false)⟩, none), (⟨some 41, .mv (.t 11), some (39, false)⟩, none), (⟨some 42, .pcall 35 [.t 40, .t 41], some (39, false)⟩, none), (⟨some 43, .ld 1 false (.t 3), some (39, false)⟩, none), (⟨some 44, .bin .neq (.t 42) (.t 43), some (39, false)⟩, none), (o 45 (.pick (.t 39) (.c (.bool true)) (.t 44)), none), (o 46 (.mv (.t 45)), none), (⟨some 47, .ld 1 false (.t 6), some (46, false)⟩, none), (⟨some 48, .mv (.t 11), some (46, false)⟩, none), (⟨some 49, .pcall 36 [.t 47, .t 48], some (46, false)⟩, none), (⟨some 50, .un .not (.t 49), some (46, false)⟩, none), (o 51 (.pick (.t 46) (.c (.bool true)) (.t 50)), none)]) (.cond (.t 51) (.exit 1) .skip)) (.seq (.seq (.reg [o 52 (.ld 1 false (.t 6)), o 53 (.mv (.t 11)), o 54 (.pcall 37 [.t 52, .t 53]), o 55 (.bin .eql (.t 54) (.c (.str [114, 97, 100, 105, 111])))]) (.cond (.t 55) (.seq (.dreg [(o 57 (.ldm 23 1 false (.t 9)), none), (o 58 (.ld 1 false (.t 6)), none), (o 59 (.mv (.t 11)), none), (o 60 (.pcall 38 [.t 58, .t 59, .c (.str [110, 97, 109, 101])]), none), (o 61 (.lkp none true (.agg []) (.t 57) (.t 60)), none), (o 56 (.mv (.t 61)), none), (o 62 (.ext (.t 56) 0), none), (o 63 (.ext (.t 56) 1), none), (o 12 (.boxF 77 0 (.c (.agg []))), (some [])), (⟨none, .st 0 (.t 12) (.t 62), none⟩, (some [58])), (o 13 (.mv (.t 63)), none)]) (.seq (.dreg [(o 64 (.ldm 23 1 false (.t 9)), none), (o 65 (.ld 1 false (.t 6)), none), (o 66 (.mv (.t 11)), none), (o 67 (.pcall 38 [.t 65, .t 66, .c (.str [110, 97, 109, 101])]), none), (o 68 (.bld [] []), none), (⟨none, .mup none (.t 64) (.t 67) (.t 68), none⟩, (some [65]))]) (.seq (.reg [o 69 (.mv (.t 13))]) (.cond (.t 69) (.exit 1) .skip)))) .skip)) (.dreg [(o 70 (.ld 1 false (.t 6)), none), (o 71 (.mv (.t 11)), none), (o 73 (.ld 1 false (.t 8)), none), (o 72 (.call (.c (.fn 39 [] [])) [.t 70, .t 71]), (some [70])), (o 74 (.app 25 2 32 (.t 72) (.t 73)), (some [73, 70])), (⟨none, .st 1 (.t 8) (.t 74), none⟩, (some [73, 70]))]))))))) (.seq (.seq (.reg [o 75 (.ld 1 false (.t 8)), o 76 (.len (.t 75)), o 77 (.bin .gtr (.t 76) (.c (.int .i64 100)))]) (.cond (.t 77) (.seq (.reg [o 4 (.mv (.c .emp)), o 5 (.mv (.c (.int .i64 2)))]) .ret) .skip)) (.seq (.reg [o 78 (.ld 1 false (.t 8)), o 4 (.mv (.t 78)), o 5 (.mv (.c (.int .i64 0)))]) .ret))))))), [.tmp 4, .tmp 5]⟩
theorem hc14 : J1 Tryz.prog {pure := [32, 34, 35, 36, 37, 38, 33], mp := [23, 57, 64], how := [(57, 1023), (64, 1023), (72, 5)]} Tryz.f14 = some c14 := by kernel_rfl
theorem fEntries_ok (hG : X1 G) (hT : QW G) (d : HDoc) (sm : DocSm d) (n : Int) : PCalls (Pg G) 14 [.agg (Q7 d), Q4 n] (.tup [sl JK (tellsM d n).1, Q4 (tellsM d n).2]) := PCalls.outV fun h => by
  have cC := control_ok (G := G) hG d sm n [102, 111, 114, 109] (by decide +kernel) (by decide)
  have ek : (32 :: ([102, 111, 114, 109] ++ [32]) : List UInt8) = [32, 102, 111, 114, 109, 32] := rfl
  rw [ek] at cC
  unfold tellsM
  by_cases h0 : V5 d n [102, 111, 114, 109] = 0
  · rw [if_neg (by simpa using h0)]
    rw [h0] at cC
    have hd0 : KU d = 0 := by
      unfold V5 at h0
      split at h0
      · rename_i q; exact absurd h0 q
      · rename_i q; simpa using q
    have V := VQ hd0
    have hl := V.len
    have oD : W8 d = Z4 d 0 := if_pos hd0
    have bl := U1 V V.zero
    have bi := T7 V 0 V.zero
    rw [oD] at cC
    obtain ⟨o, ho⟩ : ∃ o, Z4 d 0 = o := ⟨_, rfl⟩
    rw [ho] at cC bl bi
    rw [ho]
    have el := entL_len V n o bi
    have cB := backI_ok (G := G) o
    have ek2 : k14_1 = 32 :: (V6 ++ [32]) := by decide +kernel
    have vF : isV (fA d o) = true := rfl
    have wF : cellsOf (fA d o) = [fA d o] := rfl
    have fE : fA d o = .pin [sl Q5 d.nodes, .bool d.quirks, sl Z3 o] := rfl
    have cOw := fun k hk => owner_ok (G := G) d V sm o bi (by omega) k hk
    have cTo := fun k hk => told_ok (G := G) hG hT d V sm o k hk
    have cKi := fun k hk => kind_ok (G := G) hG hT d V sm o k hk
    have cAt := fun k hk => T8 (G := G) d sm o k hk [110, 97, 109, 101]
    have cEn := fun k hk h => entries_ok (G := G) hG hT d V sm o k hk h
    obtain ⟨F, hF⟩ : ∃ F, fA d o = F := ⟨_, rfl⟩
    rw [hF] at cC vF wF fE cOw cTo cKi cAt cEn
    unfold Q7 at cC
    refine Q1 Tryz.func14 (by kernel_rfl) hc14 (by rw [Tryz.ntmps14]; simp) (by rw [Tryz.ntmps14]; decide) ?_
    simp -dsimp -implicitDefEqProofs (disch := omega) only [VCA, Nat.reduceEqDiff, Nat.reduceAdd, ↓reduceIte, c14, Q7]
    repeat' (first | ((with_reducible refine brC (fun _ => ?_) fun _ => ?_) <;> try (exfalso; omega)) | (with_reducible apply pcallE.of; · exact cC) | (with_reducible refine And.intro ?_ ?_; · omega) | simp -dsimp -implicitDefEqProofs (disch := omega) only [VCA, Nat.reduceEqDiff, Nat.reduceAdd, Nat.reduceLT, ↓reduceIte, Y7, exists_eq_left', vF, wF])
    intro r6 hr6
    have bz : ((0 : Int) != 0) = false := rfl
    repeat' (first | ((with_reducible refine brC (fun _ => ?_) fun _ => ?_) <;> try (exfalso; omega)) | (with_reducible refine And.intro ?_ ?_; · omega) | simp -dsimp -implicitDefEqProofs (disch := omega) only [VCA, ↓U5, Nat.reduceEqDiff, Nat.reduceLT, ↓reduceIte, Y7, ne_eq, exists_eq_left', bz])
    intro r8 hr8
    repeat' (first | ((with_reducible refine brC (fun _ => ?_) fun _ => ?_) <;> try (exfalso; omega)) | (with_reducible refine And.intro ?_ ?_; · omega) | simp -dsimp -implicitDefEqProofs (disch := omega) only [↓Q0 39, ↓Z0 39, ↓Q0 46, ↓Z0 46, VCA, TX, ↓U5, Nat.reduceEqDiff, Nat.reduceBEq, Nat.reduceAdd, Nat.reduceSub, Nat.reduceMul, Nat.reduceLT, Nat.reduceLeDiff, ↓reduceIte, reduceCtorEq, Y6, Q9, SOp.rd, SI.rd, SX.rd, rdL, rdO, rdP, Z2, Y3, J6, K7, X0, Y7, implies_true, forall_const, forall_eq, ne_eq, exists_eq_right_right, exists_eq_right, exists_eq_left, exists_eq_left', Z7, Z3, ZJ, X6, JK, ZX, vF, wF])
    intro rM hrM
    repeat' (first | ((with_reducible refine brC (fun _ => ?_) fun _ => ?_) <;> try (exfalso; omega)) | (with_reducible refine And.intro ?_ ?_; · omega) | simp -dsimp -implicitDefEqProofs (disch := omega) only [↓Q0 39, ↓Z0 39, ↓Q0 46, ↓Z0 46, VCA, TX, ↓U5, Nat.reduceEqDiff, Nat.reduceBEq, Nat.reduceAdd, Nat.reduceSub, Nat.reduceMul, Nat.reduceLT, Nat.reduceLeDiff, ↓reduceIte, reduceCtorEq, Y6, Q9, SOp.rd, SI.rd, SX.rd, rdL, rdO, rdP, Z2, Y3, J6, K7, X0, Y7, implies_true, forall_const, forall_eq, ne_eq, exists_eq_right_right, exists_eq_right, exists_eq_left, exists_eq_left', Z7, Z3, ZJ, X6, JK, ZX, vF, wF])
    intro r9 hr9
    obtain ⟨g1, g2, g3, g4⟩ := hr9
    obtain ⟨g5, g6, g7⟩ := hrM
    obtain ⟨g8, g9⟩ := hr8
    have a1 : ¬ r6 = r9 := fun e => g3 e.symm
    have a2 : ¬ r6 = rM := fun e => g6 e.symm
    have a3 : ¬ r6 = r8 := fun e => g8 e.symm
    have q1 : aFldA 0 F = F := by rw [fE]; rfl
    have q2 : okFldA F = True := by rw [fE]; rfl
    have q3 : aFldA 2 F = .pin [sl Z3 o] := by rw [fE]; rfl
    repeat' (first | ((with_reducible refine brC (fun _ => ?_) fun _ => ?_) <;> try (exfalso; omega)) | (with_reducible apply pcallE.of; · exact cB) | (with_reducible refine And.intro ?_ ?_; · omega) | simp -dsimp -implicitDefEqProofs (disch := omega) only [VCA, Nat.reduceLT, ↓reduceIte, exists_eq_left', a1, a2, a3, q1, q2, q3])
    have hbm : ∀ x ∈ bkI o o.length, inD d x.2 := fun x hx => by
      have h1 : x.2 ∈ (bkI o o.length).map (·.2) := List.mem_map.2 ⟨x, hx, rfl⟩
      rw [bkI_map o _ (Nat.le_refl _), List.take_length, List.mem_reverse] at h1
      exact bi _ h1
    obtain ⟨xs, hxs⟩ := lift_sub (Q := fun p : Nat × Int => inD d p.2) (bkI o o.length) hbm
    have hR0 : (xs.map (·.1.2)).reverse = o := by
      have : xs.map (·.1.2) = (xs.map (·.1)).map (·.2) := by rw [List.map_map]; rfl
      rw [this, hxs, bkI_map o _ (Nat.le_refl _), List.take_length, List.reverse_reverse]
    obtain ⟨hb, hhb⟩ : ∃ x, upd (upd (upd (upd h r6 (some ⟨.t 60, 1, [[F]]⟩)) r8 (some ⟨.t 22, 1, [[.emp]]⟩)) rM (some ⟨.m 63 [], 1, []⟩)) r9 (some ⟨.t 63, 1, [[.mpr rM]]⟩) = x := ⟨_, rfl⟩
    have S0 : EI h d F r6 r8 r9 rM n [] [] .emp hb := by
      rw [<- hhb]
      refine ⟨by rw [J9 _ _ a1, J9 _ _ a2, J9 _ _ a3]; exact J7 _ _ _, by rw [J9 _ _ (fun e => g2 e.symm), J9 _ _ (fun e => g5 e.symm)]; exact J7 _ _ _, J7 _ _ _, by rw [J9 _ _ (fun e => g1 e.symm)]; exact J7 _ _ _, Acc.nil, ((((Sub.refl h).upd hr6).upd g9).upd g7).upd g4, ⟨hr6, g9, g4, g7⟩, fun nm => by simp⟩
    rw [hhb]
    refine RangeVC.introM (backQ_it (G := G) o (by omega) (fun p => inD d p.2) xs hxs) rfl (fun _ => rfl) (fun pre h' => ∃ seen ao, EI h d F r6 r8 r9 rM n ((pre.map (·.1.2)).reverse) seen ao h') (fun _ _ _ => False) ⟨[], .emp, S0⟩ ?_ ?_ (fun _ _ _ _ _ q => q.elim) ⟨fun pre => EI.strp S0.sub S0.cM rfl, fun _ _ _ _ q _ _ _ => q.elim⟩
    · rintro pre ⟨⟨i, k⟩, hk⟩ h' ⟨seen, ao, S⟩ hlen
      simp only at hk
      have k0 := hk.1
      have k1 := hk.2
      have ek0 : nth d.nodes k.toNat = nd d k := rfl
      have hR : ((pre ++ [(⟨(i, k), hk⟩ : { p : Nat × Int // inD d p.2 })]).map (·.1.2)).reverse = k :: (pre.map (·.1.2)).reverse := by
        rw [List.map_append, List.reverse_append]; rfl
      have hRi : ∀ j ∈ (pre.map (·.1.2)).reverse, inD d j := fun j hj => by
        rw [List.mem_reverse] at hj
        obtain ⟨x, _, rfl⟩ := List.mem_map.1 hj
        exact x.2
      have hRl : (pre.map (·.1.2)).reverse.length <= 200 := by rw [List.length_reverse, List.length_map]; omega
      obtain ⟨R, hRe⟩ : ∃ R, (pre.map (·.1.2)).reverse = R := ⟨_, rfl⟩
      rw [hRe] at S hR hRi hRl
      have hI : ∀ seen' ao' h2, EI h d F r6 r8 r9 rM n (k :: R) seen' ao' h2 -> ∃ seen ao, EI h d F r6 r8 r9 rM n (((pre ++ [(⟨(i, k), hk⟩ : { p : Nat × Int // inD d p.2 })]).map (·.1.2)).reverse) seen ao h2 := fun s a h2 q => ⟨s, a, by rw [hR]; exact q⟩
      have nl := name_len V hk
      have cW := one_in (G := G) hG (nd d k).name V6 (by decide +kernel) (by omega) (by decide +kernel)
      have cO := cOw k hk
      have cT := cTo k hk
      have cK := cKi k hk
      have cA := cAt k hk
      have c6 := S.c6
      have c8 := S.c8
      have c9 := S.c9
      have cM := S.cM
      cases hctl : inW (nd d k).name V6
      · rw [hctl] at cW
        have ht : YQ d n k = false := by unfold YQ; rw [hctl]; rfl
        simp -dsimp -implicitDefEqProofs (disch := omega) only [VCA, Nat.reduceEqDiff, Nat.reduceAdd, Nat.reduceLeDiff, ↓reduceIte, Y6, Q9, Z7, eBkI]
        repeat' (first | ((with_reducible refine brC (fun _ => ?_) fun _ => ?_) <;> try (exfalso; omega)) | (with_reducible apply pcallE.of; · exact cW) | (with_reducible refine And.intro ?_ ?_; · omega) | simp -dsimp -implicitDefEqProofs (disch := omega) only [↓Z0 39, ↓Z0 46, VCA, Nat.reduceEqDiff, Nat.reduceAdd, Nat.reduceLeDiff, ↓reduceIte, Y6, Q9, Z7, Q5, ek0, ek2])
        exact hI _ _ _ (S.skip ht)
      · rw [hctl] at cW
        obtain ⟨ow, how⟩ : ∃ x, ownM d o k = x := ⟨_, rfl⟩
        rw [how] at cO
        by_cases hown : ow = n
        · have bown : (ow != n) = false := by simpa using hown
          cases htd : toldM d k
          · rw [htd] at cT
            have ht : YQ d n k = false := by unfold YQ; rw [htd, Bool.and_false, Bool.and_false]
            simp -dsimp -implicitDefEqProofs (disch := omega) only [VCA, Nat.reduceEqDiff, Nat.reduceAdd, Nat.reduceLeDiff, ↓reduceIte, Y6, Q9, Z7, eBkI]
            repeat' (first | ((with_reducible refine brC (fun _ => ?_) fun _ => ?_) <;> try (exfalso; omega)) | (with_reducible apply pcallE.of; · exact cW) | (with_reducible apply pcallE.of; · exact cO) | (with_reducible apply pcallE.of; · exact cT) | (with_reducible refine And.intro ?_ ?_; · omega) | simp -dsimp -implicitDefEqProofs (disch := omega) only [↓Z0 39, ↓Z0 46, VCA, Nat.reduceEqDiff, Nat.reduceAdd, Nat.reduceLT, Nat.reduceLeDiff, ↓reduceIte, Y6, Q9, exists_eq_left', Z7, Q5, ek0, ek2, c6, bown])
            exact hI _ _ _ (S.skip ht)
          · rw [htd] at cT
            have ht : YQ d n k = true := by unfold YQ; rw [htd, hctl, ho, how, hown]; simp
            cases hrd : radM d k
            · have brd : (Y1 d k == [114, 97, 100, 105, 111]) = false := hrd
              simp -dsimp -implicitDefEqProofs (disch := omega) only [VCA, Nat.reduceEqDiff, Nat.reduceAdd, Nat.reduceLeDiff, ↓reduceIte, Y6, Q9, Z7, eBkI]
              repeat' (first | ((with_reducible refine brC (fun _ => ?_) fun _ => ?_) <;> try (exfalso; omega)) | (with_reducible apply pcallE.of; · exact cW) | (with_reducible apply pcallE.of; · exact cO) | (with_reducible apply pcallE.of; · exact cT) | (with_reducible apply pcallE.of; · exact cK) | (with_reducible refine And.intro ?_ ?_; · omega) | simp -dsimp -implicitDefEqProofs (disch := omega) only [↓Z0 39, ↓Z0 46, VCA, Nat.reduceEqDiff, Nat.reduceAdd, Nat.reduceLT, Nat.reduceLeDiff, ↓reduceIte, Y6, Q9, exists_eq_left', Z7, Q5, ek0, ek2, c6, bown, brd, c8])
              refine DCalls.of (cEn k hk h') ?_
              rintro v h2 ⟨A1, S1⟩
              have d8 := S1 _ _ c8
              have d6 := S1 _ _ c6
              have nv : ∀ r o, h' r = some o -> U3 v ≠ some r := fun r o hr e => by have := (OwnS.of_acc A1).2.1 r e; rw [hr] at this; cases this
              have hlt : lateM d n R k = false := by unfold lateM; rw [hrd, Bool.false_and]
              have hent : KW d n (k :: R) = JU d k ++ KW d n R := by rw [KW, if_pos ⟨ht, hlt⟩]
              have hsn : ∀ nm, nm ∈ seen ↔ (k :: R).any (fun k => YQ d n k && (radM d k && X5 d k [110, 97, 109, 101] == nm)) = true := fun nm => by rw [S.seen nm, List.any_cons, hrd, Bool.false_and, Bool.and_false, Bool.false_or]
              have l1 := entsOf_len V hk
              have l2 := entL_len V n R hRi
              rcases S.acc with ⟨hnil, hao⟩ | ⟨rO, hO0, hO1, hao⟩
              · subst hao
                repeat' (first | ((with_reducible refine brC (fun _ => ?_) fun _ => ?_) <;> try (exfalso; omega)) | (with_reducible refine And.intro ?_ ?_; · omega) | simp -dsimp -implicitDefEqProofs (disch := omega) only [VCA, Nat.reduceEqDiff, Nat.reduceBEq, ↓reduceIte, SOp.rd, SI.rd, SX.rd, rdL, implies_true, exists_eq_left, c6, c8, d6, d8])
                refine A1.appW S1 (by simp only [List.length_map, List.length_nil]; omega) (by simp only [List.length_map, List.length_nil]; omega) fun a3 h3 A3 S3 kp => ?_
                have e8 := kp _ _ d8 (nv _ _ c8)
                have iv := (OwnS.of_acc A3).1.isV
                repeat' (first | ((with_reducible refine brC (fun _ => ?_) fun _ => ?_) <;> try (exfalso; omega)) | (with_reducible refine And.intro ?_ ?_; · omega) | simp -dsimp -implicitDefEqProofs (disch := omega) only [VCA, Nat.reduceEqDiff, Nat.reduceBEq, Nat.reduceLT, ↓reduceIte, SOp.rd, SI.rd, SX.rd, Y7, implies_true, exists_eq_left', d8, e8.1, iv.1, iv.2])
                refine hI _ _ _ (EI.add S.sub S.fr (by rw [hnil]; exact A3) S3 e8.2 (kp _ _ d6 (nv _ _ c6)).1 e8.1 (kp _ _ (S1 _ _ c9) (nv _ _ c9)).1 (kp _ _ (S1 _ _ cM) (nv _ _ cM)).1 hent hsn)
              · have dO := S1 _ _ hO1
                subst hao
                repeat' (first | ((with_reducible refine brC (fun _ => ?_) fun _ => ?_) <;> try (exfalso; omega)) | (with_reducible refine And.intro ?_ ?_; · omega) | simp -dsimp -implicitDefEqProofs (disch := omega) only [VCA, Nat.reduceEqDiff, Nat.reduceBEq, ↓reduceIte, SOp.rd, SI.rd, SX.rd, rdL, implies_true, exists_eq_left', c6, c8, d6, d8, dO])
                rw [List.take_of_length_le (by rw [List.length_map]; exact Nat.le_refl _)]
                refine A1.appW S1 (by simp only [List.length_map]; omega) (by simp only [List.length_map]; omega) fun a3 h3 A3 S3 kp => ?_
                have e8 := kp _ _ d8 (nv _ _ c8)
                have iv := (OwnS.of_acc A3).1.isV
                repeat' (first | ((with_reducible refine brC (fun _ => ?_) fun _ => ?_) <;> try (exfalso; omega)) | (with_reducible refine And.intro ?_ ?_; · omega) | simp -dsimp -implicitDefEqProofs (disch := omega) only [VCA, Nat.reduceEqDiff, Nat.reduceBEq, Nat.reduceLT, ↓reduceIte, SOp.rd, SI.rd, SX.rd, Y7, implies_true, exists_eq_left', d8, e8.1, iv.1, iv.2])
                refine hI _ _ _ (EI.add S.sub S.fr A3 S3 e8.2 (kp _ _ d6 (nv _ _ c6)).1 e8.1 (kp _ _ (S1 _ _ c9) (nv _ _ c9)).1 (kp _ _ (S1 _ _ cM) (nv _ _ cM)).1 hent hsn)
            · have brd : (Y1 d k == [114, 97, 100, 105, 111]) = true := hrd
              have hls := late_seen S.seen hrd
              by_cases hin : X5 d k [110, 97, 109, 101] ∈ seen
              · simp -dsimp -implicitDefEqProofs (disch := omega) only [VCA, Nat.reduceEqDiff, Nat.reduceAdd, Nat.reduceLeDiff, ↓reduceIte, Y6, Q9, Z7, eBkI]
                repeat' (first | ((with_reducible refine brC (fun _ => ?_) fun _ => ?_) <;> try (exfalso; omega)) | (with_reducible apply pcallE.of; · exact cW) | (with_reducible apply pcallE.of; · exact cO) | (with_reducible apply pcallE.of; · exact cT) | (with_reducible apply pcallE.of; · exact cK) | (with_reducible apply pcallE.of; · exact cA) | (with_reducible refine And.intro ?_ ?_; · omega) | simp -dsimp -implicitDefEqProofs (disch := omega) only [↓Z0 39, ↓Z0 46, VCA, Nat.reduceEqDiff, Nat.reduceBEq, Nat.reduceAdd, Nat.reduceLT, Nat.reduceLeDiff, ↓reduceIte, Y6, Q9, SOp.rd, SI.rd, SX.rd, K7, X0, implies_true, exists_eq_left', Z7, Q5, ek0, ek2, c6, bown, brd, c9, cM, hin, aFnd_y])
                rw [decide_eq_true hin] at hls
                exact hI _ _ _ (S.late ht hrd hls)
              · obtain ⟨h1, hh1⟩ : ∃ x, upd h' rM (some ⟨.m 63 (eMs (putS (X5 d k [110, 97, 109, 101]) seen)), 1, []⟩) = x := ⟨_, rfl⟩
                obtain ⟨z6, z8, z9, zM, zA, zS⟩ := S.put (X5 d k [110, 97, 109, 101]) _ hh1.symm
                have m6 : ¬ r6 = rM := fun e => by have q := c6; rw [e, cM] at q; cases q
                have m8 : ¬ r8 = rM := fun e => by have q := c8; rw [e, cM] at q; cases q
                simp -dsimp -implicitDefEqProofs (disch := omega) only [VCA, Nat.reduceEqDiff, Nat.reduceAdd, Nat.reduceLeDiff, ↓reduceIte, Y6, Q9, Z7, eBkI]
                repeat' (first | ((with_reducible refine brC (fun _ => ?_) fun _ => ?_) <;> try (exfalso; omega)) | (with_reducible apply pcallE.of; · exact cW) | (with_reducible apply pcallE.of; · exact cO) | (with_reducible apply pcallE.of; · exact cT) | (with_reducible apply pcallE.of; · exact cK) | (with_reducible apply pcallE.of; · exact cA) | (with_reducible refine And.intro ?_ ?_; · omega) | simp -dsimp -implicitDefEqProofs (disch := omega) only [↓Z0 39, ↓Z0 46, VCA, Nat.reduceEqDiff, Nat.reduceBEq, Nat.reduceAdd, Nat.reduceLT, Nat.reduceLeDiff, ↓reduceIte, Y6, Q9, SOp.rd, SI.rd, SX.rd, K7, X0, implies_true, exists_eq_left', Z7, Q5, ek0, ek2, c6, bown, brd, c8, c9, cM, hin, aFnd_n, hh1, m6, m8])
                refine DCalls.of (cEn k hk h1) ?_
                rintro v h2 ⟨A1, S1⟩
                have d8 := S1 _ _ z8
                have d6 := S1 _ _ z6
                have nv : ∀ r o, h1 r = some o -> U3 v ≠ some r := fun r o hr e => by have := (OwnS.of_acc A1).2.1 r e; rw [hr] at this; cases this
                rw [decide_eq_false hin] at hls
                have hent : KW d n (k :: R) = JU d k ++ KW d n R := by rw [KW, if_pos ⟨ht, hls⟩]
                have hsn := seen_put S.seen ht hrd
                have l1 := entsOf_len V hk
                have l2 := entL_len V n R hRi
                rcases zA with ⟨hnil, hao⟩ | ⟨rO, hO0, hO1, hao⟩
                · subst hao
                  repeat' (first | ((with_reducible refine brC (fun _ => ?_) fun _ => ?_) <;> try (exfalso; omega)) | (with_reducible refine And.intro ?_ ?_; · omega) | simp -dsimp -implicitDefEqProofs (disch := omega) only [VCA, Nat.reduceEqDiff, Nat.reduceBEq, ↓reduceIte, SOp.rd, SI.rd, SX.rd, rdL, implies_true, exists_eq_left, d6, d8, m6, m8, c6, c8])
                  refine A1.appW S1 (by simp only [List.length_map, List.length_nil]; omega) (by simp only [List.length_map, List.length_nil]; omega) fun a3 h3 A3 S3 kp => ?_
                  have e8 := kp _ _ d8 (nv _ _ z8)
                  have iv := (OwnS.of_acc A3).1.isV
                  repeat' (first | ((with_reducible refine brC (fun _ => ?_) fun _ => ?_) <;> try (exfalso; omega)) | (with_reducible refine And.intro ?_ ?_; · omega) | simp -dsimp -implicitDefEqProofs (disch := omega) only [VCA, Nat.reduceEqDiff, Nat.reduceBEq, Nat.reduceLT, ↓reduceIte, SOp.rd, SI.rd, SX.rd, Y7, implies_true, exists_eq_left', d8, e8.1, iv.1, iv.2])
                  refine hI _ _ _ (EI.add zS S.fr (by rw [hnil]; exact A3) S3 e8.2 (kp _ _ d6 (nv _ _ z6)).1 e8.1 (kp _ _ (S1 _ _ z9) (nv _ _ z9)).1 (kp _ _ (S1 _ _ zM) (nv _ _ zM)).1 hent hsn)
                · have dO := S1 _ _ hO1
                  subst hao
                  repeat' (first | ((with_reducible refine brC (fun _ => ?_) fun _ => ?_) <;> try (exfalso; omega)) | (with_reducible refine And.intro ?_ ?_; · omega) | simp -dsimp -implicitDefEqProofs (disch := omega) only [VCA, Nat.reduceEqDiff, Nat.reduceBEq, ↓reduceIte, SOp.rd, SI.rd, SX.rd, rdL, implies_true, exists_eq_left', d6, d8, dO, m6, m8, c6, c8])
                  rw [List.take_of_length_le (by rw [List.length_map]; exact Nat.le_refl _)]
                  refine A1.appW S1 (by simp only [List.length_map]; omega) (by simp only [List.length_map]; omega) fun a3 h3 A3 S3 kp => ?_
                  have e8 := kp _ _ d8 (nv _ _ z8)
                  have iv := (OwnS.of_acc A3).1.isV
                  repeat' (first | ((with_reducible refine brC (fun _ => ?_) fun _ => ?_) <;> try (exfalso; omega)) | (with_reducible refine And.intro ?_ ?_; · omega) | simp -dsimp -implicitDefEqProofs (disch := omega) only [VCA, Nat.reduceEqDiff, Nat.reduceBEq, Nat.reduceLT, ↓reduceIte, SOp.rd, SI.rd, SX.rd, Y7, implies_true, exists_eq_left', d8, e8.1, iv.1, iv.2])
                  refine hI _ _ _ (EI.add zS S.fr A3 S3 e8.2 (kp _ _ d6 (nv _ _ z6)).1 e8.1 (kp _ _ (S1 _ _ z9) (nv _ _ z9)).1 (kp _ _ (S1 _ _ zM) (nv _ _ zM)).1 hent hsn)
        · have bown : (ow != n) = true := by simpa using hown
          have ht : YQ d n k = false := by
            unfold YQ; rw [ho, how, show (ow == n) = false by simpa using hown, Bool.false_and, Bool.and_false]
          simp -dsimp -implicitDefEqProofs (disch := omega) only [VCA, Nat.reduceEqDiff, Nat.reduceAdd, Nat.reduceLeDiff, ↓reduceIte, Y6, Q9, Z7, eBkI]
          repeat' (first | ((with_reducible refine brC (fun _ => ?_) fun _ => ?_) <;> try (exfalso; omega)) | (with_reducible apply pcallE.of; · exact cW) | (with_reducible apply pcallE.of; · exact cO) | (with_reducible refine And.intro ?_ ?_; · omega) | simp -dsimp -implicitDefEqProofs (disch := omega) only [↓Z0 39, ↓Z0 46, VCA, Nat.reduceEqDiff, Nat.reduceAdd, Nat.reduceLT, Nat.reduceLeDiff, ↓reduceIte, Y6, Q9, exists_eq_left', Z7, Q5, ek0, ek2, c6, bown])
          exact hI _ _ _ (S.skip ht)
    · rintro h' ⟨seen, ao, S⟩
      rw [hR0] at S
      have c8 := S.c8
      have aL := S.acc.len
      simp only [List.length_map] at aL
      have hv : Vw (newH h h') ao (sl JK (KW d n o)) := (OwnS.of_acc S.acc).1.vwN fun r hr => (OwnS.of_acc S.acc).2.1 r hr
      by_cases h100 : 100 < (KW d n o).length
      · have d1 : decide ((100 : Int) < ((KW d n o).length : Int)) = true := decide_eq_true (by omega)
        rw [if_pos h100]
        repeat' (first | ((with_reducible refine brC (fun _ => ?_) fun _ => ?_) <;> try (exfalso; omega)) | (with_reducible refine And.intro ?_ ?_; · omega) | simp -dsimp -implicitDefEqProofs (disch := omega) only [VCA, Nat.reduceEqDiff, Nat.reduceLT, ↓reduceIte, exists_eq_left', c8, aL.1, aL.2, d1])
        all_goals first | exact ⟨_, Sub.refl _, S.sub, .tup' (.cons .emp (.cons (.refl _) .nil))⟩ | trace_state
      · have d1 : decide ((100 : Int) < ((KW d n o).length : Int)) = false := decide_eq_false (by omega)
        rw [if_neg h100]
        repeat' (first | ((with_reducible refine brC (fun _ => ?_) fun _ => ?_) <;> try (exfalso; omega)) | (with_reducible refine And.intro ?_ ?_; · omega) | simp -dsimp -implicitDefEqProofs (disch := omega) only [VCA, Nat.reduceEqDiff, Nat.reduceLT, ↓reduceIte, exists_eq_left', c8, aL.1, aL.2, d1])
        all_goals first | exact ⟨_, Sub.refl _, S.sub, .tup' (.cons hv (.cons (.refl _) .nil))⟩ | trace_state
  · rw [if_pos h0]
    obtain ⟨x, hx⟩ : ∃ x, V5 d n [102, 111, 114, 109] = x := ⟨_, rfl⟩
    rw [hx] at cC h0 ⊢
    unfold Q7 at cC
    have bx : (x != 0) = true := by simpa using h0
    have vF : isV (fA d (W8 d)) = true := rfl
    have wF : cellsOf (fA d (W8 d)) = [fA d (W8 d)] := rfl
    obtain ⟨F, hF⟩ : ∃ F, fA d (W8 d) = F := ⟨_, rfl⟩
    rw [hF] at cC vF wF
    refine Q1 Tryz.func14 (by kernel_rfl) hc14 (by rw [Tryz.ntmps14]; simp) (by rw [Tryz.ntmps14]; decide) ?_
    simp -dsimp -implicitDefEqProofs (disch := omega) only [VCA, Nat.reduceEqDiff, Nat.reduceAdd, ↓reduceIte, c14, Q7]
    repeat' (first | ((with_reducible refine brC (fun _ => ?_) fun _ => ?_) <;> try (exfalso; omega)) | (with_reducible apply pcallE.of; · exact cC) | (with_reducible refine And.intro ?_ ?_; · omega) | simp -dsimp -implicitDefEqProofs (disch := omega) only [VCA, Nat.reduceEqDiff, Nat.reduceAdd, Nat.reduceLT, ↓reduceIte, Y7, exists_eq_left', bx, vF, wF])
    intro r6 hr6
    repeat' (first | ((with_reducible refine brC (fun _ => ?_) fun _ => ?_) <;> try (exfalso; omega)) | (with_reducible refine And.intro ?_ ?_; · omega) | simp -dsimp -implicitDefEqProofs (disch := omega) only [↓Q0 39, ↓Z0 39, ↓Q0 46, ↓Z0 46, VCA, TX, ↓U5, Nat.reduceEqDiff, Nat.reduceBEq, Nat.reduceAdd, Nat.reduceSub, Nat.reduceMul, Nat.reduceLT, Nat.reduceLeDiff, ↓reduceIte, reduceCtorEq, Y6, Q9, SOp.rd, SI.rd, SX.rd, rdL, rdO, rdP, Z2, Y3, J6, K7, X0, Y7, implies_true, forall_const, forall_eq, ne_eq, exists_eq_right_right, exists_eq_right, exists_eq_left, exists_eq_left', Z7, Z3, ZJ, X6, JK, ZX, bx, vF, wF, J7])
    exact ⟨_, Sub.refl _, (Sub.refl h).upd hr6, .tup' (.cons .emp (.cons (.refl _) .nil))⟩
def formD : HDoc := ⟨[⟨1, [], [], [], -1, [1]⟩, ⟨2, [102, 111, 114, 109], [], [], 0, [2]⟩, ⟨2, [105, 110, 112, 117, 116], [⟨[110, 97, 109, 101], [113]⟩, ⟨[118, 97, 108, 117, 101], [97, 32, 98]⟩], [], 1, []⟩], false⟩
theorem formD_sm : DocSm formD := ⟨by decide, by
  intro x hx
  have : x = ⟨1, [], [], [], -1, [1]⟩ \/ x = ⟨2, [102, 111, 114, 109], [], [], 0, [2]⟩ \/ x = ⟨2, [105, 110, 112, 117, 116], [⟨[110, 97, 109, 101], [113]⟩, ⟨[118, 97, 108, 117, 101], [97, 32, 98]⟩], [], 1, []⟩ := by simpa [formD] using hx
  rcases this with rfl | rfl | rfl <;> exact ⟨by decide, by decide, by decide, by decide, by decide⟩⟩
def c29 : SFun := ⟨.seq (.reg [o 0 (.new 36 2 [.emp, .bool false])]) (.seq (.reg [o 1 (.bldF 3 1 [.c (.int .i64 1)]), o 2 (.bld [.int .i64 0, .str [], .emp, .str [], .int .i64 0, .emp] [(0, (1, (.c (.int .i64 1)))), (4, (1, (.c (.int .i64 (-1))))), (5, (1, (.t 1)))]), o 3 (.bldF 3 1 [.c (.int .i64 2)]), o 4 (.bld [.int .i64 0, .str [], .emp, .str [], .int .i64 0, .emp] [(0, (1, (.c (.int .i64 2)))), (1, (1, (.c (.str [102, 111, 114, 109])))), (5, (1, (.t 3)))]), o 5 (.bld [.str [], .str []] [(0, (1, (.c (.str [110, 97, 109, 101])))), (1, (1, (.c (.str [113]))))]), o 6 (.bld [.str [], .str []] [(0, (1, (.c (.str [118, 97, 108, 117, 101])))), (1, (1, (.c (.str [97, 32, 98]))))]), o 7 (.bldF 108 2 [.t 5, .t 6]), o 8 (.bld [.int .i64 0, .str [], .emp, .str [], .int .i64 0, .emp] [(0, (1, (.c (.int .i64 2)))), (1, (1, (.c (.str [105, 110, 112, 117, 116])))), (4, (1, (.c (.int .i64 1)))), (2, (1, (.t 7)))]), o 9 (.bldF 73 6 [.t 2, .t 4, .t 8]), o 10 (.bld [.emp, .bool false] [(0, (1, (.t 9)))]), ⟨none, .st 2 (.t 0) (.t 10), none⟩]) .ret), [.cell 0 2 true]⟩
theorem hc29 : J1 Tryz.prog {} Tryz.f29 = some c29 := by kernel_rfl
theorem oneForm_ok : PCalls (Pg G) 29 [] (.agg (Q7 formD)) := fun h => by
  refine DCalls.res (K := fun a h' => a = .agg [.slc [[.int .i64 1, .str [], .emp, .str [], .int .i64 (-1), .slc [[.int .i64 1]]], [.int .i64 2, .str [102, 111, 114, 109], .emp, .str [], .int .i64 0, .slc [[.int .i64 2]]], [.int .i64 2, .str [105, 110, 112, 117, 116], .slc [[.str [110, 97, 109, 101], .str [113]], [.str [118, 97, 108, 117, 101], .str [97, 32, 98]]], .str [], .int .i64 1, .emp]], .bool false] /\ h' = h) ?_ ?_
  · refine Q1 Tryz.func29 (by kernel_rfl) hc29 (by rw [Tryz.ntmps29]; simp) (by rw [Tryz.ntmps29]; decide) ?_
    simp -dsimp -implicitDefEqProofs (disch := omega) only [VCA, Nat.reduceEqDiff, Nat.reduceAdd, Nat.reduceLT, Nat.reduceLeDiff, ↓reduceIte, reduceCtorEq, Z2, K7, X0, Y7, exists_eq_right_right, exists_eq_left', c29]
    intro r hr
    exact (Sub.refl _).upd hr
  · rintro a h' ⟨rfl, rfl⟩
    exact ⟨_, Wk.agg' (.cons (Wk.slc' (.cons (.cons (.refl _) (.cons (.refl _) (.cons .emp (.cons (.refl _) (.cons (.refl _) (.cons (.refl _) .nil)))))) (.cons (.cons (.refl _) (.cons (.refl _) (.cons .emp (.cons (.refl _) (.cons (.refl _) (.cons (.refl _) .nil)))))) (.cons (.cons (.refl _) (.cons (.refl _) (.cons (.refl _) (.cons (.refl _) (.cons (.refl _) (.cons .emp .nil)))))) .nil)))) (.cons (.refl _) .nil)), rfl, rfl⟩
theorem tells_one : tellsM formD 1 = ([⟨[113], [97, 32, 98]⟩], 0) := by decide +kernel
theorem coded_one : coded [⟨[113], [97, 32, 98]⟩] = ([113, 61, 97, 43, 98], 0) := by decide +kernel
theorem decoded_one : Go.Proofs.K.decoded [113, 61, 97, 43, 98] = ([⟨[113], [97, 32, 98]⟩], 0) := by decide +kernel
def c10 : SFun := ⟨.seq (.reg [o 0 (.mv (.c (.bool false)))]) (.seq (.reg [o 8 (.pcall 29 []), o 9 (.pcall 14 [.t 8, .c (.int .i64 1)]), o 7 (.mv (.t 9)), o 10 (.ext (.t 7) 0), o 11 (.ext (.t 7) 1), o 1 (.mv (.t 10)), o 2 (.mv (.t 11))]) (.seq (.reg [o 13 (.mv (.t 1)), o 14 (.pcall 7 [.t 13]), o 12 (.mv (.t 14)), o 15 (.ext (.t 12) 0), o 16 (.ext (.t 12) 1), o 3 (.mv (.t 15)), o 4 (.mv (.t 16))]) (.seq (.reg [o 18 (.pcall 8 [.c (.str [113, 61, 97, 43, 98])]), o 17 (.mv (.t 18)), o 19 (.ext (.t 17) 0), o 20 (.ext (.t 17) 1), o 5 (.mv (.t 19)), o 6 (.mv (.t 20))]) (.seq (.reg [o 21 (.mv (.t 2)), o 22 (.bin .eql (.t 21) (.c (.int .i64 0))), o 23 (.mv (.t 22)), ⟨some 24, .mv (.t 3), some (23, true)⟩, ⟨some 25, .bin .eql (.t 24) (.c (.str [113, 61, 97, 43, 98])), some (23, true)⟩, o 26 (.pick (.t 23) (.t 25) (.c (.bool false))), o 27 (.mv (.t 26)), ⟨some 28, .mv (.t 4), some (27, true)⟩, ⟨some 29, .bin .eql (.t 28) (.c (.int .i64 0)), some (27, true)⟩, o 30 (.pick (.t 27) (.t 29) (.c (.bool false))), o 31 (.mv (.t 30)), ⟨some 32, .mv (.t 6), some (31, true)⟩, ⟨some 33, .bin .eql (.t 32) (.c (.int .i64 0)), some (31, true)⟩, o 34 (.pick (.t 31) (.t 33) (.c (.bool false))), o 35 (.mv (.t 34)), ⟨some 36, .mv (.t 1), some (35, true)⟩, ⟨some 37, .mv (.t 5), some (35, true)⟩, ⟨some 38, .pcall 12 [.t 36, .t 37], some (35, true)⟩, o 39 (.pick (.t 35) (.t 38) (.c (.bool false))), o 40 (.mv (.t 39)), ⟨some 41, .mv (.t 5), some (40, true)⟩, ⟨some 42, .len (.t 41), some (40, true)⟩, ⟨some 43, .bin .eql (.t 42) (.c (.int .i64 1)), some (40, true)⟩, o 44 (.pick (.t 40) (.t 43) (.c (.bool false))), o 0 (.mv (.t 44))]) .ret)))), [.tmp 0]⟩
theorem hc10 : J1 Tryz.prog {pure := [29, 14, 7, 8, 12]} Tryz.f10 = some c10 := by kernel_rfl
theorem formBegun_ok (hG : X1 G) (hT : QW G) : PCalls (Pg G) 10 [] (.bool true) := fun h => by
  have c1 := oneForm_ok (G := G)
  have c2 := fEntries_ok (G := G) hG hT formD formD_sm 1
  rw [tells_one] at c2
  have c3 := fEncode_ok (G := G) [⟨[113], [97, 32, 98]⟩] (by decide) (fun x hx => by rw [List.mem_singleton] at hx; subst hx; exact ⟨by decide, by decide⟩)
  rw [coded_one] at c3
  have c4 := fDecode_ok (G := G) hG [113, 61, 97, 43, 98] (by decide)
  rw [decoded_one] at c4
  have c5 := sameEnt_ok (G := G) [⟨[113], [97, 32, 98]⟩] (by decide)
  obtain ⟨L, hL⟩ : ∃ L : List HEnt, [⟨[113], [97, 32, 98]⟩] = L := ⟨_, rfl⟩
  have ll : L.length = 1 := by rw [<- hL]; rfl
  rw [hL] at c2 c3 c4 c5
  have z0 : ((0 : Int) == 0) = true := rfl
  have z1 : ((1 : Int) == 1) = true := rfl
  generalize Q7 formD = D at *
  refine Q1 Tryz.func10 (by kernel_rfl) hc10 (by rw [Tryz.ntmps10]; simp) (by rw [Tryz.ntmps10]; decide) ?_
  simp -dsimp -implicitDefEqProofs (disch := omega) only [VCA, c10]
  repeat' (first | ((with_reducible refine brC (fun _ => ?_) fun _ => ?_) <;> try (exfalso; omega)) | (with_reducible apply pcallE.of; · exact c1) | (with_reducible apply pcallE.of; · exact c2) | (with_reducible apply pcallE.of; · exact c3) | (with_reducible apply pcallE.of; · exact c4) | (with_reducible apply pcallE.of; · exact c5) | (with_reducible refine And.intro ?_ ?_; · omega) | simp -dsimp -implicitDefEqProofs (disch := omega) only [↓Q0 23, ↓Q0 27, ↓Q0 31, ↓Q0 35, ↓Q0 40, VCA, Nat.reduceEqDiff, Nat.reduceAdd, Nat.reduceLT, ↓reduceIte, exists_eq_right_right, ll, z0])
  all_goals first | exact ⟨Sub.refl _, rfl⟩ | (rename_i q; exact absurd rfl q)
def c5 : SFun := ⟨.seq (.reg [o 2 (.box 36 2 (.t 0)), o 4 (.mv (.c (.bool false)))]) (.seq (.reg [o 16 (.ld 2 true (.t 2)), o 17 (.pcall 13 [.t 16, .c (.int .i64 60)]), ⟨none, .st 2 (.t 2) (.t 17), none⟩]) (.seq (.reg [o 19 (.ld 2 true (.t 2)), o 20 (.mv (.t 1)), o 21 (.pcall 17 [.t 19, .t 20]), o 18 (.mv (.t 21)), o 22 (.ext (.t 18) 0), o 23 (.ext (.t 18) 1), o 24 (.ext (.t 18) 2), o 5 (.mv (.t 22)), o 6 (.mv (.t 23)), o 7 (.mv (.t 24))]) (.seq (.reg [o 26 (.ld 2 true (.t 2)), o 27 (.mv (.t 1)), o 28 (.pcall 18 [.t 26, .t 27]), o 25 (.mv (.t 28)), o 29 (.ext (.t 25) 0), o 30 (.ext (.t 25) 1), o 8 (.mv (.t 29)), o 9 (.mv (.t 30))]) (.seq (.reg [o 32 (.ld 2 true (.t 2)), o 33 (.mv (.t 1)), o 34 (.pcall 19 [.t 32, .t 33]), o 31 (.mv (.t 34)), o 35 (.ext (.t 31) 0), o 36 (.ext (.t 31) 1), o 10 (.mv (.t 35)), o 11 (.mv (.t 36))]) (.seq (.reg [o 37 (.ld 2 true (.t 2)), o 38 (.mv (.t 1)), o 39 (.pcall 15 [.t 37, .t 38, .c (.bool false)]), o 12 (.mv (.t 39))]) (.seq (.reg [o 13 (.mv (.c (.int .i64 (-1)))), o 14 (.mv (.c (.str []))), o 15 (.mv (.c (.int .i64 0)))]) (.seq (.seq (.reg [o 40 (.mv (.t 12)), o 41 (.bin .eql (.t 40) (.c (.int .i64 0)))]) (.cond (.t 41) (.dreg [(o 42 (.ld 2 true (.t 2)), none), (o 43 (.mv (.t 1)), none), (o 44 (.pcall 20 [.t 42, .t 43]), none), (o 45 (.ld 2 true (.t 2)), none), (o 46 (.mv (.t 1)), none), (o 47 (.pcall 21 [.t 45, .t 46]), none), (o 48 (.ld 2 true (.t 2)), none), (o 49 (.mv (.t 1)), none), (o 50 (.pcall 22 [.t 48, .t 49]), none), (o 13 (.mv (.t 44)), none), (o 14 (.mv (.t 47)), none), (o 15 (.mv (.t 50)), none)]) .skip)) (.seq (.reg [o 51 (.pcall 10 []), o 52 (.mv (.t 51)), ⟨some 53, .mv (.t 5), some (52, true)⟩, ⟨some 54, .mv (.t 13), some (52, true)⟩, ⟨some 55, .max2 (.t 54) (.c (.int .i64 0)), some (52, true)⟩, ⟨some 56, .bin .eql (.t 53) (.t 55), some (52, true)⟩, o 57 (.pick (.t 52) (.t 56) (.c (.bool false))), o 58 (.mv (.t 57)), ⟨some 59, .mv (.t 6), some (58, true)⟩, ⟨some 60, .mv (.t 13), some (58, true)⟩, ⟨some 61, .bin .geq (.t 60) (.c (.int .i64 0)), some (58, true)⟩, ⟨some 62, .eqb false (.t 59) (.t 61), some (58, true)⟩, o 63 (.pick (.t 58) (.t 62) (.c (.bool false))), o 64 (.mv (.t 63)), ⟨some 65, .mv (.t 7), some (64, true)⟩, ⟨some 66, .mv (.t 12), some (64, true)⟩, ⟨some 67, .bin .eql (.t 65) (.t 66), some (64, true)⟩, o 68 (.pick (.t 64) (.t 67) (.c (.bool false))), o 69 (.mv (.t 68)), ⟨some 70, .mv (.t 8), some (69, true)⟩, ⟨some 71, .mv (.t 14), some (69, true)⟩, ⟨some 72, .bin .eql (.t 70) (.t 71), some (69, true)⟩, o 73 (.pick (.t 69) (.t 72) (.c (.bool false))), o 74 (.mv (.t 73)), ⟨some 75, .mv (.t 9), some (74, true)⟩, ⟨some 76, .mv (.t 12), some (74, true)⟩, ⟨some 77, .bin .eql (.t 75) (.t 76), some (74, true)⟩, o 78 (.pick (.t 74) (.t 77) (.c (.bool false))), o 79 (.mv (.t 78)), ⟨some 80, .mv (.t 10), some (79, true)⟩, ⟨some 81, .mv (.t 15), some (79, true)⟩, ⟨some 82, .bin .eql (.t 80) (.t 81), some (79, true)⟩, o 83 (.pick (.t 79) (.t 82) (.c (.bool false))), o 84 (.mv (.t 83)), ⟨some 85, .mv (.t 11), some (84, true)⟩, ⟨some 86, .mv (.t 12), some (84, true)⟩, ⟨some 87, .bin .eql (.t 85) (.t 86), some (84, true)⟩, o 88 (.pick (.t 84) (.t 87) (.c (.bool false))), o 4 (.mv (.t 88))]) .ret)))))))), [.tmp 4]⟩
theorem hc5 : J1 Tryz.prog {pure := [13, 17, 18, 19, 15, 20, 21, 22, 10], how := [(2, 6)]} Tryz.f5 = some c5 := by kernel_rfl
theorem formAsks_ok (hG : X1 G) (hT : QW G) (d : HDoc) (sm : DocSm d) (n : Int) : PCalls (Pg G) 5 [.agg (Q7 d), Q4 n] (.bool true) := fun h => by
  have hF : PCalls (Pg G) 13 [.agg (Q7 d), .int .i64 60] (.agg (Q7 ⟨d.nodes.take 60, d.quirks⟩)) := few_ok (G := G) d 60 sm
  have fs := sm.few 60
  generalize (⟨d.nodes.take 60, d.quirks⟩ : HDoc) = f at *
  have hB := formBegun_ok (G := G) hG hT
  have c1 := fOwner_ok (G := G) hG f fs n
  have c2 := fValue_ok (G := G) hG hT f fs n
  have c3 := fFault_ok (G := G) hG hT f fs n
  have cR := formErr_ok (G := G) f fs n false
  rw [if_neg (by simp)] at cR
  have z0 : ((0 : Int) == 0) = true := rfl
  by_cases h0 : V5 f n V6 = 0
  · obtain ⟨hd0, hn⟩ := ctlE_zero h0
    have V := VQ hd0
    have r1 := refOwner_ok (G := G) f V fs n hn
    have r2 := refValue_ok (G := G) f V fs n hn
    have r3 := refFault_ok (G := G) f V fs n hn
    rw [h0] at cR
    rw [if_pos h0] at c1 c2 c3
    generalize ownM f (Z4 f 0) n = ow at *
    generalize X7 f n = v at *
    generalize faultM f (Z4 f 0) n = x at *
    have m1 : (max ow 0 == max ow 0) = true := by simp
    obtain ⟨b, hb⟩ : ∃ b, decide (0 <= ow) = b := ⟨_, rfl⟩
    rw [hb] at c1
    have m2 : (b == b) = true := by simp
    have m3 : (v == v) = true := by simp
    have m4 : (x == x) = true := by simp
    unfold Q7 at *
    refine Q1 Tryz.func5 (by kernel_rfl) hc5 (by rw [Tryz.ntmps5]; simp) (by rw [Tryz.ntmps5]; decide) ?_
    simp -dsimp -implicitDefEqProofs (disch := omega) only [VCA, Nat.reduceEqDiff, Nat.reduceAdd, Nat.reduceLT, ↓reduceIte, exists_eq_left', c5]
    intro r hr
    repeat' (first | ((with_reducible refine brC (fun _ => ?_) fun _ => ?_) <;> try (exfalso; omega)) | (with_reducible apply pcallE.of; · exact hF) | (with_reducible apply pcallE.of; · exact c1) | (with_reducible apply pcallE.of; · exact c2) | (with_reducible apply pcallE.of; · exact c3) | (with_reducible apply pcallE.of; · exact cR) | (with_reducible apply pcallE.of; · exact r1) | (with_reducible apply pcallE.of; · exact r2) | (with_reducible apply pcallE.of; · exact r3) | (with_reducible apply pcallE.of; · exact hB) | (with_reducible refine And.intro ?_ ?_; · omega) | simp -dsimp -implicitDefEqProofs (disch := omega) only [↓Q0 52, ↓Q0 58, ↓Q0 64, ↓Q0 69, ↓Q0 74, ↓Q0 79, ↓Q0 84, VCA, Nat.reduceEqDiff, Nat.reduceAdd, Nat.reduceLT, ↓reduceIte, Y6, Q9, Y7, exists_eq_right, exists_eq_left', Z7, z0, m1, m2, m3, m4, hb])
    all_goals first | exact (Sub.refl h).upd hr | exact ⟨(Sub.refl h).upd hr, rfl⟩ | trace_state
  · rw [if_neg h0] at c1 c2 c3
    generalize V5 f n V6 = x at *
    have bx : (x == 0) = false := by simpa using h0
    have bxx : (x == x) = true := by simp
    have m1 : max (-1 : Int) 0 = 0 := rfl
    have m2 : decide ((0 : Int) <= -1) = false := rfl
    have m3 : (false == false) = true := rfl
    have m4 : (([] : List UInt8) == []) = true := rfl
    unfold Q7 at *
    refine Q1 Tryz.func5 (by kernel_rfl) hc5 (by rw [Tryz.ntmps5]; simp) (by rw [Tryz.ntmps5]; decide) ?_
    simp -dsimp -implicitDefEqProofs (disch := omega) only [VCA, Nat.reduceEqDiff, Nat.reduceAdd, Nat.reduceLT, ↓reduceIte, exists_eq_left', c5]
    intro r hr
    repeat' (first | ((with_reducible refine brC (fun _ => ?_) fun _ => ?_) <;> try (exfalso; omega)) | (with_reducible apply pcallE.of; · exact hF) | (with_reducible apply pcallE.of; · exact c1) | (with_reducible apply pcallE.of; · exact c2) | (with_reducible apply pcallE.of; · exact c3) | (with_reducible apply pcallE.of; · exact cR) | (with_reducible apply pcallE.of; · exact hB) | (with_reducible refine And.intro ?_ ?_; · omega) | simp -dsimp -implicitDefEqProofs (disch := omega) only [↓Q0 52, ↓Q0 58, ↓Q0 64, ↓Q0 69, ↓Q0 74, ↓Q0 79, ↓Q0 84, VCA, Nat.reduceEqDiff, Nat.reduceAdd, Nat.reduceLT, ↓reduceIte, Y7, exists_eq_right, exists_eq_left', z0, m1, m2, m3, m4, bx, bxx])
    all_goals first | exact (Sub.refl h).upd hr | exact ⟨(Sub.refl h).upd hr, rfl⟩ | trace_state
end Go.Proofs.K
end
