/- Texts of this claim, one behind the other. -/
import Derived.Test.YtkpaokgikhnpgaaGreatDoorM5
import Derived.Test.YtkpaokgikhnpgaaGreatDoorM3
import Derived.Test.YtkpaokgikhnpgaaGreatDoorM4
set_option maxHeartbeats 4000000
set_option maxRecDepth 100000
section
set_option linter.unusedSimpArgs false
set_option linter.unusedVariables false
namespace Go.Proofs.K
open Go Go.Sim Go.Proofs
variable {G : T0}
def c32 : SFun := ⟨.seq (.reg [o 3 (.boxF 36 2 (.t 0)), o 6 (.mv (.c (.prim (Value.pointer none)))), o 7 (.mv (.c (.int .i64 0)))]) (.seq (.reg [o 11 (.ld 2 true (.t 3)), o 12 (.pcall 74 [.t 11]), o 10 (.mv (.t 12)), o 13 (.ext (.t 10) 0), o 14 (.ext (.t 10) 1), o 8 (.mv (.t 13)), o 9 (.mv (.t 14))]) (.seq (.block 0 (.seq (.reg [o 16 (.mv (.t 9)), o 17 (.bin .neq (.t 16) (.c (.int .i64 0))), o 15 (.mv (.t 17))]) (.cond (.t 15) .skip (.seq (.reg [o 19 (.mv (.t 1)), o 20 (.bin .lss (.t 19) (.c (.int .i64 0))), o 21 (.mv (.t 20)), ⟨some 22, .mv (.t 1), some (21, false)⟩, ⟨some 23, .fldA 0 (.t 3), some (21, false)⟩, ⟨some 24, .ld 1 false (.t 23), some (21, false)⟩, ⟨some 25, .len (.t 24), some (21, false)⟩, ⟨some 26, .bin .geq (.t 22) (.t 25), some (21, false)⟩, o 27 (.pick (.t 21) (.c (.bool true)) (.t 26)), o 18 (.mv (.t 27))]) (.cond (.t 18) (.reg [o 9 (.mv (.c (.int .i64 1)))]) (.seq (.reg [o 29 (.fldA 0 (.t 3)), o 30 (.ld 1 false (.t 29)), o 31 (.mv (.t 1)), o 32 (.idxA 6 (.t 30) (.t 31)), o 33 (.fldA 0 (.t 32)), o 34 (.ld 1 false (.t 33)), o 35 (.bin .neq (.t 34) (.c (.int .i64 2))), o 36 (.mv (.t 35)), ⟨some 37, .fldA 0 (.t 3), some (36, false)⟩, ⟨some 38, .ld 1 false (.t 37), some (36, false)⟩, ⟨some 39, .mv (.t 1), some (36, false)⟩, ⟨some 40, .idxA 6 (.t 38) (.t 39), some (36, false)⟩, ⟨some 41, .fldA 1 (.t 40), some (36, false)⟩, ⟨some 42, .ld 1 false (.t 41), some (36, false)⟩, ⟨some 43, .mv (.t 2), some (36, false)⟩, ⟨some 44, .pcall 34 [.t 42, .t 43], some (36, false)⟩, ⟨some 45, .un .not (.t 44), some (36, false)⟩, o 46 (.pick (.t 36) (.c (.bool true)) (.t 45)), o 28 (.mv (.t 46))]) (.cond (.t 28) (.reg [o 9 (.mv (.c (.int .i64 7)))]) (.seq (.reg [o 48 (.mv (.t 8)), o 49 (.mv (.t 1)), o 50 (.pcall 75 [.t 48, .t 49]), o 51 (.un .not (.t 50)), o 47 (.mv (.t 51))]) (.cond (.t 47) (.reg [o 9 (.mv (.c (.int .i64 5)))]) .skip))))))))) (.seq (.reg [o 52 (.ld 2 true (.t 3)), o 53 (.mv (.t 8)), o 54 (.bld [.emp, .bool false, .emp] [(0, (2, (.t 52))), (2, (1, (.t 53)))]), o 55 (.boxF 69 3 (.t 54)), o 56 (.mv (.t 9)), o 6 (.mv (.t 55)), o 7 (.mv (.t 56))]) .ret))), [.tmp 6, .tmp 7]⟩
theorem hc32 : J1 Tryz.prog {pure := [74, 34, 75]} Tryz.f32 = some c32 := by kernel_rfl
theorem hn32 : (Tryz.f32.name == "runtime.NumGoroutine") = false := by kernel_rfl
theorem control_ok (hG : X1 G) (d : HDoc) (sm : DocSm d) (n : Int) (nm : List UInt8) (hs : ((Z6 32 [] nm).any (· == [])) = false) (hnl : nm.length < 4294967200) :
    PCalls (Pg G) 32 [.agg (Q7 d), Q4 n, .str (32 :: (nm ++ [32]))] (.tup [fA d (W8 d), Q4 (V5 d n nm)]) := fun h => by
  have hl := sm.len
  have cO := order2_ok (G := G) d sm
  unfold Q7 at cO
  by_cases h0 : KU d = 0
  · have V := VQ h0
    have oD : W8 d = Z4 d 0 := if_pos h0
    have bl := U1 V V.zero
    rw [oD, h0] at cO
    rw [oD]
    by_cases hn : inD d n
    · have n0 := hn.1
      have n1 := hn.2
      have e0 : nth d.nodes n.toNat = nd d n := rfl
      have b1 : decide (n < 0) = false := decide_eq_false (by omega)
      have b2 : decide ((d.nodes.length : Int) <= n) = false := decide_eq_false (by omega)
      have cC := hasI_ok (G := G) (Z4 d 0) n (by omega)
      rw [show (Z4 d 0).any (· == n) = decide (n ∈ Z4 d 0) by rw [Bool.eq_iff_iff]; simp] at cC
      have nl := name_len V hn
      have cW := one_in (G := G) hG (nd d n).name nm hs (by omega) hnl
      have hE : V5 d n nm = if (nd d n).kind ≠ 2 \/ inW (nd d n).name nm = false then 7 else if 0 ∈ U2 d n then 0 else 5 := by
        unfold V5; rw [if_neg (by simpa using h0), if_neg (by simpa using hn)]
      have hm := mem_below V hn V.zero
      by_cases hk : (nd d n).kind = 2
      · have bk : ((nd d n).kind != 2) = false := by simpa using hk
        cases hw : inW (nd d n).name nm
        · rw [hw] at cW
          rw [hE, if_pos (.inr hw)]
          refine Q1 Tryz.func32 hn32 hc32 (by rw [Tryz.ntmps32]; simp) (by rw [Tryz.ntmps32]; decide) ?_
          simp -dsimp -implicitDefEqProofs (disch := omega) only [VCA, Nat.reduceEqDiff, Nat.reduceAdd, ↓reduceIte, c32, Q7]
          repeat' (first | ((with_reducible refine brC (fun _ => ?_) fun _ => ?_) <;> try (exfalso; omega)) | (with_reducible apply pcallE.of; · exact cO) | (with_reducible apply pcallE.of; · exact cC) | (with_reducible apply pcallE.of; · exact cW) | (with_reducible refine And.intro ?_ ?_; · omega) | simp -dsimp -implicitDefEqProofs (disch := omega) only [↓Q0 21, ↓Q0 36, VCA, Nat.reduceEqDiff, Nat.reduceAdd, Nat.reduceLT, Nat.reduceLeDiff, ↓reduceIte, K7, X0, exists_eq_right_right, b1, b2, bk, Q5, e0])
          all_goals first | exact Sub.refl _ | exact ⟨Sub.refl _, rfl⟩ | trace_state
        · rw [hw] at cW
          by_cases hc : 0 ∈ U2 d n
          · rw [decide_eq_true (hm.2 hc)] at cC
            rw [hE, if_neg (by simp [hk, hw]), if_pos hc]
            refine Q1 Tryz.func32 hn32 hc32 (by rw [Tryz.ntmps32]; simp) (by rw [Tryz.ntmps32]; decide) ?_
            simp -dsimp -implicitDefEqProofs (disch := omega) only [VCA, Nat.reduceEqDiff, Nat.reduceAdd, ↓reduceIte, c32, Q7]
            repeat' (first | ((with_reducible refine brC (fun _ => ?_) fun _ => ?_) <;> try (exfalso; omega)) | (with_reducible apply pcallE.of; · exact cO) | (with_reducible apply pcallE.of; · exact cC) | (with_reducible apply pcallE.of; · exact cW) | (with_reducible refine And.intro ?_ ?_; · omega) | simp -dsimp -implicitDefEqProofs (disch := omega) only [↓Q0 21, ↓Q0 36, VCA, Nat.reduceEqDiff, Nat.reduceAdd, Nat.reduceLT, Nat.reduceLeDiff, ↓reduceIte, K7, X0, exists_eq_right_right, b1, b2, bk, Q5, e0])
            all_goals first | exact Sub.refl _ | exact ⟨Sub.refl _, rfl⟩ | trace_state
          · rw [decide_eq_false (fun q => hc (hm.1 q))] at cC
            rw [hE, if_neg (by simp [hk, hw]), if_neg hc]
            refine Q1 Tryz.func32 hn32 hc32 (by rw [Tryz.ntmps32]; simp) (by rw [Tryz.ntmps32]; decide) ?_
            simp -dsimp -implicitDefEqProofs (disch := omega) only [VCA, Nat.reduceEqDiff, Nat.reduceAdd, ↓reduceIte, c32, Q7]
            repeat' (first | ((with_reducible refine brC (fun _ => ?_) fun _ => ?_) <;> try (exfalso; omega)) | (with_reducible apply pcallE.of; · exact cO) | (with_reducible apply pcallE.of; · exact cC) | (with_reducible apply pcallE.of; · exact cW) | (with_reducible refine And.intro ?_ ?_; · omega) | simp -dsimp -implicitDefEqProofs (disch := omega) only [↓Q0 21, ↓Q0 36, VCA, Nat.reduceEqDiff, Nat.reduceAdd, Nat.reduceLT, Nat.reduceLeDiff, ↓reduceIte, K7, X0, exists_eq_right_right, b1, b2, bk, Q5, e0])
            all_goals first | exact Sub.refl _ | exact ⟨Sub.refl _, rfl⟩ | trace_state
      · have bk : ((nd d n).kind != 2) = true := by simpa using hk
        rw [hE, if_pos (.inl hk)]
        refine Q1 Tryz.func32 hn32 hc32 (by rw [Tryz.ntmps32]; simp) (by rw [Tryz.ntmps32]; decide) ?_
        simp -dsimp -implicitDefEqProofs (disch := omega) only [VCA, Nat.reduceEqDiff, Nat.reduceAdd, ↓reduceIte, c32, Q7]
        repeat' (first | ((with_reducible refine brC (fun _ => ?_) fun _ => ?_) <;> try (exfalso; omega)) | (with_reducible apply pcallE.of; · exact cO) | (with_reducible apply pcallE.of; · exact cC) | (with_reducible apply pcallE.of; · exact cW) | (with_reducible refine And.intro ?_ ?_; · omega) | simp -dsimp -implicitDefEqProofs (disch := omega) only [↓Q0 21, ↓Q0 36, VCA, Nat.reduceEqDiff, Nat.reduceAdd, Nat.reduceLT, Nat.reduceLeDiff, ↓reduceIte, K7, X0, exists_eq_right_right, b1, b2, bk, Q5, e0])
        all_goals first | exact Sub.refl _ | exact ⟨Sub.refl _, rfl⟩ | trace_state
    · have hE : V5 d n nm = 1 := by unfold V5; rw [if_neg (by simpa using h0), if_pos hn]
      rw [hE]
      by_cases hneg : n < 0
      · have b1 : decide (n < 0) = true := decide_eq_true hneg
        refine Q1 Tryz.func32 hn32 hc32 (by rw [Tryz.ntmps32]; simp) (by rw [Tryz.ntmps32]; decide) ?_
        simp -dsimp -implicitDefEqProofs (disch := omega) only [VCA, Nat.reduceEqDiff, Nat.reduceAdd, ↓reduceIte, c32, Q7]
        repeat' (first | ((with_reducible refine brC (fun _ => ?_) fun _ => ?_) <;> try (exfalso; omega)) | (with_reducible apply pcallE.of; · exact cO) | (with_reducible refine And.intro ?_ ?_; · omega) | simp -dsimp -implicitDefEqProofs (disch := omega) only [↓Q0 21, VCA, Nat.reduceEqDiff, Nat.reduceAdd, Nat.reduceLT, Nat.reduceLeDiff, ↓reduceIte, K7, X0, exists_eq_right_right, b1])
        all_goals first | exact Sub.refl _ | exact ⟨Sub.refl _, rfl⟩ | trace_state
      · have b1 : decide (n < 0) = false := decide_eq_false hneg
        have b2 : decide ((d.nodes.length : Int) <= n) = true := decide_eq_true (by unfold inD at hn; omega)
        refine Q1 Tryz.func32 hn32 hc32 (by rw [Tryz.ntmps32]; simp) (by rw [Tryz.ntmps32]; decide) ?_
        simp -dsimp -implicitDefEqProofs (disch := omega) only [VCA, Nat.reduceEqDiff, Nat.reduceAdd, ↓reduceIte, c32, Q7]
        repeat' (first | ((with_reducible refine brC (fun _ => ?_) fun _ => ?_) <;> try (exfalso; omega)) | (with_reducible apply pcallE.of; · exact cO) | (with_reducible refine And.intro ?_ ?_; · omega) | simp -dsimp -implicitDefEqProofs (disch := omega) only [↓Q0 21, VCA, Nat.reduceEqDiff, Nat.reduceAdd, Nat.reduceLT, Nat.reduceLeDiff, ↓reduceIte, K7, X0, exists_eq_right_right, b1, b2])
        all_goals first | exact Sub.refl _ | exact ⟨Sub.refl _, rfl⟩ | trace_state
  · have hE : V5 d n nm = KU d := if_pos h0
    rw [hE]
    obtain ⟨x, hx⟩ : ∃ x, KU d = x := ⟨_, rfl⟩
    rw [hx] at cO h0 ⊢
    have bx : (x != 0) = true := by simpa using h0
    generalize W8 d = o at *
    refine Q1 Tryz.func32 hn32 hc32 (by rw [Tryz.ntmps32]; simp) (by rw [Tryz.ntmps32]; decide) ?_
    simp -dsimp -implicitDefEqProofs (disch := omega) only [VCA, Nat.reduceEqDiff, Nat.reduceAdd, ↓reduceIte, c32, Q7]
    repeat' (first | ((with_reducible refine brC (fun _ => ?_) fun _ => ?_) <;> try (exfalso; omega)) | (with_reducible apply pcallE.of; · exact cO) | (with_reducible refine And.intro ?_ ?_; · omega) | simp -dsimp -implicitDefEqProofs (disch := omega) only [VCA, Nat.reduceEqDiff, Nat.reduceAdd, Nat.reduceLT, Nat.reduceLeDiff, ↓reduceIte, K7, X0, exists_eq_right_right, bx])
    all_goals first | exact Sub.refl _ | exact ⟨Sub.refl _, rfl⟩ | trace_state
def c35 : SFun := ⟨.seq (.reg [o 4 (.mv (.c (.int .i64 0)))]) (.seq (.seq (.reg [o 8 (.mv (.t 0)), o 9 (.mv (.t 1)), o 10 (.pcall 78 [.t 8, .t 9, .c (.str [102, 111, 114, 109])]), o 11 (.un .not (.t 10))]) (.cond (.t 11) (.seq (.reg [o 12 (.mv (.t 0)), o 13 (.mv (.t 1)), o 14 (.mv (.t 0)), o 15 (.pcall 80 [.t 14, .c (.str [102, 111, 114, 109])]), o 16 (.pcall 79 [.t 12, .t 13, .t 15]), o 4 (.mv (.t 16))]) .ret) .skip)) (.seq (.reg [o 17 (.mv (.t 0)), o 18 (.mv (.t 1)), o 19 (.pcall 38 [.t 17, .t 18, .c (.str [102, 111, 114, 109])]), o 5 (.mv (.t 19))]) (.seq (.seq (.reg [o 20 (.mv (.t 0)), o 21 (.fldA 0 (.t 20)), o 22 (.fldA 2 (.t 21)), o 23 (.ld 1 false (.t 22)), o 24 (.len (.t 23)), o 25 (.mv (.c (.int .i64 0)))]) (.block 0 (.loop (.seq (.reg [o 26 (.bin .lss (.t 25) (.t 24))]) (.seq (.cond (.t 26) .skip (.exit 0)) (.seq (.block 1 (.seq (.reg [o 27 (.idxA 1 (.t 23) (.t 25)), o 28 (.ld 1 false (.t 27)), o 7 (.mv (.t 28))]) (.seq (.reg [o 29 (.mv (.t 0)), o 30 (.mv (.t 7)), o 31 (.pcall 78 [.t 29, .t 30, .c (.str [105, 100])]), o 32 (.mv (.t 31)), ⟨some 33, .mv (.t 0), some (32, true)⟩, ⟨some 34, .mv (.t 7), some (32, true)⟩, ⟨some 35, .pcall 38 [.t 33, .t 34, .c (.str [105, 100])], some (32, true)⟩, ⟨some 36, .mv (.t 5), some (32, true)⟩, ⟨some 37, .bin .eql (.t 35) (.t 36), some (32, true)⟩, o 38 (.pick (.t 32) (.t 37) (.c (.bool false)))]) (.cond (.t 38) (.seq (.seq (.reg [o 39 (.mv (.t 0)), o 40 (.pcall 80 [.t 39, .c (.str [102, 111, 114, 109])]), o 41 (.mv (.t 7)), o 42 (.call (.t 40) [.t 41])]) (.cond (.t 42) (.seq (.reg [o 43 (.mv (.t 7)), o 4 (.mv (.t 43))]) .ret) .skip)) (.seq (.reg [o 4 (.mv (.c (.int .i64 (-1))))]) .ret)) .skip)))) (.reg [o 44 (.bin .add (.t 25) (.c (.int .i64 1))), o 25 (.mv (.t 44))]))))))) (.seq (.reg [o 4 (.mv (.c (.int .i64 (-1))))]) .ret)))), [.tmp 4]⟩
theorem hc35 : J1 Tryz.prog {pure := [78, 38, 79, 80]} Tryz.f35 = some c35 := by kernel_rfl
theorem owner_ok (d : HDoc) (V : DV d) (sm : DocSm d) (o : List Int) (ho : ∀ k ∈ o, inD d k) (hol : o.length <= 1000) (n : Int) (hn : inD d n) : PCalls (Pg G) 35 [fA d o, Q4 n] (Q4 (ownM d o n)) := fun h => by
  have c1 := W9 (G := G) d sm o n hn [102, 111, 114, 109]
  have c2 := T8 (G := G) d sm o n hn [102, 111, 114, 109]
  have c3 := fnamed_ok (G := G) d o [102, 111, 114, 109]
  have c4 := fabove_ok (G := G) d V sm o n hn 113 [] [.pin [fA d o], .pin [.str [102, 111, 114, 109]]] (isN d [102, 111, 114, 109]) fun k hk => fnamed1_ok d sm o k hk [102, 111, 114, 109]
  have al := T6 V hn [102, 111, 114, 109]
  have fE : fA d o = .pin [sl Q5 d.nodes, .bool d.quirks, sl Z3 o] := rfl
  obtain ⟨F, hF⟩ : ∃ F, fA d o = F := ⟨_, rfl⟩
  rw [hF] at c1 c2 c3 c4 fE
  unfold ownM
  cases hh : X2 d n [102, 111, 114, 109]
  · rw [hh] at c1
    refine Q1 Tryz.func35 (by kernel_rfl) hc35 (by rw [Tryz.ntmps35]; simp) (by rw [Tryz.ntmps35]; decide) ?_
    simp -dsimp -implicitDefEqProofs (disch := omega) only [VCA, Nat.reduceEqDiff, ↓reduceIte, reduceCtorEq, c35, hF]
    repeat' (first | ((with_reducible refine brC (fun _ => ?_) fun _ => ?_) <;> try (exfalso; omega)) | (with_reducible apply pcallE.of; · exact c1) | (with_reducible apply pcallE.of; · exact c2) | (with_reducible apply pcallE.of; · exact c3) | (with_reducible apply pcallE.of; · exact c4) | (with_reducible refine And.intro ?_ ?_; · omega) | simp -dsimp -implicitDefEqProofs (disch := omega) only [VCA, Nat.reduceEqDiff, ↓reduceIte, reduceCtorEq, exists_eq_right])
    all_goals first | exact Sub.refl _ | trace_state
  · rw [hh] at c1
    rw [if_neg (by simp)]
    generalize X5 d n [102, 111, 114, 109] = id at *
    refine Q1 Tryz.func35 (by kernel_rfl) hc35 (by rw [Tryz.ntmps35]; simp) (by rw [Tryz.ntmps35]; decide) ?_
    simp -dsimp -implicitDefEqProofs (disch := omega) only [VCA, Nat.reduceEqDiff, ↓reduceIte, reduceCtorEq, c35, hF]
    repeat' (first | ((with_reducible refine brC (fun _ => ?_) fun _ => ?_) <;> try (exfalso; omega)) | (with_reducible apply pcallE.of; · exact c1) | (with_reducible apply pcallE.of; · exact c2) | (with_reducible refine And.intro ?_ ?_; · omega) | simp -dsimp -implicitDefEqProofs (disch := omega) only [VCA, Nat.reduceEqDiff, ↓reduceIte, reduceCtorEq])
    repeat' (first | ((with_reducible refine brC (fun _ => ?_) fun _ => ?_) <;> try (exfalso; omega)) | (with_reducible refine And.intro ?_ ?_; · omega) | simp -dsimp -implicitDefEqProofs (disch := omega) only [VCA, fE])
    refine LoopVC.intro (fun m e h' => ∃ k : Nat, k <= o.length /\ m = o.length - k /\ e 0 = F /\ e 5 = .str id /\ e 23 = sl Z3 o /\ e 24 = Q4 o.length /\ e 25 = Q4 k /\ h' = h /\ o.find? (fun k => X2 d k [105, 100] && X5 d k [105, 100] == id) = (o.drop k).find? (fun k => X2 d k [105, 100] && X5 d k [105, 100] == id)) o.length
      (by exact ⟨0, by omega, by omega, fE.symm, rfl, rfl, rfl, rfl, rfl, rfl⟩) ?_
    rintro m e h' ⟨k, hk, rfl, e0, e5, e23, e24, e25, rfl, hf⟩
    by_cases hlt : k < o.length
    · have d1 : decide ((k : Int) < (o.length : Int)) = true := decide_eq_true (by omega)
      rw [drop_cons' hlt, List.find?_cons] at hf
      obtain ⟨x, hx⟩ : ∃ x, nth o k = x := ⟨_, rfl⟩
      have hxo : inD d x := by rw [<- hx]; exact ho _ (Y2 hlt)
      rw [hx] at hf
      have g1 := W9 (G := G) d sm o x hxo [105, 100]
      have g2 := T8 (G := G) d sm o x hxo [105, 100]
      have g3 := fnamed1_ok (G := G) d sm o x hxo [102, 111, 114, 109]
      rw [hF] at g1 g2 g3
      cases hb : X2 d x [105, 100]
      · rw [hb] at g1
        rw [hb] at hf
        repeat' (first | ((with_reducible refine brC (fun _ => ?_) fun _ => ?_) <;> try (exfalso; omega)) | (with_reducible apply pcallE.of; · exact g1) | (with_reducible refine And.intro ?_ ?_; · omega) | simp -dsimp -implicitDefEqProofs (disch := omega) only [↓Q0 32, VCA, Nat.reduceEqDiff, ↓reduceIte, reduceCtorEq, Z3, e0, e5, e23, e24, e25, d1, hx])
        all_goals first
          | exact ⟨_, by omega, k + 1, by omega, rfl, by omega, hf⟩
          | trace_state
      · rw [hb] at g1
        rw [hb] at hf
        cases hc : (X5 d x [105, 100] == id)
        · rw [hc] at hf
          repeat' (first | ((with_reducible refine brC (fun _ => ?_) fun _ => ?_) <;> try (exfalso; omega)) | (with_reducible apply pcallE.of; · exact g1) | (with_reducible apply pcallE.of; · exact g2) | (with_reducible refine And.intro ?_ ?_; · omega) | simp -dsimp -implicitDefEqProofs (disch := omega) only [↓Q0 32, VCA, Nat.reduceEqDiff, ↓reduceIte, reduceCtorEq, Z3, e0, e5, e23, e24, e25, d1, hx, hc])
          all_goals first
            | exact ⟨_, by omega, k + 1, by omega, rfl, by omega, hf⟩
            | trace_state
        · rw [hc] at hf
          simp only [Bool.and_self] at hf
          rw [hf]
          cases hz : isN d [102, 111, 114, 109] x
          · rw [hz] at g3
            repeat' (first | ((with_reducible refine brC (fun _ => ?_) fun _ => ?_) <;> try (exfalso; omega)) | (with_reducible apply pcallE.of; · exact g1) | (with_reducible apply pcallE.of; · exact g2) | (with_reducible apply pcallE.of; · exact c3) | (with_reducible refine PCalls.of g3 ?_) | (with_reducible refine And.intro ?_ ?_; · omega) | simp -dsimp -implicitDefEqProofs (disch := omega) only [↓Q0 32, VCA, Nat.reduceEqDiff, ↓reduceIte, reduceCtorEq, exists_eq_right, Z3, e0, e5, e23, e24, e25, d1, hx, hc, hz])
            all_goals first | exact Sub.refl _ | exact ⟨Sub.refl _, rfl⟩ | trace_state
          · rw [hz] at g3
            repeat' (first | ((with_reducible refine brC (fun _ => ?_) fun _ => ?_) <;> try (exfalso; omega)) | (with_reducible apply pcallE.of; · exact g1) | (with_reducible apply pcallE.of; · exact g2) | (with_reducible apply pcallE.of; · exact c3) | (with_reducible refine PCalls.of g3 ?_) | (with_reducible refine And.intro ?_ ?_; · omega) | simp -dsimp -implicitDefEqProofs (disch := omega) only [↓Q0 32, VCA, Nat.reduceEqDiff, ↓reduceIte, reduceCtorEq, exists_eq_right, Z3, e0, e5, e23, e24, e25, d1, hx, hc, hz])
            all_goals first | exact Sub.refl _ | exact ⟨Sub.refl _, rfl⟩ | trace_state
    · obtain rfl : k = o.length := by omega
      have d1 : decide ((o.length : Int) < (o.length : Int)) = false := decide_eq_false (by omega)
      rw [List.drop_length] at hf
      rw [hf]
      repeat' (first | ((with_reducible refine brC (fun _ => ?_) fun _ => ?_) <;> try (exfalso; omega)) | (with_reducible refine And.intro ?_ ?_; · omega) | simp -dsimp -implicitDefEqProofs (disch := omega) only [VCA, ↓reduceIte, exists_eq_right_right, e24, e25, d1])
      all_goals first | exact Sub.refl _ | exact ⟨Sub.refl _, rfl⟩ | trace_state
theorem lett_one {d : HDoc} (V : DV d) {n : Int} (hn : inD d n) (h3 : (nd d n).kind = 3) : Z9 d (Z4 d n) = (nd d n).text := by
  rw [letters_one V hn (by omega), if_pos h3]
theorem lett_kids {d : HDoc} (V : DV d) {n : Int} (hn : inD d n) (h3 : ¬ (nd d n).kind = 3) : Z9 d (Z4 d n) = (nd d n).kids.flatMap fun k => Z9 d (Z4 d k) := by
  have h : ∀ l : List Int, Z9 d (l.flatMap (Z4 d)) = l.flatMap fun k => Z9 d (Z4 d k) := fun l => by
    induction l with
    | nil => rfl
    | cons x r ih => rw [List.flatMap_cons, VJ, List.flatMap_cons, ih]
  rw [W5 V hn]
  have : Z9 d (n :: (nd d n).kids.flatMap (Z4 d)) = Z9 d ([n] ++ (nd d n).kids.flatMap (Z4 d)) := rfl
  rw [this, VJ, h]
  have : Z9 d [n] = [] := by unfold Z9; simp [h3]
  rw [this, List.nil_append]
def c92 : SFun := ⟨.seq (.reg [o 4 (.mv (.c (.str [])))]) (.seq (.seq (.reg [o 8 (.mv (.t 0)), o 9 (.fldA 0 (.t 8)), o 10 (.fldA 0 (.t 9)), o 11 (.fldA 0 (.t 10)), o 12 (.ld 1 false (.t 11)), o 13 (.mv (.t 1)), o 14 (.idxA 6 (.t 12) (.t 13)), o 15 (.fldA 0 (.t 14)), o 16 (.ld 1 false (.t 15)), o 17 (.bin .eql (.t 16) (.c (.int .i64 3)))]) (.cond (.t 17) (.seq (.reg [o 18 (.mv (.t 0)), o 19 (.fldA 0 (.t 18)), o 20 (.fldA 0 (.t 19)), o 21 (.fldA 0 (.t 20)), o 22 (.ld 1 false (.t 21)), o 23 (.mv (.t 1)), o 24 (.idxA 6 (.t 22) (.t 23)), o 25 (.fldA 3 (.t 24)), o 26 (.ld 1 false (.t 25)), o 4 (.mv (.t 26))]) .ret) .skip)) (.seq (.reg [o 5 (.mv (.c (.str [])))]) (.seq (.seq (.reg [o 27 (.mv (.t 0)), o 28 (.fldA 0 (.t 27)), o 29 (.fldA 0 (.t 28)), o 30 (.fldA 0 (.t 29)), o 31 (.ld 1 false (.t 30)), o 32 (.mv (.t 1)), o 33 (.idxA 6 (.t 31) (.t 32)), o 34 (.fldA 5 (.t 33)), o 35 (.ld 1 false (.t 34)), o 36 (.len (.t 35)), o 37 (.mv (.c (.int .i64 0)))]) (.block 0 (.loop (.seq (.reg [o 38 (.bin .lss (.t 37) (.t 36))]) (.seq (.cond (.t 38) .skip (.exit 0)) (.seq (.block 1 (.seq (.reg [o 39 (.idxA 1 (.t 35) (.t 37)), o 40 (.ld 1 false (.t 39)), o 7 (.mv (.t 40))]) (.reg [o 41 (.mv (.t 5)), o 42 (.mv (.t 0)), o 43 (.mv (.t 7)), o 44 (.pcall 92 [.t 42, .t 43]), o 45 (.bin .add (.t 41) (.t 44)), o 5 (.mv (.t 45))]))) (.reg [o 46 (.bin .add (.t 37) (.c (.int .i64 1))), o 37 (.mv (.t 46))]))))))) (.seq (.reg [o 47 (.mv (.t 5)), o 4 (.mv (.t 47))]) .ret)))), [.tmp 4]⟩
theorem hc92 : J1 Tryz.prog {pure := [92]} Tryz.f92 = some c92 := by kernel_rfl
theorem ftext_ok (d : HDoc) (V : DV d) (sm : DocSm d) (o : List Int) : ∀ n, inD d n -> PCalls (Pg G) 92 [fA d o, Q4 n] (.str (Z9 d (Z4 d n))) := V.down fun n hn ih h => by
  have hl := V.len
  have n0 := hn.1
  have n1 := hn.2
  have e0 : nth d.nodes n.toNat = nd d n := rfl
  have kl := (sm.nd n).kids
  have tl := lett_len V hn
  have fE : fA d o = .pin [sl Q5 d.nodes, .bool d.quirks, sl Z3 o] := rfl
  obtain ⟨F, hF⟩ : ∃ F, fA d o = F := ⟨_, rfl⟩
  rw [hF] at fE ih
  by_cases h3 : (nd d n).kind = 3
  · have b3 : ((nd d n).kind == 3) = true := by simpa using h3
    have eT := lett_one V hn h3
    rw [eT]
    refine Q1 Tryz.func92 (by kernel_rfl) hc92 (by rw [Tryz.ntmps92]; simp) (by rw [Tryz.ntmps92]; decide) ?_
    simp -dsimp -implicitDefEqProofs (disch := omega) only [VCA, Nat.reduceEqDiff, Nat.reduceAdd, Nat.reduceLeDiff, ↓reduceIte, reduceCtorEq, exists_eq_right, c92, hF, fE, Q5, e0, b3]
    exact ⟨by omega, by omega, Sub.refl _⟩
  · have b3 : ((nd d n).kind == 3) = false := by simpa using h3
    have eT := lett_kids V hn h3
    have fl : ∀ k, k <= (nd d n).kids.length -> (((nd d n).kids.take k).flatMap fun k => Z9 d (Z4 d k)).length <= 80000 := fun k hk => by
      have : (((nd d n).kids.take k).flatMap fun k => Z9 d (Z4 d k)).length <= ((nd d n).kids.flatMap fun k => Z9 d (Z4 d k)).length := by
        conv => rhs; rw [<- List.take_append_drop k (nd d n).kids, List.flatMap_append, List.length_append]
        omega
      rw [<- eT] at this; omega
    rw [eT]
    refine Q1 Tryz.func92 (by kernel_rfl) hc92 (by rw [Tryz.ntmps92]; simp) (by rw [Tryz.ntmps92]; decide) ?_
    simp -dsimp -implicitDefEqProofs (disch := omega) only [VCA, Nat.reduceEqDiff, Nat.reduceAdd, Nat.reduceLeDiff, ↓reduceIte, reduceCtorEq, c92, hF, fE, Q5, e0, b3]
    refine ⟨by omega, by omega, ?_⟩
    refine LoopVC.intro (fun m e h' => ∃ k : Nat, k <= (nd d n).kids.length /\ m = (nd d n).kids.length - k /\ e 0 = F /\ e 5 = .str (((nd d n).kids.take k).flatMap fun k => Z9 d (Z4 d k)) /\ e 35 = sl Z3 (nd d n).kids /\ e 36 = Q4 (nd d n).kids.length /\ e 37 = Q4 k /\ h' = h) (nd d n).kids.length
      (by exact ⟨0, by omega, by omega, fE.symm, rfl, rfl, rfl, rfl, rfl⟩) ?_
    rintro m e h' ⟨k, hk, rfl, e0', e5, e35, e36, e37, rfl⟩
    by_cases hlt : k < (nd d n).kids.length
    · have d1 : decide ((k : Int) < ((nd d n).kids.length : Int)) = true := decide_eq_true (by omega)
      have ihk := ih _ (Y2 hlt)
      have f1 := fl (k + 1) (by omega)
      have tk : ((nd d n).kids.take (k + 1)).flatMap (fun k => Z9 d (Z4 d k)) = (((nd d n).kids.take k).flatMap fun k => Z9 d (Z4 d k)) ++ Z9 d (Z4 d (nth (nd d n).kids k)) := by rw [X4 hlt, List.flatMap_append]; simp
      rw [tk, List.length_append] at f1
      repeat' (first | ((with_reducible refine brC (fun _ => ?_) fun _ => ?_) <;> try (exfalso; omega)) | (with_reducible apply pcallE.of; · exact ihk) | (with_reducible refine And.intro ?_ ?_; · omega) | simp -dsimp -implicitDefEqProofs (disch := omega) only [VCA, Nat.reduceEqDiff, ↓reduceIte, reduceCtorEq, Z3, e0', e5, e35, e36, e37, d1])
      all_goals first | exact ⟨_, by omega, k + 1, by omega, rfl, by rw [tk], by omega⟩ | trace_state
    · obtain rfl : k = (nd d n).kids.length := by omega
      have d1 : decide (((nd d n).kids.length : Int) < ((nd d n).kids.length : Int)) = false := decide_eq_false (by omega)
      rw [List.take_length] at e5
      repeat' (first | ((with_reducible refine brC (fun _ => ?_) fun _ => ?_) <;> try (exfalso; omega)) | (with_reducible refine And.intro ?_ ?_; · omega) | simp -dsimp -implicitDefEqProofs (disch := omega) only [VCA, Nat.reduceEqDiff, ↓reduceIte, exists_eq_right, e5, e36, e37, d1])
      all_goals first | exact Sub.refl _ | trace_state
theorem belO_eq {d : HDoc} (V : DV d) {n : Int} (hn : inD d n) (nm : List UInt8) : belO d nm n = (nd d n).kids.flatMap fun k => (if isN d nm k = true then [k] else []) ++ belO d nm k := by
  have h : ∀ l : List Int, (∀ k ∈ l, inD d k) -> (l.flatMap (Z4 d)).filter (isN d nm) = l.flatMap fun k => (if isN d nm k = true then [k] else []) ++ belO d nm k := fun l => by
    induction l with
    | nil => intro _; rfl
    | cons x r ih =>
      intro hl
      have hx := hl x List.mem_cons_self
      rw [List.flatMap_cons, List.filter_append, List.flatMap_cons, ih fun k hk => hl k (List.mem_cons_of_mem _ hk)]
      congr 1
      unfold belO
      rw [W5 V hx, List.filter_cons]
      cases isN d nm x <;> rfl
  unfold belO
  rw [W5 V hn]
  exact h _ fun k hk => (V.kid n hn k hk).1
def c117 : SFun := ⟨.seq (.reg [o 6 (.mv (.c .emp))]) (.seq (.seq (.reg [o 9 (.mv (.t 0)), o 10 (.fldA 0 (.t 9)), o 11 (.fldA 0 (.t 10)), o 12 (.fldA 0 (.t 11)), o 13 (.ld 1 false (.t 12)), o 14 (.mv (.t 1)), o 15 (.idxA 6 (.t 13) (.t 14)), o 16 (.fldA 5 (.t 15)), o 17 (.ld 1 false (.t 16)), o 18 (.len (.t 17)), o 19 (.mv (.c (.int .i64 0)))]) (.block 0 (.loop (.seq (.reg [o 20 (.bin .lss (.t 19) (.t 18))]) (.seq (.cond (.t 20) .skip (.exit 0)) (.seq (.block 1 (.seq (.reg [o 21 (.idxA 1 (.t 17) (.t 19)), o 22 (.ld 1 false (.t 21)), o 8 (.mv (.t 22))]) (.seq (.seq (.reg [o 23 (.mv (.t 0)), o 24 (.mv (.t 2)), o 25 (.pcall 80 [.t 23, .t 24]), o 26 (.mv (.t 8)), o 27 (.call (.t 25) [.t 26])]) (.cond (.t 27) (.reg [o 28 (.mv (.t 6)), o 29 (.mv (.t 8)), o 30 (.bldF 3 1 [.t 29]), o 31 (.app 3 1 8 (.t 28) (.t 30)), o 6 (.mv (.t 31))]) .skip)) (.reg [o 32 (.mv (.t 6)), o 33 (.mv (.t 0)), o 34 (.mv (.t 8)), o 35 (.mv (.t 2)), o 36 (.pcall 117 [.t 33, .t 34, .t 35]), o 37 (.app 3 1 8 (.t 32) (.t 36)), o 6 (.mv (.t 37))])))) (.reg [o 38 (.bin .add (.t 19) (.c (.int .i64 1))), o 19 (.mv (.t 38))]))))))) (.seq (.reg [o 39 (.mv (.t 6)), o 6 (.mv (.t 39))]) .ret)), [.tmp 6]⟩
theorem hc117 : J1 Tryz.prog {pure := [117, 80]} Tryz.f117 = some c117 := by kernel_rfl
theorem fbelow_ok (d : HDoc) (V : DV d) (sm : DocSm d) (o : List Int) (nm : List UInt8) : ∀ n, inD d n -> PCalls (Pg G) 117 [fA d o, Q4 n, .str nm] (sl Z3 (belO d nm n)) := V.down fun n hn ih => PCalls.acc (ty := 3) (sz := 1) fun h => by
  have hl := V.len
  have n0 := hn.1
  have n1 := hn.2
  have e0 : nth d.nodes n.toNat = nd d n := rfl
  have kl := (sm.nd n).kids
  have bl := belO_len V hn (nm := nm)
  have c3 := fnamed_ok (G := G) d o nm
  have g3 := fun x hx => fnamed1_ok (G := G) d sm o x hx nm
  have fE : fA d o = .pin [sl Q5 d.nodes, .bool d.quirks, sl Z3 o] := rfl
  obtain ⟨F, hF⟩ : ∃ F, fA d o = F := ⟨_, rfl⟩
  rw [hF] at fE ih c3 g3
  have eB := belO_eq V hn nm
  rw [eB] at bl ⊢
  obtain ⟨f, hf⟩ : ∃ f : Int -> List Int, (fun k => (if isN d nm k = true then [k] else []) ++ belO d nm k) = f := ⟨_, rfl⟩
  rw [hf] at bl ⊢
  have fl : ∀ k, k <= (nd d n).kids.length -> (((nd d n).kids.take k).flatMap f).length <= 200 := fun k hk => by
    have : (((nd d n).kids.take k).flatMap f).length <= ((nd d n).kids.flatMap f).length := by
      conv => rhs; rw [<- List.take_append_drop k (nd d n).kids, List.flatMap_append, List.length_append]
      omega
    omega
  refine Q1 Tryz.func117 (by kernel_rfl) hc117 (by rw [Tryz.ntmps117]; simp) (by rw [Tryz.ntmps117]; decide) ?_
  simp -dsimp -implicitDefEqProofs (disch := omega) only [VCA, Nat.reduceEqDiff, Nat.reduceAdd, Nat.reduceLeDiff, ↓reduceIte, reduceCtorEq, c117, hF, fE, Q5, e0]
  refine ⟨by omega, ?_⟩
  refine LoopVC.intro (fun m e h' => ∃ k : Nat, k <= (nd d n).kids.length /\ m = (nd d n).kids.length - k /\ e 0 = F /\ e 2 = .str nm /\ e 17 = sl Z3 (nd d n).kids /\ e 18 = Q4 (nd d n).kids.length /\ e 19 = Q4 k /\ Acc h 3 1 ((((nd d n).kids.take k).flatMap f).map Z3) (e 6) h' /\ Sim.Sub h h') (nd d n).kids.length
    (by exact ⟨0, by omega, by omega, fE.symm, rfl, rfl, rfl, rfl, Acc.nil, Sub.refl _⟩) ?_
  rintro m e h' ⟨k, hk, rfl, e0', e2, e17, e18, e19, A, S⟩
  by_cases hlt : k < (nd d n).kids.length
  · have d1 : decide ((k : Int) < ((nd d n).kids.length : Int)) = true := decide_eq_true (by omega)
    have ihk := ih _ (Y2 hlt)
    have hx := (V.kid n hn _ (Y2 hlt)).1
    have f1 := fl (k + 1) (by omega)
    have g := g3 _ hx
    rw [X4 hlt, List.flatMap_append, List.length_append] at f1
    obtain ⟨x, hxx⟩ : ∃ x, nth (nd d n).kids k = x := ⟨_, rfl⟩
    have tk : ((nd d n).kids.take (k + 1)).flatMap f = ((nd d n).kids.take k).flatMap f ++ f x := by rw [X4 hlt, List.flatMap_append, hxx]; simp
    rw [hxx] at ihk g f1
    simp only [List.flatMap_cons, List.flatMap_nil, List.append_nil] at f1
    have fx : f x = (if isN d nm x = true then [x] else []) ++ belO d nm x := by rw [<- hf]
    cases hz : isN d nm x
    · rw [hz] at g
      rw [hz] at fx
      rw [fx] at f1
      simp only [Bool.false_eq_true, if_false, List.nil_append] at f1 fx
      repeat' (first | ((with_reducible refine brC (fun _ => ?_) fun _ => ?_) <;> try (exfalso; omega)) | (with_reducible apply pcallE.of; · exact c3) | (with_reducible refine PCalls.of g ?_) | (with_reducible apply pcallE.of; · exact ihk) | (with_reducible refine And.intro ?_ ?_; · omega) | simp -dsimp -implicitDefEqProofs (disch := omega) only [VCA, Nat.reduceEqDiff, ↓reduceIte, reduceCtorEq, exists_eq_left, Z3, e0', e2, e17, e18, e19, d1, hxx])
      refine A.app S (by simp only [List.length_map]; omega) (by simp only [List.length_map]; omega) fun a' h'' A' S' => ?_
      simp -dsimp -implicitDefEqProofs (disch := omega) only [VCA, Nat.reduceEqDiff, ↓reduceIte, reduceCtorEq, e0', e2, e17, e18, e19]
      refine ⟨_, by omega, k + 1, by omega, rfl, by omega, ?_, S'⟩
      rw [tk, fx]
      simpa [Z3] using A'
    · rw [hz] at g
      rw [hz] at fx
      rw [fx] at f1
      simp only [if_true, List.cons_append, List.nil_append, List.length_cons] at f1 fx
      repeat' (first | ((with_reducible refine brC (fun _ => ?_) fun _ => ?_) <;> try (exfalso; omega)) | (with_reducible apply pcallE.of; · exact c3) | (with_reducible refine PCalls.of g ?_) | (with_reducible apply pcallE.of; · exact ihk) | (with_reducible refine And.intro ?_ ?_; · omega) | simp -dsimp -implicitDefEqProofs (disch := omega) only [VCA, Nat.reduceEqDiff, ↓reduceIte, reduceCtorEq, Z2, forall_eq, exists_eq_left, Z3, e0', e2, e17, e18, e19, d1, hxx])
      refine A.app S (by simp only [List.length_map, List.length_cons, List.length_nil]; omega) (by simp only [List.length_map, List.length_cons, List.length_nil]; omega) fun a' h'' A' S' => ?_
      repeat' (first | ((with_reducible refine brC (fun _ => ?_) fun _ => ?_) <;> try (exfalso; omega)) | (with_reducible apply pcallE.of; · exact ihk) | (with_reducible refine And.intro ?_ ?_; · omega) | simp -dsimp -implicitDefEqProofs (disch := omega) only [VCA, Nat.reduceEqDiff, ↓reduceIte, reduceCtorEq, exists_eq_left, e0', e2])
      refine A'.app S' (by simp only [List.length_append, List.length_map, List.length_cons, List.length_nil]; omega) (by simp only [List.length_append, List.length_map, List.length_cons, List.length_nil]; omega) fun a2 h2 A2 S2 => ?_
      simp -dsimp -implicitDefEqProofs (disch := omega) only [VCA, Nat.reduceEqDiff, ↓reduceIte, reduceCtorEq, e0', e2, e17, e18, e19]
      refine ⟨_, by omega, k + 1, by omega, rfl, by omega, ?_, S2⟩
      rw [tk, fx]
      simpa [Z3] using A2
  · obtain rfl : k = (nd d n).kids.length := by omega
    have d1 : decide (((nd d n).kids.length : Int) < ((nd d n).kids.length : Int)) = false := decide_eq_false (by omega)
    rw [List.take_length] at A
    repeat' (first | ((with_reducible refine brC (fun _ => ?_) fun _ => ?_) <;> try (exfalso; omega)) | (with_reducible refine And.intro ?_ ?_; · omega) | simp -dsimp -implicitDefEqProofs (disch := omega) only [VCA, Nat.reduceEqDiff, ↓reduceIte, e18, e19, d1])
    all_goals first | exact ⟨_, Sub.refl _, A, S⟩ | trace_state
def c86 : SFun := ⟨.seq (.reg [o 4 (.mv (.c (.str [])))]) (.seq (.seq (.reg [o 5 (.mv (.t 0)), o 6 (.mv (.t 1)), o 7 (.pcall 78 [.t 5, .t 6, .c (.str [118, 97, 108, 117, 101])])]) (.cond (.t 7) (.seq (.reg [o 8 (.mv (.t 0)), o 9 (.mv (.t 1)), o 10 (.pcall 38 [.t 8, .t 9, .c (.str [118, 97, 108, 117, 101])]), o 4 (.mv (.t 10))]) .ret) .skip)) (.seq (.reg [o 11 (.mv (.t 0)), o 12 (.mv (.t 1)), o 13 (.pcall 92 [.t 11, .t 12]), o 4 (.mv (.t 13))]) .ret)), [.tmp 4]⟩
theorem hc86 : J1 Tryz.prog {pure := [78, 38, 92]} Tryz.f86 = some c86 := by kernel_rfl
theorem option_ok (d : HDoc) (V : DV d) (sm : DocSm d) (o : List Int) (n : Int) (hn : inD d n) : PCalls (Pg G) 86 [fA d o, Q4 n] (.str (optV d n)) := fun h => by
  have c1 := W9 (G := G) d sm o n hn [118, 97, 108, 117, 101]
  have c2 := T8 (G := G) d sm o n hn [118, 97, 108, 117, 101]
  have c3 := ftext_ok (G := G) d V sm o n hn
  obtain ⟨F, hF⟩ : ∃ F, fA d o = F := ⟨_, rfl⟩
  rw [hF] at c1 c2 c3
  unfold optV
  cases hb : X2 d n [118, 97, 108, 117, 101]
  · rw [hb] at c1
    refine Q1 Tryz.func86 (by kernel_rfl) hc86 (by rw [Tryz.ntmps86]; simp) (by rw [Tryz.ntmps86]; decide) ?_
    simp -dsimp -implicitDefEqProofs (disch := omega) only [VCA, Nat.reduceEqDiff, ↓reduceIte, reduceCtorEq, c86, hF]
    repeat' (first | ((with_reducible refine brC (fun _ => ?_) fun _ => ?_) <;> try (exfalso; omega)) | (with_reducible apply pcallE.of; · exact c1) | (with_reducible apply pcallE.of; · exact c3) | (with_reducible refine And.intro ?_ ?_; · omega) | simp -dsimp -implicitDefEqProofs (disch := omega) only [VCA, Nat.reduceEqDiff, ↓reduceIte, reduceCtorEq, exists_eq_right])
    all_goals first | exact Sub.refl _ | exact ⟨Sub.refl _, rfl⟩ | trace_state
  · rw [hb] at c1
    refine Q1 Tryz.func86 (by kernel_rfl) hc86 (by rw [Tryz.ntmps86]; simp) (by rw [Tryz.ntmps86]; decide) ?_
    simp -dsimp -implicitDefEqProofs (disch := omega) only [VCA, Nat.reduceEqDiff, ↓reduceIte, reduceCtorEq, c86, hF]
    repeat' (first | ((with_reducible refine brC (fun _ => ?_) fun _ => ?_) <;> try (exfalso; omega)) | (with_reducible apply pcallE.of; · exact c1) | (with_reducible apply pcallE.of; · exact c2) | (with_reducible refine And.intro ?_ ?_; · omega) | simp -dsimp -implicitDefEqProofs (disch := omega) only [VCA, Nat.reduceEqDiff, ↓reduceIte, reduceCtorEq, exists_eq_right])
    all_goals first | exact Sub.refl _ | exact ⟨Sub.refl _, rfl⟩ | trace_state
def c82 : SFun := ⟨.seq (.reg [o 2 (.mv (.c (.bool false)))]) (.seq (.reg [o 3 (.mv (.t 0)), o 4 (.bin .eql (.t 3) (.c (.str [99, 104, 101, 99, 107, 98, 111, 120]))), o 5 (.mv (.t 4)), ⟨some 6, .mv (.t 0), some (5, false)⟩, ⟨some 7, .bin .eql (.t 6) (.c (.str [114, 97, 100, 105, 111])), some (5, false)⟩, o 8 (.pick (.t 5) (.c (.bool true)) (.t 7)), o 2 (.mv (.t 8))]) .ret), [.tmp 2]⟩
theorem hc82 : J1 Tryz.prog {} Tryz.f82 = some c82 := by kernel_rfl
theorem ticked_ok (k : List UInt8) : PCalls (Pg G) 82 [.str k] (.bool (TV k)) := fun h => by
  unfold TV
  refine Q1 Tryz.func82 (by kernel_rfl) hc82 (by rw [Tryz.ntmps82]; simp) (by rw [Tryz.ntmps82]; decide) ?_
  cases h1 : (k == [99, 104, 101, 99, 107, 98, 111, 120]) <;> cases h2 : (k == [114, 97, 100, 105, 111])
  all_goals
    simp -dsimp -implicitDefEqProofs (disch := omega) only [↓Q0 5, VCA, Nat.reduceEqDiff, ↓reduceIte, reduceCtorEq, exists_eq_right, c82, h1, h2]
    repeat' (first | ((with_reducible refine brC (fun _ => ?_) fun _ => ?_) <;> try (exfalso; omega)) | (with_reducible refine And.intro ?_ ?_; · omega) | simp -dsimp -implicitDefEqProofs (disch := omega) only [↓Q0 5, ↓Z0 5, VCA, TX, ↓U5, Nat.reduceEqDiff, Nat.reduceBEq, Nat.reduceAdd, Nat.reduceSub, Nat.reduceMul, Nat.reduceLT, Nat.reduceLeDiff, ↓reduceIte, reduceCtorEq, Y6, Q9, SOp.rd, SI.rd, SX.rd, rdL, rdO, rdP, Z2, Y3, J6, K7, X0, Y7, implies_true, forall_const, forall_eq, ne_eq, exists_eq_right_right, exists_eq_right, exists_eq_left, exists_eq_left', Z7, Z3, ZJ, X6, ZX, h1, h2])
  all_goals first | exact Sub.refl _ | exact ⟨Sub.refl _, rfl⟩ | trace_state
def k37_1 : List UInt8 := [32, 104, 105, 100, 100, 101, 110, 32, 116, 101, 120, 116, 32, 110, 117, 109, 98, 101, 114, 32, 99, 104, 101, 99, 107, 98, 111, 120, 32, 114, 97, 100, 105, 111, 32, 115, 117, 98, 109, 105, 116, 32, 114, 101, 115, 101, 116, 32, 98, 117, 116, 116, 111, 110, 32, 105, 109, 97, 103, 101, 32, 102, 105, 108, 101, 32]
def c37 : SFun := ⟨.seq (.reg [o 4 (.mv (.c (.str [])))]) (.seq (.seq (.reg [o 6 (.mv (.t 0)), o 7 (.fldA 0 (.t 6)), o 8 (.fldA 0 (.t 7)), o 9 (.fldA 0 (.t 8)), o 10 (.ld 1 false (.t 9)), o 11 (.mv (.t 1)), o 12 (.idxA 6 (.t 10) (.t 11)), o 13 (.fldA 1 (.t 12)), o 14 (.ld 1 false (.t 13)), o 15 (.bin .neq (.t 14) (.c (.str [105, 110, 112, 117, 116])))]) (.cond (.t 15) (.seq (.reg [o 16 (.mv (.t 0)), o 17 (.fldA 0 (.t 16)), o 18 (.fldA 0 (.t 17)), o 19 (.fldA 0 (.t 18)), o 20 (.ld 1 false (.t 19)), o 21 (.mv (.t 1)), o 22 (.idxA 6 (.t 20) (.t 21)), o 23 (.fldA 1 (.t 22)), o 24 (.ld 1 false (.t 23)), o 4 (.mv (.t 24))]) .ret) .skip)) (.seq (.reg [o 25 (.mv (.t 0)), o 26 (.mv (.t 1)), o 27 (.pcall 38 [.t 25, .t 26, .c (.str [116, 121, 112, 101])]), o 5 (.mv (.t 27))]) (.seq (.seq (.reg [o 28 (.mv (.t 5)), o 29 (.lenS (.t 28)), o 30 (.bin .gtr (.t 29) (.c (.int .i64 8))), o 31 (.mv (.t 30)), ⟨some 32, .mv (.t 5), some (31, false)⟩, ⟨some 33, .pcall 83 [.t 32], some (31, false)⟩, ⟨some 34, .pcall 34 [.t 33, .c (.str k37_1)], some (31, false)⟩, ⟨some 35, .un .not (.t 34), some (31, false)⟩, o 36 (.pick (.t 31) (.c (.bool true)) (.t 35))]) (.cond (.t 36) (.seq (.reg [o 4 (.mv (.c (.str [116, 101, 120, 116])))]) .ret) .skip)) (.seq (.reg [o 37 (.mv (.t 5)), o 38 (.pcall 83 [.t 37]), o 4 (.mv (.t 38))]) .ret)))), [.tmp 4]⟩
theorem hc37 : J1 Tryz.prog {pure := [38, 83, 34]} Tryz.f37 = some c37 := by kernel_rfl
theorem hn37 : (Tryz.f37.name == "runtime.NumGoroutine") = false := by kernel_rfl
theorem kind_ok (hG : X1 G) (hT : QW G) (d : HDoc) (V : DV d) (sm : DocSm d) (o : List Int) (n : Int) (hn : inD d n) : PCalls (Pg G) 37 [fA d o, Q4 n] (.str (Y1 d n)) := fun h => by
  have hl := V.len
  have n0 := hn.1
  have n1 := hn.2
  have e0 : nth d.nodes n.toNat = nd d n := rfl
  have c2 := T8 (G := G) d sm o n hn [116, 121, 112, 101]
  have al := T6 V hn [116, 121, 112, 101]
  have fE : fA d o = .pin [sl Q5 d.nodes, .bool d.quirks, sl Z3 o] := rfl
  rw [fE] at c2
  unfold Y1
  by_cases hi : (nd d n).name = [105, 110, 112, 117, 116]
  · have bi : ((nd d n).name != [105, 110, 112, 117, 116]) = false := by simpa using hi
    rw [if_pos hi]
    obtain ⟨v, hv⟩ : ∃ v, X5 d n [116, 121, 112, 101] = v := ⟨_, rfl⟩
    rw [hv] at c2 al ⊢
    have ht := typ_is v
    have cL := flower_ok (G := G) hT v (by omega)
    have ll := lowU_len v
    have ek : k37_1 = 32 :: (typS ++ [32]) := by decide +kernel
    have cO : PCalls (Pg G) 34 [.str (lowU v), .str (32 :: (typS ++ [32]))] (.bool (inW (lowU v) typS)) := one_in hG (lowU v) typS (by decide +kernel) (by omega) (by decide +kernel)
    by_cases h8 : v.length <= 8
    · have d8 : decide ((8 : Int) < (v.length : Int)) = false := decide_eq_false (by omega)
      cases hw : inW (lowU v) typS
      · rw [hw] at cO ht
        rw [if_neg (by simp)] at ht
        rw [<- ht]
        refine Q1 Tryz.func37 hn37 hc37 (by rw [Tryz.ntmps37]; simp) (by rw [Tryz.ntmps37]; decide) ?_
        simp -dsimp -implicitDefEqProofs (disch := omega) only [VCA, Nat.reduceEqDiff, Nat.reduceAdd, Nat.reduceLeDiff, ↓reduceIte, reduceCtorEq, c37, fA, Q5, e0, bi, ek]
        refine ⟨by omega, ?_⟩
        repeat' (first | ((with_reducible refine brC (fun _ => ?_) fun _ => ?_) <;> try (exfalso; omega)) | (with_reducible apply pcallE.of; · exact c2) | (with_reducible apply pcallE.of; · exact cL) | (with_reducible apply pcallE.of; · exact cO) | (with_reducible refine And.intro ?_ ?_; · omega) | simp -dsimp -implicitDefEqProofs (disch := omega) only [↓Q0 31, VCA, Nat.reduceEqDiff, ↓reduceIte, exists_eq_right, d8])
        all_goals first | exact Sub.refl _ | exact ⟨Sub.refl _, rfl⟩ | trace_state
      · rw [hw] at cO ht
        rw [if_pos ⟨h8, rfl⟩] at ht
        rw [<- ht]
        refine Q1 Tryz.func37 hn37 hc37 (by rw [Tryz.ntmps37]; simp) (by rw [Tryz.ntmps37]; decide) ?_
        simp -dsimp -implicitDefEqProofs (disch := omega) only [VCA, Nat.reduceEqDiff, Nat.reduceAdd, Nat.reduceLeDiff, ↓reduceIte, reduceCtorEq, c37, fA, Q5, e0, bi, ek]
        refine ⟨by omega, ?_⟩
        repeat' (first | ((with_reducible refine brC (fun _ => ?_) fun _ => ?_) <;> try (exfalso; omega)) | (with_reducible apply pcallE.of; · exact c2) | (with_reducible apply pcallE.of; · exact cL) | (with_reducible apply pcallE.of; · exact cO) | (with_reducible refine And.intro ?_ ?_; · omega) | simp -dsimp -implicitDefEqProofs (disch := omega) only [↓Q0 31, VCA, Nat.reduceEqDiff, ↓reduceIte, exists_eq_right, d8])
        all_goals first | exact Sub.refl _ | exact ⟨Sub.refl _, rfl⟩ | trace_state
    · have d8 : decide ((8 : Int) < (v.length : Int)) = true := decide_eq_true (by omega)
      rw [if_neg (fun q => h8 q.1)] at ht
      rw [<- ht]
      refine Q1 Tryz.func37 hn37 hc37 (by rw [Tryz.ntmps37]; simp) (by rw [Tryz.ntmps37]; decide) ?_
      simp -dsimp -implicitDefEqProofs (disch := omega) only [VCA, Nat.reduceEqDiff, Nat.reduceAdd, Nat.reduceLeDiff, ↓reduceIte, reduceCtorEq, c37, fA, Q5, e0, bi, ek]
      refine ⟨by omega, ?_⟩
      repeat' (first | ((with_reducible refine brC (fun _ => ?_) fun _ => ?_) <;> try (exfalso; omega)) | (with_reducible apply pcallE.of; · exact c2) | (with_reducible refine And.intro ?_ ?_; · omega) | simp -dsimp -implicitDefEqProofs (disch := omega) only [↓Q0 31, VCA, Nat.reduceEqDiff, ↓reduceIte, exists_eq_right, d8])
      all_goals first | exact Sub.refl _ | exact ⟨Sub.refl _, rfl⟩ | trace_state
  · have bi : ((nd d n).name != [105, 110, 112, 117, 116]) = true := by simpa using hi
    rw [if_neg hi]
    refine Q1 Tryz.func37 hn37 hc37 (by rw [Tryz.ntmps37]; simp) (by rw [Tryz.ntmps37]; decide) ?_
    simp -dsimp -implicitDefEqProofs (disch := omega) only [VCA, Nat.reduceEqDiff, Nat.reduceAdd, Nat.reduceLeDiff, ↓reduceIte, reduceCtorEq, exists_eq_right, c37, fA, Q5, e0, bi]
    all_goals first | exact ⟨by omega, by omega, Sub.refl _⟩ | trace_state
def c85 : SFun := ⟨.seq (.reg [o 4 (.mv (.c .emp))]) (.seq (.reg [o 10 (.mv (.t 0)), o 11 (.mv (.t 1)), o 12 (.pcall 117 [.t 10, .t 11, .c (.str [111, 112, 116, 105, 111, 110])]), o 5 (.mv (.t 12))]) (.seq (.seq (.reg [o 13 (.mv (.t 5)), o 14 (.len (.t 13)), o 15 (.mv (.c (.int .i64 0)))]) (.block 0 (.loop (.seq (.reg [o 16 (.bin .lss (.t 15) (.t 14))]) (.seq (.cond (.t 16) .skip (.exit 0)) (.seq (.block 1 (.seq (.reg [o 17 (.idxA 1 (.t 13) (.t 15)), o 18 (.ld 1 false (.t 17)), o 7 (.mv (.t 18))]) (.seq (.reg [o 19 (.mv (.t 0)), o 20 (.mv (.t 7)), o 21 (.pcall 78 [.t 19, .t 20, .c (.str [115, 101, 108, 101, 99, 116, 101, 100])])]) (.cond (.t 21) (.reg [o 22 (.mv (.t 4)), o 23 (.mv (.t 7)), o 24 (.bldF 3 1 [.t 23]), o 25 (.app 3 1 8 (.t 22) (.t 24)), o 4 (.mv (.t 25))]) .skip)))) (.reg [o 26 (.bin .add (.t 15) (.c (.int .i64 1))), o 15 (.mv (.t 26))]))))))) (.seq (.seq (.reg [o 27 (.mv (.t 4)), o 28 (.len (.t 27)), o 29 (.bin .gtr (.t 28) (.c (.int .i64 0))), o 30 (.mv (.t 29)), ⟨some 31, .mv (.t 0), some (30, false)⟩, ⟨some 32, .mv (.t 1), some (30, false)⟩, ⟨some 33, .pcall 78 [.t 31, .t 32, .c (.str [109, 117, 108, 116, 105, 112, 108, 101])], some (30, false)⟩, o 34 (.pick (.t 30) (.c (.bool true)) (.t 33))]) (.cond (.t 34) (.seq (.reg [o 35 (.mv (.t 4)), o 4 (.mv (.t 35))]) .ret) .skip)) (.seq (.seq (.reg [o 36 (.mv (.t 5)), o 37 (.len (.t 36)), o 38 (.mv (.c (.int .i64 0)))]) (.block 2 (.loop (.seq (.reg [o 39 (.bin .lss (.t 38) (.t 37))]) (.seq (.cond (.t 39) .skip (.exit 2)) (.seq (.block 3 (.seq (.reg [o 40 (.idxA 1 (.t 36) (.t 38)), o 41 (.ld 1 false (.t 40)), o 9 (.mv (.t 41))]) (.seq (.reg [o 42 (.mv (.t 0)), o 43 (.mv (.t 9)), o 44 (.pcall 78 [.t 42, .t 43, .c (.str [100, 105, 115, 97, 98, 108, 101, 100])]), o 45 (.un .not (.t 44))]) (.cond (.t 45) (.seq (.reg [o 46 (.mv (.t 9)), o 47 (.bldF 3 1 [.t 46]), o 4 (.mv (.t 47))]) .ret) .skip)))) (.reg [o 48 (.bin .add (.t 38) (.c (.int .i64 1))), o 38 (.mv (.t 48))]))))))) (.seq (.reg [o 4 (.mv (.c .emp))]) .ret))))), [.tmp 4]⟩
theorem hc85 : J1 Tryz.prog {pure := [117, 78]} Tryz.f85 = some c85 := by kernel_rfl
theorem chosen_ok (d : HDoc) (V : DV d) (sm : DocSm d) (o : List Int) (n : Int) (hn : inD d n) : PCalls (Pg G) 85 [fA d o, Q4 n] (sl Z3 (JJ d n)) := PCalls.outV fun h => by
  have cB := fbelow_ok (G := G) d V sm o [111, 112, 116, 105, 111, 110] n hn
  have cM := W9 (G := G) d sm o n hn [109, 117, 108, 116, 105, 112, 108, 101]
  have gS := fun x hx => W9 (G := G) d sm o x hx [115, 101, 108, 101, 99, 116, 101, 100]
  have gD := fun x hx => W9 (G := G) d sm o x hx [100, 105, 115, 97, 98, 108, 101, 100]
  have bl := belO_len V hn (nm := [111, 112, 116, 105, 111, 110])
  have bi := belO_in V hn (nm := [111, 112, 116, 105, 111, 110])
  obtain ⟨F, hF⟩ : ∃ F, fA d o = F := ⟨_, rfl⟩
  rw [hF] at cB cM gS gD
  unfold JJ
  generalize belO d [111, 112, 116, 105, 111, 110] n = L at *
  refine Q1 Tryz.func85 (by kernel_rfl) hc85 (by rw [Tryz.ntmps85]; simp) (by rw [Tryz.ntmps85]; decide) ?_
  simp -dsimp -implicitDefEqProofs (disch := omega) only [VCA, Nat.reduceEqDiff, ↓reduceIte, reduceCtorEq, ne_eq, c85, hF]
  repeat' (first | ((with_reducible refine brC (fun _ => ?_) fun _ => ?_) <;> try (exfalso; omega)) | (with_reducible apply pcallE.of; · exact cB) | (with_reducible refine And.intro ?_ ?_; · omega) | simp -dsimp -implicitDefEqProofs (disch := omega) only [VCA, ↓reduceIte])
  refine LoopVC.intro (fun m e h' => ∃ k : Nat, k <= L.length /\ m = L.length - k /\ e 0 = F /\ e 1 = Q4 n /\ e 5 = sl Z3 L /\ e 13 = sl Z3 L /\ e 14 = Q4 L.length /\ e 15 = Q4 k /\ Acc h 3 1 (((L.take k).filter fun k => X2 d k [115, 101, 108, 101, 99, 116, 101, 100]).map Z3) (e 4) h' /\ Sim.Sub h h') L.length
    (by exact ⟨0, by omega, by omega, rfl, rfl, rfl, rfl, rfl, rfl, Acc.nil, Sub.refl _⟩) ?_
  rintro m e h' ⟨k, hk, rfl, e0, e1, e5, e13, e14, e15, A, S⟩
  have fl : ((L.take k).filter fun k => X2 d k [115, 101, 108, 101, 99, 116, 101, 100]).length <= 200 := by
    have := List.length_filter_le (fun k => X2 d k [115, 101, 108, 101, 99, 116, 101, 100]) (L.take k)
    rw [List.length_take] at this; omega
  by_cases hlt : k < L.length
  · have d1 : decide ((k : Int) < (L.length : Int)) = true := decide_eq_true (by omega)
    have hx := bi _ (Y2 hlt)
    have tk : (L.take (k + 1)).filter (fun k => X2 d k [115, 101, 108, 101, 99, 116, 101, 100]) = (L.take k).filter (fun k => X2 d k [115, 101, 108, 101, 99, 116, 101, 100]) ++ if X2 d (nth L k) [115, 101, 108, 101, 99, 116, 101, 100] = true then [nth L k] else [] := by
      rw [X4 hlt, List.filter_append, List.filter_cons, List.filter_nil]
    obtain ⟨x, hxx⟩ : ∃ x, nth L k = x := ⟨_, rfl⟩
    rw [hxx] at hx tk
    have g := gS x hx
    cases hz : X2 d x [115, 101, 108, 101, 99, 116, 101, 100]
    · rw [hz] at g
      rw [hz, if_neg (by simp), List.append_nil] at tk
      repeat' (first | ((with_reducible refine brC (fun _ => ?_) fun _ => ?_) <;> try (exfalso; omega)) | (with_reducible apply pcallE.of; · exact g) | (with_reducible refine And.intro ?_ ?_; · omega) | simp -dsimp -implicitDefEqProofs (disch := omega) only [VCA, Nat.reduceEqDiff, ↓reduceIte, reduceCtorEq, Z3, e0, e1, e5, e13, e14, e15, d1, hxx])
      all_goals first | exact ⟨_, by omega, k + 1, by omega, rfl, by omega, by rw [tk]; exact A, S⟩ | trace_state
    · rw [hz] at g
      rw [hz, if_pos rfl] at tk
      repeat' (first | ((with_reducible refine brC (fun _ => ?_) fun _ => ?_) <;> try (exfalso; omega)) | (with_reducible apply pcallE.of; · exact g) | (with_reducible refine And.intro ?_ ?_; · omega) | simp -dsimp -implicitDefEqProofs (disch := omega) only [VCA, Nat.reduceEqDiff, ↓reduceIte, reduceCtorEq, Z2, forall_eq, exists_eq_left, Z3, e0, e13, e14, e15, d1, hxx])
      refine A.app S (by simp only [List.length_map, List.length_cons, List.length_nil]; omega) (by simp only [List.length_map, List.length_cons, List.length_nil]; omega) fun a' h'' A' S' => ?_
      simp -dsimp -implicitDefEqProofs (disch := omega) only [VCA, Nat.reduceEqDiff, ↓reduceIte, reduceCtorEq, e0, e1, e5, e13, e14, e15]
      refine ⟨_, by omega, k + 1, by omega, rfl, by omega, ?_, S'⟩
      rw [tk]
      simpa [Z3] using A'
  · obtain rfl : k = L.length := by omega
    have d1 : decide ((L.length : Int) < (L.length : Int)) = false := decide_eq_false (by omega)
    rw [List.take_length] at A fl
    obtain ⟨W, hW⟩ : ∃ W, (L.filter fun k => X2 d k [115, 101, 108, 101, 99, 116, 101, 100]) = W := ⟨_, rfl⟩
    rw [hW] at A fl ⊢
    have aL := A.len
    simp only [List.length_map] at aL
    have hv : Vw (newH h h') (e 4) (sl Z3 W) := (OwnS.of_acc A).1.vwN fun r hr => (OwnS.of_acc A).2.1 r hr
    by_cases hw : W = []
    · have dw : decide ((0 : Int) < (W.length : Int)) = false := decide_eq_false (by rw [hw]; simp)
      cases hm : X2 d n [109, 117, 108, 116, 105, 112, 108, 101]
      · rw [hm] at cM
        rw [if_neg (by simp [hw])]
        repeat' (first | ((with_reducible refine brC (fun _ => ?_) fun _ => ?_) <;> try (exfalso; omega)) | (with_reducible apply pcallE.of; · exact cM) | (with_reducible refine And.intro ?_ ?_; · omega) | simp -dsimp -implicitDefEqProofs (disch := omega) only [↓Q0 30, VCA, Nat.reduceEqDiff, ↓reduceIte, reduceCtorEq, e0, e1, e5, e14, e15, d1, aL.1, aL.2, dw])
        refine LoopVC.intro (fun m e h2 => ∃ k : Nat, k <= L.length /\ m = L.length - k /\ e 0 = F /\ e 36 = sl Z3 L /\ e 37 = Q4 L.length /\ e 38 = Q4 k /\ h2 = h' /\ (L.take k).filter (fun k => !X2 d k [100, 105, 115, 97, 98, 108, 101, 100]) = []) L.length
          (by exact ⟨0, by omega, by omega, e0, rfl, rfl, rfl, rfl, rfl⟩) ?_
        rintro m e h2 ⟨k, hk, rfl, e0, e36, e37, e38, rfl, hf⟩
        by_cases hlt : k < L.length
        · have d1 : decide ((k : Int) < (L.length : Int)) = true := decide_eq_true (by omega)
          have hx := bi _ (Y2 hlt)
          have tk : (L.take (k + 1)).filter (fun k => !X2 d k [100, 105, 115, 97, 98, 108, 101, 100]) = if X2 d (nth L k) [100, 105, 115, 97, 98, 108, 101, 100] = true then [] else [nth L k] := by
            rw [X4 hlt, List.filter_append, hf, List.filter_cons, List.filter_nil]
            cases X2 d (nth L k) [100, 105, 115, 97, 98, 108, 101, 100] <;> rfl
          obtain ⟨x, hxx⟩ : ∃ x, nth L k = x := ⟨_, rfl⟩
          rw [hxx] at hx tk
          have g := gD x hx
          cases hz : X2 d x [100, 105, 115, 97, 98, 108, 101, 100]
          · rw [hz] at g tk
            have hr : (L.filter fun k => !X2 d k [100, 105, 115, 97, 98, 108, 101, 100]).take 1 = [x] := by
              rw [if_neg (by simp)] at tk
              rw [<- List.take_append_drop (k + 1) L, List.filter_append, tk]; rfl
            rw [hr]
            repeat' (first | ((with_reducible refine brC (fun _ => ?_) fun _ => ?_) <;> try (exfalso; omega)) | (with_reducible apply pcallE.of; · exact g) | (with_reducible refine And.intro ?_ ?_; · omega) | simp -dsimp -implicitDefEqProofs (disch := omega) only [VCA, Nat.reduceEqDiff, ↓reduceIte, reduceCtorEq, Z2, Z3, e0, e36, e37, e38, d1, hxx])
            all_goals first | exact ⟨_, Sub.refl _, S, .one _ _ (.refl _)⟩ | exact ⟨S, .one _ _ (.refl _)⟩ | trace_state
          · rw [hz] at g tk
            rw [if_pos rfl] at tk
            repeat' (first | ((with_reducible refine brC (fun _ => ?_) fun _ => ?_) <;> try (exfalso; omega)) | (with_reducible apply pcallE.of; · exact g) | (with_reducible refine And.intro ?_ ?_; · omega) | simp -dsimp -implicitDefEqProofs (disch := omega) only [VCA, Nat.reduceEqDiff, ↓reduceIte, reduceCtorEq, Z3, e0, e36, e37, e38, d1, hxx])
            all_goals first | exact ⟨_, by omega, k + 1, by omega, rfl, by omega, tk⟩ | trace_state
        · obtain rfl : k = L.length := by omega
          have d1 : decide ((L.length : Int) < (L.length : Int)) = false := decide_eq_false (by omega)
          rw [List.take_length] at hf
          rw [hf]
          repeat' (first | ((with_reducible refine brC (fun _ => ?_) fun _ => ?_) <;> try (exfalso; omega)) | (with_reducible refine And.intro ?_ ?_; · omega) | simp -dsimp -implicitDefEqProofs (disch := omega) only [VCA, ↓reduceIte, e37, e38, d1])
          all_goals first | exact ⟨_, Sub.refl _, S, .one _ _ .emp⟩ | exact ⟨S, .one _ _ .emp⟩ | trace_state
      · rw [hm] at cM
        rw [if_pos (.inr rfl)]
        repeat' (first | ((with_reducible refine brC (fun _ => ?_) fun _ => ?_) <;> try (exfalso; omega)) | (with_reducible apply pcallE.of; · exact cM) | (with_reducible refine And.intro ?_ ?_; · omega) | simp -dsimp -implicitDefEqProofs (disch := omega) only [↓Q0 30, VCA, Nat.reduceEqDiff, ↓reduceIte, reduceCtorEq, e0, e1, e14, e15, d1, aL.1, aL.2, dw])
        all_goals first | exact ⟨_, Sub.refl _, S, .one _ _ hv⟩ | exact ⟨S, .one _ _ hv⟩ | trace_state
    · have dw : decide ((0 : Int) < (W.length : Int)) = true := decide_eq_true (by have := List.length_pos_iff.2 hw; omega)
      rw [if_pos (.inl hw)]
      repeat' (first | ((with_reducible refine brC (fun _ => ?_) fun _ => ?_) <;> try (exfalso; omega)) | (with_reducible refine And.intro ?_ ?_; · omega) | simp -dsimp -implicitDefEqProofs (disch := omega) only [↓Q0 30, VCA, Nat.reduceEqDiff, ↓reduceIte, e14, e15, d1, aL.1, aL.2, dw])
      all_goals first | exact ⟨_, Sub.refl _, S, .one _ _ hv⟩ | exact ⟨S, .one _ _ hv⟩ | trace_state
def c51 : SFun := ⟨.seq (.reg [o 4 (.mv (.c (.str [])))]) (.seq (.seq (.reg [o 7 (.mv (.t 0)), o 8 (.mv (.t 1)), o 9 (.pcall 37 [.t 7, .t 8]), o 5 (.mv (.t 9))]) (.block 0 (.seq (.reg [o 11 (.mv (.t 0)), o 12 (.fldA 0 (.t 11)), o 13 (.fldA 0 (.t 12)), o 14 (.fldA 0 (.t 13)), o 15 (.ld 1 false (.t 14)), o 16 (.mv (.t 1)), o 17 (.idxA 6 (.t 15) (.t 16)), o 18 (.fldA 1 (.t 17)), o 19 (.ld 1 false (.t 18)), o 20 (.bin .eql (.t 19) (.c (.str [116, 101, 120, 116, 97, 114, 101, 97]))), o 10 (.mv (.t 20))]) (.cond (.t 10) (.seq (.reg [o 21 (.mv (.t 0)), o 22 (.mv (.t 1)), o 23 (.pcall 92 [.t 21, .t 22]), o 4 (.mv (.t 23))]) .ret) (.seq (.reg [o 25 (.mv (.t 0)), o 26 (.fldA 0 (.t 25)), o 27 (.fldA 0 (.t 26)), o 28 (.fldA 0 (.t 27)), o 29 (.ld 1 false (.t 28)), o 30 (.mv (.t 1)), o 31 (.idxA 6 (.t 29) (.t 30)), o 32 (.fldA 1 (.t 31)), o 33 (.ld 1 false (.t 32)), o 34 (.bin .eql (.t 33) (.c (.str [115, 101, 108, 101, 99, 116]))), o 24 (.mv (.t 34))]) (.cond (.t 24) (.seq (.seq (.reg [o 35 (.mv (.t 0)), o 36 (.mv (.t 1)), o 37 (.pcall 85 [.t 35, .t 36]), o 6 (.mv (.t 37))]) (.seq (.reg [o 38 (.mv (.t 6)), o 39 (.len (.t 38)), o 40 (.bin .gtr (.t 39) (.c (.int .i64 0)))]) (.cond (.t 40) (.seq (.reg [o 41 (.mv (.t 0)), o 42 (.mv (.t 6)), o 43 (.mv (.t 6)), o 44 (.len (.t 43)), o 45 (.bin .sub (.t 44) (.c (.int .i64 1))), o 46 (.idxA 1 (.t 42) (.t 45)), o 47 (.ld 1 false (.t 46)), o 48 (.pcall 86 [.t 41, .t 47]), o 4 (.mv (.t 48))]) .ret) .skip))) (.seq (.reg [o 4 (.mv (.c (.str [])))]) .ret)) (.seq (.reg [o 50 (.mv (.t 5)), o 51 (.pcall 82 [.t 50]), o 52 (.mv (.t 51)), ⟨some 53, .mv (.t 0), some (52, true)⟩, ⟨some 54, .mv (.t 1), some (52, true)⟩, ⟨some 55, .pcall 78 [.t 53, .t 54, .c (.str [118, 97, 108, 117, 101])], some (52, true)⟩, ⟨some 56, .un .not (.t 55), some (52, true)⟩, o 57 (.pick (.t 52) (.t 56) (.c (.bool false))), o 49 (.mv (.t 57))]) (.cond (.t 49) (.seq (.reg [o 4 (.mv (.c (.str [111, 110])))]) .ret) .skip)))))))) (.seq (.reg [o 58 (.mv (.t 0)), o 59 (.mv (.t 1)), o 60 (.pcall 38 [.t 58, .t 59, .c (.str [118, 97, 108, 117, 101])]), o 4 (.mv (.t 60))]) .ret)), [.tmp 4]⟩
theorem hc51 : J1 Tryz.prog {pure := [37, 92, 85, 86, 82, 78, 38]} Tryz.f51 = some c51 := by kernel_rfl
theorem hn51 : (Tryz.f51.name == "runtime.NumGoroutine") = false := by kernel_rfl
theorem value_ok (hG : X1 G) (hT : QW G) (d : HDoc) (V : DV d) (sm : DocSm d) (o : List Int) (n : Int) (hn : inD d n) : PCalls (Pg G) 51 [fA d o, Q4 n] (.str (X7 d n)) := fun h => by
  have hl := V.len
  have n0 := hn.1
  have n1 := hn.2
  have e0 : nth d.nodes n.toNat = nd d n := rfl
  have cK := kind_ok (G := G) hG hT d V sm o n hn
  have cX := ftext_ok (G := G) d V sm o n hn
  have cC := chosen_ok (G := G) d V sm o n hn
  have cH := W9 (G := G) d sm o n hn [118, 97, 108, 117, 101]
  have cA := T8 (G := G) d sm o n hn [118, 97, 108, 117, 101]
  have cT := ticked_ok (G := G) (Y1 d n)
  have ci := chosM_in V hn
  have cl := chosM_len V hn
  have gO := fun x hx => option_ok (G := G) d V sm o x hx
  have fE : fA d o = .pin [sl Q5 d.nodes, .bool d.quirks, sl Z3 o] := rfl
  rw [fE] at cK cX cC cH cA gO
  unfold X7
  generalize JJ d n = L at *
  generalize Y1 d n = kd at *
  by_cases h1 : (nd d n).name = [116, 101, 120, 116, 97, 114, 101, 97]
  · have b1 : ((nd d n).name == [116, 101, 120, 116, 97, 114, 101, 97]) = true := by simpa using h1
    rw [if_pos h1]
    refine Q1 Tryz.func51 hn51 hc51 (by rw [Tryz.ntmps51]; simp) (by rw [Tryz.ntmps51]; decide) ?_
    simp -dsimp -implicitDefEqProofs (disch := omega) only [VCA, Nat.reduceEqDiff, ↓reduceIte, reduceCtorEq, c51, fA]
    repeat' (first | ((with_reducible refine brC (fun _ => ?_) fun _ => ?_) <;> try (exfalso; omega)) | (with_reducible apply pcallE.of; · exact cK) | (with_reducible apply pcallE.of; · exact cX) | (with_reducible refine And.intro ?_ ?_; · omega) | simp -dsimp -implicitDefEqProofs (disch := omega) only [VCA, Nat.reduceEqDiff, Nat.reduceAdd, Nat.reduceLeDiff, ↓reduceIte, reduceCtorEq, exists_eq_right, Q5, e0, b1])
    all_goals first | exact Sub.refl _ | exact ⟨by omega, by omega, Sub.refl _⟩ | trace_state
  · have b1 : ((nd d n).name == [116, 101, 120, 116, 97, 114, 101, 97]) = false := by simpa using h1
    rw [if_neg h1]
    by_cases h2 : (nd d n).name = [115, 101, 108, 101, 99, 116]
    · have b2 : ((nd d n).name == [115, 101, 108, 101, 99, 116]) = true := by simpa using h2
      rw [if_pos h2]
      by_cases h3 : L = []
      · have d3 : decide ((0 : Int) < (L.length : Int)) = false := decide_eq_false (by rw [h3]; simp)
        rw [if_pos h3]
        refine Q1 Tryz.func51 hn51 hc51 (by rw [Tryz.ntmps51]; simp) (by rw [Tryz.ntmps51]; decide) ?_
        simp -dsimp -implicitDefEqProofs (disch := omega) only [VCA, Nat.reduceEqDiff, ↓reduceIte, reduceCtorEq, c51, fA]
        repeat' (first | ((with_reducible refine brC (fun _ => ?_) fun _ => ?_) <;> try (exfalso; omega)) | (with_reducible apply pcallE.of; · exact cK) | (with_reducible apply pcallE.of; · exact cC) | (with_reducible refine And.intro ?_ ?_; · omega) | simp -dsimp -implicitDefEqProofs (disch := omega) only [VCA, Nat.reduceEqDiff, Nat.reduceAdd, Nat.reduceLeDiff, ↓reduceIte, reduceCtorEq, exists_eq_right, Q5, e0, b1, b2, d3])
        all_goals first | exact Sub.refl _ | exact ⟨by omega, by omega, Sub.refl _⟩ | trace_state
      · have hp := List.length_pos_iff.2 h3
        have d3 : decide ((0 : Int) < (L.length : Int)) = true := decide_eq_true (by omega)
        have hlt : L.length - 1 < L.length := by omega
        have eL : ((L.length : Int) - 1).toNat = L.length - 1 := by omega
        have g := gO _ (ci _ (Y2 hlt))
        rw [if_neg h3]
        obtain ⟨x, hxx⟩ : ∃ x, nth L (L.length - 1) = x := ⟨_, rfl⟩
        rw [hxx] at g ⊢
        refine Q1 Tryz.func51 hn51 hc51 (by rw [Tryz.ntmps51]; simp) (by rw [Tryz.ntmps51]; decide) ?_
        simp -dsimp -implicitDefEqProofs (disch := omega) only [VCA, Nat.reduceEqDiff, ↓reduceIte, reduceCtorEq, c51, fA]
        repeat' (first | ((with_reducible refine brC (fun _ => ?_) fun _ => ?_) <;> try (exfalso; omega)) | (with_reducible apply pcallE.of; · exact cK) | (with_reducible apply pcallE.of; · exact cC) | (with_reducible apply pcallE.of; · exact g) | (with_reducible refine And.intro ?_ ?_; · omega) | simp -dsimp -implicitDefEqProofs (disch := omega) only [VCA, Nat.reduceEqDiff, Nat.reduceAdd, Nat.reduceLeDiff, ↓reduceIte, reduceCtorEq, exists_eq_right, Z3, Q5, e0, b1, b2, d3, eL, hxx])
        all_goals first | exact Sub.refl _ | exact ⟨by omega, by omega, Sub.refl _⟩ | trace_state
    · have b2 : ((nd d n).name == [115, 101, 108, 101, 99, 116]) = false := by simpa using h2
      rw [if_neg h2]
      cases h3 : TV kd
      · rw [h3] at cT
        rw [if_neg (by simp)]
        refine Q1 Tryz.func51 hn51 hc51 (by rw [Tryz.ntmps51]; simp) (by rw [Tryz.ntmps51]; decide) ?_
        simp -dsimp -implicitDefEqProofs (disch := omega) only [VCA, Nat.reduceEqDiff, ↓reduceIte, reduceCtorEq, c51, fA]
        repeat' (first | ((with_reducible refine brC (fun _ => ?_) fun _ => ?_) <;> try (exfalso; omega)) | (with_reducible apply pcallE.of; · exact cK) | (with_reducible apply pcallE.of; · exact cT) | (with_reducible apply pcallE.of; · exact cA) | (with_reducible refine And.intro ?_ ?_; · omega) | simp -dsimp -implicitDefEqProofs (disch := omega) only [↓Q0 52, VCA, Nat.reduceEqDiff, Nat.reduceAdd, Nat.reduceLeDiff, ↓reduceIte, reduceCtorEq, exists_eq_right, Q5, e0, b1, b2])
        all_goals first | exact Sub.refl _ | exact ⟨by omega, by omega, Sub.refl _⟩ | trace_state
      · rw [h3] at cT
        cases h4 : X2 d n [118, 97, 108, 117, 101]
        · rw [h4] at cH
          rw [if_pos ⟨rfl, rfl⟩]
          refine Q1 Tryz.func51 hn51 hc51 (by rw [Tryz.ntmps51]; simp) (by rw [Tryz.ntmps51]; decide) ?_
          simp -dsimp -implicitDefEqProofs (disch := omega) only [VCA, Nat.reduceEqDiff, ↓reduceIte, reduceCtorEq, c51, fA]
          repeat' (first | ((with_reducible refine brC (fun _ => ?_) fun _ => ?_) <;> try (exfalso; omega)) | (with_reducible apply pcallE.of; · exact cK) | (with_reducible apply pcallE.of; · exact cT) | (with_reducible apply pcallE.of; · exact cH) | (with_reducible refine And.intro ?_ ?_; · omega) | simp -dsimp -implicitDefEqProofs (disch := omega) only [↓Q0 52, VCA, Nat.reduceEqDiff, Nat.reduceAdd, Nat.reduceLeDiff, ↓reduceIte, reduceCtorEq, exists_eq_right, Q5, e0, b1, b2])
          all_goals first | exact Sub.refl _ | exact ⟨by omega, by omega, Sub.refl _⟩ | trace_state
        · rw [h4] at cH
          rw [if_neg (by simp)]
          refine Q1 Tryz.func51 hn51 hc51 (by rw [Tryz.ntmps51]; simp) (by rw [Tryz.ntmps51]; decide) ?_
          simp -dsimp -implicitDefEqProofs (disch := omega) only [VCA, Nat.reduceEqDiff, ↓reduceIte, reduceCtorEq, c51, fA]
          repeat' (first | ((with_reducible refine brC (fun _ => ?_) fun _ => ?_) <;> try (exfalso; omega)) | (with_reducible apply pcallE.of; · exact cK) | (with_reducible apply pcallE.of; · exact cT) | (with_reducible apply pcallE.of; · exact cH) | (with_reducible apply pcallE.of; · exact cA) | (with_reducible refine And.intro ?_ ?_; · omega) | simp -dsimp -implicitDefEqProofs (disch := omega) only [↓Q0 52, VCA, Nat.reduceEqDiff, Nat.reduceAdd, Nat.reduceLeDiff, ↓reduceIte, reduceCtorEq, exists_eq_right, Q5, e0, b1, b2])
          all_goals first | exact Sub.refl _ | exact ⟨by omega, by omega, Sub.refl _⟩ | trace_state
def c81 : SFun := ⟨.seq (.reg [o 3 (.mv (.c (.bool false)))]) (.seq (.reg [o 4 (.ld 1 false (.t 1)), o 5 (.pcall 80 [.t 4, .c (.str [102, 105, 101, 108, 100, 115, 101, 116])]), o 6 (.mv (.t 0)), o 7 (.call (.t 5) [.t 6]), o 8 (.mv (.t 7)), ⟨some 9, .ld 1 false (.t 1), some (8, true)⟩, ⟨some 10, .mv (.t 0), some (8, true)⟩, ⟨some 11, .pcall 78 [.t 9, .t 10, .c (.str [100, 105, 115, 97, 98, 108, 101, 100])], some (8, true)⟩, o 12 (.pick (.t 8) (.t 11) (.c (.bool false))), o 3 (.mv (.t 12))]) .ret), [.tmp 3]⟩
theorem hc81 : J1 Tryz.prog {pure := [80, 78]} Tryz.f81 = some c81 := by kernel_rfl
theorem told1_ok (d : HDoc) (sm : DocSm d) (o : List Int) (n : Int) (hn : inD d n) : PCalls (Pg G) 81 [Q4 n, .pin [fA d o]] (.bool (offM d n)) := fun h => by
  have c3 := fnamed_ok (G := G) d o [102, 105, 101, 108, 100, 115, 101, 116]
  have g3 := fnamed1_ok (G := G) d sm o n hn [102, 105, 101, 108, 100, 115, 101, 116]
  have c1 := W9 (G := G) d sm o n hn [100, 105, 115, 97, 98, 108, 101, 100]
  obtain ⟨F, hF⟩ : ∃ F, fA d o = F := ⟨_, rfl⟩
  rw [hF] at c1 c3 g3
  unfold offM
  generalize isN d [102, 105, 101, 108, 100, 115, 101, 116] n = b at *
  generalize X2 d n [100, 105, 115, 97, 98, 108, 101, 100] = c at *
  cases b <;> cases c
  all_goals
    refine Q1 Tryz.func81 (by kernel_rfl) hc81 (by rw [Tryz.ntmps81]; simp) (by rw [Tryz.ntmps81]; decide) ?_
    simp -dsimp -implicitDefEqProofs (disch := omega) only [VCA, Nat.reduceEqDiff, ↓reduceIte, c81, hF]
    repeat' (first | ((with_reducible refine brC (fun _ => ?_) fun _ => ?_) <;> try (exfalso; omega)) | (with_reducible apply pcallE.of; · exact c3) | (with_reducible refine PCalls.of g3 ?_) | (with_reducible apply pcallE.of; · exact c1) | (with_reducible refine And.intro ?_ ?_; · omega) | simp -dsimp -implicitDefEqProofs (disch := omega) only [↓Q0 8, VCA, Nat.reduceEqDiff, ↓reduceIte, reduceCtorEq, exists_eq_right_right, exists_eq_right])
  all_goals first | exact Sub.refl _ | exact ⟨Sub.refl _, rfl⟩ | trace_state
def k36_1 : List UInt8 := [32, 115, 117, 98, 109, 105, 116, 32, 114, 101, 115, 101, 116, 32, 98, 117, 116, 116, 111, 110, 32, 105, 109, 97, 103, 101, 32, 102, 105, 108, 101, 32]
def c36 : SFun := ⟨.seq (.reg [o 2 (.boxF 60 1 (.t 0)), o 4 (.mv (.c (.bool false)))]) (.seq (.reg [o 7 (.ld 1 false (.t 2)), o 8 (.mv (.t 1)), o 9 (.pcall 37 [.t 7, .t 8]), o 5 (.mv (.t 9))]) (.seq (.reg [o 10 (.mkf 81 [] [.t 2]), o 6 (.mv (.t 10))]) (.seq (.block 0 (.seq (.seq (.reg [o 12 (.ld 1 false (.t 2)), o 13 (.mv (.t 1)), o 14 (.pcall 38 [.t 12, .t 13, .c (.str [110, 97, 109, 101])]), o 15 (.bin .eql (.t 14) (.c (.str []))), o 11 (.mv (.t 15))]) (.cond (.t 11) .skip (.seq (.reg [o 16 (.ld 1 false (.t 2)), o 17 (.mv (.t 1)), o 18 (.pcall 78 [.t 16, .t 17, .c (.str [100, 105, 115, 97, 98, 108, 101, 100])]), o 11 (.mv (.t 18))]) (.cond (.t 11) .skip (.reg [o 19 (.ld 1 false (.t 2)), o 20 (.mv (.t 1)), o 21 (.mv (.t 6)), o 22 (.pcall 79 [.t 19, .t 20, .t 21]), o 23 (.bin .geq (.t 22) (.c (.int .i64 0))), o 11 (.mv (.t 23))]))))) (.cond (.t 11) (.seq (.reg [o 4 (.mv (.c (.bool false)))]) .ret) (.seq (.reg [o 25 (.mv (.t 5)), o 26 (.pcall 34 [.t 25, .c (.str k36_1)]), o 24 (.mv (.t 26))]) (.cond (.t 24) (.seq (.reg [o 4 (.mv (.c (.bool false)))]) .ret) .skip))))) (.seq (.reg [o 27 (.mv (.t 5)), o 28 (.pcall 82 [.t 27]), o 29 (.un .not (.t 28)), o 30 (.mv (.t 29)), ⟨some 31, .ld 1 false (.t 2), some (30, false)⟩, ⟨some 32, .mv (.t 1), some (30, false)⟩, ⟨some 33, .pcall 78 [.t 31, .t 32, .c (.str [99, 104, 101, 99, 107, 101, 100])], some (30, false)⟩, o 34 (.pick (.t 30) (.c (.bool true)) (.t 33)), o 4 (.mv (.t 34))]) .ret)))), [.tmp 4]⟩
theorem hc36 : J1 Tryz.prog {pure := [37, 38, 78, 79, 34, 82]} Tryz.f36 = some c36 := by kernel_rfl
theorem hn36 : (Tryz.f36.name == "runtime.NumGoroutine") = false := by kernel_rfl
theorem told_ok (hG : X1 G) (hT : QW G) (d : HDoc) (V : DV d) (sm : DocSm d) (o : List Int) (n : Int) (hn : inD d n) : PCalls (Pg G) 36 [fA d o, Q4 n] (.bool (toldM d n)) := fun h => by
  have cK := kind_ok (G := G) hG hT d V sm o n hn
  have cN := T8 (G := G) d sm o n hn [110, 97, 109, 101]
  have cD := W9 (G := G) d sm o n hn [100, 105, 115, 97, 98, 108, 101, 100]
  have cC := W9 (G := G) d sm o n hn [99, 104, 101, 99, 107, 101, 100]
  have cB := fabove_ok (G := G) d V sm o n hn 81 [] [.pin [fA d o]] (offM d) fun k hk => told1_ok d sm o k hk
  have cT := ticked_ok (G := G) (Y1 d n)
  have kl : (Y1 d n).length <= 4000 := by
    unfold Y1
    split
    · unfold typM
      split
      · have := T6 V hn [116, 121, 112, 101]; rw [List.length_map]; omega
      · decide
    · have := name_len V hn; omega
  have ek : k36_1 = 32 :: (subS ++ [32]) := by decide +kernel
  have cO : PCalls (Pg G) 34 [.str (Y1 d n), .str (32 :: (subS ++ [32]))] (.bool (inW (Y1 d n) subS)) := one_in hG (Y1 d n) subS (by decide +kernel) (by omega) (by decide +kernel)
  have vF : isV (fA d o) = true := rfl
  have wF : cellsOf (fA d o) = [fA d o] := rfl
  obtain ⟨F, hF⟩ : ∃ F, fA d o = F := ⟨_, rfl⟩
  rw [hF] at cK cN cD cC cB vF wF
  unfold toldM
  generalize Y1 d n = kd at *
  generalize inW kd subS = b1 at *
  generalize TV kd = b2 at *
  generalize X2 d n [99, 104, 101, 99, 107, 101, 100] = b3 at *
  generalize X2 d n [100, 105, 115, 97, 98, 108, 101, 100] = b4 at *
  generalize X5 d n [110, 97, 109, 101] = nm at *
  generalize abM d (offM d) n = ab at *
  obtain ⟨b5, h5⟩ : ∃ b, (nm == []) = b := ⟨_, rfl⟩
  obtain ⟨b6, h6⟩ : ∃ b, decide (0 <= ab) = b := ⟨_, rfl⟩
  rw [h5, h6]
  cases b5
  · cases b4
    · cases b6
      · cases b1
        · cases b2
          · refine Q1 Tryz.func36 hn36 hc36 (by rw [Tryz.ntmps36]; simp) (by rw [Tryz.ntmps36]; decide) ?_
            simp -dsimp -implicitDefEqProofs (disch := omega) only [VCA, Nat.reduceEqDiff, ↓reduceIte, c36, hF, vF, wF]
            repeat' (first | ((with_reducible refine brC (fun _ => ?_) fun _ => ?_) <;> try (exfalso; omega)) | (with_reducible apply pcallE.of; · exact cK) | (with_reducible apply pcallE.of; · exact cN) | (with_reducible apply pcallE.of; · exact cD) | (with_reducible apply pcallE.of; · exact cB) | (with_reducible apply pcallE.of; · exact cO) | (with_reducible apply pcallE.of; · exact cT) | (with_reducible apply pcallE.of; · exact cC) | (with_reducible refine And.intro ?_ ?_; · omega) | simp -dsimp -implicitDefEqProofs (disch := omega) only [↓Q0 30, VCA, Nat.reduceEqDiff, ↓reduceIte, exists_eq_right, h5, h6, ek])
            all_goals first | exact Sub.refl _ | exact ⟨Sub.refl _, rfl⟩ | trace_state
          · cases b3
            all_goals
              refine Q1 Tryz.func36 hn36 hc36 (by rw [Tryz.ntmps36]; simp) (by rw [Tryz.ntmps36]; decide) ?_
              simp -dsimp -implicitDefEqProofs (disch := omega) only [VCA, Nat.reduceEqDiff, ↓reduceIte, c36, hF, vF, wF]
              repeat' (first | ((with_reducible refine brC (fun _ => ?_) fun _ => ?_) <;> try (exfalso; omega)) | (with_reducible apply pcallE.of; · exact cK) | (with_reducible apply pcallE.of; · exact cN) | (with_reducible apply pcallE.of; · exact cD) | (with_reducible apply pcallE.of; · exact cB) | (with_reducible apply pcallE.of; · exact cO) | (with_reducible apply pcallE.of; · exact cT) | (with_reducible apply pcallE.of; · exact cC) | (with_reducible refine And.intro ?_ ?_; · omega) | simp -dsimp -implicitDefEqProofs (disch := omega) only [↓Q0 30, VCA, Nat.reduceEqDiff, ↓reduceIte, exists_eq_right_right, exists_eq_right, h5, h6, ek])
            all_goals first | exact Sub.refl _ | exact ⟨Sub.refl _, rfl⟩ | trace_state
        · refine Q1 Tryz.func36 hn36 hc36 (by rw [Tryz.ntmps36]; simp) (by rw [Tryz.ntmps36]; decide) ?_
          simp -dsimp -implicitDefEqProofs (disch := omega) only [VCA, Nat.reduceEqDiff, ↓reduceIte, c36, hF, vF, wF]
          repeat' (first | ((with_reducible refine brC (fun _ => ?_) fun _ => ?_) <;> try (exfalso; omega)) | (with_reducible apply pcallE.of; · exact cK) | (with_reducible apply pcallE.of; · exact cN) | (with_reducible apply pcallE.of; · exact cD) | (with_reducible apply pcallE.of; · exact cB) | (with_reducible apply pcallE.of; · exact cO) | (with_reducible refine And.intro ?_ ?_; · omega) | simp -dsimp -implicitDefEqProofs (disch := omega) only [VCA, Nat.reduceEqDiff, ↓reduceIte, exists_eq_right_right, h5, h6, ek])
          all_goals first | exact Sub.refl _ | exact ⟨Sub.refl _, rfl⟩ | trace_state
      · refine Q1 Tryz.func36 hn36 hc36 (by rw [Tryz.ntmps36]; simp) (by rw [Tryz.ntmps36]; decide) ?_
        simp -dsimp -implicitDefEqProofs (disch := omega) only [VCA, Nat.reduceEqDiff, ↓reduceIte, c36, hF, vF, wF]
        repeat' (first | ((with_reducible refine brC (fun _ => ?_) fun _ => ?_) <;> try (exfalso; omega)) | (with_reducible apply pcallE.of; · exact cK) | (with_reducible apply pcallE.of; · exact cN) | (with_reducible apply pcallE.of; · exact cD) | (with_reducible apply pcallE.of; · exact cB) | (with_reducible refine And.intro ?_ ?_; · omega) | simp -dsimp -implicitDefEqProofs (disch := omega) only [VCA, Nat.reduceEqDiff, ↓reduceIte, exists_eq_right_right, h5, h6, ek])
        all_goals first | exact Sub.refl _ | exact ⟨Sub.refl _, rfl⟩ | trace_state
    · refine Q1 Tryz.func36 hn36 hc36 (by rw [Tryz.ntmps36]; simp) (by rw [Tryz.ntmps36]; decide) ?_
      simp -dsimp -implicitDefEqProofs (disch := omega) only [VCA, Nat.reduceEqDiff, ↓reduceIte, c36, hF, vF, wF]
      repeat' (first | ((with_reducible refine brC (fun _ => ?_) fun _ => ?_) <;> try (exfalso; omega)) | (with_reducible apply pcallE.of; · exact cK) | (with_reducible apply pcallE.of; · exact cN) | (with_reducible apply pcallE.of; · exact cD) | (with_reducible refine And.intro ?_ ?_; · omega) | simp -dsimp -implicitDefEqProofs (disch := omega) only [VCA, Nat.reduceEqDiff, ↓reduceIte, exists_eq_right_right, h5])
      all_goals first | exact Sub.refl _ | exact ⟨Sub.refl _, rfl⟩ | trace_state
  · refine Q1 Tryz.func36 hn36 hc36 (by rw [Tryz.ntmps36]; simp) (by rw [Tryz.ntmps36]; decide) ?_
    simp -dsimp -implicitDefEqProofs (disch := omega) only [VCA, Nat.reduceEqDiff, ↓reduceIte, c36, hF, vF, wF]
    repeat' (first | ((with_reducible refine brC (fun _ => ?_) fun _ => ?_) <;> try (exfalso; omega)) | (with_reducible apply pcallE.of; · exact cK) | (with_reducible apply pcallE.of; · exact cN) | (with_reducible refine And.intro ?_ ?_; · omega) | simp -dsimp -implicitDefEqProofs (disch := omega) only [VCA, Nat.reduceEqDiff, ↓reduceIte, exists_eq_right_right, h5])
    all_goals first | exact Sub.refl _ | exact ⟨Sub.refl _, rfl⟩ | trace_state
def c39 : SFun := ⟨.seq (.reg [o 4 (.mv (.c .emp))]) (.seq (.reg [o 10 (.mv (.t 0)), o 11 (.mv (.t 1)), o 12 (.pcall 38 [.t 10, .t 11, .c (.str [110, 97, 109, 101])]), o 5 (.mv (.t 12))]) (.seq (.seq (.reg [o 13 (.mv (.t 0)), o 14 (.fldA 0 (.t 13)), o 15 (.fldA 0 (.t 14)), o 16 (.fldA 0 (.t 15)), o 17 (.ld 1 false (.t 16)), o 18 (.mv (.t 1)), o 19 (.idxA 6 (.t 17) (.t 18)), o 20 (.fldA 1 (.t 19)), o 21 (.ld 1 false (.t 20)), o 22 (.bin .neq (.t 21) (.c (.str [115, 101, 108, 101, 99, 116])))]) (.cond (.t 22) (.seq (.reg [o 23 (.mv (.t 5)), o 24 (.mv (.t 0)), o 25 (.mv (.t 1)), o 26 (.pcall 51 [.t 24, .t 25]), o 27 (.bld [.str [], .str []] [(0, (1, (.t 23))), (1, (1, (.t 26)))]), o 28 (.bldR 25 2 [.t 27]), o 4 (.mv (.t 28))]) .ret) .skip)) (.seq (.reg [o 29 (.mv (.t 0)), o 30 (.mv (.t 1)), o 31 (.pcall 85 [.t 29, .t 30]), o 6 (.mv (.t 31))]) (.seq (.seq (.reg [o 32 (.mv (.t 0)), o 33 (.mv (.t 1)), o 34 (.pcall 78 [.t 32, .t 33, .c (.str [109, 117, 108, 116, 105, 112, 108, 101])]), o 35 (.un .not (.t 34))]) (.cond (.t 35) (.reg [o 36 (.mv (.t 6)), o 37 (.mv (.t 6)), o 38 (.len (.t 37)), o 39 (.bin .sub (.t 38) (.c (.int .i64 1))), o 40 (.max2 (.t 39) (.c (.int .i64 0))), o 41 (.slA 1 (.t 36) (some (.t 40)) none), o 6 (.mv (.t 41))]) .skip)) (.seq (.reg [o 7 (.mv (.c .emp))]) (.seq (.seq (.reg [o 42 (.mv (.t 6)), o 43 (.len (.t 42)), o 44 (.mv (.c (.int .i64 0)))]) (.block 0 (.loop (.seq (.reg [o 45 (.bin .lss (.t 44) (.t 43))]) (.seq (.cond (.t 45) .skip (.exit 0)) (.seq (.block 1 (.seq (.reg [o 46 (.idxA 1 (.t 42) (.t 44)), o 47 (.ld 1 false (.t 46)), o 9 (.mv (.t 47))]) (.reg [o 48 (.mv (.t 7)), o 49 (.mv (.t 5)), o 50 (.mv (.t 0)), o 51 (.mv (.t 9)), o 52 (.pcall 86 [.t 50, .t 51]), o 53 (.bld [.str [], .str []] [(0, (1, (.t 49))), (1, (1, (.t 52)))]), o 54 (.bldF 25 2 [.t 53]), o 55 (.app 25 2 32 (.t 48) (.t 54)), o 7 (.mv (.t 55))]))) (.reg [o 56 (.bin .add (.t 44) (.c (.int .i64 1))), o 44 (.mv (.t 56))]))))))) (.seq (.reg [o 57 (.mv (.t 7)), o 4 (.mv (.t 57))]) .ret))))))), [.tmp 4]⟩
theorem hc39 : J1 Tryz.prog {pure := [38, 51, 85, 78, 86], how := [(28, 2)]} Tryz.f39 = some c39 := by kernel_rfl
theorem hn39 : (Tryz.f39.name == "runtime.NumGoroutine") = false := by kernel_rfl
theorem entries_ok (hG : X1 G) (hT : QW G) (d : HDoc) (V : DV d) (sm : DocSm d) (o : List Int) (n : Int) (hn : inD d n) (h : Q2) : DCalls (Pg G) 39 [fA d o, Q4 n] h fun a h' => Acc h 25 2 ((JU d n).map JK) a h' /\ Sim.Sub h h' := by
  have hl := V.len
  have n0 := hn.1
  have n1 := hn.2
  have e0 : nth d.nodes n.toNat = nd d n := rfl
  have cN := T8 (G := G) d sm o n hn [110, 97, 109, 101]
  have cV := value_ok (G := G) hG hT d V sm o n hn
  have cC := chosen_ok (G := G) d V sm o n hn
  have cM := W9 (G := G) d sm o n hn [109, 117, 108, 116, 105, 112, 108, 101]
  have gO := fun x hx => option_ok (G := G) d V sm o x hx
  have ci := chosM_in V hn
  have cl := chosM_len V hn
  have fE : fA d o = .pin [sl Q5 d.nodes, .bool d.quirks, sl Z3 o] := rfl
  rw [fE] at cN cV cC cM
  unfold JU
  generalize X5 d n [110, 97, 109, 101] = nm at *
  by_cases h1 : (nd d n).name = [115, 101, 108, 101, 99, 116]
  · have b1 : ((nd d n).name != [115, 101, 108, 101, 99, 116]) = false := by simpa using h1
    rw [if_pos h1]
    generalize JJ d n = L0 at *
    obtain ⟨L, hL⟩ : ∃ L, (if X2 d n [109, 117, 108, 116, 105, 112, 108, 101] = true then L0 else L0.drop (L0.length - 1)) = L := ⟨_, rfl⟩
    rw [hL]
    have hLi : ∀ k ∈ L, inD d k := fun k hk => by
      rw [<- hL] at hk
      split at hk
      · exact ci k hk
      · exact ci k (List.mem_of_mem_drop hk)
    have hLl : L.length <= 200 := by
      rw [<- hL]
      split
      · exact cl
      · rw [List.length_drop]; omega
    have mx2 : (max ((L0.length : Int) - 1) 0).toNat = L0.length - 1 := by omega
    have mx3 : decide (0 <= max ((L0.length : Int) - 1) 0) = true := decide_eq_true (by omega)
    have mx4 : max ((L0.length : Int) - 1) 0 <= (L0.length : Int) := by omega
    cases hm : X2 d n [109, 117, 108, 116, 105, 112, 108, 101]
    · rw [hm] at cM hL
      rw [if_neg (by simp)] at hL
      refine Q1 Tryz.func39 hn39 hc39 (by rw [Tryz.ntmps39]; simp) (by rw [Tryz.ntmps39]; decide) ?_
      simp -dsimp -implicitDefEqProofs (disch := omega) only [VCA, Nat.reduceEqDiff, ↓reduceIte, reduceCtorEq, c39, fA]
      repeat' (first | ((with_reducible refine brC (fun _ => ?_) fun _ => ?_) <;> try (exfalso; omega)) | (with_reducible apply pcallE.of; · exact cN) | (with_reducible apply pcallE.of; · exact cC) | (with_reducible apply pcallE.of; · exact cM) | (with_reducible refine And.intro ?_ ?_; · omega) | simp -dsimp -implicitDefEqProofs (disch := omega) only [VCA, Nat.reduceEqDiff, Nat.reduceAdd, Nat.reduceLeDiff, ↓reduceIte, reduceCtorEq, Q5, e0, b1, mx2, hL])
      refine LoopVC.intro (fun m e h' => ∃ k : Nat, k <= L.length /\ m = L.length - k /\ e 0 = .pin [sl Q5 d.nodes, .bool d.quirks, sl Z3 o] /\ e 5 = .str nm /\ e 42 = sl Z3 L /\ e 43 = Q4 L.length /\ e 44 = Q4 k /\ Acc h 25 2 (((L.take k).map fun k => (⟨nm, optV d k⟩ : HEnt)).map JK) (e 7) h' /\ Sim.Sub h h') L.length
        (by exact ⟨0, by omega, by omega, rfl, rfl, rfl, rfl, rfl, Acc.nil, Sub.refl _⟩) ?_
      rintro m e h' ⟨k, hk, rfl, e0', e5, e42, e43, e44, A, S⟩
      by_cases hlt : k < L.length
      · have d1 : decide ((k : Int) < (L.length : Int)) = true := decide_eq_true (by omega)
        have hx := hLi _ (Y2 hlt)
        have tk : (L.take (k + 1)).map (fun k => (⟨nm, optV d k⟩ : HEnt)) = (L.take k).map (fun k => (⟨nm, optV d k⟩ : HEnt)) ++ [⟨nm, optV d (nth L k)⟩] := by
          rw [X4 hlt, List.map_append]; rfl
        obtain ⟨x, hxx⟩ : ∃ x, nth L k = x := ⟨_, rfl⟩
        rw [hxx] at hx tk
        have g := gO x hx
        rw [fE] at g
        repeat' (first | ((with_reducible refine brC (fun _ => ?_) fun _ => ?_) <;> try (exfalso; omega)) | (with_reducible apply pcallE.of; · exact g) | (with_reducible refine And.intro ?_ ?_; · omega) | simp -dsimp -implicitDefEqProofs (disch := omega) only [VCA, Nat.reduceEqDiff, Nat.reduceAdd, Nat.reduceLeDiff, ↓reduceIte, reduceCtorEq, Z2, K7, X0, forall_eq, exists_eq_left, Z3, e0', e5, e42, e43, e44, d1, hxx])
        refine A.app S (by simp only [List.length_map, List.length_cons, List.length_nil, List.length_take]; omega) (by simp only [List.length_map, List.length_cons, List.length_nil, List.length_take]; omega) fun a' h'' A' S' => ?_
        simp -dsimp -implicitDefEqProofs (disch := omega) only [VCA, Nat.reduceEqDiff, ↓reduceIte, reduceCtorEq, e0', e5, e42, e43, e44]
        refine ⟨_, by omega, k + 1, by omega, rfl, by omega, ?_, S'⟩
        rw [tk, List.map_append]
        exact A'
      · obtain rfl : k = L.length := by omega
        have d1 : decide ((L.length : Int) < (L.length : Int)) = false := decide_eq_false (by omega)
        rw [List.take_length] at A
        repeat' (first | ((with_reducible refine brC (fun _ => ?_) fun _ => ?_) <;> try (exfalso; omega)) | (with_reducible refine And.intro ?_ ?_; · omega) | simp -dsimp -implicitDefEqProofs (disch := omega) only [VCA, Nat.reduceEqDiff, ↓reduceIte, e43, e44, d1])
        all_goals first | exact ⟨_, Sub.refl _, A, S⟩ | trace_state
    · rw [hm] at cM hL
      rw [if_pos rfl] at hL
      refine Q1 Tryz.func39 hn39 hc39 (by rw [Tryz.ntmps39]; simp) (by rw [Tryz.ntmps39]; decide) ?_
      simp -dsimp -implicitDefEqProofs (disch := omega) only [VCA, Nat.reduceEqDiff, ↓reduceIte, reduceCtorEq, c39, fA]
      repeat' (first | ((with_reducible refine brC (fun _ => ?_) fun _ => ?_) <;> try (exfalso; omega)) | (with_reducible apply pcallE.of; · exact cN) | (with_reducible apply pcallE.of; · exact cC) | (with_reducible apply pcallE.of; · exact cM) | (with_reducible refine And.intro ?_ ?_; · omega) | simp -dsimp -implicitDefEqProofs (disch := omega) only [VCA, Nat.reduceEqDiff, Nat.reduceAdd, Nat.reduceLeDiff, ↓reduceIte, reduceCtorEq, Q5, e0, b1, hL])
      refine LoopVC.intro (fun m e h' => ∃ k : Nat, k <= L.length /\ m = L.length - k /\ e 0 = .pin [sl Q5 d.nodes, .bool d.quirks, sl Z3 o] /\ e 5 = .str nm /\ e 42 = sl Z3 L /\ e 43 = Q4 L.length /\ e 44 = Q4 k /\ Acc h 25 2 (((L.take k).map fun k => (⟨nm, optV d k⟩ : HEnt)).map JK) (e 7) h' /\ Sim.Sub h h') L.length
        (by exact ⟨0, by omega, by omega, rfl, rfl, rfl, rfl, rfl, Acc.nil, Sub.refl _⟩) ?_
      rintro m e h' ⟨k, hk, rfl, e0', e5, e42, e43, e44, A, S⟩
      by_cases hlt : k < L.length
      · have d1 : decide ((k : Int) < (L.length : Int)) = true := decide_eq_true (by omega)
        have hx := hLi _ (Y2 hlt)
        have tk : (L.take (k + 1)).map (fun k => (⟨nm, optV d k⟩ : HEnt)) = (L.take k).map (fun k => (⟨nm, optV d k⟩ : HEnt)) ++ [⟨nm, optV d (nth L k)⟩] := by
          rw [X4 hlt, List.map_append]; rfl
        obtain ⟨x, hxx⟩ : ∃ x, nth L k = x := ⟨_, rfl⟩
        rw [hxx] at hx tk
        have g := gO x hx
        rw [fE] at g
        repeat' (first | ((with_reducible refine brC (fun _ => ?_) fun _ => ?_) <;> try (exfalso; omega)) | (with_reducible apply pcallE.of; · exact g) | (with_reducible refine And.intro ?_ ?_; · omega) | simp -dsimp -implicitDefEqProofs (disch := omega) only [VCA, Nat.reduceEqDiff, Nat.reduceAdd, Nat.reduceLeDiff, ↓reduceIte, reduceCtorEq, Z2, K7, X0, forall_eq, exists_eq_left, Z3, e0', e5, e42, e43, e44, d1, hxx])
        refine A.app S (by simp only [List.length_map, List.length_cons, List.length_nil, List.length_take]; omega) (by simp only [List.length_map, List.length_cons, List.length_nil, List.length_take]; omega) fun a' h'' A' S' => ?_
        simp -dsimp -implicitDefEqProofs (disch := omega) only [VCA, Nat.reduceEqDiff, ↓reduceIte, reduceCtorEq, e0', e5, e42, e43, e44]
        refine ⟨_, by omega, k + 1, by omega, rfl, by omega, ?_, S'⟩
        rw [tk, List.map_append]
        exact A'
      · obtain rfl : k = L.length := by omega
        have d1 : decide ((L.length : Int) < (L.length : Int)) = false := decide_eq_false (by omega)
        rw [List.take_length] at A
        repeat' (first | ((with_reducible refine brC (fun _ => ?_) fun _ => ?_) <;> try (exfalso; omega)) | (with_reducible refine And.intro ?_ ?_; · omega) | simp -dsimp -implicitDefEqProofs (disch := omega) only [VCA, Nat.reduceEqDiff, ↓reduceIte, e43, e44, d1])
        all_goals first | exact ⟨_, Sub.refl _, A, S⟩ | trace_state
  · have b1 : ((nd d n).name != [115, 101, 108, 101, 99, 116]) = true := by simpa using h1
    rw [if_neg h1]
    refine Q1 Tryz.func39 hn39 hc39 (by rw [Tryz.ntmps39]; simp) (by rw [Tryz.ntmps39]; decide) ?_
    simp -dsimp -implicitDefEqProofs (disch := omega) only [VCA, Nat.reduceEqDiff, ↓reduceIte, reduceCtorEq, JK, c39, fA]
    repeat' (first | ((with_reducible refine brC (fun _ => ?_) fun _ => ?_) <;> try (exfalso; omega)) | (with_reducible apply pcallE.of; · exact cN) | (with_reducible apply pcallE.of; · exact cV) | (with_reducible refine And.intro ?_ ?_; · omega) | simp -dsimp -implicitDefEqProofs (disch := omega) only [VCA, Nat.reduceEqDiff, Nat.reduceAdd, Nat.reduceLeDiff, ↓reduceIte, reduceCtorEq, Z2, K7, X0, ZX, Q5, e0, b1])
    intro r hr
    exact ⟨_, Sub.refl _, Acc.root hr (J7 _ _ _), (Sub.refl h).upd hr⟩
def longM (b : Int) : Nat := if b < 128 then 1 else if b < 224 then 2 else if b < 240 then 3 else 4
def c100 : SFun := ⟨.seq (.reg [o 2 (.mv (.c (.int .i64 0)))]) (.seq (.seq (.reg [o 3 (.mv (.t 0)), o 4 (.bin .lss (.t 3) (.c (.int .i64 128)))]) (.cond (.t 4) (.seq (.reg [o 2 (.mv (.c (.int .i64 1)))]) .ret) .skip)) (.seq (.seq (.reg [o 5 (.mv (.t 0)), o 6 (.bin .lss (.t 5) (.c (.int .i64 224)))]) (.cond (.t 6) (.seq (.reg [o 2 (.mv (.c (.int .i64 2)))]) .ret) .skip)) (.seq (.seq (.reg [o 7 (.mv (.t 0)), o 8 (.bin .lss (.t 7) (.c (.int .i64 240)))]) (.cond (.t 8) (.seq (.reg [o 2 (.mv (.c (.int .i64 3)))]) .ret) .skip)) (.seq (.reg [o 2 (.mv (.c (.int .i64 4)))]) .ret)))), [.tmp 2]⟩
theorem hc100 : J1 Tryz.prog {} Tryz.f100 = some c100 := by kernel_rfl
theorem longOf_ok (b : Int) : PCalls (Pg G) 100 [Q4 b] (Q4 (longM b)) := fun h => by
  refine Q1 Tryz.func100 (by kernel_rfl) hc100 (by rw [Tryz.ntmps100]; simp) (by rw [Tryz.ntmps100]; decide) ?_
  simp -dsimp -implicitDefEqProofs (disch := omega) only [VCA, ↓reduceIte, reduceCtorEq, c100]
  repeat' (first | ((with_reducible refine brC (fun _ => ?_) fun _ => ?_) <;> try (exfalso; omega)) | (with_reducible refine And.intro ?_ ?_; · omega) | simp -dsimp -implicitDefEqProofs (disch := omega) only [VCA, ↓reduceIte, reduceCtorEq, exists_eq_right_right])
  all_goals (refine ⟨Sub.refl _, ?_⟩; unfold longM; repeat' split)
  all_goals first | rfl | omega
def btw (n a b : Int) : Bool := decide (a <= n) && decide (n <= b)
def mayM (f p b : Int) : Bool :=
  if p = 0 then decide (b < 128) || btw b 194 244
  else if p = 1 /\ f = 224 then btw b 160 191
  else if p = 1 /\ f = 237 then btw b 128 159
  else if p = 1 /\ f = 240 then btw b 144 191
  else if p = 1 /\ f = 244 then btw b 128 143
  else btw b 128 191
def c101 : SFun := ⟨.seq (.reg [o 6 (.mv (.c (.bool false)))]) (.seq (.seq (.reg [o 7 (.mv (.t 1)), o 8 (.bin .eql (.t 7) (.c (.int .i64 0)))]) (.cond (.t 8) (.seq (.reg [o 9 (.mv (.t 2)), o 10 (.bin .lss (.t 9) (.c (.int .i64 128))), o 11 (.mv (.t 10)), ⟨some 12, .mv (.t 2), some (11, false)⟩, ⟨some 13, .pcall 41 [.t 12, .c (.int .i64 194), .c (.int .i64 244)], some (11, false)⟩, o 14 (.pick (.t 11) (.c (.bool true)) (.t 13)), o 6 (.mv (.t 14))]) .ret) .skip)) (.seq (.seq (.reg [o 15 (.mv (.t 1)), o 16 (.bin .eql (.t 15) (.c (.int .i64 1))), o 17 (.mv (.t 16)), ⟨some 18, .mv (.t 0), some (17, true)⟩, ⟨some 19, .bin .eql (.t 18) (.c (.int .i64 224)), some (17, true)⟩, o 20 (.pick (.t 17) (.t 19) (.c (.bool false)))]) (.cond (.t 20) (.seq (.reg [o 21 (.mv (.t 2)), o 22 (.pcall 41 [.t 21, .c (.int .i64 160), .c (.int .i64 191)]), o 6 (.mv (.t 22))]) .ret) .skip)) (.seq (.seq (.reg [o 23 (.mv (.t 1)), o 24 (.bin .eql (.t 23) (.c (.int .i64 1))), o 25 (.mv (.t 24)), ⟨some 26, .mv (.t 0), some (25, true)⟩, ⟨some 27, .bin .eql (.t 26) (.c (.int .i64 237)), some (25, true)⟩, o 28 (.pick (.t 25) (.t 27) (.c (.bool false)))]) (.cond (.t 28) (.seq (.reg [o 29 (.mv (.t 2)), o 30 (.pcall 41 [.t 29, .c (.int .i64 128), .c (.int .i64 159)]), o 6 (.mv (.t 30))]) .ret) .skip)) (.seq (.seq (.reg [o 31 (.mv (.t 1)), o 32 (.bin .eql (.t 31) (.c (.int .i64 1))), o 33 (.mv (.t 32)), ⟨some 34, .mv (.t 0), some (33, true)⟩, ⟨some 35, .bin .eql (.t 34) (.c (.int .i64 240)), some (33, true)⟩, o 36 (.pick (.t 33) (.t 35) (.c (.bool false)))]) (.cond (.t 36) (.seq (.reg [o 37 (.mv (.t 2)), o 38 (.pcall 41 [.t 37, .c (.int .i64 144), .c (.int .i64 191)]), o 6 (.mv (.t 38))]) .ret) .skip)) (.seq (.seq (.reg [o 39 (.mv (.t 1)), o 40 (.bin .eql (.t 39) (.c (.int .i64 1))), o 41 (.mv (.t 40)), ⟨some 42, .mv (.t 0), some (41, true)⟩, ⟨some 43, .bin .eql (.t 42) (.c (.int .i64 244)), some (41, true)⟩, o 44 (.pick (.t 41) (.t 43) (.c (.bool false)))]) (.cond (.t 44) (.seq (.reg [o 45 (.mv (.t 2)), o 46 (.pcall 41 [.t 45, .c (.int .i64 128), .c (.int .i64 143)]), o 6 (.mv (.t 46))]) .ret) .skip)) (.seq (.reg [o 47 (.mv (.t 2)), o 48 (.pcall 41 [.t 47, .c (.int .i64 128), .c (.int .i64 191)]), o 6 (.mv (.t 48))]) .ret)))))), [.tmp 6]⟩
theorem hc101 : J1 Tryz.prog {pure := [41]} Tryz.f101 = some c101 := by kernel_rfl
theorem mayBe_ok (f p b : Int) : PCalls (Pg G) 101 [Q4 f, Q4 p, Q4 b] (.bool (mayM f p b)) := fun h => by
  refine Q1 Tryz.func101 (by kernel_rfl) hc101 (by rw [Tryz.ntmps101]; simp) (by rw [Tryz.ntmps101]; decide) ?_
  simp -dsimp -implicitDefEqProofs (disch := omega) only [VCA, Nat.reduceEqDiff, ↓reduceIte, c101]
  repeat' (first | ((with_reducible refine brC (fun _ => ?_) fun _ => ?_) <;> try (exfalso; omega)) | (with_reducible apply pcallE.of; · exact between_ok _ _ _) | (with_reducible refine And.intro ?_ ?_; · omega) | simp -dsimp -implicitDefEqProofs (disch := omega) only [↓Q0 11, ↓Q0 17, ↓Q0 25, ↓Q0 33, ↓Q0 41, VCA, Nat.reduceEqDiff, ↓reduceIte, reduceCtorEq, exists_eq_right_right])
  all_goals first | (exfalso; omega) | skip
  all_goals refine ⟨Sub.refl _, ?_⟩
  all_goals simp_all [mayM, btw]
  all_goals omega
def V4 (s : List UInt8) (n : Nat) : Nat -> Int
  | 0 => 0
  | 1 => if n = 2 then bt s 0 - 192 else if n = 3 then bt s 0 - 224 else if n = 4 then bt s 0 - 240 else bt s 0
  | i + 2 => 64 * V4 s n (i + 1) + bt s (i + 1) - 128
theorem contM_n (s : List UInt8) (m : Nat) : ∀ (f i : Nat) (lo hi n : Int), i + f = m + 1 -> 1 <= i -> i <= s.length -> 1 <= (JY s m f i lo hi n).2 /\ (JY s m f i lo hi n).2 <= s.length
  | 0, i, lo, hi, n, h, h1, h2 => by simp [JY]; omega
  | f + 1, i, lo, hi, n, h, h1, h2 => by
    unfold JY
    split
    · exact ⟨h1, h2⟩
    · exact contM_n s m f (i + 1) _ _ _ (by omega) (by omega) (by omega)
theorem oneM_n {s : List UInt8} (hs : s ≠ []) : 1 <= (JQ s).2 /\ (JQ s).2 <= s.length := by
  have hp : 0 < s.length := List.length_pos_iff.2 hs
  unfold JQ
  simp only
  split
  · simp; omega
  · split
    · simp; omega
    · exact contM_n s _ _ _ _ _ _ (by omega) (by omega) (by omega)
theorem contM_r (s : List UInt8) (m : Nat) (hm : m <= 3) : ∀ (f i : Nat) (lo hi n : Int), i + f = m + 1 -> 0 <= n -> n < 32 * 64 ^ (i - 1) -> 1 <= i -> 0 <= (JY s m f i lo hi n).1 /\ (JY s m f i lo hi n).1 < 8388608
  | 0, i, lo, hi, n, h, h0, h1, h2 => by
    unfold JY
    rcases (by omega : i = 1 \/ i = 2 \/ i = 3 \/ i = 4) with rfl | rfl | rfl | rfl <;> (simp at h1; omega)
  | f + 1, i, lo, hi, n, h, h0, h1, h2 => by
    unfold JY
    split
    · simp
    · have hb := U6 s i
      refine contM_r s m hm f (i + 1) _ _ _ (by omega) (by omega) ?_ (by omega)
      have : 32 * (64 : Int) ^ (i + 1 - 1) = (32 * 64 ^ (i - 1)) * 64 := by
        have : i + 1 - 1 = (i - 1) + 1 := by omega
        rw [this, Int.pow_succ]; omega
      omega
theorem oneM_r (s : List UInt8) : 0 <= (JQ s).1 /\ (JQ s).1 < 8388608 := by
  have hb := U6 s 0
  unfold JQ
  simp only
  split
  · simp
  · split
    · simp; omega
    · rename_i h1 h2
      rcases leadM_cases (bt s 0) with h | h | ⟨m, hm1, hm3, h⟩
      · omega
      · omega
      · rw [h, Int.toNat_natCast]
        refine contM_r s m hm3 m 1 _ _ _ (by omega) ?_ ?_ (by omega)
        · rcases (by omega : m = 1 \/ m = 2 \/ m = 3) with rfl | rfl | rfl <;> (simp only [Nat.reduceSub]; omega)
        · rcases (by omega : m = 1 \/ m = 2 \/ m = 3) with rfl | rfl | rfl <;> (simp only [Nat.reduceSub]; omega)
theorem lead_may (b c : Int) (h0 : 0 <= b) (h1 : b < 256) : (Y4 b).1 = (if mayM b 0 b = true then (longM b : Int) - 1 else -1) /\ ((2 <= longM b /\ mayM b 0 b = true) -> mayM b 1 c = btw c (Y4 b).2.1 (Y4 b).2.2) /\ ∀ p, 2 <= p -> mayM b p c = btw c 128 191 := by
  refine ⟨?_, fun h => ?_, fun p hp => ?_⟩
  · unfold Y4 mayM longM btw
    simp only [if_true]
    repeat' split
    all_goals (simp only [Bool.or_eq_true, Bool.and_eq_true, decide_eq_true_eq] at * <;> omega)
  · unfold mayM Y4
    simp only [Int.one_ne_zero, if_false, true_and]
    unfold mayM longM btw at h
    simp only [if_true] at h
    repeat' split
    all_goals first | rfl | (exfalso; simp_all; omega) | (simp_all []; done) | skip
  · unfold mayM
    rw [if_neg (by omega), if_neg (by omega), if_neg (by omega), if_neg (by omega), if_neg (by omega)]
def loAt (s : List UInt8) (n : Nat) : Int := if n = 1 then (Y4 (bt s 0)).2.1 else 128
def hiAt (s : List UInt8) (n : Nat) : Int := if n = 1 then (Y4 (bt s 0)).2.2 else 191
def lM (s : List UInt8) : Nat := longM (bt s 0)
def At (s : List UInt8) (n : Nat) : Prop := mayM (bt s 0) 0 (bt s 0) = true /\ JQ s = JY s (lM s - 1) (lM s - n) n (loAt s n) (hiAt s n) (V4 s (lM s) n)
theorem lM_ge (s : List UInt8) : 1 <= lM s /\ lM s <= 4 := by
  unfold lM longM
  repeat' split
  all_goals omega
theorem at_in {s : List UInt8} (h : mayM (bt s 0) 0 (bt s 0) = true) : At s 1 := by
  have hb := U6 s 0
  have hL := (lead_may (bt s 0) 0 hb.1 hb.2).1
  have hg := lM_ge s
  rw [if_pos h] at hL
  refine ⟨h, ?_⟩
  unfold JQ loAt hiAt
  simp only [if_true]
  have hle : (Y4 (bt s 0)).1 = ((lM s - 1 : Nat) : Int) := by rw [hL]; unfold lM at *; omega
  rw [if_neg (by omega)]
  by_cases h1 : lM s = 1
  · rw [if_pos (by omega), h1]; rfl
  · rw [if_neg (by omega), hle, Int.toNat_natCast]
    refine congrArg (fun z => JY s (lM s - 1) (lM s - 1) 1 (Y4 (bt s 0)).2.1 (Y4 (bt s 0)).2.2 z) ?_
    simp only [V4]
    unfold mayM at h
    simp only [if_true, btw, Bool.or_eq_true, Bool.and_eq_true, decide_eq_true_eq] at h
    have hc : lM s = 1 /\ bt s 0 < 128 \/ lM s = 2 /\ 128 <= bt s 0 /\ bt s 0 < 224 \/ lM s = 3 /\ 224 <= bt s 0 /\ bt s 0 < 240 \/ lM s = 4 /\ 240 <= bt s 0 := by
      unfold lM longM; repeat' split
      all_goals omega
    rcases hc with ⟨e, h2⟩ | ⟨e, h2⟩ | ⟨e, h2⟩ | ⟨e, h2⟩
    · omega
    · rw [e]; simp; omega
    · rw [e]; simp; omega
    · rw [e]; simp; omega
theorem at_may {s : List UInt8} {n : Nat} (A : At s n) (h1 : 1 <= n) (h2 : n < lM s) : mayM (bt s 0) n (bt s n) = btw (bt s n) (loAt s n) (hiAt s n) := by
  have hb := U6 s 0
  obtain ⟨_, q1, q2⟩ := lead_may (bt s 0) (bt s n) hb.1 hb.2
  unfold loAt hiAt
  by_cases h : n = 1
  · subst h; exact q1 ⟨h2, A.1⟩
  · rw [if_neg h, if_neg h]; exact q2 n (by omega)
theorem lead_lo (b : Int) : 128 <= (Y4 b).2.1 /\ (Y4 b).2.2 <= 191 := by
  unfold Y4; repeat' split
  all_goals simp
theorem at_on {s : List UInt8} {n : Nat} (A : At s n) (h1 : 1 <= n) (h2 : n < lM s) (h3 : n < s.length) (hm : mayM (bt s 0) n (bt s n) = true) : At s (n + 1) := by
  rw [at_may A h1 h2] at hm
  simp only [btw, Bool.and_eq_true, decide_eq_true_eq] at hm
  refine ⟨A.1, A.2.trans ?_⟩
  have hl := lead_lo (bt s 0)
  have hr : 128 <= bt s n /\ bt s n <= 191 := by
    unfold loAt hiAt at hm
    split at hm <;> omega
  obtain ⟨f, hf⟩ : ∃ f, lM s - n = f + 1 := ⟨lM s - n - 1, by omega⟩
  have hf' : lM s - (n + 1) = f := by omega
  rw [hf, hf']
  conv => lhs; unfold JY
  rw [if_neg (by omega)]
  obtain ⟨k, rfl⟩ : ∃ k, n = k + 1 := ⟨n - 1, by omega⟩
  simp only [loAt, hiAt, V4]
  rw [if_neg (by omega), if_neg (by omega)]
  congr 1
  omega
theorem at_off {s : List UInt8} {n : Nat} (A : At s n) (h1 : 1 <= n) (h2 : n < lM s) (h3 : n = s.length \/ mayM (bt s 0) n (bt s n) = false) : JQ s = (65533, n) := by
  rw [at_may A h1 h2] at h3
  rw [A.2]
  obtain ⟨f, hf⟩ : ∃ f, lM s - n = f + 1 := ⟨lM s - n - 1, by omega⟩
  rw [hf]
  unfold JY
  rw [if_pos]
  rcases h3 with h3 | h3
  · exact .inl h3
  · right
    simp only [btw, Bool.and_eq_false_iff, decide_eq_false_iff_not] at h3
    omega
theorem at_none {s : List UInt8} (h : mayM (bt s 0) 0 (bt s 0) = false) : JQ s = (65533, 1) := by
  have hb := U6 s 0
  have hL := (lead_may (bt s 0) 0 hb.1 hb.2).1
  rw [if_neg (by rw [h]; simp)] at hL
  unfold JQ
  simp only [hL]
  rfl
theorem at_all {s : List UInt8} (A : At s (lM s)) : JQ s = (V4 s (lM s) (lM s), lM s) := by
  have := lM_ge s
  rw [A.2, Nat.sub_self]
  unfold JY
  rw [Nat.sub_add_cancel this.1]
theorem valM_r (s : List UInt8) (L i : Nat) (h : i <= 4) : -200000000 <= V4 s L i /\ V4 s L i <= 200000000 := by
  have hb := U6 s 0
  have b1 := U6 s 1
  have b2 := U6 s 2
  have b3 := U6 s 3
  have v1 : -240 <= V4 s L 1 /\ V4 s L 1 <= 255 := by
    simp only [V4]
    repeat' split
    all_goals omega
  have e2 : V4 s L 2 = 64 * V4 s L 1 + bt s 1 - 128 := rfl
  have e3 : V4 s L 3 = 64 * V4 s L 2 + bt s 2 - 128 := rfl
  have e4 : V4 s L 4 = 64 * V4 s L 3 + bt s 3 - 128 := rfl
  have e0 : V4 s L 0 = 0 := rfl
  rcases (by omega : i = 0 \/ i = 1 \/ i = 2 \/ i = 3 \/ i = 4) with rfl | rfl | rfl | rfl | rfl
  all_goals omega
def decD (s : List UInt8) : List Int := if h : s = [] then [] else (JQ s).1 :: decD (s.drop (JQ s).2)
termination_by s.length
decreasing_by
  have := oneM_n h
  rw [List.length_drop]; omega
theorem decD_nil : decD [] = [] := by unfold decD; rfl
theorem decD_cons {s : List UInt8} (h : s ≠ []) : decD s = (JQ s).1 :: decD (s.drop (JQ s).2) := by
  rw [decD]; rw [dif_neg h]
abbrev Ti : Nat := 21
def c60 : SFun := ⟨.seq (.reg [o 2 (.mv (.c .emp))]) (.seq (.reg [o 3 (.mv (.c .emp))]) (.seq (.block 0 (.loop (.seq (.seq (.reg [o 8 (.mv (.t 0)), o 9 (.lenS (.t 8)), o 10 (.bin .gtr (.t 9) (.c (.int .i64 0)))]) (.cond (.t 10) .skip (.exit 0))) (.block 1 (.seq (.reg [o 11 (.mv (.t 0)), o 12 (.idxS (.t 11) (.c (.int .i64 0))), o 13 (.cvi .i64 (.t 12)), o 4 (.mv (.t 13))]) (.seq (.reg [o 5 (.mv (.c (.int .i64 0)))]) (.seq (.block 2 (.loop (.seq (.seq (.reg [o 14 (.mv (.t 5)), o 15 (.mv (.t 0)), o 16 (.lenS (.t 15)), o 17 (.bin .lss (.t 14) (.t 16)), o 18 (.mv (.t 17)), ⟨some 19, .mv (.t 5), some (18, true)⟩, ⟨some 20, .mv (.t 4), some (18, true)⟩, ⟨some 21, .pcall 100 [.t 20], some (18, true)⟩, ⟨some 22, .bin .lss (.t 19) (.t 21), some (18, true)⟩, o 23 (.pick (.t 18) (.t 22) (.c (.bool false))), o 24 (.mv (.t 23)), ⟨some 25, .mv (.t 4), some (24, true)⟩, ⟨some 26, .mv (.t 5), some (24, true)⟩, ⟨some 27, .mv (.t 0), some (24, true)⟩, ⟨some 28, .mv (.t 5), some (24, true)⟩, ⟨some 29, .idxS (.t 27) (.t 28), some (24, true)⟩, ⟨some 30, .cvi .i64 (.t 29), some (24, true)⟩, ⟨some 31, .pcall 101 [.t 25, .t 26, .t 30], some (24, true)⟩, o 32 (.pick (.t 24) (.t 31) (.c (.bool false)))]) (.cond (.t 32) .skip (.exit 2))) (.block 3 (.reg [o 33 (.mv (.t 5)), o 34 (.bin .add (.t 33) (.c (.int .i64 1))), o 5 (.mv (.t 34))]))))) (.seq (.seq (.reg [o 35 (.mv (.t 5)), o 36 (.mv (.t 4)), o 37 (.pcall 100 [.t 36]), o 38 (.bin .lss (.t 35) (.t 37))]) (.cond (.t 38) (.seq (.reg [o 39 (.mv (.t 3)), o 40 (.bldF 21 1 [.c (.int .i32 65533)]), o 41 (.app 21 1 4 (.t 39) (.t 40)), o 3 (.mv (.t 41))]) (.seq (.seq (.reg [o 42 (.mv (.t 5)), o 43 (.bin .eql (.t 42) (.c (.int .i64 0)))]) (.cond (.t 43) (.reg [o 5 (.mv (.c (.int .i64 1)))]) .skip)) (.seq (.reg [o 44 (.mv (.t 0)), o 45 (.mv (.t 5)), o 46 (.slS (.t 44) (some (.t 45)) none), o 0 (.mv (.t 46))]) (.exit 1)))) .skip)) (.seq (.reg [o 47 (.mv (.t 4)), o 6 (.mv (.t 47))]) (.seq (.seq (.reg [o 48 (.mv (.t 5)), o 49 (.bin .eql (.t 48) (.c (.int .i64 2)))]) (.cond (.t 49) (.reg [o 50 (.mv (.t 4)), o 51 (.bin .sub (.t 50) (.c (.int .i64 192))), o 6 (.mv (.t 51))]) .skip)) (.seq (.seq (.reg [o 52 (.mv (.t 5)), o 53 (.bin .eql (.t 52) (.c (.int .i64 3)))]) (.cond (.t 53) (.reg [o 54 (.mv (.t 4)), o 55 (.bin .sub (.t 54) (.c (.int .i64 224))), o 6 (.mv (.t 55))]) .skip)) (.seq (.seq (.reg [o 56 (.mv (.t 5)), o 57 (.bin .eql (.t 56) (.c (.int .i64 4)))]) (.cond (.t 57) (.reg [o 58 (.mv (.t 4)), o 59 (.bin .sub (.t 58) (.c (.int .i64 240))), o 6 (.mv (.t 59))]) .skip)) (.seq (.seq (.reg [o 7 (.mv (.c (.int .i64 1)))]) (.block 4 (.loop (.seq (.seq (.reg [o 60 (.mv (.t 7)), o 61 (.mv (.t 5)), o 62 (.bin .lss (.t 60) (.t 61))]) (.cond (.t 62) .skip (.exit 4))) (.seq (.block 5 (.reg [o 65 (.mv (.t 6)), o 66 (.bin .mul (.c (.int .i64 64)) (.t 65)), o 67 (.mv (.t 0)), o 68 (.mv (.t 7)), o 69 (.idxS (.t 67) (.t 68)), o 70 (.cvi .i64 (.t 69)), o 71 (.bin .add (.t 66) (.t 70)), o 72 (.bin .sub (.t 71) (.c (.int .i64 128))), o 6 (.mv (.t 72))])) (.reg [o 63 (.mv (.t 7)), o 64 (.bin .add (.t 63) (.c (.int .i64 1))), o 7 (.mv (.t 64))])))))) (.seq (.reg [o 73 (.mv (.t 3)), o 74 (.mv (.t 6)), o 75 (.cvi .i32 (.t 74)), o 76 (.bldF 21 1 [.t 75]), o 77 (.app 21 1 4 (.t 73) (.t 76)), o 3 (.mv (.t 77))]) (.reg [o 78 (.mv (.t 0)), o 79 (.mv (.t 5)), o 80 (.slS (.t 78) (some (.t 79)) none), o 0 (.mv (.t 80))]))))))))))))))) (.seq (.reg [o 81 (.mv (.t 3)), o 2 (.mv (.t 81))]) .ret))), [.tmp 2]⟩
theorem hc60 : J1 Tryz.prog {pure := [100, 101]} Tryz.f60 = some c60 := by kernel_rfl
theorem refDecode_ok (s : List UInt8) (hl : s.length <= 1073741824) : PCalls (Pg G) 60 [.str s] (sl YT (decD s)) := PCalls.acc (ty := Ti) (sz := 1) fun h => by
  refine Q1 Tryz.func60 (by kernel_rfl) hc60 (by rw [Tryz.ntmps60]; simp) (by rw [Tryz.ntmps60]; decide) ?_
  simp -dsimp -implicitDefEqProofs (disch := omega) only [VCA, c60]
  refine LoopVC.intro (fun m e h' => ∃ (t : List UInt8) (d : List Int), m = t.length /\ d.length + t.length <= s.length /\ e 0 = .str t /\ Acc h Ti 1 (d.map YT) (e 3) h' /\ Sub h h' /\ d ++ decD t = decD s) s.length ⟨s, [], rfl, by simp, rfl, Acc.nil, Sub.refl _, rfl⟩ ?_
  rintro m e h' ⟨t, d, rfl, hdl, he0, A, S, hD⟩
  simp -dsimp -implicitDefEqProofs (disch := omega) only [VCA, ↓reduceIte, he0]
  refine Br.dec (fun hlt => ?_) (fun hge => ?_)
  · have ht : t ≠ [] := by rintro rfl; simp at hlt
    have hg := lM_ge t
    have hone := oneM_n ht
    have hlm : lM t = longM (bt t 0) := rfl
    rw [decD_cons ht] at hD
    have hb0 : 0 <= ((t.getD 0 0).toNat : Int) /\ ((t.getD 0 0).toNat : Int) < 256 := U6 t 0
    simp -dsimp -implicitDefEqProofs (disch := omega) only [VCA, ↓reduceIte, reduceCtorEq, he0]
    refine ⟨by omega, ?_⟩
    generalize ea : e 3 = a at A
    refine loopT (fun x e' h'' => x = .exit 2 /\ ∃ n : Nat, e' 0 = .str t /\ e' 3 = a /\ e' 4 = Q4 (bt t 0) /\ e' 5 = Q4 n /\ h'' = h' /\ ((n < lM t /\ JQ t = (65533, max n 1)) \/ (n = lM t /\ n <= t.length /\ JQ t = (V4 t n n, n))))
      (fun m e' h'' => ∃ n : Nat, m = lM t - n /\ e' 0 = .str t /\ e' 3 = a /\ e' 4 = Q4 (bt t 0) /\ e' 5 = Q4 n /\ h'' = h' /\ n <= t.length /\ n <= lM t /\ (1 <= n -> At t n)) (lM t) ⟨0, by omega, he0, ea, rfl, rfl, rfl, by omega, by omega, by omega⟩ ?_ ?_
    · rintro Q' hQ m e' h'' ⟨n, rfl, f0, f3, f4, f5, rfl, hn1, hn2, hA⟩
      have hbn : 0 <= ((t.getD n 0).toNat : Int) /\ ((t.getD n 0).toNat : Int) < 256 := U6 t n
      have ex : (n = t.length \/ mayM (bt t 0) n (bt t n) = false) \/ n = lM t -> (n < lM t /\ JQ t = (65533, max n 1)) \/ (n = lM t /\ n <= t.length /\ JQ t = (V4 t n n, n)) := by
        intro hh
        by_cases hn : n = lM t
        · subst hn; exact .inr ⟨rfl, hn1, at_all (hA hg.1)⟩
        · have hh := hh.resolve_right hn
          refine .inl ⟨by omega, ?_⟩
          by_cases h0 : n = 0
          · subst h0
            rcases hh with hh | hh
            · omega
            · exact at_none hh
          · rw [at_off (hA (by omega)) (by omega) (by omega) hh, Nat.max_eq_left (by omega)]
      simp -dsimp -implicitDefEqProofs (disch := omega) only [↓Q0 18, VCA, Nat.reduceEqDiff, ↓reduceIte, reduceCtorEq, f0, f5]
      repeat' (first | ((with_reducible refine brC (fun _ => ?_) fun _ => ?_) <;> try (exfalso; omega)) | (with_reducible apply pcallE.of; · exact longOf_ok _) | (with_reducible apply pcallE.of; · exact mayBe_ok _ _ _) | (with_reducible refine And.intro ?_ ?_; · omega) | simp -dsimp -implicitDefEqProofs (disch := omega) only [↓Q0 24, VCA, Nat.reduceEqDiff, ↓reduceIte, reduceCtorEq, f0, f4, f5])
      · refine ⟨lM t - (n + 1), by omega, n + 1, rfl, f3, by omega, by omega, by omega, fun _ => ?_⟩
        by_cases h0 : n = 0
        · subst h0; exact at_in (by assumption)
        · exact at_on (hA (by omega)) (by omega) (by omega) (by omega) (by assumption)
      · exact hQ _ _ _ ⟨rfl, n, f0, f3, f4, f5, rfl, ex (.inl (.inr (by assumption)))⟩
      · exact hQ _ _ _ ⟨rfl, n, f0, f3, f4, f5, rfl, ex (.inr (by omega))⟩
      · exact hQ _ _ _ ⟨rfl, n, f0, f3, f4, f5, rfl, ex (.inl (.inl (by omega)))⟩
    · rintro x e' h'' ⟨rfl, n, f0, f3, f4, f5, rfl, hc⟩
      simp -dsimp -implicitDefEqProofs (disch := omega) only [VCA, Nat.reduceEqDiff, ↓reduceIte, f4, f5]
      refine pcallE.of (longOf_ok (bt t 0)) ?_; simp -dsimp -implicitDefEqProofs (disch := omega) only [VCA, Nat.reduceEqDiff, ↓reduceIte]
      rcases hc with ⟨h1, h2⟩ | ⟨h1, h2, h3⟩
      · rw [h2] at hD hone
        refine Br.dec (fun _ => ?_) (fun hh => absurd (show (n : Int) < longM (bt t 0) by omega) hh)
        simp -dsimp -implicitDefEqProofs (disch := omega) only [VCA, Nat.reduceEqDiff, ↓reduceIte, Z2, forall_eq, exists_eq_left, f3]
        refine A.app S (by simp; omega) (by simp; omega) fun a' h3 A' S' => ?_
        simp -dsimp -implicitDefEqProofs (disch := omega) only [VCA, Nat.reduceEqDiff, ↓reduceIte, f5]
        simp only at hone hD
        have fin : ∀ k : Nat, k = max n 1 -> ∃ m', m' < t.length /\ ∃ (t1 : List UInt8) (d1 : List Int), m' = t1.length /\ d1.length + t1.length <= s.length /\ List.drop k t = t1 /\ Acc h Ti 1 (d1.map YT) a' h3 /\ Sub h h3 /\ d1 ++ decD t1 = decD s := by
          rintro k rfl
          refine ⟨_, ?_, t.drop (max n 1), d ++ [65533], rfl, ?_, ?_, ?_, S', ?_⟩
          · rw [List.length_drop]; omega
          · rw [List.length_drop, List.length_append, List.length_singleton]; omega
          · rfl
          · simpa [YT] using A'
          · rw [<- hD]; simp
        refine Br.eq (fun h0 => ?_) (fun h0 => ?_)
        · simp -dsimp -implicitDefEqProofs (disch := omega) only [VCA, Nat.reduceEqDiff, ↓reduceIte, reduceCtorEq, f0]
          refine ⟨by omega, ?_⟩
          exact fin 1 (by omega)
        · simp -dsimp -implicitDefEqProofs (disch := omega) only [VCA, Nat.reduceEqDiff, ↓reduceIte, reduceCtorEq, f0, f5]
          refine ⟨by omega, ?_⟩
          exact fin n (by omega)
      · rw [h3] at hD hone
        refine Br.dec (fun hh => absurd (show ¬ (n : Int) < longM (bt t 0) by omega) (fun g => g hh)) (fun _ => ?_)
        simp only at hone hD
        have hv := valM_r t n
        have hb0' := U6 t 0
        rcases (by omega : n = 1 \/ n = 2 \/ n = 3 \/ n = 4) with rfl | rfl | rfl | rfl
        · simp -dsimp -implicitDefEqProofs (disch := omega) only [VCA, Nat.reduceEqDiff, ↓reduceIte, f4, f5]
          repeat' (first | ((with_reducible refine brC (fun _ => ?_) fun _ => ?_) <;> try (exfalso; omega)) | (with_reducible refine And.intro ?_ ?_; · omega) | simp -dsimp -implicitDefEqProofs (disch := omega) only [VCA, Nat.reduceEqDiff, ↓reduceIte, f5])
          refine LoopVC.intro (fun m e1 h1 => ∃ i : Nat, m = 1 - i /\ 1 <= i /\ i <= 1 /\ e1 0 = .str t /\ e1 3 = a /\ e1 5 = Q4 (1 : Nat) /\ e1 6 = Q4 (V4 t 1 i) /\ e1 7 = Q4 i /\ h1 = h'') _ ⟨1, rfl, by omega, by omega, f0, f3, f5, ?_, rfl, rfl⟩ ?_
          · rfl
          · rintro m e1 h1' ⟨i, rfl, hi1, hi2, k0, k3, k5, k6, k7, rfl⟩
            have hbi : 0 <= ((t.getD i 0).toNat : Int) /\ ((t.getD i 0).toNat : Int) < 256 := U6 t i
            have hvi := hv i (by omega)
            have hvs : i < 1 -> V4 t 1 (i + 1) = 64 * V4 t 1 i + bt t i - 128 := fun _ => by
              obtain ⟨j, rfl⟩ : ∃ j, i = j + 1 := ⟨i - 1, by omega⟩
              rfl
            simp -dsimp -implicitDefEqProofs (disch := omega) only [VCA, Nat.reduceEqDiff, ↓reduceIte, k5, k7]
            repeat' (first | ((with_reducible refine brC (fun _ => ?_) fun _ => ?_) <;> try (exfalso; omega)) | (with_reducible refine And.intro ?_ ?_; · omega) | simp -dsimp -implicitDefEqProofs (disch := omega) only [VCA, Nat.reduceEqDiff, ↓reduceIte, Z2, forall_eq, exists_eq_left, k3, k6])
            all_goals first | (exfalso; omega) | skip
            all_goals (
              obtain rfl : i = 1 := by omega
              have hw : IntKind.i32.wrap (V4 t 1 1) = V4 t 1 1 := by rw [IntKind.wrap_i32]; omega
              rw [hw]
              refine A.app S (by simp; omega) (by simp; omega) fun a' h3 A' S' => ?_
              simp -dsimp -implicitDefEqProofs (disch := omega) only [VCA, Nat.reduceEqDiff, ↓reduceIte, reduceCtorEq, k0, k5]
              refine ⟨by omega, _, ?_, t.drop 1, d ++ [V4 t 1 1], rfl, ?_, ?_, ?_, S', ?_⟩
              · rw [List.length_drop]; omega
              · rw [List.length_drop, List.length_append, List.length_singleton]; omega
              · rfl
              · simpa [YT] using A'
              · rw [<- hD]; simp)
        · simp -dsimp -implicitDefEqProofs (disch := omega) only [VCA, Nat.reduceEqDiff, ↓reduceIte, f4, f5]
          repeat' (first | ((with_reducible refine brC (fun _ => ?_) fun _ => ?_) <;> try (exfalso; omega)) | (with_reducible refine And.intro ?_ ?_; · omega) | simp -dsimp -implicitDefEqProofs (disch := omega) only [VCA, Nat.reduceEqDiff, ↓reduceIte, f4, f5])
          refine LoopVC.intro (fun m e1 h1 => ∃ i : Nat, m = 2 - i /\ 1 <= i /\ i <= 2 /\ e1 0 = .str t /\ e1 3 = a /\ e1 5 = Q4 (2 : Nat) /\ e1 6 = Q4 (V4 t 2 i) /\ e1 7 = Q4 i /\ h1 = h'') _ ⟨1, rfl, by omega, by omega, f0, f3, f5, ?_, rfl, rfl⟩ ?_
          · rfl
          · rintro m e1 h1' ⟨i, rfl, hi1, hi2, k0, k3, k5, k6, k7, rfl⟩
            have hbi : 0 <= ((t.getD i 0).toNat : Int) /\ ((t.getD i 0).toNat : Int) < 256 := U6 t i
            have hvi := hv i (by omega)
            have hvs : i < 2 -> V4 t 2 (i + 1) = 64 * V4 t 2 i + bt t i - 128 := fun _ => by
              obtain ⟨j, rfl⟩ : ∃ j, i = j + 1 := ⟨i - 1, by omega⟩
              rfl
            simp -dsimp -implicitDefEqProofs (disch := omega) only [VCA, Nat.reduceEqDiff, ↓reduceIte, k5, k7]
            repeat' (first | ((with_reducible refine brC (fun _ => ?_) fun _ => ?_) <;> try (exfalso; omega)) | (with_reducible refine And.intro ?_ ?_; · omega) | simp -dsimp -implicitDefEqProofs (disch := omega) only [VCA, Nat.reduceEqDiff, ↓reduceIte, reduceCtorEq, Z2, forall_eq, exists_eq_left, k0, k3, k5, k6, k7])
            · refine ⟨_, ?_, i + 1, rfl, by omega, by omega, ?_, by omega⟩
              · omega
              · rw [hvs (by omega)]
                rfl
            all_goals (
              obtain rfl : i = 2 := by omega
              have hw : IntKind.i32.wrap (V4 t 2 2) = V4 t 2 2 := by rw [IntKind.wrap_i32]; omega
              rw [hw]
              refine A.app S (by simp; omega) (by simp; omega) fun a' h3 A' S' => ?_
              simp -dsimp -implicitDefEqProofs (disch := omega) only [VCA, Nat.reduceEqDiff, ↓reduceIte, reduceCtorEq, k0, k5]
              refine ⟨by omega, _, ?_, t.drop 2, d ++ [V4 t 2 2], rfl, ?_, ?_, ?_, S', ?_⟩
              · rw [List.length_drop]; omega
              · rw [List.length_drop, List.length_append, List.length_singleton]; omega
              · rfl
              · simpa [YT] using A'
              · rw [<- hD]; simp)
        · simp -dsimp -implicitDefEqProofs (disch := omega) only [VCA, Nat.reduceEqDiff, ↓reduceIte, f4, f5]
          repeat' (first | ((with_reducible refine brC (fun _ => ?_) fun _ => ?_) <;> try (exfalso; omega)) | (with_reducible refine And.intro ?_ ?_; · omega) | simp -dsimp -implicitDefEqProofs (disch := omega) only [VCA, Nat.reduceEqDiff, ↓reduceIte, f4, f5])
          refine LoopVC.intro (fun m e1 h1 => ∃ i : Nat, m = 3 - i /\ 1 <= i /\ i <= 3 /\ e1 0 = .str t /\ e1 3 = a /\ e1 5 = Q4 (3 : Nat) /\ e1 6 = Q4 (V4 t 3 i) /\ e1 7 = Q4 i /\ h1 = h'') _ ⟨1, rfl, by omega, by omega, f0, f3, f5, ?_, rfl, rfl⟩ ?_
          · rfl
          · rintro m e1 h1' ⟨i, rfl, hi1, hi2, k0, k3, k5, k6, k7, rfl⟩
            have hbi : 0 <= ((t.getD i 0).toNat : Int) /\ ((t.getD i 0).toNat : Int) < 256 := U6 t i
            have hvi := hv i (by omega)
            have hvs : i < 3 -> V4 t 3 (i + 1) = 64 * V4 t 3 i + bt t i - 128 := fun _ => by
              obtain ⟨j, rfl⟩ : ∃ j, i = j + 1 := ⟨i - 1, by omega⟩
              rfl
            simp -dsimp -implicitDefEqProofs (disch := omega) only [VCA, Nat.reduceEqDiff, ↓reduceIte, k5, k7]
            repeat' (first | ((with_reducible refine brC (fun _ => ?_) fun _ => ?_) <;> try (exfalso; omega)) | (with_reducible refine And.intro ?_ ?_; · omega) | simp -dsimp -implicitDefEqProofs (disch := omega) only [VCA, Nat.reduceEqDiff, ↓reduceIte, reduceCtorEq, Z2, forall_eq, exists_eq_left, k0, k3, k5, k6, k7])
            · refine ⟨_, ?_, i + 1, rfl, by omega, by omega, ?_, by omega⟩
              · omega
              · rw [hvs (by omega)]
                rfl
            all_goals (
              obtain rfl : i = 3 := by omega
              have hw : IntKind.i32.wrap (V4 t 3 3) = V4 t 3 3 := by rw [IntKind.wrap_i32]; omega
              rw [hw]
              refine A.app S (by simp; omega) (by simp; omega) fun a' h3 A' S' => ?_
              simp -dsimp -implicitDefEqProofs (disch := omega) only [VCA, Nat.reduceEqDiff, ↓reduceIte, reduceCtorEq, k0, k5]
              refine ⟨by omega, _, ?_, t.drop 3, d ++ [V4 t 3 3], rfl, ?_, ?_, ?_, S', ?_⟩
              · rw [List.length_drop]; omega
              · rw [List.length_drop, List.length_append, List.length_singleton]; omega
              · rfl
              · simpa [YT] using A'
              · rw [<- hD]; simp)
        · simp -dsimp -implicitDefEqProofs (disch := omega) only [VCA, Nat.reduceEqDiff, ↓reduceIte, f4, f5]
          repeat' (first | ((with_reducible refine brC (fun _ => ?_) fun _ => ?_) <;> try (exfalso; omega)) | (with_reducible refine And.intro ?_ ?_; · omega) | simp -dsimp -implicitDefEqProofs (disch := omega) only [VCA, Nat.reduceEqDiff, ↓reduceIte, f4, f5])
          refine LoopVC.intro (fun m e1 h1 => ∃ i : Nat, m = 4 - i /\ 1 <= i /\ i <= 4 /\ e1 0 = .str t /\ e1 3 = a /\ e1 5 = Q4 (4 : Nat) /\ e1 6 = Q4 (V4 t 4 i) /\ e1 7 = Q4 i /\ h1 = h'') _ ⟨1, rfl, by omega, by omega, f0, f3, f5, ?_, rfl, rfl⟩ ?_
          · rfl
          · rintro m e1 h1' ⟨i, rfl, hi1, hi2, k0, k3, k5, k6, k7, rfl⟩
            have hbi : 0 <= ((t.getD i 0).toNat : Int) /\ ((t.getD i 0).toNat : Int) < 256 := U6 t i
            have hvi := hv i (by omega)
            have hvs : i < 4 -> V4 t 4 (i + 1) = 64 * V4 t 4 i + bt t i - 128 := fun _ => by
              obtain ⟨j, rfl⟩ : ∃ j, i = j + 1 := ⟨i - 1, by omega⟩
              rfl
            simp -dsimp -implicitDefEqProofs (disch := omega) only [VCA, Nat.reduceEqDiff, ↓reduceIte, k5, k7]
            repeat' (first | ((with_reducible refine brC (fun _ => ?_) fun _ => ?_) <;> try (exfalso; omega)) | (with_reducible refine And.intro ?_ ?_; · omega) | simp -dsimp -implicitDefEqProofs (disch := omega) only [VCA, Nat.reduceEqDiff, ↓reduceIte, reduceCtorEq, Z2, forall_eq, exists_eq_left, k0, k3, k5, k6, k7])
            · refine ⟨_, ?_, i + 1, rfl, by omega, by omega, ?_, by omega⟩
              · omega
              · rw [hvs (by omega)]
                rfl
            all_goals (
              obtain rfl : i = 4 := by omega
              have hw : IntKind.i32.wrap (V4 t 4 4) = V4 t 4 4 := by rw [IntKind.wrap_i32]; omega
              rw [hw]
              refine A.app S (by simp; omega) (by simp; omega) fun a' h3 A' S' => ?_
              simp -dsimp -implicitDefEqProofs (disch := omega) only [VCA, Nat.reduceEqDiff, ↓reduceIte, reduceCtorEq, k0, k5]
              refine ⟨by omega, _, ?_, t.drop 4, d ++ [V4 t 4 4], rfl, ?_, ?_, ?_, S', ?_⟩
              · rw [List.length_drop]; omega
              · rw [List.length_drop, List.length_append, List.length_singleton]; omega
              · rfl
              · simpa [YT] using A'
              · rw [<- hD]; simp)
  · have ht : t = [] := List.length_eq_zero_iff.1 (by omega)
    subst ht
    rw [decD_nil, List.append_nil] at hD
    subst hD
    simp -dsimp -implicitDefEqProofs (disch := omega) only [VCA, Nat.reduceEqDiff, ↓reduceIte]
    exact ⟨_, Sub.refl _, A, S⟩
abbrev Rn := { r : Int // 0 <= r /\ r < 8388608 }
def oneR (s : List UInt8) : Rn := ⟨(JQ s).1, oneM_r s⟩
def sgnM (s : List UInt8) (i : Nat) : List (Nat × Rn) := if h : i < s.length then (i, oneR (s.drop i)) :: sgnM s (i + (JQ (s.drop i)).2) else []
termination_by s.length - i
decreasing_by
  have h1 := oneM_n (s := s.drop i) (by intro h2; have := congrArg List.length h2; simp at this; omega)
  omega
theorem sgnM_end {s : List UInt8} {i : Nat} (h : ¬ i < s.length) : sgnM s i = [] := by rw [sgnM, dif_neg h]
theorem sgnM_on {s : List UInt8} {i : Nat} (h : i < s.length) : sgnM s i = (i, oneR (s.drop i)) :: sgnM s (i + (JQ (s.drop i)).2) := by
  conv => lhs; rw [sgnM, dif_pos h]
theorem sgnM_dec (s : List UInt8) (i : Nat) (hi : i <= s.length) : (sgnM s i).map (·.2.1) = decD (s.drop i) := by
  by_cases h : i < s.length
  · have hne : s.drop i ≠ [] := by intro h2; have := congrArg List.length h2; simp at this; omega
    have hn := oneM_n hne
    rw [List.length_drop] at hn
    rw [sgnM_on h, decD_cons hne, List.map_cons, sgnM_dec s (i + (JQ (s.drop i)).2) (by omega), List.drop_drop]
    rfl
  · rw [sgnM_end h, List.drop_eq_nil_of_le (by omega), decD_nil]; rfl
termination_by s.length - i
def eSgn (x : Nat × Rn) : List AVal := [Q4 x.1, .int .i32 x.2.1]
def c119 : ICode := (.seq (.reg [.op ⟨some 3, .mv (.c (.int .i64 0)), none⟩]) (.block 0 (.loop (.seq (.seq (.reg [.op ⟨some 6, .mv (.t 3), none⟩, .op ⟨some 7, .ld 1 false (.t 1), none⟩, .op ⟨some 8, .lenS (.t 7), none⟩, .op ⟨some 9, .bin .lss (.t 6) (.t 8), none⟩]) (.cond (.t 9) .skip (.exit 0))) (.block 1 (.seq (.reg [.op ⟨some 11, .ld 1 false (.t 1), none⟩, .op ⟨some 12, .mv (.t 3), none⟩, .op ⟨some 13, .slS (.t 11) (some (.t 12)) none, none⟩, .op ⟨some 14, .pcall 120 [.t 13], none⟩, .op ⟨some 10, .mv (.t 14), none⟩, .op ⟨some 15, .ext (.t 10) 0, none⟩, .op ⟨some 16, .ext (.t 10) 1, none⟩, .op ⟨some 4, .mv (.t 15), none⟩, .op ⟨some 5, .mv (.t 16), none⟩]) (.seq (.seq (.reg [.op ⟨some 17, .mv (.t 0), none⟩, .op ⟨some 18, .mv (.t 3), none⟩, .op ⟨some 19, .mv (.t 4), none⟩, .yld (some 20) (.t 17) [.t 18, .t 19], .op ⟨some 21, .un .not (.t 20), none⟩]) (.cond (.t 21) .ret .skip)) (.reg [.op ⟨some 22, .mv (.t 3), none⟩, .op ⟨some 23, .mv (.t 5), none⟩, .op ⟨some 24, .bin .add (.t 22) (.t 23), none⟩, .op ⟨some 3, .mv (.t 24), none⟩]))))))))
theorem hc119 : toIF Tryz.prog {pure := [120]} 2 Tryz.f119 = some c119 := by kernel_rfl
theorem signs1_it (s : List UInt8) (hl : s.length <= 1073741824) : IterV (Pg G) 119 [.pin [.str s]] eSgn (sgnM s 0) (s.length + 1) := by
  refine iterV_of_itv Tryz.func119 (by kernel_rfl) hc119 (by rw [Tryz.ntmps119]; simp) (by rw [Tryz.ntmps119]; decide) ?_ ?_ ?_
  · intro c hc
    simp at hc; subst hc
    exact .pin _ (fun c hc => by simp at hc; subst hc; exact .str _)
  · intro x y hy
    simp [eSgn] at hy
    rcases hy with rfl | rfl <;> exact .inl (by constructor)
  · intro l
    simp -dsimp -implicitDefEqProofs (disch := omega) only [VCA, Nat.reduceAdd, IT1, IT2, c119]
    refine itLoop.intro (fun m b p e => ∃ i : Nat, m = s.length - i /\ i <= s.length /\ b = false /\ p.length <= i /\ p ++ sgnM s i = sgnM s 0 /\ e 0 = .prim (.func (.yield l) #[] #[]) /\ e 1 = .pin [.str s] /\ e 3 = Q4 i) s.length ⟨0, rfl, by omega, rfl, by simp, rfl, rfl, rfl, rfl⟩ ?_
    rintro m b p e ⟨i, rfl, hi, rfl, hp, hP, he0, he1, he3⟩
    simp -dsimp -implicitDefEqProofs (disch := omega) only [VCA, Nat.reduceEqDiff, ↓reduceIte, IT1, IT2, he1, he3]
    refine Br.dec (fun hlt => ?_) (fun hge => ?_)
    · simp -dsimp -implicitDefEqProofs (disch := omega) only [VCA, Nat.reduceEqDiff, ↓reduceIte, IT1, IT2, he1, he3]
      have hne : s.drop i ≠ [] := by intro h2; have := congrArg List.length h2; simp at this; omega
      have hn := oneM_n hne
      rw [List.length_drop] at hn
      rw [sgnM_on (by omega)] at hP
      refine ⟨by omega, ?_⟩
      refine pcallE.of (one_ok (s.drop i) hne (by simp; omega)) ?_; simp -dsimp -implicitDefEqProofs (disch := omega) only [VCA, Nat.reduceEqDiff, Nat.reduceAdd, Nat.reduceLT, ↓reduceIte, reduceCtorEq, IT1, IT2, IT3, aft_lo, aft_hi, he0, he1, he3]
      refine ⟨by omega, (i, oneR (s.drop i)), rfl, ?_⟩
      refine ⟨⟨_, ?_, i + (JQ (s.drop i)).2, rfl, by omega, by simp; omega, by simp [hP], by omega⟩, ?_⟩
      · omega
      · exact ⟨sgnM s (i + (JQ (s.drop i)).2), by rw [<- hP]; simp⟩
    · simp -dsimp -implicitDefEqProofs (disch := omega) only [VCA, ↓reduceIte, IT1, IT2, IT3]
      rw [sgnM_end (by omega), List.append_nil] at hP
      exact hP
def c93 : SFun := ⟨.seq (.reg [o 1 (.boxF 9 1 (.t 0)), o 2 (.mv (.c (.prim .nilFunc)))]) (.seq (.reg [o 3 (.mkf 119 [] [.t 1]), o 2 (.mv (.t 3))]) .ret), [.tmp 2]⟩
theorem hc93 : J1 Tryz.prog {} Tryz.f93 = some c93 := by kernel_rfl
theorem signs_ok (s : List UInt8) : PCalls (Pg G) 93 [.str s] (.fn 119 [] [.pin [.str s]]) := fun h => by
  refine Q1 Tryz.func93 (by kernel_rfl) hc93 (by rw [Tryz.ntmps93]; simp) (by rw [Tryz.ntmps93]; decide) ?_
  simp -dsimp -implicitDefEqProofs (disch := omega) only [VCA, Nat.reduceEqDiff, ↓reduceIte, exists_eq_right, c93]
  exact Sub.refl _
def AccV (h0 : Q2) (r0 tv ty sz : Nat) (cells : List (List AVal)) (h : Q2) : Prop := h0 r0 = none /\ ∃ a, Acc (upd h0 r0 (some ⟨tv, 1, [[a]]⟩)) ty sz cells a h /\ Sub (upd h0 r0 (some ⟨tv, 1, [[a]]⟩)) h
theorem AccV.new {h0 : Q2} {r0 tv ty sz : Nat} (h : h0 r0 = none) : AccV h0 r0 tv ty sz [] (upd h0 r0 (some ⟨tv, 1, [[.emp]]⟩)) := ⟨h, .emp, Acc.nil, Sub.refl _⟩
theorem AccV.strp {h0 h : Q2} {r0 tv ty sz : Nat} {cells : List (List AVal)} (hh : ∀ t o, h0 t = some o -> o.ty.isM = false \/ h t = some o) : Strp h (AccV h0 r0 tv ty sz cells) := by
  rintro h' h'' ⟨h1, a, A, S⟩ hle hk
  refine ⟨h1, a, ?_, fun t o ht => ?_⟩
  · rcases A with h2 | ⟨r, q1, q2, q3⟩
    · exact .inl h2
    · exact .inr ⟨r, q1, hk r _ q2 (.inl rfl), q3⟩
  · by_cases e : t = r0
    · subst e
      rw [J7] at ht; cases ht
      exact hk t _ (S t _ (J7 _ _ _)) (.inl rfl)
    · exact hk t o (S t o ht) (hh t o (by rwa [J9 _ _ e] at ht))
theorem Acc.isv {h h' : Q2} {ty sz : Nat} {cells : List (List AVal)} {a : AVal} (A : Acc h ty sz cells a h') : isV a = true /\ cellsOf a = [a] := by
  rcases A with ⟨_, rfl⟩ | ⟨r, _, _, rfl⟩ <;> exact ⟨rfl, rfl⟩
theorem acc_off {h0 h : Q2} {rb ty sz : Nat} {x : AObj} {cells : List (List AVal)} {a : AVal} (h1 : h0 rb = none) (A : Acc (upd h0 rb (some x)) ty sz cells a h) : Acc h0 ty sz cells a h :=
  A.mono ((Sub.refl h0).upd h1)
def c52 : SFun := ⟨.seq (.reg [o 2 (.mv (.c .emp))]) (.seq (.reg [o 3 (.new 87 1 [.emp])]) (.seq (.seq (.reg [o 6 (.mv (.t 0)), o 7 (.pcall 93 [.t 6])]) (.block 0 (.range (.t 7) [8, 9] (.reg [o 5 (.mv (.t 9))]) (.block 1 (.reg [o 10 (.ld 1 false (.t 3)), o 11 (.mv (.t 5)), o 12 (.bldF 21 1 [.t 11]), o 13 (.app 21 1 4 (.t 10) (.t 12)), ⟨none, .st 1 (.t 3) (.t 13), none⟩]))))) (.seq (.reg [o 14 (.ld 1 false (.t 3)), o 2 (.mv (.t 14))]) .ret))), [.tmp 2]⟩
theorem hc52 : J1 Tryz.prog {pure := [93]} Tryz.f52 = some c52 := by kernel_rfl
theorem decode_ok (s : List UInt8) (hl : s.length <= 1073741824) : PCalls (Pg G) 52 [.str s] (sl YT (decD s)) := PCalls.acc (ty := Ti) (sz := 1) fun h => by
  refine Q1 Tryz.func52 (by kernel_rfl) hc52 (by rw [Tryz.ntmps52]; simp) (by rw [Tryz.ntmps52]; decide) ?_
  simp -dsimp -implicitDefEqProofs (disch := omega) only [VCA, ↓reduceIte, reduceCtorEq, c52]
  intro r0 h0
  refine pcallE.of (signs_ok s) ?_; simp -dsimp -implicitDefEqProofs (disch := omega) only [VCA]
  refine RangeVC.intro (signs1_it s hl) rfl (fun _ => rfl) (fun pre h' => AccV h r0 87 Ti 1 (pre.map fun x => YT x.2.1) h') (fun _ _ _ => False) (AccV.new h0) ?_ ?_ ?_ ⟨fun pre => AccV.strp fun t o ht => .inr (by rw [J9 _ _ (fun e => by subst e; rw [h0] at ht; cases ht)]; exact ht), fun _ _ _ _ q => q.elim⟩
  · rintro pre x h' ⟨_, a, A, S⟩ hN
    simp -dsimp -implicitDefEqProofs (disch := omega) only [VCA, Nat.reduceEqDiff, Nat.reduceLT, ↓reduceIte, Z2, forall_eq, exists_eq_left, exists_eq_left', YT, eSgn, WJ S]
    refine A.app S (by simp; omega) (by simp; omega) fun a' h3 A' S' => ?_
    have iv := Acc.isv A'
    simp -dsimp -implicitDefEqProofs (disch := omega) only [VCA, Nat.reduceEqDiff, Nat.reduceLT, ↓reduceIte, Y7, exists_eq_left', WJ S', iv.1, iv.2]
    exact ⟨h0, a', by simpa [YT] using acc_at A', sub_at S'⟩
  · rintro h' ⟨_, a, A, S⟩
    simp -dsimp -implicitDefEqProofs (disch := omega) only [VCA, Nat.reduceEqDiff, Nat.reduceLT, ↓reduceIte, exists_eq_left', WJ S]
    refine ⟨h', Sub.refl _, ?_, sub_off h0 S⟩
    have e : (sgnM s 0).map (fun x => YT x.2.1) = (decD s).map YT := by
      have := sgnM_dec s 0 (by omega)
      rw [List.drop_zero] at this
      rw [<- this, List.map_map]; rfl
    rw [<- e]
    exact acc_off h0 A
  · intro ex pre h' _ _ hh
    exact hh.elim
def c121 : SFun := ⟨.seq (.reg [o 4 (.mv (.c (.int .i64 0)))]) (.seq (.seq (.reg [o 6 (.mv (.t 0)), o 7 (.len (.t 6)), o 8 (.mv (.c (.int .i64 0)))]) (.block 0 (.loop (.seq (.reg [o 9 (.bin .lss (.t 8) (.t 7))]) (.seq (.cond (.t 9) .skip (.exit 0)) (.seq (.block 1 (.seq (.reg [o 10 (.mv (.t 8)), o 5 (.mv (.t 10))]) (.seq (.reg [o 11 (.mv (.t 1)), o 12 (.mv (.t 0)), o 13 (.mv (.t 5)), o 14 (.idxA 1 (.t 12) (.t 13)), o 15 (.ld 1 false (.t 14)), o 16 (.call (.t 11) [.t 15])]) (.cond (.t 16) (.seq (.reg [o 17 (.mv (.t 5)), o 4 (.mv (.t 17))]) .ret) .skip)))) (.reg [o 18 (.bin .add (.t 8) (.c (.int .i64 1))), o 8 (.mv (.t 18))]))))))) (.seq (.reg [o 4 (.mv (.c (.int .i64 (-1))))]) .ret)), [.tmp 4]⟩
theorem hc121 : J1 Tryz.prog {} Tryz.f121 = some c121 := by kernel_rfl
theorem idxF_ok (L : List Int) (hl : L.length <= 1073741824) (Q : Int -> Prop) (hQ : ∀ x ∈ L, Q x) (f : Nat) (a b : List AVal) (p : Int -> Bool) (hp : ∀ k, Q k -> PCalls (Pg G) f (a ++ ([Q4 k] ++ b)) (.bool (p k))) :
    PCalls (Pg G) 121 [sl Z3 L, .fn f a b] (Q4 (WV p L)) := fun h => by
  refine Q1 Tryz.func121 (by kernel_rfl) hc121 (by rw [Tryz.ntmps121]; simp) (by rw [Tryz.ntmps121]; decide) ?_
  simp -dsimp -implicitDefEqProofs (disch := omega) only [VCA, ↓reduceIte, reduceCtorEq, c121]
  refine LoopVC.intro (fun m e h' => ∃ k : Nat, k <= L.length /\ m = L.length - k /\ e 0 = sl Z3 L /\ e 1 = .fn f a b /\ e 7 = Q4 L.length /\ e 8 = Q4 k /\ h' = h /\ ∀ j, j < k -> p (nth L j) = false) L.length
    ⟨0, by omega, by omega, rfl, rfl, rfl, rfl, rfl, fun j hj => by omega⟩ ?_
  rintro m e h' ⟨k, hk, rfl, e0, e1, e7, e8, rfl, hj⟩
  by_cases hlt : k < L.length
  · have d1 : decide ((k : Int) < (L.length : Int)) = true := decide_eq_true (by omega)
    have g := hp _ (hQ _ (Y2 hlt))
    simp only [List.cons_append, List.nil_append] at g
    obtain ⟨x, hx⟩ : ∃ x, nth L k = x := ⟨_, rfl⟩
    rw [hx] at g
    cases hb : p x
    · rw [hb] at g
      repeat' (first | ((with_reducible refine brC (fun _ => ?_) fun _ => ?_) <;> try (exfalso; omega)) | (with_reducible refine PCalls.of g ?_) | (with_reducible refine And.intro ?_ ?_; · omega) | simp -dsimp -implicitDefEqProofs (disch := omega) only [VCA, Nat.reduceEqDiff, ↓reduceIte, reduceCtorEq, Z3, e0, e1, e7, e8, d1, hx])
      all_goals first
        | (refine ⟨_, by omega, k + 1, by omega, rfl, by omega, fun j hj' => ?_⟩
           by_cases hjk : j = k
           · subst hjk; rw [hx]; exact hb
           · exact hj j (by omega))
        | trace_state
    · rw [hb] at g
      have hi : WV p L = k := WT hlt hj (by rw [hx]; exact hb)
      rw [hi]
      repeat' (first | ((with_reducible refine brC (fun _ => ?_) fun _ => ?_) <;> try (exfalso; omega)) | (with_reducible refine PCalls.of g ?_) | (with_reducible refine And.intro ?_ ?_; · omega) | simp -dsimp -implicitDefEqProofs (disch := omega) only [VCA, Nat.reduceEqDiff, ↓reduceIte, reduceCtorEq, exists_eq_right, Z3, e0, e1, e7, e8, d1, hx])
      all_goals first | exact Sub.refl _ | exact ⟨Sub.refl _, rfl⟩ | trace_state
  · obtain rfl : k = L.length := by omega
    have d1 : decide ((L.length : Int) < (L.length : Int)) = false := decide_eq_false (by omega)
    have hi : WV p L = -1 := WW hj
    rw [hi]
    repeat' (first | ((with_reducible refine brC (fun _ => ?_) fun _ => ?_) <;> try (exfalso; omega)) | (with_reducible refine And.intro ?_ ?_; · omega) | simp -dsimp -implicitDefEqProofs (disch := omega) only [VCA, ↓reduceIte, exists_eq_right, e7, e8, d1])
    all_goals first | exact Sub.refl _ | exact ⟨Sub.refl _, rfl⟩ | trace_state
def c94 : SFun := ⟨.seq (.reg [o 4 (.mv (.c (.bool false)))]) (.seq (.reg [o 5 (.mv (.t 0)), o 6 (.mv (.t 1)), o 7 (.pcall 121 [.t 5, .t 6]), o 8 (.bin .geq (.t 7) (.c (.int .i64 0))), o 4 (.mv (.t 8))]) .ret), [.tmp 4]⟩
theorem hc94 : J1 Tryz.prog {pure := [121]} Tryz.f94 = some c94 := by kernel_rfl
theorem conF_ok (L : List Int) (hl : L.length <= 1073741824) (Q : Int -> Prop) (hQ : ∀ x ∈ L, Q x) (f : Nat) (a b : List AVal) (p : Int -> Bool) (hp : ∀ k, Q k -> PCalls (Pg G) f (a ++ ([Q4 k] ++ b)) (.bool (p k))) :
    PCalls (Pg G) 94 [sl Z3 L, .fn f a b] (.bool (L.any p)) := fun h => by
  have c1 := idxF_ok (G := G) L hl Q hQ f a b p hp
  have hi := idxM_any p L
  rw [<- hi]
  refine Q1 Tryz.func94 (by kernel_rfl) hc94 (by rw [Tryz.ntmps94]; simp) (by rw [Tryz.ntmps94]; decide) ?_
  simp -dsimp -implicitDefEqProofs (disch := omega) only [VCA, Nat.reduceEqDiff, ↓reduceIte, reduceCtorEq, c94]
  repeat' (first | ((with_reducible refine brC (fun _ => ?_) fun _ => ?_) <;> try (exfalso; omega)) | (with_reducible apply pcallE.of; · exact c1) | (with_reducible refine And.intro ?_ ?_; · omega) | simp -dsimp -implicitDefEqProofs (disch := omega) only [VCA, ↓reduceIte, exists_eq_right])
  all_goals first | exact Sub.refl _ | exact ⟨Sub.refl _, rfl⟩ | exact ⟨Sub.refl _, by simp [*]⟩ | trace_state
def bndM (d : HDoc) (n : Int) (nm : List UInt8) (p : Int -> Bool) : Bool := (XX (X5 d n nm)).2 && p (XX (X5 d n nm)).1
def c54 : SFun := ⟨.seq (.reg [o 8 (.mv (.c (.bool false)))]) (.seq (.reg [o 12 (.mv (.t 0)), o 13 (.mv (.t 1)), o 14 (.mv (.t 2)), o 15 (.pcall 38 [.t 12, .t 13, .t 14]), o 16 (.pcall 96 [.t 15]), o 11 (.mv (.t 16)), o 17 (.ext (.t 11) 0), o 18 (.ext (.t 11) 1), o 9 (.mv (.t 17)), o 10 (.mv (.t 18))]) (.seq (.reg [o 19 (.mv (.t 10)), o 20 (.mv (.t 19)), ⟨some 21, .mv (.t 3), some (20, true)⟩, ⟨some 22, .mv (.t 9), some (20, true)⟩, ⟨some 23, .call (.t 21) [.t 22], some (20, true)⟩, o 24 (.pick (.t 20) (.t 23) (.c (.bool false))), o 8 (.mv (.t 24))]) .ret)), [.tmp 8]⟩
theorem hc54 : J1 Tryz.prog {pure := [96, 38]} Tryz.f54 = some c54 := by kernel_rfl
theorem bound_ok {h : Q2} (d : HDoc) (V : DV d) (sm : DocSm d) (o : List Int) (n : Int) (hn : inD d n) (nm : List UInt8) (k : Nat) (a b : List AVal) (p : Int -> Bool) (hp : ∀ v, DCalls (Pg G) k (a ++ ([Q4 v] ++ b)) h fun r h' => r = .bool (p v) /\ h' = h) :
    DCalls (Pg G) 54 [fA d o, Q4 n, .str nm, .fn k a b] h fun r h' => r = .bool (bndM d n nm p) /\ h' = h := by
  have cA := T8 (G := G) d sm o n hn nm
  have al := T6 V hn nm
  have cN := number_ok (G := G) (X5 d n nm) (by omega)
  obtain ⟨F, hF⟩ : ∃ F, fA d o = F := ⟨_, rfl⟩
  rw [hF] at cA
  unfold bndM
  generalize X5 d n nm = v at *
  generalize XX v = q at *
  obtain ⟨x, ok⟩ := q
  have g := hp x
  simp only [List.cons_append, List.nil_append] at g
  simp only at cN ⊢
  generalize p x = pb at *
  cases ok
  · refine Q1 Tryz.func54 (by kernel_rfl) hc54 (by rw [Tryz.ntmps54]; simp) (by rw [Tryz.ntmps54]; decide) ?_
    simp -dsimp -implicitDefEqProofs (disch := omega) only [VCA, Nat.reduceEqDiff, ↓reduceIte, reduceCtorEq, c54, hF]
    repeat' (first | ((with_reducible refine brC (fun _ => ?_) fun _ => ?_) <;> try (exfalso; omega)) | (with_reducible apply pcallE.of; · exact cA) | (with_reducible apply pcallE.of; · exact cN) | (with_reducible refine And.intro ?_ ?_; · omega) | simp -dsimp -implicitDefEqProofs (disch := omega) only [↓Q0 20, VCA, Nat.reduceEqDiff, Nat.reduceAdd, Nat.reduceLT, ↓reduceIte, exists_eq_right_right])
    all_goals first | exact Sub.refl _ | exact ⟨Sub.refl _, rfl⟩ | trace_state
  · refine Q1 Tryz.func54 (by kernel_rfl) hc54 (by rw [Tryz.ntmps54]; simp) (by rw [Tryz.ntmps54]; decide) ?_
    simp -dsimp -implicitDefEqProofs (disch := omega) only [VCA, Nat.reduceEqDiff, ↓reduceIte, reduceCtorEq, c54, hF]
    repeat' (first | ((with_reducible refine brC (fun _ => ?_) fun _ => ?_) <;> try (exfalso; omega)) | (with_reducible apply pcallE.of; · exact cA) | (with_reducible apply pcallE.of; · exact cN) | (with_reducible refine And.intro ?_ ?_; · omega) | simp -dsimp -implicitDefEqProofs (disch := omega) only [↓Q0 20, VCA, Nat.reduceEqDiff, Nat.reduceAdd, Nat.reduceLT, ↓reduceIte])
    refine DCalls.of g ?_
    rintro _ _ ⟨rfl, rfl⟩
    simp -dsimp -implicitDefEqProofs (disch := omega) only [VCA, Nat.reduceEqDiff, ↓reduceIte, exists_eq_right_right]
    first | exact ⟨_, Sub.refl _, rfl, rfl⟩ | exact ⟨Sub.refl _, rfl⟩ | exact Sub.refl _ | trace_state
def c97 : SFun := ⟨.seq (.reg [o 3 (.mv (.c (.bool false)))]) (.seq (.reg [o 4 (.ld 1 false (.t 1)), o 5 (.mv (.t 0)), o 6 (.bin .lss (.t 4) (.t 5)), o 3 (.mv (.t 6))]) .ret), [.tmp 3]⟩
theorem hc97 : J1 Tryz.prog {} Tryz.f97 = some c97 := by kernel_rfl
theorem wrong1_ok {h : Q2} (r : Nat) (x v : Int) (hr : h r = some ⟨.t 3, 1, [[Q4 x]]⟩) : DCalls (Pg G) 97 [Q4 v, .vp r 0] h fun q h' => q = .bool (decide (x < v)) /\ h' = h := by
  obtain ⟨b, hb⟩ : ∃ b, decide (x < v) = b := ⟨_, rfl⟩
  rw [hb]
  refine Q1 Tryz.func97 (by kernel_rfl) hc97 (by rw [Tryz.ntmps97]; simp) (by rw [Tryz.ntmps97]; decide) ?_
  simp -dsimp -implicitDefEqProofs (disch := omega) only [VCA, Nat.reduceEqDiff, Nat.reduceLT, ↓reduceIte, reduceCtorEq, exists_eq_right, exists_eq_left', c97, hr, hb]
  all_goals first | exact ⟨_, Sub.refl _, rfl, rfl⟩ | exact Sub.refl _ | exact ⟨Sub.refl _, rfl⟩ | trace_state
def c98 : SFun := ⟨.seq (.reg [o 3 (.mv (.c (.bool false)))]) (.seq (.reg [o 4 (.ld 1 false (.t 1)), o 5 (.mv (.t 0)), o 6 (.bin .gtr (.t 4) (.t 5)), o 3 (.mv (.t 6))]) .ret), [.tmp 3]⟩
theorem hc98 : J1 Tryz.prog {} Tryz.f98 = some c98 := by kernel_rfl
theorem wrong2_ok {h : Q2} (r : Nat) (x v : Int) (hr : h r = some ⟨.t 3, 1, [[Q4 x]]⟩) : DCalls (Pg G) 98 [Q4 v, .vp r 0] h fun q h' => q = .bool (decide (v < x)) /\ h' = h := by
  obtain ⟨b, hb⟩ : ∃ b, decide (v < x) = b := ⟨_, rfl⟩
  rw [hb]
  refine Q1 Tryz.func98 (by kernel_rfl) hc98 (by rw [Tryz.ntmps98]; simp) (by rw [Tryz.ntmps98]; decide) ?_
  simp -dsimp -implicitDefEqProofs (disch := omega) only [VCA, Nat.reduceEqDiff, Nat.reduceLT, ↓reduceIte, reduceCtorEq, exists_eq_right, exists_eq_left', c98, hr, hb]
  all_goals first | exact ⟨_, Sub.refl _, rfl, rfl⟩ | exact Sub.refl _ | exact ⟨Sub.refl _, rfl⟩ | trace_state
def c55 : SFun := ⟨.seq (.reg [o 3 (.mv (.c (.bool false)))]) (.seq (.reg [o 4 (.ld 1 false (.t 1)), o 5 (.mv (.t 0)), o 6 (.bin .gtr (.t 4) (.t 5)), o 3 (.mv (.t 6))]) .ret), [.tmp 3]⟩
theorem hc55 : J1 Tryz.prog {} Tryz.f55 = some c55 := by kernel_rfl
theorem fault1_ok {h : Q2} (r : Nat) (x v : Int) (hr : h r = some ⟨.t 3, 1, [[Q4 x]]⟩) : DCalls (Pg G) 55 [Q4 v, .vp r 0] h fun q h' => q = .bool (decide (v < x)) /\ h' = h := by
  obtain ⟨b, hb⟩ : ∃ b, decide (v < x) = b := ⟨_, rfl⟩
  rw [hb]
  refine Q1 Tryz.func55 (by kernel_rfl) hc55 (by rw [Tryz.ntmps55]; simp) (by rw [Tryz.ntmps55]; decide) ?_
  simp -dsimp -implicitDefEqProofs (disch := omega) only [VCA, Nat.reduceEqDiff, Nat.reduceLT, ↓reduceIte, reduceCtorEq, exists_eq_right, exists_eq_left', c55, hr, hb]
  all_goals first | exact ⟨_, Sub.refl _, rfl, rfl⟩ | exact Sub.refl _ | exact ⟨Sub.refl _, rfl⟩ | trace_state
def c56 : SFun := ⟨.seq (.reg [o 3 (.mv (.c (.bool false)))]) (.seq (.reg [o 4 (.ld 1 false (.t 1)), o 5 (.mv (.t 0)), o 6 (.bin .lss (.t 4) (.t 5)), o 3 (.mv (.t 6))]) .ret), [.tmp 3]⟩
theorem hc56 : J1 Tryz.prog {} Tryz.f56 = some c56 := by kernel_rfl
theorem fault2_ok {h : Q2} (r : Nat) (x v : Int) (hr : h r = some ⟨.t 3, 1, [[Q4 x]]⟩) : DCalls (Pg G) 56 [Q4 v, .vp r 0] h fun q h' => q = .bool (decide (x < v)) /\ h' = h := by
  obtain ⟨b, hb⟩ : ∃ b, decide (x < v) = b := ⟨_, rfl⟩
  rw [hb]
  refine Q1 Tryz.func56 (by kernel_rfl) hc56 (by rw [Tryz.ntmps56]; simp) (by rw [Tryz.ntmps56]; decide) ?_
  simp -dsimp -implicitDefEqProofs (disch := omega) only [VCA, Nat.reduceEqDiff, Nat.reduceLT, ↓reduceIte, reduceCtorEq, exists_eq_right, exists_eq_left', c56, hr, hb]
  all_goals first | exact ⟨_, Sub.refl _, rfl, rfl⟩ | exact Sub.refl _ | exact ⟨Sub.refl _, rfl⟩ | trace_state
def QU (d : HDoc) (o : List Int) (n k : Int) : Bool :=
  ((nd d k).name == [105, 110, 112, 117, 116]) && ((Y1 d k == [114, 97, 100, 105, 111]) && (X2 d k [99, 104, 101, 99, 107, 101, 100] && ((X5 d k [110, 97, 109, 101] == X5 d n [110, 97, 109, 101]) && (ownM d o k == ownM d o n))))
def missM (d : HDoc) (o : List Int) (n : Int) : Bool :=
  X2 d n [114, 101, 113, 117, 105, 114, 101, 100] && (if TV (Y1 d n) = true then !X2 d n [99, 104, 101, 99, 107, 101, 100] && ((Y1 d n == [99, 104, 101, 99, 107, 98, 111, 120]) || !(o.any (QU d o n))) else X7 d n == [])
def wrongM (d : HDoc) (n : Int) : Bool :=
  (Y1 d n == [110, 117, 109, 98, 101, 114]) && ((X7 d n != []) && (!(XX (X7 d n)).2 || (bndM d n [109, 105, 110] (fun k => decide ((XX (X7 d n)).1 < k)) || bndM d n [109, 97, 120] (fun k => decide (k < (XX (X7 d n)).1)))))
def TJ (d : HDoc) (n : Int) : Int := ((decD (X7 d n)).length : Int)
def faultM (d : HDoc) (o : List Int) (n : Int) : Int :=
  if missM d o n = true then 1 else if bndM d n [109, 97, 120, 108, 101, 110, 103, 116, 104] (fun k => decide (k < TJ d n)) = true then 2
  else if 0 < TJ d n /\ bndM d n [109, 105, 110, 108, 101, 110, 103, 116, 104] (fun k => decide (TJ d n < k)) = true then 3 else if wrongM d n = true then 4 else 0
def c95 : SFun := ⟨.seq (.reg [o 4 (.mv (.c (.bool false)))]) (.seq (.dreg [(o 5 (.ld 1 false (.t 1)), none), (o 6 (.fldA 0 (.t 5)), none), (o 7 (.fldA 0 (.t 6)), none), (o 8 (.fldA 0 (.t 7)), none), (o 9 (.ld 1 false (.t 8)), none), (o 10 (.mv (.t 0)), none), (o 11 (.idxA 6 (.t 9) (.t 10)), none), (o 12 (.fldA 1 (.t 11)), none), (o 13 (.ld 1 false (.t 12)), none), (o 14 (.bin .eql (.t 13) (.c (.str [105, 110, 112, 117, 116]))), none), (o 15 (.mv (.t 14)), none), (⟨some 16, .ld 1 false (.t 1), some (15, true)⟩, none), (⟨some 17, .mv (.t 0), some (15, true)⟩, none), (⟨some 18, .pcall 37 [.t 16, .t 17], some (15, true)⟩, none), (⟨some 19, .bin .eql (.t 18) (.c (.str [114, 97, 100, 105, 111])), some (15, true)⟩, none), (o 20 (.pick (.t 15) (.t 19) (.c (.bool false))), none), (o 21 (.mv (.t 20)), none), (⟨some 22, .ld 1 false (.t 1), some (21, true)⟩, none), (⟨some 23, .mv (.t 0), some (21, true)⟩, none), (⟨some 24, .pcall 78 [.t 22, .t 23, .c (.str [99, 104, 101, 99, 107, 101, 100])], some (21, true)⟩, none), (o 25 (.pick (.t 21) (.t 24) (.c (.bool false))), none), (o 26 (.mv (.t 25)), none), (⟨some 27, .ld 1 false (.t 1), some (26, true)⟩, none), (⟨some 28, .mv (.t 0), some (26, true)⟩, none), (⟨some 29, .pcall 38 [.t 27, .t 28, .c (.str [110, 97, 109, 101])], some (26, true)⟩, none), (⟨some 30, .ld 1 false (.t 1), some (26, true)⟩, none), (⟨some 31, .ld 1 false (.t 2), some (26, true)⟩, none), (⟨some 32, .pcall 38 [.t 30, .t 31, .c (.str [110, 97, 109, 101])], some (26, true)⟩, none), (⟨some 33, .bin .eql (.t 29) (.t 32), some (26, true)⟩, none), (o 34 (.pick (.t 26) (.t 33) (.c (.bool false))), none), (o 35 (.mv (.t 34)), none), (⟨some 36, .ld 1 false (.t 1), some (35, true)⟩, none), (⟨some 37, .mv (.t 0), some (35, true)⟩, none), (⟨some 38, .pcall 35 [.t 36, .t 37], some (35, true)⟩, none), (⟨some 39, .ld 1 false (.t 1), some (35, true)⟩, none), (⟨some 40, .ld 1 false (.t 2), some (35, true)⟩, none), (⟨some 41, .pcall 35 [.t 39, .t 40], some (35, true)⟩, none), (⟨some 42, .bin .eql (.t 38) (.t 41), some (35, true)⟩, none), (o 43 (.pick (.t 35) (.t 42) (.c (.bool false))), none), (o 4 (.mv (.t 43)), none)]) .ret), [.tmp 4]⟩
theorem hc95 : J1 Tryz.prog {pure := [37, 78, 38, 35]} Tryz.f95 = some c95 := by kernel_rfl
theorem hn95 : (Tryz.f95.name == "runtime.NumGoroutine") = false := by kernel_rfl
theorem missing1_ok (hG : X1 G) (hT : QW G) (d : HDoc) (V : DV d) (sm : DocSm d) (o : List Int) (ho : ∀ k ∈ o, inD d k) (hol : o.length <= 1000) (n k : Int) (hn : inD d n) (hk : inD d k) : PCalls (Pg G) 95 [Q4 k, .pin [fA d o], .pin [Q4 n]] (.bool (QU d o n k)) := fun h => by
  have hl := V.len
  have k0 := hk.1
  have k1 := hk.2
  have e0 : nth d.nodes k.toNat = nd d k := rfl
  have cK := kind_ok (G := G) hG hT d V sm o k hk
  have cH := W9 (G := G) d sm o k hk [99, 104, 101, 99, 107, 101, 100]
  have cA := T8 (G := G) d sm o k hk [110, 97, 109, 101]
  have cA2 := T8 (G := G) d sm o n hn [110, 97, 109, 101]
  have cO := owner_ok (G := G) d V sm o ho hol k hk
  have cO2 := owner_ok (G := G) d V sm o ho hol n hn
  have fE : fA d o = .pin [sl Q5 d.nodes, .bool d.quirks, sl Z3 o] := rfl
  rw [fE] at cK cH cA cA2 cO cO2
  unfold QU
  obtain ⟨b1, h1⟩ : ∃ b, ((nd d k).name == [105, 110, 112, 117, 116]) = b := ⟨_, rfl⟩
  obtain ⟨b2, h2⟩ : ∃ b, (Y1 d k == [114, 97, 100, 105, 111]) = b := ⟨_, rfl⟩
  generalize X2 d k [99, 104, 101, 99, 107, 101, 100] = b3 at *
  obtain ⟨b4, h4⟩ : ∃ b, (X5 d k [110, 97, 109, 101] == X5 d n [110, 97, 109, 101]) = b := ⟨_, rfl⟩
  obtain ⟨b5, h5⟩ : ∃ b, (ownM d o k == ownM d o n) = b := ⟨_, rfl⟩
  rw [h1, h2, h4, h5]
  cases b1
  · refine Q1 Tryz.func95 hn95 hc95 (by rw [Tryz.ntmps95]; simp) (by rw [Tryz.ntmps95]; decide) ?_
    simp -dsimp -implicitDefEqProofs (disch := omega) only [↓Z0 15, VCA, Nat.reduceEqDiff, Nat.reduceAdd, Nat.reduceLeDiff, ↓reduceIte, reduceCtorEq, Y6, Q9, Z7, c95, fA]
    repeat' (first | ((with_reducible refine brC (fun _ => ?_) fun _ => ?_) <;> try (exfalso; omega)) | (with_reducible refine And.intro ?_ ?_; · omega) | simp -dsimp -implicitDefEqProofs (disch := omega) only [↓Z0 21, ↓Z0 26, ↓Z0 35, VCA, Nat.reduceEqDiff, Nat.reduceAdd, Nat.reduceLeDiff, ↓reduceIte, Y6, Q9, exists_eq_right_right, Z7, Q5, e0, h1])
    all_goals first | exact Sub.refl _ | exact ⟨Sub.refl _, rfl⟩ | exact ⟨by omega, Sub.refl _⟩ | trace_state
  · cases b2
    · refine Q1 Tryz.func95 hn95 hc95 (by rw [Tryz.ntmps95]; simp) (by rw [Tryz.ntmps95]; decide) ?_
      simp -dsimp -implicitDefEqProofs (disch := omega) only [↓Z0 15, VCA, Nat.reduceEqDiff, Nat.reduceAdd, Nat.reduceLeDiff, ↓reduceIte, reduceCtorEq, Y6, Q9, Z7, c95, fA]
      repeat' (first | ((with_reducible refine brC (fun _ => ?_) fun _ => ?_) <;> try (exfalso; omega)) | (with_reducible apply pcallE.of; · exact cK) | (with_reducible refine And.intro ?_ ?_; · omega) | simp -dsimp -implicitDefEqProofs (disch := omega) only [↓Z0 21, ↓Z0 26, ↓Z0 35, VCA, Nat.reduceEqDiff, Nat.reduceAdd, Nat.reduceLeDiff, ↓reduceIte, reduceCtorEq, Y6, Q9, exists_eq_right_right, Z7, Q5, e0, h1, h2])
      all_goals first | exact Sub.refl _ | exact ⟨Sub.refl _, rfl⟩ | exact ⟨by omega, Sub.refl _⟩ | trace_state
    · cases b3
      · refine Q1 Tryz.func95 hn95 hc95 (by rw [Tryz.ntmps95]; simp) (by rw [Tryz.ntmps95]; decide) ?_
        simp -dsimp -implicitDefEqProofs (disch := omega) only [↓Z0 15, VCA, Nat.reduceEqDiff, Nat.reduceAdd, Nat.reduceLeDiff, ↓reduceIte, reduceCtorEq, Y6, Q9, Z7, c95, fA]
        repeat' (first | ((with_reducible refine brC (fun _ => ?_) fun _ => ?_) <;> try (exfalso; omega)) | (with_reducible apply pcallE.of; · exact cK) | (with_reducible apply pcallE.of; · exact cH) | (with_reducible refine And.intro ?_ ?_; · omega) | simp -dsimp -implicitDefEqProofs (disch := omega) only [↓Z0 21, ↓Z0 26, ↓Z0 35, VCA, Nat.reduceEqDiff, Nat.reduceAdd, Nat.reduceLeDiff, ↓reduceIte, reduceCtorEq, Y6, Q9, exists_eq_right_right, Z7, Q5, e0, h1, h2])
        all_goals first | exact Sub.refl _ | exact ⟨Sub.refl _, rfl⟩ | exact ⟨by omega, Sub.refl _⟩ | trace_state
      · cases b4
        · refine Q1 Tryz.func95 hn95 hc95 (by rw [Tryz.ntmps95]; simp) (by rw [Tryz.ntmps95]; decide) ?_
          simp -dsimp -implicitDefEqProofs (disch := omega) only [↓Z0 15, VCA, Nat.reduceEqDiff, Nat.reduceAdd, Nat.reduceLeDiff, ↓reduceIte, reduceCtorEq, Y6, Q9, Z7, c95, fA]
          repeat' (first | ((with_reducible refine brC (fun _ => ?_) fun _ => ?_) <;> try (exfalso; omega)) | (with_reducible apply pcallE.of; · exact cK) | (with_reducible apply pcallE.of; · exact cH) | (with_reducible apply pcallE.of; · exact cA) | (with_reducible apply pcallE.of; · exact cA2) | (with_reducible refine And.intro ?_ ?_; · omega) | simp -dsimp -implicitDefEqProofs (disch := omega) only [↓Z0 21, ↓Z0 26, ↓Z0 35, VCA, Nat.reduceEqDiff, Nat.reduceAdd, Nat.reduceLeDiff, ↓reduceIte, reduceCtorEq, Y6, Q9, exists_eq_right_right, Z7, Q5, e0, h1, h2, h4])
          all_goals first | exact Sub.refl _ | exact ⟨Sub.refl _, rfl⟩ | exact ⟨by omega, Sub.refl _⟩ | trace_state
        · refine Q1 Tryz.func95 hn95 hc95 (by rw [Tryz.ntmps95]; simp) (by rw [Tryz.ntmps95]; decide) ?_
          simp -dsimp -implicitDefEqProofs (disch := omega) only [↓Z0 15, VCA, Nat.reduceEqDiff, Nat.reduceAdd, Nat.reduceLeDiff, ↓reduceIte, reduceCtorEq, Y6, Q9, Z7, c95, fA]
          repeat' (first | ((with_reducible refine brC (fun _ => ?_) fun _ => ?_) <;> try (exfalso; omega)) | (with_reducible apply pcallE.of; · exact cK) | (with_reducible apply pcallE.of; · exact cH) | (with_reducible apply pcallE.of; · exact cA) | (with_reducible apply pcallE.of; · exact cA2) | (with_reducible apply pcallE.of; · exact cO) | (with_reducible apply pcallE.of; · exact cO2) | (with_reducible refine And.intro ?_ ?_; · omega) | simp -dsimp -implicitDefEqProofs (disch := omega) only [↓Z0 21, ↓Z0 26, ↓Z0 35, VCA, Nat.reduceEqDiff, Nat.reduceAdd, Nat.reduceLeDiff, ↓reduceIte, reduceCtorEq, Y6, Q9, exists_eq_right_right, Z7, Q5, e0, h1, h2, h4, h5])
          all_goals first | exact Sub.refl _ | exact ⟨Sub.refl _, rfl⟩ | exact ⟨by omega, Sub.refl _⟩ | trace_state
def c53 : SFun := ⟨.seq (.reg [o 2 (.boxF 60 1 (.t 0)), o 3 (.boxF 3 1 (.t 1)), o 4 (.mv (.c (.bool false)))]) (.seq (.reg [o 6 (.ld 1 false (.t 2)), o 7 (.ld 1 false (.t 3)), o 8 (.pcall 37 [.t 6, .t 7]), o 5 (.mv (.t 8))]) (.seq (.seq (.reg [o 9 (.ld 1 false (.t 2)), o 10 (.ld 1 false (.t 3)), o 11 (.pcall 78 [.t 9, .t 10, .c (.str [114, 101, 113, 117, 105, 114, 101, 100])]), o 12 (.un .not (.t 11))]) (.cond (.t 12) (.seq (.reg [o 4 (.mv (.c (.bool false)))]) .ret) .skip)) (.seq (.seq (.reg [o 13 (.mv (.t 5)), o 14 (.pcall 82 [.t 13]), o 15 (.un .not (.t 14))]) (.cond (.t 15) (.seq (.reg [o 16 (.ld 1 false (.t 2)), o 17 (.ld 1 false (.t 3)), o 18 (.pcall 51 [.t 16, .t 17]), o 19 (.bin .eql (.t 18) (.c (.str []))), o 4 (.mv (.t 19))]) .ret) .skip)) (.seq (.reg [o 20 (.ld 1 false (.t 2)), o 21 (.ld 1 false (.t 3)), o 22 (.pcall 78 [.t 20, .t 21, .c (.str [99, 104, 101, 99, 107, 101, 100])]), o 23 (.un .not (.t 22)), o 24 (.mv (.t 23)), ⟨some 25, .mv (.t 5), some (24, true)⟩, ⟨some 26, .bin .eql (.t 25) (.c (.str [99, 104, 101, 99, 107, 98, 111, 120])), some (24, true)⟩, ⟨some 27, .mv (.t 26), some (24, true)⟩, ⟨some 28, .ld 1 false (.t 2), some (27, false)⟩, ⟨some 29, .fldA 0 (.t 28), some (27, false)⟩, ⟨some 30, .fldA 2 (.t 29), some (27, false)⟩, ⟨some 31, .ld 1 false (.t 30), some (27, false)⟩, ⟨some 32, .mkf 95 [] [.t 2, .t 3], some (27, false)⟩, ⟨some 33, .pcall 94 [.t 31, .t 32], some (27, false)⟩, ⟨some 34, .un .not (.t 33), some (27, false)⟩, ⟨some 35, .pick (.t 27) (.c (.bool true)) (.t 34), some (24, true)⟩, o 36 (.pick (.t 24) (.t 35) (.c (.bool false))), o 4 (.mv (.t 36))]) .ret)))), [.tmp 4]⟩
theorem hc53 : J1 Tryz.prog {pure := [37, 78, 82, 51, 94]} Tryz.f53 = some c53 := by kernel_rfl
theorem hn53 : (Tryz.f53.name == "runtime.NumGoroutine") = false := by kernel_rfl
theorem missing_ok (hG : X1 G) (hT : QW G) (d : HDoc) (V : DV d) (sm : DocSm d) (o : List Int) (ho : ∀ k ∈ o, inD d k) (hol : o.length <= 1000) (n : Int) (hn : inD d n) : PCalls (Pg G) 53 [fA d o, Q4 n] (.bool (missM d o n)) := fun h => by
  have cK := kind_ok (G := G) hG hT d V sm o n hn
  have cR := W9 (G := G) d sm o n hn [114, 101, 113, 117, 105, 114, 101, 100]
  have cC := W9 (G := G) d sm o n hn [99, 104, 101, 99, 107, 101, 100]
  have cV := value_ok (G := G) hG hT d V sm o n hn
  have cT := ticked_ok (G := G) (Y1 d n)
  have cF := conF_ok (G := G) o (by omega) (inD d) ho 95 [] [.pin [fA d o], .pin [Q4 n]] (QU d o n) fun k hk => missing1_ok hG hT d V sm o ho hol n k hn hk
  have vF : isV (fA d o) = true := rfl
  have wF : cellsOf (fA d o) = [fA d o] := rfl
  have q1 : aFldA 0 (fA d o) = fA d o := rfl
  have q2 : okFldA (fA d o) = True := rfl
  have q3 : aFldA 2 (fA d o) = .pin [sl Z3 o] := rfl
  obtain ⟨F, hF⟩ : ∃ F, fA d o = F := ⟨_, rfl⟩
  rw [hF] at cK cR cC cV cF vF wF q1 q2 q3
  unfold missM
  generalize o.any (QU d o n) = b4 at *
  generalize X2 d n [114, 101, 113, 117, 105, 114, 101, 100] = b1 at *
  generalize X2 d n [99, 104, 101, 99, 107, 101, 100] = b3 at *
  obtain ⟨b2, h2⟩ : ∃ b, TV (Y1 d n) = b := ⟨_, rfl⟩
  rw [h2] at cT ⊢
  obtain ⟨b5, h5⟩ : ∃ b, (Y1 d n == [99, 104, 101, 99, 107, 98, 111, 120]) = b := ⟨_, rfl⟩
  obtain ⟨b6, h6⟩ : ∃ b, (X7 d n == []) = b := ⟨_, rfl⟩
  rw [h5, h6]
  cases b1
  · refine Q1 Tryz.func53 hn53 hc53 (by rw [Tryz.ntmps53]; simp) (by rw [Tryz.ntmps53]; decide) ?_
    simp -dsimp -implicitDefEqProofs (disch := omega) only [VCA, Nat.reduceEqDiff, ↓reduceIte, c53, hF, vF, wF]
    repeat' (first | ((with_reducible refine brC (fun _ => ?_) fun _ => ?_) <;> try (exfalso; omega)) | (with_reducible apply pcallE.of; · exact cK) | (with_reducible apply pcallE.of; · exact cR) | (with_reducible refine And.intro ?_ ?_; · omega) | simp -dsimp -implicitDefEqProofs (disch := omega) only [VCA, Nat.reduceEqDiff, ↓reduceIte, exists_eq_right_right])
    all_goals first | exact Sub.refl _ | exact ⟨Sub.refl _, rfl⟩ | trace_state
  · cases b2
    · refine Q1 Tryz.func53 hn53 hc53 (by rw [Tryz.ntmps53]; simp) (by rw [Tryz.ntmps53]; decide) ?_
      simp -dsimp -implicitDefEqProofs (disch := omega) only [VCA, Nat.reduceEqDiff, ↓reduceIte, c53, hF, vF, wF]
      repeat' (first | ((with_reducible refine brC (fun _ => ?_) fun _ => ?_) <;> try (exfalso; omega)) | (with_reducible apply pcallE.of; · exact cK) | (with_reducible apply pcallE.of; · exact cR) | (with_reducible apply pcallE.of; · exact cT) | (with_reducible apply pcallE.of; · exact cV) | (with_reducible refine And.intro ?_ ?_; · omega) | simp -dsimp -implicitDefEqProofs (disch := omega) only [VCA, Nat.reduceEqDiff, ↓reduceIte, exists_eq_right_right, h6])
      all_goals first | exact Sub.refl _ | exact ⟨Sub.refl _, rfl⟩ | trace_state
    · cases b3
      · cases b5
        · refine Q1 Tryz.func53 hn53 hc53 (by rw [Tryz.ntmps53]; simp) (by rw [Tryz.ntmps53]; decide) ?_
          simp -dsimp -implicitDefEqProofs (disch := omega) only [VCA, Nat.reduceEqDiff, ↓reduceIte, c53, hF, vF, wF]
          repeat' (first | ((with_reducible refine brC (fun _ => ?_) fun _ => ?_) <;> try (exfalso; omega)) | (with_reducible apply pcallE.of; · exact cK) | (with_reducible apply pcallE.of; · exact cR) | (with_reducible apply pcallE.of; · exact cT) | (with_reducible apply pcallE.of; · exact cC) | (with_reducible apply pcallE.of; · exact cF) | (with_reducible refine And.intro ?_ ?_; · omega) | simp -dsimp -implicitDefEqProofs (disch := omega) only [↓Q0 24, ↓Q0 27, VCA, Nat.reduceEqDiff, ↓reduceIte, exists_eq_right_right, h5, q1, q2, q3])
          all_goals first | exact Sub.refl _ | exact ⟨Sub.refl _, rfl⟩ | trace_state
        · refine Q1 Tryz.func53 hn53 hc53 (by rw [Tryz.ntmps53]; simp) (by rw [Tryz.ntmps53]; decide) ?_
          simp -dsimp -implicitDefEqProofs (disch := omega) only [VCA, Nat.reduceEqDiff, ↓reduceIte, c53, hF, vF, wF]
          repeat' (first | ((with_reducible refine brC (fun _ => ?_) fun _ => ?_) <;> try (exfalso; omega)) | (with_reducible apply pcallE.of; · exact cK) | (with_reducible apply pcallE.of; · exact cR) | (with_reducible apply pcallE.of; · exact cT) | (with_reducible apply pcallE.of; · exact cC) | (with_reducible refine And.intro ?_ ?_; · omega) | simp -dsimp -implicitDefEqProofs (disch := omega) only [↓Q0 24, ↓Q0 27, VCA, Nat.reduceEqDiff, ↓reduceIte, exists_eq_right, h5])
          all_goals first | exact Sub.refl _ | exact ⟨Sub.refl _, rfl⟩ | trace_state
      · refine Q1 Tryz.func53 hn53 hc53 (by rw [Tryz.ntmps53]; simp) (by rw [Tryz.ntmps53]; decide) ?_
        simp -dsimp -implicitDefEqProofs (disch := omega) only [VCA, Nat.reduceEqDiff, ↓reduceIte, c53, hF, vF, wF]
        repeat' (first | ((with_reducible refine brC (fun _ => ?_) fun _ => ?_) <;> try (exfalso; omega)) | (with_reducible apply pcallE.of; · exact cK) | (with_reducible apply pcallE.of; · exact cR) | (with_reducible apply pcallE.of; · exact cT) | (with_reducible apply pcallE.of; · exact cC) | (with_reducible refine And.intro ?_ ?_; · omega) | simp -dsimp -implicitDefEqProofs (disch := omega) only [↓Q0 24, ↓Q0 27, VCA, Nat.reduceEqDiff, ↓reduceIte, exists_eq_right_right])
        all_goals first | exact Sub.refl _ | exact ⟨Sub.refl _, rfl⟩ | trace_state
def c57 : SFun := ⟨.seq (.reg [o 4 (.mv (.c (.bool false)))]) (.seq (.seq (.reg [o 7 (.mv (.t 0)), o 8 (.mv (.t 1)), o 9 (.pcall 37 [.t 7, .t 8]), o 10 (.bin .neq (.t 9) (.c (.str [110, 117, 109, 98, 101, 114]))), o 11 (.mv (.t 10)), ⟨some 12, .mv (.t 0), some (11, false)⟩, ⟨some 13, .mv (.t 1), some (11, false)⟩, ⟨some 14, .pcall 51 [.t 12, .t 13], some (11, false)⟩, ⟨some 15, .bin .eql (.t 14) (.c (.str [])), some (11, false)⟩, o 16 (.pick (.t 11) (.c (.bool true)) (.t 15))]) (.cond (.t 16) (.seq (.reg [o 4 (.mv (.c (.bool false)))]) .ret) .skip)) (.seq (.reg [o 18 (.mv (.t 0)), o 19 (.mv (.t 1)), o 20 (.pcall 51 [.t 18, .t 19]), o 21 (.pcall 96 [.t 20]), o 17 (.mv (.t 21)), o 22 (.ext (.t 17) 0), o 23 (.ext (.t 17) 1), o 5 (.new 3 1 [.int .i64 0]), ⟨none, .st 1 (.t 5) (.t 22), none⟩, o 6 (.mv (.t 23))]) (.seq (.reg [o 24 (.mv (.t 6)), o 25 (.un .not (.t 24)), o 26 (.mv (.t 25)), ⟨some 27, .mv (.t 0), some (26, false)⟩, ⟨some 28, .mv (.t 1), some (26, false)⟩, ⟨some 29, .mkf 97 [] [.t 5], some (26, false)⟩, ⟨some 30, .call (.c (.fn 54 [] [])) [.t 27, .t 28, .c (.str [109, 105, 110]), .t 29], some (26, false)⟩, o 31 (.pick (.t 26) (.c (.bool true)) (.t 30)), o 32 (.mv (.t 31)), ⟨some 33, .mv (.t 0), some (32, false)⟩, ⟨some 34, .mv (.t 1), some (32, false)⟩, ⟨some 35, .mkf 98 [] [.t 5], some (32, false)⟩, ⟨some 36, .call (.c (.fn 54 [] [])) [.t 33, .t 34, .c (.str [109, 97, 120]), .t 35], some (32, false)⟩, o 37 (.pick (.t 32) (.c (.bool true)) (.t 36)), o 4 (.mv (.t 37))]) .ret))), [.tmp 4]⟩
theorem hc57 : J1 Tryz.prog {pure := [37, 51, 96]} Tryz.f57 = some c57 := by kernel_rfl
theorem hn57 : (Tryz.f57.name == "runtime.NumGoroutine") = false := by kernel_rfl
theorem wrong_ok (hG : X1 G) (hT : QW G) (d : HDoc) (V : DV d) (sm : DocSm d) (o : List Int) (n : Int) (hn : inD d n) : PCalls (Pg G) 57 [fA d o, Q4 n] (.bool (wrongM d n)) := fun h => by
  have cK := kind_ok (G := G) hG hT d V sm o n hn
  have cV := value_ok (G := G) hG hT d V sm o n hn
  have vl := fvalM_len V hn
  have cN := number_ok (G := G) (X7 d n) (by omega)
  have gMin := fun (h : Q2) (r : Nat) (x : Int) (hr : h r = some ⟨.t 3, 1, [[Q4 x]]⟩) => bound_ok (G := G) d V sm o n hn [109, 105, 110] 97 [] [.vp r 0] (fun k => decide (x < k)) fun v => wrong1_ok r x v hr
  have gMax := fun (h : Q2) (r : Nat) (x : Int) (hr : h r = some ⟨.t 3, 1, [[Q4 x]]⟩) => bound_ok (G := G) d V sm o n hn [109, 97, 120] 98 [] [.vp r 0] (fun k => decide (k < x)) fun v => wrong2_ok r x v hr
  obtain ⟨F, hF⟩ : ∃ F, fA d o = F := ⟨_, rfl⟩
  rw [hF] at cK cV gMin gMax
  unfold wrongM
  obtain ⟨b1, h1⟩ : ∃ b, (Y1 d n == [110, 117, 109, 98, 101, 114]) = b := ⟨_, rfl⟩
  have h1n : (Y1 d n != [110, 117, 109, 98, 101, 114]) = !b1 := by rw [<- h1]; rfl
  obtain ⟨b2, h2⟩ : ∃ b, (X7 d n == []) = b := ⟨_, rfl⟩
  have h2n : (X7 d n != []) = !b2 := by rw [<- h2]; rfl
  rw [h1, h2n]
  generalize X7 d n = v at *
  generalize XX v = q at *
  obtain ⟨x, ok⟩ := q
  simp only at cN ⊢
  cases b1
  · simp only [Bool.not_false] at h1n
    refine Q1 Tryz.func57 hn57 hc57 (by rw [Tryz.ntmps57]; simp) (by rw [Tryz.ntmps57]; decide) ?_
    simp -dsimp -implicitDefEqProofs (disch := omega) only [VCA, Nat.reduceEqDiff, ↓reduceIte, reduceCtorEq, c57, hF]
    repeat' (first | ((with_reducible refine brC (fun _ => ?_) fun _ => ?_) <;> try (exfalso; omega)) | (with_reducible apply pcallE.of; · exact cK) | (with_reducible refine And.intro ?_ ?_; · omega) | simp -dsimp -implicitDefEqProofs (disch := omega) only [↓Q0 11, VCA, Nat.reduceEqDiff, ↓reduceIte, exists_eq_right_right, h1n])
    all_goals first | exact Sub.refl _ | exact ⟨Sub.refl _, rfl⟩ | trace_state
  · simp only [Bool.not_true] at h1n
    cases b2
    · cases ok
      · refine Q1 Tryz.func57 hn57 hc57 (by rw [Tryz.ntmps57]; simp) (by rw [Tryz.ntmps57]; decide) ?_
        simp -dsimp -implicitDefEqProofs (disch := omega) only [VCA, Nat.reduceEqDiff, ↓reduceIte, reduceCtorEq, c57, hF]
        repeat' (first | ((with_reducible refine brC (fun _ => ?_) fun _ => ?_) <;> try (exfalso; omega)) | (with_reducible apply pcallE.of; · exact cK) | (with_reducible apply pcallE.of; · exact cV) | (with_reducible apply pcallE.of; · exact cN) | (with_reducible refine And.intro ?_ ?_; · omega) | simp -dsimp -implicitDefEqProofs (disch := omega) only [↓Q0 11, ↓Q0 26, ↓Q0 32, VCA, Nat.reduceEqDiff, Nat.reduceAdd, Nat.reduceLT, ↓reduceIte, reduceCtorEq, Y7, exists_eq_right, exists_eq_left', h1n, h2])
        intro r hr
        repeat' (first | ((with_reducible refine brC (fun _ => ?_) fun _ => ?_) <;> try (exfalso; omega)) | (with_reducible apply pcallE.of; · exact cK) | (with_reducible apply pcallE.of; · exact cV) | (with_reducible apply pcallE.of; · exact cN) | (with_reducible refine And.intro ?_ ?_; · omega) | simp -dsimp -implicitDefEqProofs (disch := omega) only [↓Q0 11, ↓Z0 11, ↓Q0 26, ↓Z0 26, ↓Q0 32, ↓Z0 32, VCA, TX, ↓U5, Nat.reduceEqDiff, Nat.reduceBEq, Nat.reduceAdd, Nat.reduceSub, Nat.reduceMul, Nat.reduceLT, Nat.reduceLeDiff, ↓reduceIte, reduceCtorEq, Y6, Q9, SOp.rd, SI.rd, SX.rd, rdL, rdO, rdP, Z2, Y3, J6, K7, X0, Y7, implies_true, forall_const, forall_eq, ne_eq, exists_eq_right_right, exists_eq_right, exists_eq_left, exists_eq_left', Z7, Z3, ZJ, X6, YT, ZX, h1n, h2, J7])
        all_goals first | exact (Sub.refl h).upd hr | exact ⟨(Sub.refl h).upd hr, rfl⟩ | trace_state
      · refine Q1 Tryz.func57 hn57 hc57 (by rw [Tryz.ntmps57]; simp) (by rw [Tryz.ntmps57]; decide) ?_
        simp -dsimp -implicitDefEqProofs (disch := omega) only [VCA, Nat.reduceEqDiff, ↓reduceIte, reduceCtorEq, c57, hF]
        repeat' (first | ((with_reducible refine brC (fun _ => ?_) fun _ => ?_) <;> try (exfalso; omega)) | (with_reducible apply pcallE.of; · exact cK) | (with_reducible apply pcallE.of; · exact cV) | (with_reducible apply pcallE.of; · exact cN) | (with_reducible refine And.intro ?_ ?_; · omega) | simp -dsimp -implicitDefEqProofs (disch := omega) only [↓Q0 11, ↓Q0 26, VCA, Nat.reduceEqDiff, Nat.reduceAdd, Nat.reduceLT, ↓reduceIte, reduceCtorEq, Y7, exists_eq_left', h1n, h2])
        intro r hr
        repeat' (first | ((with_reducible refine brC (fun _ => ?_) fun _ => ?_) <;> try (exfalso; omega)) | (with_reducible apply pcallE.of; · exact cK) | (with_reducible apply pcallE.of; · exact cV) | (with_reducible apply pcallE.of; · exact cN) | (with_reducible refine And.intro ?_ ?_; · omega) | simp -dsimp -implicitDefEqProofs (disch := omega) only [↓Q0 11, ↓Z0 11, ↓Q0 26, ↓Z0 26, ↓Q0 32, ↓Z0 32, VCA, TX, ↓U5, Nat.reduceEqDiff, Nat.reduceBEq, Nat.reduceAdd, Nat.reduceSub, Nat.reduceMul, Nat.reduceLT, Nat.reduceLeDiff, ↓reduceIte, reduceCtorEq, Y6, Q9, SOp.rd, SI.rd, SX.rd, rdL, rdO, rdP, Z2, Y3, J6, K7, X0, Y7, implies_true, forall_const, forall_eq, ne_eq, exists_eq_right_right, exists_eq_right, exists_eq_left, exists_eq_left', Z7, Z3, ZJ, X6, YT, ZX, h1n, h2, J7])
        have hr2 := J7 h r (some ⟨.t 3, 1, [[Q4 x]]⟩)
        have g1 := gMin _ r x hr2
        have g2 := gMax _ r x hr2
        generalize bndM d n [109, 105, 110] (fun k => decide (x < k)) = b7 at *
        generalize bndM d n [109, 97, 120] (fun k => decide (k < x)) = b8 at *
        refine DCalls.of g1 ?_
        rintro _ _ ⟨rfl, rfl⟩
        cases b7
        · simp -dsimp -implicitDefEqProofs (disch := omega) only [↓Q0 32, VCA, Nat.reduceEqDiff, ↓reduceIte, reduceCtorEq]
          refine DCalls.of g2 ?_
          rintro _ _ ⟨rfl, rfl⟩
          simp -dsimp -implicitDefEqProofs (disch := omega) only [VCA, Nat.reduceEqDiff, ↓reduceIte, exists_eq_right_right]
          first | exact ⟨(Sub.refl h).upd hr, rfl⟩ | exact (Sub.refl h).upd hr | exact ⟨(Sub.refl h).upd hr, by rw [if_neg (fun q => q.2)]⟩ | trace_state
        · simp -dsimp -implicitDefEqProofs (disch := omega) only [↓Q0 32, VCA, Nat.reduceEqDiff, ↓reduceIte, exists_eq_right]
          first | exact ⟨(Sub.refl h).upd hr, rfl⟩ | exact (Sub.refl h).upd hr | exact ⟨(Sub.refl h).upd hr, by rw [if_neg (fun q => q.2)]⟩ | trace_state
    · refine Q1 Tryz.func57 hn57 hc57 (by rw [Tryz.ntmps57]; simp) (by rw [Tryz.ntmps57]; decide) ?_
      simp -dsimp -implicitDefEqProofs (disch := omega) only [VCA, Nat.reduceEqDiff, ↓reduceIte, reduceCtorEq, c57, hF]
      repeat' (first | ((with_reducible refine brC (fun _ => ?_) fun _ => ?_) <;> try (exfalso; omega)) | (with_reducible apply pcallE.of; · exact cK) | (with_reducible apply pcallE.of; · exact cV) | (with_reducible refine And.intro ?_ ?_; · omega) | simp -dsimp -implicitDefEqProofs (disch := omega) only [↓Q0 11, VCA, Nat.reduceEqDiff, ↓reduceIte, reduceCtorEq, exists_eq_right_right, h1n, h2])
      all_goals first | exact Sub.refl _ | exact ⟨Sub.refl _, rfl⟩ | trace_state
theorem ctlE_zero {d : HDoc} {n : Int} {nm : List UInt8} (h : V5 d n nm = 0) : KU d = 0 /\ inD d n := by
  unfold V5 at h
  split at h
  · rename_i q; exact absurd h q
  · rename_i q
    split at h
    · omega
    · rename_i q2; exact ⟨by simpa using q, Classical.not_not.1 q2⟩
def k17_1 : List UInt8 := [32, 105, 110, 112, 117, 116, 32, 116, 101, 120, 116, 97, 114, 101, 97, 32, 115, 101, 108, 101, 99, 116, 32, 98, 117, 116, 116, 111, 110, 32]
def c17 : SFun := ⟨.seq (.reg [o 2 (.boxF 36 2 (.t 0)), o 4 (.mv (.c (.int .i64 0))), o 5 (.mv (.c (.bool false))), o 6 (.mv (.c (.int .i64 0)))]) (.seq (.reg [o 11 (.ld 2 true (.t 2)), o 12 (.mv (.t 1)), o 13 (.pcall 32 [.t 11, .t 12, .c (.str k17_1)]), o 10 (.mv (.t 13)), o 14 (.ext (.t 10) 0), o 15 (.ext (.t 10) 1), o 7 (.mv (.t 14)), o 8 (.mv (.t 15))]) (.seq (.seq (.reg [o 16 (.mv (.t 8)), o 17 (.bin .neq (.t 16) (.c (.int .i64 0)))]) (.cond (.t 17) (.seq (.reg [o 18 (.mv (.t 8)), o 4 (.mv (.c (.int .i64 0))), o 5 (.mv (.c (.bool false))), o 6 (.mv (.t 18))]) .ret) .skip)) (.seq (.reg [o 19 (.mv (.t 7)), o 20 (.mv (.t 1)), o 21 (.pcall 35 [.t 19, .t 20]), o 9 (.mv (.t 21))]) (.seq (.reg [o 22 (.mv (.t 9)), o 23 (.max2 (.t 22) (.c (.int .i64 0))), o 24 (.mv (.t 9)), o 25 (.bin .geq (.t 24) (.c (.int .i64 0))), o 4 (.mv (.t 23)), o 5 (.mv (.t 25)), o 6 (.mv (.c (.int .i64 0)))]) .ret)))), [.tmp 4, .tmp 5, .tmp 6]⟩
theorem hc17 : J1 Tryz.prog {pure := [32, 35]} Tryz.f17 = some c17 := by kernel_rfl
theorem fOwner_ok (hG : X1 G) (d : HDoc) (sm : DocSm d) (n : Int) : PCalls (Pg G) 17 [.agg (Q7 d), Q4 n]
    (if V5 d n V6 = 0 then .tup [Q4 (max (ownM d (Z4 d 0) n) 0), .bool (decide (0 <= ownM d (Z4 d 0) n)), Q4 0] else .tup [Q4 0, .bool false, Q4 (V5 d n V6)]) := fun h => by
  have cC := control_ok (G := G) hG d sm n V6 (by decide +kernel) (by decide)
  have ek : k17_1 = 32 :: (V6 ++ [32]) := by decide +kernel
  unfold Q7 at cC
  by_cases h0 : V5 d n V6 = 0
  · obtain ⟨hd0, hn⟩ := ctlE_zero h0
    have V := VQ hd0
    have hl := V.len
    have bl := U1 V V.zero
    have oD : W8 d = Z4 d 0 := if_pos hd0
    have cO := owner_ok (G := G) d V sm (Z4 d 0) (T7 V 0 V.zero) (by omega) n hn
    rw [h0, oD] at cC
    rw [if_pos h0]
    have bz : ((0 : Int) != 0) = false := rfl
    generalize fA d (Z4 d 0) = F at *
    generalize ownM d (Z4 d 0) n = x at *
    obtain ⟨b, hb⟩ : ∃ b, decide (0 <= x) = b := ⟨_, rfl⟩
    rw [hb]
    refine Q1 Tryz.func17 (by kernel_rfl) hc17 (by rw [Tryz.ntmps17]; simp) (by rw [Tryz.ntmps17]; decide) ?_
    simp -dsimp -implicitDefEqProofs (disch := omega) only [VCA, Nat.reduceEqDiff, Nat.reduceAdd, ↓reduceIte, c17, Q7, ek]
    repeat' (first | ((with_reducible refine brC (fun _ => ?_) fun _ => ?_) <;> try (exfalso; omega)) | (with_reducible apply pcallE.of; · exact cC) | (with_reducible apply pcallE.of; · exact cO) | (with_reducible refine And.intro ?_ ?_; · omega) | simp -dsimp -implicitDefEqProofs (disch := omega) only [VCA, Nat.reduceEqDiff, Nat.reduceAdd, Nat.reduceLT, ↓reduceIte, exists_eq_right, bz, hb])
    all_goals first | exact Sub.refl _ | exact ⟨Sub.refl _, rfl⟩ | trace_state
  · rw [if_neg h0]
    generalize V5 d n V6 = x at *
    have bx : (x != 0) = true := by simpa using h0
    generalize fA d (W8 d) = F at *
    refine Q1 Tryz.func17 (by kernel_rfl) hc17 (by rw [Tryz.ntmps17]; simp) (by rw [Tryz.ntmps17]; decide) ?_
    simp -dsimp -implicitDefEqProofs (disch := omega) only [VCA, Nat.reduceEqDiff, Nat.reduceAdd, ↓reduceIte, c17, Q7, ek]
    repeat' (first | ((with_reducible refine brC (fun _ => ?_) fun _ => ?_) <;> try (exfalso; omega)) | (with_reducible apply pcallE.of; · exact cC) | (with_reducible refine And.intro ?_ ?_; · omega) | simp -dsimp -implicitDefEqProofs (disch := omega) only [VCA, Nat.reduceEqDiff, Nat.reduceAdd, Nat.reduceLT, ↓reduceIte, exists_eq_right, bx])
    all_goals first | exact Sub.refl _ | exact ⟨Sub.refl _, rfl⟩ | trace_state
def k18_1 : List UInt8 := [32, 105, 110, 112, 117, 116, 32, 116, 101, 120, 116, 97, 114, 101, 97, 32, 115, 101, 108, 101, 99, 116, 32, 98, 117, 116, 116, 111, 110, 32]
def c18 : SFun := ⟨.seq (.reg [o 2 (.boxF 36 2 (.t 0)), o 4 (.mv (.c (.str []))), o 5 (.mv (.c (.int .i64 0)))]) (.seq (.reg [o 9 (.ld 2 true (.t 2)), o 10 (.mv (.t 1)), o 11 (.pcall 32 [.t 9, .t 10, .c (.str k18_1)]), o 8 (.mv (.t 11)), o 12 (.ext (.t 8) 0), o 13 (.ext (.t 8) 1), o 6 (.mv (.t 12)), o 7 (.mv (.t 13))]) (.seq (.seq (.reg [o 14 (.mv (.t 7)), o 15 (.bin .neq (.t 14) (.c (.int .i64 0)))]) (.cond (.t 15) (.seq (.reg [o 16 (.mv (.t 7)), o 4 (.mv (.c (.str []))), o 5 (.mv (.t 16))]) .ret) .skip)) (.seq (.reg [o 17 (.mv (.t 6)), o 18 (.mv (.t 1)), o 19 (.pcall 51 [.t 17, .t 18]), o 4 (.mv (.t 19)), o 5 (.mv (.c (.int .i64 0)))]) .ret))), [.tmp 4, .tmp 5]⟩
theorem hc18 : J1 Tryz.prog {pure := [32, 51]} Tryz.f18 = some c18 := by kernel_rfl
theorem fValue_ok (hG : X1 G) (hT : QW G) (d : HDoc) (sm : DocSm d) (n : Int) : PCalls (Pg G) 18 [.agg (Q7 d), Q4 n]
    (if V5 d n V6 = 0 then .tup [.str (X7 d n), Q4 0] else .tup [.str [], Q4 (V5 d n V6)]) := fun h => by
  have cC := control_ok (G := G) hG d sm n V6 (by decide +kernel) (by decide)
  have ek : k18_1 = 32 :: (V6 ++ [32]) := by decide +kernel
  unfold Q7 at cC
  by_cases h0 : V5 d n V6 = 0
  · obtain ⟨hd0, hn⟩ := ctlE_zero h0
    have V := VQ hd0
    have cO := value_ok (G := G) hG hT d V sm (W8 d) n hn
    rw [h0] at cC
    rw [if_pos h0]
    have bz : ((0 : Int) != 0) = false := rfl
    generalize fA d (W8 d) = F at *
    generalize X7 d n = x at *
    refine Q1 Tryz.func18 (by kernel_rfl) hc18 (by rw [Tryz.ntmps18]; simp) (by rw [Tryz.ntmps18]; decide) ?_
    simp -dsimp -implicitDefEqProofs (disch := omega) only [VCA, Nat.reduceEqDiff, Nat.reduceAdd, ↓reduceIte, c18, Q7, ek]
    repeat' (first | ((with_reducible refine brC (fun _ => ?_) fun _ => ?_) <;> try (exfalso; omega)) | (with_reducible apply pcallE.of; · exact cC) | (with_reducible apply pcallE.of; · exact cO) | (with_reducible refine And.intro ?_ ?_; · omega) | simp -dsimp -implicitDefEqProofs (disch := omega) only [VCA, Nat.reduceEqDiff, Nat.reduceAdd, Nat.reduceLT, ↓reduceIte, exists_eq_right, bz])
    all_goals first | exact Sub.refl _ | exact ⟨Sub.refl _, rfl⟩ | trace_state
  · rw [if_neg h0]
    generalize V5 d n V6 = x at *
    have bx : (x != 0) = true := by simpa using h0
    generalize fA d (W8 d) = F at *
    refine Q1 Tryz.func18 (by kernel_rfl) hc18 (by rw [Tryz.ntmps18]; simp) (by rw [Tryz.ntmps18]; decide) ?_
    simp -dsimp -implicitDefEqProofs (disch := omega) only [VCA, Nat.reduceEqDiff, Nat.reduceAdd, ↓reduceIte, c18, Q7, ek]
    repeat' (first | ((with_reducible refine brC (fun _ => ?_) fun _ => ?_) <;> try (exfalso; omega)) | (with_reducible apply pcallE.of; · exact cC) | (with_reducible refine And.intro ?_ ?_; · omega) | simp -dsimp -implicitDefEqProofs (disch := omega) only [VCA, Nat.reduceEqDiff, Nat.reduceAdd, Nat.reduceLT, ↓reduceIte, exists_eq_right, bx])
    all_goals first | exact Sub.refl _ | exact ⟨Sub.refl _, rfl⟩ | trace_state
def k19_1 : List UInt8 := [32, 105, 110, 112, 117, 116, 32, 116, 101, 120, 116, 97, 114, 101, 97, 32, 115, 101, 108, 101, 99, 116, 32, 98, 117, 116, 116, 111, 110, 32]
def c19 : SFun := ⟨.seq (.reg [o 2 (.boxF 36 2 (.t 0)), o 4 (.mv (.c (.int .i64 0))), o 5 (.mv (.c (.int .i64 0)))]) (.seq (.reg [o 10 (.ld 2 true (.t 2)), o 11 (.mv (.t 1)), o 12 (.pcall 32 [.t 10, .t 11, .c (.str k19_1)]), o 9 (.mv (.t 12)), o 13 (.ext (.t 9) 0), o 14 (.ext (.t 9) 1), o 6 (.mv (.t 13)), o 7 (.mv (.t 14))]) (.seq (.seq (.reg [o 15 (.mv (.t 7)), o 16 (.bin .neq (.t 15) (.c (.int .i64 0)))]) (.cond (.t 16) (.seq (.reg [o 17 (.mv (.t 7)), o 4 (.mv (.c (.int .i64 0))), o 5 (.mv (.t 17))]) .ret) .skip)) (.seq (.reg [o 18 (.mv (.t 6)), o 19 (.mv (.t 1)), o 20 (.pcall 51 [.t 18, .t 19]), o 21 (.pcall 52 [.t 20]), o 22 (.len (.t 21)), o 8 (.new 3 1 [.int .i64 0]), ⟨none, .st 1 (.t 8) (.t 22), none⟩]) (.seq (.block 0 (.seq (.reg [o 24 (.mv (.t 6)), o 25 (.mv (.t 1)), o 26 (.pcall 53 [.t 24, .t 25]), o 23 (.mv (.t 26))]) (.cond (.t 23) (.seq (.reg [o 4 (.mv (.c (.int .i64 1))), o 5 (.mv (.c (.int .i64 0)))]) .ret) (.seq (.reg [o 28 (.mv (.t 6)), o 29 (.mv (.t 1)), o 30 (.mkf 55 [] [.t 8]), o 31 (.call (.c (.fn 54 [] [])) [.t 28, .t 29, .c (.str [109, 97, 120, 108, 101, 110, 103, 116, 104]), .t 30]), o 27 (.mv (.t 31))]) (.cond (.t 27) (.seq (.reg [o 4 (.mv (.c (.int .i64 2))), o 5 (.mv (.c (.int .i64 0)))]) .ret) (.seq (.reg [o 33 (.ld 1 false (.t 8)), o 34 (.bin .gtr (.t 33) (.c (.int .i64 0))), o 35 (.mv (.t 34)), ⟨some 36, .mv (.t 6), some (35, true)⟩, ⟨some 37, .mv (.t 1), some (35, true)⟩, ⟨some 38, .mkf 56 [] [.t 8], some (35, true)⟩, ⟨some 39, .call (.c (.fn 54 [] [])) [.t 36, .t 37, .c (.str [109, 105, 110, 108, 101, 110, 103, 116, 104]), .t 38], some (35, true)⟩, o 40 (.pick (.t 35) (.t 39) (.c (.bool false))), o 32 (.mv (.t 40))]) (.cond (.t 32) (.seq (.reg [o 4 (.mv (.c (.int .i64 3))), o 5 (.mv (.c (.int .i64 0)))]) .ret) (.seq (.reg [o 42 (.mv (.t 6)), o 43 (.mv (.t 1)), o 44 (.pcall 57 [.t 42, .t 43]), o 41 (.mv (.t 44))]) (.cond (.t 41) (.seq (.reg [o 4 (.mv (.c (.int .i64 4))), o 5 (.mv (.c (.int .i64 0)))]) .ret) .skip))))))))) (.seq (.reg [o 4 (.mv (.c (.int .i64 0))), o 5 (.mv (.c (.int .i64 0)))]) .ret))))), [.tmp 4, .tmp 5]⟩
theorem hc19 : J1 Tryz.prog {pure := [32, 51, 52, 53, 57]} Tryz.f19 = some c19 := by kernel_rfl
theorem hn19 : (Tryz.f19.name == "runtime.NumGoroutine") = false := by kernel_rfl
theorem fFault_ok (hG : X1 G) (hT : QW G) (d : HDoc) (sm : DocSm d) (n : Int) : PCalls (Pg G) 19 [.agg (Q7 d), Q4 n]
    (if V5 d n V6 = 0 then .tup [Q4 (faultM d (Z4 d 0) n), Q4 0] else .tup [Q4 0, Q4 (V5 d n V6)]) := fun h => by
  have cC := control_ok (G := G) hG d sm n V6 (by decide +kernel) (by decide)
  have ek : k19_1 = 32 :: (V6 ++ [32]) := by decide +kernel
  unfold Q7 at cC
  by_cases h0 : V5 d n V6 = 0
  · obtain ⟨hd0, hn⟩ := ctlE_zero h0
    have V := VQ hd0
    have hl := V.len
    have bl := U1 V V.zero
    have bi := T7 V 0 V.zero
    have oD : W8 d = Z4 d 0 := if_pos hd0
    rw [h0, oD] at cC
    rw [if_pos h0]
    obtain ⟨o, ho⟩ : ∃ o, Z4 d 0 = o := ⟨_, rfl⟩
    rw [ho] at cC bl bi ⊢
    have cV := value_ok (G := G) hG hT d V sm o n hn
    have vl := fvalM_len V hn
    have cD := decode_ok (G := G) (X7 d n) (by omega)
    have cM := missing_ok (G := G) hG hT d V sm o bi (by omega) n hn
    have cW := wrong_ok (G := G) hG hT d V sm o n hn
    have gX := fun (h : Q2) (r : Nat) (x : Int) (hr : h r = some ⟨.t 3, 1, [[Q4 x]]⟩) => bound_ok (G := G) d V sm o n hn [109, 97, 120, 108, 101, 110, 103, 116, 104] 55 [] [.vp r 0] (fun k => decide (k < x)) fun v => fault1_ok r x v hr
    have gN := fun (h : Q2) (r : Nat) (x : Int) (hr : h r = some ⟨.t 3, 1, [[Q4 x]]⟩) => bound_ok (G := G) d V sm o n hn [109, 105, 110, 108, 101, 110, 103, 116, 104] 56 [] [.vp r 0] (fun k => decide (x < k)) fun v => fault2_ok r x v hr
    have bz : ((0 : Int) != 0) = false := rfl
    have hM : TJ d n = ((decD (X7 d n)).length : Int) := rfl
    unfold faultM
    rw [hM]
    generalize fA d o = F at *
    generalize X7 d n = v at *
    generalize decD v = L at *
    generalize missM d o n = b1 at *
    generalize wrongM d n = b2 at *
    cases b1
    · refine Q1 Tryz.func19 hn19 hc19 (by rw [Tryz.ntmps19]; simp) (by rw [Tryz.ntmps19]; decide) ?_
      simp -dsimp -implicitDefEqProofs (disch := omega) only [VCA, Nat.reduceEqDiff, Nat.reduceAdd, ↓reduceIte, c19, Q7, ek]
      repeat' (first | ((with_reducible refine brC (fun _ => ?_) fun _ => ?_) <;> try (exfalso; omega)) | (with_reducible apply pcallE.of; · exact cC) | (with_reducible apply pcallE.of; · exact cV) | (with_reducible apply pcallE.of; · exact cD) | (with_reducible apply pcallE.of; · exact cM) | (with_reducible refine And.intro ?_ ?_; · omega) | simp -dsimp -implicitDefEqProofs (disch := omega) only [VCA, Nat.reduceEqDiff, Nat.reduceAdd, Nat.reduceLT, ↓reduceIte, Y7, exists_eq_left', bz])
      intro r hr
      have hr2 := J7 h r (some ⟨.t 3, 1, [[Q4 L.length]]⟩)
      have g1 := gX _ r _ hr2
      have g2 := gN _ r _ hr2
      generalize bndM d n [109, 97, 120, 108, 101, 110, 103, 116, 104] (fun k => decide (k < (L.length : Int))) = b7 at *
      generalize bndM d n [109, 105, 110, 108, 101, 110, 103, 116, 104] (fun k => decide ((L.length : Int) < k)) = b8 at *
      repeat' (first | ((with_reducible refine brC (fun _ => ?_) fun _ => ?_) <;> try (exfalso; omega)) | (with_reducible apply pcallE.of; · exact cM) | (with_reducible refine And.intro ?_ ?_; · omega) | simp -dsimp -implicitDefEqProofs (disch := omega) only [VCA, Nat.reduceEqDiff, ↓reduceIte])
      refine DCalls.of g1 ?_
      rintro _ _ ⟨rfl, rfl⟩
      cases b7
      · by_cases hp : 0 < (L.length : Int)
        · have dp : decide (0 < (L.length : Int)) = true := decide_eq_true hp
          repeat' (first | ((with_reducible refine brC (fun _ => ?_) fun _ => ?_) <;> try (exfalso; omega)) | (with_reducible refine And.intro ?_ ?_; · omega) | simp -dsimp -implicitDefEqProofs (disch := omega) only [↓Q0 35, VCA, Nat.reduceEqDiff, Nat.reduceLT, ↓reduceIte, exists_eq_left', dp])
          refine DCalls.of g2 ?_
          rintro _ _ ⟨rfl, rfl⟩
          cases b8
          · cases b2
            all_goals
              repeat' (first | ((with_reducible refine brC (fun _ => ?_) fun _ => ?_) <;> try (exfalso; omega)) | (with_reducible apply pcallE.of; · exact cW) | (with_reducible refine And.intro ?_ ?_; · omega) | simp -dsimp -implicitDefEqProofs (disch := omega) only [VCA, Nat.reduceEqDiff, ↓reduceIte, exists_eq_right_right])
            all_goals first | exact ⟨(Sub.refl h).upd hr, rfl⟩ | exact (Sub.refl h).upd hr | exact ⟨(Sub.refl h).upd hr, by rw [if_neg (fun q => q.2)]⟩ | trace_state
          · repeat' (first | ((with_reducible refine brC (fun _ => ?_) fun _ => ?_) <;> try (exfalso; omega)) | (with_reducible apply pcallE.of; · exact cW) | (with_reducible refine And.intro ?_ ?_; · omega) | simp -dsimp -implicitDefEqProofs (disch := omega) only [VCA, Nat.reduceEqDiff, ↓reduceIte, exists_eq_right_right])
            all_goals first | exact ⟨(Sub.refl h).upd hr, rfl⟩ | exact ⟨(Sub.refl h).upd hr, by rw [if_pos hp]⟩ | (refine ⟨(Sub.refl h).upd hr, ?_⟩; simp [hp]; done) | (refine ⟨(Sub.refl h).upd hr, ?_⟩; simp; omega) | trace_state
        · have dp : decide (0 < (L.length : Int)) = false := decide_eq_false hp
          cases b2
          all_goals
            repeat' (first | ((with_reducible refine brC (fun _ => ?_) fun _ => ?_) <;> try (exfalso; omega)) | (with_reducible apply pcallE.of; · exact cW) | (with_reducible refine And.intro ?_ ?_; · omega) | simp -dsimp -implicitDefEqProofs (disch := omega) only [↓Q0 35, VCA, Nat.reduceEqDiff, Nat.reduceLT, ↓reduceIte, exists_eq_right_right, exists_eq_left', dp])
          all_goals first | exact ⟨(Sub.refl h).upd hr, rfl⟩ | (refine ⟨(Sub.refl h).upd hr, ?_⟩; simp []; done) | (refine ⟨(Sub.refl h).upd hr, ?_⟩; simp; omega) | trace_state
      · repeat' (first | ((with_reducible refine brC (fun _ => ?_) fun _ => ?_) <;> try (exfalso; omega)) | (with_reducible refine And.intro ?_ ?_; · omega) | simp -dsimp -implicitDefEqProofs (disch := omega) only [VCA, Nat.reduceEqDiff, ↓reduceIte, exists_eq_right])
        all_goals first | exact ⟨(Sub.refl h).upd hr, rfl⟩ | exact (Sub.refl h).upd hr | exact ⟨(Sub.refl h).upd hr, by rw [if_neg (fun q => q.2)]⟩ | trace_state
    · refine Q1 Tryz.func19 hn19 hc19 (by rw [Tryz.ntmps19]; simp) (by rw [Tryz.ntmps19]; decide) ?_
      simp -dsimp -implicitDefEqProofs (disch := omega) only [VCA, Nat.reduceEqDiff, Nat.reduceAdd, ↓reduceIte, c19, Q7, ek]
      repeat' (first | ((with_reducible refine brC (fun _ => ?_) fun _ => ?_) <;> try (exfalso; omega)) | (with_reducible apply pcallE.of; · exact cC) | (with_reducible apply pcallE.of; · exact cV) | (with_reducible apply pcallE.of; · exact cD) | (with_reducible apply pcallE.of; · exact cM) | (with_reducible refine And.intro ?_ ?_; · omega) | simp -dsimp -implicitDefEqProofs (disch := omega) only [VCA, Nat.reduceEqDiff, Nat.reduceAdd, Nat.reduceLT, ↓reduceIte, Y7, exists_eq_left', bz])
      intro r hr
      repeat' (first | ((with_reducible refine brC (fun _ => ?_) fun _ => ?_) <;> try (exfalso; omega)) | (with_reducible apply pcallE.of; · exact cM) | (with_reducible refine And.intro ?_ ?_; · omega) | simp -dsimp -implicitDefEqProofs (disch := omega) only [VCA, Nat.reduceEqDiff, ↓reduceIte, exists_eq_right])
      all_goals first | exact ⟨(Sub.refl h).upd hr, rfl⟩ | exact (Sub.refl h).upd hr | exact ⟨(Sub.refl h).upd hr, by rw [if_neg (fun q => q.2)]⟩ | trace_state
  · rw [if_neg h0]
    generalize V5 d n V6 = x at *
    have bx : (x != 0) = true := by simpa using h0
    generalize fA d (W8 d) = F at *
    refine Q1 Tryz.func19 hn19 hc19 (by rw [Tryz.ntmps19]; simp) (by rw [Tryz.ntmps19]; decide) ?_
    simp -dsimp -implicitDefEqProofs (disch := omega) only [VCA, Nat.reduceEqDiff, Nat.reduceAdd, ↓reduceIte, c19, Q7, ek]
    repeat' (first | ((with_reducible refine brC (fun _ => ?_) fun _ => ?_) <;> try (exfalso; omega)) | (with_reducible apply pcallE.of; · exact cC) | (with_reducible refine And.intro ?_ ?_; · omega) | simp -dsimp -implicitDefEqProofs (disch := omega) only [VCA, Nat.reduceEqDiff, Nat.reduceAdd, Nat.reduceLT, ↓reduceIte, exists_eq_right, bx])
    all_goals first | exact Sub.refl _ | exact ⟨Sub.refl _, rfl⟩ | trace_state
theorem attrOf_att (l : List HAttr) (nm : List UInt8) : (UT l nm).1 = attV l nm := by
  unfold UT attV; split <;> rfl
def c49 : SFun := ⟨.seq (.reg [o 3 (.boxF 36 2 (.t 0)), o 6 (.mv (.c (.bool false)))]) (.seq (.reg [o 10 (.fldA 0 (.t 3)), o 11 (.ld 1 false (.t 10)), o 12 (.mv (.t 1)), o 13 (.idxA 6 (.t 11) (.t 12)), o 14 (.fldA 2 (.t 13)), o 15 (.ld 1 false (.t 14)), o 16 (.mv (.t 2)), o 17 (.pcall 90 [.t 15, .t 16]), o 9 (.mv (.t 17)), o 18 (.ext (.t 9) 0), o 19 (.ext (.t 9) 1), o 7 (.mv (.t 18)), o 8 (.mv (.t 19))]) (.seq (.reg [o 20 (.mv (.t 8)), o 6 (.mv (.t 20))]) .ret)), [.tmp 6]⟩
theorem hc49 : J1 Tryz.prog {pure := [90]} Tryz.f49 = some c49 := by kernel_rfl
theorem YV (d : HDoc) (sm : DocSm d) (n : Int) (hn : inD d n) (nm : List UInt8) : PCalls (Pg G) 49 [.agg (Q7 d), Q4 n, .str nm] (.bool (X2 d n nm)) := fun h => by
  have hl := sm.len
  have n0 := hn.1
  have n1 := hn.2
  have e0 : nth d.nodes n.toNat = nd d n := rfl
  have c1 := attrOf_ok (G := G) (nd d n).attrs nm (sm.nd n).attrs
  rw [attrOf_has] at c1
  refine Q1 Tryz.func49 (by kernel_rfl) hc49 (by rw [Tryz.ntmps49]; simp) (by rw [Tryz.ntmps49]; decide) ?_
  simp -dsimp -implicitDefEqProofs (disch := omega) only [VCA, Nat.reduceEqDiff, Nat.reduceAdd, Nat.reduceLeDiff, ↓reduceIte, c49, Q7, Q5, e0]
  repeat' (first | ((with_reducible refine brC (fun _ => ?_) fun _ => ?_) <;> try (exfalso; omega)) | (with_reducible apply pcallE.of; · exact c1) | (with_reducible refine And.intro ?_ ?_; · omega) | simp -dsimp -implicitDefEqProofs (disch := omega) only [VCA, Nat.reduceEqDiff, Nat.reduceAdd, Nat.reduceLT, ↓reduceIte, exists_eq_right_right])
  all_goals first | exact ⟨by omega, Sub.refl _, rfl⟩ | exact ⟨Sub.refl _, rfl⟩ | exact Sub.refl _ | trace_state
def c46 : SFun := ⟨.seq (.reg [o 3 (.boxF 36 2 (.t 0)), o 6 (.mv (.c (.str [])))]) (.seq (.reg [o 10 (.fldA 0 (.t 3)), o 11 (.ld 1 false (.t 10)), o 12 (.mv (.t 1)), o 13 (.idxA 6 (.t 11) (.t 12)), o 14 (.fldA 2 (.t 13)), o 15 (.ld 1 false (.t 14)), o 16 (.mv (.t 2)), o 17 (.pcall 90 [.t 15, .t 16]), o 9 (.mv (.t 17)), o 18 (.ext (.t 9) 0), o 19 (.ext (.t 9) 1), o 7 (.mv (.t 18)), o 8 (.mv (.t 19))]) (.seq (.reg [o 20 (.mv (.t 7)), o 6 (.mv (.t 20))]) .ret)), [.tmp 6]⟩
theorem hc46 : J1 Tryz.prog {pure := [90]} Tryz.f46 = some c46 := by kernel_rfl
theorem JT (d : HDoc) (sm : DocSm d) (n : Int) (hn : inD d n) (nm : List UInt8) : PCalls (Pg G) 46 [.agg (Q7 d), Q4 n, .str nm] (.str (X5 d n nm)) := fun h => by
  have hl := sm.len
  have n0 := hn.1
  have n1 := hn.2
  have e0 : nth d.nodes n.toNat = nd d n := rfl
  have c1 := attrOf_ok (G := G) (nd d n).attrs nm (sm.nd n).attrs
  rw [attrOf_att] at c1
  refine Q1 Tryz.func46 (by kernel_rfl) hc46 (by rw [Tryz.ntmps46]; simp) (by rw [Tryz.ntmps46]; decide) ?_
  simp -dsimp -implicitDefEqProofs (disch := omega) only [VCA, Nat.reduceEqDiff, Nat.reduceAdd, Nat.reduceLeDiff, ↓reduceIte, c46, Q7, Q5, e0]
  repeat' (first | ((with_reducible refine brC (fun _ => ?_) fun _ => ?_) <;> try (exfalso; omega)) | (with_reducible apply pcallE.of; · exact c1) | (with_reducible refine And.intro ?_ ?_; · omega) | simp -dsimp -implicitDefEqProofs (disch := omega) only [VCA, Nat.reduceEqDiff, Nat.reduceAdd, Nat.reduceLT, ↓reduceIte, exists_eq_right_right])
  all_goals first | exact ⟨by omega, Sub.refl _, rfl⟩ | exact ⟨Sub.refl _, rfl⟩ | exact Sub.refl _ | trace_state
def k42_1 : List UInt8 := [105, 110, 112, 117, 116, 32, 116, 101, 120, 116, 97, 114, 101, 97, 32, 115, 101, 108, 101, 99, 116, 32, 98, 117, 116, 116, 111, 110]
def c42 : SFun := ⟨.seq (.reg [o 2 (.boxF 36 2 (.t 0)), o 4 (.mv (.c (.bool false)))]) (.seq (.reg [o 5 (.fldA 0 (.t 2)), o 6 (.ld 1 false (.t 5)), o 7 (.mv (.t 1)), o 8 (.idxA 6 (.t 6) (.t 7)), o 9 (.fldA 0 (.t 8)), o 10 (.ld 1 false (.t 9)), o 11 (.bin .eql (.t 10) (.c (.int .i64 2))), o 12 (.mv (.t 11)), ⟨some 13, .fldA 0 (.t 2), some (12, true)⟩, ⟨some 14, .ld 1 false (.t 13), some (12, true)⟩, ⟨some 15, .mv (.t 1), some (12, true)⟩, ⟨some 16, .idxA 6 (.t 14) (.t 15), some (12, true)⟩, ⟨some 17, .fldA 1 (.t 16), some (12, true)⟩, ⟨some 18, .ld 1 false (.t 17), some (12, true)⟩, ⟨some 19, .pcall 59 [.t 18, .c (.str k42_1)], some (12, true)⟩, o 20 (.pick (.t 12) (.t 19) (.c (.bool false))), o 4 (.mv (.t 20))]) .ret), [.tmp 4]⟩
theorem hc42 : J1 Tryz.prog {pure := [59]} Tryz.f42 = some c42 := by kernel_rfl
theorem isCtl_ok (d : HDoc) (sm : DocSm d) (n : Int) (hn : inD d n) : PCalls (Pg G) 42 [.agg (Q7 d), Q4 n] (.bool ((nd d n).kind == 2 && inW (nd d n).name V6)) := fun h => by
  have hl := sm.len
  have n0 := hn.1
  have n1 := hn.2
  have e0 : nth d.nodes n.toNat = nd d n := rfl
  have c1 : PCalls (Pg G) 59 [.str (nd d n).name, .str V6] (.bool (inW (nd d n).name V6)) := wordW_ok (G := G) (nd d n).name V6 (by decide)
  have ek : k42_1 = V6 := by decide +kernel
  obtain ⟨b, hb⟩ : ∃ b, ((nd d n).kind == 2) = b := ⟨_, rfl⟩
  rw [hb]
  cases b
  · refine Q1 Tryz.func42 (by kernel_rfl) hc42 (by rw [Tryz.ntmps42]; simp) (by rw [Tryz.ntmps42]; decide) ?_
    simp -dsimp -implicitDefEqProofs (disch := omega) only [↓Q0 12, VCA, Nat.reduceEqDiff, Nat.reduceAdd, Nat.reduceLeDiff, ↓reduceIte, exists_eq_right_right, c42, Q7, Q5, e0, hb]
    repeat' (first | ((with_reducible refine brC (fun _ => ?_) fun _ => ?_) <;> try (exfalso; omega)) | (with_reducible refine And.intro ?_ ?_; · omega) | simp -dsimp -implicitDefEqProofs (disch := omega) only [↓Q0 12, ↓Z0 12, VCA, TX, ↓U5, Nat.reduceEqDiff, Nat.reduceBEq, Nat.reduceAdd, Nat.reduceSub, Nat.reduceMul, Nat.reduceLT, Nat.reduceLeDiff, ↓reduceIte, reduceCtorEq, Y6, Q9, SOp.rd, SI.rd, SX.rd, rdL, rdO, rdP, Z2, Y3, J6, K7, X0, Y7, implies_true, forall_const, forall_eq, ne_eq, exists_eq_right_right, exists_eq_right, exists_eq_left, exists_eq_left', Z7, Z3, ZJ, X6, ZX, Q7, Q5, e0, hb, ek])
    all_goals first | exact ⟨by omega, Sub.refl _⟩ | exact Sub.refl _ | exact ⟨Sub.refl _, rfl⟩ | trace_state
  · refine Q1 Tryz.func42 (by kernel_rfl) hc42 (by rw [Tryz.ntmps42]; simp) (by rw [Tryz.ntmps42]; decide) ?_
    simp -dsimp -implicitDefEqProofs (disch := omega) only [↓Q0 12, VCA, Nat.reduceEqDiff, Nat.reduceAdd, Nat.reduceLeDiff, ↓reduceIte, c42, Q7, Q5, e0, hb]
    repeat' (first | ((with_reducible refine brC (fun _ => ?_) fun _ => ?_) <;> try (exfalso; omega)) | (with_reducible apply pcallE.of; · exact c1) | (with_reducible refine And.intro ?_ ?_; · omega) | simp -dsimp -implicitDefEqProofs (disch := omega) only [VCA, Nat.reduceEqDiff, ↓reduceIte, exists_eq_right_right, ek])
    all_goals first | exact ⟨by omega, Sub.refl _⟩ | exact Sub.refl _ | exact ⟨Sub.refl _, rfl⟩ | trace_state
theorem inW_form (nm : List UInt8) : inW nm [102, 111, 114, 109] = (nm == [102, 111, 114, 109]) := by
  have e : Z6 32 [] [102, 111, 114, 109] = [[102, 111, 114, 109]] := by decide
  unfold inW
  rw [e, List.any_cons, List.any_nil, Bool.or_false]
  rw [Bool.eq_iff_iff, beq_iff_eq, beq_iff_eq]
  exact eq_comm
def c15 : SFun := ⟨.seq (.reg [o 3 (.boxF 36 2 (.t 0)), o 6 (.mv (.c (.int .i64 0)))]) (.seq (.reg [o 8 (.ld 2 true (.t 3)), o 9 (.pcall 40 [.t 8]), o 7 (.mv (.t 9))]) (.seq (.seq (.reg [o 10 (.mv (.t 7)), o 11 (.bin .eql (.t 10) (.c (.int .i64 0))), o 12 (.mv (.t 11)), ⟨some 13, .mv (.t 1), some (12, true)⟩, ⟨some 14, .fldA 0 (.t 3), some (12, true)⟩, ⟨some 15, .ld 1 false (.t 14), some (12, true)⟩, ⟨some 16, .len (.t 15), some (12, true)⟩, ⟨some 17, .bin .sub (.t 16) (.c (.int .i64 1)), some (12, true)⟩, ⟨some 18, .pcall 41 [.t 13, .c (.int .i64 0), .t 17], some (12, true)⟩, ⟨some 19, .un .not (.t 18), some (12, true)⟩, o 20 (.pick (.t 12) (.t 19) (.c (.bool false)))]) (.cond (.t 20) (.reg [o 7 (.mv (.c (.int .i64 1)))]) .skip)) (.seq (.seq (.reg [o 21 (.mv (.t 7)), o 22 (.bin .eql (.t 21) (.c (.int .i64 0))), o 23 (.mv (.t 22)), ⟨some 24, .mv (.t 2), some (23, true)⟩, ⟨some 25, .mv (.t 24), some (23, true)⟩, ⟨some 26, .fldA 0 (.t 3), some (25, true)⟩, ⟨some 27, .ld 1 false (.t 26), some (25, true)⟩, ⟨some 28, .mv (.t 1), some (25, true)⟩, ⟨some 29, .idxA 6 (.t 27) (.t 28), some (25, true)⟩, ⟨some 30, .fldA 1 (.t 29), some (25, true)⟩, ⟨some 31, .ld 1 false (.t 30), some (25, true)⟩, ⟨some 32, .bin .neq (.t 31) (.c (.str [102, 111, 114, 109])), some (25, true)⟩, ⟨some 33, .pick (.t 25) (.t 32) (.c (.bool false)), some (23, true)⟩, ⟨some 34, .mv (.t 33), some (23, true)⟩, ⟨some 35, .mv (.t 2), some (34, false)⟩, ⟨some 36, .un .not (.t 35), some (34, false)⟩, ⟨some 37, .mv (.t 36), some (34, false)⟩, ⟨some 38, .ld 2 true (.t 3), some (37, true)⟩, ⟨some 39, .mv (.t 1), some (37, true)⟩, ⟨some 40, .pcall 42 [.t 38, .t 39], some (37, true)⟩, ⟨some 41, .un .not (.t 40), some (37, true)⟩, ⟨some 42, .pick (.t 37) (.t 41) (.c (.bool false)), some (34, false)⟩, ⟨some 43, .pick (.t 34) (.c (.bool true)) (.t 42), some (23, true)⟩, o 44 (.pick (.t 23) (.t 43) (.c (.bool false)))]) (.cond (.t 44) (.reg [o 7 (.mv (.c (.int .i64 7)))]) .skip)) (.seq (.seq (.reg [o 45 (.mv (.t 7)), o 46 (.bin .eql (.t 45) (.c (.int .i64 0))), o 47 (.mv (.t 46)), ⟨some 48, .mv (.t 2), some (47, true)⟩, ⟨some 49, .mv (.t 48), some (47, true)⟩, ⟨some 50, .fldA 0 (.t 3), some (49, true)⟩, ⟨some 51, .ld 1 false (.t 50), some (49, true)⟩, ⟨some 52, .mv (.t 1), some (49, true)⟩, ⟨some 53, .idxA 6 (.t 51) (.t 52), some (49, true)⟩, ⟨some 54, .fldA 0 (.t 53), some (49, true)⟩, ⟨some 55, .ld 1 false (.t 54), some (49, true)⟩, ⟨some 56, .bin .neq (.t 55) (.c (.int .i64 2)), some (49, true)⟩, ⟨some 57, .pick (.t 49) (.t 56) (.c (.bool false)), some (47, true)⟩, o 58 (.pick (.t 47) (.t 57) (.c (.bool false)))]) (.cond (.t 58) (.reg [o 7 (.mv (.c (.int .i64 7)))]) .skip)) (.seq (.seq (.reg [o 59 (.mv (.t 7)), o 60 (.bin .eql (.t 59) (.c (.int .i64 0))), o 61 (.mv (.t 60)), ⟨some 62, .ld 2 true (.t 3), some (61, true)⟩, ⟨some 63, .mv (.t 1), some (61, true)⟩, ⟨some 64, .pcall 43 [.t 62, .t 63, .c (.int .i64 0)], some (61, true)⟩, ⟨some 65, .un .not (.t 64), some (61, true)⟩, o 66 (.pick (.t 61) (.t 65) (.c (.bool false)))]) (.cond (.t 66) (.reg [o 7 (.mv (.c (.int .i64 5)))]) .skip)) (.seq (.reg [o 67 (.mv (.t 7)), o 6 (.mv (.t 67))]) .ret)))))), [.tmp 6]⟩
theorem hc15 : J1 Tryz.prog {pure := [40, 41, 42, 43]} Tryz.f15 = some c15 := by kernel_rfl
theorem hn15 : (Tryz.f15.name == "runtime.NumGoroutine") = false := by kernel_rfl
theorem formErr_ok (d : HDoc) (sm : DocSm d) (n : Int) (fm : Bool) : PCalls (Pg G) 15 [.agg (Q7 d), Q4 n, .bool fm] (Q4 (V5 d n (if fm = true then [102, 111, 114, 109] else V6))) := fun h => by
  have hl := sm.len
  have cD := docErr_ok (G := G) d sm
  have z0 : ((0 : Int) == 0) = true := rfl
  have z1 : ((1 : Int) == 0) = false := rfl
  have z7 : ((7 : Int) == 0) = false := rfl
  by_cases h0 : KU d = 0
  · have V := VQ h0
    rw [h0] at cD
    by_cases hn : inD d n
    · have n0 := hn.1
      have n1 := hn.2
      have e0 : nth d.nodes n.toNat = nd d n := rfl
      have cB : PCalls (Pg G) 41 [Q4 n, .int .i64 0, .int .i64 ((d.nodes.length : Int) - 1)] (.bool true) := by
        have h := betw_ok (G := G) n 0 ((d.nodes.length : Int) - 1)
        rwa [decide_eq_true n0, decide_eq_true (show n <= (d.nodes.length : Int) - 1 by omega)] at h
      have cC := isCtl_ok (G := G) d sm n hn
      have cU := under_ok (G := G) d V n 0 hn (Int.le_refl 0)
      have hE : ∀ nm, V5 d n nm = if (nd d n).kind ≠ 2 \/ inW (nd d n).name nm = false then 7 else if 0 ∈ U2 d n then 0 else 5 := fun nm => by
        unfold V5; rw [if_neg (by simpa using h0), if_neg (by simpa using hn)]
      have cU : PCalls (Pg G) 43 [.agg (Q7 d), Q4 n, .int .i64 0] (.bool (decide (0 ∈ U2 d n))) := cU
      have hE : ∀ nm, V5 d n nm = if (nd d n).kind ≠ 2 \/ inW (nd d n).name nm = false then 7 else if decide ((0 : Int) ∈ U2 d n) = true then 0 else 5 := fun nm => by rw [hE]; simp
      generalize decide ((0 : Int) ∈ U2 d n) = bu at *
      unfold Q7 at cD cC cU
      cases fm
      · show DCalls _ _ _ h (fun r h' => r = Q4 (V5 d n V6) /\ h' = h)
        by_cases hk : (nd d n).kind = 2 /\ inW (nd d n).name V6 = true
        · have hb : ((nd d n).kind == 2 && inW (nd d n).name V6) = true := by rw [hk.2]; simp [hk.1]
          rw [hb] at cC
          have hv : V5 d n V6 = if bu = true then 0 else 5 := by rw [hE]; simp [hk.1, hk.2]
          rw [hv]
          cases bu
          all_goals
            refine Q1 Tryz.func15 hn15 hc15 (by rw [Tryz.ntmps15]; simp) (by rw [Tryz.ntmps15]; decide) ?_
            simp -dsimp -implicitDefEqProofs (disch := omega) only [VCA, Nat.reduceEqDiff, Nat.reduceAdd, ↓reduceIte, c15, Q7]
            repeat' (first | ((with_reducible refine brC (fun _ => ?_) fun _ => ?_) <;> try (exfalso; omega)) | (with_reducible apply pcallE.of; · exact cD) | (with_reducible apply pcallE.of; · exact cB) | (with_reducible apply pcallE.of; · exact cC) | (with_reducible apply pcallE.of; · exact cU) | (with_reducible refine And.intro ?_ ?_; · omega) | simp -dsimp -implicitDefEqProofs (disch := omega) only [↓Q0 12, ↓Q0 23, ↓Q0 25, ↓Q0 34, ↓Q0 37, ↓Q0 47, ↓Q0 49, ↓Q0 61, VCA, Nat.reduceEqDiff, Nat.reduceAdd, Nat.reduceLeDiff, ↓reduceIte, exists_eq_right, z0])
          all_goals first | exact Sub.refl _ | exact ⟨Sub.refl _, rfl⟩ | trace_state
        · have hb : ((nd d n).kind == 2 && inW (nd d n).name V6) = false := by
            cases hw : inW (nd d n).name V6
            · rw [Bool.and_false]
            · rw [Bool.and_true]; simp only [hw, and_true] at hk; simpa using hk
          rw [hb] at cC
          have hv : V5 d n V6 = 7 := by
            rw [hE]
            by_cases h2 : (nd d n).kind = 2
            · cases hw : inW (nd d n).name V6
              · simp
              · exact absurd ⟨h2, hw⟩ hk
            · simp [h2]
          rw [hv]
          refine Q1 Tryz.func15 hn15 hc15 (by rw [Tryz.ntmps15]; simp) (by rw [Tryz.ntmps15]; decide) ?_
          simp -dsimp -implicitDefEqProofs (disch := omega) only [VCA, Nat.reduceEqDiff, Nat.reduceAdd, ↓reduceIte, c15, Q7]
          repeat' (first | ((with_reducible refine brC (fun _ => ?_) fun _ => ?_) <;> try (exfalso; omega)) | (with_reducible apply pcallE.of; · exact cD) | (with_reducible apply pcallE.of; · exact cB) | (with_reducible apply pcallE.of; · exact cC) | (with_reducible refine And.intro ?_ ?_; · omega) | simp -dsimp -implicitDefEqProofs (disch := omega) only [↓Q0 12, ↓Q0 23, ↓Q0 25, ↓Q0 34, ↓Q0 37, ↓Q0 47, ↓Q0 49, ↓Q0 61, VCA, Nat.reduceEqDiff, Nat.reduceAdd, Nat.reduceLeDiff, ↓reduceIte, exists_eq_right, z0, z7])
          all_goals first | exact Sub.refl _ | exact ⟨Sub.refl _, rfl⟩ | trace_state
      · show DCalls _ _ _ h (fun r h' => r = Q4 (V5 d n [102, 111, 114, 109]) /\ h' = h)
        by_cases hf : (nd d n).name = [102, 111, 114, 109]
        · have bf : ((nd d n).name != [102, 111, 114, 109]) = false := by simpa using hf
          by_cases hk : (nd d n).kind = 2
          · have bk : ((nd d n).kind != 2) = false := by simpa using hk
            have hv : V5 d n [102, 111, 114, 109] = if bu = true then 0 else 5 := by rw [hE, inW_form]; simp [hf, hk]
            rw [hv]
            cases bu
            all_goals
              refine Q1 Tryz.func15 hn15 hc15 (by rw [Tryz.ntmps15]; simp) (by rw [Tryz.ntmps15]; decide) ?_
              simp -dsimp -implicitDefEqProofs (disch := omega) only [VCA, Nat.reduceEqDiff, Nat.reduceAdd, ↓reduceIte, c15, Q7]
              repeat' (first | ((with_reducible refine brC (fun _ => ?_) fun _ => ?_) <;> try (exfalso; omega)) | (with_reducible apply pcallE.of; · exact cD) | (with_reducible apply pcallE.of; · exact cB) | (with_reducible apply pcallE.of; · exact cU) | (with_reducible refine And.intro ?_ ?_; · omega) | simp -dsimp -implicitDefEqProofs (disch := omega) only [↓Q0 12, ↓Q0 23, ↓Q0 25, ↓Q0 34, ↓Q0 37, ↓Q0 47, ↓Q0 49, ↓Q0 61, VCA, Nat.reduceEqDiff, Nat.reduceAdd, Nat.reduceLeDiff, ↓reduceIte, exists_eq_right, Q5, e0, z0, bf, bk])
            all_goals first | exact Sub.refl _ | exact ⟨Sub.refl _, rfl⟩ | trace_state
          · have bk : ((nd d n).kind != 2) = true := by simpa using hk
            have hv : V5 d n [102, 111, 114, 109] = 7 := by rw [hE]; simp [hk]
            rw [hv]
            refine Q1 Tryz.func15 hn15 hc15 (by rw [Tryz.ntmps15]; simp) (by rw [Tryz.ntmps15]; decide) ?_
            simp -dsimp -implicitDefEqProofs (disch := omega) only [VCA, Nat.reduceEqDiff, Nat.reduceAdd, ↓reduceIte, c15, Q7]
            repeat' (first | ((with_reducible refine brC (fun _ => ?_) fun _ => ?_) <;> try (exfalso; omega)) | (with_reducible apply pcallE.of; · exact cD) | (with_reducible apply pcallE.of; · exact cB) | (with_reducible refine And.intro ?_ ?_; · omega) | simp -dsimp -implicitDefEqProofs (disch := omega) only [↓Q0 12, ↓Q0 23, ↓Q0 25, ↓Q0 34, ↓Q0 37, ↓Q0 47, ↓Q0 49, ↓Q0 61, VCA, Nat.reduceEqDiff, Nat.reduceAdd, Nat.reduceLeDiff, ↓reduceIte, exists_eq_right, Q5, e0, z0, z7, bf, bk])
            all_goals first | exact Sub.refl _ | exact ⟨Sub.refl _, rfl⟩ | trace_state
        · have bf : ((nd d n).name != [102, 111, 114, 109]) = true := by simpa using hf
          have hv : V5 d n [102, 111, 114, 109] = 7 := by rw [hE, inW_form]; simp [hf]
          rw [hv]
          refine Q1 Tryz.func15 hn15 hc15 (by rw [Tryz.ntmps15]; simp) (by rw [Tryz.ntmps15]; decide) ?_
          simp -dsimp -implicitDefEqProofs (disch := omega) only [VCA, Nat.reduceEqDiff, Nat.reduceAdd, ↓reduceIte, c15, Q7]
          repeat' (first | ((with_reducible refine brC (fun _ => ?_) fun _ => ?_) <;> try (exfalso; omega)) | (with_reducible apply pcallE.of; · exact cD) | (with_reducible apply pcallE.of; · exact cB) | (with_reducible refine And.intro ?_ ?_; · omega) | simp -dsimp -implicitDefEqProofs (disch := omega) only [↓Q0 12, ↓Q0 23, ↓Q0 25, ↓Q0 34, ↓Q0 37, ↓Q0 47, ↓Q0 49, ↓Q0 61, VCA, Nat.reduceEqDiff, Nat.reduceAdd, Nat.reduceLeDiff, ↓reduceIte, exists_eq_right, Q5, e0, z0, z7, bf])
          all_goals first | exact Sub.refl _ | exact ⟨Sub.refl _, rfl⟩ | trace_state
    · have hE : ∀ nm, V5 d n nm = 1 := fun nm => by unfold V5; rw [if_neg (by simpa using h0), if_pos hn]
      rw [hE]
      have cB : PCalls (Pg G) 41 [Q4 n, .int .i64 0, .int .i64 ((d.nodes.length : Int) - 1)] (.bool false) := by
        have h := betw_ok (G := G) n 0 ((d.nodes.length : Int) - 1)
        have hb : (decide (0 <= n) && decide (n <= (d.nodes.length : Int) - 1)) = false := by
          unfold inD at hn
          by_cases h1 : 0 <= n
          · rw [decide_eq_false (show ¬ n <= (d.nodes.length : Int) - 1 by omega), Bool.and_false]
          · rw [decide_eq_false h1, Bool.false_and]
        rwa [hb] at h
      unfold Q7 at cD
      cases fm
      all_goals
        refine Q1 Tryz.func15 hn15 hc15 (by rw [Tryz.ntmps15]; simp) (by rw [Tryz.ntmps15]; decide) ?_
        simp -dsimp -implicitDefEqProofs (disch := omega) only [VCA, Nat.reduceEqDiff, Nat.reduceAdd, ↓reduceIte, c15, Q7]
        repeat' (first | ((with_reducible refine brC (fun _ => ?_) fun _ => ?_) <;> try (exfalso; omega)) | (with_reducible apply pcallE.of; · exact cD) | (with_reducible apply pcallE.of; · exact cB) | (with_reducible refine And.intro ?_ ?_; · omega) | simp -dsimp -implicitDefEqProofs (disch := omega) only [↓Q0 12, ↓Q0 23, ↓Q0 25, ↓Q0 34, ↓Q0 37, ↓Q0 47, ↓Q0 49, ↓Q0 61, VCA, Nat.reduceEqDiff, Nat.reduceAdd, Nat.reduceLeDiff, ↓reduceIte, exists_eq_right, z0, z1])
      all_goals first | exact Sub.refl _ | exact ⟨Sub.refl _, rfl⟩ | trace_state
  · have hE : ∀ nm, V5 d n nm = KU d := fun nm => if_pos h0
    rw [hE]
    generalize KU d = x at *
    have bx : (x == 0) = false := by simpa using h0
    unfold Q7 at cD
    cases fm
    all_goals
      refine Q1 Tryz.func15 hn15 hc15 (by rw [Tryz.ntmps15]; simp) (by rw [Tryz.ntmps15]; decide) ?_
      simp -dsimp -implicitDefEqProofs (disch := omega) only [VCA, Nat.reduceEqDiff, Nat.reduceAdd, ↓reduceIte, c15, Q7]
      repeat' (first | ((with_reducible refine brC (fun _ => ?_) fun _ => ?_) <;> try (exfalso; omega)) | (with_reducible apply pcallE.of; · exact cD) | (with_reducible refine And.intro ?_ ?_; · omega) | simp -dsimp -implicitDefEqProofs (disch := omega) only [↓Q0 12, ↓Q0 23, ↓Q0 25, ↓Q0 34, ↓Q0 37, ↓Q0 47, ↓Q0 49, ↓Q0 61, VCA, Nat.reduceEqDiff, ↓reduceIte, exists_eq_right, bx])
    all_goals first | exact Sub.refl _ | exact ⟨Sub.refl _, rfl⟩ | trace_state
end Go.Proofs.K
end
