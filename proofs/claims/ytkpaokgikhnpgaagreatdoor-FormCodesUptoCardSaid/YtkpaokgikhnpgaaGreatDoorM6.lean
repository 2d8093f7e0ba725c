/- Texts of this claim, one behind the other. -/
import Derived.Test.YtkpaokgikhnpgaaGreatDoorM5
import Derived.Test.YtkpaokgikhnpgaaGreatDoorM4
section
/- forms: options, kinds, values; what is told. -/
set_option linter.unusedSimpArgs false
set_option linter.unusedVariables false
namespace Go.Proofs.K
open Go Go.Sim Go.Proofs
variable {G : Glob}
def c86 : SFun := ⟨(.seq (.reg [⟨(some 4), (.mv (.c (.str []))), none⟩]) (.seq (.seq (.reg [⟨(some 5), (.mv (.t 0)), none⟩, ⟨(some 6), (.mv (.t 1)), none⟩, ⟨(some 7), (.pcall 78 [(.t 5), (.t 6), (.c (.str [118, 97, 108, 117, 101]))]), none⟩]) (.cond (.t 7) (.seq (.reg [⟨(some 8), (.mv (.t 0)), none⟩, ⟨(some 9), (.mv (.t 1)), none⟩, ⟨(some 10), (.pcall 38 [(.t 8), (.t 9), (.c (.str [118, 97, 108, 117, 101]))]), none⟩, ⟨(some 4), (.mv (.t 10)), none⟩]) .ret) .skip)) (.seq (.reg [⟨(some 11), (.mv (.t 0)), none⟩, ⟨(some 12), (.mv (.t 1)), none⟩, ⟨(some 13), (.pcall 92 [(.t 11), (.t 12)]), none⟩, ⟨(some 4), (.mv (.t 13)), none⟩]) .ret))), [(.tmp 4)]⟩
theorem hc86 : toSF Tryz.prog {pure := [78, 38, 92]} Tryz.f86 = some c86 := by kernel_rfl
theorem hn86 : (Tryz.f86.name == "runtime.NumGoroutine") = false := by kernel_rfl
theorem option_ok (d : HDoc) (V : DV d) (sm : DocSm d) (o : List Int) (n : Int) (hn : inD d n) : PCalls (Pg G) 86 [fA d o, aInt n] (.str (optV d n)) := fun h => by
  have c1 := fhas_ok (G := G) d sm o n hn [118, 97, 108, 117, 101]
  have c2 := fattr_ok (G := G) d sm o n hn [118, 97, 108, 117, 101]
  have c3 := ftext_ok (G := G) d V sm o n hn
  obtain ⟨F, hF⟩ : ∃ F, fA d o = F := ⟨_, rfl⟩
  rw [hF] at c1 c2 c3
  unfold optV
  cases hb : hasA d n [118, 97, 108, 117, 101]
  · rw [hb] at c1
    refine dcalls_of_vc Tryz.func86 hn86 hc86 (by rw [Tryz.ntmps86]; simp) (by rw [Tryz.ntmps86]; decide) ?_
    simp -dsimp -implicitDefEqProofs (disch := omega) only [VCA, Nat.reduceEqDiff, ↓reduceIte, reduceCtorEq, c86, hF]
    repeat' (first | ((with_reducible refine Br.dec (fun _ => ?_) (fun _ => ?_)) <;> try (exfalso; omega)) | ((with_reducible refine Br.eq (fun _ => ?_) (fun _ => ?_)) <;> try (exfalso; omega)) | ((with_reducible refine Br.ne (fun _ => ?_) (fun _ => ?_)) <;> try (exfalso; omega)) | ((with_reducible refine brNdec (fun _ => ?_) (fun _ => ?_)) <;> try (exfalso; omega)) | ((with_reducible refine brNeq (fun _ => ?_) (fun _ => ?_)) <;> try (exfalso; omega)) | with_reducible refine Br.intro (fun _ => ?_) (fun _ => ?_) | (with_reducible apply pcallE.of; · exact c1) | (with_reducible apply pcallE.of; · exact c3) | (with_reducible refine And.intro ?_ ?_; · omega) | simp -dsimp -implicitDefEqProofs (disch := omega) only [VCA, Nat.reduceEqDiff, ↓reduceIte, reduceCtorEq, exists_eq_right])
    all_goals first | exact Sub.refl _ | exact ⟨Sub.refl _, rfl⟩ | trace_state
  · rw [hb] at c1
    refine dcalls_of_vc Tryz.func86 hn86 hc86 (by rw [Tryz.ntmps86]; simp) (by rw [Tryz.ntmps86]; decide) ?_
    simp -dsimp -implicitDefEqProofs (disch := omega) only [VCA, Nat.reduceEqDiff, ↓reduceIte, reduceCtorEq, c86, hF]
    repeat' (first | ((with_reducible refine Br.dec (fun _ => ?_) (fun _ => ?_)) <;> try (exfalso; omega)) | ((with_reducible refine Br.eq (fun _ => ?_) (fun _ => ?_)) <;> try (exfalso; omega)) | ((with_reducible refine Br.ne (fun _ => ?_) (fun _ => ?_)) <;> try (exfalso; omega)) | ((with_reducible refine brNdec (fun _ => ?_) (fun _ => ?_)) <;> try (exfalso; omega)) | ((with_reducible refine brNeq (fun _ => ?_) (fun _ => ?_)) <;> try (exfalso; omega)) | with_reducible refine Br.intro (fun _ => ?_) (fun _ => ?_) | (with_reducible apply pcallE.of; · exact c1) | (with_reducible apply pcallE.of; · exact c2) | (with_reducible refine And.intro ?_ ?_; · omega) | simp -dsimp -implicitDefEqProofs (disch := omega) only [VCA, Nat.reduceEqDiff, ↓reduceIte, reduceCtorEq, exists_eq_right])
    all_goals first | exact Sub.refl _ | exact ⟨Sub.refl _, rfl⟩ | trace_state
def c82 : SFun := ⟨(.seq (.reg [⟨(some 2), (.mv (.c (.bool false))), none⟩]) (.seq (.reg [⟨(some 3), (.mv (.t 0)), none⟩, ⟨(some 4), (.bin .eql (.t 3) (.c (.str [99, 104, 101, 99, 107, 98, 111, 120]))), none⟩, ⟨(some 5), (.mv (.t 4)), none⟩, ⟨(some 6), (.mv (.t 0)), (some (5, false))⟩, ⟨(some 7), (.bin .eql (.t 6) (.c (.str [114, 97, 100, 105, 111]))), (some (5, false))⟩, ⟨(some 8), (.pick (.t 5) (.c (.bool true)) (.t 7)), none⟩, ⟨(some 2), (.mv (.t 8)), none⟩]) .ret)), [(.tmp 2)]⟩
theorem hc82 : toSF Tryz.prog {} Tryz.f82 = some c82 := by kernel_rfl
theorem hn82 : (Tryz.f82.name == "runtime.NumGoroutine") = false := by kernel_rfl
theorem ticked_ok (k : List UInt8) : PCalls (Pg G) 82 [.str k] (.bool (tickM k)) := fun h => by
  unfold tickM
  refine dcalls_of_vc Tryz.func82 hn82 hc82 (by rw [Tryz.ntmps82]; simp) (by rw [Tryz.ntmps82]; decide) ?_
  cases h1 : (k == [99, 104, 101, 99, 107, 98, 111, 120]) <;> cases h2 : (k == [114, 97, 100, 105, 111])
  all_goals
    simp -dsimp -implicitDefEqProofs (disch := omega) only [↓vcOps_sp 5, VCA, Nat.reduceEqDiff, ↓reduceIte, reduceCtorEq, exists_eq_right, c82, h1, h2]
    repeat' (first | ((with_reducible refine Br.dec (fun _ => ?_) (fun _ => ?_)) <;> try (exfalso; omega)) | ((with_reducible refine Br.eq (fun _ => ?_) (fun _ => ?_)) <;> try (exfalso; omega)) | ((with_reducible refine Br.ne (fun _ => ?_) (fun _ => ?_)) <;> try (exfalso; omega)) | ((with_reducible refine brNdec (fun _ => ?_) (fun _ => ?_)) <;> try (exfalso; omega)) | ((with_reducible refine brNeq (fun _ => ?_) (fun _ => ?_)) <;> try (exfalso; omega)) | with_reducible refine Br.intro (fun _ => ?_) (fun _ => ?_) | (with_reducible refine And.intro ?_ ?_; · omega) | simp -dsimp -implicitDefEqProofs (disch := omega) only [↓vcOps_sp 5, ↓vcD_sp 5, VCA, pg_gl, ↓upd_none, Nat.reduceEqDiff, Nat.reduceBEq, Nat.reduceAdd, Nat.reduceSub, Nat.reduceMul, Nat.reduceLT, Nat.reduceLeDiff, ↓reduceIte, reduceCtorEq, rsOf, rootsOf, SOp.rd, SI.rd, SX.rd, rdL, rdO, rdP, okParts, eqCells, okEqCells, fillA, okFill, setAt, implies_true, forall_const, forall_eq, ne_eq, exists_eq_right_right, exists_eq_right, exists_eq_left, exists_eq_left', rootL, eInt, eStr, eAttr, lit_eq, h1, h2])
  all_goals first | exact Sub.refl _ | exact ⟨Sub.refl _, rfl⟩ | trace_state
def k37_1 : List UInt8 := [32, 104, 105, 100, 100, 101, 110, 32, 116, 101, 120, 116, 32, 110, 117, 109, 98, 101, 114, 32, 99, 104, 101, 99, 107, 98, 111, 120, 32, 114, 97, 100, 105, 111, 32, 115, 117, 98, 109, 105, 116, 32, 114, 101, 115, 101, 116, 32, 98, 117, 116, 116, 111, 110, 32, 105, 109, 97, 103, 101, 32, 102, 105, 108, 101, 32]
def c37 : SFun := ⟨(.seq (.reg [⟨(some 4), (.mv (.c (.str []))), none⟩]) (.seq (.seq (.reg [⟨(some 6), (.mv (.t 0)), none⟩, ⟨(some 7), (.fldA 0 (.t 6)), none⟩, ⟨(some 8), (.fldA 0 (.t 7)), none⟩, ⟨(some 9), (.fldA 0 (.t 8)), none⟩, ⟨(some 10), (.ld 1 false (.t 9)), none⟩, ⟨(some 11), (.mv (.t 1)), none⟩, ⟨(some 12), (.idxA 6 (.t 10) (.t 11)), none⟩, ⟨(some 13), (.fldA 1 (.t 12)), none⟩, ⟨(some 14), (.ld 1 false (.t 13)), none⟩, ⟨(some 15), (.bin .neq (.t 14) (.c (.str [105, 110, 112, 117, 116]))), none⟩]) (.cond (.t 15) (.seq (.reg [⟨(some 16), (.mv (.t 0)), none⟩, ⟨(some 17), (.fldA 0 (.t 16)), none⟩, ⟨(some 18), (.fldA 0 (.t 17)), none⟩, ⟨(some 19), (.fldA 0 (.t 18)), none⟩, ⟨(some 20), (.ld 1 false (.t 19)), none⟩, ⟨(some 21), (.mv (.t 1)), none⟩, ⟨(some 22), (.idxA 6 (.t 20) (.t 21)), none⟩, ⟨(some 23), (.fldA 1 (.t 22)), none⟩, ⟨(some 24), (.ld 1 false (.t 23)), none⟩, ⟨(some 4), (.mv (.t 24)), none⟩]) .ret) .skip)) (.seq (.reg [⟨(some 25), (.mv (.t 0)), none⟩, ⟨(some 26), (.mv (.t 1)), none⟩, ⟨(some 27), (.pcall 38 [(.t 25), (.t 26), (.c (.str [116, 121, 112, 101]))]), none⟩, ⟨(some 5), (.mv (.t 27)), none⟩]) (.seq (.seq (.reg [⟨(some 28), (.mv (.t 5)), none⟩, ⟨(some 29), (.lenS (.t 28)), none⟩, ⟨(some 30), (.bin .gtr (.t 29) (.c (.int .i64 (8)))), none⟩, ⟨(some 31), (.mv (.t 30)), none⟩, ⟨(some 32), (.mv (.t 5)), (some (31, false))⟩, ⟨(some 33), (.pcall 83 [(.t 32)]), (some (31, false))⟩, ⟨(some 34), (.pcall 34 [(.t 33), (.c (.str k37_1))]), (some (31, false))⟩, ⟨(some 35), (.un .not (.t 34)), (some (31, false))⟩, ⟨(some 36), (.pick (.t 31) (.c (.bool true)) (.t 35)), none⟩]) (.cond (.t 36) (.seq (.reg [⟨(some 4), (.mv (.c (.str [116, 101, 120, 116]))), none⟩]) .ret) .skip)) (.seq (.reg [⟨(some 37), (.mv (.t 5)), none⟩, ⟨(some 38), (.pcall 83 [(.t 37)]), none⟩, ⟨(some 4), (.mv (.t 38)), none⟩]) .ret))))), [(.tmp 4)]⟩
theorem hc37 : toSF Tryz.prog {pure := [38, 83, 34]} Tryz.f37 = some c37 := by kernel_rfl
theorem hn37 : (Tryz.f37.name == "runtime.NumGoroutine") = false := by kernel_rfl
theorem kind_ok (hG : MaxLenOK G) (hT : TabsOK G) (d : HDoc) (V : DV d) (sm : DocSm d) (o : List Int) (n : Int) (hn : inD d n) : PCalls (Pg G) 37 [fA d o, aInt n] (.str (kindM d n)) := fun h => by
  have hl := V.len
  have n0 := hn.1
  have n1 := hn.2
  have e0 : nth d.nodes n.toNat = nd d n := rfl
  have c2 := fattr_ok (G := G) d sm o n hn [116, 121, 112, 101]
  have al := attD_len V hn [116, 121, 112, 101]
  have fE : fA d o = .pin [sl eNode d.nodes, .bool d.quirks, sl eInt o] := rfl
  rw [fE] at c2
  unfold kindM
  by_cases hi : (nd d n).name = [105, 110, 112, 117, 116]
  · have bi : ((nd d n).name != [105, 110, 112, 117, 116]) = false := by simpa using hi
    rw [if_pos hi]
    obtain ⟨v, hv⟩ : ∃ v, attD d n [116, 121, 112, 101] = v := ⟨_, rfl⟩
    rw [hv] at c2 al ⊢
    have ht := typ_is v
    have cL := flower_ok (G := G) hT v (by omega)
    have ll := lowU_len v
    have ek : k37_1 = 32 :: (typS ++ [32]) := by decide +kernel
    have cO : PCalls (Pg G) 34 [.str (lowU v), .str (32 :: (typS ++ [32]))] (.bool (inW (lowU v) typS)) := one_in hG (lowU v) typS (by decide +kernel) (by omega) (by decide +kernel)
    by_cases h8 : v.length ≤ 8
    · have d8 : decide ((8 : Int) < (v.length : Int)) = false := decide_eq_false (by omega)
      cases hw : inW (lowU v) typS
      · rw [hw] at cO ht
        rw [if_neg (by simp)] at ht
        rw [← ht]
        refine dcalls_of_vc Tryz.func37 hn37 hc37 (by rw [Tryz.ntmps37]; simp) (by rw [Tryz.ntmps37]; decide) ?_
        simp -dsimp -implicitDefEqProofs (disch := omega) only [VCA, Nat.reduceEqDiff, Nat.reduceAdd, Nat.reduceLeDiff, ↓reduceIte, reduceCtorEq, c37, fA, eNode, e0, bi, ek]
        refine ⟨by omega, ?_⟩
        repeat' (first | ((with_reducible refine Br.dec (fun _ => ?_) (fun _ => ?_)) <;> try (exfalso; omega)) | ((with_reducible refine Br.eq (fun _ => ?_) (fun _ => ?_)) <;> try (exfalso; omega)) | ((with_reducible refine Br.ne (fun _ => ?_) (fun _ => ?_)) <;> try (exfalso; omega)) | ((with_reducible refine brNdec (fun _ => ?_) (fun _ => ?_)) <;> try (exfalso; omega)) | ((with_reducible refine brNeq (fun _ => ?_) (fun _ => ?_)) <;> try (exfalso; omega)) | with_reducible refine Br.intro (fun _ => ?_) (fun _ => ?_) | (with_reducible apply pcallE.of; · exact c2) | (with_reducible apply pcallE.of; · exact cL) | (with_reducible apply pcallE.of; · exact cO) | (with_reducible refine And.intro ?_ ?_; · omega) | simp -dsimp -implicitDefEqProofs (disch := omega) only [↓vcOps_sp 31, VCA, Nat.reduceEqDiff, ↓reduceIte, exists_eq_right, d8])
        all_goals first | exact Sub.refl _ | exact ⟨Sub.refl _, rfl⟩ | trace_state
      · rw [hw] at cO ht
        rw [if_pos ⟨h8, rfl⟩] at ht
        rw [← ht]
        refine dcalls_of_vc Tryz.func37 hn37 hc37 (by rw [Tryz.ntmps37]; simp) (by rw [Tryz.ntmps37]; decide) ?_
        simp -dsimp -implicitDefEqProofs (disch := omega) only [VCA, Nat.reduceEqDiff, Nat.reduceAdd, Nat.reduceLeDiff, ↓reduceIte, reduceCtorEq, c37, fA, eNode, e0, bi, ek]
        refine ⟨by omega, ?_⟩
        repeat' (first | ((with_reducible refine Br.dec (fun _ => ?_) (fun _ => ?_)) <;> try (exfalso; omega)) | ((with_reducible refine Br.eq (fun _ => ?_) (fun _ => ?_)) <;> try (exfalso; omega)) | ((with_reducible refine Br.ne (fun _ => ?_) (fun _ => ?_)) <;> try (exfalso; omega)) | ((with_reducible refine brNdec (fun _ => ?_) (fun _ => ?_)) <;> try (exfalso; omega)) | ((with_reducible refine brNeq (fun _ => ?_) (fun _ => ?_)) <;> try (exfalso; omega)) | with_reducible refine Br.intro (fun _ => ?_) (fun _ => ?_) | (with_reducible apply pcallE.of; · exact c2) | (with_reducible apply pcallE.of; · exact cL) | (with_reducible apply pcallE.of; · exact cO) | (with_reducible refine And.intro ?_ ?_; · omega) | simp -dsimp -implicitDefEqProofs (disch := omega) only [↓vcOps_sp 31, VCA, Nat.reduceEqDiff, ↓reduceIte, exists_eq_right, d8])
        all_goals first | exact Sub.refl _ | exact ⟨Sub.refl _, rfl⟩ | trace_state
    · have d8 : decide ((8 : Int) < (v.length : Int)) = true := decide_eq_true (by omega)
      rw [if_neg (fun q => h8 q.1)] at ht
      rw [← ht]
      refine dcalls_of_vc Tryz.func37 hn37 hc37 (by rw [Tryz.ntmps37]; simp) (by rw [Tryz.ntmps37]; decide) ?_
      simp -dsimp -implicitDefEqProofs (disch := omega) only [VCA, Nat.reduceEqDiff, Nat.reduceAdd, Nat.reduceLeDiff, ↓reduceIte, reduceCtorEq, c37, fA, eNode, e0, bi, ek]
      refine ⟨by omega, ?_⟩
      repeat' (first | ((with_reducible refine Br.dec (fun _ => ?_) (fun _ => ?_)) <;> try (exfalso; omega)) | ((with_reducible refine Br.eq (fun _ => ?_) (fun _ => ?_)) <;> try (exfalso; omega)) | ((with_reducible refine Br.ne (fun _ => ?_) (fun _ => ?_)) <;> try (exfalso; omega)) | ((with_reducible refine brNdec (fun _ => ?_) (fun _ => ?_)) <;> try (exfalso; omega)) | ((with_reducible refine brNeq (fun _ => ?_) (fun _ => ?_)) <;> try (exfalso; omega)) | with_reducible refine Br.intro (fun _ => ?_) (fun _ => ?_) | (with_reducible apply pcallE.of; · exact c2) | (with_reducible refine And.intro ?_ ?_; · omega) | simp -dsimp -implicitDefEqProofs (disch := omega) only [↓vcOps_sp 31, VCA, Nat.reduceEqDiff, ↓reduceIte, exists_eq_right, d8])
      all_goals first | exact Sub.refl _ | exact ⟨Sub.refl _, rfl⟩ | trace_state
  · have bi : ((nd d n).name != [105, 110, 112, 117, 116]) = true := by simpa using hi
    rw [if_neg hi]
    refine dcalls_of_vc Tryz.func37 hn37 hc37 (by rw [Tryz.ntmps37]; simp) (by rw [Tryz.ntmps37]; decide) ?_
    simp -dsimp -implicitDefEqProofs (disch := omega) only [VCA, Nat.reduceEqDiff, Nat.reduceAdd, Nat.reduceLeDiff, ↓reduceIte, reduceCtorEq, exists_eq_right, c37, fA, eNode, e0, bi]
    all_goals first | exact ⟨by omega, by omega, Sub.refl _⟩ | trace_state
def c85 : SFun := ⟨(.seq (.reg [⟨(some 4), (.mv (.c .emp)), none⟩]) (.seq (.reg [⟨(some 10), (.mv (.t 0)), none⟩, ⟨(some 11), (.mv (.t 1)), none⟩, ⟨(some 12), (.pcall 117 [(.t 10), (.t 11), (.c (.str [111, 112, 116, 105, 111, 110]))]), none⟩, ⟨(some 5), (.mv (.t 12)), none⟩]) (.seq (.seq (.reg [⟨(some 13), (.mv (.t 5)), none⟩, ⟨(some 14), (.len (.t 13)), none⟩, ⟨(some 15), (.mv (.c (.int .i64 (0)))), none⟩]) (.block 0 (.loop (.seq (.reg [⟨(some 16), (.bin .lss (.t 15) (.t 14)), none⟩]) (.seq (.cond (.t 16) .skip (.exit 0)) (.seq (.block 1 (.seq (.reg [⟨(some 17), (.idxA 1 (.t 13) (.t 15)), none⟩, ⟨(some 18), (.ld 1 false (.t 17)), none⟩, ⟨(some 7), (.mv (.t 18)), none⟩]) (.seq (.reg [⟨(some 19), (.mv (.t 0)), none⟩, ⟨(some 20), (.mv (.t 7)), none⟩, ⟨(some 21), (.pcall 78 [(.t 19), (.t 20), (.c (.str [115, 101, 108, 101, 99, 116, 101, 100]))]), none⟩]) (.cond (.t 21) (.reg [⟨(some 22), (.mv (.t 4)), none⟩, ⟨(some 23), (.mv (.t 7)), none⟩, ⟨(some 24), (.bldF 3 1 [(.t 23)]), none⟩, ⟨(some 25), (.app 3 1 8 (.t 22) (.t 24)), none⟩, ⟨(some 4), (.mv (.t 25)), none⟩]) .skip)))) (.reg [⟨(some 26), (.bin .add (.t 15) (.c (.int .i64 (1)))), none⟩, ⟨(some 15), (.mv (.t 26)), none⟩]))))))) (.seq (.seq (.reg [⟨(some 27), (.mv (.t 4)), none⟩, ⟨(some 28), (.len (.t 27)), none⟩, ⟨(some 29), (.bin .gtr (.t 28) (.c (.int .i64 (0)))), none⟩, ⟨(some 30), (.mv (.t 29)), none⟩, ⟨(some 31), (.mv (.t 0)), (some (30, false))⟩, ⟨(some 32), (.mv (.t 1)), (some (30, false))⟩, ⟨(some 33), (.pcall 78 [(.t 31), (.t 32), (.c (.str [109, 117, 108, 116, 105, 112, 108, 101]))]), (some (30, false))⟩, ⟨(some 34), (.pick (.t 30) (.c (.bool true)) (.t 33)), none⟩]) (.cond (.t 34) (.seq (.reg [⟨(some 35), (.mv (.t 4)), none⟩, ⟨(some 4), (.mv (.t 35)), none⟩]) .ret) .skip)) (.seq (.seq (.reg [⟨(some 36), (.mv (.t 5)), none⟩, ⟨(some 37), (.len (.t 36)), none⟩, ⟨(some 38), (.mv (.c (.int .i64 (0)))), none⟩]) (.block 2 (.loop (.seq (.reg [⟨(some 39), (.bin .lss (.t 38) (.t 37)), none⟩]) (.seq (.cond (.t 39) .skip (.exit 2)) (.seq (.block 3 (.seq (.reg [⟨(some 40), (.idxA 1 (.t 36) (.t 38)), none⟩, ⟨(some 41), (.ld 1 false (.t 40)), none⟩, ⟨(some 9), (.mv (.t 41)), none⟩]) (.seq (.reg [⟨(some 42), (.mv (.t 0)), none⟩, ⟨(some 43), (.mv (.t 9)), none⟩, ⟨(some 44), (.pcall 78 [(.t 42), (.t 43), (.c (.str [100, 105, 115, 97, 98, 108, 101, 100]))]), none⟩, ⟨(some 45), (.un .not (.t 44)), none⟩]) (.cond (.t 45) (.seq (.reg [⟨(some 46), (.mv (.t 9)), none⟩, ⟨(some 47), (.bldF 3 1 [(.t 46)]), none⟩, ⟨(some 4), (.mv (.t 47)), none⟩]) .ret) .skip)))) (.reg [⟨(some 48), (.bin .add (.t 38) (.c (.int .i64 (1)))), none⟩, ⟨(some 38), (.mv (.t 48)), none⟩]))))))) (.seq (.reg [⟨(some 4), (.mv (.c .emp)), none⟩]) .ret)))))), [(.tmp 4)]⟩
theorem hc85 : toSF Tryz.prog {pure := [117, 78]} Tryz.f85 = some c85 := by kernel_rfl
theorem hn85 : (Tryz.f85.name == "runtime.NumGoroutine") = false := by kernel_rfl
theorem chosen_ok (d : HDoc) (V : DV d) (sm : DocSm d) (o : List Int) (n : Int) (hn : inD d n) : PCalls (Pg G) 85 [fA d o, aInt n] (sl eInt (chosM d n)) := PCalls.outV fun h => by
  have cB := fbelow_ok (G := G) d V sm o [111, 112, 116, 105, 111, 110] n hn
  have cM := fhas_ok (G := G) d sm o n hn [109, 117, 108, 116, 105, 112, 108, 101]
  have gS := fun x hx => fhas_ok (G := G) d sm o x hx [115, 101, 108, 101, 99, 116, 101, 100]
  have gD := fun x hx => fhas_ok (G := G) d sm o x hx [100, 105, 115, 97, 98, 108, 101, 100]
  have bl := belO_len V hn (nm := [111, 112, 116, 105, 111, 110])
  have bi := belO_in V hn (nm := [111, 112, 116, 105, 111, 110])
  obtain ⟨F, hF⟩ : ∃ F, fA d o = F := ⟨_, rfl⟩
  rw [hF] at cB cM gS gD
  unfold chosM
  generalize belO d [111, 112, 116, 105, 111, 110] n = L at *
  refine dcalls_of_vc Tryz.func85 hn85 hc85 (by rw [Tryz.ntmps85]; simp) (by rw [Tryz.ntmps85]; decide) ?_
  simp -dsimp -implicitDefEqProofs (disch := omega) only [VCA, Nat.reduceEqDiff, ↓reduceIte, reduceCtorEq, ne_eq, c85, hF]
  repeat' (first | ((with_reducible refine Br.dec (fun _ => ?_) (fun _ => ?_)) <;> try (exfalso; omega)) | ((with_reducible refine Br.eq (fun _ => ?_) (fun _ => ?_)) <;> try (exfalso; omega)) | ((with_reducible refine Br.ne (fun _ => ?_) (fun _ => ?_)) <;> try (exfalso; omega)) | ((with_reducible refine brNdec (fun _ => ?_) (fun _ => ?_)) <;> try (exfalso; omega)) | ((with_reducible refine brNeq (fun _ => ?_) (fun _ => ?_)) <;> try (exfalso; omega)) | with_reducible refine Br.intro (fun _ => ?_) (fun _ => ?_) | (with_reducible apply pcallE.of; · exact cB) | (with_reducible refine And.intro ?_ ?_; · omega) | simp -dsimp -implicitDefEqProofs (disch := omega) only [VCA, ↓reduceIte])
  refine LoopVC.intro (fun m e h' => ∃ k : Nat, k ≤ L.length ∧ m = L.length - k ∧ e 0 = F ∧ e 1 = aInt n ∧ e 5 = sl eInt L ∧ e 13 = sl eInt L ∧ e 14 = aInt L.length ∧ e 15 = aInt k ∧ Acc h 3 1 (((L.take k).filter fun k => hasA d k [115, 101, 108, 101, 99, 116, 101, 100]).map eInt) (e 4) h' ∧ Sim.Sub h h') L.length
    (by exact ⟨0, by omega, by omega, rfl, rfl, rfl, rfl, rfl, rfl, Acc.nil, Sub.refl _⟩) ?_
  rintro m e h' ⟨k, hk, rfl, e0, e1, e5, e13, e14, e15, A, S⟩
  have fl : ((L.take k).filter fun k => hasA d k [115, 101, 108, 101, 99, 116, 101, 100]).length ≤ 200 := by
    have := List.length_filter_le (fun k => hasA d k [115, 101, 108, 101, 99, 116, 101, 100]) (L.take k)
    rw [List.length_take] at this; omega
  by_cases hlt : k < L.length
  · have d1 : decide ((k : Int) < (L.length : Int)) = true := decide_eq_true (by omega)
    have hx := bi _ (nth_mem' hlt)
    have tk : (L.take (k + 1)).filter (fun k => hasA d k [115, 101, 108, 101, 99, 116, 101, 100]) = (L.take k).filter (fun k => hasA d k [115, 101, 108, 101, 99, 116, 101, 100]) ++ if hasA d (nth L k) [115, 101, 108, 101, 99, 116, 101, 100] = true then [nth L k] else [] := by
      rw [take_snoc hlt, List.filter_append, List.filter_cons, List.filter_nil]
    obtain ⟨x, hxx⟩ : ∃ x, nth L k = x := ⟨_, rfl⟩
    rw [hxx] at hx tk
    have g := gS x hx
    cases hz : hasA d x [115, 101, 108, 101, 99, 116, 101, 100]
    · rw [hz] at g
      rw [hz, if_neg (by simp), List.append_nil] at tk
      repeat' (first | ((with_reducible refine Br.dec (fun _ => ?_) (fun _ => ?_)) <;> try (exfalso; omega)) | ((with_reducible refine Br.eq (fun _ => ?_) (fun _ => ?_)) <;> try (exfalso; omega)) | ((with_reducible refine Br.ne (fun _ => ?_) (fun _ => ?_)) <;> try (exfalso; omega)) | ((with_reducible refine brNdec (fun _ => ?_) (fun _ => ?_)) <;> try (exfalso; omega)) | ((with_reducible refine brNeq (fun _ => ?_) (fun _ => ?_)) <;> try (exfalso; omega)) | with_reducible refine Br.intro (fun _ => ?_) (fun _ => ?_) | (with_reducible apply pcallE.of; · exact g) | (with_reducible refine And.intro ?_ ?_; · omega) | simp -dsimp -implicitDefEqProofs (disch := omega) only [VCA, Nat.reduceEqDiff, ↓reduceIte, reduceCtorEq, eInt, e0, e1, e5, e13, e14, e15, d1, hxx])
      all_goals first | exact ⟨_, by omega, k + 1, by omega, rfl, by omega, by rw [tk]; exact A, S⟩ | trace_state
    · rw [hz] at g
      rw [hz, if_pos rfl] at tk
      repeat' (first | ((with_reducible refine Br.dec (fun _ => ?_) (fun _ => ?_)) <;> try (exfalso; omega)) | ((with_reducible refine Br.eq (fun _ => ?_) (fun _ => ?_)) <;> try (exfalso; omega)) | ((with_reducible refine Br.ne (fun _ => ?_) (fun _ => ?_)) <;> try (exfalso; omega)) | ((with_reducible refine brNdec (fun _ => ?_) (fun _ => ?_)) <;> try (exfalso; omega)) | ((with_reducible refine brNeq (fun _ => ?_) (fun _ => ?_)) <;> try (exfalso; omega)) | with_reducible refine Br.intro (fun _ => ?_) (fun _ => ?_) | (with_reducible apply pcallE.of; · exact g) | (with_reducible refine And.intro ?_ ?_; · omega) | simp -dsimp -implicitDefEqProofs (disch := omega) only [VCA, Nat.reduceEqDiff, ↓reduceIte, reduceCtorEq, okParts, forall_eq, exists_eq_left, eInt, e0, e13, e14, e15, d1, hxx])
      refine A.app S (by simp only [List.length_map, List.length_cons, List.length_nil]; omega) (by simp only [List.length_map, List.length_cons, List.length_nil]; omega) fun a' h'' A' S' => ?_
      simp -dsimp -implicitDefEqProofs (disch := omega) only [VCA, Nat.reduceEqDiff, ↓reduceIte, reduceCtorEq, e0, e1, e5, e13, e14, e15]
      refine ⟨_, by omega, k + 1, by omega, rfl, by omega, ?_, S'⟩
      rw [tk]
      simpa [eInt] using A'
  · obtain rfl : k = L.length := by omega
    have d1 : decide ((L.length : Int) < (L.length : Int)) = false := decide_eq_false (by omega)
    rw [List.take_length] at A fl
    obtain ⟨W, hW⟩ : ∃ W, (L.filter fun k => hasA d k [115, 101, 108, 101, 99, 116, 101, 100]) = W := ⟨_, rfl⟩
    rw [hW] at A fl ⊢
    have aL := A.len
    simp only [List.length_map] at aL
    have hv : Vw (newH h h') (e 4) (sl eInt W) := (OwnS.of_acc A).1.vwN fun r hr => (OwnS.of_acc A).2.1 r hr
    by_cases hw : W = []
    · have dw : decide ((0 : Int) < (W.length : Int)) = false := decide_eq_false (by rw [hw]; simp)
      cases hm : hasA d n [109, 117, 108, 116, 105, 112, 108, 101]
      · rw [hm] at cM
        rw [if_neg (by simp [hw])]
        repeat' (first | ((with_reducible refine Br.dec (fun _ => ?_) (fun _ => ?_)) <;> try (exfalso; omega)) | ((with_reducible refine Br.eq (fun _ => ?_) (fun _ => ?_)) <;> try (exfalso; omega)) | ((with_reducible refine Br.ne (fun _ => ?_) (fun _ => ?_)) <;> try (exfalso; omega)) | ((with_reducible refine brNdec (fun _ => ?_) (fun _ => ?_)) <;> try (exfalso; omega)) | ((with_reducible refine brNeq (fun _ => ?_) (fun _ => ?_)) <;> try (exfalso; omega)) | with_reducible refine Br.intro (fun _ => ?_) (fun _ => ?_) | (with_reducible apply pcallE.of; · exact cM) | (with_reducible refine And.intro ?_ ?_; · omega) | simp -dsimp -implicitDefEqProofs (disch := omega) only [↓vcOps_sp 30, VCA, Nat.reduceEqDiff, ↓reduceIte, reduceCtorEq, e0, e1, e5, e14, e15, d1, aL.1, aL.2, dw])
        refine LoopVC.intro (fun m e h2 => ∃ k : Nat, k ≤ L.length ∧ m = L.length - k ∧ e 0 = F ∧ e 36 = sl eInt L ∧ e 37 = aInt L.length ∧ e 38 = aInt k ∧ h2 = h' ∧ (L.take k).filter (fun k => !hasA d k [100, 105, 115, 97, 98, 108, 101, 100]) = []) L.length
          (by exact ⟨0, by omega, by omega, e0, rfl, rfl, rfl, rfl, rfl⟩) ?_
        rintro m e h2 ⟨k, hk, rfl, e0, e36, e37, e38, rfl, hf⟩
        by_cases hlt : k < L.length
        · have d1 : decide ((k : Int) < (L.length : Int)) = true := decide_eq_true (by omega)
          have hx := bi _ (nth_mem' hlt)
          have tk : (L.take (k + 1)).filter (fun k => !hasA d k [100, 105, 115, 97, 98, 108, 101, 100]) = if hasA d (nth L k) [100, 105, 115, 97, 98, 108, 101, 100] = true then [] else [nth L k] := by
            rw [take_snoc hlt, List.filter_append, hf, List.filter_cons, List.filter_nil]
            cases hasA d (nth L k) [100, 105, 115, 97, 98, 108, 101, 100] <;> rfl
          obtain ⟨x, hxx⟩ : ∃ x, nth L k = x := ⟨_, rfl⟩
          rw [hxx] at hx tk
          have g := gD x hx
          cases hz : hasA d x [100, 105, 115, 97, 98, 108, 101, 100]
          · rw [hz] at g tk
            have hr : (L.filter fun k => !hasA d k [100, 105, 115, 97, 98, 108, 101, 100]).take 1 = [x] := by
              rw [if_neg (by simp)] at tk
              rw [← List.take_append_drop (k + 1) L, List.filter_append, tk]; rfl
            rw [hr]
            repeat' (first | ((with_reducible refine Br.dec (fun _ => ?_) (fun _ => ?_)) <;> try (exfalso; omega)) | ((with_reducible refine Br.eq (fun _ => ?_) (fun _ => ?_)) <;> try (exfalso; omega)) | ((with_reducible refine Br.ne (fun _ => ?_) (fun _ => ?_)) <;> try (exfalso; omega)) | ((with_reducible refine brNdec (fun _ => ?_) (fun _ => ?_)) <;> try (exfalso; omega)) | ((with_reducible refine brNeq (fun _ => ?_) (fun _ => ?_)) <;> try (exfalso; omega)) | with_reducible refine Br.intro (fun _ => ?_) (fun _ => ?_) | (with_reducible apply pcallE.of; · exact g) | (with_reducible refine And.intro ?_ ?_; · omega) | simp -dsimp -implicitDefEqProofs (disch := omega) only [VCA, Nat.reduceEqDiff, ↓reduceIte, reduceCtorEq, okParts, eInt, e0, e36, e37, e38, d1, hxx])
            all_goals first | exact ⟨_, Sub.refl _, S, .one _ _ (.refl _)⟩ | exact ⟨S, .one _ _ (.refl _)⟩ | trace_state
          · rw [hz] at g tk
            rw [if_pos rfl] at tk
            repeat' (first | ((with_reducible refine Br.dec (fun _ => ?_) (fun _ => ?_)) <;> try (exfalso; omega)) | ((with_reducible refine Br.eq (fun _ => ?_) (fun _ => ?_)) <;> try (exfalso; omega)) | ((with_reducible refine Br.ne (fun _ => ?_) (fun _ => ?_)) <;> try (exfalso; omega)) | ((with_reducible refine brNdec (fun _ => ?_) (fun _ => ?_)) <;> try (exfalso; omega)) | ((with_reducible refine brNeq (fun _ => ?_) (fun _ => ?_)) <;> try (exfalso; omega)) | with_reducible refine Br.intro (fun _ => ?_) (fun _ => ?_) | (with_reducible apply pcallE.of; · exact g) | (with_reducible refine And.intro ?_ ?_; · omega) | simp -dsimp -implicitDefEqProofs (disch := omega) only [VCA, Nat.reduceEqDiff, ↓reduceIte, reduceCtorEq, eInt, e0, e36, e37, e38, d1, hxx])
            all_goals first | exact ⟨_, by omega, k + 1, by omega, rfl, by omega, tk⟩ | trace_state
        · obtain rfl : k = L.length := by omega
          have d1 : decide ((L.length : Int) < (L.length : Int)) = false := decide_eq_false (by omega)
          rw [List.take_length] at hf
          rw [hf]
          repeat' (first | ((with_reducible refine Br.dec (fun _ => ?_) (fun _ => ?_)) <;> try (exfalso; omega)) | ((with_reducible refine Br.eq (fun _ => ?_) (fun _ => ?_)) <;> try (exfalso; omega)) | ((with_reducible refine Br.ne (fun _ => ?_) (fun _ => ?_)) <;> try (exfalso; omega)) | ((with_reducible refine brNdec (fun _ => ?_) (fun _ => ?_)) <;> try (exfalso; omega)) | ((with_reducible refine brNeq (fun _ => ?_) (fun _ => ?_)) <;> try (exfalso; omega)) | with_reducible refine Br.intro (fun _ => ?_) (fun _ => ?_) | (with_reducible refine And.intro ?_ ?_; · omega) | simp -dsimp -implicitDefEqProofs (disch := omega) only [VCA, ↓reduceIte, e37, e38, d1])
          all_goals first | exact ⟨_, Sub.refl _, S, .one _ _ .emp⟩ | exact ⟨S, .one _ _ .emp⟩ | trace_state
      · rw [hm] at cM
        rw [if_pos (.inr rfl)]
        repeat' (first | ((with_reducible refine Br.dec (fun _ => ?_) (fun _ => ?_)) <;> try (exfalso; omega)) | ((with_reducible refine Br.eq (fun _ => ?_) (fun _ => ?_)) <;> try (exfalso; omega)) | ((with_reducible refine Br.ne (fun _ => ?_) (fun _ => ?_)) <;> try (exfalso; omega)) | ((with_reducible refine brNdec (fun _ => ?_) (fun _ => ?_)) <;> try (exfalso; omega)) | ((with_reducible refine brNeq (fun _ => ?_) (fun _ => ?_)) <;> try (exfalso; omega)) | with_reducible refine Br.intro (fun _ => ?_) (fun _ => ?_) | (with_reducible apply pcallE.of; · exact cM) | (with_reducible refine And.intro ?_ ?_; · omega) | simp -dsimp -implicitDefEqProofs (disch := omega) only [↓vcOps_sp 30, VCA, Nat.reduceEqDiff, ↓reduceIte, reduceCtorEq, e0, e1, e14, e15, d1, aL.1, aL.2, dw])
        all_goals first | exact ⟨_, Sub.refl _, S, .one _ _ hv⟩ | exact ⟨S, .one _ _ hv⟩ | trace_state
    · have dw : decide ((0 : Int) < (W.length : Int)) = true := decide_eq_true (by have := List.length_pos_iff.2 hw; omega)
      rw [if_pos (.inl hw)]
      repeat' (first | ((with_reducible refine Br.dec (fun _ => ?_) (fun _ => ?_)) <;> try (exfalso; omega)) | ((with_reducible refine Br.eq (fun _ => ?_) (fun _ => ?_)) <;> try (exfalso; omega)) | ((with_reducible refine Br.ne (fun _ => ?_) (fun _ => ?_)) <;> try (exfalso; omega)) | ((with_reducible refine brNdec (fun _ => ?_) (fun _ => ?_)) <;> try (exfalso; omega)) | ((with_reducible refine brNeq (fun _ => ?_) (fun _ => ?_)) <;> try (exfalso; omega)) | with_reducible refine Br.intro (fun _ => ?_) (fun _ => ?_) | (with_reducible refine And.intro ?_ ?_; · omega) | simp -dsimp -implicitDefEqProofs (disch := omega) only [↓vcOps_sp 30, VCA, Nat.reduceEqDiff, ↓reduceIte, e14, e15, d1, aL.1, aL.2, dw])
      all_goals first | exact ⟨_, Sub.refl _, S, .one _ _ hv⟩ | exact ⟨S, .one _ _ hv⟩ | trace_state
def c51 : SFun := ⟨(.seq (.reg [⟨(some 4), (.mv (.c (.str []))), none⟩]) (.seq (.seq (.reg [⟨(some 7), (.mv (.t 0)), none⟩, ⟨(some 8), (.mv (.t 1)), none⟩, ⟨(some 9), (.pcall 37 [(.t 7), (.t 8)]), none⟩, ⟨(some 5), (.mv (.t 9)), none⟩]) (.block 0 (.seq (.reg [⟨(some 11), (.mv (.t 0)), none⟩, ⟨(some 12), (.fldA 0 (.t 11)), none⟩, ⟨(some 13), (.fldA 0 (.t 12)), none⟩, ⟨(some 14), (.fldA 0 (.t 13)), none⟩, ⟨(some 15), (.ld 1 false (.t 14)), none⟩, ⟨(some 16), (.mv (.t 1)), none⟩, ⟨(some 17), (.idxA 6 (.t 15) (.t 16)), none⟩, ⟨(some 18), (.fldA 1 (.t 17)), none⟩, ⟨(some 19), (.ld 1 false (.t 18)), none⟩, ⟨(some 20), (.bin .eql (.t 19) (.c (.str [116, 101, 120, 116, 97, 114, 101, 97]))), none⟩, ⟨(some 10), (.mv (.t 20)), none⟩]) (.cond (.t 10) (.seq (.reg [⟨(some 21), (.mv (.t 0)), none⟩, ⟨(some 22), (.mv (.t 1)), none⟩, ⟨(some 23), (.pcall 92 [(.t 21), (.t 22)]), none⟩, ⟨(some 4), (.mv (.t 23)), none⟩]) .ret) (.seq (.reg [⟨(some 25), (.mv (.t 0)), none⟩, ⟨(some 26), (.fldA 0 (.t 25)), none⟩, ⟨(some 27), (.fldA 0 (.t 26)), none⟩, ⟨(some 28), (.fldA 0 (.t 27)), none⟩, ⟨(some 29), (.ld 1 false (.t 28)), none⟩, ⟨(some 30), (.mv (.t 1)), none⟩, ⟨(some 31), (.idxA 6 (.t 29) (.t 30)), none⟩, ⟨(some 32), (.fldA 1 (.t 31)), none⟩, ⟨(some 33), (.ld 1 false (.t 32)), none⟩, ⟨(some 34), (.bin .eql (.t 33) (.c (.str [115, 101, 108, 101, 99, 116]))), none⟩, ⟨(some 24), (.mv (.t 34)), none⟩]) (.cond (.t 24) (.seq (.seq (.reg [⟨(some 35), (.mv (.t 0)), none⟩, ⟨(some 36), (.mv (.t 1)), none⟩, ⟨(some 37), (.pcall 85 [(.t 35), (.t 36)]), none⟩, ⟨(some 6), (.mv (.t 37)), none⟩]) (.seq (.reg [⟨(some 38), (.mv (.t 6)), none⟩, ⟨(some 39), (.len (.t 38)), none⟩, ⟨(some 40), (.bin .gtr (.t 39) (.c (.int .i64 (0)))), none⟩]) (.cond (.t 40) (.seq (.reg [⟨(some 41), (.mv (.t 0)), none⟩, ⟨(some 42), (.mv (.t 6)), none⟩, ⟨(some 43), (.mv (.t 6)), none⟩, ⟨(some 44), (.len (.t 43)), none⟩, ⟨(some 45), (.bin .sub (.t 44) (.c (.int .i64 (1)))), none⟩, ⟨(some 46), (.idxA 1 (.t 42) (.t 45)), none⟩, ⟨(some 47), (.ld 1 false (.t 46)), none⟩, ⟨(some 48), (.pcall 86 [(.t 41), (.t 47)]), none⟩, ⟨(some 4), (.mv (.t 48)), none⟩]) .ret) .skip))) (.seq (.reg [⟨(some 4), (.mv (.c (.str []))), none⟩]) .ret)) (.seq (.reg [⟨(some 50), (.mv (.t 5)), none⟩, ⟨(some 51), (.pcall 82 [(.t 50)]), none⟩, ⟨(some 52), (.mv (.t 51)), none⟩, ⟨(some 53), (.mv (.t 0)), (some (52, true))⟩, ⟨(some 54), (.mv (.t 1)), (some (52, true))⟩, ⟨(some 55), (.pcall 78 [(.t 53), (.t 54), (.c (.str [118, 97, 108, 117, 101]))]), (some (52, true))⟩, ⟨(some 56), (.un .not (.t 55)), (some (52, true))⟩, ⟨(some 57), (.pick (.t 52) (.t 56) (.c (.bool false))), none⟩, ⟨(some 49), (.mv (.t 57)), none⟩]) (.cond (.t 49) (.seq (.reg [⟨(some 4), (.mv (.c (.str [111, 110]))), none⟩]) .ret) .skip)))))))) (.seq (.reg [⟨(some 58), (.mv (.t 0)), none⟩, ⟨(some 59), (.mv (.t 1)), none⟩, ⟨(some 60), (.pcall 38 [(.t 58), (.t 59), (.c (.str [118, 97, 108, 117, 101]))]), none⟩, ⟨(some 4), (.mv (.t 60)), none⟩]) .ret))), [(.tmp 4)]⟩
theorem hc51 : toSF Tryz.prog {pure := [37, 92, 85, 86, 82, 78, 38]} Tryz.f51 = some c51 := by kernel_rfl
theorem hn51 : (Tryz.f51.name == "runtime.NumGoroutine") = false := by kernel_rfl
theorem value_ok (hG : MaxLenOK G) (hT : TabsOK G) (d : HDoc) (V : DV d) (sm : DocSm d) (o : List Int) (n : Int) (hn : inD d n) : PCalls (Pg G) 51 [fA d o, aInt n] (.str (valM d n)) := fun h => by
  have hl := V.len
  have n0 := hn.1
  have n1 := hn.2
  have e0 : nth d.nodes n.toNat = nd d n := rfl
  have cK := kind_ok (G := G) hG hT d V sm o n hn
  have cX := ftext_ok (G := G) d V sm o n hn
  have cC := chosen_ok (G := G) d V sm o n hn
  have cH := fhas_ok (G := G) d sm o n hn [118, 97, 108, 117, 101]
  have cA := fattr_ok (G := G) d sm o n hn [118, 97, 108, 117, 101]
  have cT := ticked_ok (G := G) (kindM d n)
  have ci := chosM_in V hn
  have cl := chosM_len V hn
  have gO := fun x hx => option_ok (G := G) d V sm o x hx
  have fE : fA d o = .pin [sl eNode d.nodes, .bool d.quirks, sl eInt o] := rfl
  rw [fE] at cK cX cC cH cA gO
  unfold valM
  generalize chosM d n = L at *
  generalize kindM d n = kd at *
  by_cases h1 : (nd d n).name = [116, 101, 120, 116, 97, 114, 101, 97]
  · have b1 : ((nd d n).name == [116, 101, 120, 116, 97, 114, 101, 97]) = true := by simpa using h1
    rw [if_pos h1]
    refine dcalls_of_vc Tryz.func51 hn51 hc51 (by rw [Tryz.ntmps51]; simp) (by rw [Tryz.ntmps51]; decide) ?_
    simp -dsimp -implicitDefEqProofs (disch := omega) only [VCA, Nat.reduceEqDiff, ↓reduceIte, reduceCtorEq, c51, fA]
    repeat' (first | ((with_reducible refine Br.dec (fun _ => ?_) (fun _ => ?_)) <;> try (exfalso; omega)) | ((with_reducible refine Br.eq (fun _ => ?_) (fun _ => ?_)) <;> try (exfalso; omega)) | ((with_reducible refine Br.ne (fun _ => ?_) (fun _ => ?_)) <;> try (exfalso; omega)) | ((with_reducible refine brNdec (fun _ => ?_) (fun _ => ?_)) <;> try (exfalso; omega)) | ((with_reducible refine brNeq (fun _ => ?_) (fun _ => ?_)) <;> try (exfalso; omega)) | with_reducible refine Br.intro (fun _ => ?_) (fun _ => ?_) | (with_reducible apply pcallE.of; · exact cK) | (with_reducible apply pcallE.of; · exact cX) | (with_reducible refine And.intro ?_ ?_; · omega) | simp -dsimp -implicitDefEqProofs (disch := omega) only [VCA, Nat.reduceEqDiff, Nat.reduceAdd, Nat.reduceLeDiff, ↓reduceIte, reduceCtorEq, exists_eq_right, eNode, e0, b1])
    all_goals first | exact Sub.refl _ | exact ⟨by omega, by omega, Sub.refl _⟩ | trace_state
  · have b1 : ((nd d n).name == [116, 101, 120, 116, 97, 114, 101, 97]) = false := by simpa using h1
    rw [if_neg h1]
    by_cases h2 : (nd d n).name = [115, 101, 108, 101, 99, 116]
    · have b2 : ((nd d n).name == [115, 101, 108, 101, 99, 116]) = true := by simpa using h2
      rw [if_pos h2]
      by_cases h3 : L = []
      · have d3 : decide ((0 : Int) < (L.length : Int)) = false := decide_eq_false (by rw [h3]; simp)
        rw [if_pos h3]
        refine dcalls_of_vc Tryz.func51 hn51 hc51 (by rw [Tryz.ntmps51]; simp) (by rw [Tryz.ntmps51]; decide) ?_
        simp -dsimp -implicitDefEqProofs (disch := omega) only [VCA, Nat.reduceEqDiff, ↓reduceIte, reduceCtorEq, c51, fA]
        repeat' (first | ((with_reducible refine Br.dec (fun _ => ?_) (fun _ => ?_)) <;> try (exfalso; omega)) | ((with_reducible refine Br.eq (fun _ => ?_) (fun _ => ?_)) <;> try (exfalso; omega)) | ((with_reducible refine Br.ne (fun _ => ?_) (fun _ => ?_)) <;> try (exfalso; omega)) | ((with_reducible refine brNdec (fun _ => ?_) (fun _ => ?_)) <;> try (exfalso; omega)) | ((with_reducible refine brNeq (fun _ => ?_) (fun _ => ?_)) <;> try (exfalso; omega)) | with_reducible refine Br.intro (fun _ => ?_) (fun _ => ?_) | (with_reducible apply pcallE.of; · exact cK) | (with_reducible apply pcallE.of; · exact cC) | (with_reducible refine And.intro ?_ ?_; · omega) | simp -dsimp -implicitDefEqProofs (disch := omega) only [VCA, Nat.reduceEqDiff, Nat.reduceAdd, Nat.reduceLeDiff, ↓reduceIte, reduceCtorEq, exists_eq_right, eNode, e0, b1, b2, d3])
        all_goals first | exact Sub.refl _ | exact ⟨by omega, by omega, Sub.refl _⟩ | trace_state
      · have hp := List.length_pos_iff.2 h3
        have d3 : decide ((0 : Int) < (L.length : Int)) = true := decide_eq_true (by omega)
        have hlt : L.length - 1 < L.length := by omega
        have eL : ((L.length : Int) - 1).toNat = L.length - 1 := by omega
        have g := gO _ (ci _ (nth_mem' hlt))
        rw [if_neg h3]
        obtain ⟨x, hxx⟩ : ∃ x, nth L (L.length - 1) = x := ⟨_, rfl⟩
        rw [hxx] at g ⊢
        refine dcalls_of_vc Tryz.func51 hn51 hc51 (by rw [Tryz.ntmps51]; simp) (by rw [Tryz.ntmps51]; decide) ?_
        simp -dsimp -implicitDefEqProofs (disch := omega) only [VCA, Nat.reduceEqDiff, ↓reduceIte, reduceCtorEq, c51, fA]
        repeat' (first | ((with_reducible refine Br.dec (fun _ => ?_) (fun _ => ?_)) <;> try (exfalso; omega)) | ((with_reducible refine Br.eq (fun _ => ?_) (fun _ => ?_)) <;> try (exfalso; omega)) | ((with_reducible refine Br.ne (fun _ => ?_) (fun _ => ?_)) <;> try (exfalso; omega)) | ((with_reducible refine brNdec (fun _ => ?_) (fun _ => ?_)) <;> try (exfalso; omega)) | ((with_reducible refine brNeq (fun _ => ?_) (fun _ => ?_)) <;> try (exfalso; omega)) | with_reducible refine Br.intro (fun _ => ?_) (fun _ => ?_) | (with_reducible apply pcallE.of; · exact cK) | (with_reducible apply pcallE.of; · exact cC) | (with_reducible apply pcallE.of; · exact g) | (with_reducible refine And.intro ?_ ?_; · omega) | simp -dsimp -implicitDefEqProofs (disch := omega) only [VCA, Nat.reduceEqDiff, Nat.reduceAdd, Nat.reduceLeDiff, ↓reduceIte, reduceCtorEq, exists_eq_right, eInt, eNode, e0, b1, b2, d3, eL, hxx])
        all_goals first | exact Sub.refl _ | exact ⟨by omega, by omega, Sub.refl _⟩ | trace_state
    · have b2 : ((nd d n).name == [115, 101, 108, 101, 99, 116]) = false := by simpa using h2
      rw [if_neg h2]
      cases h3 : tickM kd
      · rw [h3] at cT
        rw [if_neg (by simp)]
        refine dcalls_of_vc Tryz.func51 hn51 hc51 (by rw [Tryz.ntmps51]; simp) (by rw [Tryz.ntmps51]; decide) ?_
        simp -dsimp -implicitDefEqProofs (disch := omega) only [VCA, Nat.reduceEqDiff, ↓reduceIte, reduceCtorEq, c51, fA]
        repeat' (first | ((with_reducible refine Br.dec (fun _ => ?_) (fun _ => ?_)) <;> try (exfalso; omega)) | ((with_reducible refine Br.eq (fun _ => ?_) (fun _ => ?_)) <;> try (exfalso; omega)) | ((with_reducible refine Br.ne (fun _ => ?_) (fun _ => ?_)) <;> try (exfalso; omega)) | ((with_reducible refine brNdec (fun _ => ?_) (fun _ => ?_)) <;> try (exfalso; omega)) | ((with_reducible refine brNeq (fun _ => ?_) (fun _ => ?_)) <;> try (exfalso; omega)) | with_reducible refine Br.intro (fun _ => ?_) (fun _ => ?_) | (with_reducible apply pcallE.of; · exact cK) | (with_reducible apply pcallE.of; · exact cT) | (with_reducible apply pcallE.of; · exact cA) | (with_reducible refine And.intro ?_ ?_; · omega) | simp -dsimp -implicitDefEqProofs (disch := omega) only [↓vcOps_sp 52, VCA, Nat.reduceEqDiff, Nat.reduceAdd, Nat.reduceLeDiff, ↓reduceIte, reduceCtorEq, exists_eq_right, eNode, e0, b1, b2])
        all_goals first | exact Sub.refl _ | exact ⟨by omega, by omega, Sub.refl _⟩ | trace_state
      · rw [h3] at cT
        cases h4 : hasA d n [118, 97, 108, 117, 101]
        · rw [h4] at cH
          rw [if_pos ⟨rfl, rfl⟩]
          refine dcalls_of_vc Tryz.func51 hn51 hc51 (by rw [Tryz.ntmps51]; simp) (by rw [Tryz.ntmps51]; decide) ?_
          simp -dsimp -implicitDefEqProofs (disch := omega) only [VCA, Nat.reduceEqDiff, ↓reduceIte, reduceCtorEq, c51, fA]
          repeat' (first | ((with_reducible refine Br.dec (fun _ => ?_) (fun _ => ?_)) <;> try (exfalso; omega)) | ((with_reducible refine Br.eq (fun _ => ?_) (fun _ => ?_)) <;> try (exfalso; omega)) | ((with_reducible refine Br.ne (fun _ => ?_) (fun _ => ?_)) <;> try (exfalso; omega)) | ((with_reducible refine brNdec (fun _ => ?_) (fun _ => ?_)) <;> try (exfalso; omega)) | ((with_reducible refine brNeq (fun _ => ?_) (fun _ => ?_)) <;> try (exfalso; omega)) | with_reducible refine Br.intro (fun _ => ?_) (fun _ => ?_) | (with_reducible apply pcallE.of; · exact cK) | (with_reducible apply pcallE.of; · exact cT) | (with_reducible apply pcallE.of; · exact cH) | (with_reducible refine And.intro ?_ ?_; · omega) | simp -dsimp -implicitDefEqProofs (disch := omega) only [↓vcOps_sp 52, VCA, Nat.reduceEqDiff, Nat.reduceAdd, Nat.reduceLeDiff, ↓reduceIte, reduceCtorEq, exists_eq_right, eNode, e0, b1, b2])
          all_goals first | exact Sub.refl _ | exact ⟨by omega, by omega, Sub.refl _⟩ | trace_state
        · rw [h4] at cH
          rw [if_neg (by simp)]
          refine dcalls_of_vc Tryz.func51 hn51 hc51 (by rw [Tryz.ntmps51]; simp) (by rw [Tryz.ntmps51]; decide) ?_
          simp -dsimp -implicitDefEqProofs (disch := omega) only [VCA, Nat.reduceEqDiff, ↓reduceIte, reduceCtorEq, c51, fA]
          repeat' (first | ((with_reducible refine Br.dec (fun _ => ?_) (fun _ => ?_)) <;> try (exfalso; omega)) | ((with_reducible refine Br.eq (fun _ => ?_) (fun _ => ?_)) <;> try (exfalso; omega)) | ((with_reducible refine Br.ne (fun _ => ?_) (fun _ => ?_)) <;> try (exfalso; omega)) | ((with_reducible refine brNdec (fun _ => ?_) (fun _ => ?_)) <;> try (exfalso; omega)) | ((with_reducible refine brNeq (fun _ => ?_) (fun _ => ?_)) <;> try (exfalso; omega)) | with_reducible refine Br.intro (fun _ => ?_) (fun _ => ?_) | (with_reducible apply pcallE.of; · exact cK) | (with_reducible apply pcallE.of; · exact cT) | (with_reducible apply pcallE.of; · exact cH) | (with_reducible apply pcallE.of; · exact cA) | (with_reducible refine And.intro ?_ ?_; · omega) | simp -dsimp -implicitDefEqProofs (disch := omega) only [↓vcOps_sp 52, VCA, Nat.reduceEqDiff, Nat.reduceAdd, Nat.reduceLeDiff, ↓reduceIte, reduceCtorEq, exists_eq_right, eNode, e0, b1, b2])
          all_goals first | exact Sub.refl _ | exact ⟨by omega, by omega, Sub.refl _⟩ | trace_state
end Go.Proofs.K
end
section
/- forms: what is told of a control. -/
set_option linter.unusedSimpArgs false
set_option linter.unusedVariables false
namespace Go.Proofs.K
open Go Go.Sim Go.Proofs
variable {G : Glob}
def c81 : SFun := ⟨(.seq (.reg [⟨(some 3), (.mv (.c (.bool false))), none⟩]) (.seq (.reg [⟨(some 4), (.ld 1 false (.t 1)), none⟩, ⟨(some 5), (.pcall 80 [(.t 4), (.c (.str [102, 105, 101, 108, 100, 115, 101, 116]))]), none⟩, ⟨(some 6), (.mv (.t 0)), none⟩, ⟨(some 7), (.call (.t 5) [(.t 6)]), none⟩, ⟨(some 8), (.mv (.t 7)), none⟩, ⟨(some 9), (.ld 1 false (.t 1)), (some (8, true))⟩, ⟨(some 10), (.mv (.t 0)), (some (8, true))⟩, ⟨(some 11), (.pcall 78 [(.t 9), (.t 10), (.c (.str [100, 105, 115, 97, 98, 108, 101, 100]))]), (some (8, true))⟩, ⟨(some 12), (.pick (.t 8) (.t 11) (.c (.bool false))), none⟩, ⟨(some 3), (.mv (.t 12)), none⟩]) .ret)), [(.tmp 3)]⟩
theorem hc81 : toSF Tryz.prog {pure := [80, 78]} Tryz.f81 = some c81 := by kernel_rfl
theorem hn81 : (Tryz.f81.name == "runtime.NumGoroutine") = false := by kernel_rfl
theorem told1_ok (d : HDoc) (sm : DocSm d) (o : List Int) (n : Int) (hn : inD d n) : PCalls (Pg G) 81 [aInt n, .pin [fA d o]] (.bool (offM d n)) := fun h => by
  have c3 := fnamed_ok (G := G) d o [102, 105, 101, 108, 100, 115, 101, 116]
  have g3 := fnamed1_ok (G := G) d sm o n hn [102, 105, 101, 108, 100, 115, 101, 116]
  have c1 := fhas_ok (G := G) d sm o n hn [100, 105, 115, 97, 98, 108, 101, 100]
  obtain ⟨F, hF⟩ : ∃ F, fA d o = F := ⟨_, rfl⟩
  rw [hF] at c1 c3 g3
  unfold offM
  generalize isN d [102, 105, 101, 108, 100, 115, 101, 116] n = b at *
  generalize hasA d n [100, 105, 115, 97, 98, 108, 101, 100] = c at *
  cases b <;> cases c
  all_goals
    refine dcalls_of_vc Tryz.func81 hn81 hc81 (by rw [Tryz.ntmps81]; simp) (by rw [Tryz.ntmps81]; decide) ?_
    simp -dsimp -implicitDefEqProofs (disch := omega) only [VCA, Nat.reduceEqDiff, ↓reduceIte, c81, hF]
    repeat' (first | ((with_reducible refine Br.dec (fun _ => ?_) (fun _ => ?_)) <;> try (exfalso; omega)) | ((with_reducible refine Br.eq (fun _ => ?_) (fun _ => ?_)) <;> try (exfalso; omega)) | ((with_reducible refine Br.ne (fun _ => ?_) (fun _ => ?_)) <;> try (exfalso; omega)) | ((with_reducible refine brNdec (fun _ => ?_) (fun _ => ?_)) <;> try (exfalso; omega)) | ((with_reducible refine brNeq (fun _ => ?_) (fun _ => ?_)) <;> try (exfalso; omega)) | with_reducible refine Br.intro (fun _ => ?_) (fun _ => ?_) | (with_reducible apply pcallE.of; · exact c3) | (with_reducible refine PCalls.of g3 ?_) | (with_reducible apply pcallE.of; · exact c1) | (with_reducible refine And.intro ?_ ?_; · omega) | simp -dsimp -implicitDefEqProofs (disch := omega) only [↓vcOps_sp 8, VCA, Nat.reduceEqDiff, ↓reduceIte, reduceCtorEq, exists_eq_right_right, exists_eq_right])
  all_goals first | exact Sub.refl _ | exact ⟨Sub.refl _, rfl⟩ | trace_state
def k36_1 : List UInt8 := [32, 115, 117, 98, 109, 105, 116, 32, 114, 101, 115, 101, 116, 32, 98, 117, 116, 116, 111, 110, 32, 105, 109, 97, 103, 101, 32, 102, 105, 108, 101, 32]
def c36 : SFun := ⟨(.seq (.reg [⟨(some 2), (.boxF 60 1 (.t 0)), none⟩, ⟨(some 4), (.mv (.c (.bool false))), none⟩]) (.seq (.reg [⟨(some 7), (.ld 1 false (.t 2)), none⟩, ⟨(some 8), (.mv (.t 1)), none⟩, ⟨(some 9), (.pcall 37 [(.t 7), (.t 8)]), none⟩, ⟨(some 5), (.mv (.t 9)), none⟩]) (.seq (.reg [⟨(some 10), (.mkf 81 [] [(.t 2)]), none⟩, ⟨(some 6), (.mv (.t 10)), none⟩]) (.seq (.block 0 (.seq (.seq (.reg [⟨(some 12), (.ld 1 false (.t 2)), none⟩, ⟨(some 13), (.mv (.t 1)), none⟩, ⟨(some 14), (.pcall 38 [(.t 12), (.t 13), (.c (.str [110, 97, 109, 101]))]), none⟩, ⟨(some 15), (.bin .eql (.t 14) (.c (.str []))), none⟩, ⟨(some 11), (.mv (.t 15)), none⟩]) (.cond (.t 11) .skip (.seq (.reg [⟨(some 16), (.ld 1 false (.t 2)), none⟩, ⟨(some 17), (.mv (.t 1)), none⟩, ⟨(some 18), (.pcall 78 [(.t 16), (.t 17), (.c (.str [100, 105, 115, 97, 98, 108, 101, 100]))]), none⟩, ⟨(some 11), (.mv (.t 18)), none⟩]) (.cond (.t 11) .skip (.reg [⟨(some 19), (.ld 1 false (.t 2)), none⟩, ⟨(some 20), (.mv (.t 1)), none⟩, ⟨(some 21), (.mv (.t 6)), none⟩, ⟨(some 22), (.pcall 79 [(.t 19), (.t 20), (.t 21)]), none⟩, ⟨(some 23), (.bin .geq (.t 22) (.c (.int .i64 (0)))), none⟩, ⟨(some 11), (.mv (.t 23)), none⟩]))))) (.cond (.t 11) (.seq (.reg [⟨(some 4), (.mv (.c (.bool false))), none⟩]) .ret) (.seq (.reg [⟨(some 25), (.mv (.t 5)), none⟩, ⟨(some 26), (.pcall 34 [(.t 25), (.c (.str k36_1))]), none⟩, ⟨(some 24), (.mv (.t 26)), none⟩]) (.cond (.t 24) (.seq (.reg [⟨(some 4), (.mv (.c (.bool false))), none⟩]) .ret) .skip))))) (.seq (.reg [⟨(some 27), (.mv (.t 5)), none⟩, ⟨(some 28), (.pcall 82 [(.t 27)]), none⟩, ⟨(some 29), (.un .not (.t 28)), none⟩, ⟨(some 30), (.mv (.t 29)), none⟩, ⟨(some 31), (.ld 1 false (.t 2)), (some (30, false))⟩, ⟨(some 32), (.mv (.t 1)), (some (30, false))⟩, ⟨(some 33), (.pcall 78 [(.t 31), (.t 32), (.c (.str [99, 104, 101, 99, 107, 101, 100]))]), (some (30, false))⟩, ⟨(some 34), (.pick (.t 30) (.c (.bool true)) (.t 33)), none⟩, ⟨(some 4), (.mv (.t 34)), none⟩]) .ret))))), [(.tmp 4)]⟩
theorem hc36 : toSF Tryz.prog {pure := [37, 38, 78, 79, 34, 82]} Tryz.f36 = some c36 := by kernel_rfl
theorem hn36 : (Tryz.f36.name == "runtime.NumGoroutine") = false := by kernel_rfl
theorem told_ok (hG : MaxLenOK G) (hT : TabsOK G) (d : HDoc) (V : DV d) (sm : DocSm d) (o : List Int) (n : Int) (hn : inD d n) : PCalls (Pg G) 36 [fA d o, aInt n] (.bool (toldM d n)) := fun h => by
  have cK := kind_ok (G := G) hG hT d V sm o n hn
  have cN := fattr_ok (G := G) d sm o n hn [110, 97, 109, 101]
  have cD := fhas_ok (G := G) d sm o n hn [100, 105, 115, 97, 98, 108, 101, 100]
  have cC := fhas_ok (G := G) d sm o n hn [99, 104, 101, 99, 107, 101, 100]
  have cB := fabove_ok (G := G) d V sm o n hn 81 [] [.pin [fA d o]] (offM d) fun k hk => told1_ok d sm o k hk
  have cT := ticked_ok (G := G) (kindM d n)
  have kl : (kindM d n).length ≤ 4000 := by
    unfold kindM
    split
    · unfold typM
      split
      · have := attD_len V hn [116, 121, 112, 101]; rw [List.length_map]; omega
      · decide
    · have := name_len V hn; omega
  have ek : k36_1 = 32 :: (subS ++ [32]) := by decide +kernel
  have cO : PCalls (Pg G) 34 [.str (kindM d n), .str (32 :: (subS ++ [32]))] (.bool (inW (kindM d n) subS)) := one_in hG (kindM d n) subS (by decide +kernel) (by omega) (by decide +kernel)
  have vF : isV (fA d o) = true := rfl
  have wF : cellsOf (fA d o) = [fA d o] := rfl
  obtain ⟨F, hF⟩ : ∃ F, fA d o = F := ⟨_, rfl⟩
  rw [hF] at cK cN cD cC cB vF wF
  unfold toldM
  generalize kindM d n = kd at *
  generalize inW kd subS = b1 at *
  generalize tickM kd = b2 at *
  generalize hasA d n [99, 104, 101, 99, 107, 101, 100] = b3 at *
  generalize hasA d n [100, 105, 115, 97, 98, 108, 101, 100] = b4 at *
  generalize attD d n [110, 97, 109, 101] = nm at *
  generalize abM d (offM d) n = ab at *
  obtain ⟨b5, h5⟩ : ∃ b, (nm == []) = b := ⟨_, rfl⟩
  obtain ⟨b6, h6⟩ : ∃ b, decide (0 ≤ ab) = b := ⟨_, rfl⟩
  rw [h5, h6]
  cases b5
  · cases b4
    · cases b6
      · cases b1
        · cases b2
          · refine dcalls_of_vc Tryz.func36 hn36 hc36 (by rw [Tryz.ntmps36]; simp) (by rw [Tryz.ntmps36]; decide) ?_
            simp -dsimp -implicitDefEqProofs (disch := omega) only [VCA, Nat.reduceEqDiff, ↓reduceIte, c36, hF, vF, wF]
            repeat' (first | ((with_reducible refine Br.dec (fun _ => ?_) (fun _ => ?_)) <;> try (exfalso; omega)) | ((with_reducible refine Br.eq (fun _ => ?_) (fun _ => ?_)) <;> try (exfalso; omega)) | ((with_reducible refine Br.ne (fun _ => ?_) (fun _ => ?_)) <;> try (exfalso; omega)) | ((with_reducible refine brNdec (fun _ => ?_) (fun _ => ?_)) <;> try (exfalso; omega)) | ((with_reducible refine brNeq (fun _ => ?_) (fun _ => ?_)) <;> try (exfalso; omega)) | with_reducible refine Br.intro (fun _ => ?_) (fun _ => ?_) | (with_reducible apply pcallE.of; · exact cK) | (with_reducible apply pcallE.of; · exact cN) | (with_reducible apply pcallE.of; · exact cD) | (with_reducible apply pcallE.of; · exact cB) | (with_reducible apply pcallE.of; · exact cO) | (with_reducible apply pcallE.of; · exact cT) | (with_reducible apply pcallE.of; · exact cC) | (with_reducible refine And.intro ?_ ?_; · omega) | simp -dsimp -implicitDefEqProofs (disch := omega) only [↓vcOps_sp 30, VCA, Nat.reduceEqDiff, ↓reduceIte, exists_eq_right, h5, h6, ek])
            all_goals first | exact Sub.refl _ | exact ⟨Sub.refl _, rfl⟩ | trace_state
          · cases b3
            all_goals
              refine dcalls_of_vc Tryz.func36 hn36 hc36 (by rw [Tryz.ntmps36]; simp) (by rw [Tryz.ntmps36]; decide) ?_
              simp -dsimp -implicitDefEqProofs (disch := omega) only [VCA, Nat.reduceEqDiff, ↓reduceIte, c36, hF, vF, wF]
              repeat' (first | ((with_reducible refine Br.dec (fun _ => ?_) (fun _ => ?_)) <;> try (exfalso; omega)) | ((with_reducible refine Br.eq (fun _ => ?_) (fun _ => ?_)) <;> try (exfalso; omega)) | ((with_reducible refine Br.ne (fun _ => ?_) (fun _ => ?_)) <;> try (exfalso; omega)) | ((with_reducible refine brNdec (fun _ => ?_) (fun _ => ?_)) <;> try (exfalso; omega)) | ((with_reducible refine brNeq (fun _ => ?_) (fun _ => ?_)) <;> try (exfalso; omega)) | with_reducible refine Br.intro (fun _ => ?_) (fun _ => ?_) | (with_reducible apply pcallE.of; · exact cK) | (with_reducible apply pcallE.of; · exact cN) | (with_reducible apply pcallE.of; · exact cD) | (with_reducible apply pcallE.of; · exact cB) | (with_reducible apply pcallE.of; · exact cO) | (with_reducible apply pcallE.of; · exact cT) | (with_reducible apply pcallE.of; · exact cC) | (with_reducible refine And.intro ?_ ?_; · omega) | simp -dsimp -implicitDefEqProofs (disch := omega) only [↓vcOps_sp 30, VCA, Nat.reduceEqDiff, ↓reduceIte, exists_eq_right_right, exists_eq_right, h5, h6, ek])
            all_goals first | exact Sub.refl _ | exact ⟨Sub.refl _, rfl⟩ | trace_state
        · refine dcalls_of_vc Tryz.func36 hn36 hc36 (by rw [Tryz.ntmps36]; simp) (by rw [Tryz.ntmps36]; decide) ?_
          simp -dsimp -implicitDefEqProofs (disch := omega) only [VCA, Nat.reduceEqDiff, ↓reduceIte, c36, hF, vF, wF]
          repeat' (first | ((with_reducible refine Br.dec (fun _ => ?_) (fun _ => ?_)) <;> try (exfalso; omega)) | ((with_reducible refine Br.eq (fun _ => ?_) (fun _ => ?_)) <;> try (exfalso; omega)) | ((with_reducible refine Br.ne (fun _ => ?_) (fun _ => ?_)) <;> try (exfalso; omega)) | ((with_reducible refine brNdec (fun _ => ?_) (fun _ => ?_)) <;> try (exfalso; omega)) | ((with_reducible refine brNeq (fun _ => ?_) (fun _ => ?_)) <;> try (exfalso; omega)) | with_reducible refine Br.intro (fun _ => ?_) (fun _ => ?_) | (with_reducible apply pcallE.of; · exact cK) | (with_reducible apply pcallE.of; · exact cN) | (with_reducible apply pcallE.of; · exact cD) | (with_reducible apply pcallE.of; · exact cB) | (with_reducible apply pcallE.of; · exact cO) | (with_reducible refine And.intro ?_ ?_; · omega) | simp -dsimp -implicitDefEqProofs (disch := omega) only [VCA, Nat.reduceEqDiff, ↓reduceIte, exists_eq_right_right, h5, h6, ek])
          all_goals first | exact Sub.refl _ | exact ⟨Sub.refl _, rfl⟩ | trace_state
      · refine dcalls_of_vc Tryz.func36 hn36 hc36 (by rw [Tryz.ntmps36]; simp) (by rw [Tryz.ntmps36]; decide) ?_
        simp -dsimp -implicitDefEqProofs (disch := omega) only [VCA, Nat.reduceEqDiff, ↓reduceIte, c36, hF, vF, wF]
        repeat' (first | ((with_reducible refine Br.dec (fun _ => ?_) (fun _ => ?_)) <;> try (exfalso; omega)) | ((with_reducible refine Br.eq (fun _ => ?_) (fun _ => ?_)) <;> try (exfalso; omega)) | ((with_reducible refine Br.ne (fun _ => ?_) (fun _ => ?_)) <;> try (exfalso; omega)) | ((with_reducible refine brNdec (fun _ => ?_) (fun _ => ?_)) <;> try (exfalso; omega)) | ((with_reducible refine brNeq (fun _ => ?_) (fun _ => ?_)) <;> try (exfalso; omega)) | with_reducible refine Br.intro (fun _ => ?_) (fun _ => ?_) | (with_reducible apply pcallE.of; · exact cK) | (with_reducible apply pcallE.of; · exact cN) | (with_reducible apply pcallE.of; · exact cD) | (with_reducible apply pcallE.of; · exact cB) | (with_reducible refine And.intro ?_ ?_; · omega) | simp -dsimp -implicitDefEqProofs (disch := omega) only [VCA, Nat.reduceEqDiff, ↓reduceIte, exists_eq_right_right, h5, h6, ek])
        all_goals first | exact Sub.refl _ | exact ⟨Sub.refl _, rfl⟩ | trace_state
    · refine dcalls_of_vc Tryz.func36 hn36 hc36 (by rw [Tryz.ntmps36]; simp) (by rw [Tryz.ntmps36]; decide) ?_
      simp -dsimp -implicitDefEqProofs (disch := omega) only [VCA, Nat.reduceEqDiff, ↓reduceIte, c36, hF, vF, wF]
      repeat' (first | ((with_reducible refine Br.dec (fun _ => ?_) (fun _ => ?_)) <;> try (exfalso; omega)) | ((with_reducible refine Br.eq (fun _ => ?_) (fun _ => ?_)) <;> try (exfalso; omega)) | ((with_reducible refine Br.ne (fun _ => ?_) (fun _ => ?_)) <;> try (exfalso; omega)) | ((with_reducible refine brNdec (fun _ => ?_) (fun _ => ?_)) <;> try (exfalso; omega)) | ((with_reducible refine brNeq (fun _ => ?_) (fun _ => ?_)) <;> try (exfalso; omega)) | with_reducible refine Br.intro (fun _ => ?_) (fun _ => ?_) | (with_reducible apply pcallE.of; · exact cK) | (with_reducible apply pcallE.of; · exact cN) | (with_reducible apply pcallE.of; · exact cD) | (with_reducible refine And.intro ?_ ?_; · omega) | simp -dsimp -implicitDefEqProofs (disch := omega) only [VCA, Nat.reduceEqDiff, ↓reduceIte, exists_eq_right_right, h5])
      all_goals first | exact Sub.refl _ | exact ⟨Sub.refl _, rfl⟩ | trace_state
  · refine dcalls_of_vc Tryz.func36 hn36 hc36 (by rw [Tryz.ntmps36]; simp) (by rw [Tryz.ntmps36]; decide) ?_
    simp -dsimp -implicitDefEqProofs (disch := omega) only [VCA, Nat.reduceEqDiff, ↓reduceIte, c36, hF, vF, wF]
    repeat' (first | ((with_reducible refine Br.dec (fun _ => ?_) (fun _ => ?_)) <;> try (exfalso; omega)) | ((with_reducible refine Br.eq (fun _ => ?_) (fun _ => ?_)) <;> try (exfalso; omega)) | ((with_reducible refine Br.ne (fun _ => ?_) (fun _ => ?_)) <;> try (exfalso; omega)) | ((with_reducible refine brNdec (fun _ => ?_) (fun _ => ?_)) <;> try (exfalso; omega)) | ((with_reducible refine brNeq (fun _ => ?_) (fun _ => ?_)) <;> try (exfalso; omega)) | with_reducible refine Br.intro (fun _ => ?_) (fun _ => ?_) | (with_reducible apply pcallE.of; · exact cK) | (with_reducible apply pcallE.of; · exact cN) | (with_reducible refine And.intro ?_ ?_; · omega) | simp -dsimp -implicitDefEqProofs (disch := omega) only [VCA, Nat.reduceEqDiff, ↓reduceIte, exists_eq_right_right, h5])
    all_goals first | exact Sub.refl _ | exact ⟨Sub.refl _, rfl⟩ | trace_state
def c39 : SFun := ⟨(.seq (.reg [⟨(some 4), (.mv (.c .emp)), none⟩]) (.seq (.reg [⟨(some 10), (.mv (.t 0)), none⟩, ⟨(some 11), (.mv (.t 1)), none⟩, ⟨(some 12), (.pcall 38 [(.t 10), (.t 11), (.c (.str [110, 97, 109, 101]))]), none⟩, ⟨(some 5), (.mv (.t 12)), none⟩]) (.seq (.seq (.reg [⟨(some 13), (.mv (.t 0)), none⟩, ⟨(some 14), (.fldA 0 (.t 13)), none⟩, ⟨(some 15), (.fldA 0 (.t 14)), none⟩, ⟨(some 16), (.fldA 0 (.t 15)), none⟩, ⟨(some 17), (.ld 1 false (.t 16)), none⟩, ⟨(some 18), (.mv (.t 1)), none⟩, ⟨(some 19), (.idxA 6 (.t 17) (.t 18)), none⟩, ⟨(some 20), (.fldA 1 (.t 19)), none⟩, ⟨(some 21), (.ld 1 false (.t 20)), none⟩, ⟨(some 22), (.bin .neq (.t 21) (.c (.str [115, 101, 108, 101, 99, 116]))), none⟩]) (.cond (.t 22) (.seq (.reg [⟨(some 23), (.mv (.t 5)), none⟩, ⟨(some 24), (.mv (.t 0)), none⟩, ⟨(some 25), (.mv (.t 1)), none⟩, ⟨(some 26), (.pcall 51 [(.t 24), (.t 25)]), none⟩, ⟨(some 27), (.bld [(.str []), (.str [])] [(0, (1, (.t 23))), (1, (1, (.t 26)))]), none⟩, ⟨(some 28), (.bldR 25 2 [(.t 27)]), none⟩, ⟨(some 4), (.mv (.t 28)), none⟩]) .ret) .skip)) (.seq (.reg [⟨(some 29), (.mv (.t 0)), none⟩, ⟨(some 30), (.mv (.t 1)), none⟩, ⟨(some 31), (.pcall 85 [(.t 29), (.t 30)]), none⟩, ⟨(some 6), (.mv (.t 31)), none⟩]) (.seq (.seq (.reg [⟨(some 32), (.mv (.t 0)), none⟩, ⟨(some 33), (.mv (.t 1)), none⟩, ⟨(some 34), (.pcall 78 [(.t 32), (.t 33), (.c (.str [109, 117, 108, 116, 105, 112, 108, 101]))]), none⟩, ⟨(some 35), (.un .not (.t 34)), none⟩]) (.cond (.t 35) (.reg [⟨(some 36), (.mv (.t 6)), none⟩, ⟨(some 37), (.mv (.t 6)), none⟩, ⟨(some 38), (.len (.t 37)), none⟩, ⟨(some 39), (.bin .sub (.t 38) (.c (.int .i64 (1)))), none⟩, ⟨(some 40), (.max2 (.t 39) (.c (.int .i64 (0)))), none⟩, ⟨(some 41), (.slA 1 (.t 36) (some (.t 40)) none), none⟩, ⟨(some 6), (.mv (.t 41)), none⟩]) .skip)) (.seq (.reg [⟨(some 7), (.mv (.c .emp)), none⟩]) (.seq (.seq (.reg [⟨(some 42), (.mv (.t 6)), none⟩, ⟨(some 43), (.len (.t 42)), none⟩, ⟨(some 44), (.mv (.c (.int .i64 (0)))), none⟩]) (.block 0 (.loop (.seq (.reg [⟨(some 45), (.bin .lss (.t 44) (.t 43)), none⟩]) (.seq (.cond (.t 45) .skip (.exit 0)) (.seq (.block 1 (.seq (.reg [⟨(some 46), (.idxA 1 (.t 42) (.t 44)), none⟩, ⟨(some 47), (.ld 1 false (.t 46)), none⟩, ⟨(some 9), (.mv (.t 47)), none⟩]) (.reg [⟨(some 48), (.mv (.t 7)), none⟩, ⟨(some 49), (.mv (.t 5)), none⟩, ⟨(some 50), (.mv (.t 0)), none⟩, ⟨(some 51), (.mv (.t 9)), none⟩, ⟨(some 52), (.pcall 86 [(.t 50), (.t 51)]), none⟩, ⟨(some 53), (.bld [(.str []), (.str [])] [(0, (1, (.t 49))), (1, (1, (.t 52)))]), none⟩, ⟨(some 54), (.bldF 25 2 [(.t 53)]), none⟩, ⟨(some 55), (.app 25 2 32 (.t 48) (.t 54)), none⟩, ⟨(some 7), (.mv (.t 55)), none⟩]))) (.reg [⟨(some 56), (.bin .add (.t 44) (.c (.int .i64 (1)))), none⟩, ⟨(some 44), (.mv (.t 56)), none⟩]))))))) (.seq (.reg [⟨(some 57), (.mv (.t 7)), none⟩, ⟨(some 4), (.mv (.t 57)), none⟩]) .ret)))))))), [(.tmp 4)]⟩
theorem hc39 : toSF Tryz.prog {pure := [38, 51, 85, 78, 86], how := [(28, 2)]} Tryz.f39 = some c39 := by kernel_rfl
theorem hn39 : (Tryz.f39.name == "runtime.NumGoroutine") = false := by kernel_rfl
theorem entries_ok (hG : MaxLenOK G) (hT : TabsOK G) (d : HDoc) (V : DV d) (sm : DocSm d) (o : List Int) (n : Int) (hn : inD d n) (h : Heap) : DCalls (Pg G) 39 [fA d o, aInt n] h fun a h' => Acc h 25 2 ((entsOf d n).map eEnt) a h' ∧ Sim.Sub h h' := by
  have hl := V.len
  have n0 := hn.1
  have n1 := hn.2
  have e0 : nth d.nodes n.toNat = nd d n := rfl
  have cN := fattr_ok (G := G) d sm o n hn [110, 97, 109, 101]
  have cV := value_ok (G := G) hG hT d V sm o n hn
  have cC := chosen_ok (G := G) d V sm o n hn
  have cM := fhas_ok (G := G) d sm o n hn [109, 117, 108, 116, 105, 112, 108, 101]
  have gO := fun x hx => option_ok (G := G) d V sm o x hx
  have ci := chosM_in V hn
  have cl := chosM_len V hn
  have fE : fA d o = .pin [sl eNode d.nodes, .bool d.quirks, sl eInt o] := rfl
  rw [fE] at cN cV cC cM
  unfold entsOf
  generalize attD d n [110, 97, 109, 101] = nm at *
  by_cases h1 : (nd d n).name = [115, 101, 108, 101, 99, 116]
  · have b1 : ((nd d n).name != [115, 101, 108, 101, 99, 116]) = false := by simpa using h1
    rw [if_pos h1]
    generalize chosM d n = L0 at *
    obtain ⟨L, hL⟩ : ∃ L, (if hasA d n [109, 117, 108, 116, 105, 112, 108, 101] = true then L0 else L0.drop (L0.length - 1)) = L := ⟨_, rfl⟩
    rw [hL]
    have hLi : ∀ k ∈ L, inD d k := fun k hk => by
      rw [← hL] at hk
      split at hk
      · exact ci k hk
      · exact ci k (List.mem_of_mem_drop hk)
    have hLl : L.length ≤ 200 := by
      rw [← hL]
      split
      · exact cl
      · rw [List.length_drop]; omega
    have mx2 : (max ((L0.length : Int) - 1) 0).toNat = L0.length - 1 := by omega
    have mx3 : decide (0 ≤ max ((L0.length : Int) - 1) 0) = true := decide_eq_true (by omega)
    have mx4 : max ((L0.length : Int) - 1) 0 ≤ (L0.length : Int) := by omega
    cases hm : hasA d n [109, 117, 108, 116, 105, 112, 108, 101]
    · rw [hm] at cM hL
      rw [if_neg (by simp)] at hL
      refine dcalls_of_vc Tryz.func39 hn39 hc39 (by rw [Tryz.ntmps39]; simp) (by rw [Tryz.ntmps39]; decide) ?_
      simp -dsimp -implicitDefEqProofs (disch := omega) only [VCA, Nat.reduceEqDiff, ↓reduceIte, reduceCtorEq, c39, fA]
      repeat' (first | ((with_reducible refine Br.dec (fun _ => ?_) (fun _ => ?_)) <;> try (exfalso; omega)) | ((with_reducible refine Br.eq (fun _ => ?_) (fun _ => ?_)) <;> try (exfalso; omega)) | ((with_reducible refine Br.ne (fun _ => ?_) (fun _ => ?_)) <;> try (exfalso; omega)) | ((with_reducible refine brNdec (fun _ => ?_) (fun _ => ?_)) <;> try (exfalso; omega)) | ((with_reducible refine brNeq (fun _ => ?_) (fun _ => ?_)) <;> try (exfalso; omega)) | with_reducible refine Br.intro (fun _ => ?_) (fun _ => ?_) | (with_reducible apply pcallE.of; · exact cN) | (with_reducible apply pcallE.of; · exact cC) | (with_reducible apply pcallE.of; · exact cM) | (with_reducible refine And.intro ?_ ?_; · omega) | simp -dsimp -implicitDefEqProofs (disch := omega) only [VCA, Nat.reduceEqDiff, Nat.reduceAdd, Nat.reduceLeDiff, ↓reduceIte, reduceCtorEq, eNode, e0, b1, mx2, hL])
      refine LoopVC.intro (fun m e h' => ∃ k : Nat, k ≤ L.length ∧ m = L.length - k ∧ e 0 = .pin [sl eNode d.nodes, .bool d.quirks, sl eInt o] ∧ e 5 = .str nm ∧ e 42 = sl eInt L ∧ e 43 = aInt L.length ∧ e 44 = aInt k ∧ Acc h 25 2 (((L.take k).map fun k => (⟨nm, optV d k⟩ : HEnt)).map eEnt) (e 7) h' ∧ Sim.Sub h h') L.length
        (by exact ⟨0, by omega, by omega, rfl, rfl, rfl, rfl, rfl, Acc.nil, Sub.refl _⟩) ?_
      rintro m e h' ⟨k, hk, rfl, e0', e5, e42, e43, e44, A, S⟩
      by_cases hlt : k < L.length
      · have d1 : decide ((k : Int) < (L.length : Int)) = true := decide_eq_true (by omega)
        have hx := hLi _ (nth_mem' hlt)
        have tk : (L.take (k + 1)).map (fun k => (⟨nm, optV d k⟩ : HEnt)) = (L.take k).map (fun k => (⟨nm, optV d k⟩ : HEnt)) ++ [⟨nm, optV d (nth L k)⟩] := by
          rw [take_snoc hlt, List.map_append]; rfl
        obtain ⟨x, hxx⟩ : ∃ x, nth L k = x := ⟨_, rfl⟩
        rw [hxx] at hx tk
        have g := gO x hx
        rw [fE] at g
        repeat' (first | ((with_reducible refine Br.dec (fun _ => ?_) (fun _ => ?_)) <;> try (exfalso; omega)) | ((with_reducible refine Br.eq (fun _ => ?_) (fun _ => ?_)) <;> try (exfalso; omega)) | ((with_reducible refine Br.ne (fun _ => ?_) (fun _ => ?_)) <;> try (exfalso; omega)) | ((with_reducible refine brNdec (fun _ => ?_) (fun _ => ?_)) <;> try (exfalso; omega)) | ((with_reducible refine brNeq (fun _ => ?_) (fun _ => ?_)) <;> try (exfalso; omega)) | with_reducible refine Br.intro (fun _ => ?_) (fun _ => ?_) | (with_reducible apply pcallE.of; · exact g) | (with_reducible refine And.intro ?_ ?_; · omega) | simp -dsimp -implicitDefEqProofs (disch := omega) only [VCA, Nat.reduceEqDiff, Nat.reduceAdd, Nat.reduceLeDiff, ↓reduceIte, reduceCtorEq, okParts, fillA, okFill, forall_eq, exists_eq_left, eInt, e0', e5, e42, e43, e44, d1, hxx])
        refine A.app S (by simp only [List.length_map, List.length_cons, List.length_nil, List.length_take]; omega) (by simp only [List.length_map, List.length_cons, List.length_nil, List.length_take]; omega) fun a' h'' A' S' => ?_
        simp -dsimp -implicitDefEqProofs (disch := omega) only [VCA, Nat.reduceEqDiff, ↓reduceIte, reduceCtorEq, e0', e5, e42, e43, e44]
        refine ⟨_, by omega, k + 1, by omega, rfl, by omega, ?_, S'⟩
        rw [tk, List.map_append]
        exact A'
      · obtain rfl : k = L.length := by omega
        have d1 : decide ((L.length : Int) < (L.length : Int)) = false := decide_eq_false (by omega)
        rw [List.take_length] at A
        repeat' (first | ((with_reducible refine Br.dec (fun _ => ?_) (fun _ => ?_)) <;> try (exfalso; omega)) | ((with_reducible refine Br.eq (fun _ => ?_) (fun _ => ?_)) <;> try (exfalso; omega)) | ((with_reducible refine Br.ne (fun _ => ?_) (fun _ => ?_)) <;> try (exfalso; omega)) | ((with_reducible refine brNdec (fun _ => ?_) (fun _ => ?_)) <;> try (exfalso; omega)) | ((with_reducible refine brNeq (fun _ => ?_) (fun _ => ?_)) <;> try (exfalso; omega)) | with_reducible refine Br.intro (fun _ => ?_) (fun _ => ?_) | (with_reducible refine And.intro ?_ ?_; · omega) | simp -dsimp -implicitDefEqProofs (disch := omega) only [VCA, Nat.reduceEqDiff, ↓reduceIte, e43, e44, d1])
        all_goals first | exact ⟨_, Sub.refl _, A, S⟩ | trace_state
    · rw [hm] at cM hL
      rw [if_pos rfl] at hL
      refine dcalls_of_vc Tryz.func39 hn39 hc39 (by rw [Tryz.ntmps39]; simp) (by rw [Tryz.ntmps39]; decide) ?_
      simp -dsimp -implicitDefEqProofs (disch := omega) only [VCA, Nat.reduceEqDiff, ↓reduceIte, reduceCtorEq, c39, fA]
      repeat' (first | ((with_reducible refine Br.dec (fun _ => ?_) (fun _ => ?_)) <;> try (exfalso; omega)) | ((with_reducible refine Br.eq (fun _ => ?_) (fun _ => ?_)) <;> try (exfalso; omega)) | ((with_reducible refine Br.ne (fun _ => ?_) (fun _ => ?_)) <;> try (exfalso; omega)) | ((with_reducible refine brNdec (fun _ => ?_) (fun _ => ?_)) <;> try (exfalso; omega)) | ((with_reducible refine brNeq (fun _ => ?_) (fun _ => ?_)) <;> try (exfalso; omega)) | with_reducible refine Br.intro (fun _ => ?_) (fun _ => ?_) | (with_reducible apply pcallE.of; · exact cN) | (with_reducible apply pcallE.of; · exact cC) | (with_reducible apply pcallE.of; · exact cM) | (with_reducible refine And.intro ?_ ?_; · omega) | simp -dsimp -implicitDefEqProofs (disch := omega) only [VCA, Nat.reduceEqDiff, Nat.reduceAdd, Nat.reduceLeDiff, ↓reduceIte, reduceCtorEq, eNode, e0, b1, hL])
      refine LoopVC.intro (fun m e h' => ∃ k : Nat, k ≤ L.length ∧ m = L.length - k ∧ e 0 = .pin [sl eNode d.nodes, .bool d.quirks, sl eInt o] ∧ e 5 = .str nm ∧ e 42 = sl eInt L ∧ e 43 = aInt L.length ∧ e 44 = aInt k ∧ Acc h 25 2 (((L.take k).map fun k => (⟨nm, optV d k⟩ : HEnt)).map eEnt) (e 7) h' ∧ Sim.Sub h h') L.length
        (by exact ⟨0, by omega, by omega, rfl, rfl, rfl, rfl, rfl, Acc.nil, Sub.refl _⟩) ?_
      rintro m e h' ⟨k, hk, rfl, e0', e5, e42, e43, e44, A, S⟩
      by_cases hlt : k < L.length
      · have d1 : decide ((k : Int) < (L.length : Int)) = true := decide_eq_true (by omega)
        have hx := hLi _ (nth_mem' hlt)
        have tk : (L.take (k + 1)).map (fun k => (⟨nm, optV d k⟩ : HEnt)) = (L.take k).map (fun k => (⟨nm, optV d k⟩ : HEnt)) ++ [⟨nm, optV d (nth L k)⟩] := by
          rw [take_snoc hlt, List.map_append]; rfl
        obtain ⟨x, hxx⟩ : ∃ x, nth L k = x := ⟨_, rfl⟩
        rw [hxx] at hx tk
        have g := gO x hx
        rw [fE] at g
        repeat' (first | ((with_reducible refine Br.dec (fun _ => ?_) (fun _ => ?_)) <;> try (exfalso; omega)) | ((with_reducible refine Br.eq (fun _ => ?_) (fun _ => ?_)) <;> try (exfalso; omega)) | ((with_reducible refine Br.ne (fun _ => ?_) (fun _ => ?_)) <;> try (exfalso; omega)) | ((with_reducible refine brNdec (fun _ => ?_) (fun _ => ?_)) <;> try (exfalso; omega)) | ((with_reducible refine brNeq (fun _ => ?_) (fun _ => ?_)) <;> try (exfalso; omega)) | with_reducible refine Br.intro (fun _ => ?_) (fun _ => ?_) | (with_reducible apply pcallE.of; · exact g) | (with_reducible refine And.intro ?_ ?_; · omega) | simp -dsimp -implicitDefEqProofs (disch := omega) only [VCA, Nat.reduceEqDiff, Nat.reduceAdd, Nat.reduceLeDiff, ↓reduceIte, reduceCtorEq, okParts, fillA, okFill, forall_eq, exists_eq_left, eInt, e0', e5, e42, e43, e44, d1, hxx])
        refine A.app S (by simp only [List.length_map, List.length_cons, List.length_nil, List.length_take]; omega) (by simp only [List.length_map, List.length_cons, List.length_nil, List.length_take]; omega) fun a' h'' A' S' => ?_
        simp -dsimp -implicitDefEqProofs (disch := omega) only [VCA, Nat.reduceEqDiff, ↓reduceIte, reduceCtorEq, e0', e5, e42, e43, e44]
        refine ⟨_, by omega, k + 1, by omega, rfl, by omega, ?_, S'⟩
        rw [tk, List.map_append]
        exact A'
      · obtain rfl : k = L.length := by omega
        have d1 : decide ((L.length : Int) < (L.length : Int)) = false := decide_eq_false (by omega)
        rw [List.take_length] at A
        repeat' (first | ((with_reducible refine Br.dec (fun _ => ?_) (fun _ => ?_)) <;> try (exfalso; omega)) | ((with_reducible refine Br.eq (fun _ => ?_) (fun _ => ?_)) <;> try (exfalso; omega)) | ((with_reducible refine Br.ne (fun _ => ?_) (fun _ => ?_)) <;> try (exfalso; omega)) | ((with_reducible refine brNdec (fun _ => ?_) (fun _ => ?_)) <;> try (exfalso; omega)) | ((with_reducible refine brNeq (fun _ => ?_) (fun _ => ?_)) <;> try (exfalso; omega)) | with_reducible refine Br.intro (fun _ => ?_) (fun _ => ?_) | (with_reducible refine And.intro ?_ ?_; · omega) | simp -dsimp -implicitDefEqProofs (disch := omega) only [VCA, Nat.reduceEqDiff, ↓reduceIte, e43, e44, d1])
        all_goals first | exact ⟨_, Sub.refl _, A, S⟩ | trace_state
  · have b1 : ((nd d n).name != [115, 101, 108, 101, 99, 116]) = true := by simpa using h1
    rw [if_neg h1]
    refine dcalls_of_vc Tryz.func39 hn39 hc39 (by rw [Tryz.ntmps39]; simp) (by rw [Tryz.ntmps39]; decide) ?_
    simp -dsimp -implicitDefEqProofs (disch := omega) only [VCA, Nat.reduceEqDiff, ↓reduceIte, reduceCtorEq, eEnt, c39, fA]
    repeat' (first | ((with_reducible refine Br.dec (fun _ => ?_) (fun _ => ?_)) <;> try (exfalso; omega)) | ((with_reducible refine Br.eq (fun _ => ?_) (fun _ => ?_)) <;> try (exfalso; omega)) | ((with_reducible refine Br.ne (fun _ => ?_) (fun _ => ?_)) <;> try (exfalso; omega)) | ((with_reducible refine brNdec (fun _ => ?_) (fun _ => ?_)) <;> try (exfalso; omega)) | ((with_reducible refine brNeq (fun _ => ?_) (fun _ => ?_)) <;> try (exfalso; omega)) | with_reducible refine Br.intro (fun _ => ?_) (fun _ => ?_) | (with_reducible apply pcallE.of; · exact cN) | (with_reducible apply pcallE.of; · exact cV) | (with_reducible refine And.intro ?_ ?_; · omega) | simp -dsimp -implicitDefEqProofs (disch := omega) only [VCA, Nat.reduceEqDiff, Nat.reduceAdd, Nat.reduceLeDiff, ↓reduceIte, reduceCtorEq, okParts, fillA, okFill, lit_eq, eNode, e0, b1])
    intro r hr
    exact ⟨_, Sub.refl _, Acc.root hr (upd_same _ _ _), (Sub.refl h).upd hr⟩
end Go.Proofs.K
end
section
/- forms: Entries. -/
set_option linter.unusedSimpArgs false
set_option linter.unusedVariables false
namespace Go.Proofs.K
open Go Go.Sim Go.Proofs
variable {G : Glob}
/-- the entries so far, and the radios' names -/
structure EI (h0 : Heap) (d : HDoc) (F : AVal) (r6 r8 r9 rM : Nat) (f : Int) (R : List Int) (seen : List (List UInt8)) (ao : AVal) (h : Heap) : Prop where
  c6 : h r6 = some ⟨.t 60, 1, [[F]]⟩
  c8 : h r8 = some ⟨.t 22, 1, [[ao]]⟩
  c9 : h r9 = some ⟨.t 63, 1, [[.mpr rM]]⟩
  cM : h rM = some ⟨.m 63 (eMs seen), 1, []⟩
  acc : Acc h0 25 2 ((entL d f R).map eEnt) ao h
  sub : Sim.Sub h0 h
  fr : h0 r6 = none ∧ h0 r8 = none ∧ h0 r9 = none ∧ h0 rM = none
  seen : ∀ nm, nm ∈ seen ↔ R.any (fun k => tellM d f k && (radM d k && attD d k [110, 97, 109, 101] == nm)) = true
theorem EI.strp {h0 hb : Heap} {d : HDoc} {F : AVal} {r6 r8 r9 rM : Nat} {f : Int} {R : List Int} {o' : AObj} (h01 : Sim.Sub h0 hb) (hM : hb rM = some o') (hm : o'.ty.isM = true) : StrpM hb fun h => ∃ seen ao, EI h0 d F r6 r8 r9 rM f R seen ao h := by
  rintro h' h'' ⟨seen, ao, S⟩ _ hk hk2
  have k : ∀ r o, h' r = some o → o.ty.isM = false → h'' r = some o := fun r o ho hm => hk r o ho (.inl hm)
  refine ⟨seen, ao, k _ _ S.c6 rfl, k _ _ S.c8 rfl, k _ _ S.c9 rfl, hk2 _ _ _ S.cM hM hm, ?_, fun t o ht => hk t o (S.sub t o ht) (.inr (h01 t o ht)), S.fr, S.seen⟩
  rcases S.acc with q | ⟨r, q0, q1, q2⟩
  · exact .inl q
  · exact .inr ⟨r, q0, k _ _ q1 rfl, q2⟩
theorem EI.skip {h0 h : Heap} {d : HDoc} {F : AVal} {r6 r8 r9 rM : Nat} {f n : Int} {R : List Int} {seen : List (List UInt8)} {ao : AVal} (S : EI h0 d F r6 r8 r9 rM f R seen ao h) (ht : tellM d f n = false) : EI h0 d F r6 r8 r9 rM f (n :: R) seen ao h :=
  ⟨S.c6, S.c8, S.c9, S.cM, by rw [entL, if_neg (by rw [ht]; simp), List.nil_append]; exact S.acc, S.sub, S.fr, fun nm => by rw [S.seen nm, List.any_cons, ht, Bool.false_and, Bool.false_or]⟩
/-- a radio's name is put in -/
theorem EI.put {h0 h : Heap} {d : HDoc} {F : AVal} {r6 r8 r9 rM : Nat} {f : Int} {R : List Int} {seen : List (List UInt8)} {ao : AVal} (S : EI h0 d F r6 r8 r9 rM f R seen ao h) (nm : List UInt8) (h' : Heap) (hh : h' = upd h rM (some ⟨.m 63 (eMs (putS nm seen)), 1, []⟩)) :
    h' r6 = some ⟨.t 60, 1, [[F]]⟩ ∧ h' r8 = some ⟨.t 22, 1, [[ao]]⟩ ∧ h' r9 = some ⟨.t 63, 1, [[.mpr rM]]⟩ ∧ h' rM = some ⟨.m 63 (eMs (putS nm seen)), 1, []⟩ ∧ Acc h0 25 2 ((entL d f R).map eEnt) ao h' ∧ Sim.Sub h0 h' := by
  subst hh
  have m6 : r6 ≠ rM := fun e => by have q := S.c6; rw [e, S.cM] at q; cases q
  have m8 : r8 ≠ rM := fun e => by have q := S.c8; rw [e, S.cM] at q; cases q
  have m9 : r9 ≠ rM := fun e => by have q := S.c9; rw [e, S.cM] at q; cases q
  refine ⟨by rw [upd_ne _ _ m6]; exact S.c6, by rw [upd_ne _ _ m8]; exact S.c8, by rw [upd_ne _ _ m9]; exact S.c9, upd_same _ _ _, ?_, S.sub.upd S.fr.2.2.2⟩
  refine S.acc.keepA (fun e => ?_) _
  rcases S.acc with ⟨_, q⟩ | ⟨r, q0, q1, q2⟩
  · rw [q] at e; cases e
  · rw [q2] at e
    have e : r = rM := Option.some.inj e
    rw [e, S.cM] at q1; cases q1
/-- a control's entries are put ahead -/
theorem EI.add {h0 h h3 : Heap} {d : HDoc} {F : AVal} {r6 r8 r9 rM : Nat} {f n : Int} {R : List Int} {sn : List (List UInt8)} {ao a3 : AVal} (sub : Sim.Sub h0 h) (fr : h0 r6 = none ∧ h0 r8 = none ∧ h0 r9 = none ∧ h0 rM = none)
    (A3 : Acc h 25 2 ((entsOf d n).map eEnt ++ (entL d f R).map eEnt) a3 h3) (S3 : Sim.Sub h h3) (n8 : rootOf a3 ≠ some r8)
    (e6 : h3 r6 = some ⟨.t 60, 1, [[F]]⟩) (e8 : h3 r8 = some ⟨.t 22, 1, [[ao]]⟩) (e9 : h3 r9 = some ⟨.t 63, 1, [[.mpr rM]]⟩) (eM : h3 rM = some ⟨.m 63 (eMs sn), 1, []⟩)
    (ht : entL d f (n :: R) = entsOf d n ++ entL d f R) (hs : ∀ nm, nm ∈ sn ↔ (n :: R).any (fun k => tellM d f k && (radM d k && attD d k [110, 97, 109, 101] == nm)) = true) :
    EI h0 d F r6 r8 r9 rM f (n :: R) sn a3 (upd h3 r8 (some ⟨.t 22, 1, [[a3]]⟩)) := by
  have n6 : r6 ≠ r8 := fun e => by rw [e, e8] at e6; cases e6
  have n9 : r9 ≠ r8 := fun e => by rw [e, e8] at e9; cases e9
  have nM : rM ≠ r8 := fun e => by rw [e, e8] at eM; cases eM
  refine ⟨by rw [upd_ne _ _ n6]; exact e6, upd_same _ _ _, by rw [upd_ne _ _ n9]; exact e9, by rw [upd_ne _ _ nM]; exact eM, ?_, Sim.Sub.upd (fun t o q => S3 t o (sub t o q)) fr.2.1, fr, hs⟩
  rw [ht, List.map_append]
  exact (A3.mono sub).keepA n8 _
theorem putS_mem (nm : List UInt8) (l : List (List UInt8)) (x : List UInt8) : x ∈ putS nm l ↔ x ∈ l ∨ nm = x := by
  unfold putS
  split
  · rename_i h
    exact ⟨.inl, fun q => q.elim id fun e => e ▸ h⟩
  · rw [List.mem_append, List.mem_singleton]
    exact or_congr_right eq_comm
theorem seen_put {d : HDoc} {f n : Int} {R : List Int} {seen : List (List UInt8)} (hs : ∀ nm, nm ∈ seen ↔ R.any (fun k => tellM d f k && (radM d k && attD d k [110, 97, 109, 101] == nm)) = true) (ht : tellM d f n = true) (hr : radM d n = true) :
    ∀ nm, nm ∈ putS (attD d n [110, 97, 109, 101]) seen ↔ (n :: R).any (fun k => tellM d f k && (radM d k && attD d k [110, 97, 109, 101] == nm)) = true := fun nm => by
  rw [putS_mem, hs nm, List.any_cons, Bool.or_eq_true, ht, hr, Bool.true_and, Bool.true_and, beq_iff_eq]
  exact or_comm
theorem late_seen {d : HDoc} {f n : Int} {R : List Int} {seen : List (List UInt8)} (hs : ∀ nm, nm ∈ seen ↔ R.any (fun k => tellM d f k && (radM d k && attD d k [110, 97, 109, 101] == nm)) = true) (hr : radM d n = true) : lateM d f R n = decide (attD d n [110, 97, 109, 101] ∈ seen) := by
  unfold lateM
  rw [hr, Bool.true_and, Bool.eq_iff_iff, decide_eq_true_iff, hs]
theorem aFnd_y (z v : AVal) : aFound true z (some v) = .tup [v, .bool true] := rfl
theorem aFnd_n (z : AVal) : aFound true z none = .tup [z, .bool false] := rfl
theorem lift_sub {α : Type} {Q : α → Prop} : ∀ l : List α, (∀ x ∈ l, Q x) → ∃ xs : List { x // Q x }, xs.map (·.1) = l
  | [], _ => ⟨[], rfl⟩
  | x :: r, h => by
    obtain ⟨xs, hx⟩ := lift_sub r fun y hy => h y (List.mem_cons_of_mem _ hy)
    exact ⟨⟨x, h x List.mem_cons_self⟩ :: xs, by rw [List.map_cons, hx]⟩
theorem EI.late {h0 h : Heap} {d : HDoc} {F : AVal} {r6 r8 r9 rM : Nat} {f n : Int} {R : List Int} {sn : List (List UInt8)} {ao : AVal} (S : EI h0 d F r6 r8 r9 rM f R sn ao h) (ht : tellM d f n = true) (hr : radM d n = true) (hl : lateM d f R n = true) :
    EI h0 d F r6 r8 r9 rM f (n :: R) (putS (attD d n [110, 97, 109, 101]) sn) ao (upd h rM (some ⟨.m 63 (eMs (putS (attD d n [110, 97, 109, 101]) sn)), 1, []⟩)) := by
  obtain ⟨c6, c8, c9, cM, A, B⟩ := S.put (attD d n [110, 97, 109, 101]) _ rfl
  exact ⟨c6, c8, c9, cM, by rw [entL, if_neg (by rw [hl]; simp), List.nil_append]; exact A, B, S.fr, seen_put S.seen ht hr⟩
def tellsM (d : HDoc) (n : Int) : List HEnt × Int :=
  if ctlE d n [102, 111, 114, 109] ≠ 0 then ([], ctlE d n [102, 111, 114, 109]) else if 100 < (entL d n (below d 0)).length then ([], 2) else (entL d n (below d 0), 0)
def k14_1 : List UInt8 := [32, 105, 110, 112, 117, 116, 32, 116, 101, 120, 116, 97, 114, 101, 97, 32, 115, 101, 108, 101, 99, 116, 32, 98, 117, 116, 116, 111, 110, 32]
def c14 : SFun := ⟨(.seq (.reg [⟨(some 2), (.boxF 36 2 (.t 0)), none⟩, ⟨(some 3), (.boxF 3 1 (.t 1)), none⟩, ⟨(some 4), (.mv (.c .emp)), none⟩, ⟨(some 5), (.mv (.c (.int .i64 (0)))), none⟩]) (.seq (.reg [⟨(some 15), (.ld 2 true (.t 2)), none⟩, ⟨(some 16), (.ld 1 false (.t 3)), none⟩, ⟨(some 17), (.pcall 32 [(.t 15), (.t 16), (.c (.str [32, 102, 111, 114, 109, 32]))]), none⟩, ⟨(some 14), (.mv (.t 17)), none⟩, ⟨(some 18), (.ext (.t 14) 0), none⟩, ⟨(some 19), (.ext (.t 14) 1), none⟩, ⟨(some 6), (.new 60 1 [(.prim (Value.pointer none))]), none⟩, ⟨none, (.st 1 (.t 6) (.t 18)), none⟩, ⟨(some 7), (.mv (.t 19)), none⟩]) (.seq (.seq (.reg [⟨(some 20), (.mv (.t 7)), none⟩, ⟨(some 21), (.bin .neq (.t 20) (.c (.int .i64 (0)))), none⟩]) (.cond (.t 21) (.seq (.reg [⟨(some 22), (.mv (.t 7)), none⟩, ⟨(some 4), (.mv (.c .emp)), none⟩, ⟨(some 5), (.mv (.t 22)), none⟩]) .ret) .skip)) (.seq (.reg [⟨(some 8), (.new 22 1 [.emp]), none⟩]) (.seq (.reg [⟨(some 23), (.mkm 63), none⟩, ⟨(some 9), (.new 63 1 [(.prim (Value.map none))]), none⟩, ⟨none, (.st 1 (.t 9) (.t 23)), none⟩]) (.seq (.seq (.reg [⟨(some 24), (.ld 1 false (.t 6)), none⟩, ⟨(some 25), (.fldA 0 (.t 24)), none⟩, ⟨(some 26), (.fldA 2 (.t 25)), none⟩, ⟨(some 27), (.ld 1 false (.t 26)), none⟩, ⟨(some 28), (.pcall 33 [(.t 27)]), none⟩]) (.block 0 (.range (.t 28) [29, 30] (.reg [⟨(some 11), (.mv (.t 30)), none⟩]) (.block 1 (.seq (.seq (.dreg [(⟨(some 31), (.fldA 0 (.t 2)), none⟩, none), (⟨(some 32), (.ld 1 false (.t 31)), none⟩, none), (⟨(some 33), (.mv (.t 11)), none⟩, none), (⟨(some 34), (.idxA 6 (.t 32) (.t 33)), none⟩, none), (⟨(some 35), (.fldA 1 (.t 34)), none⟩, none), (⟨(some 36), (.ld 1 false (.t 35)), none⟩, none), (⟨(some 37), (.pcall 34 [(.t 36), (.c (.str k14_1))]), none⟩, none), (⟨(some 38), (.un .not (.t 37)), none⟩, none), (⟨(some 39), (.mv (.t 38)), none⟩, none), (⟨(some 40), (.ld 1 false (.t 6)), (some (39, false))⟩, none), (⟨(some 41), (.mv (.t 11)), (some (39, false))⟩, none), (⟨(some 42), (.pcall 35 [(.t 40), (.t 41)]), (some (39, false))⟩, none), (⟨(some 43), (.ld 1 false (.t 3)), (some (39, false))⟩, none), (⟨(some 44), (.bin .neq (.t 42) (.t 43)), (some (39, false))⟩, none), (⟨(some 45), (.pick (.t 39) (.c (.bool true)) (.t 44)), none⟩, none), (⟨(some 46), (.mv (.t 45)), none⟩, none), (⟨(some 47), (.ld 1 false (.t 6)), (some (46, false))⟩, none), (⟨(some 48), (.mv (.t 11)), (some (46, false))⟩, none), (⟨(some 49), (.pcall 36 [(.t 47), (.t 48)]), (some (46, false))⟩, none), (⟨(some 50), (.un .not (.t 49)), (some (46, false))⟩, none), (⟨(some 51), (.pick (.t 46) (.c (.bool true)) (.t 50)), none⟩, none)]) (.cond (.t 51) (.exit 1) .skip)) (.seq (.seq (.reg [⟨(some 52), (.ld 1 false (.t 6)), none⟩, ⟨(some 53), (.mv (.t 11)), none⟩, ⟨(some 54), (.pcall 37 [(.t 52), (.t 53)]), none⟩, ⟨(some 55), (.bin .eql (.t 54) (.c (.str [114, 97, 100, 105, 111]))), none⟩]) (.cond (.t 55) (.seq (.dreg [(⟨(some 57), (.ldm 23 1 false (.t 9)), none⟩, none), (⟨(some 58), (.ld 1 false (.t 6)), none⟩, none), (⟨(some 59), (.mv (.t 11)), none⟩, none), (⟨(some 60), (.pcall 38 [(.t 58), (.t 59), (.c (.str [110, 97, 109, 101]))]), none⟩, none), (⟨(some 61), (.lkp none true (.agg []) (.t 57) (.t 60)), none⟩, none), (⟨(some 56), (.mv (.t 61)), none⟩, none), (⟨(some 62), (.ext (.t 56) 0), none⟩, none), (⟨(some 63), (.ext (.t 56) 1), none⟩, none), (⟨(some 12), (.boxF 77 0 (.c (.agg []))), none⟩, (some [])), (⟨none, (.st 0 (.t 12) (.t 62)), none⟩, (some [58])), (⟨(some 13), (.mv (.t 63)), none⟩, none)]) (.seq (.dreg [(⟨(some 64), (.ldm 23 1 false (.t 9)), none⟩, none), (⟨(some 65), (.ld 1 false (.t 6)), none⟩, none), (⟨(some 66), (.mv (.t 11)), none⟩, none), (⟨(some 67), (.pcall 38 [(.t 65), (.t 66), (.c (.str [110, 97, 109, 101]))]), none⟩, none), (⟨(some 68), (.bld [] []), none⟩, none), (⟨none, (.mup none (.t 64) (.t 67) (.t 68)), none⟩, (some [65]))]) (.seq (.reg [⟨(some 69), (.mv (.t 13)), none⟩]) (.cond (.t 69) (.exit 1) .skip)))) .skip)) (.dreg [(⟨(some 70), (.ld 1 false (.t 6)), none⟩, none), (⟨(some 71), (.mv (.t 11)), none⟩, none), (⟨(some 73), (.ld 1 false (.t 8)), none⟩, none), (⟨(some 72), (.call (.c (.fn 39 [] [])) [(.t 70), (.t 71)]), none⟩, (some [70])), (⟨(some 74), (.app 25 2 32 (.t 72) (.t 73)), none⟩, (some [73, 70])), (⟨none, (.st 1 (.t 8) (.t 74)), none⟩, (some [73, 70]))]))))))) (.seq (.seq (.reg [⟨(some 75), (.ld 1 false (.t 8)), none⟩, ⟨(some 76), (.len (.t 75)), none⟩, ⟨(some 77), (.bin .gtr (.t 76) (.c (.int .i64 (100)))), none⟩]) (.cond (.t 77) (.seq (.reg [⟨(some 4), (.mv (.c .emp)), none⟩, ⟨(some 5), (.mv (.c (.int .i64 (2)))), none⟩]) .ret) .skip)) (.seq (.reg [⟨(some 78), (.ld 1 false (.t 8)), none⟩, ⟨(some 4), (.mv (.t 78)), none⟩, ⟨(some 5), (.mv (.c (.int .i64 (0)))), none⟩]) .ret)))))))), [(.tmp 4), (.tmp 5)]⟩
theorem hc14 : toSF Tryz.prog {pure := [32, 34, 35, 36, 37, 38, 33], mp := [23, 57, 64], how := [(57, 1023), (64, 1023), (72, 5)]} Tryz.f14 = some c14 := by kernel_rfl
theorem hn14 : (Tryz.f14.name == "runtime.NumGoroutine") = false := by kernel_rfl
set_option maxHeartbeats 2000000 in
theorem fEntries_ok (hG : MaxLenOK G) (hT : TabsOK G) (d : HDoc) (sm : DocSm d) (n : Int) : PCalls (Pg G) 14 [.agg (eDoc d), aInt n] (.tup [sl eEnt (tellsM d n).1, aInt (tellsM d n).2]) := PCalls.outV fun h => by
  have cC := control_ok (G := G) hG d sm n [102, 111, 114, 109] (by decide +kernel) (by decide)
  have ek : (32 :: ([102, 111, 114, 109] ++ [32]) : List UInt8) = [32, 102, 111, 114, 109, 32] := rfl
  rw [ek] at cC
  unfold tellsM
  by_cases h0 : ctlE d n [102, 111, 114, 109] = 0
  · rw [if_neg (by simpa using h0)]
    rw [h0] at cC
    have hd0 : docE d = 0 := by
      unfold ctlE at h0
      split at h0
      · rename_i q; exact absurd h0 q
      · rename_i q; simpa using q
    have V := docE_DV hd0
    have hl := V.len
    have oD : orderD d = below d 0 := if_pos hd0
    have bl := below_len V V.zero
    have bi := below_in V 0 V.zero
    rw [oD] at cC
    obtain ⟨o, ho⟩ : ∃ o, below d 0 = o := ⟨_, rfl⟩
    rw [ho] at cC bl bi
    rw [ho]
    have el := entL_len V n o bi
    have cB := backI_ok (G := G) o
    have ek2 : k14_1 = 32 :: (ctlS ++ [32]) := by decide +kernel
    have vF : isV (fA d o) = true := rfl
    have wF : cellsOf (fA d o) = [fA d o] := rfl
    have fE : fA d o = .pin [sl eNode d.nodes, .bool d.quirks, sl eInt o] := rfl
    have cOw := fun k hk => owner_ok (G := G) d V sm o bi (by omega) k hk
    have cTo := fun k hk => told_ok (G := G) hG hT d V sm o k hk
    have cKi := fun k hk => kind_ok (G := G) hG hT d V sm o k hk
    have cAt := fun k hk => fattr_ok (G := G) d sm o k hk [110, 97, 109, 101]
    have cEn := fun k hk h => entries_ok (G := G) hG hT d V sm o k hk h
    obtain ⟨F, hF⟩ : ∃ F, fA d o = F := ⟨_, rfl⟩
    rw [hF] at cC vF wF fE cOw cTo cKi cAt cEn
    unfold eDoc at cC
    refine dcalls_of_vc Tryz.func14 hn14 hc14 (by rw [Tryz.ntmps14]; simp) (by rw [Tryz.ntmps14]; decide) ?_
    simp -dsimp -implicitDefEqProofs (disch := omega) only [VCA, Nat.reduceEqDiff, Nat.reduceAdd, ↓reduceIte, c14, eDoc]
    repeat' (first | ((with_reducible refine Br.dec (fun _ => ?_) (fun _ => ?_)) <;> try (exfalso; omega)) | ((with_reducible refine Br.eq (fun _ => ?_) (fun _ => ?_)) <;> try (exfalso; omega)) | ((with_reducible refine Br.ne (fun _ => ?_) (fun _ => ?_)) <;> try (exfalso; omega)) | ((with_reducible refine brNdec (fun _ => ?_) (fun _ => ?_)) <;> try (exfalso; omega)) | ((with_reducible refine brNeq (fun _ => ?_) (fun _ => ?_)) <;> try (exfalso; omega)) | with_reducible refine Br.intro (fun _ => ?_) (fun _ => ?_) | (with_reducible apply pcallE.of; · exact cC) | (with_reducible refine And.intro ?_ ?_; · omega) | simp -dsimp -implicitDefEqProofs (disch := omega) only [VCA, Nat.reduceEqDiff, Nat.reduceAdd, Nat.reduceLT, ↓reduceIte, setAt, exists_eq_left', vF, wF])
    intro r6 hr6
    have bz : ((0 : Int) != 0) = false := rfl
    repeat' (first | ((with_reducible refine Br.dec (fun _ => ?_) (fun _ => ?_)) <;> try (exfalso; omega)) | ((with_reducible refine Br.eq (fun _ => ?_) (fun _ => ?_)) <;> try (exfalso; omega)) | ((with_reducible refine Br.ne (fun _ => ?_) (fun _ => ?_)) <;> try (exfalso; omega)) | ((with_reducible refine brNdec (fun _ => ?_) (fun _ => ?_)) <;> try (exfalso; omega)) | ((with_reducible refine brNeq (fun _ => ?_) (fun _ => ?_)) <;> try (exfalso; omega)) | with_reducible refine Br.intro (fun _ => ?_) (fun _ => ?_) | (with_reducible refine And.intro ?_ ?_; · omega) | simp -dsimp -implicitDefEqProofs (disch := omega) only [VCA, ↓upd_none, Nat.reduceEqDiff, Nat.reduceLT, ↓reduceIte, setAt, ne_eq, exists_eq_left', bz])
    intro r8 hr8
    repeat' (first | ((with_reducible refine Br.dec (fun _ => ?_) (fun _ => ?_)) <;> try (exfalso; omega)) | ((with_reducible refine Br.eq (fun _ => ?_) (fun _ => ?_)) <;> try (exfalso; omega)) | ((with_reducible refine Br.ne (fun _ => ?_) (fun _ => ?_)) <;> try (exfalso; omega)) | ((with_reducible refine brNdec (fun _ => ?_) (fun _ => ?_)) <;> try (exfalso; omega)) | ((with_reducible refine brNeq (fun _ => ?_) (fun _ => ?_)) <;> try (exfalso; omega)) | with_reducible refine Br.intro (fun _ => ?_) (fun _ => ?_) | (with_reducible refine And.intro ?_ ?_; · omega) | simp -dsimp -implicitDefEqProofs (disch := omega) only [↓vcOps_sp 39, ↓vcD_sp 39, ↓vcOps_sp 46, ↓vcD_sp 46, VCA, pg_gl, ↓upd_none, Nat.reduceEqDiff, Nat.reduceBEq, Nat.reduceAdd, Nat.reduceSub, Nat.reduceMul, Nat.reduceLT, Nat.reduceLeDiff, ↓reduceIte, reduceCtorEq, rsOf, rootsOf, SOp.rd, SI.rd, SX.rd, rdL, rdO, rdP, okParts, eqCells, okEqCells, fillA, okFill, setAt, implies_true, forall_const, forall_eq, ne_eq, exists_eq_right_right, exists_eq_right, exists_eq_left, exists_eq_left', rootL, eInt, eStr, eAttr, eEnt, lit_eq, vF, wF])
    intro rM hrM
    repeat' (first | ((with_reducible refine Br.dec (fun _ => ?_) (fun _ => ?_)) <;> try (exfalso; omega)) | ((with_reducible refine Br.eq (fun _ => ?_) (fun _ => ?_)) <;> try (exfalso; omega)) | ((with_reducible refine Br.ne (fun _ => ?_) (fun _ => ?_)) <;> try (exfalso; omega)) | ((with_reducible refine brNdec (fun _ => ?_) (fun _ => ?_)) <;> try (exfalso; omega)) | ((with_reducible refine brNeq (fun _ => ?_) (fun _ => ?_)) <;> try (exfalso; omega)) | with_reducible refine Br.intro (fun _ => ?_) (fun _ => ?_) | (with_reducible refine And.intro ?_ ?_; · omega) | simp -dsimp -implicitDefEqProofs (disch := omega) only [↓vcOps_sp 39, ↓vcD_sp 39, ↓vcOps_sp 46, ↓vcD_sp 46, VCA, pg_gl, ↓upd_none, Nat.reduceEqDiff, Nat.reduceBEq, Nat.reduceAdd, Nat.reduceSub, Nat.reduceMul, Nat.reduceLT, Nat.reduceLeDiff, ↓reduceIte, reduceCtorEq, rsOf, rootsOf, SOp.rd, SI.rd, SX.rd, rdL, rdO, rdP, okParts, eqCells, okEqCells, fillA, okFill, setAt, implies_true, forall_const, forall_eq, ne_eq, exists_eq_right_right, exists_eq_right, exists_eq_left, exists_eq_left', rootL, eInt, eStr, eAttr, eEnt, lit_eq, vF, wF])
    intro r9 hr9
    obtain ⟨g1, g2, g3, g4⟩ := hr9
    obtain ⟨g5, g6, g7⟩ := hrM
    obtain ⟨g8, g9⟩ := hr8
    have a1 : ¬ r6 = r9 := fun e => g3 e.symm
    have a2 : ¬ r6 = rM := fun e => g6 e.symm
    have a3 : ¬ r6 = r8 := fun e => g8 e.symm
    have q1 : aFldA 0 F = F := by rw [fE]; rfl
    have q2 : okFldA F = True := by rw [fE]; rfl
    have q3 : aFldA 2 F = .pin [sl eInt o] := by rw [fE]; rfl
    repeat' (first | ((with_reducible refine Br.dec (fun _ => ?_) (fun _ => ?_)) <;> try (exfalso; omega)) | ((with_reducible refine Br.eq (fun _ => ?_) (fun _ => ?_)) <;> try (exfalso; omega)) | ((with_reducible refine Br.ne (fun _ => ?_) (fun _ => ?_)) <;> try (exfalso; omega)) | ((with_reducible refine brNdec (fun _ => ?_) (fun _ => ?_)) <;> try (exfalso; omega)) | ((with_reducible refine brNeq (fun _ => ?_) (fun _ => ?_)) <;> try (exfalso; omega)) | with_reducible refine Br.intro (fun _ => ?_) (fun _ => ?_) | (with_reducible apply pcallE.of; · exact cB) | (with_reducible refine And.intro ?_ ?_; · omega) | simp -dsimp -implicitDefEqProofs (disch := omega) only [VCA, Nat.reduceLT, ↓reduceIte, exists_eq_left', a1, a2, a3, q1, q2, q3])
    have hbm : ∀ x ∈ bkI o o.length, inD d x.2 := fun x hx => by
      have h1 : x.2 ∈ (bkI o o.length).map (·.2) := List.mem_map.2 ⟨x, hx, rfl⟩
      rw [bkI_map o _ (Nat.le_refl _), List.take_length, List.mem_reverse] at h1
      exact bi _ h1
    obtain ⟨xs, hxs⟩ := lift_sub (Q := fun p : Nat × Int => inD d p.2) (bkI o o.length) hbm
    have hR0 : (xs.map (·.1.2)).reverse = o := by
      have : xs.map (·.1.2) = (xs.map (·.1)).map (·.2) := by rw [List.map_map]; rfl
      rw [this, hxs, bkI_map o _ (Nat.le_refl _), List.take_length, List.reverse_reverse]
    obtain ⟨hb, hhb⟩ : ∃ x, upd (upd (upd (upd h r6 (some ⟨.t 60, 1, [[F]]⟩)) r8 (some ⟨.t 22, 1, [[.emp]]⟩)) rM (some ⟨.m 63 [], 1, []⟩)) r9 (some ⟨.t 63, 1, [[.mpr rM]]⟩) = x := ⟨_, rfl⟩
    have S0 : EI h d F r6 r8 r9 rM n [] [] .emp hb := by
      rw [← hhb]
      refine ⟨by rw [upd_ne _ _ a1, upd_ne _ _ a2, upd_ne _ _ a3]; exact upd_same _ _ _, by rw [upd_ne _ _ (fun e => g2 e.symm), upd_ne _ _ (fun e => g5 e.symm)]; exact upd_same _ _ _, upd_same _ _ _, by rw [upd_ne _ _ (fun e => g1 e.symm)]; exact upd_same _ _ _, Acc.nil, ((((Sub.refl h).upd hr6).upd g9).upd g7).upd g4, ⟨hr6, g9, g4, g7⟩, fun nm => by simp⟩
    rw [hhb]
    refine RangeVC.introM (backQ_it (G := G) o (by omega) (fun p => inD d p.2) xs hxs) rfl (fun _ => rfl) (fun pre h' => ∃ seen ao, EI h d F r6 r8 r9 rM n ((pre.map (·.1.2)).reverse) seen ao h') (fun _ _ _ => False) ⟨[], .emp, S0⟩ ?_ ?_ (fun _ _ _ _ _ q => q.elim) ⟨fun pre => EI.strp S0.sub S0.cM rfl, fun _ _ _ _ q _ _ _ => q.elim⟩
    · rintro pre ⟨⟨i, k⟩, hk⟩ h' ⟨seen, ao, S⟩ hlen
      simp only at hk
      have k0 := hk.1
      have k1 := hk.2
      have ek0 : nth d.nodes k.toNat = nd d k := rfl
      have hR : ((pre ++ [(⟨(i, k), hk⟩ : { p : Nat × Int // inD d p.2 })]).map (·.1.2)).reverse = k :: (pre.map (·.1.2)).reverse := by
        rw [List.map_append, List.reverse_append]; rfl
      have hRi : ∀ j ∈ (pre.map (·.1.2)).reverse, inD d j := fun j hj => by
        rw [List.mem_reverse] at hj
        obtain ⟨x, _, rfl⟩ := List.mem_map.1 hj
        exact x.2
      have hRl : (pre.map (·.1.2)).reverse.length ≤ 200 := by rw [List.length_reverse, List.length_map]; omega
      obtain ⟨R, hRe⟩ : ∃ R, (pre.map (·.1.2)).reverse = R := ⟨_, rfl⟩
      rw [hRe] at S hR hRi hRl
      have hI : ∀ seen' ao' h2, EI h d F r6 r8 r9 rM n (k :: R) seen' ao' h2 → ∃ seen ao, EI h d F r6 r8 r9 rM n (((pre ++ [(⟨(i, k), hk⟩ : { p : Nat × Int // inD d p.2 })]).map (·.1.2)).reverse) seen ao h2 := fun s a h2 q => ⟨s, a, by rw [hR]; exact q⟩
      have nl := name_len V hk
      have cW := one_in (G := G) hG (nd d k).name ctlS (by decide +kernel) (by omega) (by decide +kernel)
      have cO := cOw k hk
      have cT := cTo k hk
      have cK := cKi k hk
      have cA := cAt k hk
      have c6 := S.c6
      have c8 := S.c8
      have c9 := S.c9
      have cM := S.cM
      cases hctl : inW (nd d k).name ctlS
      · rw [hctl] at cW
        have ht : tellM d n k = false := by unfold tellM; rw [hctl]; rfl
        simp -dsimp -implicitDefEqProofs (disch := omega) only [VCA, Nat.reduceEqDiff, Nat.reduceAdd, Nat.reduceLeDiff, ↓reduceIte, rsOf, rootsOf, rootL, eBkI]
        repeat' (first | ((with_reducible refine Br.dec (fun _ => ?_) (fun _ => ?_)) <;> try (exfalso; omega)) | ((with_reducible refine Br.eq (fun _ => ?_) (fun _ => ?_)) <;> try (exfalso; omega)) | ((with_reducible refine Br.ne (fun _ => ?_) (fun _ => ?_)) <;> try (exfalso; omega)) | ((with_reducible refine brNdec (fun _ => ?_) (fun _ => ?_)) <;> try (exfalso; omega)) | ((with_reducible refine brNeq (fun _ => ?_) (fun _ => ?_)) <;> try (exfalso; omega)) | with_reducible refine Br.intro (fun _ => ?_) (fun _ => ?_) | (with_reducible apply pcallE.of; · exact cW) | (with_reducible refine And.intro ?_ ?_; · omega) | simp -dsimp -implicitDefEqProofs (disch := omega) only [↓vcD_sp 39, ↓vcD_sp 46, VCA, Nat.reduceEqDiff, Nat.reduceAdd, Nat.reduceLeDiff, ↓reduceIte, rsOf, rootsOf, rootL, eNode, ek0, ek2])
        exact hI _ _ _ (S.skip ht)
      · rw [hctl] at cW
        obtain ⟨ow, how⟩ : ∃ x, ownM d o k = x := ⟨_, rfl⟩
        rw [how] at cO
        by_cases hown : ow = n
        · have bown : (ow != n) = false := by simpa using hown
          cases htd : toldM d k
          · rw [htd] at cT
            have ht : tellM d n k = false := by unfold tellM; rw [htd, Bool.and_false, Bool.and_false]
            simp -dsimp -implicitDefEqProofs (disch := omega) only [VCA, Nat.reduceEqDiff, Nat.reduceAdd, Nat.reduceLeDiff, ↓reduceIte, rsOf, rootsOf, rootL, eBkI]
            repeat' (first | ((with_reducible refine Br.dec (fun _ => ?_) (fun _ => ?_)) <;> try (exfalso; omega)) | ((with_reducible refine Br.eq (fun _ => ?_) (fun _ => ?_)) <;> try (exfalso; omega)) | ((with_reducible refine Br.ne (fun _ => ?_) (fun _ => ?_)) <;> try (exfalso; omega)) | ((with_reducible refine brNdec (fun _ => ?_) (fun _ => ?_)) <;> try (exfalso; omega)) | ((with_reducible refine brNeq (fun _ => ?_) (fun _ => ?_)) <;> try (exfalso; omega)) | with_reducible refine Br.intro (fun _ => ?_) (fun _ => ?_) | (with_reducible apply pcallE.of; · exact cW) | (with_reducible apply pcallE.of; · exact cO) | (with_reducible apply pcallE.of; · exact cT) | (with_reducible refine And.intro ?_ ?_; · omega) | simp -dsimp -implicitDefEqProofs (disch := omega) only [↓vcD_sp 39, ↓vcD_sp 46, VCA, Nat.reduceEqDiff, Nat.reduceAdd, Nat.reduceLT, Nat.reduceLeDiff, ↓reduceIte, rsOf, rootsOf, exists_eq_left', rootL, eNode, ek0, ek2, c6, bown])
            exact hI _ _ _ (S.skip ht)
          · rw [htd] at cT
            have ht : tellM d n k = true := by unfold tellM; rw [htd, hctl, ho, how, hown]; simp
            cases hrd : radM d k
            · have brd : (kindM d k == [114, 97, 100, 105, 111]) = false := hrd
              simp -dsimp -implicitDefEqProofs (disch := omega) only [VCA, Nat.reduceEqDiff, Nat.reduceAdd, Nat.reduceLeDiff, ↓reduceIte, rsOf, rootsOf, rootL, eBkI]
              repeat' (first | ((with_reducible refine Br.dec (fun _ => ?_) (fun _ => ?_)) <;> try (exfalso; omega)) | ((with_reducible refine Br.eq (fun _ => ?_) (fun _ => ?_)) <;> try (exfalso; omega)) | ((with_reducible refine Br.ne (fun _ => ?_) (fun _ => ?_)) <;> try (exfalso; omega)) | ((with_reducible refine brNdec (fun _ => ?_) (fun _ => ?_)) <;> try (exfalso; omega)) | ((with_reducible refine brNeq (fun _ => ?_) (fun _ => ?_)) <;> try (exfalso; omega)) | with_reducible refine Br.intro (fun _ => ?_) (fun _ => ?_) | (with_reducible apply pcallE.of; · exact cW) | (with_reducible apply pcallE.of; · exact cO) | (with_reducible apply pcallE.of; · exact cT) | (with_reducible apply pcallE.of; · exact cK) | (with_reducible refine And.intro ?_ ?_; · omega) | simp -dsimp -implicitDefEqProofs (disch := omega) only [↓vcD_sp 39, ↓vcD_sp 46, VCA, Nat.reduceEqDiff, Nat.reduceAdd, Nat.reduceLT, Nat.reduceLeDiff, ↓reduceIte, rsOf, rootsOf, exists_eq_left', rootL, eNode, ek0, ek2, c6, bown, brd, c8])
              refine DCalls.of (cEn k hk h') ?_
              rintro v h2 ⟨A1, S1⟩
              have d8 := S1 _ _ c8
              have d6 := S1 _ _ c6
              have nv : ∀ r o, h' r = some o → rootOf v ≠ some r := fun r o hr e => by have := (OwnS.of_acc A1).2.1 r e; rw [hr] at this; cases this
              have hlt : lateM d n R k = false := by unfold lateM; rw [hrd, Bool.false_and]
              have hent : entL d n (k :: R) = entsOf d k ++ entL d n R := by rw [entL, if_pos ⟨ht, hlt⟩]
              have hsn : ∀ nm, nm ∈ seen ↔ (k :: R).any (fun k => tellM d n k && (radM d k && attD d k [110, 97, 109, 101] == nm)) = true := fun nm => by rw [S.seen nm, List.any_cons, hrd, Bool.false_and, Bool.and_false, Bool.false_or]
              have l1 := entsOf_len V hk
              have l2 := entL_len V n R hRi
              rcases S.acc with ⟨hnil, hao⟩ | ⟨rO, hO0, hO1, hao⟩
              · subst hao
                repeat' (first | ((with_reducible refine Br.dec (fun _ => ?_) (fun _ => ?_)) <;> try (exfalso; omega)) | ((with_reducible refine Br.eq (fun _ => ?_) (fun _ => ?_)) <;> try (exfalso; omega)) | ((with_reducible refine Br.ne (fun _ => ?_) (fun _ => ?_)) <;> try (exfalso; omega)) | ((with_reducible refine brNdec (fun _ => ?_) (fun _ => ?_)) <;> try (exfalso; omega)) | ((with_reducible refine brNeq (fun _ => ?_) (fun _ => ?_)) <;> try (exfalso; omega)) | with_reducible refine Br.intro (fun _ => ?_) (fun _ => ?_) | (with_reducible refine And.intro ?_ ?_; · omega) | simp -dsimp -implicitDefEqProofs (disch := omega) only [VCA, Nat.reduceEqDiff, Nat.reduceBEq, ↓reduceIte, SOp.rd, SI.rd, SX.rd, rdL, implies_true, exists_eq_left, c6, c8, d6, d8])
                refine A1.appW S1 (by simp only [List.length_map, List.length_nil]; omega) (by simp only [List.length_map, List.length_nil]; omega) fun a3 h3 A3 S3 kp => ?_
                have e8 := kp _ _ d8 (nv _ _ c8)
                have iv := (OwnS.of_acc A3).1.isV
                repeat' (first | ((with_reducible refine Br.dec (fun _ => ?_) (fun _ => ?_)) <;> try (exfalso; omega)) | ((with_reducible refine Br.eq (fun _ => ?_) (fun _ => ?_)) <;> try (exfalso; omega)) | ((with_reducible refine Br.ne (fun _ => ?_) (fun _ => ?_)) <;> try (exfalso; omega)) | ((with_reducible refine brNdec (fun _ => ?_) (fun _ => ?_)) <;> try (exfalso; omega)) | ((with_reducible refine brNeq (fun _ => ?_) (fun _ => ?_)) <;> try (exfalso; omega)) | with_reducible refine Br.intro (fun _ => ?_) (fun _ => ?_) | (with_reducible refine And.intro ?_ ?_; · omega) | simp -dsimp -implicitDefEqProofs (disch := omega) only [VCA, Nat.reduceEqDiff, Nat.reduceBEq, Nat.reduceLT, ↓reduceIte, SOp.rd, SI.rd, SX.rd, setAt, implies_true, exists_eq_left', d8, e8.1, iv.1, iv.2])
                refine hI _ _ _ (EI.add S.sub S.fr (by rw [hnil]; exact A3) S3 e8.2 (kp _ _ d6 (nv _ _ c6)).1 e8.1 (kp _ _ (S1 _ _ c9) (nv _ _ c9)).1 (kp _ _ (S1 _ _ cM) (nv _ _ cM)).1 hent hsn)
              · have dO := S1 _ _ hO1
                subst hao
                repeat' (first | ((with_reducible refine Br.dec (fun _ => ?_) (fun _ => ?_)) <;> try (exfalso; omega)) | ((with_reducible refine Br.eq (fun _ => ?_) (fun _ => ?_)) <;> try (exfalso; omega)) | ((with_reducible refine Br.ne (fun _ => ?_) (fun _ => ?_)) <;> try (exfalso; omega)) | ((with_reducible refine brNdec (fun _ => ?_) (fun _ => ?_)) <;> try (exfalso; omega)) | ((with_reducible refine brNeq (fun _ => ?_) (fun _ => ?_)) <;> try (exfalso; omega)) | with_reducible refine Br.intro (fun _ => ?_) (fun _ => ?_) | (with_reducible refine And.intro ?_ ?_; · omega) | simp -dsimp -implicitDefEqProofs (disch := omega) only [VCA, Nat.reduceEqDiff, Nat.reduceBEq, ↓reduceIte, SOp.rd, SI.rd, SX.rd, rdL, implies_true, exists_eq_left', c6, c8, d6, d8, dO])
                rw [List.take_of_length_le (by rw [List.length_map]; exact Nat.le_refl _)]
                refine A1.appW S1 (by simp only [List.length_map]; omega) (by simp only [List.length_map]; omega) fun a3 h3 A3 S3 kp => ?_
                have e8 := kp _ _ d8 (nv _ _ c8)
                have iv := (OwnS.of_acc A3).1.isV
                repeat' (first | ((with_reducible refine Br.dec (fun _ => ?_) (fun _ => ?_)) <;> try (exfalso; omega)) | ((with_reducible refine Br.eq (fun _ => ?_) (fun _ => ?_)) <;> try (exfalso; omega)) | ((with_reducible refine Br.ne (fun _ => ?_) (fun _ => ?_)) <;> try (exfalso; omega)) | ((with_reducible refine brNdec (fun _ => ?_) (fun _ => ?_)) <;> try (exfalso; omega)) | ((with_reducible refine brNeq (fun _ => ?_) (fun _ => ?_)) <;> try (exfalso; omega)) | with_reducible refine Br.intro (fun _ => ?_) (fun _ => ?_) | (with_reducible refine And.intro ?_ ?_; · omega) | simp -dsimp -implicitDefEqProofs (disch := omega) only [VCA, Nat.reduceEqDiff, Nat.reduceBEq, Nat.reduceLT, ↓reduceIte, SOp.rd, SI.rd, SX.rd, setAt, implies_true, exists_eq_left', d8, e8.1, iv.1, iv.2])
                refine hI _ _ _ (EI.add S.sub S.fr A3 S3 e8.2 (kp _ _ d6 (nv _ _ c6)).1 e8.1 (kp _ _ (S1 _ _ c9) (nv _ _ c9)).1 (kp _ _ (S1 _ _ cM) (nv _ _ cM)).1 hent hsn)
            · have brd : (kindM d k == [114, 97, 100, 105, 111]) = true := hrd
              have hls := late_seen S.seen hrd
              by_cases hin : attD d k [110, 97, 109, 101] ∈ seen
              · simp -dsimp -implicitDefEqProofs (disch := omega) only [VCA, Nat.reduceEqDiff, Nat.reduceAdd, Nat.reduceLeDiff, ↓reduceIte, rsOf, rootsOf, rootL, eBkI]
                repeat' (first | ((with_reducible refine Br.dec (fun _ => ?_) (fun _ => ?_)) <;> try (exfalso; omega)) | ((with_reducible refine Br.eq (fun _ => ?_) (fun _ => ?_)) <;> try (exfalso; omega)) | ((with_reducible refine Br.ne (fun _ => ?_) (fun _ => ?_)) <;> try (exfalso; omega)) | ((with_reducible refine brNdec (fun _ => ?_) (fun _ => ?_)) <;> try (exfalso; omega)) | ((with_reducible refine brNeq (fun _ => ?_) (fun _ => ?_)) <;> try (exfalso; omega)) | with_reducible refine Br.intro (fun _ => ?_) (fun _ => ?_) | (with_reducible apply pcallE.of; · exact cW) | (with_reducible apply pcallE.of; · exact cO) | (with_reducible apply pcallE.of; · exact cT) | (with_reducible apply pcallE.of; · exact cK) | (with_reducible apply pcallE.of; · exact cA) | (with_reducible refine And.intro ?_ ?_; · omega) | simp -dsimp -implicitDefEqProofs (disch := omega) only [↓vcD_sp 39, ↓vcD_sp 46, VCA, Nat.reduceEqDiff, Nat.reduceBEq, Nat.reduceAdd, Nat.reduceLT, Nat.reduceLeDiff, ↓reduceIte, rsOf, rootsOf, SOp.rd, SI.rd, SX.rd, fillA, okFill, implies_true, exists_eq_left', rootL, eNode, ek0, ek2, c6, bown, brd, c9, cM, hin, aFnd_y])
                rw [decide_eq_true hin] at hls
                exact hI _ _ _ (S.late ht hrd hls)
              · obtain ⟨h1, hh1⟩ : ∃ x, upd h' rM (some ⟨.m 63 (eMs (putS (attD d k [110, 97, 109, 101]) seen)), 1, []⟩) = x := ⟨_, rfl⟩
                obtain ⟨z6, z8, z9, zM, zA, zS⟩ := S.put (attD d k [110, 97, 109, 101]) _ hh1.symm
                have m6 : ¬ r6 = rM := fun e => by have q := c6; rw [e, cM] at q; cases q
                have m8 : ¬ r8 = rM := fun e => by have q := c8; rw [e, cM] at q; cases q
                simp -dsimp -implicitDefEqProofs (disch := omega) only [VCA, Nat.reduceEqDiff, Nat.reduceAdd, Nat.reduceLeDiff, ↓reduceIte, rsOf, rootsOf, rootL, eBkI]
                repeat' (first | ((with_reducible refine Br.dec (fun _ => ?_) (fun _ => ?_)) <;> try (exfalso; omega)) | ((with_reducible refine Br.eq (fun _ => ?_) (fun _ => ?_)) <;> try (exfalso; omega)) | ((with_reducible refine Br.ne (fun _ => ?_) (fun _ => ?_)) <;> try (exfalso; omega)) | ((with_reducible refine brNdec (fun _ => ?_) (fun _ => ?_)) <;> try (exfalso; omega)) | ((with_reducible refine brNeq (fun _ => ?_) (fun _ => ?_)) <;> try (exfalso; omega)) | with_reducible refine Br.intro (fun _ => ?_) (fun _ => ?_) | (with_reducible apply pcallE.of; · exact cW) | (with_reducible apply pcallE.of; · exact cO) | (with_reducible apply pcallE.of; · exact cT) | (with_reducible apply pcallE.of; · exact cK) | (with_reducible apply pcallE.of; · exact cA) | (with_reducible refine And.intro ?_ ?_; · omega) | simp -dsimp -implicitDefEqProofs (disch := omega) only [↓vcD_sp 39, ↓vcD_sp 46, VCA, Nat.reduceEqDiff, Nat.reduceBEq, Nat.reduceAdd, Nat.reduceLT, Nat.reduceLeDiff, ↓reduceIte, rsOf, rootsOf, SOp.rd, SI.rd, SX.rd, fillA, okFill, implies_true, exists_eq_left', rootL, eNode, ek0, ek2, c6, bown, brd, c8, c9, cM, hin, aFnd_n, hh1, m6, m8])
                refine DCalls.of (cEn k hk h1) ?_
                rintro v h2 ⟨A1, S1⟩
                have d8 := S1 _ _ z8
                have d6 := S1 _ _ z6
                have nv : ∀ r o, h1 r = some o → rootOf v ≠ some r := fun r o hr e => by have := (OwnS.of_acc A1).2.1 r e; rw [hr] at this; cases this
                rw [decide_eq_false hin] at hls
                have hent : entL d n (k :: R) = entsOf d k ++ entL d n R := by rw [entL, if_pos ⟨ht, hls⟩]
                have hsn := seen_put S.seen ht hrd
                have l1 := entsOf_len V hk
                have l2 := entL_len V n R hRi
                rcases zA with ⟨hnil, hao⟩ | ⟨rO, hO0, hO1, hao⟩
                · subst hao
                  repeat' (first | ((with_reducible refine Br.dec (fun _ => ?_) (fun _ => ?_)) <;> try (exfalso; omega)) | ((with_reducible refine Br.eq (fun _ => ?_) (fun _ => ?_)) <;> try (exfalso; omega)) | ((with_reducible refine Br.ne (fun _ => ?_) (fun _ => ?_)) <;> try (exfalso; omega)) | ((with_reducible refine brNdec (fun _ => ?_) (fun _ => ?_)) <;> try (exfalso; omega)) | ((with_reducible refine brNeq (fun _ => ?_) (fun _ => ?_)) <;> try (exfalso; omega)) | with_reducible refine Br.intro (fun _ => ?_) (fun _ => ?_) | (with_reducible refine And.intro ?_ ?_; · omega) | simp -dsimp -implicitDefEqProofs (disch := omega) only [VCA, Nat.reduceEqDiff, Nat.reduceBEq, ↓reduceIte, SOp.rd, SI.rd, SX.rd, rdL, implies_true, exists_eq_left, d6, d8, m6, m8, c6, c8])
                  refine A1.appW S1 (by simp only [List.length_map, List.length_nil]; omega) (by simp only [List.length_map, List.length_nil]; omega) fun a3 h3 A3 S3 kp => ?_
                  have e8 := kp _ _ d8 (nv _ _ z8)
                  have iv := (OwnS.of_acc A3).1.isV
                  repeat' (first | ((with_reducible refine Br.dec (fun _ => ?_) (fun _ => ?_)) <;> try (exfalso; omega)) | ((with_reducible refine Br.eq (fun _ => ?_) (fun _ => ?_)) <;> try (exfalso; omega)) | ((with_reducible refine Br.ne (fun _ => ?_) (fun _ => ?_)) <;> try (exfalso; omega)) | ((with_reducible refine brNdec (fun _ => ?_) (fun _ => ?_)) <;> try (exfalso; omega)) | ((with_reducible refine brNeq (fun _ => ?_) (fun _ => ?_)) <;> try (exfalso; omega)) | with_reducible refine Br.intro (fun _ => ?_) (fun _ => ?_) | (with_reducible refine And.intro ?_ ?_; · omega) | simp -dsimp -implicitDefEqProofs (disch := omega) only [VCA, Nat.reduceEqDiff, Nat.reduceBEq, Nat.reduceLT, ↓reduceIte, SOp.rd, SI.rd, SX.rd, setAt, implies_true, exists_eq_left', d8, e8.1, iv.1, iv.2])
                  refine hI _ _ _ (EI.add zS S.fr (by rw [hnil]; exact A3) S3 e8.2 (kp _ _ d6 (nv _ _ z6)).1 e8.1 (kp _ _ (S1 _ _ z9) (nv _ _ z9)).1 (kp _ _ (S1 _ _ zM) (nv _ _ zM)).1 hent hsn)
                · have dO := S1 _ _ hO1
                  subst hao
                  repeat' (first | ((with_reducible refine Br.dec (fun _ => ?_) (fun _ => ?_)) <;> try (exfalso; omega)) | ((with_reducible refine Br.eq (fun _ => ?_) (fun _ => ?_)) <;> try (exfalso; omega)) | ((with_reducible refine Br.ne (fun _ => ?_) (fun _ => ?_)) <;> try (exfalso; omega)) | ((with_reducible refine brNdec (fun _ => ?_) (fun _ => ?_)) <;> try (exfalso; omega)) | ((with_reducible refine brNeq (fun _ => ?_) (fun _ => ?_)) <;> try (exfalso; omega)) | with_reducible refine Br.intro (fun _ => ?_) (fun _ => ?_) | (with_reducible refine And.intro ?_ ?_; · omega) | simp -dsimp -implicitDefEqProofs (disch := omega) only [VCA, Nat.reduceEqDiff, Nat.reduceBEq, ↓reduceIte, SOp.rd, SI.rd, SX.rd, rdL, implies_true, exists_eq_left', d6, d8, dO, m6, m8, c6, c8])
                  rw [List.take_of_length_le (by rw [List.length_map]; exact Nat.le_refl _)]
                  refine A1.appW S1 (by simp only [List.length_map]; omega) (by simp only [List.length_map]; omega) fun a3 h3 A3 S3 kp => ?_
                  have e8 := kp _ _ d8 (nv _ _ z8)
                  have iv := (OwnS.of_acc A3).1.isV
                  repeat' (first | ((with_reducible refine Br.dec (fun _ => ?_) (fun _ => ?_)) <;> try (exfalso; omega)) | ((with_reducible refine Br.eq (fun _ => ?_) (fun _ => ?_)) <;> try (exfalso; omega)) | ((with_reducible refine Br.ne (fun _ => ?_) (fun _ => ?_)) <;> try (exfalso; omega)) | ((with_reducible refine brNdec (fun _ => ?_) (fun _ => ?_)) <;> try (exfalso; omega)) | ((with_reducible refine brNeq (fun _ => ?_) (fun _ => ?_)) <;> try (exfalso; omega)) | with_reducible refine Br.intro (fun _ => ?_) (fun _ => ?_) | (with_reducible refine And.intro ?_ ?_; · omega) | simp -dsimp -implicitDefEqProofs (disch := omega) only [VCA, Nat.reduceEqDiff, Nat.reduceBEq, Nat.reduceLT, ↓reduceIte, SOp.rd, SI.rd, SX.rd, setAt, implies_true, exists_eq_left', d8, e8.1, iv.1, iv.2])
                  refine hI _ _ _ (EI.add zS S.fr A3 S3 e8.2 (kp _ _ d6 (nv _ _ z6)).1 e8.1 (kp _ _ (S1 _ _ z9) (nv _ _ z9)).1 (kp _ _ (S1 _ _ zM) (nv _ _ zM)).1 hent hsn)
        · have bown : (ow != n) = true := by simpa using hown
          have ht : tellM d n k = false := by
            unfold tellM; rw [ho, how, show (ow == n) = false by simpa using hown, Bool.false_and, Bool.and_false]
          simp -dsimp -implicitDefEqProofs (disch := omega) only [VCA, Nat.reduceEqDiff, Nat.reduceAdd, Nat.reduceLeDiff, ↓reduceIte, rsOf, rootsOf, rootL, eBkI]
          repeat' (first | ((with_reducible refine Br.dec (fun _ => ?_) (fun _ => ?_)) <;> try (exfalso; omega)) | ((with_reducible refine Br.eq (fun _ => ?_) (fun _ => ?_)) <;> try (exfalso; omega)) | ((with_reducible refine Br.ne (fun _ => ?_) (fun _ => ?_)) <;> try (exfalso; omega)) | ((with_reducible refine brNdec (fun _ => ?_) (fun _ => ?_)) <;> try (exfalso; omega)) | ((with_reducible refine brNeq (fun _ => ?_) (fun _ => ?_)) <;> try (exfalso; omega)) | with_reducible refine Br.intro (fun _ => ?_) (fun _ => ?_) | (with_reducible apply pcallE.of; · exact cW) | (with_reducible apply pcallE.of; · exact cO) | (with_reducible refine And.intro ?_ ?_; · omega) | simp -dsimp -implicitDefEqProofs (disch := omega) only [↓vcD_sp 39, ↓vcD_sp 46, VCA, Nat.reduceEqDiff, Nat.reduceAdd, Nat.reduceLT, Nat.reduceLeDiff, ↓reduceIte, rsOf, rootsOf, exists_eq_left', rootL, eNode, ek0, ek2, c6, bown])
          exact hI _ _ _ (S.skip ht)
    · rintro h' ⟨seen, ao, S⟩
      rw [hR0] at S
      have c8 := S.c8
      have aL := S.acc.len
      simp only [List.length_map] at aL
      have hv : Vw (newH h h') ao (sl eEnt (entL d n o)) := (OwnS.of_acc S.acc).1.vwN fun r hr => (OwnS.of_acc S.acc).2.1 r hr
      by_cases h100 : 100 < (entL d n o).length
      · have d1 : decide ((100 : Int) < ((entL d n o).length : Int)) = true := decide_eq_true (by omega)
        rw [if_pos h100]
        repeat' (first | ((with_reducible refine Br.dec (fun _ => ?_) (fun _ => ?_)) <;> try (exfalso; omega)) | ((with_reducible refine Br.eq (fun _ => ?_) (fun _ => ?_)) <;> try (exfalso; omega)) | ((with_reducible refine Br.ne (fun _ => ?_) (fun _ => ?_)) <;> try (exfalso; omega)) | ((with_reducible refine brNdec (fun _ => ?_) (fun _ => ?_)) <;> try (exfalso; omega)) | ((with_reducible refine brNeq (fun _ => ?_) (fun _ => ?_)) <;> try (exfalso; omega)) | with_reducible refine Br.intro (fun _ => ?_) (fun _ => ?_) | (with_reducible refine And.intro ?_ ?_; · omega) | simp -dsimp -implicitDefEqProofs (disch := omega) only [VCA, Nat.reduceEqDiff, Nat.reduceLT, ↓reduceIte, exists_eq_left', c8, aL.1, aL.2, d1])
        all_goals first | exact ⟨_, Sub.refl _, S.sub, .tup' (.cons .emp (.cons (.refl _) .nil))⟩ | trace_state
      · have d1 : decide ((100 : Int) < ((entL d n o).length : Int)) = false := decide_eq_false (by omega)
        rw [if_neg h100]
        repeat' (first | ((with_reducible refine Br.dec (fun _ => ?_) (fun _ => ?_)) <;> try (exfalso; omega)) | ((with_reducible refine Br.eq (fun _ => ?_) (fun _ => ?_)) <;> try (exfalso; omega)) | ((with_reducible refine Br.ne (fun _ => ?_) (fun _ => ?_)) <;> try (exfalso; omega)) | ((with_reducible refine brNdec (fun _ => ?_) (fun _ => ?_)) <;> try (exfalso; omega)) | ((with_reducible refine brNeq (fun _ => ?_) (fun _ => ?_)) <;> try (exfalso; omega)) | with_reducible refine Br.intro (fun _ => ?_) (fun _ => ?_) | (with_reducible refine And.intro ?_ ?_; · omega) | simp -dsimp -implicitDefEqProofs (disch := omega) only [VCA, Nat.reduceEqDiff, Nat.reduceLT, ↓reduceIte, exists_eq_left', c8, aL.1, aL.2, d1])
        all_goals first | exact ⟨_, Sub.refl _, S.sub, .tup' (.cons hv (.cons (.refl _) .nil))⟩ | trace_state
  · rw [if_pos h0]
    obtain ⟨x, hx⟩ : ∃ x, ctlE d n [102, 111, 114, 109] = x := ⟨_, rfl⟩
    rw [hx] at cC h0 ⊢
    unfold eDoc at cC
    have bx : (x != 0) = true := by simpa using h0
    have vF : isV (fA d (orderD d)) = true := rfl
    have wF : cellsOf (fA d (orderD d)) = [fA d (orderD d)] := rfl
    obtain ⟨F, hF⟩ : ∃ F, fA d (orderD d) = F := ⟨_, rfl⟩
    rw [hF] at cC vF wF
    refine dcalls_of_vc Tryz.func14 hn14 hc14 (by rw [Tryz.ntmps14]; simp) (by rw [Tryz.ntmps14]; decide) ?_
    simp -dsimp -implicitDefEqProofs (disch := omega) only [VCA, Nat.reduceEqDiff, Nat.reduceAdd, ↓reduceIte, c14, eDoc]
    repeat' (first | ((with_reducible refine Br.dec (fun _ => ?_) (fun _ => ?_)) <;> try (exfalso; omega)) | ((with_reducible refine Br.eq (fun _ => ?_) (fun _ => ?_)) <;> try (exfalso; omega)) | ((with_reducible refine Br.ne (fun _ => ?_) (fun _ => ?_)) <;> try (exfalso; omega)) | ((with_reducible refine brNdec (fun _ => ?_) (fun _ => ?_)) <;> try (exfalso; omega)) | ((with_reducible refine brNeq (fun _ => ?_) (fun _ => ?_)) <;> try (exfalso; omega)) | with_reducible refine Br.intro (fun _ => ?_) (fun _ => ?_) | (with_reducible apply pcallE.of; · exact cC) | (with_reducible refine And.intro ?_ ?_; · omega) | simp -dsimp -implicitDefEqProofs (disch := omega) only [VCA, Nat.reduceEqDiff, Nat.reduceAdd, Nat.reduceLT, ↓reduceIte, setAt, exists_eq_left', bx, vF, wF])
    intro r6 hr6
    repeat' (first | ((with_reducible refine Br.dec (fun _ => ?_) (fun _ => ?_)) <;> try (exfalso; omega)) | ((with_reducible refine Br.eq (fun _ => ?_) (fun _ => ?_)) <;> try (exfalso; omega)) | ((with_reducible refine Br.ne (fun _ => ?_) (fun _ => ?_)) <;> try (exfalso; omega)) | ((with_reducible refine brNdec (fun _ => ?_) (fun _ => ?_)) <;> try (exfalso; omega)) | ((with_reducible refine brNeq (fun _ => ?_) (fun _ => ?_)) <;> try (exfalso; omega)) | with_reducible refine Br.intro (fun _ => ?_) (fun _ => ?_) | (with_reducible refine And.intro ?_ ?_; · omega) | simp -dsimp -implicitDefEqProofs (disch := omega) only [↓vcOps_sp 39, ↓vcD_sp 39, ↓vcOps_sp 46, ↓vcD_sp 46, VCA, pg_gl, ↓upd_none, Nat.reduceEqDiff, Nat.reduceBEq, Nat.reduceAdd, Nat.reduceSub, Nat.reduceMul, Nat.reduceLT, Nat.reduceLeDiff, ↓reduceIte, reduceCtorEq, rsOf, rootsOf, SOp.rd, SI.rd, SX.rd, rdL, rdO, rdP, okParts, eqCells, okEqCells, fillA, okFill, setAt, implies_true, forall_const, forall_eq, ne_eq, exists_eq_right_right, exists_eq_right, exists_eq_left, exists_eq_left', rootL, eInt, eStr, eAttr, eEnt, lit_eq, bx, vF, wF, upd_same])
    exact ⟨_, Sub.refl _, (Sub.refl h).upd hr6, .tup' (.cons .emp (.cons (.refl _) .nil))⟩
end Go.Proofs.K
end
section
/- The law's document with a form. -/
set_option linter.unusedSimpArgs false
set_option linter.unusedVariables false
namespace Go.Proofs.K
open Go Go.Sim Go.Proofs
variable {G : Glob}
def formD : HDoc := ⟨[⟨1, [], [], [], -1, [1]⟩, ⟨2, [102, 111, 114, 109], [], [], 0, [2]⟩, ⟨2, [105, 110, 112, 117, 116], [⟨[110, 97, 109, 101], [113]⟩, ⟨[118, 97, 108, 117, 101], [97, 32, 98]⟩], [], 1, []⟩], false⟩
theorem formD_sm : DocSm formD := ⟨by decide, by
  intro x hx
  have : x = ⟨1, [], [], [], -1, [1]⟩ ∨ x = ⟨2, [102, 111, 114, 109], [], [], 0, [2]⟩ ∨ x = ⟨2, [105, 110, 112, 117, 116], [⟨[110, 97, 109, 101], [113]⟩, ⟨[118, 97, 108, 117, 101], [97, 32, 98]⟩], [], 1, []⟩ := by simpa [formD] using hx
  rcases this with rfl | rfl | rfl <;> exact ⟨by decide, by decide, by decide, by decide, by decide⟩⟩
def c29 : SFun := ⟨(.seq (.reg [⟨(some 0), (.new 36 2 [.emp, (.bool false)]), none⟩]) (.seq (.reg [⟨(some 1), (.bldF 3 1 [(.c (.int .i64 (1)))]), none⟩, ⟨(some 2), (.bld [(.int .i64 (0)), (.str []), .emp, (.str []), (.int .i64 (0)), .emp] [(0, (1, (.c (.int .i64 (1))))), (4, (1, (.c (.int .i64 (-1))))), (5, (1, (.t 1)))]), none⟩, ⟨(some 3), (.bldF 3 1 [(.c (.int .i64 (2)))]), none⟩, ⟨(some 4), (.bld [(.int .i64 (0)), (.str []), .emp, (.str []), (.int .i64 (0)), .emp] [(0, (1, (.c (.int .i64 (2))))), (1, (1, (.c (.str [102, 111, 114, 109])))), (5, (1, (.t 3)))]), none⟩, ⟨(some 5), (.bld [(.str []), (.str [])] [(0, (1, (.c (.str [110, 97, 109, 101])))), (1, (1, (.c (.str [113]))))]), none⟩, ⟨(some 6), (.bld [(.str []), (.str [])] [(0, (1, (.c (.str [118, 97, 108, 117, 101])))), (1, (1, (.c (.str [97, 32, 98]))))]), none⟩, ⟨(some 7), (.bldF 108 2 [(.t 5), (.t 6)]), none⟩, ⟨(some 8), (.bld [(.int .i64 (0)), (.str []), .emp, (.str []), (.int .i64 (0)), .emp] [(0, (1, (.c (.int .i64 (2))))), (1, (1, (.c (.str [105, 110, 112, 117, 116])))), (4, (1, (.c (.int .i64 (1))))), (2, (1, (.t 7)))]), none⟩, ⟨(some 9), (.bldF 73 6 [(.t 2), (.t 4), (.t 8)]), none⟩, ⟨(some 10), (.bld [.emp, (.bool false)] [(0, (1, (.t 9)))]), none⟩, ⟨none, (.st 2 (.t 0) (.t 10)), none⟩]) .ret)), [(.cell 0 2 true)]⟩
theorem hc29 : toSF Tryz.prog {} Tryz.f29 = some c29 := by kernel_rfl
theorem hn29 : (Tryz.f29.name == "runtime.NumGoroutine") = false := by kernel_rfl
theorem oneForm_ok : PCalls (Pg G) 29 [] (.agg (eDoc formD)) := fun h => by
  refine DCalls.res (K := fun a h' => a = .agg [.slc [[.int .i64 1, .str [], .emp, .str [], .int .i64 (-1), .slc [[.int .i64 1]]], [.int .i64 2, .str [102, 111, 114, 109], .emp, .str [], .int .i64 0, .slc [[.int .i64 2]]], [.int .i64 2, .str [105, 110, 112, 117, 116], .slc [[.str [110, 97, 109, 101], .str [113]], [.str [118, 97, 108, 117, 101], .str [97, 32, 98]]], .str [], .int .i64 1, .emp]], .bool false] ∧ h' = h) ?_ ?_
  · refine dcalls_of_vc Tryz.func29 hn29 hc29 (by rw [Tryz.ntmps29]; simp) (by rw [Tryz.ntmps29]; decide) ?_
    simp -dsimp -implicitDefEqProofs (disch := omega) only [VCA, Nat.reduceEqDiff, Nat.reduceAdd, Nat.reduceLT, Nat.reduceLeDiff, ↓reduceIte, reduceCtorEq, okParts, fillA, okFill, setAt, exists_eq_right_right, exists_eq_left', c29]
    intro r hr
    exact (Sub.refl _).upd hr
  · rintro a h' ⟨rfl, rfl⟩
    exact ⟨_, Wk.agg' (.cons (Wk.slc' (.cons (.cons (.refl _) (.cons (.refl _) (.cons .emp (.cons (.refl _) (.cons (.refl _) (.cons (.refl _) .nil)))))) (.cons (.cons (.refl _) (.cons (.refl _) (.cons .emp (.cons (.refl _) (.cons (.refl _) (.cons (.refl _) .nil)))))) (.cons (.cons (.refl _) (.cons (.refl _) (.cons (.refl _) (.cons (.refl _) (.cons (.refl _) (.cons .emp .nil)))))) .nil)))) (.cons (.refl _) .nil)), rfl, rfl⟩
end Go.Proofs.K
end
section
/- forms: what must be in any case. -/
set_option linter.unusedSimpArgs false
set_option linter.unusedVariables false
namespace Go.Proofs.K
open Go Go.Sim Go.Proofs
variable {G : Glob}
theorem tells_one : tellsM formD 1 = ([⟨[113], [97, 32, 98]⟩], 0) := by decide +kernel
theorem coded_one : coded [⟨[113], [97, 32, 98]⟩] = ([113, 61, 97, 43, 98], 0) := by decide +kernel
theorem decoded_one : Go.Proofs.K.decoded [113, 61, 97, 43, 98] = ([⟨[113], [97, 32, 98]⟩], 0) := by decide +kernel
def c10 : SFun := ⟨(.seq (.reg [⟨(some 0), (.mv (.c (.bool false))), none⟩]) (.seq (.reg [⟨(some 8), (.pcall 29 []), none⟩, ⟨(some 9), (.pcall 14 [(.t 8), (.c (.int .i64 (1)))]), none⟩, ⟨(some 7), (.mv (.t 9)), none⟩, ⟨(some 10), (.ext (.t 7) 0), none⟩, ⟨(some 11), (.ext (.t 7) 1), none⟩, ⟨(some 1), (.mv (.t 10)), none⟩, ⟨(some 2), (.mv (.t 11)), none⟩]) (.seq (.reg [⟨(some 13), (.mv (.t 1)), none⟩, ⟨(some 14), (.pcall 7 [(.t 13)]), none⟩, ⟨(some 12), (.mv (.t 14)), none⟩, ⟨(some 15), (.ext (.t 12) 0), none⟩, ⟨(some 16), (.ext (.t 12) 1), none⟩, ⟨(some 3), (.mv (.t 15)), none⟩, ⟨(some 4), (.mv (.t 16)), none⟩]) (.seq (.reg [⟨(some 18), (.pcall 8 [(.c (.str [113, 61, 97, 43, 98]))]), none⟩, ⟨(some 17), (.mv (.t 18)), none⟩, ⟨(some 19), (.ext (.t 17) 0), none⟩, ⟨(some 20), (.ext (.t 17) 1), none⟩, ⟨(some 5), (.mv (.t 19)), none⟩, ⟨(some 6), (.mv (.t 20)), none⟩]) (.seq (.reg [⟨(some 21), (.mv (.t 2)), none⟩, ⟨(some 22), (.bin .eql (.t 21) (.c (.int .i64 (0)))), none⟩, ⟨(some 23), (.mv (.t 22)), none⟩, ⟨(some 24), (.mv (.t 3)), (some (23, true))⟩, ⟨(some 25), (.bin .eql (.t 24) (.c (.str [113, 61, 97, 43, 98]))), (some (23, true))⟩, ⟨(some 26), (.pick (.t 23) (.t 25) (.c (.bool false))), none⟩, ⟨(some 27), (.mv (.t 26)), none⟩, ⟨(some 28), (.mv (.t 4)), (some (27, true))⟩, ⟨(some 29), (.bin .eql (.t 28) (.c (.int .i64 (0)))), (some (27, true))⟩, ⟨(some 30), (.pick (.t 27) (.t 29) (.c (.bool false))), none⟩, ⟨(some 31), (.mv (.t 30)), none⟩, ⟨(some 32), (.mv (.t 6)), (some (31, true))⟩, ⟨(some 33), (.bin .eql (.t 32) (.c (.int .i64 (0)))), (some (31, true))⟩, ⟨(some 34), (.pick (.t 31) (.t 33) (.c (.bool false))), none⟩, ⟨(some 35), (.mv (.t 34)), none⟩, ⟨(some 36), (.mv (.t 1)), (some (35, true))⟩, ⟨(some 37), (.mv (.t 5)), (some (35, true))⟩, ⟨(some 38), (.pcall 12 [(.t 36), (.t 37)]), (some (35, true))⟩, ⟨(some 39), (.pick (.t 35) (.t 38) (.c (.bool false))), none⟩, ⟨(some 40), (.mv (.t 39)), none⟩, ⟨(some 41), (.mv (.t 5)), (some (40, true))⟩, ⟨(some 42), (.len (.t 41)), (some (40, true))⟩, ⟨(some 43), (.bin .eql (.t 42) (.c (.int .i64 (1)))), (some (40, true))⟩, ⟨(some 44), (.pick (.t 40) (.t 43) (.c (.bool false))), none⟩, ⟨(some 0), (.mv (.t 44)), none⟩]) .ret))))), [(.tmp 0)]⟩
theorem hc10 : toSF Tryz.prog {pure := [29, 14, 7, 8, 12]} Tryz.f10 = some c10 := by kernel_rfl
theorem hn10 : (Tryz.f10.name == "runtime.NumGoroutine") = false := by kernel_rfl
theorem formBegun_ok (hG : MaxLenOK G) (hT : TabsOK G) : PCalls (Pg G) 10 [] (.bool true) := fun h => by
  have c1 := oneForm_ok (G := G)
  have c2 := fEntries_ok (G := G) hG hT formD formD_sm 1
  rw [tells_one] at c2
  have c3 := fEncode_ok (G := G) [⟨[113], [97, 32, 98]⟩] (by decide) (fun x hx => by rw [List.mem_singleton] at hx; subst hx; exact ⟨by decide, by decide⟩)
  rw [coded_one] at c3
  have c4 := fDecode_ok (G := G) hG [113, 61, 97, 43, 98] (by decide)
  rw [decoded_one] at c4
  have c5 := sameEnt_ok (G := G) [⟨[113], [97, 32, 98]⟩] (by decide)
  obtain ⟨L, hL⟩ : ∃ L : List HEnt, [⟨[113], [97, 32, 98]⟩] = L := ⟨_, rfl⟩
  have ll : L.length = 1 := by rw [← hL]; rfl
  rw [hL] at c2 c3 c4 c5
  have z0 : ((0 : Int) == 0) = true := rfl
  have z1 : ((1 : Int) == 1) = true := rfl
  generalize eDoc formD = D at *
  refine dcalls_of_vc Tryz.func10 hn10 hc10 (by rw [Tryz.ntmps10]; simp) (by rw [Tryz.ntmps10]; decide) ?_
  simp -dsimp -implicitDefEqProofs (disch := omega) only [VCA, c10]
  repeat' (first | ((with_reducible refine Br.dec (fun _ => ?_) (fun _ => ?_)) <;> try (exfalso; omega)) | ((with_reducible refine Br.eq (fun _ => ?_) (fun _ => ?_)) <;> try (exfalso; omega)) | ((with_reducible refine Br.ne (fun _ => ?_) (fun _ => ?_)) <;> try (exfalso; omega)) | ((with_reducible refine brNdec (fun _ => ?_) (fun _ => ?_)) <;> try (exfalso; omega)) | ((with_reducible refine brNeq (fun _ => ?_) (fun _ => ?_)) <;> try (exfalso; omega)) | with_reducible refine Br.intro (fun _ => ?_) (fun _ => ?_) | (with_reducible apply pcallE.of; · exact c1) | (with_reducible apply pcallE.of; · exact c2) | (with_reducible apply pcallE.of; · exact c3) | (with_reducible apply pcallE.of; · exact c4) | (with_reducible apply pcallE.of; · exact c5) | (with_reducible refine And.intro ?_ ?_; · omega) | simp -dsimp -implicitDefEqProofs (disch := omega) only [↓vcOps_sp 23, ↓vcOps_sp 27, ↓vcOps_sp 31, ↓vcOps_sp 35, ↓vcOps_sp 40, VCA, Nat.reduceEqDiff, Nat.reduceAdd, Nat.reduceLT, ↓reduceIte, exists_eq_right_right, ll, z0])
  all_goals first | exact ⟨Sub.refl _, rfl⟩ | (rename_i q; exact absurd rfl q)
end Go.Proofs.K
end
