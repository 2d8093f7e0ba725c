/- The document's decoding, walked. -/
import Derived.Test.YtlehoolkjkdncaaDoorDcr
set_option linter.unusedSimpArgs false
set_option linter.unusedVariables false
namespace Go.Proofs.K
open Go Go.Sim Go.Proofs
variable {G : Glob}

abbrev Ti : Nat := 21
def c10 : SFun := ⟨(.seq (.reg [⟨(some 2), (.mv (.c .emp)), none⟩]) (.seq (.reg [⟨(some 3), (.mv (.c .emp)), none⟩]) (.seq (.block 0 (.loop (.seq (.seq (.reg [⟨(some 8), (.mv (.t 0)), none⟩, ⟨(some 9), (.lenS (.t 8)), none⟩, ⟨(some 10), (.bin .gtr (.t 9) (.c (.int .i64 (0)))), none⟩]) (.cond (.t 10) .skip (.exit 0))) (.block 1 (.seq (.reg [⟨(some 11), (.mv (.t 0)), none⟩, ⟨(some 12), (.idxS (.t 11) (.c (.int .i64 (0)))), none⟩, ⟨(some 13), (.cvi .i64 (.t 12)), none⟩, ⟨(some 4), (.mv (.t 13)), none⟩]) (.seq (.reg [⟨(some 5), (.mv (.c (.int .i64 (0)))), none⟩]) (.seq (.block 2 (.loop (.seq (.seq (.reg [⟨(some 14), (.mv (.t 5)), none⟩, ⟨(some 15), (.mv (.t 0)), none⟩, ⟨(some 16), (.lenS (.t 15)), none⟩, ⟨(some 17), (.bin .lss (.t 14) (.t 16)), none⟩, ⟨(some 18), (.mv (.t 17)), none⟩, ⟨(some 19), (.mv (.t 5)), (some (18, true))⟩, ⟨(some 20), (.mv (.t 4)), (some (18, true))⟩, ⟨(some 21), (.pcall 23 [(.t 20)]), (some (18, true))⟩, ⟨(some 22), (.bin .lss (.t 19) (.t 21)), (some (18, true))⟩, ⟨(some 23), (.pick (.t 18) (.t 22) (.c (.bool false))), none⟩, ⟨(some 24), (.mv (.t 23)), none⟩, ⟨(some 25), (.mv (.t 4)), (some (24, true))⟩, ⟨(some 26), (.mv (.t 5)), (some (24, true))⟩, ⟨(some 27), (.mv (.t 0)), (some (24, true))⟩, ⟨(some 28), (.mv (.t 5)), (some (24, true))⟩, ⟨(some 29), (.idxS (.t 27) (.t 28)), (some (24, true))⟩, ⟨(some 30), (.cvi .i64 (.t 29)), (some (24, true))⟩, ⟨(some 31), (.pcall 24 [(.t 25), (.t 26), (.t 30)]), (some (24, true))⟩, ⟨(some 32), (.pick (.t 24) (.t 31) (.c (.bool false))), none⟩]) (.cond (.t 32) .skip (.exit 2))) (.block 3 (.reg [⟨(some 33), (.mv (.t 5)), none⟩, ⟨(some 34), (.bin .add (.t 33) (.c (.int .i64 (1)))), none⟩, ⟨(some 5), (.mv (.t 34)), none⟩]))))) (.seq (.seq (.reg [⟨(some 35), (.mv (.t 5)), none⟩, ⟨(some 36), (.mv (.t 4)), none⟩, ⟨(some 37), (.pcall 23 [(.t 36)]), none⟩, ⟨(some 38), (.bin .lss (.t 35) (.t 37)), none⟩]) (.cond (.t 38) (.seq (.reg [⟨(some 39), (.mv (.t 3)), none⟩, ⟨(some 40), (.bldF 21 1 [(.c (.int .i32 (65533)))]), none⟩, ⟨(some 41), (.app 21 1 4 (.t 39) (.t 40)), none⟩, ⟨(some 3), (.mv (.t 41)), none⟩]) (.seq (.seq (.reg [⟨(some 42), (.mv (.t 5)), none⟩, ⟨(some 43), (.bin .eql (.t 42) (.c (.int .i64 (0)))), none⟩]) (.cond (.t 43) (.reg [⟨(some 5), (.mv (.c (.int .i64 (1)))), none⟩]) .skip)) (.seq (.reg [⟨(some 44), (.mv (.t 0)), none⟩, ⟨(some 45), (.mv (.t 5)), none⟩, ⟨(some 46), (.slS (.t 44) (some (.t 45)) none), none⟩, ⟨(some 0), (.mv (.t 46)), none⟩]) (.exit 1)))) .skip)) (.seq (.reg [⟨(some 47), (.mv (.t 4)), none⟩, ⟨(some 6), (.mv (.t 47)), none⟩]) (.seq (.seq (.reg [⟨(some 48), (.mv (.t 5)), none⟩, ⟨(some 49), (.bin .eql (.t 48) (.c (.int .i64 (2)))), none⟩]) (.cond (.t 49) (.reg [⟨(some 50), (.mv (.t 4)), none⟩, ⟨(some 51), (.bin .sub (.t 50) (.c (.int .i64 (192)))), none⟩, ⟨(some 6), (.mv (.t 51)), none⟩]) .skip)) (.seq (.seq (.reg [⟨(some 52), (.mv (.t 5)), none⟩, ⟨(some 53), (.bin .eql (.t 52) (.c (.int .i64 (3)))), none⟩]) (.cond (.t 53) (.reg [⟨(some 54), (.mv (.t 4)), none⟩, ⟨(some 55), (.bin .sub (.t 54) (.c (.int .i64 (224)))), none⟩, ⟨(some 6), (.mv (.t 55)), none⟩]) .skip)) (.seq (.seq (.reg [⟨(some 56), (.mv (.t 5)), none⟩, ⟨(some 57), (.bin .eql (.t 56) (.c (.int .i64 (4)))), none⟩]) (.cond (.t 57) (.reg [⟨(some 58), (.mv (.t 4)), none⟩, ⟨(some 59), (.bin .sub (.t 58) (.c (.int .i64 (240)))), none⟩, ⟨(some 6), (.mv (.t 59)), none⟩]) .skip)) (.seq (.seq (.reg [⟨(some 7), (.mv (.c (.int .i64 (1)))), none⟩]) (.block 4 (.loop (.seq (.seq (.reg [⟨(some 60), (.mv (.t 7)), none⟩, ⟨(some 61), (.mv (.t 5)), none⟩, ⟨(some 62), (.bin .lss (.t 60) (.t 61)), none⟩]) (.cond (.t 62) .skip (.exit 4))) (.seq (.block 5 (.reg [⟨(some 65), (.mv (.t 6)), none⟩, ⟨(some 66), (.bin .mul (.c (.int .i64 (64))) (.t 65)), none⟩, ⟨(some 67), (.mv (.t 0)), none⟩, ⟨(some 68), (.mv (.t 7)), none⟩, ⟨(some 69), (.idxS (.t 67) (.t 68)), none⟩, ⟨(some 70), (.cvi .i64 (.t 69)), none⟩, ⟨(some 71), (.bin .add (.t 66) (.t 70)), none⟩, ⟨(some 72), (.bin .sub (.t 71) (.c (.int .i64 (128)))), none⟩, ⟨(some 6), (.mv (.t 72)), none⟩])) (.reg [⟨(some 63), (.mv (.t 7)), none⟩, ⟨(some 64), (.bin .add (.t 63) (.c (.int .i64 (1)))), none⟩, ⟨(some 7), (.mv (.t 64)), none⟩])))))) (.seq (.reg [⟨(some 73), (.mv (.t 3)), none⟩, ⟨(some 74), (.mv (.t 6)), none⟩, ⟨(some 75), (.cvi .i32 (.t 74)), none⟩, ⟨(some 76), (.bldF 21 1 [(.t 75)]), none⟩, ⟨(some 77), (.app 21 1 4 (.t 73) (.t 76)), none⟩, ⟨(some 3), (.mv (.t 77)), none⟩]) (.reg [⟨(some 78), (.mv (.t 0)), none⟩, ⟨(some 79), (.mv (.t 5)), none⟩, ⟨(some 80), (.slS (.t 78) (some (.t 79)) none), none⟩, ⟨(some 0), (.mv (.t 80)), none⟩]))))))))))))))) (.seq (.reg [⟨(some 81), (.mv (.t 3)), none⟩, ⟨(some 2), (.mv (.t 81)), none⟩]) .ret)))), [(.tmp 2)]⟩
theorem hc10 : toSF Tryd.prog {pure := [23, 24]} Tryd.f10 = some c10 := by kernel_rfl
theorem hn10 : (Tryd.f10.name == "runtime.NumGoroutine") = false := by kernel_rfl
set_option maxRecDepth 10000 in
theorem refDecode_ok (s : List UInt8) (hl : s.length ≤ 1073741824) : PCalls (Pg G) 10 [.str s] (sl eRune (decD s)) := PCalls.acc (ty := Ti) (sz := 1) fun h => by
  refine dcalls_of_vc Tryd.func10 hn10 hc10 (by rw [Tryd.ntmps10]; simp) (by rw [Tryd.ntmps10]; decide) ?_
  simp -dsimp -implicitDefEqProofs (disch := omega) only [↓vcOps_sp 18, ↓vcD_sp 18, ↓vcOps_sp 24, ↓vcD_sp 24, VCA, pg_gl, ↓upd_none, Nat.reduceEqDiff, Nat.reduceBEq, Nat.reduceAdd, Nat.reduceSub, Nat.reduceMul, Nat.reduceLT, Nat.reduceLeDiff, ↓reduceIte, reduceCtorEq, rsOf, rootsOf, SOp.rd, SI.rd, SX.rd, rdL, rdO, rdP, okParts, eqCells, okEqCells, fillA, okFill, setAt, implies_true, forall_const, forall_eq, ne_eq, exists_eq_right_right, exists_eq_right, exists_eq_left, exists_eq_left', eRune, c10]
  refine LoopVC.intro (fun m e h' => ∃ (t : List UInt8) (d : List Int), m = t.length ∧ d.length + t.length ≤ s.length ∧ e 0 = .str t ∧ Acc h Ti 1 (d.map eRune) (e 3) h' ∧ Sub h h' ∧ d ++ decD t = decD s) s.length ⟨s, [], rfl, by simp, rfl, Acc.nil, Sub.refl _, rfl⟩ ?_
  rintro m e h' ⟨t, d, rfl, hdl, he0, A, S, hD⟩
  simp -dsimp -implicitDefEqProofs (disch := omega) only [↓vcOps_sp 18, ↓vcD_sp 18, ↓vcOps_sp 24, ↓vcD_sp 24, VCA, pg_gl, ↓upd_none, Nat.reduceEqDiff, Nat.reduceBEq, Nat.reduceAdd, Nat.reduceSub, Nat.reduceMul, Nat.reduceLT, Nat.reduceLeDiff, ↓reduceIte, reduceCtorEq, rsOf, rootsOf, SOp.rd, SI.rd, SX.rd, rdL, rdO, rdP, okParts, eqCells, okEqCells, fillA, okFill, setAt, implies_true, forall_const, forall_eq, ne_eq, exists_eq_right_right, exists_eq_right, exists_eq_left, exists_eq_left', eRune, he0]
  refine Br.dec (fun hlt => ?_) (fun hge => ?_)
  · have ht : t ≠ [] := by rintro rfl; simp at hlt
    have hg := lM_ge t
    have hone := oneM_n ht
    have hlm : lM t = longM (bt t 0) := rfl
    rw [decD_cons ht] at hD
    have hb0 : 0 ≤ ((t.getD 0 0).toNat : Int) ∧ ((t.getD 0 0).toNat : Int) < 256 := bt_byte t 0
    simp -dsimp -implicitDefEqProofs (disch := omega) only [↓vcOps_sp 18, ↓vcD_sp 18, ↓vcOps_sp 24, ↓vcD_sp 24, VCA, pg_gl, ↓upd_none, Nat.reduceEqDiff, Nat.reduceBEq, Nat.reduceAdd, Nat.reduceSub, Nat.reduceMul, Nat.reduceLT, Nat.reduceLeDiff, ↓reduceIte, reduceCtorEq, rsOf, rootsOf, SOp.rd, SI.rd, SX.rd, rdL, rdO, rdP, okParts, eqCells, okEqCells, fillA, okFill, setAt, implies_true, forall_const, forall_eq, ne_eq, exists_eq_right_right, exists_eq_right, exists_eq_left, exists_eq_left', eRune, he0]
    refine ⟨by omega, ?_⟩
    generalize ea : e 3 = a at A
    refine loopT (fun x e' h'' => x = .exit 2 ∧ ∃ n : Nat, e' 0 = .str t ∧ e' 3 = a ∧ e' 4 = aInt (bt t 0) ∧ e' 5 = aInt n ∧ h'' = h' ∧ ((n < lM t ∧ oneM t = (65533, max n 1)) ∨ (n = lM t ∧ n ≤ t.length ∧ oneM t = (valM t n n, n))))
      (fun m e' h'' => ∃ n : Nat, m = lM t - n ∧ e' 0 = .str t ∧ e' 3 = a ∧ e' 4 = aInt (bt t 0) ∧ e' 5 = aInt n ∧ h'' = h' ∧ n ≤ t.length ∧ n ≤ lM t ∧ (1 ≤ n → At t n)) (lM t) ⟨0, by omega, he0, ea, rfl, rfl, rfl, by omega, by omega, by omega⟩ ?_ ?_
    · rintro Q' hQ m e' h'' ⟨n, rfl, f0, f3, f4, f5, rfl, hn1, hn2, hA⟩
      have hbn : 0 ≤ ((t.getD n 0).toNat : Int) ∧ ((t.getD n 0).toNat : Int) < 256 := bt_byte t n
      have ex : (n = t.length ∨ mayM (bt t 0) n (bt t n) = false) ∨ n = lM t → (n < lM t ∧ oneM t = (65533, max n 1)) ∨ (n = lM t ∧ n ≤ t.length ∧ oneM t = (valM t n n, n)) := by
        intro hh
        by_cases hn : n = lM t
        · subst hn; exact .inr ⟨rfl, hn1, at_all (hA hg.1)⟩
        · have hh := hh.resolve_right hn
          refine .inl ⟨by omega, ?_⟩
          by_cases h0 : n = 0
          · subst h0
            rcases hh with hh | hh
            · omega
            · exact at_none hh
          · rw [at_off (hA (by omega)) (by omega) (by omega) hh, Nat.max_eq_left (by omega)]
      simp -dsimp -implicitDefEqProofs (disch := omega) only [↓vcOps_sp 18, ↓vcD_sp 18, ↓vcOps_sp 24, ↓vcD_sp 24, VCA, pg_gl, ↓upd_none, Nat.reduceEqDiff, Nat.reduceBEq, Nat.reduceAdd, Nat.reduceSub, Nat.reduceMul, Nat.reduceLT, Nat.reduceLeDiff, ↓reduceIte, reduceCtorEq, rsOf, rootsOf, SOp.rd, SI.rd, SX.rd, rdL, rdO, rdP, okParts, eqCells, okEqCells, fillA, okFill, setAt, implies_true, forall_const, forall_eq, ne_eq, exists_eq_right_right, exists_eq_right, exists_eq_left, exists_eq_left', eRune, f0, f4, f5]
      repeat' (first | ((with_reducible refine Br.dec (fun _ => ?_) (fun _ => ?_)) <;> try (exfalso; omega)) | ((with_reducible refine Br.eq (fun _ => ?_) (fun _ => ?_)) <;> try (exfalso; omega)) | ((with_reducible refine Br.ne (fun _ => ?_) (fun _ => ?_)) <;> try (exfalso; omega)) | with_reducible refine Br.intro (fun _ => ?_) (fun _ => ?_) | (with_reducible apply pcallE.of; · exact longOf_ok _) | (with_reducible apply pcallE.of; · exact mayBe_ok _ _ _) | (with_reducible refine And.intro ?_ ?_; · omega) | simp -dsimp -implicitDefEqProofs (disch := omega) only [↓vcOps_sp 18, ↓vcD_sp 18, ↓vcOps_sp 24, ↓vcD_sp 24, VCA, pg_gl, ↓upd_none, Nat.reduceEqDiff, Nat.reduceBEq, Nat.reduceAdd, Nat.reduceSub, Nat.reduceMul, Nat.reduceLT, Nat.reduceLeDiff, ↓reduceIte, reduceCtorEq, rsOf, rootsOf, SOp.rd, SI.rd, SX.rd, rdL, rdO, rdP, okParts, eqCells, okEqCells, fillA, okFill, setAt, implies_true, forall_const, forall_eq, ne_eq, exists_eq_right_right, exists_eq_right, exists_eq_left, exists_eq_left', eRune, f0, f4, f5])
      · refine ⟨lM t - (n + 1), by omega, n + 1, rfl, f3, by omega, by omega, by omega, fun _ => ?_⟩
        by_cases h0 : n = 0
        · subst h0; exact at_in (by assumption)
        · exact at_on (hA (by omega)) (by omega) (by omega) (by omega) (by assumption)
      · exact hQ _ _ _ ⟨rfl, n, f0, f3, f4, f5, rfl, ex (.inl (.inr (by assumption)))⟩
      · exact hQ _ _ _ ⟨rfl, n, f0, f3, f4, f5, rfl, ex (.inr (by omega))⟩
      · exact hQ _ _ _ ⟨rfl, n, f0, f3, f4, f5, rfl, ex (.inl (.inl (by omega)))⟩
    · rintro x e' h'' ⟨rfl, n, f0, f3, f4, f5, rfl, hc⟩
      simp -dsimp -implicitDefEqProofs (disch := omega) only [↓vcOps_sp 18, ↓vcD_sp 18, ↓vcOps_sp 24, ↓vcD_sp 24, VCA, pg_gl, ↓upd_none, Nat.reduceEqDiff, Nat.reduceBEq, Nat.reduceAdd, Nat.reduceSub, Nat.reduceMul, Nat.reduceLT, Nat.reduceLeDiff, ↓reduceIte, reduceCtorEq, rsOf, rootsOf, SOp.rd, SI.rd, SX.rd, rdL, rdO, rdP, okParts, eqCells, okEqCells, fillA, okFill, setAt, implies_true, forall_const, forall_eq, ne_eq, exists_eq_right_right, exists_eq_right, exists_eq_left, exists_eq_left', eRune, f0, f3, f4, f5]
      refine pcallE.of (longOf_ok (bt t 0)) ?_; simp -dsimp -implicitDefEqProofs (disch := omega) only [↓vcOps_sp 18, ↓vcD_sp 18, ↓vcOps_sp 24, ↓vcD_sp 24, VCA, pg_gl, ↓upd_none, Nat.reduceEqDiff, Nat.reduceBEq, Nat.reduceAdd, Nat.reduceSub, Nat.reduceMul, Nat.reduceLT, Nat.reduceLeDiff, ↓reduceIte, reduceCtorEq, rsOf, rootsOf, SOp.rd, SI.rd, SX.rd, rdL, rdO, rdP, okParts, eqCells, okEqCells, fillA, okFill, setAt, implies_true, forall_const, forall_eq, ne_eq, exists_eq_right_right, exists_eq_right, exists_eq_left, exists_eq_left', eRune, f0, f3, f4, f5]
      rcases hc with ⟨h1, h2⟩ | ⟨h1, h2, h3⟩
      · rw [h2] at hD hone
        refine Br.dec (fun _ => ?_) (fun hh => absurd (show (n : Int) < longM (bt t 0) by omega) hh)
        simp -dsimp -implicitDefEqProofs (disch := omega) only [↓vcOps_sp 18, ↓vcD_sp 18, ↓vcOps_sp 24, ↓vcD_sp 24, VCA, pg_gl, ↓upd_none, Nat.reduceEqDiff, Nat.reduceBEq, Nat.reduceAdd, Nat.reduceSub, Nat.reduceMul, Nat.reduceLT, Nat.reduceLeDiff, ↓reduceIte, reduceCtorEq, rsOf, rootsOf, SOp.rd, SI.rd, SX.rd, rdL, rdO, rdP, okParts, eqCells, okEqCells, fillA, okFill, setAt, implies_true, forall_const, forall_eq, ne_eq, exists_eq_right_right, exists_eq_right, exists_eq_left, exists_eq_left', eRune, f0, f3, f4, f5]
        refine A.app S (by simp; omega) (by simp; omega) fun a' h3 A' S' => ?_
        simp -dsimp -implicitDefEqProofs (disch := omega) only [↓vcOps_sp 18, ↓vcD_sp 18, ↓vcOps_sp 24, ↓vcD_sp 24, VCA, pg_gl, ↓upd_none, Nat.reduceEqDiff, Nat.reduceBEq, Nat.reduceAdd, Nat.reduceSub, Nat.reduceMul, Nat.reduceLT, Nat.reduceLeDiff, ↓reduceIte, reduceCtorEq, rsOf, rootsOf, SOp.rd, SI.rd, SX.rd, rdL, rdO, rdP, okParts, eqCells, okEqCells, fillA, okFill, setAt, implies_true, forall_const, forall_eq, ne_eq, exists_eq_right_right, exists_eq_right, exists_eq_left, exists_eq_left', eRune, f0, f3, f4, f5]
        simp only at hone hD
        have fin : ∀ k : Nat, k = max n 1 → ∃ m', m' < t.length ∧ ∃ (t1 : List UInt8) (d1 : List Int), m' = t1.length ∧ d1.length + t1.length ≤ s.length ∧ List.drop k t = t1 ∧ Acc h Ti 1 (d1.map eRune) a' h3 ∧ Sub h h3 ∧ d1 ++ decD t1 = decD s := by
          rintro k rfl
          refine ⟨_, ?_, t.drop (max n 1), d ++ [65533], rfl, ?_, ?_, ?_, S', ?_⟩
          · rw [List.length_drop]; omega
          · rw [List.length_drop, List.length_append, List.length_singleton]; omega
          · rfl
          · simpa [eRune] using A'
          · rw [← hD]; simp
        refine Br.eq (fun h0 => ?_) (fun h0 => ?_)
        · simp -dsimp -implicitDefEqProofs (disch := omega) only [↓vcOps_sp 18, ↓vcD_sp 18, ↓vcOps_sp 24, ↓vcD_sp 24, VCA, pg_gl, ↓upd_none, Nat.reduceEqDiff, Nat.reduceBEq, Nat.reduceAdd, Nat.reduceSub, Nat.reduceMul, Nat.reduceLT, Nat.reduceLeDiff, ↓reduceIte, reduceCtorEq, rsOf, rootsOf, SOp.rd, SI.rd, SX.rd, rdL, rdO, rdP, okParts, eqCells, okEqCells, fillA, okFill, setAt, implies_true, forall_const, forall_eq, ne_eq, exists_eq_right_right, exists_eq_right, exists_eq_left, exists_eq_left', eRune, f0, f3, f4, f5]
          refine ⟨by omega, ?_⟩
          exact fin 1 (by omega)
        · simp -dsimp -implicitDefEqProofs (disch := omega) only [↓vcOps_sp 18, ↓vcD_sp 18, ↓vcOps_sp 24, ↓vcD_sp 24, VCA, pg_gl, ↓upd_none, Nat.reduceEqDiff, Nat.reduceBEq, Nat.reduceAdd, Nat.reduceSub, Nat.reduceMul, Nat.reduceLT, Nat.reduceLeDiff, ↓reduceIte, reduceCtorEq, rsOf, rootsOf, SOp.rd, SI.rd, SX.rd, rdL, rdO, rdP, okParts, eqCells, okEqCells, fillA, okFill, setAt, implies_true, forall_const, forall_eq, ne_eq, exists_eq_right_right, exists_eq_right, exists_eq_left, exists_eq_left', eRune, f0, f3, f4, f5]
          refine ⟨by omega, ?_⟩
          exact fin n (by omega)
      · rw [h3] at hD hone
        refine Br.dec (fun hh => absurd (show ¬ (n : Int) < longM (bt t 0) by omega) (fun g => g hh)) (fun _ => ?_)
        simp only at hone hD
        have hv := valM_r t n
        have hb0' := bt_byte t 0
        rcases (by omega : n = 1 ∨ n = 2 ∨ n = 3 ∨ n = 4) with rfl | rfl | rfl | rfl
        · simp -dsimp -implicitDefEqProofs (disch := omega) only [↓vcOps_sp 18, ↓vcD_sp 18, ↓vcOps_sp 24, ↓vcD_sp 24, VCA, pg_gl, ↓upd_none, Nat.reduceEqDiff, Nat.reduceBEq, Nat.reduceAdd, Nat.reduceSub, Nat.reduceMul, Nat.reduceLT, Nat.reduceLeDiff, ↓reduceIte, reduceCtorEq, rsOf, rootsOf, SOp.rd, SI.rd, SX.rd, rdL, rdO, rdP, okParts, eqCells, okEqCells, fillA, okFill, setAt, implies_true, forall_const, forall_eq, ne_eq, exists_eq_right_right, exists_eq_right, exists_eq_left, exists_eq_left', eRune, f0, f3, f4, f5]
          repeat' (first | ((with_reducible refine Br.dec (fun _ => ?_) (fun _ => ?_)) <;> try (exfalso; omega)) | ((with_reducible refine Br.eq (fun _ => ?_) (fun _ => ?_)) <;> try (exfalso; omega)) | ((with_reducible refine Br.ne (fun _ => ?_) (fun _ => ?_)) <;> try (exfalso; omega)) | with_reducible refine Br.intro (fun _ => ?_) (fun _ => ?_) | (with_reducible refine And.intro ?_ ?_; · omega) | simp -dsimp -implicitDefEqProofs (disch := omega) only [↓vcOps_sp 18, ↓vcD_sp 18, ↓vcOps_sp 24, ↓vcD_sp 24, VCA, pg_gl, ↓upd_none, Nat.reduceEqDiff, Nat.reduceBEq, Nat.reduceAdd, Nat.reduceSub, Nat.reduceMul, Nat.reduceLT, Nat.reduceLeDiff, ↓reduceIte, reduceCtorEq, rsOf, rootsOf, SOp.rd, SI.rd, SX.rd, rdL, rdO, rdP, okParts, eqCells, okEqCells, fillA, okFill, setAt, implies_true, forall_const, forall_eq, ne_eq, exists_eq_right_right, exists_eq_right, exists_eq_left, exists_eq_left', eRune, f0, f3, f4, f5])
          refine LoopVC.intro (fun m e1 h1 => ∃ i : Nat, m = 1 - i ∧ 1 ≤ i ∧ i ≤ 1 ∧ e1 0 = .str t ∧ e1 3 = a ∧ e1 5 = aInt (1 : Nat) ∧ e1 6 = aInt (valM t 1 i) ∧ e1 7 = aInt i ∧ h1 = h'') _ ⟨1, rfl, by omega, by omega, f0, f3, f5, ?_, rfl, rfl⟩ ?_
          · rfl
          · rintro m e1 h1' ⟨i, rfl, hi1, hi2, k0, k3, k5, k6, k7, rfl⟩
            have hbi : 0 ≤ ((t.getD i 0).toNat : Int) ∧ ((t.getD i 0).toNat : Int) < 256 := bt_byte t i
            have hvi := hv i (by omega)
            have hvs : i < 1 → valM t 1 (i + 1) = 64 * valM t 1 i + bt t i - 128 := fun _ => by
              obtain ⟨j, rfl⟩ : ∃ j, i = j + 1 := ⟨i - 1, by omega⟩
              rfl
            simp -dsimp -implicitDefEqProofs (disch := omega) only [↓vcOps_sp 18, ↓vcD_sp 18, ↓vcOps_sp 24, ↓vcD_sp 24, VCA, pg_gl, ↓upd_none, Nat.reduceEqDiff, Nat.reduceBEq, Nat.reduceAdd, Nat.reduceSub, Nat.reduceMul, Nat.reduceLT, Nat.reduceLeDiff, ↓reduceIte, reduceCtorEq, rsOf, rootsOf, SOp.rd, SI.rd, SX.rd, rdL, rdO, rdP, okParts, eqCells, okEqCells, fillA, okFill, setAt, implies_true, forall_const, forall_eq, ne_eq, exists_eq_right_right, exists_eq_right, exists_eq_left, exists_eq_left', eRune, k0, k3, k5, k6, k7]
            repeat' (first | ((with_reducible refine Br.dec (fun _ => ?_) (fun _ => ?_)) <;> try (exfalso; omega)) | ((with_reducible refine Br.eq (fun _ => ?_) (fun _ => ?_)) <;> try (exfalso; omega)) | ((with_reducible refine Br.ne (fun _ => ?_) (fun _ => ?_)) <;> try (exfalso; omega)) | with_reducible refine Br.intro (fun _ => ?_) (fun _ => ?_) | (with_reducible refine And.intro ?_ ?_; · omega) | simp -dsimp -implicitDefEqProofs (disch := omega) only [↓vcOps_sp 18, ↓vcD_sp 18, ↓vcOps_sp 24, ↓vcD_sp 24, VCA, pg_gl, ↓upd_none, Nat.reduceEqDiff, Nat.reduceBEq, Nat.reduceAdd, Nat.reduceSub, Nat.reduceMul, Nat.reduceLT, Nat.reduceLeDiff, ↓reduceIte, reduceCtorEq, rsOf, rootsOf, SOp.rd, SI.rd, SX.rd, rdL, rdO, rdP, okParts, eqCells, okEqCells, fillA, okFill, setAt, implies_true, forall_const, forall_eq, ne_eq, exists_eq_right_right, exists_eq_right, exists_eq_left, exists_eq_left', eRune, k0, k3, k5, k6, k7])
            all_goals first | (exfalso; omega) | skip
            all_goals (
              obtain rfl : i = 1 := by omega
              have hw : IntKind.i32.wrap (valM t 1 1) = valM t 1 1 := by rw [IntKind.wrap_i32]; omega
              rw [hw]
              refine A.app S (by simp; omega) (by simp; omega) fun a' h3 A' S' => ?_
              simp -dsimp -implicitDefEqProofs (disch := omega) only [↓vcOps_sp 18, ↓vcD_sp 18, ↓vcOps_sp 24, ↓vcD_sp 24, VCA, pg_gl, ↓upd_none, Nat.reduceEqDiff, Nat.reduceBEq, Nat.reduceAdd, Nat.reduceSub, Nat.reduceMul, Nat.reduceLT, Nat.reduceLeDiff, ↓reduceIte, reduceCtorEq, rsOf, rootsOf, SOp.rd, SI.rd, SX.rd, rdL, rdO, rdP, okParts, eqCells, okEqCells, fillA, okFill, setAt, implies_true, forall_const, forall_eq, ne_eq, exists_eq_right_right, exists_eq_right, exists_eq_left, exists_eq_left', eRune, k0, k3, k5, k6, k7]
              refine ⟨by omega, _, ?_, t.drop 1, d ++ [valM t 1 1], rfl, ?_, ?_, ?_, S', ?_⟩
              · rw [List.length_drop]; omega
              · rw [List.length_drop, List.length_append, List.length_singleton]; omega
              · rfl
              · simpa [eRune] using A'
              · rw [← hD]; simp)
        · simp -dsimp -implicitDefEqProofs (disch := omega) only [↓vcOps_sp 18, ↓vcD_sp 18, ↓vcOps_sp 24, ↓vcD_sp 24, VCA, pg_gl, ↓upd_none, Nat.reduceEqDiff, Nat.reduceBEq, Nat.reduceAdd, Nat.reduceSub, Nat.reduceMul, Nat.reduceLT, Nat.reduceLeDiff, ↓reduceIte, reduceCtorEq, rsOf, rootsOf, SOp.rd, SI.rd, SX.rd, rdL, rdO, rdP, okParts, eqCells, okEqCells, fillA, okFill, setAt, implies_true, forall_const, forall_eq, ne_eq, exists_eq_right_right, exists_eq_right, exists_eq_left, exists_eq_left', eRune, f0, f3, f4, f5]
          repeat' (first | ((with_reducible refine Br.dec (fun _ => ?_) (fun _ => ?_)) <;> try (exfalso; omega)) | ((with_reducible refine Br.eq (fun _ => ?_) (fun _ => ?_)) <;> try (exfalso; omega)) | ((with_reducible refine Br.ne (fun _ => ?_) (fun _ => ?_)) <;> try (exfalso; omega)) | with_reducible refine Br.intro (fun _ => ?_) (fun _ => ?_) | (with_reducible refine And.intro ?_ ?_; · omega) | simp -dsimp -implicitDefEqProofs (disch := omega) only [↓vcOps_sp 18, ↓vcD_sp 18, ↓vcOps_sp 24, ↓vcD_sp 24, VCA, pg_gl, ↓upd_none, Nat.reduceEqDiff, Nat.reduceBEq, Nat.reduceAdd, Nat.reduceSub, Nat.reduceMul, Nat.reduceLT, Nat.reduceLeDiff, ↓reduceIte, reduceCtorEq, rsOf, rootsOf, SOp.rd, SI.rd, SX.rd, rdL, rdO, rdP, okParts, eqCells, okEqCells, fillA, okFill, setAt, implies_true, forall_const, forall_eq, ne_eq, exists_eq_right_right, exists_eq_right, exists_eq_left, exists_eq_left', eRune, f0, f3, f4, f5])
          refine LoopVC.intro (fun m e1 h1 => ∃ i : Nat, m = 2 - i ∧ 1 ≤ i ∧ i ≤ 2 ∧ e1 0 = .str t ∧ e1 3 = a ∧ e1 5 = aInt (2 : Nat) ∧ e1 6 = aInt (valM t 2 i) ∧ e1 7 = aInt i ∧ h1 = h'') _ ⟨1, rfl, by omega, by omega, f0, f3, f5, ?_, rfl, rfl⟩ ?_
          · rfl
          · rintro m e1 h1' ⟨i, rfl, hi1, hi2, k0, k3, k5, k6, k7, rfl⟩
            have hbi : 0 ≤ ((t.getD i 0).toNat : Int) ∧ ((t.getD i 0).toNat : Int) < 256 := bt_byte t i
            have hvi := hv i (by omega)
            have hvs : i < 2 → valM t 2 (i + 1) = 64 * valM t 2 i + bt t i - 128 := fun _ => by
              obtain ⟨j, rfl⟩ : ∃ j, i = j + 1 := ⟨i - 1, by omega⟩
              rfl
            simp -dsimp -implicitDefEqProofs (disch := omega) only [↓vcOps_sp 18, ↓vcD_sp 18, ↓vcOps_sp 24, ↓vcD_sp 24, VCA, pg_gl, ↓upd_none, Nat.reduceEqDiff, Nat.reduceBEq, Nat.reduceAdd, Nat.reduceSub, Nat.reduceMul, Nat.reduceLT, Nat.reduceLeDiff, ↓reduceIte, reduceCtorEq, rsOf, rootsOf, SOp.rd, SI.rd, SX.rd, rdL, rdO, rdP, okParts, eqCells, okEqCells, fillA, okFill, setAt, implies_true, forall_const, forall_eq, ne_eq, exists_eq_right_right, exists_eq_right, exists_eq_left, exists_eq_left', eRune, k0, k3, k5, k6, k7]
            repeat' (first | ((with_reducible refine Br.dec (fun _ => ?_) (fun _ => ?_)) <;> try (exfalso; omega)) | ((with_reducible refine Br.eq (fun _ => ?_) (fun _ => ?_)) <;> try (exfalso; omega)) | ((with_reducible refine Br.ne (fun _ => ?_) (fun _ => ?_)) <;> try (exfalso; omega)) | with_reducible refine Br.intro (fun _ => ?_) (fun _ => ?_) | (with_reducible refine And.intro ?_ ?_; · omega) | simp -dsimp -implicitDefEqProofs (disch := omega) only [↓vcOps_sp 18, ↓vcD_sp 18, ↓vcOps_sp 24, ↓vcD_sp 24, VCA, pg_gl, ↓upd_none, Nat.reduceEqDiff, Nat.reduceBEq, Nat.reduceAdd, Nat.reduceSub, Nat.reduceMul, Nat.reduceLT, Nat.reduceLeDiff, ↓reduceIte, reduceCtorEq, rsOf, rootsOf, SOp.rd, SI.rd, SX.rd, rdL, rdO, rdP, okParts, eqCells, okEqCells, fillA, okFill, setAt, implies_true, forall_const, forall_eq, ne_eq, exists_eq_right_right, exists_eq_right, exists_eq_left, exists_eq_left', eRune, k0, k3, k5, k6, k7])
            · refine ⟨_, ?_, i + 1, rfl, by omega, by omega, ?_, by omega⟩
              · omega
              · rw [hvs (by omega)]
                rfl
            all_goals (
              obtain rfl : i = 2 := by omega
              have hw : IntKind.i32.wrap (valM t 2 2) = valM t 2 2 := by rw [IntKind.wrap_i32]; omega
              rw [hw]
              refine A.app S (by simp; omega) (by simp; omega) fun a' h3 A' S' => ?_
              simp -dsimp -implicitDefEqProofs (disch := omega) only [↓vcOps_sp 18, ↓vcD_sp 18, ↓vcOps_sp 24, ↓vcD_sp 24, VCA, pg_gl, ↓upd_none, Nat.reduceEqDiff, Nat.reduceBEq, Nat.reduceAdd, Nat.reduceSub, Nat.reduceMul, Nat.reduceLT, Nat.reduceLeDiff, ↓reduceIte, reduceCtorEq, rsOf, rootsOf, SOp.rd, SI.rd, SX.rd, rdL, rdO, rdP, okParts, eqCells, okEqCells, fillA, okFill, setAt, implies_true, forall_const, forall_eq, ne_eq, exists_eq_right_right, exists_eq_right, exists_eq_left, exists_eq_left', eRune, k0, k3, k5, k6, k7]
              refine ⟨by omega, _, ?_, t.drop 2, d ++ [valM t 2 2], rfl, ?_, ?_, ?_, S', ?_⟩
              · rw [List.length_drop]; omega
              · rw [List.length_drop, List.length_append, List.length_singleton]; omega
              · rfl
              · simpa [eRune] using A'
              · rw [← hD]; simp)
        · simp -dsimp -implicitDefEqProofs (disch := omega) only [↓vcOps_sp 18, ↓vcD_sp 18, ↓vcOps_sp 24, ↓vcD_sp 24, VCA, pg_gl, ↓upd_none, Nat.reduceEqDiff, Nat.reduceBEq, Nat.reduceAdd, Nat.reduceSub, Nat.reduceMul, Nat.reduceLT, Nat.reduceLeDiff, ↓reduceIte, reduceCtorEq, rsOf, rootsOf, SOp.rd, SI.rd, SX.rd, rdL, rdO, rdP, okParts, eqCells, okEqCells, fillA, okFill, setAt, implies_true, forall_const, forall_eq, ne_eq, exists_eq_right_right, exists_eq_right, exists_eq_left, exists_eq_left', eRune, f0, f3, f4, f5]
          repeat' (first | ((with_reducible refine Br.dec (fun _ => ?_) (fun _ => ?_)) <;> try (exfalso; omega)) | ((with_reducible refine Br.eq (fun _ => ?_) (fun _ => ?_)) <;> try (exfalso; omega)) | ((with_reducible refine Br.ne (fun _ => ?_) (fun _ => ?_)) <;> try (exfalso; omega)) | with_reducible refine Br.intro (fun _ => ?_) (fun _ => ?_) | (with_reducible refine And.intro ?_ ?_; · omega) | simp -dsimp -implicitDefEqProofs (disch := omega) only [↓vcOps_sp 18, ↓vcD_sp 18, ↓vcOps_sp 24, ↓vcD_sp 24, VCA, pg_gl, ↓upd_none, Nat.reduceEqDiff, Nat.reduceBEq, Nat.reduceAdd, Nat.reduceSub, Nat.reduceMul, Nat.reduceLT, Nat.reduceLeDiff, ↓reduceIte, reduceCtorEq, rsOf, rootsOf, SOp.rd, SI.rd, SX.rd, rdL, rdO, rdP, okParts, eqCells, okEqCells, fillA, okFill, setAt, implies_true, forall_const, forall_eq, ne_eq, exists_eq_right_right, exists_eq_right, exists_eq_left, exists_eq_left', eRune, f0, f3, f4, f5])
          refine LoopVC.intro (fun m e1 h1 => ∃ i : Nat, m = 3 - i ∧ 1 ≤ i ∧ i ≤ 3 ∧ e1 0 = .str t ∧ e1 3 = a ∧ e1 5 = aInt (3 : Nat) ∧ e1 6 = aInt (valM t 3 i) ∧ e1 7 = aInt i ∧ h1 = h'') _ ⟨1, rfl, by omega, by omega, f0, f3, f5, ?_, rfl, rfl⟩ ?_
          · rfl
          · rintro m e1 h1' ⟨i, rfl, hi1, hi2, k0, k3, k5, k6, k7, rfl⟩
            have hbi : 0 ≤ ((t.getD i 0).toNat : Int) ∧ ((t.getD i 0).toNat : Int) < 256 := bt_byte t i
            have hvi := hv i (by omega)
            have hvs : i < 3 → valM t 3 (i + 1) = 64 * valM t 3 i + bt t i - 128 := fun _ => by
              obtain ⟨j, rfl⟩ : ∃ j, i = j + 1 := ⟨i - 1, by omega⟩
              rfl
            simp -dsimp -implicitDefEqProofs (disch := omega) only [↓vcOps_sp 18, ↓vcD_sp 18, ↓vcOps_sp 24, ↓vcD_sp 24, VCA, pg_gl, ↓upd_none, Nat.reduceEqDiff, Nat.reduceBEq, Nat.reduceAdd, Nat.reduceSub, Nat.reduceMul, Nat.reduceLT, Nat.reduceLeDiff, ↓reduceIte, reduceCtorEq, rsOf, rootsOf, SOp.rd, SI.rd, SX.rd, rdL, rdO, rdP, okParts, eqCells, okEqCells, fillA, okFill, setAt, implies_true, forall_const, forall_eq, ne_eq, exists_eq_right_right, exists_eq_right, exists_eq_left, exists_eq_left', eRune, k0, k3, k5, k6, k7]
            repeat' (first | ((with_reducible refine Br.dec (fun _ => ?_) (fun _ => ?_)) <;> try (exfalso; omega)) | ((with_reducible refine Br.eq (fun _ => ?_) (fun _ => ?_)) <;> try (exfalso; omega)) | ((with_reducible refine Br.ne (fun _ => ?_) (fun _ => ?_)) <;> try (exfalso; omega)) | with_reducible refine Br.intro (fun _ => ?_) (fun _ => ?_) | (with_reducible refine And.intro ?_ ?_; · omega) | simp -dsimp -implicitDefEqProofs (disch := omega) only [↓vcOps_sp 18, ↓vcD_sp 18, ↓vcOps_sp 24, ↓vcD_sp 24, VCA, pg_gl, ↓upd_none, Nat.reduceEqDiff, Nat.reduceBEq, Nat.reduceAdd, Nat.reduceSub, Nat.reduceMul, Nat.reduceLT, Nat.reduceLeDiff, ↓reduceIte, reduceCtorEq, rsOf, rootsOf, SOp.rd, SI.rd, SX.rd, rdL, rdO, rdP, okParts, eqCells, okEqCells, fillA, okFill, setAt, implies_true, forall_const, forall_eq, ne_eq, exists_eq_right_right, exists_eq_right, exists_eq_left, exists_eq_left', eRune, k0, k3, k5, k6, k7])
            · refine ⟨_, ?_, i + 1, rfl, by omega, by omega, ?_, by omega⟩
              · omega
              · rw [hvs (by omega)]
                rfl
            all_goals (
              obtain rfl : i = 3 := by omega
              have hw : IntKind.i32.wrap (valM t 3 3) = valM t 3 3 := by rw [IntKind.wrap_i32]; omega
              rw [hw]
              refine A.app S (by simp; omega) (by simp; omega) fun a' h3 A' S' => ?_
              simp -dsimp -implicitDefEqProofs (disch := omega) only [↓vcOps_sp 18, ↓vcD_sp 18, ↓vcOps_sp 24, ↓vcD_sp 24, VCA, pg_gl, ↓upd_none, Nat.reduceEqDiff, Nat.reduceBEq, Nat.reduceAdd, Nat.reduceSub, Nat.reduceMul, Nat.reduceLT, Nat.reduceLeDiff, ↓reduceIte, reduceCtorEq, rsOf, rootsOf, SOp.rd, SI.rd, SX.rd, rdL, rdO, rdP, okParts, eqCells, okEqCells, fillA, okFill, setAt, implies_true, forall_const, forall_eq, ne_eq, exists_eq_right_right, exists_eq_right, exists_eq_left, exists_eq_left', eRune, k0, k3, k5, k6, k7]
              refine ⟨by omega, _, ?_, t.drop 3, d ++ [valM t 3 3], rfl, ?_, ?_, ?_, S', ?_⟩
              · rw [List.length_drop]; omega
              · rw [List.length_drop, List.length_append, List.length_singleton]; omega
              · rfl
              · simpa [eRune] using A'
              · rw [← hD]; simp)
        · simp -dsimp -implicitDefEqProofs (disch := omega) only [↓vcOps_sp 18, ↓vcD_sp 18, ↓vcOps_sp 24, ↓vcD_sp 24, VCA, pg_gl, ↓upd_none, Nat.reduceEqDiff, Nat.reduceBEq, Nat.reduceAdd, Nat.reduceSub, Nat.reduceMul, Nat.reduceLT, Nat.reduceLeDiff, ↓reduceIte, reduceCtorEq, rsOf, rootsOf, SOp.rd, SI.rd, SX.rd, rdL, rdO, rdP, okParts, eqCells, okEqCells, fillA, okFill, setAt, implies_true, forall_const, forall_eq, ne_eq, exists_eq_right_right, exists_eq_right, exists_eq_left, exists_eq_left', eRune, f0, f3, f4, f5]
          repeat' (first | ((with_reducible refine Br.dec (fun _ => ?_) (fun _ => ?_)) <;> try (exfalso; omega)) | ((with_reducible refine Br.eq (fun _ => ?_) (fun _ => ?_)) <;> try (exfalso; omega)) | ((with_reducible refine Br.ne (fun _ => ?_) (fun _ => ?_)) <;> try (exfalso; omega)) | with_reducible refine Br.intro (fun _ => ?_) (fun _ => ?_) | (with_reducible refine And.intro ?_ ?_; · omega) | simp -dsimp -implicitDefEqProofs (disch := omega) only [↓vcOps_sp 18, ↓vcD_sp 18, ↓vcOps_sp 24, ↓vcD_sp 24, VCA, pg_gl, ↓upd_none, Nat.reduceEqDiff, Nat.reduceBEq, Nat.reduceAdd, Nat.reduceSub, Nat.reduceMul, Nat.reduceLT, Nat.reduceLeDiff, ↓reduceIte, reduceCtorEq, rsOf, rootsOf, SOp.rd, SI.rd, SX.rd, rdL, rdO, rdP, okParts, eqCells, okEqCells, fillA, okFill, setAt, implies_true, forall_const, forall_eq, ne_eq, exists_eq_right_right, exists_eq_right, exists_eq_left, exists_eq_left', eRune, f0, f3, f4, f5])
          refine LoopVC.intro (fun m e1 h1 => ∃ i : Nat, m = 4 - i ∧ 1 ≤ i ∧ i ≤ 4 ∧ e1 0 = .str t ∧ e1 3 = a ∧ e1 5 = aInt (4 : Nat) ∧ e1 6 = aInt (valM t 4 i) ∧ e1 7 = aInt i ∧ h1 = h'') _ ⟨1, rfl, by omega, by omega, f0, f3, f5, ?_, rfl, rfl⟩ ?_
          · rfl
          · rintro m e1 h1' ⟨i, rfl, hi1, hi2, k0, k3, k5, k6, k7, rfl⟩
            have hbi : 0 ≤ ((t.getD i 0).toNat : Int) ∧ ((t.getD i 0).toNat : Int) < 256 := bt_byte t i
            have hvi := hv i (by omega)
            have hvs : i < 4 → valM t 4 (i + 1) = 64 * valM t 4 i + bt t i - 128 := fun _ => by
              obtain ⟨j, rfl⟩ : ∃ j, i = j + 1 := ⟨i - 1, by omega⟩
              rfl
            simp -dsimp -implicitDefEqProofs (disch := omega) only [↓vcOps_sp 18, ↓vcD_sp 18, ↓vcOps_sp 24, ↓vcD_sp 24, VCA, pg_gl, ↓upd_none, Nat.reduceEqDiff, Nat.reduceBEq, Nat.reduceAdd, Nat.reduceSub, Nat.reduceMul, Nat.reduceLT, Nat.reduceLeDiff, ↓reduceIte, reduceCtorEq, rsOf, rootsOf, SOp.rd, SI.rd, SX.rd, rdL, rdO, rdP, okParts, eqCells, okEqCells, fillA, okFill, setAt, implies_true, forall_const, forall_eq, ne_eq, exists_eq_right_right, exists_eq_right, exists_eq_left, exists_eq_left', eRune, k0, k3, k5, k6, k7]
            repeat' (first | ((with_reducible refine Br.dec (fun _ => ?_) (fun _ => ?_)) <;> try (exfalso; omega)) | ((with_reducible refine Br.eq (fun _ => ?_) (fun _ => ?_)) <;> try (exfalso; omega)) | ((with_reducible refine Br.ne (fun _ => ?_) (fun _ => ?_)) <;> try (exfalso; omega)) | with_reducible refine Br.intro (fun _ => ?_) (fun _ => ?_) | (with_reducible refine And.intro ?_ ?_; · omega) | simp -dsimp -implicitDefEqProofs (disch := omega) only [↓vcOps_sp 18, ↓vcD_sp 18, ↓vcOps_sp 24, ↓vcD_sp 24, VCA, pg_gl, ↓upd_none, Nat.reduceEqDiff, Nat.reduceBEq, Nat.reduceAdd, Nat.reduceSub, Nat.reduceMul, Nat.reduceLT, Nat.reduceLeDiff, ↓reduceIte, reduceCtorEq, rsOf, rootsOf, SOp.rd, SI.rd, SX.rd, rdL, rdO, rdP, okParts, eqCells, okEqCells, fillA, okFill, setAt, implies_true, forall_const, forall_eq, ne_eq, exists_eq_right_right, exists_eq_right, exists_eq_left, exists_eq_left', eRune, k0, k3, k5, k6, k7])
            · refine ⟨_, ?_, i + 1, rfl, by omega, by omega, ?_, by omega⟩
              · omega
              · rw [hvs (by omega)]
                rfl
            all_goals (
              obtain rfl : i = 4 := by omega
              have hw : IntKind.i32.wrap (valM t 4 4) = valM t 4 4 := by rw [IntKind.wrap_i32]; omega
              rw [hw]
              refine A.app S (by simp; omega) (by simp; omega) fun a' h3 A' S' => ?_
              simp -dsimp -implicitDefEqProofs (disch := omega) only [↓vcOps_sp 18, ↓vcD_sp 18, ↓vcOps_sp 24, ↓vcD_sp 24, VCA, pg_gl, ↓upd_none, Nat.reduceEqDiff, Nat.reduceBEq, Nat.reduceAdd, Nat.reduceSub, Nat.reduceMul, Nat.reduceLT, Nat.reduceLeDiff, ↓reduceIte, reduceCtorEq, rsOf, rootsOf, SOp.rd, SI.rd, SX.rd, rdL, rdO, rdP, okParts, eqCells, okEqCells, fillA, okFill, setAt, implies_true, forall_const, forall_eq, ne_eq, exists_eq_right_right, exists_eq_right, exists_eq_left, exists_eq_left', eRune, k0, k3, k5, k6, k7]
              refine ⟨by omega, _, ?_, t.drop 4, d ++ [valM t 4 4], rfl, ?_, ?_, ?_, S', ?_⟩
              · rw [List.length_drop]; omega
              · rw [List.length_drop, List.length_append, List.length_singleton]; omega
              · rfl
              · simpa [eRune] using A'
              · rw [← hD]; simp)
  · have ht : t = [] := List.length_eq_zero_iff.1 (by omega)
    subst ht
    rw [decD_nil, List.append_nil] at hD
    subst hD
    simp -dsimp -implicitDefEqProofs (disch := omega) only [↓vcOps_sp 18, ↓vcD_sp 18, ↓vcOps_sp 24, ↓vcD_sp 24, VCA, pg_gl, ↓upd_none, Nat.reduceEqDiff, Nat.reduceBEq, Nat.reduceAdd, Nat.reduceSub, Nat.reduceMul, Nat.reduceLT, Nat.reduceLeDiff, ↓reduceIte, reduceCtorEq, rsOf, rootsOf, SOp.rd, SI.rd, SX.rd, rdL, rdO, rdP, okParts, eqCells, okEqCells, fillA, okFill, setAt, implies_true, forall_const, forall_eq, ne_eq, exists_eq_right_right, exists_eq_right, exists_eq_left, exists_eq_left', eRune]
    exact ⟨_, Sub.refl _, A, S⟩
end Go.Proofs.K
