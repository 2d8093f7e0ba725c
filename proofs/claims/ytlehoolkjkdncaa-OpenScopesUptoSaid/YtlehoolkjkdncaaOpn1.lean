import Derived.Test.YtlehoolkjkdncaaStr
set_option linter.unusedSimpArgs false
set_option linter.unusedVariables false
namespace Go.Proofs.K
open Go Go.Sim Go.Proofs
variable {G : Glob}

theorem aIdxN (c : UInt8) (n : Nat) (h : n < 256) : (((c.toNat : Nat) : Int) == n) = (c == UInt8.ofNat n) := by
  rw [Bool.eq_iff_iff, beq_iff_eq, beq_iff_eq, byte_eq c n h]
/-! ## One -/
def oneM (nm l : List UInt8) : Bool := nm != [] && (!(decide (32 ∈ nm)) && Lib.contains l ([32] ++ nm ++ [32]))
def c69 : SFun := ⟨(.seq (.reg [⟨(some 4), (.mv (.c (.bool false))), none⟩]) (.seq (.reg [⟨(some 5), (.mv (.t 0)), none⟩, ⟨(some 6), (.bin .neq (.t 5) (.c (.str []))), none⟩, ⟨(some 7), (.mv (.t 6)), none⟩, ⟨(some 8), (.mv (.t 0)), (some (7, true))⟩, ⟨(some 9), (.pcall 98 [(.t 8), (.c (.str [32]))]), (some (7, true))⟩, ⟨(some 10), (.un .not (.t 9)), (some (7, true))⟩, ⟨(some 11), (.pick (.t 7) (.t 10) (.c (.bool false))), none⟩, ⟨(some 12), (.mv (.t 11)), none⟩, ⟨(some 13), (.mv (.t 1)), (some (12, true))⟩, ⟨(some 14), (.mv (.t 0)), (some (12, true))⟩, ⟨(some 15), (.bin .add (.c (.str [32])) (.t 14)), (some (12, true))⟩, ⟨(some 16), (.bin .add (.t 15) (.c (.str [32]))), (some (12, true))⟩, ⟨(some 17), (.pcall 98 [(.t 13), (.t 16)]), (some (12, true))⟩, ⟨(some 18), (.pick (.t 12) (.t 17) (.c (.bool false))), none⟩, ⟨(some 4), (.mv (.t 18)), none⟩]) .ret)), [(.tmp 4)]⟩
theorem hc69 : toSF Try.prog {pure := [98]} Try.f69 = some c69 := by kernel_rfl
theorem hn69 : (Try.f69.name == "runtime.NumGoroutine") = false := by kernel_rfl
theorem one_ok (hG : MaxLenOK G) (nm l : List UInt8) (hn : nm.length < 4294967281) (hl : l.length < 4294967281) : PCalls (Pg G) 69 [.str nm, .str l] (.bool (oneM nm l)) := by
  intro h
  refine dcalls_of_vc Try.func69 hn69 hc69 (by rw [Try.ntmps69]; simp) (by rw [Try.ntmps69]; decide) ?_
  simp -dsimp -implicitDefEqProofs (disch := omega) only [↓vcOps_sp 7, ↓vcD_sp 7, ↓vcOps_sp 12, ↓vcD_sp 12, VC1, VC2, VC3, VC4, VC5, VC6, VC7, VC8, VC9, VC10, VC11, VC12, VC13, VC14, VC15, VC16, VC17, VC18, VC19, VC20, pg_gl, ↓upd_none, Nat.reduceEqDiff, Nat.reduceBEq, Nat.reduceAdd, Nat.reduceSub, Nat.reduceMul, Nat.reduceLT, Nat.reduceLeDiff, ↓reduceIte, reduceCtorEq, rsOf, rootsOf, SOp.rd, SI.rd, SX.rd, rdL, rdO, rdP, okParts, eqCells, okEqCells, fillA, okFill, setAt, implies_true, forall_const, forall_eq, ne_eq, exists_eq_right_right, exists_eq_right, exists_eq_left, exists_eq_left', eStr, c69]
  refine Br.ne (fun h1 => ?_) (fun h1 => ?_)
  · simp -dsimp -implicitDefEqProofs (disch := omega) only [↓vcOps_sp 7, ↓vcD_sp 7, ↓vcOps_sp 12, ↓vcD_sp 12, VC1, VC2, VC3, VC4, VC5, VC6, VC7, VC8, VC9, VC10, VC11, VC12, VC13, VC14, VC15, VC16, VC17, VC18, VC19, VC20, pg_gl, ↓upd_none, Nat.reduceEqDiff, Nat.reduceBEq, Nat.reduceAdd, Nat.reduceSub, Nat.reduceMul, Nat.reduceLT, Nat.reduceLeDiff, ↓reduceIte, reduceCtorEq, rsOf, rootsOf, SOp.rd, SI.rd, SX.rd, rdL, rdO, rdP, okParts, eqCells, okEqCells, fillA, okFill, setAt, implies_true, forall_const, forall_eq, ne_eq, exists_eq_right_right, exists_eq_right, exists_eq_left, exists_eq_left', eStr]
    refine pcallE.of (contains_ok hG nm [32] hn) ?_; simp -dsimp -implicitDefEqProofs (disch := omega) only [↓vcOps_sp 7, ↓vcD_sp 7, ↓vcOps_sp 12, ↓vcD_sp 12, VC1, VC2, VC3, VC4, VC5, VC6, VC7, VC8, VC9, VC10, VC11, VC12, VC13, VC14, VC15, VC16, VC17, VC18, VC19, VC20, pg_gl, ↓upd_none, Nat.reduceEqDiff, Nat.reduceBEq, Nat.reduceAdd, Nat.reduceSub, Nat.reduceMul, Nat.reduceLT, Nat.reduceLeDiff, ↓reduceIte, reduceCtorEq, rsOf, rootsOf, SOp.rd, SI.rd, SX.rd, rdL, rdO, rdP, okParts, eqCells, okEqCells, fillA, okFill, setAt, implies_true, forall_const, forall_eq, ne_eq, exists_eq_right_right, exists_eq_right, exists_eq_left, exists_eq_left', eStr, contains_one]
    refine Br.intro (fun h2 => ?_) (fun h2 => ?_)
    · simp -dsimp -implicitDefEqProofs (disch := omega) only [↓vcOps_sp 7, ↓vcD_sp 7, ↓vcOps_sp 12, ↓vcD_sp 12, VC1, VC2, VC3, VC4, VC5, VC6, VC7, VC8, VC9, VC10, VC11, VC12, VC13, VC14, VC15, VC16, VC17, VC18, VC19, VC20, pg_gl, ↓upd_none, Nat.reduceEqDiff, Nat.reduceBEq, Nat.reduceAdd, Nat.reduceSub, Nat.reduceMul, Nat.reduceLT, Nat.reduceLeDiff, ↓reduceIte, reduceCtorEq, rsOf, rootsOf, SOp.rd, SI.rd, SX.rd, rdL, rdO, rdP, okParts, eqCells, okEqCells, fillA, okFill, setAt, implies_true, forall_const, forall_eq, ne_eq, exists_eq_right_right, exists_eq_right, exists_eq_left, exists_eq_left', eStr]
      refine ⟨by omega, by omega, ?_⟩
      refine pcallE.of (contains_ok hG l _ hl) ?_; simp -dsimp -implicitDefEqProofs (disch := omega) only [↓vcOps_sp 7, ↓vcD_sp 7, ↓vcOps_sp 12, ↓vcD_sp 12, VC1, VC2, VC3, VC4, VC5, VC6, VC7, VC8, VC9, VC10, VC11, VC12, VC13, VC14, VC15, VC16, VC17, VC18, VC19, VC20, pg_gl, ↓upd_none, Nat.reduceEqDiff, Nat.reduceBEq, Nat.reduceAdd, Nat.reduceSub, Nat.reduceMul, Nat.reduceLT, Nat.reduceLeDiff, ↓reduceIte, reduceCtorEq, rsOf, rootsOf, SOp.rd, SI.rd, SX.rd, rdL, rdO, rdP, okParts, eqCells, okEqCells, fillA, okFill, setAt, implies_true, forall_const, forall_eq, ne_eq, exists_eq_right_right, exists_eq_right, exists_eq_left, exists_eq_left', eStr]
      exact ⟨Sub.refl _, by simp [contains_one] at h2; simp only [oneM, bne_iff_ne.2 h1, h2, decide_false, Bool.not_false, Bool.true_and, List.cons_append, List.nil_append]⟩
    · simp -dsimp -implicitDefEqProofs (disch := omega) only [↓vcOps_sp 7, ↓vcD_sp 7, ↓vcOps_sp 12, ↓vcD_sp 12, VC1, VC2, VC3, VC4, VC5, VC6, VC7, VC8, VC9, VC10, VC11, VC12, VC13, VC14, VC15, VC16, VC17, VC18, VC19, VC20, pg_gl, ↓upd_none, Nat.reduceEqDiff, Nat.reduceBEq, Nat.reduceAdd, Nat.reduceSub, Nat.reduceMul, Nat.reduceLT, Nat.reduceLeDiff, ↓reduceIte, reduceCtorEq, rsOf, rootsOf, SOp.rd, SI.rd, SX.rd, rdL, rdO, rdP, okParts, eqCells, okEqCells, fillA, okFill, setAt, implies_true, forall_const, forall_eq, ne_eq, exists_eq_right_right, exists_eq_right, exists_eq_left, exists_eq_left', eStr]
      exact ⟨Sub.refl _, by simp [contains_one] at h2; simp [oneM, h2]⟩
  · simp -dsimp -implicitDefEqProofs (disch := omega) only [↓vcOps_sp 7, ↓vcD_sp 7, ↓vcOps_sp 12, ↓vcD_sp 12, VC1, VC2, VC3, VC4, VC5, VC6, VC7, VC8, VC9, VC10, VC11, VC12, VC13, VC14, VC15, VC16, VC17, VC18, VC19, VC20, pg_gl, ↓upd_none, Nat.reduceEqDiff, Nat.reduceBEq, Nat.reduceAdd, Nat.reduceSub, Nat.reduceMul, Nat.reduceLT, Nat.reduceLeDiff, ↓reduceIte, reduceCtorEq, rsOf, rootsOf, SOp.rd, SI.rd, SX.rd, rdL, rdO, rdP, okParts, eqCells, okEqCells, fillA, okFill, setAt, implies_true, forall_const, forall_eq, ne_eq, exists_eq_right_right, exists_eq_right, exists_eq_left, exists_eq_left', eStr]
    first | exact Sub.refl _ | exact ⟨Sub.refl _, by simp [oneM, h1]⟩
theorem oneM_split (s nm : List UInt8) (hs : [] ∉ splitB 32 [] s) : oneM nm (32 :: (s ++ [32])) = (splitB 32 [] s).any (· == nm) := by
  rw [Bool.eq_iff_iff, oneM, Bool.and_eq_true, Bool.and_eq_true, Bool.not_eq_true', decide_eq_false_iff_not, bne_iff_ne, List.any_beq', List.contains_iff_mem]
  constructor
  · rintro ⟨h1, h2, h3⟩
    exact (split_mem 32 nm s h2).1 h3
  · intro h
    have h2 := splitB_no 32 s nm h
    exact ⟨fun e => hs (e ▸ h), h2, (split_mem 32 nm s h2).2 h⟩
/-! ## Word -/
def c99 : SFun := ⟨(.seq (.reg [⟨(some 2), (.mv (.c .emp)), none⟩]) (.seq (.reg [⟨(some 3), (.mv (.c .emp)), none⟩]) (.seq (.reg [⟨(some 4), (.mv (.c (.int .i64 (0)))), none⟩]) (.seq (.seq (.reg [⟨(some 5), (.mv (.c (.int .i64 (0)))), none⟩]) (.block 0 (.loop (.seq (.seq (.reg [⟨(some 6), (.mv (.t 5)), none⟩, ⟨(some 7), (.mv (.t 0)), none⟩, ⟨(some 8), (.lenS (.t 7)), none⟩, ⟨(some 9), (.bin .leq (.t 6) (.t 8)), none⟩]) (.cond (.t 9) .skip (.exit 0))) (.seq (.block 1 (.seq (.reg [⟨(some 12), (.mv (.t 5)), none⟩, ⟨(some 13), (.mv (.t 0)), none⟩, ⟨(some 14), (.lenS (.t 13)), none⟩, ⟨(some 15), (.bin .eql (.t 12) (.t 14)), none⟩, ⟨(some 16), (.mv (.t 15)), none⟩, ⟨(some 17), (.mv (.t 0)), (some (16, false))⟩, ⟨(some 18), (.mv (.t 5)), (some (16, false))⟩, ⟨(some 19), (.idxS (.t 17) (.t 18)), (some (16, false))⟩, ⟨(some 20), (.bin .eql (.t 19) (.c (.int .u8 (32)))), (some (16, false))⟩, ⟨(some 21), (.pick (.t 16) (.c (.bool true)) (.t 20)), none⟩]) (.cond (.t 21) (.seq (.reg [⟨(some 22), (.mv (.t 3)), none⟩, ⟨(some 23), (.mv (.t 0)), none⟩, ⟨(some 24), (.mv (.t 4)), none⟩, ⟨(some 25), (.mv (.t 5)), none⟩, ⟨(some 26), (.slS (.t 23) (some (.t 24)) (some (.t 25))), none⟩, ⟨(some 27), (.bldF 9 1 [(.t 26)]), none⟩, ⟨(some 28), (.app 9 1 16 (.t 22) (.t 27)), none⟩, ⟨(some 3), (.mv (.t 28)), none⟩]) (.reg [⟨(some 29), (.mv (.t 5)), none⟩, ⟨(some 30), (.bin .add (.t 29) (.c (.int .i64 (1)))), none⟩, ⟨(some 4), (.mv (.t 30)), none⟩])) .skip))) (.reg [⟨(some 10), (.mv (.t 5)), none⟩, ⟨(some 11), (.bin .add (.t 10) (.c (.int .i64 (1)))), none⟩, ⟨(some 5), (.mv (.t 11)), none⟩])))))) (.seq (.reg [⟨(some 31), (.mv (.t 3)), none⟩, ⟨(some 2), (.mv (.t 31)), none⟩]) .ret))))), [(.tmp 2)]⟩
theorem hc99 : toSF Try.prog {} Try.f99 = some c99 := by kernel_rfl
theorem hn99 : (Try.f99.name == "runtime.NumGoroutine") = false := by kernel_rfl
theorem words_ok (s : List UInt8) (hs : s.length ≤ 1073741824) : PCalls (Pg G) 99 [.str s] (sl eStr (splitB 32 [] s)) := PCalls.acc (ty := 9) (sz := 1) fun h => by
  refine dcalls_of_vc Try.func99 hn99 hc99 (by rw [Try.ntmps99]; simp) (by rw [Try.ntmps99]; decide) ?_
  simp -dsimp -implicitDefEqProofs (disch := omega) only [↓vcOps_sp 16, ↓vcD_sp 16, VC1, VC2, VC3, VC4, VC5, VC6, VC7, VC8, VC9, VC10, VC11, VC12, VC13, VC14, VC15, VC16, VC17, VC18, VC19, VC20, pg_gl, ↓upd_none, Nat.reduceEqDiff, Nat.reduceBEq, Nat.reduceAdd, Nat.reduceSub, Nat.reduceMul, Nat.reduceLT, Nat.reduceLeDiff, ↓reduceIte, reduceCtorEq, rsOf, rootsOf, SOp.rd, SI.rd, SX.rd, rdL, rdO, rdP, okParts, eqCells, okEqCells, fillA, okFill, setAt, implies_true, forall_const, forall_eq, ne_eq, exists_eq_right_right, exists_eq_right, exists_eq_left, exists_eq_left', eStr, c99]
  refine LoopVC.intro (fun m e h' => ∃ (k f : Nat) (out : List (List UInt8)), k ≤ s.length + 1 ∧ f ≤ k ∧ out.length ≤ k ∧ m = s.length + 1 - k ∧ e 0 = .str s ∧ e 4 = aInt f ∧ e 5 = aInt k ∧ Acc h 9 1 (out.map eStr) (e 3) h' ∧ Sub h h' ∧
      (k ≤ s.length → out ++ splitB 32 ((s.take k).drop f) (s.drop k) = splitB 32 [] s) ∧ (k = s.length + 1 → out = splitB 32 [] s)) (s.length + 1) ⟨0, 0, [], by omega, by omega, by simp, rfl, rfl, rfl, rfl, Acc.nil, Sub.refl _, by simp, fun h => by omega⟩ ?_
  rintro m e h' ⟨k, f, out, hk, hf, ho, rfl, he0, he4, he5, A, S, hr, hd⟩
  simp -dsimp -implicitDefEqProofs (disch := omega) only [↓vcOps_sp 16, ↓vcD_sp 16, VC1, VC2, VC3, VC4, VC5, VC6, VC7, VC8, VC9, VC10, VC11, VC12, VC13, VC14, VC15, VC16, VC17, VC18, VC19, VC20, pg_gl, ↓upd_none, Nat.reduceEqDiff, Nat.reduceBEq, Nat.reduceAdd, Nat.reduceSub, Nat.reduceMul, Nat.reduceLT, Nat.reduceLeDiff, ↓reduceIte, reduceCtorEq, rsOf, rootsOf, SOp.rd, SI.rd, SX.rd, rdL, rdO, rdP, okParts, eqCells, okEqCells, fillA, okFill, setAt, implies_true, forall_const, forall_eq, ne_eq, exists_eq_right_right, exists_eq_right, exists_eq_left, exists_eq_left', eStr, he0, he4, he5]
  refine Br.dec (fun h1 => ?_) (fun h1 => ?_)
  · simp -dsimp -implicitDefEqProofs (disch := omega) only [↓vcOps_sp 16, ↓vcD_sp 16, VC1, VC2, VC3, VC4, VC5, VC6, VC7, VC8, VC9, VC10, VC11, VC12, VC13, VC14, VC15, VC16, VC17, VC18, VC19, VC20, pg_gl, ↓upd_none, Nat.reduceEqDiff, Nat.reduceBEq, Nat.reduceAdd, Nat.reduceSub, Nat.reduceMul, Nat.reduceLT, Nat.reduceLeDiff, ↓reduceIte, reduceCtorEq, rsOf, rootsOf, SOp.rd, SI.rd, SX.rd, rdL, rdO, rdP, okParts, eqCells, okEqCells, fillA, okFill, setAt, implies_true, forall_const, forall_eq, ne_eq, exists_eq_right_right, exists_eq_right, exists_eq_left, exists_eq_left', eStr, he0, he4, he5]
    have hr := hr (by omega)
    refine Br.eq (fun h2 => ?_) (fun h2 => ?_)
    · obtain rfl : k = s.length := by omega
      simp -dsimp -implicitDefEqProofs (disch := omega) only [↓vcOps_sp 16, ↓vcD_sp 16, VC1, VC2, VC3, VC4, VC5, VC6, VC7, VC8, VC9, VC10, VC11, VC12, VC13, VC14, VC15, VC16, VC17, VC18, VC19, VC20, pg_gl, ↓upd_none, Nat.reduceEqDiff, Nat.reduceBEq, Nat.reduceAdd, Nat.reduceSub, Nat.reduceMul, Nat.reduceLT, Nat.reduceLeDiff, ↓reduceIte, reduceCtorEq, rsOf, rootsOf, SOp.rd, SI.rd, SX.rd, rdL, rdO, rdP, okParts, eqCells, okEqCells, fillA, okFill, setAt, implies_true, forall_const, forall_eq, ne_eq, exists_eq_right_right, exists_eq_right, exists_eq_left, exists_eq_left', eStr, he0, he4, he5]
      refine ⟨by omega, ?_⟩
      refine A.app S (by simp; omega) (by simp; omega) fun a' h3 A' S' => ?_
      simp -dsimp -implicitDefEqProofs (disch := omega) only [↓vcOps_sp 16, ↓vcD_sp 16, VC1, VC2, VC3, VC4, VC5, VC6, VC7, VC8, VC9, VC10, VC11, VC12, VC13, VC14, VC15, VC16, VC17, VC18, VC19, VC20, pg_gl, ↓upd_none, Nat.reduceEqDiff, Nat.reduceBEq, Nat.reduceAdd, Nat.reduceSub, Nat.reduceMul, Nat.reduceLT, Nat.reduceLeDiff, ↓reduceIte, reduceCtorEq, rsOf, rootsOf, SOp.rd, SI.rd, SX.rd, rdL, rdO, rdP, okParts, eqCells, okEqCells, fillA, okFill, setAt, implies_true, forall_const, forall_eq, ne_eq, exists_eq_right_right, exists_eq_right, exists_eq_left, exists_eq_left', eStr, he0, he4, he5]
      refine ⟨_, ?_, s.length + 1, s.length + 1, out ++ [s.drop f], by omega, by omega, by simp; omega, rfl, rfl, rfl, by simpa [eStr] using A', S', by omega, fun _ => ?_⟩
      · omega
      · rw [← hr]; simp [splitB]
    · simp -dsimp -implicitDefEqProofs (disch := omega) only [↓vcOps_sp 16, ↓vcD_sp 16, VC1, VC2, VC3, VC4, VC5, VC6, VC7, VC8, VC9, VC10, VC11, VC12, VC13, VC14, VC15, VC16, VC17, VC18, VC19, VC20, pg_gl, ↓upd_none, Nat.reduceEqDiff, Nat.reduceBEq, Nat.reduceAdd, Nat.reduceSub, Nat.reduceMul, Nat.reduceLT, Nat.reduceLeDiff, ↓reduceIte, reduceCtorEq, rsOf, rootsOf, SOp.rd, SI.rd, SX.rd, rdL, rdO, rdP, okParts, eqCells, okEqCells, fillA, okFill, setAt, implies_true, forall_const, forall_eq, ne_eq, exists_eq_right_right, exists_eq_right, exists_eq_left, exists_eq_left', eStr, he0, he4, he5]
      refine ⟨by omega, ?_⟩
      have hks : k < s.length := by omega
      have hdk : s.drop k = s.getD k 0 :: s.drop (k + 1) := by
        rw [List.drop_eq_getElem_cons hks]; congr 1; simp [List.getD_eq_getElem?_getD, List.getElem?_eq_getElem hks]
      rw [hdk] at hr
      have htk : (s.take (k + 1)).drop f = (s.take k).drop f ++ [s.getD k 0] := by
        rw [List.take_add_one, List.getElem?_eq_getElem hks, List.drop_append_of_le_length (by simp; omega)]
        simp [List.getD_eq_getElem?_getD, List.getElem?_eq_getElem hks]
      refine Br.eq (fun h3 => ?_) (fun h3 => ?_)
      · have h3' : s.getD k 0 = 32 := (byte_eq _ 32 (by omega)).mp h3
        simp -dsimp -implicitDefEqProofs (disch := omega) only [↓vcOps_sp 16, ↓vcD_sp 16, VC1, VC2, VC3, VC4, VC5, VC6, VC7, VC8, VC9, VC10, VC11, VC12, VC13, VC14, VC15, VC16, VC17, VC18, VC19, VC20, pg_gl, ↓upd_none, Nat.reduceEqDiff, Nat.reduceBEq, Nat.reduceAdd, Nat.reduceSub, Nat.reduceMul, Nat.reduceLT, Nat.reduceLeDiff, ↓reduceIte, reduceCtorEq, rsOf, rootsOf, SOp.rd, SI.rd, SX.rd, rdL, rdO, rdP, okParts, eqCells, okEqCells, fillA, okFill, setAt, implies_true, forall_const, forall_eq, ne_eq, exists_eq_right_right, exists_eq_right, exists_eq_left, exists_eq_left', eStr, he0, he4, he5]
        refine ⟨by omega, ?_⟩
        refine A.app S (by simp; omega) (by simp; omega) fun a' h3 A' S' => ?_
        simp -dsimp -implicitDefEqProofs (disch := omega) only [↓vcOps_sp 16, ↓vcD_sp 16, VC1, VC2, VC3, VC4, VC5, VC6, VC7, VC8, VC9, VC10, VC11, VC12, VC13, VC14, VC15, VC16, VC17, VC18, VC19, VC20, pg_gl, ↓upd_none, Nat.reduceEqDiff, Nat.reduceBEq, Nat.reduceAdd, Nat.reduceSub, Nat.reduceMul, Nat.reduceLT, Nat.reduceLeDiff, ↓reduceIte, reduceCtorEq, rsOf, rootsOf, SOp.rd, SI.rd, SX.rd, rdL, rdO, rdP, okParts, eqCells, okEqCells, fillA, okFill, setAt, implies_true, forall_const, forall_eq, ne_eq, exists_eq_right_right, exists_eq_right, exists_eq_left, exists_eq_left', eStr, he0, he4, he5]
        refine ⟨_, ?_, k + 1, k + 1, out ++ [(s.take k).drop f], by omega, by omega, by simp; omega, rfl, by omega, by omega, by simpa [eStr] using A', S', fun _ => ?_, fun h => ?_⟩
        · omega
        · rw [← hr, splitB, if_pos h3']; simp
        · omega
      · have h3' : ¬ s.getD k 0 = 32 := fun e => h3 ((byte_eq _ 32 (by omega)).mpr e)
        simp -dsimp -implicitDefEqProofs (disch := omega) only [↓vcOps_sp 16, ↓vcD_sp 16, VC1, VC2, VC3, VC4, VC5, VC6, VC7, VC8, VC9, VC10, VC11, VC12, VC13, VC14, VC15, VC16, VC17, VC18, VC19, VC20, pg_gl, ↓upd_none, Nat.reduceEqDiff, Nat.reduceBEq, Nat.reduceAdd, Nat.reduceSub, Nat.reduceMul, Nat.reduceLT, Nat.reduceLeDiff, ↓reduceIte, reduceCtorEq, rsOf, rootsOf, SOp.rd, SI.rd, SX.rd, rdL, rdO, rdP, okParts, eqCells, okEqCells, fillA, okFill, setAt, implies_true, forall_const, forall_eq, ne_eq, exists_eq_right_right, exists_eq_right, exists_eq_left, exists_eq_left', eStr, he0, he4, he5]
        refine ⟨_, ?_, k + 1, f, out, by omega, by omega, by omega, rfl, rfl, by omega, A, S, fun _ => ?_, fun h => ?_⟩
        · omega
        · rw [← hr, splitB, if_neg h3', htk]
        · omega
  · simp -dsimp -implicitDefEqProofs (disch := omega) only [↓vcOps_sp 16, ↓vcD_sp 16, VC1, VC2, VC3, VC4, VC5, VC6, VC7, VC8, VC9, VC10, VC11, VC12, VC13, VC14, VC15, VC16, VC17, VC18, VC19, VC20, pg_gl, ↓upd_none, Nat.reduceEqDiff, Nat.reduceBEq, Nat.reduceAdd, Nat.reduceSub, Nat.reduceMul, Nat.reduceLT, Nat.reduceLeDiff, ↓reduceIte, reduceCtorEq, rsOf, rootsOf, SOp.rd, SI.rd, SX.rd, rdL, rdO, rdP, okParts, eqCells, okEqCells, fillA, okFill, setAt, implies_true, forall_const, forall_eq, ne_eq, exists_eq_right_right, exists_eq_right, exists_eq_left, exists_eq_left', eStr, he0, he4, he5]
    rw [← hd (by omega)]
    exact ⟨_, Sub.refl _, A, S⟩
theorem splitB_len (b : UInt8) (cur s : List UInt8) : (splitB b cur s).length ≤ s.length + 1 := by
  induction s generalizing cur with
  | nil => simp [splitB]
  | cons c r ih => unfold splitB; split <;> simp <;> have := ih [] <;> have := ih (cur ++ [c]) <;> omega
def c70 : SFun := ⟨(.seq (.reg [⟨(some 4), (.mv (.c (.bool false))), none⟩]) (.seq (.reg [⟨(some 7), (.mv (.t 1)), none⟩, ⟨(some 8), (.pcall 99 [(.t 7)]), none⟩, ⟨(some 5), (.mv (.t 8)), none⟩]) (.seq (.seq (.reg [⟨(some 6), (.mv (.c (.int .i64 (0)))), none⟩]) (.block 0 (.loop (.seq (.seq (.reg [⟨(some 9), (.mv (.t 6)), none⟩, ⟨(some 10), (.mv (.t 5)), none⟩, ⟨(some 11), (.len (.t 10)), none⟩, ⟨(some 12), (.bin .lss (.t 9) (.t 11)), none⟩]) (.cond (.t 12) .skip (.exit 0))) (.seq (.block 1 (.seq (.reg [⟨(some 15), (.mv (.t 5)), none⟩, ⟨(some 16), (.mv (.t 6)), none⟩, ⟨(some 17), (.idxA 1 (.t 15) (.t 16)), none⟩, ⟨(some 18), (.ld 1 false (.t 17)), none⟩, ⟨(some 19), (.mv (.t 0)), none⟩, ⟨(some 20), (.bin .eql (.t 18) (.t 19)), none⟩]) (.cond (.t 20) (.seq (.reg [⟨(some 4), (.mv (.c (.bool true))), none⟩]) .ret) .skip))) (.reg [⟨(some 13), (.mv (.t 6)), none⟩, ⟨(some 14), (.bin .add (.t 13) (.c (.int .i64 (1)))), none⟩, ⟨(some 6), (.mv (.t 14)), none⟩])))))) (.seq (.reg [⟨(some 4), (.mv (.c (.bool false))), none⟩]) .ret)))), [(.tmp 4)]⟩
theorem hc70 : toSF Try.prog {pure := [99]} Try.f70 = some c70 := by kernel_rfl
theorem hn70 : (Try.f70.name == "runtime.NumGoroutine") = false := by kernel_rfl
theorem word_ok (nm s : List UInt8) (hs : s.length ≤ 1073741000) : PCalls (Pg G) 70 [.str nm, .str s] (.bool ((splitB 32 [] s).any (· == nm))) := by
  intro h
  refine dcalls_of_vc Try.func70 hn70 hc70 (by rw [Try.ntmps70]; simp) (by rw [Try.ntmps70]; decide) ?_
  simp -dsimp -implicitDefEqProofs (disch := omega) only [VC1, VC2, VC3, VC4, VC5, VC6, VC7, VC8, VC9, VC10, VC11, VC12, VC13, VC14, VC15, VC16, VC17, VC18, VC19, VC20, pg_gl, ↓upd_none, Nat.reduceEqDiff, Nat.reduceBEq, Nat.reduceAdd, Nat.reduceSub, Nat.reduceMul, Nat.reduceLT, Nat.reduceLeDiff, ↓reduceIte, reduceCtorEq, rsOf, rootsOf, SOp.rd, SI.rd, SX.rd, rdL, rdO, rdP, okParts, eqCells, okEqCells, fillA, okFill, setAt, implies_true, forall_const, forall_eq, ne_eq, exists_eq_right_right, exists_eq_right, exists_eq_left, exists_eq_left', eStr, c70]
  refine pcallE.of (words_ok s (by omega)) ?_; simp -dsimp -implicitDefEqProofs (disch := omega) only [VC1, VC2, VC3, VC4, VC5, VC6, VC7, VC8, VC9, VC10, VC11, VC12, VC13, VC14, VC15, VC16, VC17, VC18, VC19, VC20, pg_gl, ↓upd_none, Nat.reduceEqDiff, Nat.reduceBEq, Nat.reduceAdd, Nat.reduceSub, Nat.reduceMul, Nat.reduceLT, Nat.reduceLeDiff, ↓reduceIte, reduceCtorEq, rsOf, rootsOf, SOp.rd, SI.rd, SX.rd, rdL, rdO, rdP, okParts, eqCells, okEqCells, fillA, okFill, setAt, implies_true, forall_const, forall_eq, ne_eq, exists_eq_right_right, exists_eq_right, exists_eq_left, exists_eq_left', eStr]
  have hl := splitB_len 32 [] s
  generalize splitB 32 [] s = l at hl ⊢
  refine LoopVC.intro (fun m e h' => ∃ k : Nat, k ≤ l.length ∧ m = l.length - k ∧ e 0 = .str nm ∧ e 5 = sl eStr l ∧ e 6 = aInt k ∧ h' = h ∧ ∀ j, j < k → (nth l j == nm) = false) _ ⟨0, by omega, rfl, rfl, rfl, rfl, rfl, by omega⟩ ?_
  rintro m e h' ⟨k, hk, rfl, he0, he5, he6, rfl, hj⟩
  simp -dsimp -implicitDefEqProofs (disch := omega) only [VC1, VC2, VC3, VC4, VC5, VC6, VC7, VC8, VC9, VC10, VC11, VC12, VC13, VC14, VC15, VC16, VC17, VC18, VC19, VC20, pg_gl, ↓upd_none, Nat.reduceEqDiff, Nat.reduceBEq, Nat.reduceAdd, Nat.reduceSub, Nat.reduceMul, Nat.reduceLT, Nat.reduceLeDiff, ↓reduceIte, reduceCtorEq, rsOf, rootsOf, SOp.rd, SI.rd, SX.rd, rdL, rdO, rdP, okParts, eqCells, okEqCells, fillA, okFill, setAt, implies_true, forall_const, forall_eq, ne_eq, exists_eq_right_right, exists_eq_right, exists_eq_left, exists_eq_left', eStr, he0, he5, he6]
  refine Br.dec (fun h1 => ?_) (fun h1 => ?_)
  · simp -dsimp -implicitDefEqProofs (disch := omega) only [VC1, VC2, VC3, VC4, VC5, VC6, VC7, VC8, VC9, VC10, VC11, VC12, VC13, VC14, VC15, VC16, VC17, VC18, VC19, VC20, pg_gl, ↓upd_none, Nat.reduceEqDiff, Nat.reduceBEq, Nat.reduceAdd, Nat.reduceSub, Nat.reduceMul, Nat.reduceLT, Nat.reduceLeDiff, ↓reduceIte, reduceCtorEq, rsOf, rootsOf, SOp.rd, SI.rd, SX.rd, rdL, rdO, rdP, okParts, eqCells, okEqCells, fillA, okFill, setAt, implies_true, forall_const, forall_eq, ne_eq, exists_eq_right_right, exists_eq_right, exists_eq_left, exists_eq_left', eStr, he0, he5, he6]
    refine ⟨by omega, Br.eq (fun h2 => ?_) (fun h2 => ?_)⟩
    · simp -dsimp -implicitDefEqProofs (disch := omega) only [VC1, VC2, VC3, VC4, VC5, VC6, VC7, VC8, VC9, VC10, VC11, VC12, VC13, VC14, VC15, VC16, VC17, VC18, VC19, VC20, pg_gl, ↓upd_none, Nat.reduceEqDiff, Nat.reduceBEq, Nat.reduceAdd, Nat.reduceSub, Nat.reduceMul, Nat.reduceLT, Nat.reduceLeDiff, ↓reduceIte, reduceCtorEq, rsOf, rootsOf, SOp.rd, SI.rd, SX.rd, rdL, rdO, rdP, okParts, eqCells, okEqCells, fillA, okFill, setAt, implies_true, forall_const, forall_eq, ne_eq, exists_eq_right_right, exists_eq_right, exists_eq_left, exists_eq_left', eStr]
      rw [any_nth (k := k) (by omega) (by simp [h2])]
      exact ⟨Sub.refl _, rfl⟩
    · simp -dsimp -implicitDefEqProofs (disch := omega) only [VC1, VC2, VC3, VC4, VC5, VC6, VC7, VC8, VC9, VC10, VC11, VC12, VC13, VC14, VC15, VC16, VC17, VC18, VC19, VC20, pg_gl, ↓upd_none, Nat.reduceEqDiff, Nat.reduceBEq, Nat.reduceAdd, Nat.reduceSub, Nat.reduceMul, Nat.reduceLT, Nat.reduceLeDiff, ↓reduceIte, reduceCtorEq, rsOf, rootsOf, SOp.rd, SI.rd, SX.rd, rdL, rdO, rdP, okParts, eqCells, okEqCells, fillA, okFill, setAt, implies_true, forall_const, forall_eq, ne_eq, exists_eq_right_right, exists_eq_right, exists_eq_left, exists_eq_left', eStr, he0, he5, he6]
      refine ⟨_, ?_, k + 1, by omega, rfl, by omega, fun j h3 => ?_⟩
      · omega
      · by_cases h4 : j = k
        · subst h4; simpa using h2
        · exact hj j (by omega)
  · simp -dsimp -implicitDefEqProofs (disch := omega) only [VC1, VC2, VC3, VC4, VC5, VC6, VC7, VC8, VC9, VC10, VC11, VC12, VC13, VC14, VC15, VC16, VC17, VC18, VC19, VC20, pg_gl, ↓upd_none, Nat.reduceEqDiff, Nat.reduceBEq, Nat.reduceAdd, Nat.reduceSub, Nat.reduceMul, Nat.reduceLT, Nat.reduceLeDiff, ↓reduceIte, reduceCtorEq, rsOf, rootsOf, SOp.rd, SI.rd, SX.rd, rdL, rdO, rdP, okParts, eqCells, okEqCells, fillA, okFill, setAt, implies_true, forall_const, forall_eq, ne_eq, exists_eq_right_right, exists_eq_right, exists_eq_left, exists_eq_left', eStr]
    rw [any_no fun j h2 => hj j (by omega)]
    exact ⟨Sub.refl _, rfl⟩
end Go.Proofs.K
