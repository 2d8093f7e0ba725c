import Derived.Test.YtlehoolkjkdncaaAct2
set_option linter.unusedSimpArgs false
set_option linter.unusedVariables false
namespace Go.Proofs.K
open Go Go.Sim Go.Proofs

def c48 : SFun := ⟨(.seq (.reg [⟨(some 2), (.mv (.c .emp)), none⟩]) (.seq (.reg [⟨(some 5), (.mv (.t 0)), none⟩, ⟨(some 6), (.call (.c (.fn 49 [] [])) [(.t 5)]), none⟩, ⟨(some 3), (.mv (.t 6)), none⟩]) (.seq (.seq (.reg [⟨(some 7), (.mv (.t 3)), none⟩, ⟨(some 8), (.len (.t 7)), none⟩, ⟨(some 9), (.mv (.c (.int .i64 (0)))), none⟩]) (.block 0 (.loop (.seq (.reg [⟨(some 10), (.bin .lss (.t 9) (.t 8)), none⟩]) (.seq (.cond (.t 10) .skip (.exit 0)) (.seq (.block 1 (.seq (.reg [⟨(some 11), (.mv (.t 9)), none⟩, ⟨(some 4), (.mv (.t 11)), none⟩]) (.reg [⟨(some 12), (.mv (.t 3)), none⟩, ⟨(some 13), (.mv (.t 4)), none⟩, ⟨(some 14), (.mv (.t 3)), none⟩, ⟨(some 15), (.mv (.t 4)), none⟩, ⟨(some 16), (.idxA 3 (.t 14) (.t 15)), none⟩, ⟨(some 17), (.fldA 2 (.t 16)), none⟩, ⟨(some 18), (.ld 1 false (.t 17)), none⟩, ⟨(some 19), (.pcall 85 [(.t 18)]), none⟩, ⟨(some 20), (.idxA 3 (.t 12) (.t 13)), none⟩, ⟨(some 21), (.fldA 2 (.t 20)), none⟩, ⟨none, (.st 1 (.t 21) (.t 19)), none⟩]))) (.reg [⟨(some 22), (.bin .add (.t 9) (.c (.int .i64 (1)))), none⟩, ⟨(some 9), (.mv (.t 22)), none⟩]))))))) (.seq (.reg [⟨(some 23), (.mv (.t 3)), none⟩, ⟨(some 2), (.mv (.t 23)), none⟩]) .ret)))), [(.tmp 2)]⟩
theorem hc48 : toSF Try.prog {pure := [85]} Try.f48 = some c48 := by kernel_rfl
theorem hn48 : (Try.f48.name == "runtime.NumGoroutine") = false := by kernel_rfl
theorem own_own {h : Heap} (l : List HItem) (hl : l.length ≤ 1073741824) (hs : ∀ x ∈ l, x.attrs.length ≤ 1073741824) : DCalls Try.prog 48 [sl eItem l] h (AccK h 25 3 (l.map eItem)) := by
  refine dcalls_of_vc Try.func48 hn48 hc48 (by rw [Try.ntmps48]; simp) ?_
  simp -dsimp -implicitDefEqProofs (disch := omega) only [VC1, VC2, VC3, VC4, VC5, VC6, VC7, VC8, VC9, VC10, VC11, VC12, VC13, VC14, VC15, VC16, VC17, VC18, VC19, VC20, ↓upd_none, Nat.reduceEqDiff, Nat.reduceBEq, Nat.reduceAdd, Nat.reduceSub, Nat.reduceMul, Nat.reduceLT, Nat.reduceLeDiff, ↓reduceIte, reduceCtorEq, rsOf, rootsOf, SOp.rd, SI.rd, SX.rd, rdL, rdO, rdP, okParts, eqCells, okEqCells, fillA, okFill, setAt, implies_true, forall_const, forall_eq, ne_eq, exists_eq_right_right, exists_eq_right, exists_eq_left, exists_eq_left', eItem, eAttr, c48]
  refine DCalls.of (cloneI_own l hl) ?_
  rintro a h1 ⟨A, S⟩
  rcases A with ⟨hnil, rfl⟩ | ⟨r, h0, hr, rfl⟩
  · simp -dsimp -implicitDefEqProofs (disch := omega) only [VC1, VC2, VC3, VC4, VC5, VC6, VC7, VC8, VC9, VC10, VC11, VC12, VC13, VC14, VC15, VC16, VC17, VC18, VC19, VC20, ↓upd_none, Nat.reduceEqDiff, Nat.reduceBEq, Nat.reduceAdd, Nat.reduceSub, Nat.reduceMul, Nat.reduceLT, Nat.reduceLeDiff, ↓reduceIte, reduceCtorEq, rsOf, rootsOf, SOp.rd, SI.rd, SX.rd, rdL, rdO, rdP, okParts, eqCells, okEqCells, fillA, okFill, setAt, implies_true, forall_const, forall_eq, ne_eq, exists_eq_right_right, exists_eq_right, exists_eq_left, exists_eq_left', eItem, eAttr]
    have hl0 : l = [] := by simpa using hnil
    subst hl0
    refine LoopVC.intro (fun m e h' => e 3 = .emp ∧ e 8 = aInt 0 ∧ e 9 = aInt 0 ∧ h' = h1) 0 ⟨rfl, rfl, rfl, rfl⟩ ?_
    rintro m e h' ⟨he3, he8, he9, rfl⟩
    simp -dsimp -implicitDefEqProofs (disch := omega) only [VC1, VC2, VC3, VC4, VC5, VC6, VC7, VC8, VC9, VC10, VC11, VC12, VC13, VC14, VC15, VC16, VC17, VC18, VC19, VC20, ↓upd_none, Nat.reduceEqDiff, Nat.reduceBEq, Nat.reduceAdd, Nat.reduceSub, Nat.reduceMul, Nat.reduceLT, Nat.reduceLeDiff, ↓reduceIte, reduceCtorEq, rsOf, rootsOf, SOp.rd, SI.rd, SX.rd, rdL, rdO, rdP, okParts, eqCells, okEqCells, fillA, okFill, setAt, implies_true, forall_const, forall_eq, ne_eq, exists_eq_right_right, exists_eq_right, exists_eq_left, exists_eq_left', eItem, eAttr, he3, he8, he9]
    refine Br.dec (fun hlt => by omega) (fun hge => ?_)
    simp -dsimp -implicitDefEqProofs (disch := omega) only [VC1, VC2, VC3, VC4, VC5, VC6, VC7, VC8, VC9, VC10, VC11, VC12, VC13, VC14, VC15, VC16, VC17, VC18, VC19, VC20, ↓upd_none, Nat.reduceEqDiff, Nat.reduceBEq, Nat.reduceAdd, Nat.reduceSub, Nat.reduceMul, Nat.reduceLT, Nat.reduceLeDiff, ↓reduceIte, reduceCtorEq, rsOf, rootsOf, SOp.rd, SI.rd, SX.rd, rdL, rdO, rdP, okParts, eqCells, okEqCells, fillA, okFill, setAt, implies_true, forall_const, forall_eq, ne_eq, exists_eq_right_right, exists_eq_right, exists_eq_left, exists_eq_left', eItem, eAttr, he3, he8, he9]
    exact ⟨_, Sub.refl _, Acc.nil, S⟩
  · simp -dsimp -implicitDefEqProofs (disch := omega) only [VC1, VC2, VC3, VC4, VC5, VC6, VC7, VC8, VC9, VC10, VC11, VC12, VC13, VC14, VC15, VC16, VC17, VC18, VC19, VC20, ↓upd_none, Nat.reduceEqDiff, Nat.reduceBEq, Nat.reduceAdd, Nat.reduceSub, Nat.reduceMul, Nat.reduceLT, Nat.reduceLeDiff, ↓reduceIte, reduceCtorEq, rsOf, rootsOf, SOp.rd, SI.rd, SX.rd, rdL, rdO, rdP, okParts, eqCells, okEqCells, fillA, okFill, setAt, implies_true, forall_const, forall_eq, ne_eq, exists_eq_right_right, exists_eq_right, exists_eq_left, exists_eq_left', eItem, eAttr]
    refine LoopVC.intro (fun m e h' => ∃ k : Nat, k ≤ l.length ∧ m = l.length - k ∧ e 3 = .osl r 3 0 l.length ∧ e 8 = aInt l.length ∧ e 9 = aInt k ∧ h' = h1) l.length ⟨0, by omega, by omega, rfl, rfl, rfl, rfl⟩ ?_
    rintro m e h' ⟨k, hk, rfl, he3, he8, he9, rfl⟩
    simp -dsimp -implicitDefEqProofs (disch := omega) only [VC1, VC2, VC3, VC4, VC5, VC6, VC7, VC8, VC9, VC10, VC11, VC12, VC13, VC14, VC15, VC16, VC17, VC18, VC19, VC20, ↓upd_none, Nat.reduceEqDiff, Nat.reduceBEq, Nat.reduceAdd, Nat.reduceSub, Nat.reduceMul, Nat.reduceLT, Nat.reduceLeDiff, ↓reduceIte, reduceCtorEq, rsOf, rootsOf, SOp.rd, SI.rd, SX.rd, rdL, rdO, rdP, okParts, eqCells, okEqCells, fillA, okFill, setAt, implies_true, forall_const, forall_eq, ne_eq, exists_eq_right_right, exists_eq_right, exists_eq_left, exists_eq_left', eItem, eAttr, he3, he8, he9]
    refine Br.dec (fun hlt => ?_) (fun hge => ?_)
    · simp -dsimp -implicitDefEqProofs (disch := omega) only [VC1, VC2, VC3, VC4, VC5, VC6, VC7, VC8, VC9, VC10, VC11, VC12, VC13, VC14, VC15, VC16, VC17, VC18, VC19, VC20, ↓upd_none, Nat.reduceEqDiff, Nat.reduceBEq, Nat.reduceAdd, Nat.reduceSub, Nat.reduceMul, Nat.reduceLT, Nat.reduceLeDiff, ↓reduceIte, reduceCtorEq, rsOf, rootsOf, SOp.rd, SI.rd, SX.rd, rdL, rdO, rdP, okParts, eqCells, okEqCells, fillA, okFill, setAt, implies_true, forall_const, forall_eq, ne_eq, exists_eq_right_right, exists_eq_right, exists_eq_left, exists_eq_left', eItem, eAttr, he3, he8, he9, hr]
      refine ⟨by omega, by omega, ?_⟩
      refine pcallE.of (cloneA_ok (nth l k).attrs (hs _ (nth_mem' (by omega)))) ?_; simp -dsimp -implicitDefEqProofs (disch := omega) only [VC1, VC2, VC3, VC4, VC5, VC6, VC7, VC8, VC9, VC10, VC11, VC12, VC13, VC14, VC15, VC16, VC17, VC18, VC19, VC20, ↓upd_none, Nat.reduceEqDiff, Nat.reduceBEq, Nat.reduceAdd, Nat.reduceSub, Nat.reduceMul, Nat.reduceLT, Nat.reduceLeDiff, ↓reduceIte, reduceCtorEq, rsOf, rootsOf, SOp.rd, SI.rd, SX.rd, rdL, rdO, rdP, okParts, eqCells, okEqCells, fillA, okFill, setAt, implies_true, forall_const, forall_eq, ne_eq, exists_eq_right_right, exists_eq_right, exists_eq_left, exists_eq_left', eItem, eAttr, he3, he8, he9, hr]
      refine ⟨by omega, by omega, _, ?_, k + 1, by omega, rfl, by omega, ?_⟩
      · omega
      · refine (congrArg (fun x => upd h' r (some x)) ?_).trans (upd_id hr)
        simp only [AObj.mk.injEq, true_and]
        exact set_map_enc (by omega) rfl
    · simp -dsimp -implicitDefEqProofs (disch := omega) only [VC1, VC2, VC3, VC4, VC5, VC6, VC7, VC8, VC9, VC10, VC11, VC12, VC13, VC14, VC15, VC16, VC17, VC18, VC19, VC20, ↓upd_none, Nat.reduceEqDiff, Nat.reduceBEq, Nat.reduceAdd, Nat.reduceSub, Nat.reduceMul, Nat.reduceLT, Nat.reduceLeDiff, ↓reduceIte, reduceCtorEq, rsOf, rootsOf, SOp.rd, SI.rd, SX.rd, rdL, rdO, rdP, okParts, eqCells, okEqCells, fillA, okFill, setAt, implies_true, forall_const, forall_eq, ne_eq, exists_eq_right_right, exists_eq_right, exists_eq_left, exists_eq_left', eItem, eAttr, he3, he8, he9]
      exact ⟨_, Sub.refl _, .inr ⟨r, h0, hr, by simp⟩, S⟩

def c88 : SFun := ⟨(.seq (.reg [⟨(some 6), (.mv (.c .emp)), none⟩]) (.seq (.reg [⟨(some 8), (.mv (.t 0)), none⟩, ⟨(some 9), (.mv (.t 1)), none⟩, ⟨(some 10), (.mv (.t 2)), none⟩, ⟨(some 11), (.mv (.t 0)), none⟩, ⟨(some 12), (.len (.t 11)), none⟩, ⟨(some 13), (.slM 3 (.t 8) (some (.t 9)) (some (.t 10)) (some (.t 12))), none⟩]) (.seq (.seq (.reg [⟨(some 14), (.mv (.t 1)), none⟩, ⟨(some 15), (.mv (.t 2)), none⟩, ⟨(some 16), (.bin .eql (.t 14) (.t 15)), none⟩]) (.cond (.t 16) (.seq (.reg [⟨(some 17), (.mv (.t 0)), none⟩, ⟨(some 6), (.mv (.t 17)), none⟩]) .ret) .skip)) (.seq (.reg [⟨(some 18), (.mv (.t 0)), none⟩, ⟨(some 19), (.len (.t 18)), none⟩, ⟨(some 7), (.mv (.t 19)), none⟩]) (.seq (.dreg [(⟨(some 20), (.mv (.t 0)), none⟩, false), (⟨(some 21), (.mv (.t 1)), none⟩, false), (⟨(some 22), (.slA 3 (.t 20) none (some (.t 21))), none⟩, false), (⟨(some 23), (.mv (.t 0)), none⟩, false), (⟨(some 24), (.mv (.t 2)), none⟩, false), (⟨(some 25), (.slA 3 (.t 23) (some (.t 24)) none), none⟩, false), (⟨(some 26), (.appIn 25 3 (.t 22) (.t 25)), none⟩, true), (⟨(some 0), (.mv (.t 26)), none⟩, true)]) (.seq (.reg [⟨(some 27), (.mv (.t 0)), none⟩, ⟨(some 28), (.mv (.t 0)), none⟩, ⟨(some 29), (.len (.t 28)), none⟩, ⟨(some 30), (.mv (.t 7)), none⟩, ⟨(some 31), (.slX 3 (.t 27) (some (.t 29)) (some (.t 30))), none⟩, ⟨none, (.clear 3 [(.int .i64 (0)), (.str []), .emp] (.t 31)), none⟩]) (.seq (.reg [⟨(some 32), (.mv (.t 0)), none⟩, ⟨(some 6), (.mv (.t 32)), none⟩]) .ret))))))), [(.tmp 6)]⟩
theorem hc88 : toSF Try.prog {how := [(26, 3), (31, 4)]} Try.f88 = some c88 := by kernel_rfl
theorem hn88 : (Try.f88.name == "runtime.NumGoroutine") = false := by kernel_rfl
theorem delete_ok {h : Heap} {r n i j : Nat} {es : List (List AVal)} (hr : h r = some ⟨25, 3, es⟩) (hn : n ≤ es.length) (hij : i < j) (hj : j ≤ n) (hl : es.length ≤ 1073741824) :
    DCalls Try.prog 88 [.osl r 3 0 n, aInt i, aInt j] h fun a h' => a = .osl r 3 0 (n - (j - i)) ∧ ∃ es', h' = upd h r (some ⟨25, 3, es'⟩) ∧ n - (j - i) ≤ es'.length ∧ es'.take (n - (j - i)) = es.take i ++ (es.take n).drop j := by
  refine dcalls_of_vc Try.func88 hn88 hc88 (by rw [Try.ntmps88]; simp) ?_
  simp -dsimp -implicitDefEqProofs (disch := omega) only [VC1, VC2, VC3, VC4, VC5, VC6, VC7, VC8, VC9, VC10, VC11, VC12, VC13, VC14, VC15, VC16, VC17, VC18, VC19, VC20, ↓upd_none, Nat.reduceEqDiff, Nat.reduceBEq, Nat.reduceAdd, Nat.reduceSub, Nat.reduceMul, Nat.reduceLT, Nat.reduceLeDiff, ↓reduceIte, reduceCtorEq, rsOf, rootsOf, SOp.rd, SI.rd, SX.rd, rdL, rdO, rdP, okParts, eqCells, okEqCells, fillA, okFill, setAt, implies_true, forall_const, forall_eq, ne_eq, exists_eq_right_right, exists_eq_right, exists_eq_left, exists_eq_left', eItem, eAttr, c88]
  refine ⟨by omega, Br.eq (fun h1 => by omega) (fun h1 => ?_)⟩
  simp -dsimp -implicitDefEqProofs (disch := omega) only [VC1, VC2, VC3, VC4, VC5, VC6, VC7, VC8, VC9, VC10, VC11, VC12, VC13, VC14, VC15, VC16, VC17, VC18, VC19, VC20, ↓upd_none, Nat.reduceEqDiff, Nat.reduceBEq, Nat.reduceAdd, Nat.reduceSub, Nat.reduceMul, Nat.reduceLT, Nat.reduceLeDiff, ↓reduceIte, reduceCtorEq, rsOf, rootsOf, SOp.rd, SI.rd, SX.rd, rdL, rdO, rdP, okParts, eqCells, okEqCells, fillA, okFill, setAt, implies_true, forall_const, forall_eq, ne_eq, exists_eq_right_right, exists_eq_right, exists_eq_left, exists_eq_left', eItem, eAttr, hr, upd_same]
  have hL : (List.take (n - j) (List.drop j es)).length = n - j := by simp; omega
  have hT : (List.take i es).length = i := by simp; omega
  rw [hL]
  have e1 : i + (n - j) = n - (j - i) := by omega
  refine ⟨by omega, by omega, by omega, by omega, by omega, by omega, by simp; omega, by simp; omega, _, Sub.refl _, by rw [e1], _, rfl, ?_, ?_⟩
  · simp; omega
  · rw [← e1]
    have e2 : (List.take i es ++ List.take (n - j) (List.drop j es)).length = i + (n - j) := by rw [List.length_append, hT, hL]
    rw [List.take_append_of_le_length (by simp; omega), List.take_append_of_le_length (by rw [List.length_take, List.length_append, e2]; omega), List.take_take, Nat.min_eq_left (by omega), List.take_append_of_le_length (by omega), List.take_of_length_le (by omega), List.drop_take]

/-- the places of items alike, from the last marker on, below k -/
def sameM (l : List HItem) (x : HItem) (k : Nat) : List Nat := (List.range k).filter fun i => decide (lastM l ≤ i) && alikeM (nth l i) x
def pushM (l : List HItem) (x : HItem) : List HItem := if x.node ≠ -1 ∧ 3 ≤ (sameM l x l.length).length then l.eraseIdx ((sameM l x l.length).headD 0) ++ [x] else l ++ [x]
theorem sameM_succ (l : List HItem) (x : HItem) (k : Nat) : sameM l x (k + 1) = sameM l x k ++ if decide (lastM l ≤ k) && alikeM (nth l k) x then [k] else [] := by
  rw [sameM, List.range_succ, List.filter_append]; simp [sameM, List.filter_cons]
theorem sameM_len (l : List HItem) (x : HItem) (k : Nat) : (sameM l x k).length ≤ k := by
  have := List.length_filter_le (fun i => decide (lastM l ≤ i) && alikeM (nth l i) x) (List.range k)
  simpa [sameM] using this
def eNat (n : Nat) : List AVal := [aInt n]
instance : LenE eNat 1 := ⟨fun _ => rfl⟩
def c50 : SFun := ⟨(.seq (.reg [⟨(some 3), (.boxF 25 3 (.t 1)), none⟩, ⟨(some 4), (.mv (.c .emp)), none⟩]) (.seq (.reg [⟨(some 5), (.mv (.c .emp)), none⟩]) (.seq (.seq (.reg [⟨(some 7), (.mv (.t 0)), none⟩, ⟨(some 8), (.call (.c (.fn 86 [] [])) [(.t 7)]), none⟩, ⟨(some 6), (.mv (.t 8)), none⟩]) (.block 0 (.loop (.seq (.seq (.reg [⟨(some 9), (.mv (.t 6)), none⟩, ⟨(some 10), (.mv (.t 0)), none⟩, ⟨(some 11), (.len (.t 10)), none⟩, ⟨(some 12), (.bin .lss (.t 9) (.t 11)), none⟩]) (.cond (.t 12) .skip (.exit 0))) (.seq (.block 1 (.seq (.dreg [(⟨(some 15), (.mv (.t 0)), none⟩, false), (⟨(some 16), (.mv (.t 6)), none⟩, false), (⟨(some 17), (.idxA 3 (.t 15) (.t 16)), none⟩, false), (⟨(some 18), (.ld 3 true (.t 17)), none⟩, false), (⟨(some 19), (.ld 3 true (.t 3)), none⟩, false), (⟨(some 20), (.pcall 87 [(.t 18), (.t 19)]), none⟩, false)]) (.cond (.t 20) (.reg [⟨(some 21), (.mv (.t 5)), none⟩, ⟨(some 22), (.mv (.t 6)), none⟩, ⟨(some 23), (.bldF 3 1 [(.t 22)]), none⟩, ⟨(some 24), (.app 3 1 8 (.t 21) (.t 23)), none⟩, ⟨(some 5), (.mv (.t 24)), none⟩]) .skip))) (.reg [⟨(some 13), (.mv (.t 6)), none⟩, ⟨(some 14), (.bin .add (.t 13) (.c (.int .i64 (1)))), none⟩, ⟨(some 6), (.mv (.t 14)), none⟩])))))) (.seq (.seq (.reg [⟨(some 25), (.ld 3 true (.t 3)), none⟩, ⟨(some 26), (.pcall 56 [(.t 25)]), none⟩, ⟨(some 27), (.un .not (.t 26)), none⟩, ⟨(some 28), (.mv (.t 27)), none⟩, ⟨(some 29), (.mv (.t 5)), (some (28, true))⟩, ⟨(some 30), (.len (.t 29)), (some (28, true))⟩, ⟨(some 31), (.bin .geq (.t 30) (.c (.int .i64 (3)))), (some (28, true))⟩, ⟨(some 32), (.pick (.t 28) (.t 31) (.c (.bool false))), none⟩]) (.cond (.t 32) (.dreg [(⟨(some 33), (.mv (.t 0)), none⟩, false), (⟨(some 34), (.mv (.t 5)), none⟩, false), (⟨(some 35), (.idxA 1 (.t 34) (.c (.int .i64 (0)))), none⟩, false), (⟨(some 36), (.ld 1 false (.t 35)), none⟩, false), (⟨(some 37), (.mv (.t 5)), none⟩, false), (⟨(some 38), (.idxA 1 (.t 37) (.c (.int .i64 (0)))), none⟩, false), (⟨(some 39), (.ld 1 false (.t 38)), none⟩, false), (⟨(some 40), (.bin .add (.t 39) (.c (.int .i64 (1)))), none⟩, false), (⟨(some 41), (.call (.c (.fn 88 [] [])) [(.t 33), (.t 36), (.t 40)]), none⟩, true), (⟨(some 0), (.mv (.t 41)), none⟩, true)]) .skip)) (.seq (.reg [⟨(some 42), (.mv (.t 0)), none⟩, ⟨(some 43), (.ld 3 true (.t 3)), none⟩, ⟨(some 44), (.bldF 25 3 [(.t 43)]), none⟩, ⟨(some 45), (.app 25 3 48 (.t 42) (.t 44)), none⟩, ⟨(some 4), (.mv (.t 45)), none⟩]) .ret))))), [(.tmp 4)]⟩
theorem hc50 : toSF Try.prog {pure := [56, 87]} Try.f50 = some c50 := by kernel_rfl
theorem hn50 : (Try.f50.name == "runtime.NumGoroutine") = false := by kernel_rfl
theorem pushed_ok {h h0 : Heap} {r : Nat} {es : List (List AVal)} (l : List HItem) (x : HItem) (h0r : h0 r = none) (S0 : Sub h0 h) (hr : h r = some ⟨25, 3, es⟩) (hn : l.length ≤ es.length) (he : es.take l.length = l.map eItem) (hl : es.length ≤ 1073741824)
    (hs : ∀ x ∈ l, x.attrs.length ≤ 1073741824) (hx : x.attrs.length ≤ 1073741824) :
    DCalls Try.prog 50 [.osl r 3 0 l.length, .agg (eItem x)] h (AccK h0 25 3 ((pushM l x).map eItem)) := by
  refine dcalls_of_vc Try.func50 hn50 hc50 (by rw [Try.ntmps50]; simp) ?_
  simp -dsimp -implicitDefEqProofs (disch := omega) only [↓vcOps_sp 28, ↓vcD_sp 28, VC1, VC2, VC3, VC4, VC5, VC6, VC7, VC8, VC9, VC10, VC11, VC12, VC13, VC14, VC15, VC16, VC17, VC18, VC19, VC20, ↓upd_none, Nat.reduceEqDiff, Nat.reduceBEq, Nat.reduceAdd, Nat.reduceSub, Nat.reduceMul, Nat.reduceLT, Nat.reduceLeDiff, ↓reduceIte, reduceCtorEq, rsOf, rootsOf, SOp.rd, SI.rd, SX.rd, rdL, rdO, rdP, okParts, eqCells, okEqCells, fillA, okFill, setAt, implies_true, forall_const, forall_eq, ne_eq, exists_eq_right_right, exists_eq_right, exists_eq_left, exists_eq_left', eItem, eAttr, c50]
  refine PCalls.borrow1 (last_ok l (by omega)) (.int _ _) hr hn he ?_
  simp -dsimp -implicitDefEqProofs (disch := omega) only [↓vcOps_sp 28, ↓vcD_sp 28, VC1, VC2, VC3, VC4, VC5, VC6, VC7, VC8, VC9, VC10, VC11, VC12, VC13, VC14, VC15, VC16, VC17, VC18, VC19, VC20, ↓upd_none, Nat.reduceEqDiff, Nat.reduceBEq, Nat.reduceAdd, Nat.reduceSub, Nat.reduceMul, Nat.reduceLT, Nat.reduceLeDiff, ↓reduceIte, reduceCtorEq, rsOf, rootsOf, SOp.rd, SI.rd, SX.rd, rdL, rdO, rdP, okParts, eqCells, okEqCells, fillA, okFill, setAt, implies_true, forall_const, forall_eq, ne_eq, exists_eq_right_right, exists_eq_right, exists_eq_left, exists_eq_left', eItem, eAttr]
  obtain ⟨hla, _, _⟩ := lastM_is l
  refine LoopVC.intro (fun m e h' => ∃ k : Nat, lastM l ≤ k ∧ k ≤ l.length ∧ m = l.length - k ∧ e 0 = .osl r 3 0 l.length ∧ e 3 = .pin (eItem x) ∧ e 6 = aInt k ∧ Acc h 3 1 ((sameM l x k).map eNat) (e 5) h' ∧ Sub h h') (l.length - lastM l) ⟨lastM l, by omega, by omega, rfl, rfl, rfl, rfl, ?_, Sub.refl _⟩ ?_
  · have : sameM l x (lastM l) = [] := by
      rw [sameM, List.filter_eq_nil_iff]; intro i hi; simp at hi ⊢; omega
    rw [this]; exact Acc.nil
  rintro m e h' ⟨k, hlk, hk, rfl, he0, he3, he6, A, S⟩
  have hr' := S r _ hr
  simp -dsimp -implicitDefEqProofs (disch := omega) only [↓vcOps_sp 28, ↓vcD_sp 28, VC1, VC2, VC3, VC4, VC5, VC6, VC7, VC8, VC9, VC10, VC11, VC12, VC13, VC14, VC15, VC16, VC17, VC18, VC19, VC20, ↓upd_none, Nat.reduceEqDiff, Nat.reduceBEq, Nat.reduceAdd, Nat.reduceSub, Nat.reduceMul, Nat.reduceLT, Nat.reduceLeDiff, ↓reduceIte, reduceCtorEq, rsOf, rootsOf, SOp.rd, SI.rd, SX.rd, rdL, rdO, rdP, okParts, eqCells, okEqCells, fillA, okFill, setAt, implies_true, forall_const, forall_eq, ne_eq, exists_eq_right_right, exists_eq_right, exists_eq_left, exists_eq_left', eItem, eAttr, he0, he3, he6]
  refine Br.dec (fun hlt => ?_) (fun hge => ?_)
  · have hg : es.getD k [] = eItem (nth l k) := getD_take_enc he (by omega)
    have hlen := sameM_len l x k
    simp -dsimp -implicitDefEqProofs (disch := omega) only [↓vcOps_sp 28, ↓vcD_sp 28, VC1, VC2, VC3, VC4, VC5, VC6, VC7, VC8, VC9, VC10, VC11, VC12, VC13, VC14, VC15, VC16, VC17, VC18, VC19, VC20, ↓upd_none, Nat.reduceEqDiff, Nat.reduceBEq, Nat.reduceAdd, Nat.reduceSub, Nat.reduceMul, Nat.reduceLT, Nat.reduceLeDiff, ↓reduceIte, reduceCtorEq, rsOf, rootsOf, SOp.rd, SI.rd, SX.rd, rdL, rdO, rdP, okParts, eqCells, okEqCells, fillA, okFill, setAt, implies_true, forall_const, forall_eq, ne_eq, exists_eq_right_right, exists_eq_right, exists_eq_left, exists_eq_left', eItem, eAttr, he0, he3, he6, hr', hg]
    refine ⟨by omega, by omega, ?_⟩
    refine pcallE.of (alike_ok (nth l k) x (hs _ (nth_mem' (by omega))) hx) ?_; simp -dsimp -implicitDefEqProofs (disch := omega) only [↓vcOps_sp 28, ↓vcD_sp 28, VC1, VC2, VC3, VC4, VC5, VC6, VC7, VC8, VC9, VC10, VC11, VC12, VC13, VC14, VC15, VC16, VC17, VC18, VC19, VC20, ↓upd_none, Nat.reduceEqDiff, Nat.reduceBEq, Nat.reduceAdd, Nat.reduceSub, Nat.reduceMul, Nat.reduceLT, Nat.reduceLeDiff, ↓reduceIte, reduceCtorEq, rsOf, rootsOf, SOp.rd, SI.rd, SX.rd, rdL, rdO, rdP, okParts, eqCells, okEqCells, fillA, okFill, setAt, implies_true, forall_const, forall_eq, ne_eq, exists_eq_right_right, exists_eq_right, exists_eq_left, exists_eq_left', eItem, eAttr, he0, he3, he6, hr', hg]
    refine Br.intro (fun h1 => ?_) (fun h1 => ?_)
    · simp -dsimp -implicitDefEqProofs (disch := omega) only [↓vcOps_sp 28, ↓vcD_sp 28, VC1, VC2, VC3, VC4, VC5, VC6, VC7, VC8, VC9, VC10, VC11, VC12, VC13, VC14, VC15, VC16, VC17, VC18, VC19, VC20, ↓upd_none, Nat.reduceEqDiff, Nat.reduceBEq, Nat.reduceAdd, Nat.reduceSub, Nat.reduceMul, Nat.reduceLT, Nat.reduceLeDiff, ↓reduceIte, reduceCtorEq, rsOf, rootsOf, SOp.rd, SI.rd, SX.rd, rdL, rdO, rdP, okParts, eqCells, okEqCells, fillA, okFill, setAt, implies_true, forall_const, forall_eq, ne_eq, exists_eq_right_right, exists_eq_right, exists_eq_left, exists_eq_left', eItem, eAttr, he0, he3, he6]
      refine A.app S (by simp; omega) (by simp; omega) fun a' h'' A' S' => ?_
      simp -dsimp -implicitDefEqProofs (disch := omega) only [↓vcOps_sp 28, ↓vcD_sp 28, VC1, VC2, VC3, VC4, VC5, VC6, VC7, VC8, VC9, VC10, VC11, VC12, VC13, VC14, VC15, VC16, VC17, VC18, VC19, VC20, ↓upd_none, Nat.reduceEqDiff, Nat.reduceBEq, Nat.reduceAdd, Nat.reduceSub, Nat.reduceMul, Nat.reduceLT, Nat.reduceLeDiff, ↓reduceIte, reduceCtorEq, rsOf, rootsOf, SOp.rd, SI.rd, SX.rd, rdL, rdO, rdP, okParts, eqCells, okEqCells, fillA, okFill, setAt, implies_true, forall_const, forall_eq, ne_eq, exists_eq_right_right, exists_eq_right, exists_eq_left, exists_eq_left', eItem, eAttr, he0, he3, he6]
      refine ⟨_, ?_, k + 1, by omega, by omega, rfl, by omega, ?_, S'⟩
      · omega
      · rw [sameM_succ, if_pos (by simp [hlk, h1])]; simpa [eNat] using A'
    · simp -dsimp -implicitDefEqProofs (disch := omega) only [↓vcOps_sp 28, ↓vcD_sp 28, VC1, VC2, VC3, VC4, VC5, VC6, VC7, VC8, VC9, VC10, VC11, VC12, VC13, VC14, VC15, VC16, VC17, VC18, VC19, VC20, ↓upd_none, Nat.reduceEqDiff, Nat.reduceBEq, Nat.reduceAdd, Nat.reduceSub, Nat.reduceMul, Nat.reduceLT, Nat.reduceLeDiff, ↓reduceIte, reduceCtorEq, rsOf, rootsOf, SOp.rd, SI.rd, SX.rd, rdL, rdO, rdP, okParts, eqCells, okEqCells, fillA, okFill, setAt, implies_true, forall_const, forall_eq, ne_eq, exists_eq_right_right, exists_eq_right, exists_eq_left, exists_eq_left', eItem, eAttr, he0, he3, he6]
      refine ⟨_, ?_, k + 1, by omega, by omega, rfl, by omega, ?_, S⟩
      · omega
      · rw [sameM_succ, if_neg (by simp [h1])]; simpa using A
  · obtain rfl : k = l.length := by omega
    have hlen := A.len
    simp only [List.length_map] at hlen
    simp -dsimp -implicitDefEqProofs (disch := omega) only [↓vcOps_sp 28, ↓vcD_sp 28, VC1, VC2, VC3, VC4, VC5, VC6, VC7, VC8, VC9, VC10, VC11, VC12, VC13, VC14, VC15, VC16, VC17, VC18, VC19, VC20, ↓upd_none, Nat.reduceEqDiff, Nat.reduceBEq, Nat.reduceAdd, Nat.reduceSub, Nat.reduceMul, Nat.reduceLT, Nat.reduceLeDiff, ↓reduceIte, reduceCtorEq, rsOf, rootsOf, SOp.rd, SI.rd, SX.rd, rdL, rdO, rdP, okParts, eqCells, okEqCells, fillA, okFill, setAt, implies_true, forall_const, forall_eq, ne_eq, exists_eq_right_right, exists_eq_right, exists_eq_left, exists_eq_left', eItem, eAttr, he0, he3, he6, hr']
    refine pcallE.of (marker_ok x) ?_; simp -dsimp -implicitDefEqProofs (disch := omega) only [↓vcOps_sp 28, ↓vcD_sp 28, VC1, VC2, VC3, VC4, VC5, VC6, VC7, VC8, VC9, VC10, VC11, VC12, VC13, VC14, VC15, VC16, VC17, VC18, VC19, VC20, ↓upd_none, Nat.reduceEqDiff, Nat.reduceBEq, Nat.reduceAdd, Nat.reduceSub, Nat.reduceMul, Nat.reduceLT, Nat.reduceLeDiff, ↓reduceIte, reduceCtorEq, rsOf, rootsOf, SOp.rd, SI.rd, SX.rd, rdL, rdO, rdP, okParts, eqCells, okEqCells, fillA, okFill, setAt, implies_true, forall_const, forall_eq, ne_eq, exists_eq_right_right, exists_eq_right, exists_eq_left, exists_eq_left', eItem, eAttr, he0, he3, he6, hr', hlen.1, hlen.2]
    have S' : Sub h0 h' := S0.trans S
    have fin : ∀ (hp : pushM l x = l ++ [x]) (r' : Nat), del h' r r' = none → AccK h0 25 3 ((pushM l x).map eItem) (.osl r' 3 0 (l.length + 1)) (upd (del h' r) r' (some ⟨25, 3, es.take l.length ++ [eItem x]⟩)) := by
      intro hp r' hn'
      rw [hp]
      exact ⟨.inr ⟨r', (S'.del h0r).none hn', by simp [he], by simp⟩, (S'.del h0r).upd ((S'.del h0r).none hn')⟩
    refine Br.intro (fun h1 => ?_) (fun h1 => ?_)
    · simp -dsimp -implicitDefEqProofs (disch := omega) only [↓vcOps_sp 28, ↓vcD_sp 28, VC1, VC2, VC3, VC4, VC5, VC6, VC7, VC8, VC9, VC10, VC11, VC12, VC13, VC14, VC15, VC16, VC17, VC18, VC19, VC20, ↓upd_none, Nat.reduceEqDiff, Nat.reduceBEq, Nat.reduceAdd, Nat.reduceSub, Nat.reduceMul, Nat.reduceLT, Nat.reduceLeDiff, ↓reduceIte, reduceCtorEq, rsOf, rootsOf, SOp.rd, SI.rd, SX.rd, rdL, rdO, rdP, okParts, eqCells, okEqCells, fillA, okFill, setAt, implies_true, forall_const, forall_eq, ne_eq, exists_eq_right_right, exists_eq_right, exists_eq_left, exists_eq_left', eItem, eAttr, he0, he3, he6, hr', hlen.1, hlen.2]
      refine Br.dec (fun h2 => ?_) (fun h2 => ?_)
      · obtain ⟨rs, hrs, hrs', hre⟩ := A.pos (by simp; omega)
        have hk0 : nth (sameM l x l.length) 0 < l.length := by
          have := nth_mem' (l := sameM l x l.length) (k := 0) (by omega)
          simp [sameM] at this; exact this.1
        have hne : rs ≠ r := fun e => by rw [e, hr] at hrs; cases hrs
        simp -dsimp -implicitDefEqProofs (disch := omega) only [↓vcOps_sp 28, ↓vcD_sp 28, VC1, VC2, VC3, VC4, VC5, VC6, VC7, VC8, VC9, VC10, VC11, VC12, VC13, VC14, VC15, VC16, VC17, VC18, VC19, VC20, ↓upd_none, Nat.reduceEqDiff, Nat.reduceBEq, Nat.reduceAdd, Nat.reduceSub, Nat.reduceMul, Nat.reduceLT, Nat.reduceLeDiff, ↓reduceIte, reduceCtorEq, rsOf, rootsOf, SOp.rd, SI.rd, SX.rd, rdL, rdO, rdP, okParts, eqCells, okEqCells, fillA, okFill, setAt, implies_true, forall_const, forall_eq, ne_eq, exists_eq_right_right, exists_eq_right, exists_eq_left, exists_eq_left', eItem, eAttr, he0, he3, he6, hr', hlen.1, hlen.2, hre, hrs', eNat]
        refine ⟨by omega, by omega, by omega, by omega, DCalls.of (delete_ok (i := nth (sameM l x l.length) 0) (j := nth (sameM l x l.length) 0 + 1) hr' hn (by omega) (by omega) hl) ?_⟩
        rintro a h2 ⟨rfl, es', rfl, hle', htk⟩
        simp -dsimp -implicitDefEqProofs (disch := omega) only [↓vcOps_sp 28, ↓vcD_sp 28, VC1, VC2, VC3, VC4, VC5, VC6, VC7, VC8, VC9, VC10, VC11, VC12, VC13, VC14, VC15, VC16, VC17, VC18, VC19, VC20, ↓upd_none, Nat.reduceEqDiff, Nat.reduceBEq, Nat.reduceAdd, Nat.reduceSub, Nat.reduceMul, Nat.reduceLT, Nat.reduceLeDiff, ↓reduceIte, reduceCtorEq, rsOf, rootsOf, SOp.rd, SI.rd, SX.rd, rdL, rdO, rdP, okParts, eqCells, okEqCells, fillA, okFill, setAt, implies_true, forall_const, forall_eq, ne_eq, exists_eq_right_right, exists_eq_right, exists_eq_left, exists_eq_left', eItem, eAttr, hne, he3, true_or, false_or, forall_eq_or_imp]
        have e1 : l.length - (nth (sameM l x l.length) 0 + 1 - nth (sameM l x l.length) 0) = l.length - 1 := by omega
        rw [e1] at hle' htk ⊢
        refine ⟨hle', by omega, by omega, fun r' hr'' => ⟨_, Sub.refl _, ?_⟩⟩
        have S2 : Sub h0 (upd h' r (some ⟨25, 3, es'⟩)) := S'.upd h0r
        have hp : pushM l x = l.eraseIdx (nth (sameM l x l.length) 0) ++ [x] := by
          rw [pushM, if_pos ⟨by simpa using h1, by omega⟩]
          cases hc : sameM l x l.length with
          | nil => rw [hc] at h2; simp at h2
          | cons c cs => rfl
        have hm : es'.take (l.length - 1) = (l.eraseIdx (nth (sameM l x l.length) 0)).map eItem := by
          rw [htk, List.eraseIdx_eq_take_drop_succ, List.map_append, List.map_take, List.map_drop, ← he, List.take_take, Nat.min_eq_left (by omega)]
        rw [hp]
        have hle2 : (l.eraseIdx (nth (sameM l x l.length) 0)).length = l.length - 1 := by rw [List.length_eraseIdx, if_pos hk0]
        refine ⟨.inr ⟨r', (S2.del h0r).none hr'', ?_, ?_⟩, (S2.del h0r).upd ((S2.del h0r).none hr'')⟩
        · simp only [upd_same, hm, List.map_append, List.map_cons, List.map_nil]
          rfl
        · simp [hle2]
      · simp -dsimp -implicitDefEqProofs (disch := omega) only [↓vcOps_sp 28, ↓vcD_sp 28, VC1, VC2, VC3, VC4, VC5, VC6, VC7, VC8, VC9, VC10, VC11, VC12, VC13, VC14, VC15, VC16, VC17, VC18, VC19, VC20, ↓upd_none, Nat.reduceEqDiff, Nat.reduceBEq, Nat.reduceAdd, Nat.reduceSub, Nat.reduceMul, Nat.reduceLT, Nat.reduceLeDiff, ↓reduceIte, reduceCtorEq, rsOf, rootsOf, SOp.rd, SI.rd, SX.rd, rdL, rdO, rdP, okParts, eqCells, okEqCells, fillA, okFill, setAt, implies_true, forall_const, forall_eq, ne_eq, exists_eq_right_right, exists_eq_right, exists_eq_left, exists_eq_left', eItem, eAttr, he0, he3, he6, hr', hlen.1, hlen.2]
        exact ⟨hn, by omega, by omega, fun r' hr'' => ⟨_, Sub.refl _, fin (by rw [pushM, if_neg (fun hh => by omega)]) r' hr''⟩⟩
    · simp -dsimp -implicitDefEqProofs (disch := omega) only [↓vcOps_sp 28, ↓vcD_sp 28, VC1, VC2, VC3, VC4, VC5, VC6, VC7, VC8, VC9, VC10, VC11, VC12, VC13, VC14, VC15, VC16, VC17, VC18, VC19, VC20, ↓upd_none, Nat.reduceEqDiff, Nat.reduceBEq, Nat.reduceAdd, Nat.reduceSub, Nat.reduceMul, Nat.reduceLT, Nat.reduceLeDiff, ↓reduceIte, reduceCtorEq, rsOf, rootsOf, SOp.rd, SI.rd, SX.rd, rdL, rdO, rdP, okParts, eqCells, okEqCells, fillA, okFill, setAt, implies_true, forall_const, forall_eq, ne_eq, exists_eq_right_right, exists_eq_right, exists_eq_left, exists_eq_left', eItem, eAttr, he0, he3, he6, hr', hlen.1, hlen.2]
      exact ⟨hn, by omega, by omega, fun r' hr'' => ⟨_, Sub.refl _, fin (by rw [pushM, if_neg (fun hh => hh.1 (by simpa using h1))]) r' hr''⟩⟩

theorem Acc.item {h h' : Heap} {l : List HItem} {a : AVal} (A : Acc h 25 3 (l.map eItem) a h') (hp : 0 < l.length) : ∃ r, h r = none ∧ h' r = some ⟨25, 3, l.map eItem⟩ ∧ a = .osl r 3 0 l.length := by
  obtain ⟨r, h1, h2, h3⟩ := A.pos (by simpa using hp)
  exact ⟨r, h1, h2, by simpa using h3⟩
def c10 : SFun := ⟨(.seq (.reg [⟨(some 3), (.boxF 25 3 (.t 1)), none⟩, ⟨(some 4), (.mv (.c .emp)), none⟩, ⟨(some 5), (.mv (.c (.int .i64 (0)))), none⟩]) (.seq (.dreg [(⟨(some 8), (.mv (.t 0)), none⟩, false), (⟨(some 10), (.ld 3 true (.t 3)), none⟩, false), (⟨(some 11), (.bldF 25 3 [(.t 10)]), none⟩, false), (⟨(some 9), (.call (.c (.fn 49 [] [])) [(.t 8)]), none⟩, true), (⟨(some 12), (.app 25 3 48 (.t 9) (.t 11)), none⟩, true), (⟨(some 13), (.call (.c (.fn 48 [] [])) [(.t 12)]), none⟩, true), (⟨(some 6), (.mv (.t 13)), none⟩, false)]) (.seq (.seq (.reg [⟨(some 14), (.mv (.t 6)), none⟩, ⟨(some 15), (.call (.c (.fn 16 [] [])) [(.t 14)]), none⟩, ⟨(some 7), (.mv (.t 15)), none⟩]) (.seq (.reg [⟨(some 16), (.mv (.t 7)), none⟩, ⟨(some 17), (.bin .neq (.t 16) (.c (.int .i64 (0)))), none⟩]) (.cond (.t 17) (.seq (.reg [⟨(some 18), (.mv (.t 7)), none⟩, ⟨(some 4), (.mv (.c .emp)), none⟩, ⟨(some 5), (.mv (.t 18)), none⟩]) .ret) .skip))) (.seq (.dreg [(⟨(some 19), (.mv (.t 6)), none⟩, false), (⟨(some 20), (.mv (.t 0)), none⟩, false), (⟨(some 21), (.len (.t 20)), none⟩, false), (⟨(some 22), (.slA 3 (.t 19) none (some (.t 21))), none⟩, false), (⟨(some 23), (.mv (.t 6)), none⟩, false), (⟨(some 24), (.mv (.t 0)), none⟩, false), (⟨(some 25), (.len (.t 24)), none⟩, false), (⟨(some 26), (.idxA 3 (.t 23) (.t 25)), none⟩, false), (⟨(some 27), (.ld 3 true (.t 26)), none⟩, false), (⟨(some 28), (.call (.c (.fn 50 [] [])) [(.t 22), (.t 27)]), none⟩, true), (⟨(some 4), (.mv (.t 28)), none⟩, false), (⟨(some 5), (.mv (.c (.int .i64 (0)))), none⟩, false)]) .ret)))), [(.tmp 4), (.tmp 5)]⟩
theorem hc10 : toSF Try.prog {} Try.f10 = some c10 := by kernel_rfl
theorem hn10 : (Try.f10.name == "runtime.NumGoroutine") = false := by kernel_rfl
theorem push_acc {h : Heap} (l : List HItem) (x : HItem) (hl : l.length ≤ 1000) (hs : ∀ y ∈ l, y.attrs.length ≤ 1073741824) (hx : x.attrs.length ≤ 1073741824) :
    DCalls Try.prog 10 [sl eItem l, .agg (eItem x)] h fun a h' => ∃ a0, a = .tup (a0 :: [aInt (checkM (l ++ [x]))]) ∧ AccK h 25 3 ((if checkM (l ++ [x]) = 0 then pushM l x else []).map eItem) a0 h' := by
  refine dcalls_of_vc Try.func10 hn10 hc10 (by rw [Try.ntmps10]; simp) ?_
  simp -dsimp -implicitDefEqProofs (disch := omega) only [VC1, VC2, VC3, VC4, VC5, VC6, VC7, VC8, VC9, VC10, VC11, VC12, VC13, VC14, VC15, VC16, VC17, VC18, VC19, VC20, ↓upd_none, Nat.reduceEqDiff, Nat.reduceBEq, Nat.reduceAdd, Nat.reduceSub, Nat.reduceMul, Nat.reduceLT, Nat.reduceLeDiff, ↓reduceIte, reduceCtorEq, rsOf, rootsOf, SOp.rd, SI.rd, SX.rd, rdL, rdO, rdP, okParts, eqCells, okEqCells, fillA, okFill, setAt, implies_true, forall_const, forall_eq, ne_eq, exists_eq_right_right, exists_eq_right, exists_eq_left, exists_eq_left', eItem, eAttr, c10]
  refine DCalls.of (cloneI_own l (by omega)) ?_
  rintro a h1 ⟨A, S⟩
  simp -dsimp -implicitDefEqProofs (disch := omega) only [VC1, VC2, VC3, VC4, VC5, VC6, VC7, VC8, VC9, VC10, VC11, VC12, VC13, VC14, VC15, VC16, VC17, VC18, VC19, VC20, ↓upd_none, Nat.reduceEqDiff, Nat.reduceBEq, Nat.reduceAdd, Nat.reduceSub, Nat.reduceMul, Nat.reduceLT, Nat.reduceLeDiff, ↓reduceIte, reduceCtorEq, rsOf, rootsOf, SOp.rd, SI.rd, SX.rd, rdL, rdO, rdP, okParts, eqCells, okEqCells, fillA, okFill, setAt, implies_true, forall_const, forall_eq, ne_eq, exists_eq_right_right, exists_eq_right, exists_eq_left, exists_eq_left', eItem, eAttr]
  refine A.app S (by simp; omega) (by simp; omega) fun a2 h2 A2 S2 => ?_
  obtain ⟨r, h0r, hr, rfl⟩ := Acc.item (l := l ++ [x]) (by rw [List.map_append]; exact A2) (by simp)
  have hs2 : ∀ y ∈ l ++ [x], y.attrs.length ≤ 1073741824 := by
    intro y hy
    rcases List.mem_append.1 hy with h | h
    · exact hs y h
    · simp at h; subst h; exact hx
  simp -dsimp -implicitDefEqProofs (disch := omega) only [VC1, VC2, VC3, VC4, VC5, VC6, VC7, VC8, VC9, VC10, VC11, VC12, VC13, VC14, VC15, VC16, VC17, VC18, VC19, VC20, ↓upd_none, Nat.reduceEqDiff, Nat.reduceBEq, Nat.reduceAdd, Nat.reduceSub, Nat.reduceMul, Nat.reduceLT, Nat.reduceLeDiff, ↓reduceIte, reduceCtorEq, rsOf, rootsOf, SOp.rd, SI.rd, SX.rd, rdL, rdO, rdP, okParts, eqCells, okEqCells, fillA, okFill, setAt, implies_true, forall_const, forall_eq, ne_eq, exists_eq_right_right, exists_eq_right, exists_eq_left, exists_eq_left', eItem, eAttr]
  have htk : (List.map eItem (l ++ [x])).take (l ++ [x]).length = List.map eItem (l ++ [x]) := by rw [List.take_of_length_le (by simp)]
  refine DCalls.fz1 (L := l ++ [x]) hr (by simp) htk ((own_own (l ++ [x]) (by simp; omega) hs2).mono ?_)
  rintro a3 h3 ⟨A3, S3⟩
  have S3' : Sub h h3 := (S2.del h0r).trans S3
  obtain ⟨r3, h0r3, hr3, rfl⟩ := Acc.item A3 (by simp)
  have h0r3' : h r3 = none := (S2.del h0r).none h0r3
  simp -dsimp -implicitDefEqProofs (disch := omega) only [VC1, VC2, VC3, VC4, VC5, VC6, VC7, VC8, VC9, VC10, VC11, VC12, VC13, VC14, VC15, VC16, VC17, VC18, VC19, VC20, ↓upd_none, Nat.reduceEqDiff, Nat.reduceBEq, Nat.reduceAdd, Nat.reduceSub, Nat.reduceMul, Nat.reduceLT, Nat.reduceLeDiff, ↓reduceIte, reduceCtorEq, rsOf, rootsOf, SOp.rd, SI.rd, SX.rd, rdL, rdO, rdP, okParts, eqCells, okEqCells, fillA, okFill, setAt, implies_true, forall_const, forall_eq, ne_eq, exists_eq_right_right, exists_eq_right, exists_eq_left, exists_eq_left', eItem, eAttr]
  refine PCalls.borrow1 (check_ok (l ++ [x]) (by simp; omega)) (.int _ _) hr3 (by simp) htk ?_
  simp -dsimp -implicitDefEqProofs (disch := omega) only [VC1, VC2, VC3, VC4, VC5, VC6, VC7, VC8, VC9, VC10, VC11, VC12, VC13, VC14, VC15, VC16, VC17, VC18, VC19, VC20, ↓upd_none, Nat.reduceEqDiff, Nat.reduceBEq, Nat.reduceAdd, Nat.reduceSub, Nat.reduceMul, Nat.reduceLT, Nat.reduceLeDiff, ↓reduceIte, reduceCtorEq, rsOf, rootsOf, SOp.rd, SI.rd, SX.rd, rdL, rdO, rdP, okParts, eqCells, okEqCells, fillA, okFill, setAt, implies_true, forall_const, forall_eq, ne_eq, exists_eq_right_right, exists_eq_right, exists_eq_left, exists_eq_left', eItem, eAttr]
  refine Br.ne (fun hc => ?_) (fun hc => ?_)
  · simp -dsimp -implicitDefEqProofs (disch := omega) only [VC1, VC2, VC3, VC4, VC5, VC6, VC7, VC8, VC9, VC10, VC11, VC12, VC13, VC14, VC15, VC16, VC17, VC18, VC19, VC20, ↓upd_none, Nat.reduceEqDiff, Nat.reduceBEq, Nat.reduceAdd, Nat.reduceSub, Nat.reduceMul, Nat.reduceLT, Nat.reduceLeDiff, ↓reduceIte, reduceCtorEq, rsOf, rootsOf, SOp.rd, SI.rd, SX.rd, rdL, rdO, rdP, okParts, eqCells, okEqCells, fillA, okFill, setAt, implies_true, forall_const, forall_eq, ne_eq, exists_eq_right_right, exists_eq_right, exists_eq_left, exists_eq_left', eItem, eAttr]
    rw [if_neg hc]
    exact ⟨_, Sub.refl _, _, rfl, Acc.nil, S3'⟩
  · have hg : (List.map eItem (l ++ [x])).getD l.length [] = eItem x := by simp
    have ht2 : (List.map eItem (l ++ [x])).take l.length = List.map eItem l := by simp
    have hle : (l ++ [x]).length = l.length + 1 := by simp
    simp -dsimp -implicitDefEqProofs (disch := omega) only [VC1, VC2, VC3, VC4, VC5, VC6, VC7, VC8, VC9, VC10, VC11, VC12, VC13, VC14, VC15, VC16, VC17, VC18, VC19, VC20, ↓upd_none, Nat.reduceEqDiff, Nat.reduceBEq, Nat.reduceAdd, Nat.reduceSub, Nat.reduceMul, Nat.reduceLT, Nat.reduceLeDiff, ↓reduceIte, reduceCtorEq, rsOf, rootsOf, SOp.rd, SI.rd, SX.rd, rdL, rdO, rdP, okParts, eqCells, okEqCells, fillA, okFill, setAt, implies_true, forall_const, forall_eq, ne_eq, exists_eq_right_right, exists_eq_right, exists_eq_left, exists_eq_left', eItem, eAttr, hr3, hg]
    refine ⟨by omega, by omega, by omega, DCalls.of (pushed_ok l x h0r3' S3' hr3 (by simp) ht2 (by simp; omega) hs hx) ?_⟩
    rintro a4 h4 ⟨A4, S4⟩
    simp -dsimp -implicitDefEqProofs (disch := omega) only [VC1, VC2, VC3, VC4, VC5, VC6, VC7, VC8, VC9, VC10, VC11, VC12, VC13, VC14, VC15, VC16, VC17, VC18, VC19, VC20, ↓upd_none, Nat.reduceEqDiff, Nat.reduceBEq, Nat.reduceAdd, Nat.reduceSub, Nat.reduceMul, Nat.reduceLT, Nat.reduceLeDiff, ↓reduceIte, reduceCtorEq, rsOf, rootsOf, SOp.rd, SI.rd, SX.rd, rdL, rdO, rdP, okParts, eqCells, okEqCells, fillA, okFill, setAt, implies_true, forall_const, forall_eq, ne_eq, exists_eq_right_right, exists_eq_right, exists_eq_left, exists_eq_left', eItem, eAttr]
    rw [if_pos hc]
    exact ⟨_, Sub.refl _, _, by rw [hc], A4, S4⟩
end Go.Proofs.K
