import Derived.Test.YtlehoolkjkdncaaAct3
set_option linter.unusedSimpArgs false
set_option linter.unusedVariables false
namespace Go.Proofs.K
open Go Go.Sim Go.Proofs

theorem push_ok (l : List HItem) (x : HItem) (hl : l.length ≤ 1000) (hs : ∀ y ∈ l, y.attrs.length ≤ 1073741824) (hx : x.attrs.length ≤ 1073741824) :
    PCalls Try.prog 10 [sl eItem l, .agg (eItem x)] (.tup [sl eItem (if checkM (l ++ [x]) = 0 then pushM l x else []), aInt (checkM (l ++ [x]))]) :=
  PCalls.accT fun h => push_acc l x hl hs hx

def clearM (l : List HItem) : List HItem := l.take (lastM l - 1)
def c51 : SFun := ⟨(.seq (.reg [⟨(some 2), (.mv (.c .emp)), none⟩]) (.seq (.reg [⟨(some 3), (.mv (.t 0)), none⟩, ⟨(some 4), (.mv (.t 0)), none⟩, ⟨(some 5), (.call (.c (.fn 86 [] [])) [(.t 4)]), none⟩, ⟨(some 6), (.bin .sub (.t 5) (.c (.int .i64 (1)))), none⟩, ⟨(some 7), (.max2 (.t 6) (.c (.int .i64 (0)))), none⟩, ⟨(some 8), (.slA 3 (.t 3) none (some (.t 7))), none⟩, ⟨(some 2), (.mv (.t 8)), none⟩]) .ret)), [(.tmp 2)]⟩
theorem hc51 : toSF Try.prog {} Try.f51 = some c51 := by kernel_rfl
theorem hn51 : (Try.f51.name == "runtime.NumGoroutine") = false := by kernel_rfl
theorem cleared_ok {h : Heap} {r : Nat} (l : List HItem) (hr : h r = some ⟨25, 3, l.map eItem⟩) (hl : l.length ≤ 1073741824) :
    DCalls Try.prog 51 [.osl r 3 0 l.length] h fun a h' => a = .osl r 3 0 (lastM l - 1) ∧ h' = h := by
  refine dcalls_of_vc Try.func51 hn51 hc51 (by rw [Try.ntmps51]; simp) ?_
  simp -dsimp -implicitDefEqProofs (disch := omega) only [VC1, VC2, VC3, VC4, VC5, VC6, VC7, VC8, VC9, VC10, VC11, VC12, VC13, VC14, VC15, VC16, VC17, VC18, VC19, VC20, ↓upd_none, Nat.reduceEqDiff, Nat.reduceBEq, Nat.reduceAdd, Nat.reduceSub, Nat.reduceMul, Nat.reduceLT, Nat.reduceLeDiff, ↓reduceIte, reduceCtorEq, rsOf, rootsOf, SOp.rd, SI.rd, SX.rd, rdL, rdO, rdP, okParts, eqCells, okEqCells, fillA, okFill, setAt, implies_true, forall_const, forall_eq, ne_eq, exists_eq_right_right, exists_eq_right, exists_eq_left, exists_eq_left', eItem, eAttr, c51]
  have htk : (l.map eItem).take l.length = l.map eItem := by rw [List.take_of_length_le (by simp)]
  have hla := (lastM_is l).1
  refine PCalls.borrow1 (last_ok l hl) (.int _ _) hr (by simp) htk ?_
  simp -dsimp -implicitDefEqProofs (disch := omega) only [VC1, VC2, VC3, VC4, VC5, VC6, VC7, VC8, VC9, VC10, VC11, VC12, VC13, VC14, VC15, VC16, VC17, VC18, VC19, VC20, ↓upd_none, Nat.reduceEqDiff, Nat.reduceBEq, Nat.reduceAdd, Nat.reduceSub, Nat.reduceMul, Nat.reduceLT, Nat.reduceLeDiff, ↓reduceIte, reduceCtorEq, rsOf, rootsOf, SOp.rd, SI.rd, SX.rd, rdL, rdO, rdP, okParts, eqCells, okEqCells, fillA, okFill, setAt, implies_true, forall_const, forall_eq, ne_eq, exists_eq_right_right, exists_eq_right, exists_eq_left, exists_eq_left', eItem, eAttr]
  refine ⟨by omega, Sub.refl _, ?_⟩
  congr 1
  omega
theorem cleared_nil {h : Heap} : DCalls Try.prog 51 [.emp] h fun a h' => a = .emp ∧ h' = h := by
  refine dcalls_of_vc Try.func51 hn51 hc51 (by rw [Try.ntmps51]; simp) ?_
  simp -dsimp -implicitDefEqProofs (disch := omega) only [VC1, VC2, VC3, VC4, VC5, VC6, VC7, VC8, VC9, VC10, VC11, VC12, VC13, VC14, VC15, VC16, VC17, VC18, VC19, VC20, ↓upd_none, Nat.reduceEqDiff, Nat.reduceBEq, Nat.reduceAdd, Nat.reduceSub, Nat.reduceMul, Nat.reduceLT, Nat.reduceLeDiff, ↓reduceIte, reduceCtorEq, rsOf, rootsOf, SOp.rd, SI.rd, SX.rd, rdL, rdO, rdP, okParts, eqCells, okEqCells, fillA, okFill, setAt, implies_true, forall_const, forall_eq, ne_eq, exists_eq_right_right, exists_eq_right, exists_eq_left, exists_eq_left', eItem, eAttr, c51]
  refine PCalls.of (PCalls.weak (args' := [sl eItem []]) (last_ok [] (by simp)) rfl ?_) ?_
  · intro j a b ha hb
    cases j with
    | zero => simp only [List.getElem?_cons_zero, Option.some.injEq] at ha hb; subst ha hb; exact .emp
    | succ j => simp at ha
  · simp -dsimp -implicitDefEqProofs (disch := omega) only [VC1, VC2, VC3, VC4, VC5, VC6, VC7, VC8, VC9, VC10, VC11, VC12, VC13, VC14, VC15, VC16, VC17, VC18, VC19, VC20, ↓upd_none, Nat.reduceEqDiff, Nat.reduceBEq, Nat.reduceAdd, Nat.reduceSub, Nat.reduceMul, Nat.reduceLT, Nat.reduceLeDiff, ↓reduceIte, reduceCtorEq, rsOf, rootsOf, SOp.rd, SI.rd, SX.rd, rdL, rdO, rdP, okParts, eqCells, okEqCells, fillA, okFill, setAt, implies_true, forall_const, forall_eq, ne_eq, exists_eq_right_right, exists_eq_right, exists_eq_left, exists_eq_left', eItem, eAttr, lastM]
    exact ⟨by decide, Sub.refl _⟩
def c11 : SFun := ⟨(.seq (.reg [⟨(some 2), (.mv (.c .emp)), none⟩, ⟨(some 3), (.mv (.c (.int .i64 (0)))), none⟩]) (.seq (.seq (.reg [⟨(some 5), (.mv (.t 0)), none⟩, ⟨(some 6), (.pcall 16 [(.t 5)]), none⟩, ⟨(some 4), (.mv (.t 6)), none⟩]) (.seq (.reg [⟨(some 7), (.mv (.t 4)), none⟩, ⟨(some 8), (.bin .neq (.t 7) (.c (.int .i64 (0)))), none⟩]) (.cond (.t 8) (.seq (.reg [⟨(some 9), (.mv (.t 4)), none⟩, ⟨(some 2), (.mv (.c .emp)), none⟩, ⟨(some 3), (.mv (.t 9)), none⟩]) .ret) .skip))) (.seq (.reg [⟨(some 10), (.mv (.t 0)), none⟩, ⟨(some 11), (.call (.c (.fn 48 [] [])) [(.t 10)]), none⟩, ⟨(some 12), (.call (.c (.fn 51 [] [])) [(.t 11)]), none⟩, ⟨(some 2), (.mv (.t 12)), none⟩, ⟨(some 3), (.mv (.c (.int .i64 (0)))), none⟩]) .ret))), [(.tmp 2), (.tmp 3)]⟩
theorem hc11 : toSF Try.prog {pure := [16]} Try.f11 = some c11 := by kernel_rfl
theorem hn11 : (Try.f11.name == "runtime.NumGoroutine") = false := by kernel_rfl
theorem clear_ok (l : List HItem) (hl : l.length ≤ 1000) (hs : ∀ y ∈ l, y.attrs.length ≤ 1073741824) :
    PCalls Try.prog 11 [sl eItem l] (.tup [sl eItem (if checkM l = 0 then clearM l else []), aInt (checkM l)]) := PCalls.outT (sz := 3) fun h => by
  refine dcalls_of_vc Try.func11 hn11 hc11 (by rw [Try.ntmps11]; simp) ?_
  simp -dsimp -implicitDefEqProofs (disch := omega) only [VC1, VC2, VC3, VC4, VC5, VC6, VC7, VC8, VC9, VC10, VC11, VC12, VC13, VC14, VC15, VC16, VC17, VC18, VC19, VC20, ↓upd_none, Nat.reduceEqDiff, Nat.reduceBEq, Nat.reduceAdd, Nat.reduceSub, Nat.reduceMul, Nat.reduceLT, Nat.reduceLeDiff, ↓reduceIte, reduceCtorEq, rsOf, rootsOf, SOp.rd, SI.rd, SX.rd, rdL, rdO, rdP, okParts, eqCells, okEqCells, fillA, okFill, setAt, implies_true, forall_const, forall_eq, ne_eq, exists_eq_right_right, exists_eq_right, exists_eq_left, exists_eq_left', eItem, eAttr, c11]
  refine pcallE.of (check_ok l (by omega)) ?_; simp -dsimp -implicitDefEqProofs (disch := omega) only [VC1, VC2, VC3, VC4, VC5, VC6, VC7, VC8, VC9, VC10, VC11, VC12, VC13, VC14, VC15, VC16, VC17, VC18, VC19, VC20, ↓upd_none, Nat.reduceEqDiff, Nat.reduceBEq, Nat.reduceAdd, Nat.reduceSub, Nat.reduceMul, Nat.reduceLT, Nat.reduceLeDiff, ↓reduceIte, reduceCtorEq, rsOf, rootsOf, SOp.rd, SI.rd, SX.rd, rdL, rdO, rdP, okParts, eqCells, okEqCells, fillA, okFill, setAt, implies_true, forall_const, forall_eq, ne_eq, exists_eq_right_right, exists_eq_right, exists_eq_left, exists_eq_left', eItem, eAttr]
  refine Br.ne (fun hc => ?_) (fun hc => ?_)
  · simp -dsimp -implicitDefEqProofs (disch := omega) only [VC1, VC2, VC3, VC4, VC5, VC6, VC7, VC8, VC9, VC10, VC11, VC12, VC13, VC14, VC15, VC16, VC17, VC18, VC19, VC20, ↓upd_none, Nat.reduceEqDiff, Nat.reduceBEq, Nat.reduceAdd, Nat.reduceSub, Nat.reduceMul, Nat.reduceLT, Nat.reduceLeDiff, ↓reduceIte, reduceCtorEq, rsOf, rootsOf, SOp.rd, SI.rd, SX.rd, rdL, rdO, rdP, okParts, eqCells, okEqCells, fillA, okFill, setAt, implies_true, forall_const, forall_eq, ne_eq, exists_eq_right_right, exists_eq_right, exists_eq_left, exists_eq_left', eItem, eAttr]
    rw [if_neg hc]
    exact ⟨_, Sub.refl _, _, rfl, .inl ⟨rfl, rfl, rfl⟩⟩
  · simp -dsimp -implicitDefEqProofs (disch := omega) only [VC1, VC2, VC3, VC4, VC5, VC6, VC7, VC8, VC9, VC10, VC11, VC12, VC13, VC14, VC15, VC16, VC17, VC18, VC19, VC20, ↓upd_none, Nat.reduceEqDiff, Nat.reduceBEq, Nat.reduceAdd, Nat.reduceSub, Nat.reduceMul, Nat.reduceLT, Nat.reduceLeDiff, ↓reduceIte, reduceCtorEq, rsOf, rootsOf, SOp.rd, SI.rd, SX.rd, rdL, rdO, rdP, okParts, eqCells, okEqCells, fillA, okFill, setAt, implies_true, forall_const, forall_eq, ne_eq, exists_eq_right_right, exists_eq_right, exists_eq_left, exists_eq_left', eItem, eAttr]
    refine DCalls.of (own_own l (by omega) hs) ?_
    rintro a h1 ⟨A, S⟩
    rw [if_pos hc, hc]
    have hla := (lastM_is l).1
    rcases A with ⟨h0, rfl⟩ | ⟨r, h0, hr, rfl⟩
    · have : l = [] := by simpa using h0
      subst this
      simp -dsimp -implicitDefEqProofs (disch := omega) only [VC1, VC2, VC3, VC4, VC5, VC6, VC7, VC8, VC9, VC10, VC11, VC12, VC13, VC14, VC15, VC16, VC17, VC18, VC19, VC20, ↓upd_none, Nat.reduceEqDiff, Nat.reduceBEq, Nat.reduceAdd, Nat.reduceSub, Nat.reduceMul, Nat.reduceLT, Nat.reduceLeDiff, ↓reduceIte, reduceCtorEq, rsOf, rootsOf, SOp.rd, SI.rd, SX.rd, rdL, rdO, rdP, okParts, eqCells, okEqCells, fillA, okFill, setAt, implies_true, forall_const, forall_eq, ne_eq, exists_eq_right_right, exists_eq_right, exists_eq_left, exists_eq_left', eItem, eAttr]
      refine DCalls.of cleared_nil ?_
      rintro a h2 ⟨rfl, rfl⟩
      simp -dsimp -implicitDefEqProofs (disch := omega) only [VC1, VC2, VC3, VC4, VC5, VC6, VC7, VC8, VC9, VC10, VC11, VC12, VC13, VC14, VC15, VC16, VC17, VC18, VC19, VC20, ↓upd_none, Nat.reduceEqDiff, Nat.reduceBEq, Nat.reduceAdd, Nat.reduceSub, Nat.reduceMul, Nat.reduceLT, Nat.reduceLeDiff, ↓reduceIte, reduceCtorEq, rsOf, rootsOf, SOp.rd, SI.rd, SX.rd, rdL, rdO, rdP, okParts, eqCells, okEqCells, fillA, okFill, setAt, implies_true, forall_const, forall_eq, ne_eq, exists_eq_right_right, exists_eq_right, exists_eq_left, exists_eq_left', eItem, eAttr]
      exact ⟨h, S, _, rfl, .inl ⟨rfl, rfl, rfl⟩⟩
    · simp -dsimp -implicitDefEqProofs (disch := omega) only [VC1, VC2, VC3, VC4, VC5, VC6, VC7, VC8, VC9, VC10, VC11, VC12, VC13, VC14, VC15, VC16, VC17, VC18, VC19, VC20, ↓upd_none, Nat.reduceEqDiff, Nat.reduceBEq, Nat.reduceAdd, Nat.reduceSub, Nat.reduceMul, Nat.reduceLT, Nat.reduceLeDiff, ↓reduceIte, reduceCtorEq, rsOf, rootsOf, SOp.rd, SI.rd, SX.rd, rdL, rdO, rdP, okParts, eqCells, okEqCells, fillA, okFill, setAt, implies_true, forall_const, forall_eq, ne_eq, exists_eq_right_right, exists_eq_right, exists_eq_left, exists_eq_left', eItem, eAttr]
      refine DCalls.of (cleared_ok l hr (by omega)) ?_
      rintro a h2 ⟨rfl, rfl⟩
      simp -dsimp -implicitDefEqProofs (disch := omega) only [VC1, VC2, VC3, VC4, VC5, VC6, VC7, VC8, VC9, VC10, VC11, VC12, VC13, VC14, VC15, VC16, VC17, VC18, VC19, VC20, ↓upd_none, Nat.reduceEqDiff, Nat.reduceBEq, Nat.reduceAdd, Nat.reduceSub, Nat.reduceMul, Nat.reduceLT, Nat.reduceLeDiff, ↓reduceIte, reduceCtorEq, rsOf, rootsOf, SOp.rd, SI.rd, SX.rd, rdL, rdO, rdP, okParts, eqCells, okEqCells, fillA, okFill, setAt, implies_true, forall_const, forall_eq, ne_eq, exists_eq_right_right, exists_eq_right, exists_eq_left, exists_eq_left', eItem, eAttr]
      refine ⟨_, S.put hr, _, rfl, .inr ⟨r, _, 0, _, h0, rfl, rfl, by simp; omega, ?_⟩⟩
      simp [clearM, List.map_take]

def c14 : SFun := ⟨(.seq (.reg [⟨(some 2), (.mv (.c .emp)), none⟩]) (.seq (.reg [⟨(some 6), (.mv (.t 0)), none⟩, ⟨(some 7), (.pcall 52 [(.t 6)]), none⟩, ⟨(some 5), (.mv (.t 7)), none⟩, ⟨(some 8), (.ext (.t 5) 0), none⟩, ⟨(some 9), (.ext (.t 5) 1), none⟩, ⟨(some 3), (.mv (.t 8)), none⟩, ⟨(some 4), (.mv (.t 9)), none⟩]) (.seq (.seq (.reg [⟨(some 10), (.mv (.t 3)), none⟩, ⟨(some 11), (.len (.t 10)), none⟩, ⟨(some 12), (.bin .eql (.t 11) (.c (.int .i64 (0)))), none⟩]) (.cond (.t 12) (.seq (.reg [⟨(some 2), (.mv (.c .emp)), none⟩]) .ret) .skip)) (.seq (.reg [⟨(some 13), (.bldF 25 3 []), none⟩, ⟨(some 14), (.mv (.t 3)), none⟩, ⟨(some 15), (.mv (.t 3)), none⟩, ⟨(some 16), (.len (.t 15)), none⟩, ⟨(some 17), (.bin .sub (.t 16) (.c (.int .i64 (1)))), none⟩, ⟨(some 18), (.slA 3 (.t 14) none (some (.t 17))), none⟩, ⟨(some 19), (.app 25 3 48 (.t 13) (.t 18)), none⟩, ⟨(some 2), (.mv (.t 19)), none⟩]) .ret)))), [(.tmp 2)]⟩
theorem hc14 : toSF Try.prog {pure := [52]} Try.f14 = some c14 := by kernel_rfl
theorem hn14 : (Try.f14.name == "runtime.NumGoroutine") = false := by kernel_rfl
theorem clear2_ok (l : List HItem) (hl : l.length ≤ 1073741824) : PCalls Try.prog 14 [sl eItem l] (sl eItem (clearM l)) := PCalls.acc (ty := 25) (sz := 3) fun h => by
  refine dcalls_of_vc Try.func14 hn14 hc14 (by rw [Try.ntmps14]; simp) ?_
  simp -dsimp -implicitDefEqProofs (disch := omega) only [VC1, VC2, VC3, VC4, VC5, VC6, VC7, VC8, VC9, VC10, VC11, VC12, VC13, VC14, VC15, VC16, VC17, VC18, VC19, VC20, ↓upd_none, Nat.reduceEqDiff, Nat.reduceBEq, Nat.reduceAdd, Nat.reduceSub, Nat.reduceMul, Nat.reduceLT, Nat.reduceLeDiff, ↓reduceIte, reduceCtorEq, rsOf, rootsOf, SOp.rd, SI.rd, SX.rd, rdL, rdO, rdP, okParts, eqCells, okEqCells, fillA, okFill, setAt, implies_true, forall_const, forall_eq, ne_eq, exists_eq_right_right, exists_eq_right, exists_eq_left, exists_eq_left', eItem, eAttr, c14]
  refine pcallE.of (parted_ok l hl) ?_; simp -dsimp -implicitDefEqProofs (disch := omega) only [VC1, VC2, VC3, VC4, VC5, VC6, VC7, VC8, VC9, VC10, VC11, VC12, VC13, VC14, VC15, VC16, VC17, VC18, VC19, VC20, ↓upd_none, Nat.reduceEqDiff, Nat.reduceBEq, Nat.reduceAdd, Nat.reduceSub, Nat.reduceMul, Nat.reduceLT, Nat.reduceLeDiff, ↓reduceIte, reduceCtorEq, rsOf, rootsOf, SOp.rd, SI.rd, SX.rd, rdL, rdO, rdP, okParts, eqCells, okEqCells, fillA, okFill, setAt, implies_true, forall_const, forall_eq, ne_eq, exists_eq_right_right, exists_eq_right, exists_eq_left, exists_eq_left', eItem, eAttr]
  have hla := (lastM_is l).1
  have hlen : (l.take (lastM l)).length = lastM l := by simp; omega
  rw [hlen]
  refine Br.eq (fun h1 => ?_) (fun h1 => ?_)
  · simp -dsimp -implicitDefEqProofs (disch := omega) only [VC1, VC2, VC3, VC4, VC5, VC6, VC7, VC8, VC9, VC10, VC11, VC12, VC13, VC14, VC15, VC16, VC17, VC18, VC19, VC20, ↓upd_none, Nat.reduceEqDiff, Nat.reduceBEq, Nat.reduceAdd, Nat.reduceSub, Nat.reduceMul, Nat.reduceLT, Nat.reduceLeDiff, ↓reduceIte, reduceCtorEq, rsOf, rootsOf, SOp.rd, SI.rd, SX.rd, rdL, rdO, rdP, okParts, eqCells, okEqCells, fillA, okFill, setAt, implies_true, forall_const, forall_eq, ne_eq, exists_eq_right_right, exists_eq_right, exists_eq_left, exists_eq_left', eItem, eAttr]
    have : clearM l = [] := by simp [clearM]; omega
    rw [this]
    exact ⟨_, Sub.refl _, Acc.nil, Sub.refl _⟩
  · simp -dsimp -implicitDefEqProofs (disch := omega) only [VC1, VC2, VC3, VC4, VC5, VC6, VC7, VC8, VC9, VC10, VC11, VC12, VC13, VC14, VC15, VC16, VC17, VC18, VC19, VC20, ↓upd_none, Nat.reduceEqDiff, Nat.reduceBEq, Nat.reduceAdd, Nat.reduceSub, Nat.reduceMul, Nat.reduceLT, Nat.reduceLeDiff, ↓reduceIte, reduceCtorEq, rsOf, rootsOf, SOp.rd, SI.rd, SX.rd, rdL, rdO, rdP, okParts, eqCells, okEqCells, fillA, okFill, setAt, implies_true, forall_const, forall_eq, ne_eq, exists_eq_right_right, exists_eq_right, exists_eq_left, exists_eq_left', eItem, eAttr]
    rw [hlen]
    have hn : ((lastM l : Int) - 1).toNat = lastM l - 1 := by omega
    have hc : List.take (lastM l - 1) (List.take (lastM l) l) = clearM l := by rw [List.take_take, Nat.min_eq_left (by omega)]; rfl
    have hcl : (clearM l).length ≤ 1073741824 := by simp [clearM]; omega
    rw [hn, hc]
    refine ⟨by omega, by omega, by omega, fun r hr => ⟨_, Sub.refl _, ?_, (Sub.refl _).upd hr⟩⟩
    exact .inr ⟨r, hr, upd_same _ _ _, by simp⟩

theorem nth_drop {α : Type} [Inhabited α] (l : List α) (a k : Nat) : nth (l.drop a) k = nth l (a + k) := by
  simp [nth, List.getD_eq_getElem?_getD, List.getElem?_drop]
def firstI (ks : List Nat) (a : Nat) : Int := match ks with | [] => -1 | c :: _ => (c : Int) - a
theorem sameM_ge {l : List HItem} {x : HItem} {k c : Nat} (h : c ∈ sameM l x k) : lastM l ≤ c ∧ c < k := by
  simp [sameM] at h; omega
theorem firstI_neg {l : List HItem} {x : HItem} {k : Nat} (h : firstI (sameM l x k) (lastM l) < 0) : sameM l x k = [] := by
  cases hc : sameM l x k with
  | nil => rfl
  | cons c cs =>
    have := (sameM_ge (l := l) (x := x) (k := k) (c := c) (by rw [hc]; simp)).1
    rw [hc] at h; simp only [firstI] at h; omega
theorem firstI_app {ks : List Nat} {a j : Nat} (h : 0 ≤ firstI ks a) : firstI (ks ++ [j]) a = firstI ks a := by
  cases ks with
  | nil => simp [firstI] at h
  | cons c cs => rfl
/-- what is kept of the first j of the last ones -/
def keepM (l : List HItem) (x : HItem) (j : Nat) : List HItem :=
  if x.node ≠ -1 ∧ 3 ≤ (sameM l x l.length).length then ((l.drop (lastM l)).take j).eraseIdx ((sameM l x l.length).headD 0 - lastM l) else (l.drop (lastM l)).take j
theorem take_snoc {α : Type} [Inhabited α] {l : List α} {j : Nat} (h : j < l.length) : l.take (j + 1) = l.take j ++ [nth l j] := by
  rw [List.take_add_one, nth_some h]; rfl
theorem keepM_on {l : List HItem} {x : HItem} {j : Nat} (hj : j < (l.drop (lastM l)).length) (h : ¬ (x.node ≠ -1 ∧ 3 ≤ (sameM l x l.length).length) ∨ (j : Int) ≠ firstI (sameM l x l.length) (lastM l)) :
    keepM l x (j + 1) = keepM l x j ++ [nth (l.drop (lastM l)) j] := by
  unfold keepM
  split
  · rename_i hD
    rcases h with h | h
    · exact absurd hD h
    · rw [take_snoc hj]
      cases hc : sameM l x l.length with
      | nil => rw [hc] at hD; simp at hD
      | cons c cs =>
        have hge := (sameM_ge (l := l) (x := x) (k := l.length) (c := c) (by rw [hc]; simp)).1
        rw [hc] at h; simp only [firstI] at h
        simp only [List.headD_cons]
        have hl : ((l.drop (lastM l)).take j).length = j := by rw [List.length_take]; omega
        by_cases hlt : c - lastM l < j
        · rw [List.eraseIdx_append_of_lt_length (by omega)]
        · rw [List.eraseIdx_of_length_le (by rw [List.length_append, hl]; simp; omega), List.eraseIdx_of_length_le (by omega)]
  · exact take_snoc hj
theorem keepM_off {l : List HItem} {x : HItem} {j : Nat} (hj : j < (l.drop (lastM l)).length) (hD : x.node ≠ -1 ∧ 3 ≤ (sameM l x l.length).length) (h : (j : Int) = firstI (sameM l x l.length) (lastM l)) : keepM l x (j + 1) = keepM l x j := by
  unfold keepM
  rw [if_pos hD, if_pos hD, take_snoc hj]
  cases hc : sameM l x l.length with
  | nil => rw [hc] at hD; simp at hD
  | cons c cs =>
    have hge := (sameM_ge (l := l) (x := x) (k := l.length) (c := c) (by rw [hc]; simp)).1
    rw [hc] at h; simp only [firstI] at h
    simp only [List.headD_cons]
    have hl : ((l.drop (lastM l)).take j).length = j := by rw [List.length_take]; omega
    have e1 : c - lastM l = j := by omega
    have e2 : ((l.drop (lastM l)).take j).eraseIdx j = (l.drop (lastM l)).take j := List.eraseIdx_of_length_le (by omega)
    rw [e1, e2, List.eraseIdx_append_of_length_le (by omega), hl, Nat.sub_self]
    simp
theorem keepM_all (l : List HItem) (x : HItem) : l.take (lastM l) ++ keepM l x (l.drop (lastM l)).length ++ [x] = pushM l x := by
  have hla := (lastM_is l).1
  unfold keepM pushM
  rw [List.take_length]
  split
  · rename_i hD
    cases hc : sameM l x l.length with
    | nil => rw [hc] at hD; simp at hD
    | cons c cs =>
      have hge := (sameM_ge (l := l) (x := x) (k := l.length) (c := c) (by rw [hc]; simp)).1
      simp only [List.headD_cons]
      have hl : (l.take (lastM l)).length = lastM l := by simp; omega
      have := List.eraseIdx_append_of_length_le (l := l.take (lastM l)) (k := c) (by omega) (l.drop (lastM l))
      rw [List.take_append_drop, hl] at this
      rw [this]
  · rw [List.take_append_drop]

def c13 : SFun := ⟨(.seq (.reg [⟨(some 3), (.boxF 25 3 (.t 1)), none⟩, ⟨(some 4), (.mv (.c .emp)), none⟩]) (.seq (.reg [⟨(some 13), (.mv (.t 0)), none⟩, ⟨(some 14), (.pcall 52 [(.t 13)]), none⟩, ⟨(some 12), (.mv (.t 14)), none⟩, ⟨(some 15), (.ext (.t 12) 0), none⟩, ⟨(some 16), (.ext (.t 12) 1), none⟩, ⟨(some 5), (.mv (.t 15)), none⟩, ⟨(some 6), (.mv (.t 16)), none⟩]) (.seq (.reg [⟨(some 7), (.mv (.c (.int .i64 (0)))), none⟩, ⟨(some 8), (.mv (.c (.int .i64 (-1)))), none⟩]) (.seq (.seq (.reg [⟨(some 9), (.mv (.c (.int .i64 (0)))), none⟩]) (.block 0 (.loop (.seq (.seq (.reg [⟨(some 17), (.mv (.t 9)), none⟩, ⟨(some 18), (.mv (.t 6)), none⟩, ⟨(some 19), (.len (.t 18)), none⟩, ⟨(some 20), (.bin .lss (.t 17) (.t 19)), none⟩]) (.cond (.t 20) .skip (.exit 0))) (.seq (.block 1 (.seq (.dreg [(⟨(some 23), (.mv (.t 6)), none⟩, false), (⟨(some 24), (.mv (.t 9)), none⟩, false), (⟨(some 25), (.idxA 3 (.t 23) (.t 24)), none⟩, false), (⟨(some 26), (.ld 3 true (.t 25)), none⟩, false), (⟨(some 27), (.ld 3 true (.t 3)), none⟩, false), (⟨(some 28), (.pcall 53 [(.t 26), (.t 27)]), none⟩, false)]) (.cond (.t 28) (.seq (.reg [⟨(some 29), (.mv (.t 7)), none⟩, ⟨(some 30), (.bin .add (.t 29) (.c (.int .i64 (1)))), none⟩, ⟨(some 7), (.mv (.t 30)), none⟩]) (.seq (.reg [⟨(some 31), (.mv (.t 8)), none⟩, ⟨(some 32), (.bin .lss (.t 31) (.c (.int .i64 (0)))), none⟩]) (.cond (.t 32) (.reg [⟨(some 33), (.mv (.t 9)), none⟩, ⟨(some 8), (.mv (.t 33)), none⟩]) .skip))) .skip))) (.reg [⟨(some 21), (.mv (.t 9)), none⟩, ⟨(some 22), (.bin .add (.t 21) (.c (.int .i64 (1)))), none⟩, ⟨(some 9), (.mv (.t 22)), none⟩])))))) (.seq (.reg [⟨(some 34), (.bldF 25 3 []), none⟩, ⟨(some 35), (.mv (.t 5)), none⟩, ⟨(some 36), (.app 25 3 48 (.t 34) (.t 35)), none⟩, ⟨(some 10), (.mv (.t 36)), none⟩]) (.seq (.seq (.reg [⟨(some 11), (.mv (.c (.int .i64 (0)))), none⟩]) (.block 2 (.loop (.seq (.seq (.reg [⟨(some 37), (.mv (.t 11)), none⟩, ⟨(some 38), (.mv (.t 6)), none⟩, ⟨(some 39), (.len (.t 38)), none⟩, ⟨(some 40), (.bin .lss (.t 37) (.t 39)), none⟩]) (.cond (.t 40) .skip (.exit 2))) (.seq (.block 3 (.seq (.reg [⟨(some 43), (.mv (.t 7)), none⟩, ⟨(some 44), (.bin .lss (.t 43) (.c (.int .i64 (3)))), none⟩, ⟨(some 45), (.mv (.t 44)), none⟩, ⟨(some 46), (.mv (.t 11)), (some (45, false))⟩, ⟨(some 47), (.mv (.t 8)), (some (45, false))⟩, ⟨(some 48), (.bin .neq (.t 46) (.t 47)), (some (45, false))⟩, ⟨(some 49), (.pick (.t 45) (.c (.bool true)) (.t 48)), none⟩, ⟨(some 50), (.mv (.t 49)), none⟩, ⟨(some 51), (.fldA 0 (.t 3)), (some (50, false))⟩, ⟨(some 52), (.ld 1 false (.t 51)), (some (50, false))⟩, ⟨(some 53), (.bin .eql (.t 52) (.c (.int .i64 (-1)))), (some (50, false))⟩, ⟨(some 54), (.pick (.t 50) (.c (.bool true)) (.t 53)), none⟩]) (.cond (.t 54) (.reg [⟨(some 55), (.mv (.t 10)), none⟩, ⟨(some 56), (.mv (.t 6)), none⟩, ⟨(some 57), (.mv (.t 11)), none⟩, ⟨(some 58), (.idxA 3 (.t 56) (.t 57)), none⟩, ⟨(some 59), (.ld 3 true (.t 58)), none⟩, ⟨(some 60), (.bldF 25 3 [(.t 59)]), none⟩, ⟨(some 61), (.app 25 3 48 (.t 55) (.t 60)), none⟩, ⟨(some 10), (.mv (.t 61)), none⟩]) .skip))) (.reg [⟨(some 41), (.mv (.t 11)), none⟩, ⟨(some 42), (.bin .add (.t 41) (.c (.int .i64 (1)))), none⟩, ⟨(some 11), (.mv (.t 42)), none⟩])))))) (.seq (.reg [⟨(some 62), (.mv (.t 10)), none⟩, ⟨(some 63), (.ld 3 true (.t 3)), none⟩, ⟨(some 64), (.bldF 25 3 [(.t 63)]), none⟩, ⟨(some 65), (.app 25 3 48 (.t 62) (.t 64)), none⟩, ⟨(some 4), (.mv (.t 65)), none⟩]) .ret))))))), [(.tmp 4)]⟩
theorem hc13 : toSF Try.prog {pure := [52, 53]} Try.f13 = some c13 := by kernel_rfl
theorem hn13 : (Try.f13.name == "runtime.NumGoroutine") = false := by kernel_rfl
theorem push2_ok (l : List HItem) (x : HItem) (hl : l.length ≤ 1000) (hs : ∀ y ∈ l, y.attrs.length ≤ 1073741824) (hx : x.attrs.length ≤ 1073741824) : PCalls Try.prog 13 [sl eItem l, .agg (eItem x)] (sl eItem (pushM l x)) := PCalls.acc (ty := 25) (sz := 3) fun h => by
  refine dcalls_of_vc Try.func13 hn13 hc13 (by rw [Try.ntmps13]; simp) ?_
  simp -dsimp -implicitDefEqProofs (disch := omega) only [↓vcOps_sp 45, ↓vcD_sp 45, ↓vcOps_sp 50, ↓vcD_sp 50, VC1, VC2, VC3, VC4, VC5, VC6, VC7, VC8, VC9, VC10, VC11, VC12, VC13, VC14, VC15, VC16, VC17, VC18, VC19, VC20, ↓upd_none, Nat.reduceEqDiff, Nat.reduceBEq, Nat.reduceAdd, Nat.reduceSub, Nat.reduceMul, Nat.reduceLT, Nat.reduceLeDiff, ↓reduceIte, reduceCtorEq, rsOf, rootsOf, SOp.rd, SI.rd, SX.rd, rdL, rdO, rdP, okParts, eqCells, okEqCells, fillA, okFill, setAt, implies_true, forall_const, forall_eq, ne_eq, exists_eq_right_right, exists_eq_right, exists_eq_left, exists_eq_left', eItem, eAttr, c13]
  refine pcallE.of (parted_ok l (by omega)) ?_; simp -dsimp -implicitDefEqProofs (disch := omega) only [↓vcOps_sp 45, ↓vcD_sp 45, ↓vcOps_sp 50, ↓vcD_sp 50, VC1, VC2, VC3, VC4, VC5, VC6, VC7, VC8, VC9, VC10, VC11, VC12, VC13, VC14, VC15, VC16, VC17, VC18, VC19, VC20, ↓upd_none, Nat.reduceEqDiff, Nat.reduceBEq, Nat.reduceAdd, Nat.reduceSub, Nat.reduceMul, Nat.reduceLT, Nat.reduceLeDiff, ↓reduceIte, reduceCtorEq, rsOf, rootsOf, SOp.rd, SI.rd, SX.rd, rdL, rdO, rdP, okParts, eqCells, okEqCells, fillA, okFill, setAt, implies_true, forall_const, forall_eq, ne_eq, exists_eq_right_right, exists_eq_right, exists_eq_left, exists_eq_left', eItem, eAttr]
  have hla := (lastM_is l).1
  have hll : (l.drop (lastM l)).length = l.length - lastM l := by simp
  have hlh : (l.take (lastM l)).length = lastM l := by simp; omega
  refine LoopVC.intro (fun m e h' => ∃ k : Nat, k ≤ (l.drop (lastM l)).length ∧ m = (l.drop (lastM l)).length - k ∧ e 3 = .pin (eItem x) ∧ e 5 = sl eItem (l.take (lastM l)) ∧ e 6 = sl eItem (l.drop (lastM l)) ∧ e 9 = aInt k ∧
    e 7 = aInt (sameM l x (lastM l + k)).length ∧ e 8 = aInt (firstI (sameM l x (lastM l + k)) (lastM l)) ∧ h' = h) _ ⟨0, by omega, rfl, rfl, rfl, rfl, rfl, ?_, ?_, rfl⟩ ?_
  · have : sameM l x (lastM l + 0) = [] := by
      rw [sameM, List.filter_eq_nil_iff]; intro i hi; simp at hi ⊢; omega
    rw [this]; rfl
  · have : sameM l x (lastM l + 0) = [] := by
      rw [sameM, List.filter_eq_nil_iff]; intro i hi; simp at hi ⊢; omega
    rw [this]; rfl
  rintro m e h' ⟨k, hk, rfl, he3, he5, he6, he9, he7, he8, rfl⟩
  have hN := sameM_len l x (lastM l + k)
  simp -dsimp -implicitDefEqProofs (disch := omega) only [↓vcOps_sp 45, ↓vcD_sp 45, ↓vcOps_sp 50, ↓vcD_sp 50, VC1, VC2, VC3, VC4, VC5, VC6, VC7, VC8, VC9, VC10, VC11, VC12, VC13, VC14, VC15, VC16, VC17, VC18, VC19, VC20, ↓upd_none, Nat.reduceEqDiff, Nat.reduceBEq, Nat.reduceAdd, Nat.reduceSub, Nat.reduceMul, Nat.reduceLT, Nat.reduceLeDiff, ↓reduceIte, reduceCtorEq, rsOf, rootsOf, SOp.rd, SI.rd, SX.rd, rdL, rdO, rdP, okParts, eqCells, okEqCells, fillA, okFill, setAt, implies_true, forall_const, forall_eq, ne_eq, exists_eq_right_right, exists_eq_right, exists_eq_left, exists_eq_left', eItem, eAttr, he3, he5, he6, he7, he8, he9]
  refine Br.dec (fun hlt => ?_) (fun hge => ?_)
  · simp -dsimp -implicitDefEqProofs (disch := omega) only [↓vcOps_sp 45, ↓vcD_sp 45, ↓vcOps_sp 50, ↓vcD_sp 50, VC1, VC2, VC3, VC4, VC5, VC6, VC7, VC8, VC9, VC10, VC11, VC12, VC13, VC14, VC15, VC16, VC17, VC18, VC19, VC20, ↓upd_none, Nat.reduceEqDiff, Nat.reduceBEq, Nat.reduceAdd, Nat.reduceSub, Nat.reduceMul, Nat.reduceLT, Nat.reduceLeDiff, ↓reduceIte, reduceCtorEq, rsOf, rootsOf, SOp.rd, SI.rd, SX.rd, rdL, rdO, rdP, okParts, eqCells, okEqCells, fillA, okFill, setAt, implies_true, forall_const, forall_eq, ne_eq, exists_eq_right_right, exists_eq_right, exists_eq_left, exists_eq_left', eItem, eAttr, he3, he5, he6, he7, he8, he9]
    refine ⟨by omega, ?_⟩
    refine pcallE.of (alike2_ok (nth (l.drop (lastM l)) k) x (hs _ (List.mem_of_mem_drop (nth_mem' (by omega)))) hx) ?_; simp -dsimp -implicitDefEqProofs (disch := omega) only [↓vcOps_sp 45, ↓vcD_sp 45, ↓vcOps_sp 50, ↓vcD_sp 50, VC1, VC2, VC3, VC4, VC5, VC6, VC7, VC8, VC9, VC10, VC11, VC12, VC13, VC14, VC15, VC16, VC17, VC18, VC19, VC20, ↓upd_none, Nat.reduceEqDiff, Nat.reduceBEq, Nat.reduceAdd, Nat.reduceSub, Nat.reduceMul, Nat.reduceLT, Nat.reduceLeDiff, ↓reduceIte, reduceCtorEq, rsOf, rootsOf, SOp.rd, SI.rd, SX.rd, rdL, rdO, rdP, okParts, eqCells, okEqCells, fillA, okFill, setAt, implies_true, forall_const, forall_eq, ne_eq, exists_eq_right_right, exists_eq_right, exists_eq_left, exists_eq_left', eItem, eAttr, he3, he5, he6, he7, he8, he9]
    have hsu := sameM_succ l x (lastM l + k)
    rw [← nth_drop] at hsu
    refine Br.intro (fun h1 => ?_) (fun h1 => ?_)
    · rw [if_pos (by simp [h1])] at hsu
      simp -dsimp -implicitDefEqProofs (disch := omega) only [↓vcOps_sp 45, ↓vcD_sp 45, ↓vcOps_sp 50, ↓vcD_sp 50, VC1, VC2, VC3, VC4, VC5, VC6, VC7, VC8, VC9, VC10, VC11, VC12, VC13, VC14, VC15, VC16, VC17, VC18, VC19, VC20, ↓upd_none, Nat.reduceEqDiff, Nat.reduceBEq, Nat.reduceAdd, Nat.reduceSub, Nat.reduceMul, Nat.reduceLT, Nat.reduceLeDiff, ↓reduceIte, reduceCtorEq, rsOf, rootsOf, SOp.rd, SI.rd, SX.rd, rdL, rdO, rdP, okParts, eqCells, okEqCells, fillA, okFill, setAt, implies_true, forall_const, forall_eq, ne_eq, exists_eq_right_right, exists_eq_right, exists_eq_left, exists_eq_left', eItem, eAttr, he3, he5, he6, he7, he8, he9]
      refine Br.dec (fun h2 => ?_) (fun h2 => ?_)
      · simp -dsimp -implicitDefEqProofs (disch := omega) only [↓vcOps_sp 45, ↓vcD_sp 45, ↓vcOps_sp 50, ↓vcD_sp 50, VC1, VC2, VC3, VC4, VC5, VC6, VC7, VC8, VC9, VC10, VC11, VC12, VC13, VC14, VC15, VC16, VC17, VC18, VC19, VC20, ↓upd_none, Nat.reduceEqDiff, Nat.reduceBEq, Nat.reduceAdd, Nat.reduceSub, Nat.reduceMul, Nat.reduceLT, Nat.reduceLeDiff, ↓reduceIte, reduceCtorEq, rsOf, rootsOf, SOp.rd, SI.rd, SX.rd, rdL, rdO, rdP, okParts, eqCells, okEqCells, fillA, okFill, setAt, implies_true, forall_const, forall_eq, ne_eq, exists_eq_right_right, exists_eq_right, exists_eq_left, exists_eq_left', eItem, eAttr, he3, he5, he6, he7, he8, he9]
        refine ⟨_, ?_, k + 1, by omega, rfl, by omega, ?_, ?_⟩
        · omega
        · rw [← Nat.add_assoc, hsu]; simp
        · rw [← Nat.add_assoc, hsu, firstI_neg h2]; simp [firstI]; omega
      · simp -dsimp -implicitDefEqProofs (disch := omega) only [↓vcOps_sp 45, ↓vcD_sp 45, ↓vcOps_sp 50, ↓vcD_sp 50, VC1, VC2, VC3, VC4, VC5, VC6, VC7, VC8, VC9, VC10, VC11, VC12, VC13, VC14, VC15, VC16, VC17, VC18, VC19, VC20, ↓upd_none, Nat.reduceEqDiff, Nat.reduceBEq, Nat.reduceAdd, Nat.reduceSub, Nat.reduceMul, Nat.reduceLT, Nat.reduceLeDiff, ↓reduceIte, reduceCtorEq, rsOf, rootsOf, SOp.rd, SI.rd, SX.rd, rdL, rdO, rdP, okParts, eqCells, okEqCells, fillA, okFill, setAt, implies_true, forall_const, forall_eq, ne_eq, exists_eq_right_right, exists_eq_right, exists_eq_left, exists_eq_left', eItem, eAttr, he3, he5, he6, he7, he8, he9]
        refine ⟨_, ?_, k + 1, by omega, rfl, by omega, ?_, ?_⟩
        · omega
        · rw [← Nat.add_assoc, hsu]; simp
        · rw [← Nat.add_assoc, hsu, firstI_app (by omega)]
    · rw [if_neg (by simp [h1]), List.append_nil] at hsu
      simp -dsimp -implicitDefEqProofs (disch := omega) only [↓vcOps_sp 45, ↓vcD_sp 45, ↓vcOps_sp 50, ↓vcD_sp 50, VC1, VC2, VC3, VC4, VC5, VC6, VC7, VC8, VC9, VC10, VC11, VC12, VC13, VC14, VC15, VC16, VC17, VC18, VC19, VC20, ↓upd_none, Nat.reduceEqDiff, Nat.reduceBEq, Nat.reduceAdd, Nat.reduceSub, Nat.reduceMul, Nat.reduceLT, Nat.reduceLeDiff, ↓reduceIte, reduceCtorEq, rsOf, rootsOf, SOp.rd, SI.rd, SX.rd, rdL, rdO, rdP, okParts, eqCells, okEqCells, fillA, okFill, setAt, implies_true, forall_const, forall_eq, ne_eq, exists_eq_right_right, exists_eq_right, exists_eq_left, exists_eq_left', eItem, eAttr, he3, he5, he6, he7, he8, he9]
      refine ⟨_, ?_, k + 1, by omega, rfl, by omega, ?_, ?_⟩
      · omega
      · rw [← Nat.add_assoc, hsu]
      · rw [← Nat.add_assoc, hsu]
  · obtain rfl : k = (l.drop (lastM l)).length := by omega
    have hLk : lastM l + (l.drop (lastM l)).length = l.length := by omega
    rw [hLk] at he7 he8 hN
    simp -dsimp -implicitDefEqProofs (disch := omega) only [↓vcOps_sp 45, ↓vcD_sp 45, ↓vcOps_sp 50, ↓vcD_sp 50, VC1, VC2, VC3, VC4, VC5, VC6, VC7, VC8, VC9, VC10, VC11, VC12, VC13, VC14, VC15, VC16, VC17, VC18, VC19, VC20, ↓upd_none, Nat.reduceEqDiff, Nat.reduceBEq, Nat.reduceAdd, Nat.reduceSub, Nat.reduceMul, Nat.reduceLT, Nat.reduceLeDiff, ↓reduceIte, reduceCtorEq, rsOf, rootsOf, SOp.rd, SI.rd, SX.rd, rdL, rdO, rdP, okParts, eqCells, okEqCells, fillA, okFill, setAt, implies_true, forall_const, forall_eq, ne_eq, exists_eq_right_right, exists_eq_right, exists_eq_left, exists_eq_left', eItem, eAttr, he3, he5, he6, he7, he8, he9]
    refine ⟨by omega, by omega, fun r hr => ?_⟩
    have h0 : keepM l x 0 = [] := by unfold keepM; split <;> simp
    refine LoopVC.intro (fun m e h'' => ∃ k : Nat, k ≤ (l.drop (lastM l)).length ∧ m = (l.drop (lastM l)).length - k ∧ e 3 = .pin (eItem x) ∧ e 6 = sl eItem (l.drop (lastM l)) ∧ e 11 = aInt k ∧
      e 7 = aInt (sameM l x l.length).length ∧ e 8 = aInt (firstI (sameM l x l.length) (lastM l)) ∧ Acc h' 25 3 ((l.take (lastM l) ++ keepM l x k).map eItem) (e 10) h'' ∧ Sub h' h'') _ ⟨0, by omega, rfl, he3, he6, rfl, he7, he8, ?_, (Sub.refl _).upd hr⟩ ?_
    · rw [h0, List.append_nil]
      exact .inr ⟨r, hr, upd_same _ _ _, by simp [upd]⟩
    clear he3 he5 he6 he7 he8 he9
    rintro m e h'' ⟨k, hk, rfl, he3, he6, he11, he7, he8, A, S⟩
    have hlenA : (l.take (lastM l) ++ keepM l x k).length ≤ 2000 := by
      have : (keepM l x k).length ≤ k := by
        unfold keepM; split
        · exact Nat.le_trans (List.length_eraseIdx_le _ _) (by rw [List.length_take]; omega)
        · rw [List.length_take]; omega
      rw [List.length_append]; omega
    simp -dsimp -implicitDefEqProofs (disch := omega) only [↓vcOps_sp 45, ↓vcD_sp 45, ↓vcOps_sp 50, ↓vcD_sp 50, VC1, VC2, VC3, VC4, VC5, VC6, VC7, VC8, VC9, VC10, VC11, VC12, VC13, VC14, VC15, VC16, VC17, VC18, VC19, VC20, ↓upd_none, Nat.reduceEqDiff, Nat.reduceBEq, Nat.reduceAdd, Nat.reduceSub, Nat.reduceMul, Nat.reduceLT, Nat.reduceLeDiff, ↓reduceIte, reduceCtorEq, rsOf, rootsOf, SOp.rd, SI.rd, SX.rd, rdL, rdO, rdP, okParts, eqCells, okEqCells, fillA, okFill, setAt, implies_true, forall_const, forall_eq, ne_eq, exists_eq_right_right, exists_eq_right, exists_eq_left, exists_eq_left', eItem, eAttr, he3, he6, he7, he8, he11]
    refine Br.dec (fun hlt => ?_) (fun hge => ?_)
    · have hkl : k < (l.drop (lastM l)).length := by omega
      have tail : ∀ a' h3, Acc h' 25 3 ((l.take (lastM l) ++ keepM l x k).map eItem ++ [eItem (nth (l.drop (lastM l)) k)]) a' h3 → keepM l x (k + 1) = keepM l x k ++ [nth (l.drop (lastM l)) k] → Acc h' 25 3 ((l.take (lastM l) ++ keepM l x (k + 1)).map eItem) a' h3 := by
        intro a' h3 A3 hkeep
        rw [hkeep]; simpa using A3
      simp -dsimp -implicitDefEqProofs (disch := omega) only [↓vcOps_sp 45, ↓vcD_sp 45, ↓vcOps_sp 50, ↓vcD_sp 50, VC1, VC2, VC3, VC4, VC5, VC6, VC7, VC8, VC9, VC10, VC11, VC12, VC13, VC14, VC15, VC16, VC17, VC18, VC19, VC20, ↓upd_none, Nat.reduceEqDiff, Nat.reduceBEq, Nat.reduceAdd, Nat.reduceSub, Nat.reduceMul, Nat.reduceLT, Nat.reduceLeDiff, ↓reduceIte, reduceCtorEq, rsOf, rootsOf, SOp.rd, SI.rd, SX.rd, rdL, rdO, rdP, okParts, eqCells, okEqCells, fillA, okFill, setAt, implies_true, forall_const, forall_eq, ne_eq, exists_eq_right_right, exists_eq_right, exists_eq_left, exists_eq_left', eItem, eAttr, he3, he6, he7, he8, he11]
      refine Br.dec (fun h1 => ?_) (fun h1 => ?_)
      · simp -dsimp -implicitDefEqProofs (disch := omega) only [↓vcOps_sp 45, ↓vcD_sp 45, ↓vcOps_sp 50, ↓vcD_sp 50, VC1, VC2, VC3, VC4, VC5, VC6, VC7, VC8, VC9, VC10, VC11, VC12, VC13, VC14, VC15, VC16, VC17, VC18, VC19, VC20, ↓upd_none, Nat.reduceEqDiff, Nat.reduceBEq, Nat.reduceAdd, Nat.reduceSub, Nat.reduceMul, Nat.reduceLT, Nat.reduceLeDiff, ↓reduceIte, reduceCtorEq, rsOf, rootsOf, SOp.rd, SI.rd, SX.rd, rdL, rdO, rdP, okParts, eqCells, okEqCells, fillA, okFill, setAt, implies_true, forall_const, forall_eq, ne_eq, exists_eq_right_right, exists_eq_right, exists_eq_left, exists_eq_left', eItem, eAttr, he3, he6, he7, he8, he11]
        refine ⟨by omega, A.app S (by simp; simp at hlenA; omega) (by simp; simp at hlenA; omega) fun a' h3 A' S' => ?_⟩
        simp -dsimp -implicitDefEqProofs (disch := omega) only [↓vcOps_sp 45, ↓vcD_sp 45, ↓vcOps_sp 50, ↓vcD_sp 50, VC1, VC2, VC3, VC4, VC5, VC6, VC7, VC8, VC9, VC10, VC11, VC12, VC13, VC14, VC15, VC16, VC17, VC18, VC19, VC20, ↓upd_none, Nat.reduceEqDiff, Nat.reduceBEq, Nat.reduceAdd, Nat.reduceSub, Nat.reduceMul, Nat.reduceLT, Nat.reduceLeDiff, ↓reduceIte, reduceCtorEq, rsOf, rootsOf, SOp.rd, SI.rd, SX.rd, rdL, rdO, rdP, okParts, eqCells, okEqCells, fillA, okFill, setAt, implies_true, forall_const, forall_eq, ne_eq, exists_eq_right_right, exists_eq_right, exists_eq_left, exists_eq_left', eItem, eAttr, he3, he6, he7, he8, he11]
        refine ⟨_, ?_, k + 1, by omega, rfl, by omega, tail _ _ A' (keepM_on hkl (.inl fun hh => by omega)), S'⟩
        omega
      · simp -dsimp -implicitDefEqProofs (disch := omega) only [↓vcOps_sp 45, ↓vcD_sp 45, ↓vcOps_sp 50, ↓vcD_sp 50, VC1, VC2, VC3, VC4, VC5, VC6, VC7, VC8, VC9, VC10, VC11, VC12, VC13, VC14, VC15, VC16, VC17, VC18, VC19, VC20, ↓upd_none, Nat.reduceEqDiff, Nat.reduceBEq, Nat.reduceAdd, Nat.reduceSub, Nat.reduceMul, Nat.reduceLT, Nat.reduceLeDiff, ↓reduceIte, reduceCtorEq, rsOf, rootsOf, SOp.rd, SI.rd, SX.rd, rdL, rdO, rdP, okParts, eqCells, okEqCells, fillA, okFill, setAt, implies_true, forall_const, forall_eq, ne_eq, exists_eq_right_right, exists_eq_right, exists_eq_left, exists_eq_left', eItem, eAttr, he3, he6, he7, he8, he11]
        refine Br.ne (fun h2 => ?_) (fun h2 => ?_)
        · simp -dsimp -implicitDefEqProofs (disch := omega) only [↓vcOps_sp 45, ↓vcD_sp 45, ↓vcOps_sp 50, ↓vcD_sp 50, VC1, VC2, VC3, VC4, VC5, VC6, VC7, VC8, VC9, VC10, VC11, VC12, VC13, VC14, VC15, VC16, VC17, VC18, VC19, VC20, ↓upd_none, Nat.reduceEqDiff, Nat.reduceBEq, Nat.reduceAdd, Nat.reduceSub, Nat.reduceMul, Nat.reduceLT, Nat.reduceLeDiff, ↓reduceIte, reduceCtorEq, rsOf, rootsOf, SOp.rd, SI.rd, SX.rd, rdL, rdO, rdP, okParts, eqCells, okEqCells, fillA, okFill, setAt, implies_true, forall_const, forall_eq, ne_eq, exists_eq_right_right, exists_eq_right, exists_eq_left, exists_eq_left', eItem, eAttr, he3, he6, he7, he8, he11]
          refine ⟨by omega, A.app S (by simp; simp at hlenA; omega) (by simp; simp at hlenA; omega) fun a' h3 A' S' => ?_⟩
          simp -dsimp -implicitDefEqProofs (disch := omega) only [↓vcOps_sp 45, ↓vcD_sp 45, ↓vcOps_sp 50, ↓vcD_sp 50, VC1, VC2, VC3, VC4, VC5, VC6, VC7, VC8, VC9, VC10, VC11, VC12, VC13, VC14, VC15, VC16, VC17, VC18, VC19, VC20, ↓upd_none, Nat.reduceEqDiff, Nat.reduceBEq, Nat.reduceAdd, Nat.reduceSub, Nat.reduceMul, Nat.reduceLT, Nat.reduceLeDiff, ↓reduceIte, reduceCtorEq, rsOf, rootsOf, SOp.rd, SI.rd, SX.rd, rdL, rdO, rdP, okParts, eqCells, okEqCells, fillA, okFill, setAt, implies_true, forall_const, forall_eq, ne_eq, exists_eq_right_right, exists_eq_right, exists_eq_left, exists_eq_left', eItem, eAttr, he3, he6, he7, he8, he11]
          refine ⟨_, ?_, k + 1, by omega, rfl, by omega, tail _ _ A' (keepM_on hkl (.inr h2)), S'⟩
          omega
        · simp -dsimp -implicitDefEqProofs (disch := omega) only [↓vcOps_sp 45, ↓vcD_sp 45, ↓vcOps_sp 50, ↓vcD_sp 50, VC1, VC2, VC3, VC4, VC5, VC6, VC7, VC8, VC9, VC10, VC11, VC12, VC13, VC14, VC15, VC16, VC17, VC18, VC19, VC20, ↓upd_none, Nat.reduceEqDiff, Nat.reduceBEq, Nat.reduceAdd, Nat.reduceSub, Nat.reduceMul, Nat.reduceLT, Nat.reduceLeDiff, ↓reduceIte, reduceCtorEq, rsOf, rootsOf, SOp.rd, SI.rd, SX.rd, rdL, rdO, rdP, okParts, eqCells, okEqCells, fillA, okFill, setAt, implies_true, forall_const, forall_eq, ne_eq, exists_eq_right_right, exists_eq_right, exists_eq_left, exists_eq_left', eItem, eAttr, he3, he6, he7, he8, he11]
          refine Br.eq (fun h3 => ?_) (fun h3 => ?_)
          · simp -dsimp -implicitDefEqProofs (disch := omega) only [↓vcOps_sp 45, ↓vcD_sp 45, ↓vcOps_sp 50, ↓vcD_sp 50, VC1, VC2, VC3, VC4, VC5, VC6, VC7, VC8, VC9, VC10, VC11, VC12, VC13, VC14, VC15, VC16, VC17, VC18, VC19, VC20, ↓upd_none, Nat.reduceEqDiff, Nat.reduceBEq, Nat.reduceAdd, Nat.reduceSub, Nat.reduceMul, Nat.reduceLT, Nat.reduceLeDiff, ↓reduceIte, reduceCtorEq, rsOf, rootsOf, SOp.rd, SI.rd, SX.rd, rdL, rdO, rdP, okParts, eqCells, okEqCells, fillA, okFill, setAt, implies_true, forall_const, forall_eq, ne_eq, exists_eq_right_right, exists_eq_right, exists_eq_left, exists_eq_left', eItem, eAttr, he3, he6, he7, he8, he11]
            refine ⟨by omega, A.app S (by simp; simp at hlenA; omega) (by simp; simp at hlenA; omega) fun a' h3' A' S' => ?_⟩
            simp -dsimp -implicitDefEqProofs (disch := omega) only [↓vcOps_sp 45, ↓vcD_sp 45, ↓vcOps_sp 50, ↓vcD_sp 50, VC1, VC2, VC3, VC4, VC5, VC6, VC7, VC8, VC9, VC10, VC11, VC12, VC13, VC14, VC15, VC16, VC17, VC18, VC19, VC20, ↓upd_none, Nat.reduceEqDiff, Nat.reduceBEq, Nat.reduceAdd, Nat.reduceSub, Nat.reduceMul, Nat.reduceLT, Nat.reduceLeDiff, ↓reduceIte, reduceCtorEq, rsOf, rootsOf, SOp.rd, SI.rd, SX.rd, rdL, rdO, rdP, okParts, eqCells, okEqCells, fillA, okFill, setAt, implies_true, forall_const, forall_eq, ne_eq, exists_eq_right_right, exists_eq_right, exists_eq_left, exists_eq_left', eItem, eAttr, he3, he6, he7, he8, he11]
            refine ⟨_, ?_, k + 1, by omega, rfl, by omega, tail _ _ A' (keepM_on hkl (.inl fun hh => hh.1 h3)), S'⟩
            omega
          · simp -dsimp -implicitDefEqProofs (disch := omega) only [↓vcOps_sp 45, ↓vcD_sp 45, ↓vcOps_sp 50, ↓vcD_sp 50, VC1, VC2, VC3, VC4, VC5, VC6, VC7, VC8, VC9, VC10, VC11, VC12, VC13, VC14, VC15, VC16, VC17, VC18, VC19, VC20, ↓upd_none, Nat.reduceEqDiff, Nat.reduceBEq, Nat.reduceAdd, Nat.reduceSub, Nat.reduceMul, Nat.reduceLT, Nat.reduceLeDiff, ↓reduceIte, reduceCtorEq, rsOf, rootsOf, SOp.rd, SI.rd, SX.rd, rdL, rdO, rdP, okParts, eqCells, okEqCells, fillA, okFill, setAt, implies_true, forall_const, forall_eq, ne_eq, exists_eq_right_right, exists_eq_right, exists_eq_left, exists_eq_left', eItem, eAttr, he3, he6, he7, he8, he11]
            refine ⟨_, ?_, k + 1, by omega, rfl, by omega, ?_, S⟩
            · omega
            · rw [keepM_off hkl ⟨h3, by omega⟩ h2]; exact A
    · obtain rfl : k = (l.drop (lastM l)).length := by omega
      simp -dsimp -implicitDefEqProofs (disch := omega) only [↓vcOps_sp 45, ↓vcD_sp 45, ↓vcOps_sp 50, ↓vcD_sp 50, VC1, VC2, VC3, VC4, VC5, VC6, VC7, VC8, VC9, VC10, VC11, VC12, VC13, VC14, VC15, VC16, VC17, VC18, VC19, VC20, ↓upd_none, Nat.reduceEqDiff, Nat.reduceBEq, Nat.reduceAdd, Nat.reduceSub, Nat.reduceMul, Nat.reduceLT, Nat.reduceLeDiff, ↓reduceIte, reduceCtorEq, rsOf, rootsOf, SOp.rd, SI.rd, SX.rd, rdL, rdO, rdP, okParts, eqCells, okEqCells, fillA, okFill, setAt, implies_true, forall_const, forall_eq, ne_eq, exists_eq_right_right, exists_eq_right, exists_eq_left, exists_eq_left', eItem, eAttr, he3, he6, he7, he8, he11]
      refine A.app S (by simp; simp at hlenA; omega) (by simp; simp at hlenA; omega) fun a' h3 A' S' => ?_
      simp -dsimp -implicitDefEqProofs (disch := omega) only [↓vcOps_sp 45, ↓vcD_sp 45, ↓vcOps_sp 50, ↓vcD_sp 50, VC1, VC2, VC3, VC4, VC5, VC6, VC7, VC8, VC9, VC10, VC11, VC12, VC13, VC14, VC15, VC16, VC17, VC18, VC19, VC20, ↓upd_none, Nat.reduceEqDiff, Nat.reduceBEq, Nat.reduceAdd, Nat.reduceSub, Nat.reduceMul, Nat.reduceLT, Nat.reduceLeDiff, ↓reduceIte, reduceCtorEq, rsOf, rootsOf, SOp.rd, SI.rd, SX.rd, rdL, rdO, rdP, okParts, eqCells, okEqCells, fillA, okFill, setAt, implies_true, forall_const, forall_eq, ne_eq, exists_eq_right_right, exists_eq_right, exists_eq_left, exists_eq_left', eItem, eAttr, he3, he6, he7, he8, he11]
      refine ⟨_, Sub.refl _, ?_, S'⟩
      rw [← keepM_all, List.map_append]
      exact A'
end Go.Proofs.K
