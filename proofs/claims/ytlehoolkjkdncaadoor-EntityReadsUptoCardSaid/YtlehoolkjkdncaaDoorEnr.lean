/- The document's table, looked through. -/
import Derived.Test.YtlehoolkjkdncaaDoorEnm
set_option linter.unusedSimpArgs false
set_option linter.unusedVariables false
namespace Go.Proofs.K
open Go Go.Sim Go.Proofs
variable {G : Glob}

def numAt (t : List UInt8) (a : Nat) : Nat → Int
  | 0 => 0
  | m + 1 => 10 * numAt t a m + (bt t (a + m) - 48)
def offN (j : Nat) : Nat := if j < 48 then (nth entO j).1 else tabT.length
def okRow (j : Nat) : Bool :=
  ((List.range tabT.length).all fun i => (decide (i < (nth entO j).1) || decide ((nth entO j).2.1 ≤ i) || (bt tabT i != 42 && bt tabT i != 58)) && (decide (i ≤ (nth entO j).2.1) || decide ((nth entO j).2.2 ≤ i) || bt tabT i != 32)
    && (decide (i ≤ (nth entO j).2.1) || decide ((nth entO j).2.2 ≤ i) || (decide (48 ≤ bt tabT i) && decide (bt tabT i < 58)))) &&
  (bt tabT (nth entO j).2.1 == 42 || bt tabT (nth entO j).2.1 == 58) && bt tabT (nth entO j).2.2 == 32 && decide ((nth entO j).1 < (nth entO j).2.1) && decide ((nth entO j).2.1 < (nth entO j).2.2) && decide ((nth entO j).2.2 < tabT.length) &&
  (offN (j + 1) == (nth entO j).2.2 + 1) && ((tabT.take (nth entO j).2.1).drop (nth entO j).1 == (nth entT j).word) && ((bt tabT (nth entO j).2.1 == 42) == (nth entT j).bare) &&
  (numAt tabT ((nth entO j).2.1 + 1) ((nth entO j).2.2 - (nth entO j).2.1 - 1) == (nth entT j).sign) &&
  ((List.range ((nth entO j).2.2 - (nth entO j).2.1)).all fun m => decide (0 ≤ numAt tabT ((nth entO j).2.1 + 1) m) && decide (numAt tabT ((nth entO j).2.1 + 1) m ≤ 100000))
theorem okRows : ((List.range 48).all okRow) = true := by decide +kernel
structure RowOK (j o e k : Nat) (x : EName) : Prop where
  a1 : ∀ i, o ≤ i → i < e → bt tabT i ≠ 42 ∧ bt tabT i ≠ 58
  a2 : bt tabT e = 42 ∨ bt tabT e = 58
  a3 : ∀ i, e < i → i < k → bt tabT i ≠ 32 ∧ 48 ≤ bt tabT i ∧ bt tabT i < 58
  a4 : bt tabT k = 32
  a5 : o < e
  a6 : e < k
  a7 : k < tabT.length
  a8 : offN (j + 1) = k + 1
  a9 : (tabT.take e).drop o = x.word
  a10 : (bt tabT e == 42) = x.bare
  a11 : numAt tabT (e + 1) (k - e - 1) = x.sign
  a12 : ∀ m, m < k - e → 0 ≤ numAt tabT (e + 1) m ∧ numAt tabT (e + 1) m ≤ 100000
theorem rowOK {j : Nat} (h : j < 48) : RowOK j (nth entO j).1 (nth entO j).2.1 (nth entO j).2.2 (nth entT j) := by
  have := List.all_eq_true.1 okRows j (List.mem_range.2 h)
  unfold okRow at this
  simp only [Bool.and_eq_true, List.all_eq_true, List.mem_range, Bool.or_eq_true, decide_eq_true_eq, beq_iff_eq, bne_iff_ne] at this
  obtain ⟨⟨⟨⟨⟨⟨⟨⟨⟨⟨h1, h2⟩, h3⟩, h4⟩, h5⟩, h6⟩, h7⟩, h8⟩, h9⟩, h10⟩, h11⟩ := this
  refine ⟨fun i h1' h2' => ?_, h2, fun i h1' h2' => ?_, h3, h4, h5, h6, h7, h8, h9, h10, h11⟩
  · have := (h1 i (by omega)).1.1
    omega
  · have q := h1 i (by omega)
    have q1 := q.1.2
    have q2 := q.2
    omega
theorem tabT_len : tabT.length = 456 := by decide +kernel
def rowM (nm : List UInt8) : Int × Bool := match entT.find? (fun x => x.word == nm) with
  | some x => (x.sign, x.bare)
  | none => (-1, false)
theorem entT_len : entT.length = 48 := rfl
theorem rowM_some {nm : List UInt8} {j : Nat} (hj : j < 48) (h1 : ∀ i, i < j → (nth entT i).word ≠ nm) (h2 : (nth entT j).word = nm) : rowM nm = ((nth entT j).sign, (nth entT j).bare) := by
  have : entT.find? (fun x => x.word == nm) = some (nth entT j) := by
    have hn : ∀ i (hi : i < entT.length), entT[i] = nth entT i := fun i hi => by have := nth_some hi; rw [List.getElem?_eq_getElem hi] at this; exact Option.some.inj this
    rw [List.find?_eq_some_iff_getElem]
    refine ⟨by simpa using h2, j, by rw [entT_len]; exact hj, (hn j _), fun i hi => ?_⟩
    rw [hn i (by rw [entT_len]; omega)]
    simpa using h1 i hi
  rw [rowM, this]
theorem rowM_none {nm : List UInt8} (h1 : ∀ i, i < 48 → (nth entT i).word ≠ nm) : rowM nm = (-1, false) := by
  have : entT.find? (fun x => x.word == nm) = none := by
    rw [List.find?_eq_none]
    intro x hx
    obtain ⟨k, hk, rfl⟩ := mem_nth hx
    rw [entT_len] at hk
    simpa using h1 k hk
  rw [rowM, this]
def c41 : SFun := ⟨(.seq (.reg [⟨(some 2), (.mv (.c (.int .i64 (0)))), none⟩, ⟨(some 3), (.mv (.c (.bool false))), none⟩]) (.seq (.reg [⟨(some 9), (.pcall 53 []), none⟩, ⟨(some 4), (.mv (.t 9)), none⟩]) (.seq (.reg [⟨(some 5), (.mv (.c (.int .i64 (0)))), none⟩]) (.seq (.block 0 (.loop (.seq (.seq (.reg [⟨(some 10), (.mv (.t 5)), none⟩, ⟨(some 11), (.mv (.t 4)), none⟩, ⟨(some 12), (.lenS (.t 11)), none⟩, ⟨(some 13), (.bin .lss (.t 10) (.t 12)), none⟩]) (.cond (.t 13) .skip (.exit 0))) (.block 1 (.seq (.reg [⟨(some 14), (.mv (.t 5)), none⟩, ⟨(some 6), (.mv (.t 14)), none⟩]) (.seq (.block 2 (.loop (.seq (.seq (.reg [⟨(some 15), (.mv (.t 4)), none⟩, ⟨(some 16), (.mv (.t 6)), none⟩, ⟨(some 17), (.idxS (.t 15) (.t 16)), none⟩, ⟨(some 18), (.bin .neq (.t 17) (.c (.int .u8 (42)))), none⟩, ⟨(some 19), (.mv (.t 18)), none⟩, ⟨(some 20), (.mv (.t 4)), (some (19, true))⟩, ⟨(some 21), (.mv (.t 6)), (some (19, true))⟩, ⟨(some 22), (.idxS (.t 20) (.t 21)), (some (19, true))⟩, ⟨(some 23), (.bin .neq (.t 22) (.c (.int .u8 (58)))), (some (19, true))⟩, ⟨(some 24), (.pick (.t 19) (.t 23) (.c (.bool false))), none⟩]) (.cond (.t 24) .skip (.exit 2))) (.block 3 (.reg [⟨(some 25), (.mv (.t 6)), none⟩, ⟨(some 26), (.bin .add (.t 25) (.c (.int .i64 (1)))), none⟩, ⟨(some 6), (.mv (.t 26)), none⟩]))))) (.seq (.reg [⟨(some 7), (.mv (.c (.int .i64 (0)))), none⟩]) (.seq (.reg [⟨(some 27), (.mv (.t 6)), none⟩, ⟨(some 28), (.bin .add (.t 27) (.c (.int .i64 (1)))), none⟩, ⟨(some 8), (.mv (.t 28)), none⟩]) (.seq (.block 4 (.loop (.seq (.seq (.reg [⟨(some 29), (.mv (.t 4)), none⟩, ⟨(some 30), (.mv (.t 8)), none⟩, ⟨(some 31), (.idxS (.t 29) (.t 30)), none⟩, ⟨(some 32), (.bin .neq (.t 31) (.c (.int .u8 (32)))), none⟩]) (.cond (.t 32) .skip (.exit 4))) (.block 5 (.seq (.reg [⟨(some 33), (.mv (.t 7)), none⟩, ⟨(some 34), (.bin .mul (.c (.int .i64 (10))) (.t 33)), none⟩, ⟨(some 35), (.mv (.t 4)), none⟩, ⟨(some 36), (.mv (.t 8)), none⟩, ⟨(some 37), (.idxS (.t 35) (.t 36)), none⟩, ⟨(some 38), (.bin .sub (.t 37) (.c (.int .u8 (48)))), none⟩, ⟨(some 39), (.cvi .i64 (.t 38)), none⟩, ⟨(some 40), (.bin .add (.t 34) (.t 39)), none⟩, ⟨(some 7), (.mv (.t 40)), none⟩]) (.reg [⟨(some 41), (.mv (.t 8)), none⟩, ⟨(some 42), (.bin .add (.t 41) (.c (.int .i64 (1)))), none⟩, ⟨(some 8), (.mv (.t 42)), none⟩])))))) (.seq (.seq (.reg [⟨(some 43), (.mv (.t 4)), none⟩, ⟨(some 44), (.mv (.t 5)), none⟩, ⟨(some 45), (.mv (.t 6)), none⟩, ⟨(some 46), (.slS (.t 43) (some (.t 44)) (some (.t 45))), none⟩, ⟨(some 47), (.mv (.t 0)), none⟩, ⟨(some 48), (.bin .eql (.t 46) (.t 47)), none⟩]) (.cond (.t 48) (.seq (.dreg [(⟨(some 49), (.mv (.t 7)), none⟩, false), (⟨(some 50), (.mv (.t 4)), none⟩, false), (⟨(some 51), (.mv (.t 6)), none⟩, false), (⟨(some 52), (.idxS (.t 50) (.t 51)), none⟩, false), (⟨(some 53), (.bin .eql (.t 52) (.c (.int .u8 (42)))), none⟩, false), (⟨(some 2), (.mv (.t 49)), none⟩, false), (⟨(some 3), (.mv (.t 53)), none⟩, false)]) .ret) .skip)) (.reg [⟨(some 54), (.mv (.t 8)), none⟩, ⟨(some 55), (.bin .add (.t 54) (.c (.int .i64 (1)))), none⟩, ⟨(some 5), (.mv (.t 55)), none⟩]))))))))))) (.seq (.reg [⟨(some 2), (.mv (.c (.int .i64 (-1)))), none⟩, ⟨(some 3), (.mv (.c (.bool false))), none⟩]) .ret))))), [(.tmp 2), (.tmp 3)]⟩
theorem hc41 : toSF Tryd.prog {pure := [53]} Tryd.f41 = some c41 := by kernel_rfl
theorem hn41 : (Tryd.f41.name == "runtime.NumGoroutine") = false := by kernel_rfl
theorem rowOf_ok (nm : List UInt8) (hs : nm.length ≤ 1073741824) : PCalls (Pg G) 41 [.str nm] (.tup [aInt (rowM nm).1, .bool (rowM nm).2]) := fun h => by
  have hT := tabT_len
  refine dcalls_of_vc Tryd.func41 hn41 hc41 (by rw [Tryd.ntmps41]; simp) (by rw [Tryd.ntmps41]; decide) ?_
  simp -dsimp -implicitDefEqProofs (disch := omega) only [↓vcOps_sp 19, ↓vcD_sp 19, VCA, pg_gl, ↓upd_none, Nat.reduceEqDiff, Nat.reduceBEq, Nat.reduceAdd, Nat.reduceSub, Nat.reduceMul, Nat.reduceLT, Nat.reduceLeDiff, ↓reduceIte, reduceCtorEq, rsOf, rootsOf, SOp.rd, SI.rd, SX.rd, rdL, rdO, rdP, okParts, eqCells, okEqCells, fillA, okFill, setAt, implies_true, forall_const, forall_eq, ne_eq, exists_eq_right_right, exists_eq_right, exists_eq_left, exists_eq_left', eRune, eName, c41]
  refine pcallE.of (tableText_ok) ?_; simp -dsimp -implicitDefEqProofs (disch := omega) only [↓vcOps_sp 19, ↓vcD_sp 19, VCA, pg_gl, ↓upd_none, Nat.reduceEqDiff, Nat.reduceBEq, Nat.reduceAdd, Nat.reduceSub, Nat.reduceMul, Nat.reduceLT, Nat.reduceLeDiff, ↓reduceIte, reduceCtorEq, rsOf, rootsOf, SOp.rd, SI.rd, SX.rd, rdL, rdO, rdP, okParts, eqCells, okEqCells, fillA, okFill, setAt, implies_true, forall_const, forall_eq, ne_eq, exists_eq_right_right, exists_eq_right, exists_eq_left, exists_eq_left', eRune, eName]
  refine LoopVC.intro (fun m e h' => ∃ j : Nat, m = 48 - j ∧ j ≤ 48 ∧ e 0 = .str nm ∧ e 4 = .str tabT ∧ e 5 = aInt (offN j) ∧ h' = h ∧ ∀ i, i < j → (nth entT i).word ≠ nm) 48 ⟨0, rfl, by omega, rfl, rfl, rfl, rfl, fun i hi => absurd hi (Nat.not_lt_zero i)⟩ ?_
  rintro m e h' ⟨j, rfl, hj, he0, he4, he5, rfl, hn⟩
  simp -dsimp -implicitDefEqProofs (disch := omega) only [↓vcOps_sp 19, ↓vcD_sp 19, VCA, pg_gl, ↓upd_none, Nat.reduceEqDiff, Nat.reduceBEq, Nat.reduceAdd, Nat.reduceSub, Nat.reduceMul, Nat.reduceLT, Nat.reduceLeDiff, ↓reduceIte, reduceCtorEq, rsOf, rootsOf, SOp.rd, SI.rd, SX.rd, rdL, rdO, rdP, okParts, eqCells, okEqCells, fillA, okFill, setAt, implies_true, forall_const, forall_eq, ne_eq, exists_eq_right_right, exists_eq_right, exists_eq_left, exists_eq_left', eRune, eName, he0, he4, he5]
  by_cases hj48 : j < 48
  · have R := rowOK hj48
    have ho : offN j = (nth entO j).1 := if_pos hj48
    rw [ho] at he5 ⊢
    generalize (nth entO j).1 = o at *
    generalize (nth entO j).2.1 = en at *
    generalize (nth entO j).2.2 = k at *
    obtain ⟨a1, a2, a3, a4, a5, a6, a7, a8, a9, a10, a11, a12⟩ := R
    refine Br.dec (fun hlt => ?_) (fun hge => absurd (show (o : Int) < tabT.length by omega) hge)
    simp -dsimp -implicitDefEqProofs (disch := omega) only [↓vcOps_sp 19, ↓vcD_sp 19, VCA, pg_gl, ↓upd_none, Nat.reduceEqDiff, Nat.reduceBEq, Nat.reduceAdd, Nat.reduceSub, Nat.reduceMul, Nat.reduceLT, Nat.reduceLeDiff, ↓reduceIte, reduceCtorEq, rsOf, rootsOf, SOp.rd, SI.rd, SX.rd, rdL, rdO, rdP, okParts, eqCells, okEqCells, fillA, okFill, setAt, implies_true, forall_const, forall_eq, ne_eq, exists_eq_right_right, exists_eq_right, exists_eq_left, exists_eq_left', eRune, eName, he0, he4, he5]
    refine loopT (fun x e' h'' => x = .exit 2 ∧ e' 0 = .str nm ∧ e' 4 = .str tabT ∧ e' 5 = aInt o ∧ e' 6 = aInt en ∧ h'' = h') (fun m e' h'' => ∃ i : Nat, m = en - i ∧ o ≤ i ∧ i ≤ en ∧ e' 0 = .str nm ∧ e' 4 = .str tabT ∧ e' 5 = aInt o ∧ e' 6 = aInt i ∧ h'' = h') (en - o) ⟨o, rfl, by omega, by omega, he0, he4, he5, rfl, rfl⟩ ?_ ?_
    · rintro Q' hQ m e' h'' ⟨i, rfl, hi1, hi2, f0, f4, f5, f6, rfl⟩
      have eb : ((tabT.getD i 0).toNat : Int) = bt tabT i := rfl
      have b1 := a1 i hi1
      simp -dsimp -implicitDefEqProofs (disch := omega) only [↓vcOps_sp 19, ↓vcD_sp 19, VCA, pg_gl, ↓upd_none, Nat.reduceEqDiff, Nat.reduceBEq, Nat.reduceAdd, Nat.reduceSub, Nat.reduceMul, Nat.reduceLT, Nat.reduceLeDiff, ↓reduceIte, reduceCtorEq, rsOf, rootsOf, SOp.rd, SI.rd, SX.rd, rdL, rdO, rdP, okParts, eqCells, okEqCells, fillA, okFill, setAt, implies_true, forall_const, forall_eq, ne_eq, exists_eq_right_right, exists_eq_right, exists_eq_left, exists_eq_left', eRune, eName, f0, f4, f5, f6, eb]
      repeat' (first | ((with_reducible refine Br.dec (fun _ => ?_) (fun _ => ?_)) <;> try (exfalso; omega)) | ((with_reducible refine Br.eq (fun _ => ?_) (fun _ => ?_)) <;> try (exfalso; omega)) | ((with_reducible refine Br.ne (fun _ => ?_) (fun _ => ?_)) <;> try (exfalso; omega)) | with_reducible refine Br.intro (fun _ => ?_) (fun _ => ?_) | (with_reducible refine And.intro ?_ ?_; · omega) | simp -dsimp -implicitDefEqProofs (disch := omega) only [↓vcOps_sp 19, ↓vcD_sp 19, VCA, pg_gl, ↓upd_none, Nat.reduceEqDiff, Nat.reduceBEq, Nat.reduceAdd, Nat.reduceSub, Nat.reduceMul, Nat.reduceLT, Nat.reduceLeDiff, ↓reduceIte, reduceCtorEq, rsOf, rootsOf, SOp.rd, SI.rd, SX.rd, rdL, rdO, rdP, okParts, eqCells, okEqCells, fillA, okFill, setAt, implies_true, forall_const, forall_eq, ne_eq, exists_eq_right_right, exists_eq_right, exists_eq_left, exists_eq_left', eRune, eName, f0, f4, f5, f6, eb])
      · have hne : i ≠ en := by rintro rfl; omega
        refine ⟨_, ?_, i + 1, rfl, by omega, by omega, by omega⟩
        omega
      · obtain rfl : i = en := by omega
        exact hQ _ _ _ ⟨rfl, f0, f4, f5, f6, rfl⟩
      · obtain rfl : i = en := by omega
        exact hQ _ _ _ ⟨rfl, f0, f4, f5, f6, rfl⟩
    · rintro x e' h'' ⟨rfl, f0, f4, f5, f6, rfl⟩
      simp -dsimp -implicitDefEqProofs (disch := omega) only [↓vcOps_sp 19, ↓vcD_sp 19, VCA, pg_gl, ↓upd_none, Nat.reduceEqDiff, Nat.reduceBEq, Nat.reduceAdd, Nat.reduceSub, Nat.reduceMul, Nat.reduceLT, Nat.reduceLeDiff, ↓reduceIte, reduceCtorEq, rsOf, rootsOf, SOp.rd, SI.rd, SX.rd, rdL, rdO, rdP, okParts, eqCells, okEqCells, fillA, okFill, setAt, implies_true, forall_const, forall_eq, ne_eq, exists_eq_right_right, exists_eq_right, exists_eq_left, exists_eq_left', eRune, eName, f0, f4, f5, f6]
      refine loopT (fun x e1 h1 => x = .exit 4 ∧ e1 0 = .str nm ∧ e1 4 = .str tabT ∧ e1 5 = aInt o ∧ e1 6 = aInt en ∧ e1 8 = aInt k ∧ e1 7 = aInt (nth entT j).sign ∧ h1 = h'') (fun m e1 h1 => ∃ i : Nat, m = k - i ∧ en < i ∧ i ≤ k ∧ e1 0 = .str nm ∧ e1 4 = .str tabT ∧ e1 5 = aInt o ∧ e1 6 = aInt en ∧ e1 8 = aInt i ∧ e1 7 = aInt (numAt tabT (en + 1) (i - en - 1)) ∧ h1 = h'') _
        ⟨en + 1, rfl, by omega, by omega, f0, f4, f5, f6, congrArg aInt (by omega), congrArg aInt (by rw [show en + 1 - en - 1 = 0 by omega]; rfl), rfl⟩ ?_ ?_
      · rintro Q' hQ m e1 h1 ⟨i, rfl, hi1, hi2, g0, g4, g5, g6, g8, g7, rfl⟩
        have eb : ((tabT.getD i 0).toNat : Int) = bt tabT i := rfl
        have b3 := a3 i hi1
        have b12 := a12 (i - en - 1) (by omega)
        have hbb := bt_byte tabT i
        have hw : i < k → IntKind.u8.wrap (bt tabT i - 48) = bt tabT i - 48 := fun h => by rw [IntKind.wrap_u8]; have := b3 h; omega
        have hnx : numAt tabT (en + 1) (i + 1 - en - 1) = 10 * numAt tabT (en + 1) (i - en - 1) + (bt tabT i - 48) := by
          have : i + 1 - en - 1 = (i - en - 1) + 1 := by omega
          rw [this, numAt]
          have : en + 1 + (i - en - 1) = i := by omega
          rw [this]
        by_cases hik : i < k
        · have hw := hw hik
          have b3 := b3 hik
          simp -dsimp -implicitDefEqProofs (disch := omega) only [↓vcOps_sp 19, ↓vcD_sp 19, VCA, pg_gl, ↓upd_none, Nat.reduceEqDiff, Nat.reduceBEq, Nat.reduceAdd, Nat.reduceSub, Nat.reduceMul, Nat.reduceLT, Nat.reduceLeDiff, ↓reduceIte, reduceCtorEq, rsOf, rootsOf, SOp.rd, SI.rd, SX.rd, rdL, rdO, rdP, okParts, eqCells, okEqCells, fillA, okFill, setAt, implies_true, forall_const, forall_eq, ne_eq, exists_eq_right_right, exists_eq_right, exists_eq_left, exists_eq_left', eRune, eName, g0, g4, g5, g6, g8, g7, eb]
          repeat' (first | ((with_reducible refine Br.dec (fun _ => ?_) (fun _ => ?_)) <;> try (exfalso; omega)) | ((with_reducible refine Br.eq (fun _ => ?_) (fun _ => ?_)) <;> try (exfalso; omega)) | ((with_reducible refine Br.ne (fun _ => ?_) (fun _ => ?_)) <;> try (exfalso; omega)) | with_reducible refine Br.intro (fun _ => ?_) (fun _ => ?_) | (with_reducible refine And.intro ?_ ?_; · omega) | simp -dsimp -implicitDefEqProofs (disch := omega) only [↓vcOps_sp 19, ↓vcD_sp 19, VCA, pg_gl, ↓upd_none, Nat.reduceEqDiff, Nat.reduceBEq, Nat.reduceAdd, Nat.reduceSub, Nat.reduceMul, Nat.reduceLT, Nat.reduceLeDiff, ↓reduceIte, reduceCtorEq, rsOf, rootsOf, SOp.rd, SI.rd, SX.rd, rdL, rdO, rdP, okParts, eqCells, okEqCells, fillA, okFill, setAt, implies_true, forall_const, forall_eq, ne_eq, exists_eq_right_right, exists_eq_right, exists_eq_left, exists_eq_left', eRune, eName, g0, g4, g5, g6, g8, g7, eb, hw])
          refine ⟨_, ?_, i + 1, rfl, by omega, by omega, by omega, ?_⟩
          · omega
          · rw [hnx]
        · obtain rfl : i = k := by omega
          rw [a11] at g7
          simp -dsimp -implicitDefEqProofs (disch := omega) only [↓vcOps_sp 19, ↓vcD_sp 19, VCA, pg_gl, ↓upd_none, Nat.reduceEqDiff, Nat.reduceBEq, Nat.reduceAdd, Nat.reduceSub, Nat.reduceMul, Nat.reduceLT, Nat.reduceLeDiff, ↓reduceIte, reduceCtorEq, rsOf, rootsOf, SOp.rd, SI.rd, SX.rd, rdL, rdO, rdP, okParts, eqCells, okEqCells, fillA, okFill, setAt, implies_true, forall_const, forall_eq, ne_eq, exists_eq_right_right, exists_eq_right, exists_eq_left, exists_eq_left', eRune, eName, g0, g4, g5, g6, g8, g7, eb]
          repeat' (first | ((with_reducible refine Br.dec (fun _ => ?_) (fun _ => ?_)) <;> try (exfalso; omega)) | ((with_reducible refine Br.eq (fun _ => ?_) (fun _ => ?_)) <;> try (exfalso; omega)) | ((with_reducible refine Br.ne (fun _ => ?_) (fun _ => ?_)) <;> try (exfalso; omega)) | with_reducible refine Br.intro (fun _ => ?_) (fun _ => ?_) | (with_reducible refine And.intro ?_ ?_; · omega) | simp -dsimp -implicitDefEqProofs (disch := omega) only [↓vcOps_sp 19, ↓vcD_sp 19, VCA, pg_gl, ↓upd_none, Nat.reduceEqDiff, Nat.reduceBEq, Nat.reduceAdd, Nat.reduceSub, Nat.reduceMul, Nat.reduceLT, Nat.reduceLeDiff, ↓reduceIte, reduceCtorEq, rsOf, rootsOf, SOp.rd, SI.rd, SX.rd, rdL, rdO, rdP, okParts, eqCells, okEqCells, fillA, okFill, setAt, implies_true, forall_const, forall_eq, ne_eq, exists_eq_right_right, exists_eq_right, exists_eq_left, exists_eq_left', eRune, eName, g0, g4, g5, g6, g8, g7, eb])
          exact hQ _ _ _ ⟨rfl, g0, g4, g5, g6, g8, g7, rfl⟩
      · rintro x e1 h1 ⟨rfl, g0, g4, g5, g6, g8, g7, rfl⟩
        have eb : ((tabT.getD en 0).toNat : Int) = bt tabT en := rfl
        simp -dsimp -implicitDefEqProofs (disch := omega) only [↓vcOps_sp 19, ↓vcD_sp 19, VCA, pg_gl, ↓upd_none, Nat.reduceEqDiff, Nat.reduceBEq, Nat.reduceAdd, Nat.reduceSub, Nat.reduceMul, Nat.reduceLT, Nat.reduceLeDiff, ↓reduceIte, reduceCtorEq, rsOf, rootsOf, SOp.rd, SI.rd, SX.rd, rdL, rdO, rdP, okParts, eqCells, okEqCells, fillA, okFill, setAt, implies_true, forall_const, forall_eq, ne_eq, exists_eq_right_right, exists_eq_right, exists_eq_left, exists_eq_left', eRune, eName, g0, g4, g5, g6, g8, g7, eb, a9]
        refine ⟨by omega, ?_⟩
        refine Br.eq (fun h1 => ?_) (fun h1 => ?_)
        · rw [rowM_some hj48 hn h1]
          simp -dsimp -implicitDefEqProofs (disch := omega) only [↓vcOps_sp 19, ↓vcD_sp 19, VCA, pg_gl, ↓upd_none, Nat.reduceEqDiff, Nat.reduceBEq, Nat.reduceAdd, Nat.reduceSub, Nat.reduceMul, Nat.reduceLT, Nat.reduceLeDiff, ↓reduceIte, reduceCtorEq, rsOf, rootsOf, SOp.rd, SI.rd, SX.rd, rdL, rdO, rdP, okParts, eqCells, okEqCells, fillA, okFill, setAt, implies_true, forall_const, forall_eq, ne_eq, exists_eq_right_right, exists_eq_right, exists_eq_left, exists_eq_left', eRune, eName, g0, g4, g5, g6, g8, g7, eb, a10]
          exact ⟨by omega, Sub.refl _⟩
        · simp -dsimp -implicitDefEqProofs (disch := omega) only [↓vcOps_sp 19, ↓vcD_sp 19, VCA, pg_gl, ↓upd_none, Nat.reduceEqDiff, Nat.reduceBEq, Nat.reduceAdd, Nat.reduceSub, Nat.reduceMul, Nat.reduceLT, Nat.reduceLeDiff, ↓reduceIte, reduceCtorEq, rsOf, rootsOf, SOp.rd, SI.rd, SX.rd, rdL, rdO, rdP, okParts, eqCells, okEqCells, fillA, okFill, setAt, implies_true, forall_const, forall_eq, ne_eq, exists_eq_right_right, exists_eq_right, exists_eq_left, exists_eq_left', eRune, eName, g0, g4, g5, g6, g8, g7, eb]
          refine ⟨_, ?_, j + 1, rfl, by omega, by omega, fun i hi => ?_⟩
          · omega
          · by_cases hij : i = j
            · subst hij; exact h1
            · exact hn i (by omega)
  · have hj' : j = 48 := by omega
    subst hj'
    have ho : offN 48 = tabT.length := if_neg (by omega)
    rw [ho]
    refine Br.dec (fun hlt => absurd hlt (by omega)) (fun hge => ?_)
    simp -dsimp -implicitDefEqProofs (disch := omega) only [↓vcOps_sp 19, ↓vcD_sp 19, VCA, pg_gl, ↓upd_none, Nat.reduceEqDiff, Nat.reduceBEq, Nat.reduceAdd, Nat.reduceSub, Nat.reduceMul, Nat.reduceLT, Nat.reduceLeDiff, ↓reduceIte, reduceCtorEq, rsOf, rootsOf, SOp.rd, SI.rd, SX.rd, rdL, rdO, rdP, okParts, eqCells, okEqCells, fillA, okFill, setAt, implies_true, forall_const, forall_eq, ne_eq, exists_eq_right_right, exists_eq_right, exists_eq_left, exists_eq_left', eRune, eName]
    rw [rowM_none hn]
    exact ⟨Sub.refl _, rfl⟩
end Go.Proofs.K
