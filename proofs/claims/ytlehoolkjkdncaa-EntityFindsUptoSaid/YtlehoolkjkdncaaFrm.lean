/- chars.From, Sniff and the document's. -/
import Derived.Test.YtlehoolkjkdncaaCln
set_option linter.unusedSimpArgs false
set_option linter.unusedVariables false
namespace Go.Proofs.K
open Go Go.Sim Go.Proofs
variable {G : Glob}

/-! ## Sniff -/
def hasPre (s p : List UInt8) : Bool := decide (p.length ≤ s.length) && s.take p.length == p
def c108 : SFun := ⟨(.seq (.reg [⟨(some 4), (.mv (.c (.bool false))), none⟩]) (.seq (.reg [⟨(some 5), (.mv (.t 0)), none⟩, ⟨(some 6), (.lenS (.t 5)), none⟩, ⟨(some 7), (.mv (.t 1)), none⟩, ⟨(some 8), (.lenS (.t 7)), none⟩, ⟨(some 9), (.bin .geq (.t 6) (.t 8)), none⟩, ⟨(some 10), (.mv (.t 9)), none⟩, ⟨(some 11), (.mv (.t 0)), (some (10, true))⟩, ⟨(some 12), (.mv (.t 1)), (some (10, true))⟩, ⟨(some 13), (.lenS (.t 12)), (some (10, true))⟩, ⟨(some 14), (.slS (.t 11) none (some (.t 13))), (some (10, true))⟩, ⟨(some 15), (.mv (.t 1)), (some (10, true))⟩, ⟨(some 16), (.bin .eql (.t 14) (.t 15)), (some (10, true))⟩, ⟨(some 17), (.pick (.t 10) (.t 16) (.c (.bool false))), none⟩, ⟨(some 4), (.mv (.t 17)), none⟩]) .ret)), [(.tmp 4)]⟩
theorem hc108 : toSF Try.prog {} Try.f108 = some c108 := by kernel_rfl
theorem hn108 : (Try.f108.name == "runtime.NumGoroutine") = false := by kernel_rfl
theorem slHasPre_ok (s p : List UInt8) (hs : s.length ≤ 1073741824) (hp : p.length ≤ 1073741824) : PCalls (Pg G) 108 [.str s, .str p] (.bool (hasPre s p)) := fun h => by
  refine dcalls_of_vc Try.func108 hn108 hc108 (by rw [Try.ntmps108]; simp) (by rw [Try.ntmps108]; decide) ?_
  simp -dsimp -implicitDefEqProofs (disch := omega) only [↓vcOps_sp 10, ↓vcD_sp 10, VCA, pg_gl, ↓upd_none, Nat.reduceEqDiff, Nat.reduceBEq, Nat.reduceAdd, Nat.reduceSub, Nat.reduceMul, Nat.reduceLT, Nat.reduceLeDiff, ↓reduceIte, reduceCtorEq, rsOf, rootsOf, SOp.rd, SI.rd, SX.rd, rdL, rdO, rdP, okParts, eqCells, okEqCells, fillA, okFill, setAt, implies_true, forall_const, forall_eq, ne_eq, exists_eq_right_right, exists_eq_right, exists_eq_left, exists_eq_left', eRune, c108]
  refine Br.dec (fun h1 => ?_) (fun h1 => ?_)
  · simp -dsimp -implicitDefEqProofs (disch := omega) only [↓vcOps_sp 10, ↓vcD_sp 10, VCA, pg_gl, ↓upd_none, Nat.reduceEqDiff, Nat.reduceBEq, Nat.reduceAdd, Nat.reduceSub, Nat.reduceMul, Nat.reduceLT, Nat.reduceLeDiff, ↓reduceIte, reduceCtorEq, rsOf, rootsOf, SOp.rd, SI.rd, SX.rd, rdL, rdO, rdP, okParts, eqCells, okEqCells, fillA, okFill, setAt, implies_true, forall_const, forall_eq, ne_eq, exists_eq_right_right, exists_eq_right, exists_eq_left, exists_eq_left', eRune]
    have h1' : p.length ≤ s.length := by omega
    refine ⟨by omega, Sub.refl _, ?_⟩
    simp [hasPre, h1']
  · simp -dsimp -implicitDefEqProofs (disch := omega) only [↓vcOps_sp 10, ↓vcD_sp 10, VCA, pg_gl, ↓upd_none, Nat.reduceEqDiff, Nat.reduceBEq, Nat.reduceAdd, Nat.reduceSub, Nat.reduceMul, Nat.reduceLT, Nat.reduceLeDiff, ↓reduceIte, reduceCtorEq, rsOf, rootsOf, SOp.rd, SI.rd, SX.rd, rdL, rdO, rdP, okParts, eqCells, okEqCells, fillA, okFill, setAt, implies_true, forall_const, forall_eq, ne_eq, exists_eq_right_right, exists_eq_right, exists_eq_left, exists_eq_left', eRune]
    have h1' : ¬ p.length ≤ s.length := by omega
    exact ⟨Sub.refl _, by simp [hasPre, h1']⟩
def c80 : SFun := ⟨(.seq (.reg [⟨(some 4), (.mv (.c (.bool false))), none⟩]) (.seq (.reg [⟨(some 5), (.mv (.t 0)), none⟩, ⟨(some 6), (.mv (.t 1)), none⟩, ⟨(some 7), (.pcall 108 [(.t 5), (.t 6)]), none⟩, ⟨(some 4), (.mv (.t 7)), none⟩]) .ret)), [(.tmp 4)]⟩
theorem hc80 : toSF Try.prog {pure := [108]} Try.f80 = some c80 := by kernel_rfl
theorem hn80 : (Try.f80.name == "runtime.NumGoroutine") = false := by kernel_rfl
theorem hasPre_ok (s p : List UInt8) (hs : s.length ≤ 1073741824) (hp : p.length ≤ 1073741824) : PCalls (Pg G) 80 [.str s, .str p] (.bool (hasPre s p)) := fun h => by
  refine dcalls_of_vc Try.func80 hn80 hc80 (by rw [Try.ntmps80]; simp) (by rw [Try.ntmps80]; decide) ?_
  simp -dsimp -implicitDefEqProofs (disch := omega) only [VCA, pg_gl, ↓upd_none, Nat.reduceEqDiff, Nat.reduceBEq, Nat.reduceAdd, Nat.reduceSub, Nat.reduceMul, Nat.reduceLT, Nat.reduceLeDiff, ↓reduceIte, reduceCtorEq, rsOf, rootsOf, SOp.rd, SI.rd, SX.rd, rdL, rdO, rdP, okParts, eqCells, okEqCells, fillA, okFill, setAt, implies_true, forall_const, forall_eq, ne_eq, exists_eq_right_right, exists_eq_right, exists_eq_left, exists_eq_left', eRune, c80]
  refine pcallE.of (slHasPre_ok s p hs hp) ?_; simp -dsimp -implicitDefEqProofs (disch := omega) only [VCA, pg_gl, ↓upd_none, Nat.reduceEqDiff, Nat.reduceBEq, Nat.reduceAdd, Nat.reduceSub, Nat.reduceMul, Nat.reduceLT, Nat.reduceLeDiff, ↓reduceIte, reduceCtorEq, rsOf, rootsOf, SOp.rd, SI.rd, SX.rd, rdL, rdO, rdP, okParts, eqCells, okEqCells, fillA, okFill, setAt, implies_true, forall_const, forall_eq, ne_eq, exists_eq_right_right, exists_eq_right, exists_eq_left, exists_eq_left', eRune]
  exact Sub.refl _
def sniffM (s : List UInt8) : Int × Int := if hasPre s [239, 187, 191] = true then (1, 3) else if hasPre s [254, 255] = true then (2, 2) else if hasPre s [255, 254] = true then (3, 2) else (0, 0)
def c44 : SFun := ⟨(.seq (.reg [⟨(some 2), (.mv (.c (.int .i64 (0)))), none⟩, ⟨(some 3), (.mv (.c (.int .i64 (0)))), none⟩]) (.seq (.block 0 (.seq (.reg [⟨(some 5), (.mv (.t 0)), none⟩, ⟨(some 6), (.pcall 80 [(.t 5), (.c (.str [239, 187, 191]))]), none⟩, ⟨(some 4), (.mv (.t 6)), none⟩]) (.cond (.t 4) (.seq (.reg [⟨(some 2), (.mv (.c (.int .i64 (1)))), none⟩, ⟨(some 3), (.mv (.c (.int .i64 (3)))), none⟩]) .ret) (.seq (.reg [⟨(some 8), (.mv (.t 0)), none⟩, ⟨(some 9), (.pcall 80 [(.t 8), (.c (.str [254, 255]))]), none⟩, ⟨(some 7), (.mv (.t 9)), none⟩]) (.cond (.t 7) (.seq (.reg [⟨(some 2), (.mv (.c (.int .i64 (2)))), none⟩, ⟨(some 3), (.mv (.c (.int .i64 (2)))), none⟩]) .ret) (.seq (.reg [⟨(some 11), (.mv (.t 0)), none⟩, ⟨(some 12), (.pcall 80 [(.t 11), (.c (.str [255, 254]))]), none⟩, ⟨(some 10), (.mv (.t 12)), none⟩]) (.cond (.t 10) (.seq (.reg [⟨(some 2), (.mv (.c (.int .i64 (3)))), none⟩, ⟨(some 3), (.mv (.c (.int .i64 (2)))), none⟩]) .ret) .skip))))))) (.seq (.reg [⟨(some 2), (.mv (.c (.int .i64 (0)))), none⟩, ⟨(some 3), (.mv (.c (.int .i64 (0)))), none⟩]) .ret))), [(.tmp 2), (.tmp 3)]⟩
theorem hc44 : toSF Try.prog {pure := [80]} Try.f44 = some c44 := by kernel_rfl
theorem hn44 : (Try.f44.name == "runtime.NumGoroutine") = false := by kernel_rfl
theorem sniff_ok (s : List UInt8) (hs : s.length ≤ 1073741824) : PCalls (Pg G) 44 [.str s] (.tup [aInt (sniffM s).1, aInt (sniffM s).2]) := fun h => by
  refine dcalls_of_vc Try.func44 hn44 hc44 (by rw [Try.ntmps44]; simp) (by rw [Try.ntmps44]; decide) ?_
  simp -dsimp -implicitDefEqProofs (disch := omega) only [VCA, pg_gl, ↓upd_none, Nat.reduceEqDiff, Nat.reduceBEq, Nat.reduceAdd, Nat.reduceSub, Nat.reduceMul, Nat.reduceLT, Nat.reduceLeDiff, ↓reduceIte, reduceCtorEq, rsOf, rootsOf, SOp.rd, SI.rd, SX.rd, rdL, rdO, rdP, okParts, eqCells, okEqCells, fillA, okFill, setAt, implies_true, forall_const, forall_eq, ne_eq, exists_eq_right_right, exists_eq_right, exists_eq_left, exists_eq_left', eRune, c44]
  repeat' (first | (refine Br.dec (fun _ => ?_) (fun _ => ?_) <;> try (exfalso; omega)) | (refine Br.eq (fun _ => ?_) (fun _ => ?_) <;> try (exfalso; omega)) | (refine Br.ne (fun _ => ?_) (fun _ => ?_) <;> try (exfalso; omega)) | refine Br.intro (fun _ => ?_) (fun _ => ?_) | refine pcallE.of (hasPre_ok s _ hs (by simp)) ?_ | (with_reducible refine And.intro ?_ ?_; · omega) | simp -dsimp -implicitDefEqProofs (disch := omega) only [VCA, pg_gl, ↓upd_none, Nat.reduceEqDiff, Nat.reduceBEq, Nat.reduceAdd, Nat.reduceSub, Nat.reduceMul, Nat.reduceLT, Nat.reduceLeDiff, ↓reduceIte, reduceCtorEq, rsOf, rootsOf, SOp.rd, SI.rd, SX.rd, rdL, rdO, rdP, okParts, eqCells, okEqCells, fillA, okFill, setAt, implies_true, forall_const, forall_eq, ne_eq, exists_eq_right_right, exists_eq_right, exists_eq_left, exists_eq_left', eRune])
  all_goals (refine ⟨Sub.refl _, ?_⟩; simp [sniffM, *])
theorem pre2 (s : List UInt8) (a b : UInt8) : hasPre s [a, b] = (decide (2 ≤ s.length) && (bt s 0 == a.toNat) && (bt s 1 == b.toNat)) := by
  match s with
  | [] => simp [hasPre]
  | [x] => simp [hasPre]
  | x :: y :: r => 
    have h : ∀ p q : UInt8, (p == q) = ((p.toNat : Int) == (q.toNat : Int)) := fun p q => by
      rw [Bool.eq_iff_iff]; simp [← UInt8.toNat_inj]; omega
    simp [hasPre, bt, h]
theorem pre3 (s : List UInt8) (a b c : UInt8) : hasPre s [a, b, c] = (decide (3 ≤ s.length) && (bt s 0 == a.toNat) && (bt s 1 == b.toNat) && (bt s 2 == c.toNat)) := by
  match s with
  | [] => simp [hasPre]
  | [x] => simp [hasPre]
  | [x, y] => simp [hasPre]
  | x :: y :: z :: r => 
    have h : ∀ p q : UInt8, (p == q) = ((p.toNat : Int) == (q.toNat : Int)) := fun p q => by
      rw [Bool.eq_iff_iff]; simp [← UInt8.toNat_inj]; omega
    simp [hasPre, bt, h, Bool.and_assoc]
theorem sniffM_eq (s : List UInt8) : sniffM s = if 3 ≤ s.length ∧ bt s 0 = 239 ∧ bt s 1 = 187 ∧ bt s 2 = 191 then (1, 3) else if 2 ≤ s.length ∧ bt s 0 = 254 ∧ bt s 1 = 255 then (2, 2) else if 2 ≤ s.length ∧ bt s 0 = 255 ∧ bt s 1 = 254 then (3, 2) else (0, 0) := by
  unfold sniffM
  rw [pre3, pre2, pre2]
  simp only [Bool.and_eq_true, decide_eq_true_eq, beq_iff_eq, and_assoc]
  rfl
def c45 : SFun := ⟨(.seq (.reg [⟨(some 2), (.mv (.c (.int .i64 (0)))), none⟩, ⟨(some 3), (.mv (.c (.int .i64 (0)))), none⟩]) (.seq (.seq (.reg [⟨(some 4), (.mv (.t 0)), none⟩, ⟨(some 5), (.lenS (.t 4)), none⟩, ⟨(some 6), (.bin .geq (.t 5) (.c (.int .i64 (3)))), none⟩, ⟨(some 7), (.mv (.t 6)), none⟩, ⟨(some 8), (.mv (.t 0)), (some (7, true))⟩, ⟨(some 9), (.idxS (.t 8) (.c (.int .i64 (0)))), (some (7, true))⟩, ⟨(some 10), (.bin .eql (.t 9) (.c (.int .u8 (239)))), (some (7, true))⟩, ⟨(some 11), (.pick (.t 7) (.t 10) (.c (.bool false))), none⟩, ⟨(some 12), (.mv (.t 11)), none⟩, ⟨(some 13), (.mv (.t 0)), (some (12, true))⟩, ⟨(some 14), (.idxS (.t 13) (.c (.int .i64 (1)))), (some (12, true))⟩, ⟨(some 15), (.bin .eql (.t 14) (.c (.int .u8 (187)))), (some (12, true))⟩, ⟨(some 16), (.pick (.t 12) (.t 15) (.c (.bool false))), none⟩, ⟨(some 17), (.mv (.t 16)), none⟩, ⟨(some 18), (.mv (.t 0)), (some (17, true))⟩, ⟨(some 19), (.idxS (.t 18) (.c (.int .i64 (2)))), (some (17, true))⟩, ⟨(some 20), (.bin .eql (.t 19) (.c (.int .u8 (191)))), (some (17, true))⟩, ⟨(some 21), (.pick (.t 17) (.t 20) (.c (.bool false))), none⟩]) (.cond (.t 21) (.seq (.reg [⟨(some 2), (.mv (.c (.int .i64 (1)))), none⟩, ⟨(some 3), (.mv (.c (.int .i64 (3)))), none⟩]) .ret) .skip)) (.seq (.seq (.reg [⟨(some 22), (.mv (.t 0)), none⟩, ⟨(some 23), (.lenS (.t 22)), none⟩, ⟨(some 24), (.bin .geq (.t 23) (.c (.int .i64 (2)))), none⟩, ⟨(some 25), (.mv (.t 24)), none⟩, ⟨(some 26), (.mv (.t 0)), (some (25, true))⟩, ⟨(some 27), (.idxS (.t 26) (.c (.int .i64 (0)))), (some (25, true))⟩, ⟨(some 28), (.bin .eql (.t 27) (.c (.int .u8 (254)))), (some (25, true))⟩, ⟨(some 29), (.pick (.t 25) (.t 28) (.c (.bool false))), none⟩, ⟨(some 30), (.mv (.t 29)), none⟩, ⟨(some 31), (.mv (.t 0)), (some (30, true))⟩, ⟨(some 32), (.idxS (.t 31) (.c (.int .i64 (1)))), (some (30, true))⟩, ⟨(some 33), (.bin .eql (.t 32) (.c (.int .u8 (255)))), (some (30, true))⟩, ⟨(some 34), (.pick (.t 30) (.t 33) (.c (.bool false))), none⟩]) (.cond (.t 34) (.seq (.reg [⟨(some 2), (.mv (.c (.int .i64 (2)))), none⟩, ⟨(some 3), (.mv (.c (.int .i64 (2)))), none⟩]) .ret) .skip)) (.seq (.seq (.reg [⟨(some 35), (.mv (.t 0)), none⟩, ⟨(some 36), (.lenS (.t 35)), none⟩, ⟨(some 37), (.bin .geq (.t 36) (.c (.int .i64 (2)))), none⟩, ⟨(some 38), (.mv (.t 37)), none⟩, ⟨(some 39), (.mv (.t 0)), (some (38, true))⟩, ⟨(some 40), (.idxS (.t 39) (.c (.int .i64 (0)))), (some (38, true))⟩, ⟨(some 41), (.bin .eql (.t 40) (.c (.int .u8 (255)))), (some (38, true))⟩, ⟨(some 42), (.pick (.t 38) (.t 41) (.c (.bool false))), none⟩, ⟨(some 43), (.mv (.t 42)), none⟩, ⟨(some 44), (.mv (.t 0)), (some (43, true))⟩, ⟨(some 45), (.idxS (.t 44) (.c (.int .i64 (1)))), (some (43, true))⟩, ⟨(some 46), (.bin .eql (.t 45) (.c (.int .u8 (254)))), (some (43, true))⟩, ⟨(some 47), (.pick (.t 43) (.t 46) (.c (.bool false))), none⟩]) (.cond (.t 47) (.seq (.reg [⟨(some 2), (.mv (.c (.int .i64 (3)))), none⟩, ⟨(some 3), (.mv (.c (.int .i64 (2)))), none⟩]) .ret) .skip)) (.seq (.reg [⟨(some 2), (.mv (.c (.int .i64 (0)))), none⟩, ⟨(some 3), (.mv (.c (.int .i64 (0)))), none⟩]) .ret))))), [(.tmp 2), (.tmp 3)]⟩
theorem hc45 : toSF Try.prog {} Try.f45 = some c45 := by kernel_rfl
theorem hn45 : (Try.f45.name == "runtime.NumGoroutine") = false := by kernel_rfl
theorem refSniff_ok (s : List UInt8) (hs : s.length ≤ 1073741824) : PCalls (Pg G) 45 [.str s] (.tup [aInt (sniffM s).1, aInt (sniffM s).2]) := fun h => by
  rw [sniffM_eq]
  have e0 : ((s.getD 0 0).toNat : Int) = bt s 0 := rfl
  have e1 : ((s.getD (Int.toNat 1) 0).toNat : Int) = bt s 1 := rfl
  have e2 : ((s.getD (Int.toNat 2) 0).toNat : Int) = bt s 2 := rfl
  refine dcalls_of_vc Try.func45 hn45 hc45 (by rw [Try.ntmps45]; simp) (by rw [Try.ntmps45]; decide) ?_
  simp -dsimp -implicitDefEqProofs (disch := omega) only [↓vcOps_sp 7, ↓vcD_sp 7, ↓vcOps_sp 12, ↓vcD_sp 12, ↓vcOps_sp 17, ↓vcD_sp 17, ↓vcOps_sp 25, ↓vcD_sp 25, ↓vcOps_sp 30, ↓vcD_sp 30, ↓vcOps_sp 38, ↓vcD_sp 38, ↓vcOps_sp 43, ↓vcD_sp 43, VCA, pg_gl, ↓upd_none, Nat.reduceEqDiff, Nat.reduceBEq, Nat.reduceAdd, Nat.reduceSub, Nat.reduceMul, Nat.reduceLT, Nat.reduceLeDiff, ↓reduceIte, reduceCtorEq, rsOf, rootsOf, SOp.rd, SI.rd, SX.rd, rdL, rdO, rdP, okParts, eqCells, okEqCells, fillA, okFill, setAt, implies_true, forall_const, forall_eq, ne_eq, exists_eq_right_right, exists_eq_right, exists_eq_left, exists_eq_left', eRune, c45]
  repeat' (first | (refine Br.dec (fun _ => ?_) (fun _ => ?_) <;> try (exfalso; omega)) | (refine Br.eq (fun _ => ?_) (fun _ => ?_) <;> try (exfalso; omega)) | (refine Br.ne (fun _ => ?_) (fun _ => ?_) <;> try (exfalso; omega)) | refine Br.intro (fun _ => ?_) (fun _ => ?_) | (with_reducible refine And.intro ?_ ?_; · omega) | simp -dsimp -implicitDefEqProofs (disch := omega) only [↓vcOps_sp 7, ↓vcD_sp 7, ↓vcOps_sp 12, ↓vcD_sp 12, ↓vcOps_sp 17, ↓vcD_sp 17, ↓vcOps_sp 25, ↓vcD_sp 25, ↓vcOps_sp 30, ↓vcD_sp 30, ↓vcOps_sp 38, ↓vcD_sp 38, ↓vcOps_sp 43, ↓vcD_sp 43, VCA, pg_gl, ↓upd_none, Nat.reduceEqDiff, Nat.reduceBEq, Nat.reduceAdd, Nat.reduceSub, Nat.reduceMul, Nat.reduceLT, Nat.reduceLeDiff, ↓reduceIte, reduceCtorEq, rsOf, rootsOf, SOp.rd, SI.rd, SX.rd, rdL, rdO, rdP, okParts, eqCells, okEqCells, fillA, okFill, setAt, implies_true, forall_const, forall_eq, ne_eq, exists_eq_right_right, exists_eq_right, exists_eq_left, exists_eq_left', eRune, e0, e1, e2])
  all_goals refine ⟨Sub.refl _, ?_⟩
  all_goals (repeat' split)
  all_goals first | rfl | (exfalso; omega)

/-! ## units -/
def unitM (s : List UInt8) (hi k : Nat) : Int := bt s (2 * k + hi) * 256 + bt s (2 * k + 1 - hi)
def unitsM (s : List UInt8) (hi : Nat) : List Int := (List.range (s.length / 2)).map (unitM s hi)
theorem unitM_r (s : List UInt8) (hi k : Nat) : 0 ≤ unitM s hi k ∧ unitM s hi k < 65536 := by
  have h1 := bt_byte s (2 * k + hi)
  have h2 := bt_byte s (2 * k + 1 - hi)
  unfold unitM; omega
theorem joinU {b1 b2 : Int} (h1 : 0 ≤ b1) (h2 : b1 < 256) (h3 : 0 ≤ b2) (h4 : b2 < 256) :
    bitF .or .i32 (IntKind.i32.wrap (IntKind.i32.wrap b1 * 2 ^ min (8 : Int).toNat IntKind.i32.bits)) (IntKind.i32.wrap b2) = b1 * 256 + b2 := by
  have e : (2 : Int) ^ min (8 : Int).toNat IntKind.i32.bits = 256 := rfl
  have w1 : IntKind.i32.wrap b1 = b1 := by rw [IntKind.wrap_i32]; omega
  have w2 : IntKind.i32.wrap b2 = b2 := by rw [IntKind.wrap_i32]; omega
  have w3 : IntKind.i32.wrap (b1 * 256) = b1 * 256 := by rw [IntKind.wrap_i32]; omega
  rw [w1, e, w2, w3]
  exact bits_join .i32 31 (by decide) wraps_i32 8 _ _ (by omega) (by omega) (by omega) (by omega) (by omega) (by omega)
def c82 : SFun := ⟨(.seq (.reg [⟨(some 4), (.mv (.c .emp)), none⟩]) (.seq (.reg [⟨(some 5), (.mv (.c .emp)), none⟩]) (.seq (.seq (.reg [⟨(some 6), (.mv (.c (.int .i64 (0)))), none⟩]) (.block 0 (.loop (.seq (.seq (.reg [⟨(some 7), (.mv (.t 6)), none⟩, ⟨(some 8), (.bin .add (.t 7) (.c (.int .i64 (1)))), none⟩, ⟨(some 9), (.mv (.t 0)), none⟩, ⟨(some 10), (.lenS (.t 9)), none⟩, ⟨(some 11), (.bin .lss (.t 8) (.t 10)), none⟩]) (.cond (.t 11) .skip (.exit 0))) (.seq (.block 1 (.dreg [(⟨(some 14), (.mv (.t 5)), none⟩, false), (⟨(some 15), (.mv (.t 0)), none⟩, false), (⟨(some 16), (.mv (.t 6)), none⟩, false), (⟨(some 17), (.mv (.t 1)), none⟩, false), (⟨(some 18), (.bin .add (.t 16) (.t 17)), none⟩, false), (⟨(some 19), (.idxS (.t 15) (.t 18)), none⟩, false), (⟨(some 20), (.cvi .i32 (.t 19)), none⟩, false), (⟨(some 21), (.bin .shl (.t 20) (.c (.int .u64 (8)))), none⟩, false), (⟨(some 22), (.mv (.t 0)), none⟩, false), (⟨(some 23), (.mv (.t 6)), none⟩, false), (⟨(some 24), (.bin .add (.t 23) (.c (.int .i64 (1)))), none⟩, false), (⟨(some 25), (.mv (.t 1)), none⟩, false), (⟨(some 26), (.bin .sub (.t 24) (.t 25)), none⟩, false), (⟨(some 27), (.idxS (.t 22) (.t 26)), none⟩, false), (⟨(some 28), (.cvi .i32 (.t 27)), none⟩, false), (⟨(some 29), (.bin .or (.t 21) (.t 28)), none⟩, false), (⟨(some 30), (.bldF 21 1 [(.t 29)]), none⟩, false), (⟨(some 31), (.app 21 1 4 (.t 14) (.t 30)), none⟩, true), (⟨(some 5), (.mv (.t 31)), none⟩, true)])) (.reg [⟨(some 12), (.mv (.t 6)), none⟩, ⟨(some 13), (.bin .add (.t 12) (.c (.int .i64 (2)))), none⟩, ⟨(some 6), (.mv (.t 13)), none⟩])))))) (.seq (.reg [⟨(some 32), (.mv (.t 5)), none⟩, ⟨(some 4), (.mv (.t 32)), none⟩]) .ret)))), [(.tmp 4)]⟩
theorem hc82 : toSF Try.prog {} Try.f82 = some c82 := by kernel_rfl
theorem hn82 : (Try.f82.name == "runtime.NumGoroutine") = false := by kernel_rfl
theorem units_own {h : Heap} (s : List UInt8) (hi : Nat) (hh : hi ≤ 1) (hs : s.length ≤ 1073741824) : DCalls (Pg G) 82 [.str s, aInt hi] h (AccK h Ti 1 ((unitsM s hi).map eRune)) := by
  refine dcalls_of_vc Try.func82 hn82 hc82 (by rw [Try.ntmps82]; simp) (by rw [Try.ntmps82]; decide) ?_
  simp -dsimp -implicitDefEqProofs (disch := omega) only [VCA, pg_gl, ↓upd_none, Nat.reduceEqDiff, Nat.reduceBEq, Nat.reduceAdd, Nat.reduceSub, Nat.reduceMul, Nat.reduceLT, Nat.reduceLeDiff, ↓reduceIte, reduceCtorEq, rsOf, rootsOf, SOp.rd, SI.rd, SX.rd, rdL, rdO, rdP, okParts, eqCells, okEqCells, fillA, okFill, setAt, implies_true, forall_const, forall_eq, ne_eq, exists_eq_right_right, exists_eq_right, exists_eq_left, exists_eq_left', eRune, c82]
  refine LoopVC.intro (fun m e h' => ∃ k : Nat, m = s.length - 2 * k ∧ 2 * k ≤ s.length ∧ e 0 = .str s ∧ e 1 = aInt hi ∧ e 6 = aInt ((2 * k : Nat) : Int) ∧ Acc h Ti 1 (((List.range k).map (unitM s hi)).map eRune) (e 5) h' ∧ Sub h h') _ ⟨0, rfl, by omega, rfl, rfl, rfl, Acc.nil, Sub.refl _⟩ ?_
  rintro m e h' ⟨k, rfl, hk, he0, he1, he6, A, S⟩
  generalize ea : e 5 = a at A
  simp -dsimp -implicitDefEqProofs (disch := omega) only [VCA, pg_gl, ↓upd_none, Nat.reduceEqDiff, Nat.reduceBEq, Nat.reduceAdd, Nat.reduceSub, Nat.reduceMul, Nat.reduceLT, Nat.reduceLeDiff, ↓reduceIte, reduceCtorEq, rsOf, rootsOf, SOp.rd, SI.rd, SX.rd, rdL, rdO, rdP, okParts, eqCells, okEqCells, fillA, okFill, setAt, implies_true, forall_const, forall_eq, ne_eq, exists_eq_right_right, exists_eq_right, exists_eq_left, exists_eq_left', eRune, he0, he1, he6, ea]
  refine Br.dec (fun hlt => ?_) (fun hge => ?_)
  · simp -dsimp -implicitDefEqProofs (disch := omega) only [VCA, pg_gl, ↓upd_none, Nat.reduceEqDiff, Nat.reduceBEq, Nat.reduceAdd, Nat.reduceSub, Nat.reduceMul, Nat.reduceLT, Nat.reduceLeDiff, ↓reduceIte, reduceCtorEq, rsOf, rootsOf, SOp.rd, SI.rd, SX.rd, rdL, rdO, rdP, okParts, eqCells, okEqCells, fillA, okFill, setAt, implies_true, forall_const, forall_eq, ne_eq, exists_eq_right_right, exists_eq_right, exists_eq_left, exists_eq_left', eRune, he0, he1, he6, ea]
    have i1 : (((2 * k : Nat) : Int) + (hi : Int)).toNat = 2 * k + hi := by omega
    have i2 : (((2 * k : Nat) : Int) + 1 - (hi : Int)).toNat = 2 * k + 1 - hi := by omega
    have hb1 := bt_byte s (2 * k + hi)
    have hb2 := bt_byte s (2 * k + 1 - hi)
    have hJ := joinU hb1.1 hb1.2 hb2.1 hb2.2
    refine ⟨by omega, by omega, by omega, ?_⟩
    rw [i1, i2]
    refine A.app S (by simp; omega) (by simp; omega) fun a' h3 A' S' => ?_
    simp -dsimp -implicitDefEqProofs (disch := omega) only [VCA, pg_gl, ↓upd_none, Nat.reduceEqDiff, Nat.reduceBEq, Nat.reduceAdd, Nat.reduceSub, Nat.reduceMul, Nat.reduceLT, Nat.reduceLeDiff, ↓reduceIte, reduceCtorEq, rsOf, rootsOf, SOp.rd, SI.rd, SX.rd, rdL, rdO, rdP, okParts, eqCells, okEqCells, fillA, okFill, setAt, implies_true, forall_const, forall_eq, ne_eq, exists_eq_right_right, exists_eq_right, exists_eq_left, exists_eq_left', eRune, he0, he1, he6, ea]
    refine ⟨_, ?_, k + 1, rfl, by omega, by omega, ?_, S'⟩
    · omega
    · rw [List.range_succ, List.map_append, List.map_append]
      exact Eq.mp (congrArg (fun z => Acc h Ti 1 (((List.range k).map (unitM s hi)).map eRune ++ [[.int .i32 z]]) a' h3) hJ) A'
  · simp -dsimp -implicitDefEqProofs (disch := omega) only [VCA, pg_gl, ↓upd_none, Nat.reduceEqDiff, Nat.reduceBEq, Nat.reduceAdd, Nat.reduceSub, Nat.reduceMul, Nat.reduceLT, Nat.reduceLeDiff, ↓reduceIte, reduceCtorEq, rsOf, rootsOf, SOp.rd, SI.rd, SX.rd, rdL, rdO, rdP, okParts, eqCells, okEqCells, fillA, okFill, setAt, implies_true, forall_const, forall_eq, ne_eq, exists_eq_right_right, exists_eq_right, exists_eq_left, exists_eq_left', eRune, he0, he1, he6, ea]
    have : s.length / 2 = k := by omega
    rw [unitsM, this]
    exact ⟨_, Sub.refl _, A, S⟩
end Go.Proofs.K
