/- chars.From, Sniff and the document's. -/
import Derived.Test.YtlehoolkjkdncaaDoorCln
set_option linter.unusedSimpArgs false
set_option linter.unusedVariables false
namespace Go.Proofs.K
open Go Go.Sim Go.Proofs
variable {G : Glob}

/-! ## Sniff -/
def hasPre (s p : List UInt8) : Bool := decide (p.length ≤ s.length) && s.take p.length == p
def c60 : SFun := ⟨(.seq (.reg [⟨(some 4), (.mv (.c (.bool false))), none⟩]) (.seq (.reg [⟨(some 5), (.mv (.t 0)), none⟩, ⟨(some 6), (.lenS (.t 5)), none⟩, ⟨(some 7), (.mv (.t 1)), none⟩, ⟨(some 8), (.lenS (.t 7)), none⟩, ⟨(some 9), (.bin .geq (.t 6) (.t 8)), none⟩, ⟨(some 10), (.mv (.t 9)), none⟩, ⟨(some 11), (.mv (.t 0)), (some (10, true))⟩, ⟨(some 12), (.mv (.t 1)), (some (10, true))⟩, ⟨(some 13), (.lenS (.t 12)), (some (10, true))⟩, ⟨(some 14), (.slS (.t 11) none (some (.t 13))), (some (10, true))⟩, ⟨(some 15), (.mv (.t 1)), (some (10, true))⟩, ⟨(some 16), (.bin .eql (.t 14) (.t 15)), (some (10, true))⟩, ⟨(some 17), (.pick (.t 10) (.t 16) (.c (.bool false))), none⟩, ⟨(some 4), (.mv (.t 17)), none⟩]) .ret)), [(.tmp 4)]⟩
theorem hc60 : toSF Tryd.prog {} Tryd.f60 = some c60 := by kernel_rfl
theorem hn60 : (Tryd.f60.name == "runtime.NumGoroutine") = false := by kernel_rfl
theorem slHasPre_ok (s p : List UInt8) (hs : s.length ≤ 1073741824) (hp : p.length ≤ 1073741824) : PCalls (Pg G) 60 [.str s, .str p] (.bool (hasPre s p)) := fun h => by
  refine dcalls_of_vc Tryd.func60 hn60 hc60 (by rw [Tryd.ntmps60]; simp) (by rw [Tryd.ntmps60]; decide) ?_
  simp -dsimp -implicitDefEqProofs (disch := omega) only [↓vcOps_sp 10, ↓vcD_sp 10, VCA, pg_gl, ↓upd_none, Nat.reduceEqDiff, Nat.reduceBEq, Nat.reduceAdd, Nat.reduceSub, Nat.reduceMul, Nat.reduceLT, Nat.reduceLeDiff, ↓reduceIte, reduceCtorEq, rsOf, rootsOf, SOp.rd, SI.rd, SX.rd, rdL, rdO, rdP, okParts, eqCells, okEqCells, fillA, okFill, setAt, implies_true, forall_const, forall_eq, ne_eq, exists_eq_right_right, exists_eq_right, exists_eq_left, exists_eq_left', eRune, c60]
  refine Br.dec (fun h1 => ?_) (fun h1 => ?_)
  · simp -dsimp -implicitDefEqProofs (disch := omega) only [↓vcOps_sp 10, ↓vcD_sp 10, VCA, pg_gl, ↓upd_none, Nat.reduceEqDiff, Nat.reduceBEq, Nat.reduceAdd, Nat.reduceSub, Nat.reduceMul, Nat.reduceLT, Nat.reduceLeDiff, ↓reduceIte, reduceCtorEq, rsOf, rootsOf, SOp.rd, SI.rd, SX.rd, rdL, rdO, rdP, okParts, eqCells, okEqCells, fillA, okFill, setAt, implies_true, forall_const, forall_eq, ne_eq, exists_eq_right_right, exists_eq_right, exists_eq_left, exists_eq_left', eRune]
    have h1' : p.length ≤ s.length := by omega
    refine ⟨by omega, Sub.refl _, ?_⟩
    simp [hasPre, h1']
  · simp -dsimp -implicitDefEqProofs (disch := omega) only [↓vcOps_sp 10, ↓vcD_sp 10, VCA, pg_gl, ↓upd_none, Nat.reduceEqDiff, Nat.reduceBEq, Nat.reduceAdd, Nat.reduceSub, Nat.reduceMul, Nat.reduceLT, Nat.reduceLeDiff, ↓reduceIte, reduceCtorEq, rsOf, rootsOf, SOp.rd, SI.rd, SX.rd, rdL, rdO, rdP, okParts, eqCells, okEqCells, fillA, okFill, setAt, implies_true, forall_const, forall_eq, ne_eq, exists_eq_right_right, exists_eq_right, exists_eq_left, exists_eq_left', eRune]
    have h1' : ¬ p.length ≤ s.length := by omega
    exact ⟨Sub.refl _, by simp [hasPre, h1']⟩
def c51 : SFun := ⟨(.seq (.reg [⟨(some 4), (.mv (.c (.bool false))), none⟩]) (.seq (.reg [⟨(some 5), (.mv (.t 0)), none⟩, ⟨(some 6), (.mv (.t 1)), none⟩, ⟨(some 7), (.pcall 60 [(.t 5), (.t 6)]), none⟩, ⟨(some 4), (.mv (.t 7)), none⟩]) .ret)), [(.tmp 4)]⟩
theorem hc51 : toSF Tryd.prog {pure := [60]} Tryd.f51 = some c51 := by kernel_rfl
theorem hn51 : (Tryd.f51.name == "runtime.NumGoroutine") = false := by kernel_rfl
theorem hasPre_ok (s p : List UInt8) (hs : s.length ≤ 1073741824) (hp : p.length ≤ 1073741824) : PCalls (Pg G) 51 [.str s, .str p] (.bool (hasPre s p)) := fun h => by
  refine dcalls_of_vc Tryd.func51 hn51 hc51 (by rw [Tryd.ntmps51]; simp) (by rw [Tryd.ntmps51]; decide) ?_
  simp -dsimp -implicitDefEqProofs (disch := omega) only [VCA, pg_gl, ↓upd_none, Nat.reduceEqDiff, Nat.reduceBEq, Nat.reduceAdd, Nat.reduceSub, Nat.reduceMul, Nat.reduceLT, Nat.reduceLeDiff, ↓reduceIte, reduceCtorEq, rsOf, rootsOf, SOp.rd, SI.rd, SX.rd, rdL, rdO, rdP, okParts, eqCells, okEqCells, fillA, okFill, setAt, implies_true, forall_const, forall_eq, ne_eq, exists_eq_right_right, exists_eq_right, exists_eq_left, exists_eq_left', eRune, c51]
  refine pcallE.of (slHasPre_ok s p hs hp) ?_; simp -dsimp -implicitDefEqProofs (disch := omega) only [VCA, pg_gl, ↓upd_none, Nat.reduceEqDiff, Nat.reduceBEq, Nat.reduceAdd, Nat.reduceSub, Nat.reduceMul, Nat.reduceLT, Nat.reduceLeDiff, ↓reduceIte, reduceCtorEq, rsOf, rootsOf, SOp.rd, SI.rd, SX.rd, rdL, rdO, rdP, okParts, eqCells, okEqCells, fillA, okFill, setAt, implies_true, forall_const, forall_eq, ne_eq, exists_eq_right_right, exists_eq_right, exists_eq_left, exists_eq_left', eRune]
  exact Sub.refl _
def sniffM (s : List UInt8) : Int × Int := if hasPre s [239, 187, 191] = true then (1, 3) else if hasPre s [254, 255] = true then (2, 2) else if hasPre s [255, 254] = true then (3, 2) else (0, 0)
theorem pre2 (s : List UInt8) (a b : UInt8) : hasPre s [a, b] = (decide (2 ≤ s.length) && (bt s 0 == a.toNat) && (bt s 1 == b.toNat)) := by
  match s with
  | [] => simp [hasPre]
  | [x] => simp [hasPre]
  | x :: y :: r => 
    have h : ∀ p q : UInt8, (p == q) = ((p.toNat : Int) == (q.toNat : Int)) := fun p q => by
      rw [Bool.eq_iff_iff]; simp [← UInt8.toNat_inj]; omega
    simp [hasPre, bt, h]
theorem pre3 (s : List UInt8) (a b c : UInt8) : hasPre s [a, b, c] = (decide (3 ≤ s.length) && (bt s 0 == a.toNat) && (bt s 1 == b.toNat) && (bt s 2 == c.toNat)) := by
  match s with
  | [] => simp [hasPre]
  | [x] => simp [hasPre]
  | [x, y] => simp [hasPre]
  | x :: y :: z :: r => 
    have h : ∀ p q : UInt8, (p == q) = ((p.toNat : Int) == (q.toNat : Int)) := fun p q => by
      rw [Bool.eq_iff_iff]; simp [← UInt8.toNat_inj]; omega
    simp [hasPre, bt, h, Bool.and_assoc]
theorem sniffM_eq (s : List UInt8) : sniffM s = if 3 ≤ s.length ∧ bt s 0 = 239 ∧ bt s 1 = 187 ∧ bt s 2 = 191 then (1, 3) else if 2 ≤ s.length ∧ bt s 0 = 254 ∧ bt s 1 = 255 then (2, 2) else if 2 ≤ s.length ∧ bt s 0 = 255 ∧ bt s 1 = 254 then (3, 2) else (0, 0) := by
  unfold sniffM
  rw [pre3, pre2, pre2]
  simp only [Bool.and_eq_true, decide_eq_true_eq, beq_iff_eq, and_assoc]
  rfl
/-! ## units -/
def unitM (s : List UInt8) (hi k : Nat) : Int := bt s (2 * k + hi) * 256 + bt s (2 * k + 1 - hi)
def unitsM (s : List UInt8) (hi : Nat) : List Int := (List.range (s.length / 2)).map (unitM s hi)
theorem unitM_r (s : List UInt8) (hi k : Nat) : 0 ≤ unitM s hi k ∧ unitM s hi k < 65536 := by
  have h1 := bt_byte s (2 * k + hi)
  have h2 := bt_byte s (2 * k + 1 - hi)
  unfold unitM; omega
theorem joinU {b1 b2 : Int} (h1 : 0 ≤ b1) (h2 : b1 < 256) (h3 : 0 ≤ b2) (h4 : b2 < 256) :
    bitF .or .i32 (IntKind.i32.wrap (IntKind.i32.wrap b1 * 2 ^ min (8 : Int).toNat IntKind.i32.bits)) (IntKind.i32.wrap b2) = b1 * 256 + b2 := by
  have e : (2 : Int) ^ min (8 : Int).toNat IntKind.i32.bits = 256 := rfl
  have w1 : IntKind.i32.wrap b1 = b1 := by rw [IntKind.wrap_i32]; omega
  have w2 : IntKind.i32.wrap b2 = b2 := by rw [IntKind.wrap_i32]; omega
  have w3 : IntKind.i32.wrap (b1 * 256) = b1 * 256 := by rw [IntKind.wrap_i32]; omega
  rw [w1, e, w2, w3]
  exact bits_join .i32 31 (by decide) wraps_i32 8 _ _ (by omega) (by omega) (by omega) (by omega) (by omega) (by omega)
end Go.Proofs.K
