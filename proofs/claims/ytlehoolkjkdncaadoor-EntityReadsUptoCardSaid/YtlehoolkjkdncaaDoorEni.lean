/- The document's Find: names. -/
import Derived.Test.YtlehoolkjkdncaaDoorEnh
set_option linter.unusedSimpArgs false
set_option linter.unusedVariables false
namespace Go.Proofs.K
open Go Go.Sim Go.Proofs
variable {G : Glob}

theorem cut_len {s : List UInt8} {k : Nat} (h2 : 2 ≤ k) (hk : k ≤ s.length) : ((s.take k).drop 1).length = k - 1 := by
  rw [List.length_drop, List.length_take]; omega
theorem cut_last {s : List UInt8} {k : Nat} (h2 : 2 ≤ k) (hk : k ≤ s.length) : ((((s.take k).drop 1).getD (k - 2) 0).toNat : Int) = bt s (k - 1) := by
  unfold bt
  rw [List.getD_eq_getElem?_getD, List.getD_eq_getElem?_getD, List.getElem?_drop, List.getElem?_take, if_pos (by omega)]
  have : 1 + (k - 2) = k - 1 := by omega
  rw [this]
theorem cut_cut {s : List UInt8} {k : Nat} (h2 : 2 ≤ k) : ((s.take k).drop 1).take (k - 2) = (s.take (k - 1)).drop 1 := by
  rw [List.take_drop, List.take_take]
  have : min (1 + (k - 2)) k = k - 1 := by omega
  rw [this]
theorem row_mk (s : List UInt8) (k : Nat) : (rowM (nmK s k) = (-1, false) ∧ mkK s k = none) ∨ ∃ x, x ∈ entT ∧ rowM (nmK s k) = (x.sign, x.bare) ∧ mkK s k = if bt s (k - 1) = 59 ∨ x.bare = true then some x else none := by
  unfold rowM mkK
  cases hf : entT.find? (fun x => x.word == nmK s k) with
  | none => exact .inl ⟨rfl, rfl⟩
  | some x =>
    refine .inr ⟨x, List.mem_of_find?_eq_some hf, rfl, ?_⟩
    simp [Option.filter]
theorem down_none {s : List UInt8} {k : Nat} (h : mkK s (k + 1) = none) : downK s (k + 1) = downK s k := by
  conv => lhs; unfold downK
  split
  · rw [h]
  · rfl
theorem down_some {s : List UInt8} {k : Nat} {x : EName} (h2 : 2 ≤ k) (hk : k ≤ s.length) (h : mkK s k = some x) : downK s k = some (k, x) := by
  obtain ⟨j, rfl⟩ : ∃ j, k = j + 1 := ⟨k - 1, by omega⟩
  unfold downK
  rw [if_pos ⟨h2, hk⟩, h]
theorem named_at {s : List UInt8} {attr : Bool} {k : Nat} {x : EName} (h : downK s 10 = some (k, x)) : namedM s attr = if cutE s attr k = true then ([], 0) else (Lib.encodeRune x.sign, k) := by
  rcases best_down s with ⟨h1, _⟩ | ⟨j, y, h1, h2, _, _, hy⟩
  · rw [h] at h1; cases h1
  · rw [h] at h1; cases h1
    have E := eOK hy
    have a4 := E.a4
    unfold namedM
    rw [h2]
    unfold signM
    rw [if_neg (show ¬ (x.sign = 0 ∨ x.sign = 13) by omega)]
theorem refFind2_ok (s : List UInt8) (attr : Bool) (hs : s.length ≤ 1073741823) (hl2 : ¬ s.length < 2) (h38 : bt s 0 = 38) (h35 : bt s 1 ≠ 35) : PCalls (Pg G) 29 [.str s, .bool attr] (.tup [.str (findM s attr).1, aInt (findM s attr).2]) := fun h => by
  have eEnc : ∀ r : Int, -2147483648 ≤ r → r ≤ 2147483647 → PCalls (Pg G) 11 [.slc [[.int .i32 r]]] (.str (Lib.encodeRune r)) := fun r h1 h2 => by
    rw [← encM_one]
    exact refEncode_ok [r] (fun x hx => by simp at hx; subst hx; exact ⟨h1, h2⟩) (by simp)
  have e0 : ((s.getD 0 0).toNat : Int) = bt s 0 := rfl
  have e1 : ((s.getD (Int.toNat 1) 0).toNat : Int) = bt s 1 := rfl
  have hne : s ≠ [] := by rintro rfl; simp at hl2
  have hF : findM s attr = namedM s attr := by
    unfold findM
    rw [if_neg (by rintro (h | h); exact hne h; exact h h38), if_neg (fun h => h35 h.2)]
  rw [hF]
  refine dcalls_of_vc Tryd.func29 hn29 hc29 (by rw [Tryd.ntmps29]; simp) (by rw [Tryd.ntmps29]; decide) ?_
  simp -dsimp -implicitDefEqProofs (disch := omega) only [↓vcOps_sp 18, ↓vcD_sp 18, ↓vcOps_sp 29, ↓vcD_sp 29, ↓vcOps_sp 33, ↓vcD_sp 33, ↓vcOps_sp 44, ↓vcD_sp 44, ↓vcOps_sp 71, ↓vcD_sp 71, ↓vcOps_sp 81, ↓vcD_sp 81, ↓vcOps_sp 120, ↓vcD_sp 120, ↓vcOps_sp 123, ↓vcD_sp 123, ↓vcOps_sp 130, ↓vcD_sp 130, ↓vcOps_sp 133, ↓vcD_sp 133, ↓vcOps_sp 139, ↓vcD_sp 139, ↓vcOps_sp 144, ↓vcD_sp 144, VCA, pg_gl, ↓upd_none, Nat.reduceEqDiff, Nat.reduceBEq, Nat.reduceAdd, Nat.reduceSub, Nat.reduceMul, Nat.reduceLT, Nat.reduceLeDiff, ↓reduceIte, reduceCtorEq, rsOf, rootsOf, SOp.rd, SI.rd, SX.rd, rdL, rdO, rdP, okParts, eqCells, okEqCells, fillA, okFill, setAt, implies_true, forall_const, forall_eq, ne_eq, exists_eq_right_right, exists_eq_right, exists_eq_left, exists_eq_left', eRune, eName, c29, e0, e1]
  repeat' (first | ((with_reducible refine Br.dec (fun _ => ?_) (fun _ => ?_)) <;> try (exfalso; omega)) | ((with_reducible refine Br.eq (fun _ => ?_) (fun _ => ?_)) <;> try (exfalso; omega)) | ((with_reducible refine Br.ne (fun _ => ?_) (fun _ => ?_)) <;> try (exfalso; omega)) | with_reducible refine Br.intro (fun _ => ?_) (fun _ => ?_) | (with_reducible refine And.intro ?_ ?_; · omega) | simp -dsimp -implicitDefEqProofs (disch := omega) only [↓vcOps_sp 18, ↓vcD_sp 18, ↓vcOps_sp 29, ↓vcD_sp 29, ↓vcOps_sp 33, ↓vcD_sp 33, ↓vcOps_sp 44, ↓vcD_sp 44, ↓vcOps_sp 71, ↓vcD_sp 71, ↓vcOps_sp 81, ↓vcD_sp 81, ↓vcOps_sp 120, ↓vcD_sp 120, ↓vcOps_sp 123, ↓vcD_sp 123, ↓vcOps_sp 130, ↓vcD_sp 130, ↓vcOps_sp 133, ↓vcD_sp 133, ↓vcOps_sp 139, ↓vcD_sp 139, ↓vcOps_sp 144, ↓vcD_sp 144, VCA, pg_gl, ↓upd_none, Nat.reduceEqDiff, Nat.reduceBEq, Nat.reduceAdd, Nat.reduceSub, Nat.reduceMul, Nat.reduceLT, Nat.reduceLeDiff, ↓reduceIte, reduceCtorEq, rsOf, rootsOf, SOp.rd, SI.rd, SX.rd, rdL, rdO, rdP, okParts, eqCells, okEqCells, fillA, okFill, setAt, implies_true, forall_const, forall_eq, ne_eq, exists_eq_right_right, exists_eq_right, exists_eq_left, exists_eq_left', eRune, eName, e0, e1])
  refine LoopVC.intro (fun m e h' => ∃ k : Nat, m = k ∧ 1 ≤ k ∧ k ≤ 10 ∧ e 0 = .str s ∧ e 1 = .bool attr ∧ e 10 = aInt k ∧ h' = h ∧ downK s 10 = downK s k) 10 ⟨10, rfl, by omega, by omega, rfl, rfl, rfl, rfl, rfl⟩ ?_
  rintro m e h' ⟨k, rfl, hk1, hk10, he0, he1, he10, rfl, hD⟩
  by_cases hk2 : 2 ≤ m
  · by_cases hml : m ≤ s.length
    · have q1 := cut_len hk2 hml
      have q2 := cut_last hk2 hml
      have q3 := cut_cut (s := s) hk2
      have t1 : Int.toNat 1 = 1 := rfl
      have q4 : ((((s.take m).drop 1).length : Int) - 1).toNat = m - 2 := by rw [q1]; omega
      have hR := fun nm h => rowOf_ok (G := G) nm h
      have hb := bt_byte s m
      have eb : ((s.getD m 0).toNat : Int) = bt s m := rfl
      have hL := ld_ok (G := G) (bt s m)
      have hrm := row_mk s m
      have next : ∀ (_ : mkK s m = none), ∃ m', m' < m ∧ 1 ≤ m' ∧ m' ≤ 10 ∧ (m : Int) - 1 = m' ∧ downK s 10 = downK s m' := fun h => by
        obtain ⟨j, rfl⟩ : ∃ j, m = j + 1 := ⟨m - 1, by omega⟩
        exact ⟨j, by omega, by omega, by omega, by omega, by rw [hD, down_none h]⟩
      have found : ∀ x, mkK s m = some x → namedM s attr = if cutE s attr m = true then ([], 0) else (Lib.encodeRune x.sign, m) := fun x h => named_at (by rw [hD, down_some hk2 hml h])
      have hs32 : ∀ x ∈ entT, IntKind.i32.wrap x.sign = x.sign := fun x hx => by have E := eOK hx; have := E.a4; have := E.a5; rw [IntKind.wrap_i32]; omega
      have hl1 : (((s.take (m - 1)).drop 1).length) ≤ 1073741824 := by rw [List.length_drop, List.length_take]; omega
      have hl3 : (((s.take m).drop 1).length) ≤ 1073741824 := by omega
      have hR1 := hR _ hl1
      have hR2 := hR _ hl3
      have n1 : (!true) = false := rfl
      have n2 : (!false) = true := rfl
      cases hw : (bt s (m - 1) == 59) with
      | true =>
        have hw' : bt s (m - 1) = 59 := by simpa using hw
        have hnm : nmK s m = (s.take (m - 1)).drop 1 := if_pos hw'
        rw [hnm] at hrm
        rcases hrm with ⟨r1, r2⟩ | ⟨x, hx, r1, r2⟩
        · simp -dsimp -implicitDefEqProofs (disch := omega) only [↓vcOps_sp 18, ↓vcD_sp 18, ↓vcOps_sp 29, ↓vcD_sp 29, ↓vcOps_sp 33, ↓vcD_sp 33, ↓vcOps_sp 44, ↓vcD_sp 44, ↓vcOps_sp 71, ↓vcD_sp 71, ↓vcOps_sp 81, ↓vcD_sp 81, ↓vcOps_sp 120, ↓vcD_sp 120, ↓vcOps_sp 123, ↓vcD_sp 123, ↓vcOps_sp 130, ↓vcD_sp 130, ↓vcOps_sp 133, ↓vcD_sp 133, ↓vcOps_sp 139, ↓vcD_sp 139, ↓vcOps_sp 144, ↓vcD_sp 144, VCA, pg_gl, ↓upd_none, Nat.reduceEqDiff, Nat.reduceBEq, Nat.reduceAdd, Nat.reduceSub, Nat.reduceMul, Nat.reduceLT, Nat.reduceLeDiff, ↓reduceIte, reduceCtorEq, rsOf, rootsOf, SOp.rd, SI.rd, SX.rd, rdL, rdO, rdP, okParts, eqCells, okEqCells, fillA, okFill, setAt, implies_true, forall_const, forall_eq, ne_eq, exists_eq_right_right, exists_eq_right, exists_eq_left, exists_eq_left', eRune, eName, he0, he1, he10, t1, q4, q2, q3, hw, n1, n2]
          repeat' (first | ((with_reducible refine Br.dec (fun _ => ?_) (fun _ => ?_)) <;> try (exfalso; omega)) | ((with_reducible refine Br.eq (fun _ => ?_) (fun _ => ?_)) <;> try (exfalso; omega)) | ((with_reducible refine Br.ne (fun _ => ?_) (fun _ => ?_)) <;> try (exfalso; omega)) | with_reducible refine Br.intro (fun _ => ?_) (fun _ => ?_) | (with_reducible apply pcallE.of; · exact hR1) | (with_reducible refine And.intro ?_ ?_; · omega) | simp -dsimp -implicitDefEqProofs (disch := omega) only [↓vcOps_sp 18, ↓vcD_sp 18, ↓vcOps_sp 29, ↓vcD_sp 29, ↓vcOps_sp 33, ↓vcD_sp 33, ↓vcOps_sp 44, ↓vcD_sp 44, ↓vcOps_sp 71, ↓vcD_sp 71, ↓vcOps_sp 81, ↓vcD_sp 81, ↓vcOps_sp 120, ↓vcD_sp 120, ↓vcOps_sp 123, ↓vcD_sp 123, ↓vcOps_sp 130, ↓vcD_sp 130, ↓vcOps_sp 133, ↓vcD_sp 133, ↓vcOps_sp 139, ↓vcD_sp 139, ↓vcOps_sp 144, ↓vcD_sp 144, VCA, pg_gl, ↓upd_none, Nat.reduceEqDiff, Nat.reduceBEq, Nat.reduceAdd, Nat.reduceSub, Nat.reduceMul, Nat.reduceLT, Nat.reduceLeDiff, ↓reduceIte, reduceCtorEq, rsOf, rootsOf, SOp.rd, SI.rd, SX.rd, rdL, rdO, rdP, okParts, eqCells, okEqCells, fillA, okFill, setAt, implies_true, forall_const, forall_eq, ne_eq, exists_eq_right_right, exists_eq_right, exists_eq_left, exists_eq_left', eRune, eName, he0, he1, he10, t1, q4, q2, q3, hw, r1, n1, n2])
          exact next r2
        · have E := eOK hx
          have a4 := E.a4
          have a5 := E.a5
          rw [if_pos (.inl hw')] at r2
          have hx32 := hs32 x hx
          simp -dsimp -implicitDefEqProofs (disch := omega) only [↓vcOps_sp 18, ↓vcD_sp 18, ↓vcOps_sp 29, ↓vcD_sp 29, ↓vcOps_sp 33, ↓vcD_sp 33, ↓vcOps_sp 44, ↓vcD_sp 44, ↓vcOps_sp 71, ↓vcD_sp 71, ↓vcOps_sp 81, ↓vcD_sp 81, ↓vcOps_sp 120, ↓vcD_sp 120, ↓vcOps_sp 123, ↓vcD_sp 123, ↓vcOps_sp 130, ↓vcD_sp 130, ↓vcOps_sp 133, ↓vcD_sp 133, ↓vcOps_sp 139, ↓vcD_sp 139, ↓vcOps_sp 144, ↓vcD_sp 144, VCA, pg_gl, ↓upd_none, Nat.reduceEqDiff, Nat.reduceBEq, Nat.reduceAdd, Nat.reduceSub, Nat.reduceMul, Nat.reduceLT, Nat.reduceLeDiff, ↓reduceIte, reduceCtorEq, rsOf, rootsOf, SOp.rd, SI.rd, SX.rd, rdL, rdO, rdP, okParts, eqCells, okEqCells, fillA, okFill, setAt, implies_true, forall_const, forall_eq, ne_eq, exists_eq_right_right, exists_eq_right, exists_eq_left, exists_eq_left', eRune, eName, he0, he1, he10, t1, q4, q2, q3, hw, n1, n2]
          repeat' (first | ((with_reducible refine Br.dec (fun _ => ?_) (fun _ => ?_)) <;> try (exfalso; omega)) | ((with_reducible refine Br.eq (fun _ => ?_) (fun _ => ?_)) <;> try (exfalso; omega)) | ((with_reducible refine Br.ne (fun _ => ?_) (fun _ => ?_)) <;> try (exfalso; omega)) | with_reducible refine Br.intro (fun _ => ?_) (fun _ => ?_) | (with_reducible apply pcallE.of; · exact hR1) | (with_reducible apply pcallE.of; · exact eEnc _ (by omega) (by omega)) | (with_reducible refine And.intro ?_ ?_; · omega) | simp -dsimp -implicitDefEqProofs (disch := omega) only [↓vcOps_sp 18, ↓vcD_sp 18, ↓vcOps_sp 29, ↓vcD_sp 29, ↓vcOps_sp 33, ↓vcD_sp 33, ↓vcOps_sp 44, ↓vcD_sp 44, ↓vcOps_sp 71, ↓vcD_sp 71, ↓vcOps_sp 81, ↓vcD_sp 81, ↓vcOps_sp 120, ↓vcD_sp 120, ↓vcOps_sp 123, ↓vcD_sp 123, ↓vcOps_sp 130, ↓vcD_sp 130, ↓vcOps_sp 133, ↓vcD_sp 133, ↓vcOps_sp 139, ↓vcD_sp 139, ↓vcOps_sp 144, ↓vcD_sp 144, VCA, pg_gl, ↓upd_none, Nat.reduceEqDiff, Nat.reduceBEq, Nat.reduceAdd, Nat.reduceSub, Nat.reduceMul, Nat.reduceLT, Nat.reduceLeDiff, ↓reduceIte, reduceCtorEq, rsOf, rootsOf, SOp.rd, SI.rd, SX.rd, rdL, rdO, rdP, okParts, eqCells, okEqCells, fillA, okFill, setAt, implies_true, forall_const, forall_eq, ne_eq, exists_eq_right_right, exists_eq_right, exists_eq_left, exists_eq_left', eRune, eName, he0, he1, he10, t1, q4, q2, q3, hw, r1, n1, n2, hx32])
          rw [found x r2, if_neg (by simp [cutE, hw'])]
          first | exact ⟨Sub.refl _, rfl⟩ | exact Sub.refl _
      | false =>
        have hw' : ¬ bt s (m - 1) = 59 := by simpa using hw
        have hnm : nmK s m = (s.take m).drop 1 := if_neg hw'
        rw [hnm] at hrm
        rcases hrm with ⟨r1, r2⟩ | ⟨x, hx, r1, r2⟩
        · simp -dsimp -implicitDefEqProofs (disch := omega) only [↓vcOps_sp 18, ↓vcD_sp 18, ↓vcOps_sp 29, ↓vcD_sp 29, ↓vcOps_sp 33, ↓vcD_sp 33, ↓vcOps_sp 44, ↓vcD_sp 44, ↓vcOps_sp 71, ↓vcD_sp 71, ↓vcOps_sp 81, ↓vcD_sp 81, ↓vcOps_sp 120, ↓vcD_sp 120, ↓vcOps_sp 123, ↓vcD_sp 123, ↓vcOps_sp 130, ↓vcD_sp 130, ↓vcOps_sp 133, ↓vcD_sp 133, ↓vcOps_sp 139, ↓vcD_sp 139, ↓vcOps_sp 144, ↓vcD_sp 144, VCA, pg_gl, ↓upd_none, Nat.reduceEqDiff, Nat.reduceBEq, Nat.reduceAdd, Nat.reduceSub, Nat.reduceMul, Nat.reduceLT, Nat.reduceLeDiff, ↓reduceIte, reduceCtorEq, rsOf, rootsOf, SOp.rd, SI.rd, SX.rd, rdL, rdO, rdP, okParts, eqCells, okEqCells, fillA, okFill, setAt, implies_true, forall_const, forall_eq, ne_eq, exists_eq_right_right, exists_eq_right, exists_eq_left, exists_eq_left', eRune, eName, he0, he1, he10, t1, q4, q2, q3, hw, n1, n2]
          repeat' (first | ((with_reducible refine Br.dec (fun _ => ?_) (fun _ => ?_)) <;> try (exfalso; omega)) | ((with_reducible refine Br.eq (fun _ => ?_) (fun _ => ?_)) <;> try (exfalso; omega)) | ((with_reducible refine Br.ne (fun _ => ?_) (fun _ => ?_)) <;> try (exfalso; omega)) | with_reducible refine Br.intro (fun _ => ?_) (fun _ => ?_) | (with_reducible apply pcallE.of; · exact hR2) | (with_reducible refine And.intro ?_ ?_; · omega) | simp -dsimp -implicitDefEqProofs (disch := omega) only [↓vcOps_sp 18, ↓vcD_sp 18, ↓vcOps_sp 29, ↓vcD_sp 29, ↓vcOps_sp 33, ↓vcD_sp 33, ↓vcOps_sp 44, ↓vcD_sp 44, ↓vcOps_sp 71, ↓vcD_sp 71, ↓vcOps_sp 81, ↓vcD_sp 81, ↓vcOps_sp 120, ↓vcD_sp 120, ↓vcOps_sp 123, ↓vcD_sp 123, ↓vcOps_sp 130, ↓vcD_sp 130, ↓vcOps_sp 133, ↓vcD_sp 133, ↓vcOps_sp 139, ↓vcD_sp 139, ↓vcOps_sp 144, ↓vcD_sp 144, VCA, pg_gl, ↓upd_none, Nat.reduceEqDiff, Nat.reduceBEq, Nat.reduceAdd, Nat.reduceSub, Nat.reduceMul, Nat.reduceLT, Nat.reduceLeDiff, ↓reduceIte, reduceCtorEq, rsOf, rootsOf, SOp.rd, SI.rd, SX.rd, rdL, rdO, rdP, okParts, eqCells, okEqCells, fillA, okFill, setAt, implies_true, forall_const, forall_eq, ne_eq, exists_eq_right_right, exists_eq_right, exists_eq_left, exists_eq_left', eRune, eName, he0, he1, he10, t1, q4, q2, q3, hw, r1, n1, n2])
          exact next r2
        · have E := eOK hx
          have a4 := E.a4
          have a5 := E.a5
          have hx32 := hs32 x hx
          cases hbx : x.bare with
          | false =>
            rw [if_neg (by rw [hbx]; simp [hw'])] at r2
            rw [hbx] at r1
            simp -dsimp -implicitDefEqProofs (disch := omega) only [↓vcOps_sp 18, ↓vcD_sp 18, ↓vcOps_sp 29, ↓vcD_sp 29, ↓vcOps_sp 33, ↓vcD_sp 33, ↓vcOps_sp 44, ↓vcD_sp 44, ↓vcOps_sp 71, ↓vcD_sp 71, ↓vcOps_sp 81, ↓vcD_sp 81, ↓vcOps_sp 120, ↓vcD_sp 120, ↓vcOps_sp 123, ↓vcD_sp 123, ↓vcOps_sp 130, ↓vcD_sp 130, ↓vcOps_sp 133, ↓vcD_sp 133, ↓vcOps_sp 139, ↓vcD_sp 139, ↓vcOps_sp 144, ↓vcD_sp 144, VCA, pg_gl, ↓upd_none, Nat.reduceEqDiff, Nat.reduceBEq, Nat.reduceAdd, Nat.reduceSub, Nat.reduceMul, Nat.reduceLT, Nat.reduceLeDiff, ↓reduceIte, reduceCtorEq, rsOf, rootsOf, SOp.rd, SI.rd, SX.rd, rdL, rdO, rdP, okParts, eqCells, okEqCells, fillA, okFill, setAt, implies_true, forall_const, forall_eq, ne_eq, exists_eq_right_right, exists_eq_right, exists_eq_left, exists_eq_left', eRune, eName, he0, he1, he10, t1, q4, q2, q3, hw, n1, n2]
            repeat' (first | ((with_reducible refine Br.dec (fun _ => ?_) (fun _ => ?_)) <;> try (exfalso; omega)) | ((with_reducible refine Br.eq (fun _ => ?_) (fun _ => ?_)) <;> try (exfalso; omega)) | ((with_reducible refine Br.ne (fun _ => ?_) (fun _ => ?_)) <;> try (exfalso; omega)) | with_reducible refine Br.intro (fun _ => ?_) (fun _ => ?_) | (with_reducible apply pcallE.of; · exact hR2) | (with_reducible refine And.intro ?_ ?_; · omega) | simp -dsimp -implicitDefEqProofs (disch := omega) only [↓vcOps_sp 18, ↓vcD_sp 18, ↓vcOps_sp 29, ↓vcD_sp 29, ↓vcOps_sp 33, ↓vcD_sp 33, ↓vcOps_sp 44, ↓vcD_sp 44, ↓vcOps_sp 71, ↓vcD_sp 71, ↓vcOps_sp 81, ↓vcD_sp 81, ↓vcOps_sp 120, ↓vcD_sp 120, ↓vcOps_sp 123, ↓vcD_sp 123, ↓vcOps_sp 130, ↓vcD_sp 130, ↓vcOps_sp 133, ↓vcD_sp 133, ↓vcOps_sp 139, ↓vcD_sp 139, ↓vcOps_sp 144, ↓vcD_sp 144, VCA, pg_gl, ↓upd_none, Nat.reduceEqDiff, Nat.reduceBEq, Nat.reduceAdd, Nat.reduceSub, Nat.reduceMul, Nat.reduceLT, Nat.reduceLeDiff, ↓reduceIte, reduceCtorEq, rsOf, rootsOf, SOp.rd, SI.rd, SX.rd, rdL, rdO, rdP, okParts, eqCells, okEqCells, fillA, okFill, setAt, implies_true, forall_const, forall_eq, ne_eq, exists_eq_right_right, exists_eq_right, exists_eq_left, exists_eq_left', eRune, eName, he0, he1, he10, t1, q4, q2, q3, hw, r1, n1, n2])
            exact next r2
          | true =>
            rw [if_pos (.inr hbx)] at r2
            rw [hbx] at r1
            have hF2 := found x r2
            rw [hF2]
            cases attr with
            | false =>
              simp -dsimp -implicitDefEqProofs (disch := omega) only [↓vcOps_sp 18, ↓vcD_sp 18, ↓vcOps_sp 29, ↓vcD_sp 29, ↓vcOps_sp 33, ↓vcD_sp 33, ↓vcOps_sp 44, ↓vcD_sp 44, ↓vcOps_sp 71, ↓vcD_sp 71, ↓vcOps_sp 81, ↓vcD_sp 81, ↓vcOps_sp 120, ↓vcD_sp 120, ↓vcOps_sp 123, ↓vcD_sp 123, ↓vcOps_sp 130, ↓vcD_sp 130, ↓vcOps_sp 133, ↓vcD_sp 133, ↓vcOps_sp 139, ↓vcD_sp 139, ↓vcOps_sp 144, ↓vcD_sp 144, VCA, pg_gl, ↓upd_none, Nat.reduceEqDiff, Nat.reduceBEq, Nat.reduceAdd, Nat.reduceSub, Nat.reduceMul, Nat.reduceLT, Nat.reduceLeDiff, ↓reduceIte, reduceCtorEq, rsOf, rootsOf, SOp.rd, SI.rd, SX.rd, rdL, rdO, rdP, okParts, eqCells, okEqCells, fillA, okFill, setAt, implies_true, forall_const, forall_eq, ne_eq, exists_eq_right_right, exists_eq_right, exists_eq_left, exists_eq_left', eRune, eName, he0, he1, he10, t1, q4, q2, q3, hw, n1, n2]
              repeat' (first | ((with_reducible refine Br.dec (fun _ => ?_) (fun _ => ?_)) <;> try (exfalso; omega)) | ((with_reducible refine Br.eq (fun _ => ?_) (fun _ => ?_)) <;> try (exfalso; omega)) | ((with_reducible refine Br.ne (fun _ => ?_) (fun _ => ?_)) <;> try (exfalso; omega)) | with_reducible refine Br.intro (fun _ => ?_) (fun _ => ?_) | (with_reducible apply pcallE.of; · exact hR2) | (with_reducible apply pcallE.of; · exact eEnc _ (by omega) (by omega)) | (with_reducible refine And.intro ?_ ?_; · omega) | simp -dsimp -implicitDefEqProofs (disch := omega) only [↓vcOps_sp 18, ↓vcD_sp 18, ↓vcOps_sp 29, ↓vcD_sp 29, ↓vcOps_sp 33, ↓vcD_sp 33, ↓vcOps_sp 44, ↓vcD_sp 44, ↓vcOps_sp 71, ↓vcD_sp 71, ↓vcOps_sp 81, ↓vcD_sp 81, ↓vcOps_sp 120, ↓vcD_sp 120, ↓vcOps_sp 123, ↓vcD_sp 123, ↓vcOps_sp 130, ↓vcD_sp 130, ↓vcOps_sp 133, ↓vcD_sp 133, ↓vcOps_sp 139, ↓vcD_sp 139, ↓vcOps_sp 144, ↓vcD_sp 144, VCA, pg_gl, ↓upd_none, Nat.reduceEqDiff, Nat.reduceBEq, Nat.reduceAdd, Nat.reduceSub, Nat.reduceMul, Nat.reduceLT, Nat.reduceLeDiff, ↓reduceIte, reduceCtorEq, rsOf, rootsOf, SOp.rd, SI.rd, SX.rd, rdL, rdO, rdP, okParts, eqCells, okEqCells, fillA, okFill, setAt, implies_true, forall_const, forall_eq, ne_eq, exists_eq_right_right, exists_eq_right, exists_eq_left, exists_eq_left', eRune, eName, he0, he1, he10, t1, q4, q2, q3, hw, r1, n1, n2, hx32])
              rw [if_neg (by simp [cutE])]
              first | exact ⟨Sub.refl _, rfl⟩ | exact Sub.refl _
            | true =>
              have hcut : cutE s true m = (decide (m < s.length) && wordB (bt s m)) := by
                have : 0 < m := by omega
                simp [cutE, this, hw']
              rw [hcut]
              simp -dsimp -implicitDefEqProofs (disch := omega) only [↓vcOps_sp 18, ↓vcD_sp 18, ↓vcOps_sp 29, ↓vcD_sp 29, ↓vcOps_sp 33, ↓vcD_sp 33, ↓vcOps_sp 44, ↓vcD_sp 44, ↓vcOps_sp 71, ↓vcD_sp 71, ↓vcOps_sp 81, ↓vcD_sp 81, ↓vcOps_sp 120, ↓vcD_sp 120, ↓vcOps_sp 123, ↓vcD_sp 123, ↓vcOps_sp 130, ↓vcD_sp 130, ↓vcOps_sp 133, ↓vcD_sp 133, ↓vcOps_sp 139, ↓vcD_sp 139, ↓vcOps_sp 144, ↓vcD_sp 144, VCA, pg_gl, ↓upd_none, Nat.reduceEqDiff, Nat.reduceBEq, Nat.reduceAdd, Nat.reduceSub, Nat.reduceMul, Nat.reduceLT, Nat.reduceLeDiff, ↓reduceIte, reduceCtorEq, rsOf, rootsOf, SOp.rd, SI.rd, SX.rd, rdL, rdO, rdP, okParts, eqCells, okEqCells, fillA, okFill, setAt, implies_true, forall_const, forall_eq, ne_eq, exists_eq_right_right, exists_eq_right, exists_eq_left, exists_eq_left', eRune, eName, he0, he1, he10, t1, q4, q2, q3, hw, n1, n2]
              repeat' (first | ((with_reducible refine Br.dec (fun _ => ?_) (fun _ => ?_)) <;> try (exfalso; omega)) | ((with_reducible refine Br.eq (fun _ => ?_) (fun _ => ?_)) <;> try (exfalso; omega)) | ((with_reducible refine Br.ne (fun _ => ?_) (fun _ => ?_)) <;> try (exfalso; omega)) | with_reducible refine Br.intro (fun _ => ?_) (fun _ => ?_) | (with_reducible apply pcallE.of; · exact hR2) | (with_reducible apply pcallE.of; · exact hL) | (with_reducible apply pcallE.of; · exact eEnc _ (by omega) (by omega)) | (with_reducible refine And.intro ?_ ?_; · omega) | simp -dsimp -implicitDefEqProofs (disch := omega) only [↓vcOps_sp 18, ↓vcD_sp 18, ↓vcOps_sp 29, ↓vcD_sp 29, ↓vcOps_sp 33, ↓vcD_sp 33, ↓vcOps_sp 44, ↓vcD_sp 44, ↓vcOps_sp 71, ↓vcD_sp 71, ↓vcOps_sp 81, ↓vcD_sp 81, ↓vcOps_sp 120, ↓vcD_sp 120, ↓vcOps_sp 123, ↓vcD_sp 123, ↓vcOps_sp 130, ↓vcD_sp 130, ↓vcOps_sp 133, ↓vcD_sp 133, ↓vcOps_sp 139, ↓vcD_sp 139, ↓vcOps_sp 144, ↓vcD_sp 144, VCA, pg_gl, ↓upd_none, Nat.reduceEqDiff, Nat.reduceBEq, Nat.reduceAdd, Nat.reduceSub, Nat.reduceMul, Nat.reduceLT, Nat.reduceLeDiff, ↓reduceIte, reduceCtorEq, rsOf, rootsOf, SOp.rd, SI.rd, SX.rd, rdL, rdO, rdP, okParts, eqCells, okEqCells, fillA, okFill, setAt, implies_true, forall_const, forall_eq, ne_eq, exists_eq_right_right, exists_eq_right, exists_eq_left, exists_eq_left', eRune, eName, he0, he1, he10, t1, q4, q2, q3, hw, r1, n1, n2, hx32, eb])
              all_goals first
                | (have hq : (decide (m < s.length) && wordB (bt s m)) = true := by
                     rw [decide_eq_true (show m < s.length by omega)]
                     unfold wordB
                     first
                       | (rw [show ldM (bt s m) = true by assumption]; simp; done)
                       | (rw [show (bt s m == 61) = true from beq_iff_eq.2 (by omega)]; rfl)
                   rw [if_pos hq]; exact ⟨Sub.refl _, rfl⟩)
                | (have hq : (decide (m < s.length) && wordB (bt s m)) = false := by
                     by_cases hml2 : m < s.length
                     · first
                         | (exfalso; omega)
                         | (unfold wordB
                            rw [show ldM (bt s m) = false by assumption, show (bt s m == 61) = false from by simp; omega]; simp)
                     · rw [decide_eq_false hml2]; rfl
                   rw [if_neg (by rw [hq]; simp)]; first | exact ⟨Sub.refl _, rfl⟩ | exact Sub.refl _)
    · obtain ⟨j, rfl⟩ : ∃ j, m = j + 1 := ⟨m - 1, by omega⟩
      have hd : downK s (j + 1) = downK s j := by
        conv => lhs; unfold downK
        rw [if_neg (by omega)]
      simp -dsimp -implicitDefEqProofs (disch := omega) only [↓vcOps_sp 18, ↓vcD_sp 18, ↓vcOps_sp 29, ↓vcD_sp 29, ↓vcOps_sp 33, ↓vcD_sp 33, ↓vcOps_sp 44, ↓vcD_sp 44, ↓vcOps_sp 71, ↓vcD_sp 71, ↓vcOps_sp 81, ↓vcD_sp 81, ↓vcOps_sp 120, ↓vcD_sp 120, ↓vcOps_sp 123, ↓vcD_sp 123, ↓vcOps_sp 130, ↓vcD_sp 130, ↓vcOps_sp 133, ↓vcD_sp 133, ↓vcOps_sp 139, ↓vcD_sp 139, ↓vcOps_sp 144, ↓vcD_sp 144, VCA, pg_gl, ↓upd_none, Nat.reduceEqDiff, Nat.reduceBEq, Nat.reduceAdd, Nat.reduceSub, Nat.reduceMul, Nat.reduceLT, Nat.reduceLeDiff, ↓reduceIte, reduceCtorEq, rsOf, rootsOf, SOp.rd, SI.rd, SX.rd, rdL, rdO, rdP, okParts, eqCells, okEqCells, fillA, okFill, setAt, implies_true, forall_const, forall_eq, ne_eq, exists_eq_right_right, exists_eq_right, exists_eq_left, exists_eq_left', eRune, eName, he0, he1, he10]
      repeat' (first | ((with_reducible refine Br.dec (fun _ => ?_) (fun _ => ?_)) <;> try (exfalso; omega)) | ((with_reducible refine Br.eq (fun _ => ?_) (fun _ => ?_)) <;> try (exfalso; omega)) | ((with_reducible refine Br.ne (fun _ => ?_) (fun _ => ?_)) <;> try (exfalso; omega)) | with_reducible refine Br.intro (fun _ => ?_) (fun _ => ?_) | (with_reducible refine And.intro ?_ ?_; · omega) | simp -dsimp -implicitDefEqProofs (disch := omega) only [↓vcOps_sp 18, ↓vcD_sp 18, ↓vcOps_sp 29, ↓vcD_sp 29, ↓vcOps_sp 33, ↓vcD_sp 33, ↓vcOps_sp 44, ↓vcD_sp 44, ↓vcOps_sp 71, ↓vcD_sp 71, ↓vcOps_sp 81, ↓vcD_sp 81, ↓vcOps_sp 120, ↓vcD_sp 120, ↓vcOps_sp 123, ↓vcD_sp 123, ↓vcOps_sp 130, ↓vcD_sp 130, ↓vcOps_sp 133, ↓vcD_sp 133, ↓vcOps_sp 139, ↓vcD_sp 139, ↓vcOps_sp 144, ↓vcD_sp 144, VCA, pg_gl, ↓upd_none, Nat.reduceEqDiff, Nat.reduceBEq, Nat.reduceAdd, Nat.reduceSub, Nat.reduceMul, Nat.reduceLT, Nat.reduceLeDiff, ↓reduceIte, reduceCtorEq, rsOf, rootsOf, SOp.rd, SI.rd, SX.rd, rdL, rdO, rdP, okParts, eqCells, okEqCells, fillA, okFill, setAt, implies_true, forall_const, forall_eq, ne_eq, exists_eq_right_right, exists_eq_right, exists_eq_left, exists_eq_left', eRune, eName, he0, he1, he10])
      exact ⟨j, by omega, by omega, by omega, by omega, by rw [hD, hd]⟩
  · have hm1 : m = 1 := by omega
    subst hm1
    have hd : downK s 1 = none := by
      unfold downK
      rw [if_neg (fun h => absurd h.1 (by decide))]; rfl
    rw [hd] at hD
    have hN : namedM s attr = ([], 0) := by
      rcases best_down s with ⟨_, h1⟩ | ⟨k, x, h1, _⟩
      · unfold namedM; rw [h1]
        have : cutE s attr 0 = false := by simp [cutE]
        simp [this]
      · rw [hD] at h1; cases h1
    rw [hN]
    simp -dsimp -implicitDefEqProofs (disch := omega) only [↓vcOps_sp 18, ↓vcD_sp 18, ↓vcOps_sp 29, ↓vcD_sp 29, ↓vcOps_sp 33, ↓vcD_sp 33, ↓vcOps_sp 44, ↓vcD_sp 44, ↓vcOps_sp 71, ↓vcD_sp 71, ↓vcOps_sp 81, ↓vcD_sp 81, ↓vcOps_sp 120, ↓vcD_sp 120, ↓vcOps_sp 123, ↓vcD_sp 123, ↓vcOps_sp 130, ↓vcD_sp 130, ↓vcOps_sp 133, ↓vcD_sp 133, ↓vcOps_sp 139, ↓vcD_sp 139, ↓vcOps_sp 144, ↓vcD_sp 144, VCA, pg_gl, ↓upd_none, Nat.reduceEqDiff, Nat.reduceBEq, Nat.reduceAdd, Nat.reduceSub, Nat.reduceMul, Nat.reduceLT, Nat.reduceLeDiff, ↓reduceIte, reduceCtorEq, rsOf, rootsOf, SOp.rd, SI.rd, SX.rd, rdL, rdO, rdP, okParts, eqCells, okEqCells, fillA, okFill, setAt, implies_true, forall_const, forall_eq, ne_eq, exists_eq_right_right, exists_eq_right, exists_eq_left, exists_eq_left', eRune, eName, he0, he1, he10]
    repeat' (first | ((with_reducible refine Br.dec (fun _ => ?_) (fun _ => ?_)) <;> try (exfalso; omega)) | ((with_reducible refine Br.eq (fun _ => ?_) (fun _ => ?_)) <;> try (exfalso; omega)) | ((with_reducible refine Br.ne (fun _ => ?_) (fun _ => ?_)) <;> try (exfalso; omega)) | with_reducible refine Br.intro (fun _ => ?_) (fun _ => ?_) | (with_reducible refine And.intro ?_ ?_; · omega) | simp -dsimp -implicitDefEqProofs (disch := omega) only [↓vcOps_sp 18, ↓vcD_sp 18, ↓vcOps_sp 29, ↓vcD_sp 29, ↓vcOps_sp 33, ↓vcD_sp 33, ↓vcOps_sp 44, ↓vcD_sp 44, ↓vcOps_sp 71, ↓vcD_sp 71, ↓vcOps_sp 81, ↓vcD_sp 81, ↓vcOps_sp 120, ↓vcD_sp 120, ↓vcOps_sp 123, ↓vcD_sp 123, ↓vcOps_sp 130, ↓vcD_sp 130, ↓vcOps_sp 133, ↓vcD_sp 133, ↓vcOps_sp 139, ↓vcD_sp 139, ↓vcOps_sp 144, ↓vcD_sp 144, VCA, pg_gl, ↓upd_none, Nat.reduceEqDiff, Nat.reduceBEq, Nat.reduceAdd, Nat.reduceSub, Nat.reduceMul, Nat.reduceLT, Nat.reduceLeDiff, ↓reduceIte, reduceCtorEq, rsOf, rootsOf, SOp.rd, SI.rd, SX.rd, rdL, rdO, rdP, okParts, eqCells, okEqCells, fillA, okFill, setAt, implies_true, forall_const, forall_eq, ne_eq, exists_eq_right_right, exists_eq_right, exists_eq_left, exists_eq_left', eRune, eName, he0, he1, he10])
    first | exact ⟨Sub.refl _, rfl⟩ | exact Sub.refl _
theorem refFind_ok (s : List UInt8) (attr : Bool) (hs : s.length ≤ 1073741823) : PCalls (Pg G) 29 [.str s, .bool attr] (.tup [.str (findM s attr).1, aInt (findM s attr).2]) := by
  by_cases h1 : s.length < 2
  · exact refFind1_ok s attr hs (.inl h1)
  · by_cases h2 : bt s 0 = 38
    · by_cases h3 : bt s 1 = 35
      · exact refFind1_ok s attr hs (.inr (.inr h3))
      · exact refFind2_ok s attr hs h1 h2 h3
    · exact refFind1_ok s attr hs (.inr (.inl h2))
end Go.Proofs.K
