/- entity.Find, walked. -/
import Derived.Test.YtlehoolkjkdncaaDoorEnf
set_option linter.unusedSimpArgs false
set_option linter.unusedVariables false
namespace Go.Proofs.K
open Go Go.Sim Go.Proofs
variable {G : Glob}

def wordB (b : Int) : Bool := b == 61 || ldM b
def cutE (s : List UInt8) (attr : Bool) (k : Nat) : Bool := attr && decide (0 < k) && decide (bt s (k - 1) ≠ 59) && decide (k < s.length) && wordB (bt s k)
def namedM (s : List UInt8) (attr : Bool) : List UInt8 × Nat := if cutE s attr (bestE s entT).2 = true then ([], 0) else bestE s entT
theorem bestE_snoc (s : List UInt8) (k : Nat) (hk : k < entT.length) : bestE s (entT.take (k + 1)) = stepE s (bestE s (entT.take k)) (nth entT k) := by
  rw [take_snoc hk]; simp [bestE]
theorem bestE_len (s : List UInt8) (l : List EName) (hl : ∀ x ∈ l, x ∈ entT) : (bestE s l).2 ≤ s.length := by
  rcases (bestE_is s l).2 with ⟨h, _⟩ | ⟨h, x, hx, h2, _⟩
  · omega
  · have := (hit_mk (s := s) (hl x hx) (by omega)).2.2.2
    omega
theorem semiM_ge (s : List UInt8) (n : Nat) : n ≤ semiM s n := by unfold semiM; split <;> omega
def c38 : SFun := ⟨(.seq (.reg [⟨(some 4), (.mv (.c (.str []))), none⟩, ⟨(some 5), (.mv (.c (.int .i64 (0)))), none⟩]) (.seq (.reg [⟨(some 6), (.mv (.c (.str []))), none⟩, ⟨(some 7), (.mv (.c (.int .i64 (0)))), none⟩]) (.seq (.seq (.reg [⟨(some 12), (.pcall 50 []), none⟩, ⟨(some 13), (.len (.t 12)), none⟩, ⟨(some 14), (.mv (.c (.int .i64 (0)))), none⟩]) (.block 0 (.loop (.seq (.reg [⟨(some 15), (.bin .lss (.t 14) (.t 13)), none⟩]) (.seq (.cond (.t 15) .skip (.exit 0)) (.seq (.block 1 (.seq (.reg [⟨(some 16), (.idxA 3 (.t 12) (.t 14)), none⟩, ⟨(some 17), (.ld 3 true (.t 16)), none⟩, ⟨(some 9), (.new 79 3 [(.str []), (.int .i32 (0)), (.bool false)]), none⟩, ⟨none, (.st 3 (.t 9) (.t 17)), none⟩]) (.seq (.reg [⟨(some 18), (.fldA 0 (.t 9)), none⟩, ⟨(some 19), (.ld 1 false (.t 18)), none⟩, ⟨(some 20), (.lenS (.t 19)), none⟩, ⟨(some 21), (.bin .add (.t 20) (.c (.int .i64 (1)))), none⟩, ⟨(some 10), (.mv (.t 21)), none⟩]) (.seq (.seq (.dreg [(⟨(some 22), (.mv (.t 0)), none⟩, false), (⟨(some 23), (.slS (.t 22) (some (.c (.int .i64 (1)))) none), none⟩, false), (⟨(some 24), (.fldA 0 (.t 9)), none⟩, false), (⟨(some 25), (.ld 1 false (.t 24)), none⟩, false), (⟨(some 26), (.pcall 51 [(.t 23), (.t 25)]), none⟩, false), (⟨(some 27), (.un .not (.t 26)), none⟩, false)]) (.cond (.t 27) (.exit 1) .skip)) (.seq (.reg [⟨(some 28), (.mv (.t 0)), none⟩, ⟨(some 29), (.mv (.t 10)), none⟩, ⟨(some 30), (.pcall 49 [(.t 28), (.t 29)]), none⟩, ⟨(some 11), (.mv (.t 30)), none⟩]) (.seq (.seq (.reg [⟨(some 31), (.mv (.t 11)), none⟩, ⟨(some 32), (.mv (.t 10)), none⟩, ⟨(some 33), (.bin .eql (.t 31) (.t 32)), none⟩, ⟨(some 34), (.mv (.t 33)), none⟩, ⟨(some 35), (.fldA 2 (.t 9)), (some (34, true))⟩, ⟨(some 36), (.ld 1 false (.t 35)), (some (34, true))⟩, ⟨(some 37), (.un .not (.t 36)), (some (34, true))⟩, ⟨(some 38), (.pick (.t 34) (.t 37) (.c (.bool false))), none⟩, ⟨(some 39), (.mv (.t 38)), none⟩, ⟨(some 40), (.mv (.t 11)), (some (39, false))⟩, ⟨(some 41), (.mv (.t 7)), (some (39, false))⟩, ⟨(some 42), (.bin .leq (.t 40) (.t 41)), (some (39, false))⟩, ⟨(some 43), (.pick (.t 39) (.c (.bool true)) (.t 42)), none⟩]) (.cond (.t 43) (.exit 1) .skip)) (.reg [⟨(some 44), (.fldA 1 (.t 9)), none⟩, ⟨(some 45), (.ld 1 false (.t 44)), none⟩, ⟨(some 46), (.cvi .i64 (.t 45)), none⟩, ⟨(some 47), (.pcall 48 [(.t 46)]), none⟩, ⟨(some 48), (.mv (.t 11)), none⟩, ⟨(some 6), (.mv (.t 47)), none⟩, ⟨(some 7), (.mv (.t 48)), none⟩]))))))) (.reg [⟨(some 49), (.bin .add (.t 14) (.c (.int .i64 (1)))), none⟩, ⟨(some 14), (.mv (.t 49)), none⟩]))))))) (.seq (.seq (.reg [⟨(some 50), (.mv (.t 1)), none⟩, ⟨(some 51), (.mv (.t 50)), none⟩, ⟨(some 52), (.mv (.t 7)), (some (51, true))⟩, ⟨(some 53), (.bin .gtr (.t 52) (.c (.int .i64 (0)))), (some (51, true))⟩, ⟨(some 54), (.pick (.t 51) (.t 53) (.c (.bool false))), none⟩, ⟨(some 55), (.mv (.t 54)), none⟩, ⟨(some 56), (.mv (.t 0)), (some (55, true))⟩, ⟨(some 57), (.mv (.t 7)), (some (55, true))⟩, ⟨(some 58), (.bin .sub (.t 57) (.c (.int .i64 (1)))), (some (55, true))⟩, ⟨(some 59), (.idxS (.t 56) (.t 58)), (some (55, true))⟩, ⟨(some 60), (.bin .neq (.t 59) (.c (.int .u8 (59)))), (some (55, true))⟩, ⟨(some 61), (.pick (.t 55) (.t 60) (.c (.bool false))), none⟩, ⟨(some 62), (.mv (.t 61)), none⟩, ⟨(some 63), (.mv (.t 7)), (some (62, true))⟩, ⟨(some 64), (.mv (.t 0)), (some (62, true))⟩, ⟨(some 65), (.lenS (.t 64)), (some (62, true))⟩, ⟨(some 66), (.bin .lss (.t 63) (.t 65)), (some (62, true))⟩, ⟨(some 67), (.pick (.t 62) (.t 66) (.c (.bool false))), none⟩, ⟨(some 68), (.mv (.t 67)), none⟩, ⟨(some 69), (.mv (.t 0)), (some (68, true))⟩, ⟨(some 70), (.mv (.t 7)), (some (68, true))⟩, ⟨(some 71), (.idxS (.t 69) (.t 70)), (some (68, true))⟩, ⟨(some 72), (.pcall 52 [(.t 71)]), (some (68, true))⟩, ⟨(some 73), (.pick (.t 68) (.t 72) (.c (.bool false))), none⟩]) (.cond (.t 73) (.seq (.reg [⟨(some 4), (.mv (.c (.str []))), none⟩, ⟨(some 5), (.mv (.c (.int .i64 (0)))), none⟩]) .ret) .skip)) (.seq (.reg [⟨(some 74), (.mv (.t 6)), none⟩, ⟨(some 75), (.mv (.t 7)), none⟩, ⟨(some 4), (.mv (.t 74)), none⟩, ⟨(some 5), (.mv (.t 75)), none⟩]) .ret))))), [(.tmp 4), (.tmp 5)]⟩
theorem hc38 : toSF Tryd.prog {pure := [48, 49, 52, 51, 50]} Tryd.f38 = some c38 := by kernel_rfl
theorem hn38 : (Tryd.f38.name == "runtime.NumGoroutine") = false := by kernel_rfl
theorem named_ok (s : List UInt8) (attr : Bool) (hs : s.length ≤ 1073741823) (h1 : 1 ≤ s.length) : PCalls (Pg G) 38 [.str s, .bool attr] (.tup [.str (namedM s attr).1, aInt (namedM s attr).2]) := fun h => by
  have hE : entT.length = 48 := rfl
  refine dcalls_of_vc Tryd.func38 hn38 hc38 (by rw [Tryd.ntmps38]; simp) (by rw [Tryd.ntmps38]; decide) ?_
  simp -dsimp -implicitDefEqProofs (disch := omega) only [↓vcOps_sp 34, ↓vcD_sp 34, ↓vcOps_sp 39, ↓vcD_sp 39, ↓vcOps_sp 51, ↓vcD_sp 51, ↓vcOps_sp 55, ↓vcD_sp 55, ↓vcOps_sp 62, ↓vcD_sp 62, ↓vcOps_sp 68, ↓vcD_sp 68, VCA, pg_gl, ↓upd_none, Nat.reduceEqDiff, Nat.reduceBEq, Nat.reduceAdd, Nat.reduceSub, Nat.reduceMul, Nat.reduceLT, Nat.reduceLeDiff, ↓reduceIte, reduceCtorEq, rsOf, rootsOf, SOp.rd, SI.rd, SX.rd, rdL, rdO, rdP, okParts, eqCells, okEqCells, fillA, okFill, setAt, implies_true, forall_const, forall_eq, ne_eq, exists_eq_right_right, exists_eq_right, exists_eq_left, exists_eq_left', eRune, eName, c38]
  refine pcallE.of (names_ok) ?_; simp -dsimp -implicitDefEqProofs (disch := omega) only [↓vcOps_sp 34, ↓vcD_sp 34, ↓vcOps_sp 39, ↓vcD_sp 39, ↓vcOps_sp 51, ↓vcD_sp 51, ↓vcOps_sp 55, ↓vcD_sp 55, ↓vcOps_sp 62, ↓vcD_sp 62, ↓vcOps_sp 68, ↓vcD_sp 68, VCA, pg_gl, ↓upd_none, Nat.reduceEqDiff, Nat.reduceBEq, Nat.reduceAdd, Nat.reduceSub, Nat.reduceMul, Nat.reduceLT, Nat.reduceLeDiff, ↓reduceIte, reduceCtorEq, rsOf, rootsOf, SOp.rd, SI.rd, SX.rd, rdL, rdO, rdP, okParts, eqCells, okEqCells, fillA, okFill, setAt, implies_true, forall_const, forall_eq, ne_eq, exists_eq_right_right, exists_eq_right, exists_eq_left, exists_eq_left', eRune, eName]
  refine LoopVC.intro (fun m e h' => ∃ k : Nat, m = 48 - k ∧ k ≤ 48 ∧ e 0 = .str s ∧ e 1 = .bool attr ∧ e 12 = sl eName entT ∧ e 13 = aInt entT.length ∧ e 14 = aInt k ∧ e 6 = .str (bestE s (entT.take k)).1 ∧ e 7 = aInt (bestE s (entT.take k)).2 ∧ Sub h h') 48 ⟨0, rfl, by omega, rfl, rfl, rfl, rfl, rfl, rfl, rfl, Sub.refl _⟩ ?_
  rintro m e h' ⟨k, rfl, hk, he0, he1, he12, he13, he14, he6, he7, S⟩
  have hbl := bestE_len s (entT.take k) (fun x hx => List.mem_of_mem_take hx)
  by_cases hlt : k < 48
  · have hx := eOK (x := nth entT k) (nth_mem' (by omega))
    obtain ⟨a1, a2, a3, a4, a5⟩ := hx
    have hst := bestE_snoc s k (by omega)
    obtain ⟨x, hxe⟩ : ∃ x, nth entT k = x := ⟨_, rfl⟩
    rw [hxe] at a1 a2 a3 a4 a5 hst
    generalize bestE s (entT.take k) = r at *
    have hge := semiM_ge s (x.word.length + 1)
    have hdl : (s.drop 1).length ≤ 1073741824 := by rw [List.length_drop]; omega
    have hP := hasPre_ok (G := G) (s.drop 1) x.word hdl (by omega)
    have hQ := semi_ok (G := G) s (x.word.length + 1) (by omega) (by omega)
    have hR := sign_ok (G := G) x.sign (by omega) (by omega)
    have e1 : ((x.word.length : Int) + 1) = ((x.word.length + 1 : Nat) : Int) := by omega
    simp -dsimp -implicitDefEqProofs (disch := omega) only [↓vcOps_sp 34, ↓vcD_sp 34, ↓vcOps_sp 39, ↓vcD_sp 39, ↓vcOps_sp 51, ↓vcD_sp 51, ↓vcOps_sp 55, ↓vcD_sp 55, ↓vcOps_sp 62, ↓vcD_sp 62, ↓vcOps_sp 68, ↓vcD_sp 68, VCA, pg_gl, ↓upd_none, Nat.reduceEqDiff, Nat.reduceBEq, Nat.reduceAdd, Nat.reduceSub, Nat.reduceMul, Nat.reduceLT, Nat.reduceLeDiff, ↓reduceIte, reduceCtorEq, rsOf, rootsOf, SOp.rd, SI.rd, SX.rd, rdL, rdO, rdP, okParts, eqCells, okEqCells, fillA, okFill, setAt, implies_true, forall_const, forall_eq, ne_eq, exists_eq_right_right, exists_eq_right, exists_eq_left, exists_eq_left', eRune, eName, he0, he1, he12, he13, he14, he6, he7]
    have t1 : Int.toNat 1 = 1 := rfl
    have fin : ∀ (p : List UInt8 × Nat) {rb : Nat} (o : AObj), stepE s r x = p → h' rb = none → ∃ m', m' < 48 - k ∧ ∃ k1 : Nat, m' = 48 - k1 ∧ k1 ≤ 48 ∧ (k : Int) + 1 = k1 ∧ p.1 = (bestE s (entT.take k1)).1 ∧ (p.2 : Int) = (bestE s (entT.take k1)).2 ∧ Sub h (upd h' rb (some o)) :=
      fun p rb o h1 h2 => ⟨_, by omega, k + 1, rfl, by omega, by omega, by rw [hst, h1], by rw [hst, h1], S.upd (S.none h2)⟩
    refine Br.dec (fun _ => ?_) (fun hh => absurd (show (k : Int) < entT.length by omega) hh)
    simp -dsimp -implicitDefEqProofs (disch := omega) only [↓vcOps_sp 34, ↓vcD_sp 34, ↓vcOps_sp 39, ↓vcD_sp 39, ↓vcOps_sp 51, ↓vcD_sp 51, ↓vcOps_sp 55, ↓vcD_sp 55, ↓vcOps_sp 62, ↓vcD_sp 62, ↓vcOps_sp 68, ↓vcD_sp 68, VCA, pg_gl, ↓upd_none, Nat.reduceEqDiff, Nat.reduceBEq, Nat.reduceAdd, Nat.reduceSub, Nat.reduceMul, Nat.reduceLT, Nat.reduceLeDiff, ↓reduceIte, reduceCtorEq, rsOf, rootsOf, SOp.rd, SI.rd, SX.rd, rdL, rdO, rdP, okParts, eqCells, okEqCells, fillA, okFill, setAt, implies_true, forall_const, forall_eq, ne_eq, exists_eq_right_right, exists_eq_right, exists_eq_left, exists_eq_left', eRune, eName, he0, he1, he12, he13, he14, he6, he7, hxe, t1]
    refine ⟨by omega, fun rb hrb => ?_⟩
    repeat' (first | ((with_reducible refine Br.dec (fun _ => ?_) (fun _ => ?_)) <;> try (exfalso; omega)) | ((with_reducible refine Br.eq (fun _ => ?_) (fun _ => ?_)) <;> try (exfalso; omega)) | ((with_reducible refine Br.ne (fun _ => ?_) (fun _ => ?_)) <;> try (exfalso; omega)) | with_reducible refine Br.intro (fun _ => ?_) (fun _ => ?_) | (with_reducible apply pcallE.of; · exact hP) | (with_reducible apply pcallE.of; · exact hQ) | (with_reducible apply pcallE.of; · exact hR) | (with_reducible refine And.intro ?_ ?_; · omega) | simp -dsimp -implicitDefEqProofs (disch := omega) only [↓vcOps_sp 34, ↓vcD_sp 34, ↓vcOps_sp 39, ↓vcD_sp 39, ↓vcOps_sp 51, ↓vcD_sp 51, ↓vcOps_sp 55, ↓vcD_sp 55, ↓vcOps_sp 62, ↓vcD_sp 62, ↓vcOps_sp 68, ↓vcD_sp 68, VCA, pg_gl, ↓upd_none, Nat.reduceEqDiff, Nat.reduceBEq, Nat.reduceAdd, Nat.reduceSub, Nat.reduceMul, Nat.reduceLT, Nat.reduceLeDiff, ↓reduceIte, reduceCtorEq, rsOf, rootsOf, SOp.rd, SI.rd, SX.rd, rdL, rdO, rdP, okParts, eqCells, okEqCells, fillA, okFill, setAt, implies_true, forall_const, forall_eq, ne_eq, exists_eq_right_right, exists_eq_right, exists_eq_left, exists_eq_left', eRune, eName, he0, he1, he12, he13, he14, he6, he7, e1, hxe, t1])
    · rename_i q
      have hz : hitN s x = 0 := by unfold hitN; rw [if_neg (by intro hh; rw [hh] at q; cases q)]
      exact fin r _ (if_neg (by rw [hz]; omega)) hrb
    · rename_i q q2 q3
      have hz : hitN s x = 0 := by
        unfold hitN
        split
        · rw [if_pos ⟨by omega, by simpa using q3⟩]
        · rfl
      exact fin r _ (if_neg (by rw [hz]; omega)) hrb
    all_goals (
      have hz : hitN s x = semiM s (x.word.length + 1) := by
        unfold hitN
        rw [if_pos (by simpa using (by assumption : (!hasPre (s.drop 1) x.word) = false)), if_neg (by
          rintro ⟨q1, q2⟩
          first
            | omega
            | (have q := (by assumption : (!x.bare) = false)
               rw [q2] at q; cases q))]
      first
        | exact fin r _ (if_neg (by rw [hz]; omega)) hrb
        | exact fin (signM x.sign, semiM s (x.word.length + 1)) _ (by unfold stepE; rw [hz, if_pos (by omega)]) hrb)
  · have : k = 48 := by omega
    subst this
    have ht : entT.take 48 = entT := List.take_of_length_le (by omega)
    rw [ht] at he6 he7 hbl
    have hbe := bestE_is s entT
    unfold namedM cutE
    generalize bestE s entT = r at *
    have hb1 := bt_byte s (r.2 - 1)
    have hb2 := bt_byte s r.2
    have tn : ((r.2 : Int) - 1).toNat = r.2 - 1 := by omega
    have e1 : ((s.getD (r.2 - 1) 0).toNat : Int) = bt s (r.2 - 1) := rfl
    have e2 : ((s.getD r.2 0).toNat : Int) = bt s r.2 := rfl
    have hW := word_ok (G := G) (bt s r.2) hb2.1 hb2.2
    simp -dsimp -implicitDefEqProofs (disch := omega) only [↓vcOps_sp 34, ↓vcD_sp 34, ↓vcOps_sp 39, ↓vcD_sp 39, ↓vcOps_sp 51, ↓vcD_sp 51, ↓vcOps_sp 55, ↓vcD_sp 55, ↓vcOps_sp 62, ↓vcD_sp 62, ↓vcOps_sp 68, ↓vcD_sp 68, VCA, pg_gl, ↓upd_none, Nat.reduceEqDiff, Nat.reduceBEq, Nat.reduceAdd, Nat.reduceSub, Nat.reduceMul, Nat.reduceLT, Nat.reduceLeDiff, ↓reduceIte, reduceCtorEq, rsOf, rootsOf, SOp.rd, SI.rd, SX.rd, rdL, rdO, rdP, okParts, eqCells, okEqCells, fillA, okFill, setAt, implies_true, forall_const, forall_eq, ne_eq, exists_eq_right_right, exists_eq_right, exists_eq_left, exists_eq_left', eRune, eName, he0, he1, he12, he13, he14, he6, he7, e1, e2, tn]
    repeat' (first | ((with_reducible refine Br.dec (fun _ => ?_) (fun _ => ?_)) <;> try (exfalso; omega)) | ((with_reducible refine Br.eq (fun _ => ?_) (fun _ => ?_)) <;> try (exfalso; omega)) | ((with_reducible refine Br.ne (fun _ => ?_) (fun _ => ?_)) <;> try (exfalso; omega)) | with_reducible refine Br.intro (fun _ => ?_) (fun _ => ?_) | (with_reducible apply pcallE.of; · exact hW) | (with_reducible refine And.intro ?_ ?_; · omega) | simp -dsimp -implicitDefEqProofs (disch := omega) only [↓vcOps_sp 34, ↓vcD_sp 34, ↓vcOps_sp 39, ↓vcD_sp 39, ↓vcOps_sp 51, ↓vcD_sp 51, ↓vcOps_sp 55, ↓vcD_sp 55, ↓vcOps_sp 62, ↓vcD_sp 62, ↓vcOps_sp 68, ↓vcD_sp 68, VCA, pg_gl, ↓upd_none, Nat.reduceEqDiff, Nat.reduceBEq, Nat.reduceAdd, Nat.reduceSub, Nat.reduceMul, Nat.reduceLT, Nat.reduceLeDiff, ↓reduceIte, reduceCtorEq, rsOf, rootsOf, SOp.rd, SI.rd, SX.rd, rdL, rdO, rdP, okParts, eqCells, okEqCells, fillA, okFill, setAt, implies_true, forall_const, forall_eq, ne_eq, exists_eq_right_right, exists_eq_right, exists_eq_left, exists_eq_left', eRune, eName, he0, he1, he12, he13, he14, he6, he7, e1, e2, tn])
    all_goals (clear hbe hW; simp_all [wordB])
    all_goals first | omega | (rw [if_neg (by omega)]; exact ⟨rfl, rfl⟩)
def findM (s : List UInt8) (attr : Bool) : List UInt8 × Nat := if s = [] ∨ bt s 0 ≠ 38 then ([], 0) else if 1 < s.length ∧ bt s 1 = 35 then numM s else namedM s attr
def c27 : SFun := ⟨(.seq (.reg [⟨(some 4), (.mv (.c (.str []))), none⟩, ⟨(some 5), (.mv (.c (.int .i64 (0)))), none⟩]) (.seq (.block 0 (.seq (.reg [⟨(some 7), (.mv (.t 0)), none⟩, ⟨(some 8), (.bin .eql (.t 7) (.c (.str []))), none⟩, ⟨(some 9), (.mv (.t 8)), none⟩, ⟨(some 10), (.mv (.t 0)), (some (9, false))⟩, ⟨(some 11), (.idxS (.t 10) (.c (.int .i64 (0)))), (some (9, false))⟩, ⟨(some 12), (.bin .neq (.t 11) (.c (.int .u8 (38)))), (some (9, false))⟩, ⟨(some 13), (.pick (.t 9) (.c (.bool true)) (.t 12)), none⟩, ⟨(some 6), (.mv (.t 13)), none⟩]) (.cond (.t 6) (.seq (.reg [⟨(some 4), (.mv (.c (.str []))), none⟩, ⟨(some 5), (.mv (.c (.int .i64 (0)))), none⟩]) .ret) (.seq (.reg [⟨(some 15), (.mv (.t 0)), none⟩, ⟨(some 16), (.lenS (.t 15)), none⟩, ⟨(some 17), (.bin .gtr (.t 16) (.c (.int .i64 (1)))), none⟩, ⟨(some 18), (.mv (.t 17)), none⟩, ⟨(some 19), (.mv (.t 0)), (some (18, true))⟩, ⟨(some 20), (.idxS (.t 19) (.c (.int .i64 (1)))), (some (18, true))⟩, ⟨(some 21), (.bin .eql (.t 20) (.c (.int .u8 (35)))), (some (18, true))⟩, ⟨(some 22), (.pick (.t 18) (.t 21) (.c (.bool false))), none⟩, ⟨(some 14), (.mv (.t 22)), none⟩]) (.cond (.t 14) (.seq (.reg [⟨(some 23), (.mv (.t 0)), none⟩, ⟨(some 24), (.pcall 37 [(.t 23)]), none⟩, ⟨(some 25), (.ext (.t 24) 0), none⟩, ⟨(some 26), (.ext (.t 24) 1), none⟩, ⟨(some 4), (.mv (.t 25)), none⟩, ⟨(some 5), (.mv (.t 26)), none⟩]) .ret) .skip))))) (.seq (.reg [⟨(some 27), (.mv (.t 0)), none⟩, ⟨(some 28), (.mv (.t 1)), none⟩, ⟨(some 29), (.pcall 38 [(.t 27), (.t 28)]), none⟩, ⟨(some 30), (.ext (.t 29) 0), none⟩, ⟨(some 31), (.ext (.t 29) 1), none⟩, ⟨(some 4), (.mv (.t 30)), none⟩, ⟨(some 5), (.mv (.t 31)), none⟩]) .ret))), [(.tmp 4), (.tmp 5)]⟩
theorem hc27 : toSF Tryd.prog {pure := [37, 38]} Tryd.f27 = some c27 := by kernel_rfl
theorem hn27 : (Tryd.f27.name == "runtime.NumGoroutine") = false := by kernel_rfl
theorem find_ok (s : List UInt8) (attr : Bool) (hs : s.length ≤ 1073741823) : PCalls (Pg G) 27 [.str s, .bool attr] (.tup [.str (findM s attr).1, aInt (findM s attr).2]) := fun h => by
  have e0 : ((s.getD (Int.toNat 0) 0).toNat : Int) = bt s 0 := rfl
  have e1 : ((s.getD (Int.toNat 1) 0).toNat : Int) = bt s 1 := rfl
  by_cases h0 : s = []
  · subst h0
    have : findM [] attr = ([], 0) := if_pos (.inl rfl)
    rw [this]
    refine dcalls_of_vc Tryd.func27 hn27 hc27 (by rw [Tryd.ntmps27]; simp) (by rw [Tryd.ntmps27]; decide) ?_
    simp -dsimp -implicitDefEqProofs (disch := omega) only [↓vcOps_sp 9, ↓vcD_sp 9, ↓vcOps_sp 18, ↓vcD_sp 18, VCA, pg_gl, ↓upd_none, Nat.reduceEqDiff, Nat.reduceBEq, Nat.reduceAdd, Nat.reduceSub, Nat.reduceMul, Nat.reduceLT, Nat.reduceLeDiff, ↓reduceIte, reduceCtorEq, rsOf, rootsOf, SOp.rd, SI.rd, SX.rd, rdL, rdO, rdP, okParts, eqCells, okEqCells, fillA, okFill, setAt, implies_true, forall_const, forall_eq, ne_eq, exists_eq_right_right, exists_eq_right, exists_eq_left, exists_eq_left', eRune, eName, c27]
    repeat' (first | ((with_reducible refine Br.dec (fun _ => ?_) (fun _ => ?_)) <;> try (exfalso; omega)) | ((with_reducible refine Br.eq (fun _ => ?_) (fun _ => ?_)) <;> try (exfalso; omega)) | ((with_reducible refine Br.ne (fun _ => ?_) (fun _ => ?_)) <;> try (exfalso; omega)) | with_reducible refine Br.intro (fun _ => ?_) (fun _ => ?_) | (with_reducible refine And.intro ?_ ?_; · omega) | simp -dsimp -implicitDefEqProofs (disch := omega) only [↓vcOps_sp 9, ↓vcD_sp 9, ↓vcOps_sp 18, ↓vcD_sp 18, VCA, pg_gl, ↓upd_none, Nat.reduceEqDiff, Nat.reduceBEq, Nat.reduceAdd, Nat.reduceSub, Nat.reduceMul, Nat.reduceLT, Nat.reduceLeDiff, ↓reduceIte, reduceCtorEq, rsOf, rootsOf, SOp.rd, SI.rd, SX.rd, rdL, rdO, rdP, okParts, eqCells, okEqCells, fillA, okFill, setAt, implies_true, forall_const, forall_eq, ne_eq, exists_eq_right_right, exists_eq_right, exists_eq_left, exists_eq_left', eRune, eName])
    · exact ⟨Sub.refl _, rfl⟩
    · exact absurd rfl (by assumption)
  · have hp : 0 < s.length := List.length_pos_iff.2 h0
    have hN := number_ok (G := G) s hs
    have hM := named_ok (G := G) s attr hs (by omega)
    have hF : findM s attr = if bt s 0 ≠ 38 then ([], 0) else if 1 < s.length ∧ bt s 1 = 35 then numM s else namedM s attr := by unfold findM; simp [h0]
    have e0 : ((s.getD 0 0).toNat : Int) = bt s 0 := rfl
    refine dcalls_of_vc Tryd.func27 hn27 hc27 (by rw [Tryd.ntmps27]; simp) (by rw [Tryd.ntmps27]; decide) ?_
    simp -dsimp -implicitDefEqProofs (disch := omega) only [↓vcOps_sp 9, ↓vcD_sp 9, ↓vcOps_sp 18, ↓vcD_sp 18, VCA, pg_gl, ↓upd_none, Nat.reduceEqDiff, Nat.reduceBEq, Nat.reduceAdd, Nat.reduceSub, Nat.reduceMul, Nat.reduceLT, Nat.reduceLeDiff, ↓reduceIte, reduceCtorEq, rsOf, rootsOf, SOp.rd, SI.rd, SX.rd, rdL, rdO, rdP, okParts, eqCells, okEqCells, fillA, okFill, setAt, implies_true, forall_const, forall_eq, ne_eq, exists_eq_right_right, exists_eq_right, exists_eq_left, exists_eq_left', eRune, eName, c27, e0, e1]
    repeat' (first | ((with_reducible refine Br.dec (fun _ => ?_) (fun _ => ?_)) <;> try (exfalso; omega)) | ((with_reducible refine Br.eq (fun _ => ?_) (fun _ => ?_)) <;> try (exfalso; omega)) | ((with_reducible refine Br.ne (fun _ => ?_) (fun _ => ?_)) <;> try (exfalso; omega)) | with_reducible refine Br.intro (fun _ => ?_) (fun _ => ?_) | (with_reducible apply pcallE.of; · exact hN) | (with_reducible apply pcallE.of; · exact hM) | (with_reducible refine And.intro ?_ ?_; · omega) | simp -dsimp -implicitDefEqProofs (disch := omega) only [↓vcOps_sp 9, ↓vcD_sp 9, ↓vcOps_sp 18, ↓vcD_sp 18, VCA, pg_gl, ↓upd_none, Nat.reduceEqDiff, Nat.reduceBEq, Nat.reduceAdd, Nat.reduceSub, Nat.reduceMul, Nat.reduceLT, Nat.reduceLeDiff, ↓reduceIte, reduceCtorEq, rsOf, rootsOf, SOp.rd, SI.rd, SX.rd, rdL, rdO, rdP, okParts, eqCells, okEqCells, fillA, okFill, setAt, implies_true, forall_const, forall_eq, ne_eq, exists_eq_right_right, exists_eq_right, exists_eq_left, exists_eq_left', eRune, eName, e0, e1])
    all_goals first
      | exact absurd (by assumption) h0
      | (rw [hF]
         first
           | (rw [if_pos (by omega)]; exact ⟨Sub.refl _, rfl⟩)
           | (rw [if_neg (by omega), if_pos (by omega)]; first | exact ⟨Sub.refl _, rfl⟩ | exact Sub.refl _)
           | (rw [if_neg (by omega), if_neg (by omega)]; first | exact ⟨Sub.refl _, rfl⟩ | exact Sub.refl _))
end Go.Proofs.K
