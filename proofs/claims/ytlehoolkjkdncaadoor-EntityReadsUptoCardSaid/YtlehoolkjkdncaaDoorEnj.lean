/- entity.read, and the row of Find. -/
import Derived.Test.YtlehoolkjkdncaaDoorEni
set_option linter.unusedSimpArgs false
set_option linter.unusedVariables false
namespace Go.Proofs.K
open Go Go.Sim Go.Proofs
variable {G : Glob}

theorem enc_ne (r : Int) : Lib.encodeRune r ≠ [] := by
  unfold Lib.encodeRune Lib.encodeRuneZ; repeat' split
  all_goals simp
theorem findM_is (s : List UInt8) (attr : Bool) : (findM s attr).2 ≤ s.length ∧ ((findM s attr).2 ≠ 0 → (findM s attr).1 ≠ [] ∧ (findM s attr).1.length ≤ 4) := by
  unfold findM
  split
  · exact ⟨by simp, fun h => absurd rfl h⟩
  · split
    · rename_i h1 h2
      unfold numM
      simp only
      have ha := runP_at s (numB s).1 (s.length - (numB s).2) (numB s).2 0
      have hb : (numB s).2 ≤ s.length ∨ 2 < (numB s).2 := by unfold numB; split <;> simp <;> omega
      have hb2 : (numB s).2 ≤ s.length := by unfold numB; split <;> simp <;> omega
      split
      · exact ⟨by simp, fun h => absurd rfl h⟩
      · refine ⟨?_, fun _ => ⟨by unfold signM; exact enc_ne _, by unfold signM; exact encode_len _⟩⟩
        unfold semiM
        split <;> omega
    · unfold namedM
      split
      · exact ⟨by simp, fun h => absurd rfl h⟩
      · rcases best_down s with ⟨_, h⟩ | ⟨k, x, _, h, _, h2, _⟩
        · rw [h]; exact ⟨by simp, fun h => absurd rfl h⟩
        · rw [h]; exact ⟨h2, fun _ => ⟨by unfold signM; exact enc_ne _, by unfold signM; exact encode_len _⟩⟩
def nE (s : List UInt8) (attr : Bool) : Nat := if (findM s attr).2 = 0 then 1 else (findM s attr).2
def tE (s : List UInt8) (attr : Bool) : List UInt8 := if (findM s attr).2 = 0 then s.take 1 else (findM s attr).1
theorem nE_is {s : List UInt8} (attr : Bool) (h : s ≠ []) : 1 ≤ nE s attr ∧ nE s attr ≤ s.length ∧ tE s attr ≠ [] ∧ (tE s attr).length ≤ 4 := by
  have hp := List.length_pos_iff.2 h
  have := findM_is s attr
  unfold nE tE
  by_cases h0 : (findM s attr).2 = 0
  · rw [if_pos h0, if_pos h0]
    refine ⟨by omega, by omega, fun hh => ?_, by simp; omega⟩
    have := congrArg List.length hh
    rw [List.length_take, List.length_nil] at this; omega
  · rw [if_neg h0, if_neg h0]
    exact ⟨by omega, this.1, (this.2 h0).1, (this.2 h0).2⟩
def readD (s : List UInt8) (attr : Bool) : List UInt8 := if h : s = [] then [] else tE s attr ++ readD (s.drop (nE s attr)) attr
termination_by s.length
decreasing_by
  have := nE_is attr h
  rw [List.length_drop]; omega
theorem readD_nil (attr : Bool) : readD [] attr = [] := by unfold readD; rfl
theorem readD_cons {s : List UInt8} {attr : Bool} (h : s ≠ []) : readD s attr = tE s attr ++ readD (s.drop (nE s attr)) attr := by
  rw [readD]; rw [dif_neg h]
def c28 : SFun := ⟨(.seq (.reg [⟨(some 4), (.mv (.c (.str []))), none⟩]) (.seq (.reg [⟨(some 5), (.new 38 2 [(.prim (Value.pointer none)), .emp]), none⟩]) (.seq (.block 0 (.loop (.seq (.seq (.reg [⟨(some 8), (.mv (.t 0)), none⟩, ⟨(some 9), (.bin .neq (.t 8) (.c (.str []))), none⟩]) (.cond (.t 9) .skip (.exit 0))) (.block 1 (.seq (.reg [⟨(some 11), (.mv (.t 0)), none⟩, ⟨(some 12), (.mv (.t 1)), none⟩, ⟨(some 13), (.pcall 27 [(.t 11), (.t 12)]), none⟩, ⟨(some 10), (.mv (.t 13)), none⟩, ⟨(some 14), (.ext (.t 10) 0), none⟩, ⟨(some 15), (.ext (.t 10) 1), none⟩, ⟨(some 6), (.mv (.t 14)), none⟩, ⟨(some 7), (.mv (.t 15)), none⟩]) (.seq (.seq (.reg [⟨(some 16), (.mv (.t 7)), none⟩, ⟨(some 17), (.bin .eql (.t 16) (.c (.int .i64 (0)))), none⟩]) (.cond (.t 17) (.reg [⟨(some 18), (.mv (.t 0)), none⟩, ⟨(some 19), (.slS (.t 18) none (some (.c (.int .i64 (1))))), none⟩, ⟨(some 6), (.mv (.t 19)), none⟩, ⟨(some 7), (.mv (.c (.int .i64 (1)))), none⟩]) .skip)) (.seq (.reg [⟨(some 20), (.mv (.t 6)), none⟩, ⟨(some 21), (.call (.c (.fn 39 [] [])) [(.t 5), (.t 20)]), none⟩]) (.reg [⟨(some 22), (.mv (.t 0)), none⟩, ⟨(some 23), (.mv (.t 7)), none⟩, ⟨(some 24), (.slS (.t 22) (some (.t 23)) none), none⟩, ⟨(some 0), (.mv (.t 24)), none⟩])))))))) (.seq (.reg [⟨(some 25), (.call (.c (.fn 21 [] [])) [(.t 5)]), none⟩, ⟨(some 4), (.mv (.t 25)), none⟩]) .ret)))), [(.tmp 4)]⟩
theorem hc28 : toSF Tryd.prog {pure := [27]} Tryd.f28 = some c28 := by kernel_rfl
theorem hn28 : (Tryd.f28.name == "runtime.NumGoroutine") = false := by kernel_rfl
theorem read_ok (s : List UInt8) (attr : Bool) (hs : s.length ≤ 1073741823) : PCalls (Pg G) 28 [.str s, .bool attr] (.str (readD s attr)) := fun h => by
  refine dcalls_of_vc Tryd.func28 hn28 hc28 (by rw [Tryd.ntmps28]; simp) (by rw [Tryd.ntmps28]; decide) ?_
  simp -dsimp -implicitDefEqProofs (disch := omega) only [VCA, pg_gl, ↓upd_none, Nat.reduceEqDiff, Nat.reduceBEq, Nat.reduceAdd, Nat.reduceSub, Nat.reduceMul, Nat.reduceLT, Nat.reduceLeDiff, ↓reduceIte, reduceCtorEq, rsOf, rootsOf, SOp.rd, SI.rd, SX.rd, rdL, rdO, rdP, okParts, eqCells, okEqCells, fillA, okFill, setAt, implies_true, forall_const, forall_eq, ne_eq, exists_eq_right_right, exists_eq_right, exists_eq_left, exists_eq_left', eRune, eName, c28]
  intro rb hrb
  refine LoopVC.intro (fun m e h' => ∃ t d : List UInt8, m = t.length ∧ d.length + 4 * t.length ≤ 4 * s.length ∧ e 0 = .str t ∧ e 1 = .bool attr ∧ e 5 = .vp rb 0 ∧ Bl h rb d h' ∧ d ++ readD t attr = readD s attr) s.length ⟨s, [], rfl, by simp, rfl, rfl, rfl, Bl.new h rb hrb, rfl⟩ ?_
  rintro m e h' ⟨t, d, rfl, hdl, he0, he1, he5, B, hR⟩
  by_cases ht : t = []
  · subst ht
    rw [readD_nil, List.append_nil] at hR
    simp -dsimp -implicitDefEqProofs (disch := omega) only [VCA, pg_gl, ↓upd_none, Nat.reduceEqDiff, Nat.reduceBEq, Nat.reduceAdd, Nat.reduceSub, Nat.reduceMul, Nat.reduceLT, Nat.reduceLeDiff, ↓reduceIte, reduceCtorEq, rsOf, rootsOf, SOp.rd, SI.rd, SX.rd, rdL, rdO, rdP, okParts, eqCells, okEqCells, fillA, okFill, setAt, implies_true, forall_const, forall_eq, ne_eq, exists_eq_right_right, exists_eq_right, exists_eq_left, exists_eq_left', eRune, eName, he0, he1, he5]
    refine Br.ne (fun hh => absurd rfl hh) (fun _ => ?_)
    simp -dsimp -implicitDefEqProofs (disch := omega) only [VCA, pg_gl, ↓upd_none, Nat.reduceEqDiff, Nat.reduceBEq, Nat.reduceAdd, Nat.reduceSub, Nat.reduceMul, Nat.reduceLT, Nat.reduceLeDiff, ↓reduceIte, reduceCtorEq, rsOf, rootsOf, SOp.rd, SI.rd, SX.rd, rdL, rdO, rdP, okParts, eqCells, okEqCells, fillA, okFill, setAt, implies_true, forall_const, forall_eq, ne_eq, exists_eq_right_right, exists_eq_right, exists_eq_left, exists_eq_left', eRune, eName, he0, he1, he5]
    refine DCalls.of (string_ok B (by omega)) ?_
    rintro a h2 ⟨rfl, S⟩
    rw [hR]
    simp -dsimp -implicitDefEqProofs (disch := omega) only [VCA, pg_gl, ↓upd_none, Nat.reduceEqDiff, Nat.reduceBEq, Nat.reduceAdd, Nat.reduceSub, Nat.reduceMul, Nat.reduceLT, Nat.reduceLeDiff, ↓reduceIte, reduceCtorEq, rsOf, rootsOf, SOp.rd, SI.rd, SX.rd, rdL, rdO, rdP, okParts, eqCells, okEqCells, fillA, okFill, setAt, implies_true, forall_const, forall_eq, ne_eq, exists_eq_right_right, exists_eq_right, exists_eq_left, exists_eq_left', eRune, eName]
    exact S
  · have hF := find_ok (G := G) t attr (by omega)
    have hn := nE_is attr ht
    have hp := List.length_pos_iff.2 ht
    rw [readD_cons ht] at hR
    have hfi := findM_is t attr
    have go : ∀ h3, Bl h rb (d ++ tE t attr) h3 → ∃ m', m' < t.length ∧ ∃ (t1 d1 : List UInt8), m' = t1.length ∧ d1.length + 4 * t1.length ≤ 4 * s.length ∧ t.drop (nE t attr) = t1 ∧ Bl h rb d1 h3 ∧ d1 ++ readD t1 attr = readD s attr := fun h3 B3 =>
      ⟨_, by rw [List.length_drop]; omega, t.drop (nE t attr), d ++ tE t attr, rfl, by rw [List.length_append, List.length_drop]; omega, rfl, B3, by rw [List.append_assoc]; exact hR⟩
    have hwr := writeString_ok (G := G) (tE t attr) B (by intro hh; exact hn.2.2.1 (List.append_eq_nil_iff.1 hh).2) (by omega)
    simp -dsimp -implicitDefEqProofs (disch := omega) only [VCA, pg_gl, ↓upd_none, Nat.reduceEqDiff, Nat.reduceBEq, Nat.reduceAdd, Nat.reduceSub, Nat.reduceMul, Nat.reduceLT, Nat.reduceLeDiff, ↓reduceIte, reduceCtorEq, rsOf, rootsOf, SOp.rd, SI.rd, SX.rd, rdL, rdO, rdP, okParts, eqCells, okEqCells, fillA, okFill, setAt, implies_true, forall_const, forall_eq, ne_eq, exists_eq_right_right, exists_eq_right, exists_eq_left, exists_eq_left', eRune, eName, he0, he1, he5]
    refine Br.ne (fun _ => ?_) (fun hh => absurd hh ht)
    simp -dsimp -implicitDefEqProofs (disch := omega) only [VCA, pg_gl, ↓upd_none, Nat.reduceEqDiff, Nat.reduceBEq, Nat.reduceAdd, Nat.reduceSub, Nat.reduceMul, Nat.reduceLT, Nat.reduceLeDiff, ↓reduceIte, reduceCtorEq, rsOf, rootsOf, SOp.rd, SI.rd, SX.rd, rdL, rdO, rdP, okParts, eqCells, okEqCells, fillA, okFill, setAt, implies_true, forall_const, forall_eq, ne_eq, exists_eq_right_right, exists_eq_right, exists_eq_left, exists_eq_left', eRune, eName, he0, he1, he5]
    refine pcallE.of (hF) ?_; simp -dsimp -implicitDefEqProofs (disch := omega) only [VCA, pg_gl, ↓upd_none, Nat.reduceEqDiff, Nat.reduceBEq, Nat.reduceAdd, Nat.reduceSub, Nat.reduceMul, Nat.reduceLT, Nat.reduceLeDiff, ↓reduceIte, reduceCtorEq, rsOf, rootsOf, SOp.rd, SI.rd, SX.rd, rdL, rdO, rdP, okParts, eqCells, okEqCells, fillA, okFill, setAt, implies_true, forall_const, forall_eq, ne_eq, exists_eq_right_right, exists_eq_right, exists_eq_left, exists_eq_left', eRune, eName, he0, he1, he5]
    have t1 : Int.toNat 1 = 1 := rfl
    refine Br.eq (fun hz => ?_) (fun hz => ?_)
    · have e1 : tE t attr = t.take 1 := if_pos (by omega)
      have e2 : nE t attr = 1 := if_pos (by omega)
      rw [e1] at hwr go
      rw [e2] at go
      simp -dsimp -implicitDefEqProofs (disch := omega) only [VCA, pg_gl, ↓upd_none, Nat.reduceEqDiff, Nat.reduceBEq, Nat.reduceAdd, Nat.reduceSub, Nat.reduceMul, Nat.reduceLT, Nat.reduceLeDiff, ↓reduceIte, reduceCtorEq, rsOf, rootsOf, SOp.rd, SI.rd, SX.rd, rdL, rdO, rdP, okParts, eqCells, okEqCells, fillA, okFill, setAt, implies_true, forall_const, forall_eq, ne_eq, exists_eq_right_right, exists_eq_right, exists_eq_left, exists_eq_left', eRune, eName, he0, he1, he5, t1]
      refine ⟨by omega, ?_⟩
      refine DCalls.of hwr ?_
      rintro a h2 ⟨rfl, B'⟩
      simp -dsimp -implicitDefEqProofs (disch := omega) only [VCA, pg_gl, ↓upd_none, Nat.reduceEqDiff, Nat.reduceBEq, Nat.reduceAdd, Nat.reduceSub, Nat.reduceMul, Nat.reduceLT, Nat.reduceLeDiff, ↓reduceIte, reduceCtorEq, rsOf, rootsOf, SOp.rd, SI.rd, SX.rd, rdL, rdO, rdP, okParts, eqCells, okEqCells, fillA, okFill, setAt, implies_true, forall_const, forall_eq, ne_eq, exists_eq_right_right, exists_eq_right, exists_eq_left, exists_eq_left', eRune, eName, he0, he1, he5, t1]
      exact ⟨by omega, go h2 B'⟩
    · have e1 : tE t attr = (findM t attr).1 := if_neg (by omega)
      have e2 : nE t attr = (findM t attr).2 := if_neg (by omega)
      rw [e1] at hwr go
      rw [e2] at go
      simp -dsimp -implicitDefEqProofs (disch := omega) only [VCA, pg_gl, ↓upd_none, Nat.reduceEqDiff, Nat.reduceBEq, Nat.reduceAdd, Nat.reduceSub, Nat.reduceMul, Nat.reduceLT, Nat.reduceLeDiff, ↓reduceIte, reduceCtorEq, rsOf, rootsOf, SOp.rd, SI.rd, SX.rd, rdL, rdO, rdP, okParts, eqCells, okEqCells, fillA, okFill, setAt, implies_true, forall_const, forall_eq, ne_eq, exists_eq_right_right, exists_eq_right, exists_eq_left, exists_eq_left', eRune, eName, he0, he1, he5, t1]
      refine DCalls.of hwr ?_
      rintro a h2 ⟨rfl, B'⟩
      simp -dsimp -implicitDefEqProofs (disch := omega) only [VCA, pg_gl, ↓upd_none, Nat.reduceEqDiff, Nat.reduceBEq, Nat.reduceAdd, Nat.reduceSub, Nat.reduceMul, Nat.reduceLT, Nat.reduceLeDiff, ↓reduceIte, reduceCtorEq, rsOf, rootsOf, SOp.rd, SI.rd, SX.rd, rdL, rdO, rdP, okParts, eqCells, okEqCells, fillA, okFill, setAt, implies_true, forall_const, forall_eq, ne_eq, exists_eq_right_right, exists_eq_right, exists_eq_left, exists_eq_left', eRune, eName, he0, he1, he5, t1]
      exact ⟨by omega, go h2 B'⟩
def c14 : SFun := ⟨(.seq (.reg [⟨(some 2), (.mv (.c (.str []))), none⟩]) (.seq (.reg [⟨(some 3), (.mv (.t 0)), none⟩, ⟨(some 4), (.pcall 28 [(.t 3), (.c (.bool false))]), none⟩, ⟨(some 2), (.mv (.t 4)), none⟩]) .ret)), [(.tmp 2)]⟩
theorem hc14 : toSF Tryd.prog {pure := [28]} Tryd.f14 = some c14 := by kernel_rfl
theorem hn14 : (Tryd.f14.name == "runtime.NumGoroutine") = false := by kernel_rfl
theorem text_ok (s : List UInt8) (hs : s.length ≤ 1073741823) : PCalls (Pg G) 14 [.str s] (.str (readD s false)) := fun h => by
  refine dcalls_of_vc Tryd.func14 hn14 hc14 (by rw [Tryd.ntmps14]; simp) (by rw [Tryd.ntmps14]; decide) ?_
  simp -dsimp -implicitDefEqProofs (disch := omega) only [VCA, pg_gl, ↓upd_none, Nat.reduceEqDiff, Nat.reduceBEq, Nat.reduceAdd, Nat.reduceSub, Nat.reduceMul, Nat.reduceLT, Nat.reduceLeDiff, ↓reduceIte, reduceCtorEq, rsOf, rootsOf, SOp.rd, SI.rd, SX.rd, rdL, rdO, rdP, okParts, eqCells, okEqCells, fillA, okFill, setAt, implies_true, forall_const, forall_eq, ne_eq, exists_eq_right_right, exists_eq_right, exists_eq_left, exists_eq_left', eRune, eName, c14]
  refine pcallE.of (read_ok s false hs) ?_; simp -dsimp -implicitDefEqProofs (disch := omega) only [VCA, pg_gl, ↓upd_none, Nat.reduceEqDiff, Nat.reduceBEq, Nat.reduceAdd, Nat.reduceSub, Nat.reduceMul, Nat.reduceLT, Nat.reduceLeDiff, ↓reduceIte, reduceCtorEq, rsOf, rootsOf, SOp.rd, SI.rd, SX.rd, rdL, rdO, rdP, okParts, eqCells, okEqCells, fillA, okFill, setAt, implies_true, forall_const, forall_eq, ne_eq, exists_eq_right_right, exists_eq_right, exists_eq_left, exists_eq_left', eRune, eName]
  exact Sub.refl _
theorem fb1 : findM [38, 110, 111, 116, 105, 110, 59, 120] false = ([226, 136, 137], 7) := by decide +kernel
theorem fb2 : findM [38, 110, 111, 116, 105, 116] false = ([194, 172], 4) := by decide +kernel
theorem fb3 : readD [38, 35, 54, 53, 59, 38, 108, 116] false = [65, 60] := by
  rw [readD_cons (by simp)]
  have e1 : tE [38, 35, 54, 53, 59, 38, 108, 116] false = [65] := by decide +kernel
  have e2 : nE [38, 35, 54, 53, 59, 38, 108, 116] false = 5 := by decide +kernel
  rw [e1, e2]
  show [65] ++ readD [38, 108, 116] false = _
  rw [readD_cons (by simp)]
  have e3 : tE [38, 108, 116] false = [60] := by decide +kernel
  have e4 : nE [38, 108, 116] false = 3 := by decide +kernel
  rw [e3, e4]
  show [65] ++ ([60] ++ readD [] false) = _
  rw [readD_nil]; rfl
def c13 : SFun := ⟨(.seq (.reg [⟨(some 0), (.mv (.c (.bool false))), none⟩]) (.seq (.reg [⟨(some 6), (.pcall 27 [(.c (.str [38, 110, 111, 116, 105, 110, 59, 120])), (.c (.bool false))]), none⟩, ⟨(some 5), (.mv (.t 6)), none⟩, ⟨(some 7), (.ext (.t 5) 0), none⟩, ⟨(some 8), (.ext (.t 5) 1), none⟩, ⟨(some 1), (.mv (.t 7)), none⟩, ⟨(some 2), (.mv (.t 8)), none⟩]) (.seq (.reg [⟨(some 10), (.pcall 27 [(.c (.str [38, 110, 111, 116, 105, 116])), (.c (.bool false))]), none⟩, ⟨(some 9), (.mv (.t 10)), none⟩, ⟨(some 11), (.ext (.t 9) 0), none⟩, ⟨(some 12), (.ext (.t 9) 1), none⟩, ⟨(some 3), (.mv (.t 11)), none⟩, ⟨(some 4), (.mv (.t 12)), none⟩]) (.seq (.reg [⟨(some 13), (.mv (.t 1)), none⟩, ⟨(some 14), (.bin .eql (.t 13) (.c (.str [226, 136, 137]))), none⟩, ⟨(some 15), (.mv (.t 14)), none⟩, ⟨(some 16), (.mv (.t 2)), (some (15, true))⟩, ⟨(some 17), (.bin .eql (.t 16) (.c (.int .i64 (7)))), (some (15, true))⟩, ⟨(some 18), (.pick (.t 15) (.t 17) (.c (.bool false))), none⟩, ⟨(some 19), (.mv (.t 18)), none⟩, ⟨(some 20), (.mv (.t 3)), (some (19, true))⟩, ⟨(some 21), (.bin .eql (.t 20) (.c (.str [194, 172]))), (some (19, true))⟩, ⟨(some 22), (.pick (.t 19) (.t 21) (.c (.bool false))), none⟩, ⟨(some 23), (.mv (.t 22)), none⟩, ⟨(some 24), (.mv (.t 4)), (some (23, true))⟩, ⟨(some 25), (.bin .eql (.t 24) (.c (.int .i64 (4)))), (some (23, true))⟩, ⟨(some 26), (.pick (.t 23) (.t 25) (.c (.bool false))), none⟩, ⟨(some 27), (.mv (.t 26)), none⟩, ⟨(some 28), (.pcall 14 [(.c (.str [38, 35, 54, 53, 59, 38, 108, 116]))]), (some (27, true))⟩, ⟨(some 29), (.bin .eql (.t 28) (.c (.str [65, 60]))), (some (27, true))⟩, ⟨(some 30), (.pick (.t 27) (.t 29) (.c (.bool false))), none⟩, ⟨(some 0), (.mv (.t 30)), none⟩]) .ret)))), [(.tmp 0)]⟩
theorem hc13 : toSF Tryd.prog {pure := [27, 14]} Tryd.f13 = some c13 := by kernel_rfl
theorem hn13 : (Tryd.f13.name == "runtime.NumGoroutine") = false := by kernel_rfl
theorem entityBegun_ok : PCalls (Pg G) 13 [] (.bool true) := fun h => by
  have h1 := find_ok (G := G) [38, 110, 111, 116, 105, 110, 59, 120] false (by simp)
  have h2 := find_ok (G := G) [38, 110, 111, 116, 105, 116] false (by simp)
  have h3 := text_ok (G := G) [38, 35, 54, 53, 59, 38, 108, 116] (by simp)
  rw [fb1] at h1
  rw [fb2] at h2
  rw [fb3] at h3
  refine dcalls_of_vc Tryd.func13 hn13 hc13 (by rw [Tryd.ntmps13]; simp) (by rw [Tryd.ntmps13]; decide) ?_
  simp -dsimp -implicitDefEqProofs (disch := omega) only [↓vcOps_sp 15, ↓vcD_sp 15, ↓vcOps_sp 19, ↓vcD_sp 19, ↓vcOps_sp 23, ↓vcD_sp 23, ↓vcOps_sp 27, ↓vcD_sp 27, VCA, pg_gl, ↓upd_none, Nat.reduceEqDiff, Nat.reduceBEq, Nat.reduceAdd, Nat.reduceSub, Nat.reduceMul, Nat.reduceLT, Nat.reduceLeDiff, ↓reduceIte, reduceCtorEq, rsOf, rootsOf, SOp.rd, SI.rd, SX.rd, rdL, rdO, rdP, okParts, eqCells, okEqCells, fillA, okFill, setAt, implies_true, forall_const, forall_eq, ne_eq, exists_eq_right_right, exists_eq_right, exists_eq_left, exists_eq_left', eRune, eName, c13]
  repeat' (first | ((with_reducible refine Br.dec (fun _ => ?_) (fun _ => ?_)) <;> try (exfalso; omega)) | ((with_reducible refine Br.eq (fun _ => ?_) (fun _ => ?_)) <;> try (exfalso; omega)) | ((with_reducible refine Br.ne (fun _ => ?_) (fun _ => ?_)) <;> try (exfalso; omega)) | with_reducible refine Br.intro (fun _ => ?_) (fun _ => ?_) | (with_reducible apply pcallE.of; · exact h1) | (with_reducible apply pcallE.of; · exact h2) | (with_reducible apply pcallE.of; · exact h3) | (with_reducible refine And.intro ?_ ?_; · omega) | simp -dsimp -implicitDefEqProofs (disch := omega) only [↓vcOps_sp 15, ↓vcD_sp 15, ↓vcOps_sp 19, ↓vcD_sp 19, ↓vcOps_sp 23, ↓vcD_sp 23, ↓vcOps_sp 27, ↓vcD_sp 27, VCA, pg_gl, ↓upd_none, Nat.reduceEqDiff, Nat.reduceBEq, Nat.reduceAdd, Nat.reduceSub, Nat.reduceMul, Nat.reduceLT, Nat.reduceLeDiff, ↓reduceIte, reduceCtorEq, rsOf, rootsOf, SOp.rd, SI.rd, SX.rd, rdL, rdO, rdP, okParts, eqCells, okEqCells, fillA, okFill, setAt, implies_true, forall_const, forall_eq, ne_eq, exists_eq_right_right, exists_eq_right, exists_eq_left, exists_eq_left', eRune, eName])
  all_goals first | exact ⟨Sub.refl _, rfl⟩ | exact absurd rfl (by assumption)
end Go.Proofs.K
