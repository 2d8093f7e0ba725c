/- Texts of this claim, one behind the other. -/
import Derived.Test.YtmfechcelhchcaaDoorM5
section
/- Documents: what must be in any case; the law of checks. -/
set_option linter.unusedSimpArgs false
set_option linter.unusedVariables false
namespace Go.Proofs.K
open Go Go.Sim Go.Proofs
variable {G : Glob}
def newD : HDoc := ⟨[⟨1, [], [], [], -1, []⟩], false⟩
def newA : AVal := .agg [.slc [[.int .i64 1, .str [], .emp, .str [], .int .i64 (-1), .emp]], .bool false]
theorem newA_wk : Wk newA (.agg (eDoc newD)) := Wk.agg' (.cons (Wk.slc' (.cons (.cons (.refl _) (.cons (.refl _) (.cons .emp (.cons (.refl _) (.cons (.refl _) (.cons .emp .nil)))))) .nil)) (.cons (.refl _) .nil))
def c54 : SFun := ⟨(.seq (.reg [⟨(some 0), (.new 24 2 [.emp, (.bool false)]), none⟩]) (.seq (.reg [⟨(some 1), (.bld [(.int .i64 (0)), (.str []), .emp, (.str []), (.int .i64 (0)), .emp] [(0, (1, (.c (.int .i64 (1))))), (4, (1, (.c (.int .i64 (-1)))))]), none⟩, ⟨(some 2), (.bldF 43 6 [(.t 1)]), none⟩, ⟨(some 3), (.bld [.emp, (.bool false)] [(0, (1, (.t 2)))]), none⟩, ⟨none, (.st 2 (.t 0) (.t 3)), none⟩]) .ret)), [(.cell 0 2 true)]⟩
theorem hc54 : toSF Tryd.prog {} Tryd.f54 = some c54 := by kernel_rfl
theorem hn54 : (Tryd.f54.name == "runtime.NumGoroutine") = false := by kernel_rfl
theorem new_ok : PCalls (Pg G) 54 [] (.agg (eDoc newD)) := fun h => by
  refine DCalls.res (K := fun a h' => a = newA ∧ h' = h) ?_ ?_
  · refine dcalls_of_vc Tryd.func54 hn54 hc54 (by rw [Tryd.ntmps54]; simp) (by rw [Tryd.ntmps54]; decide) ?_
    simp -dsimp -implicitDefEqProofs (disch := omega) only [VCA, pg_gl, ↓upd_none, Nat.reduceEqDiff, Nat.reduceBEq, Nat.reduceAdd, Nat.reduceSub, Nat.reduceMul, Nat.reduceLT, Nat.reduceLeDiff, ↓reduceIte, reduceCtorEq, rsOf, rootsOf, SOp.rd, SI.rd, SX.rd, rdL, rdO, rdP, okParts, eqCells, okEqCells, fillA, okFill, setAt, implies_true, forall_const, forall_eq, ne_eq, exists_eq_right_right, exists_eq_right, exists_eq_left, exists_eq_left', eInt, eBool, lit_eq, c54]
    intro r hr
    repeat' (first | ((with_reducible refine Br.dec (fun _ => ?_) (fun _ => ?_)) <;> try (exfalso; omega)) | ((with_reducible refine Br.eq (fun _ => ?_) (fun _ => ?_)) <;> try (exfalso; omega)) | ((with_reducible refine Br.ne (fun _ => ?_) (fun _ => ?_)) <;> try (exfalso; omega)) | ((with_reducible refine brNdec (fun _ => ?_) (fun _ => ?_)) <;> try (exfalso; omega)) | ((with_reducible refine brNeq (fun _ => ?_) (fun _ => ?_)) <;> try (exfalso; omega)) | with_reducible refine Br.intro (fun _ => ?_) (fun _ => ?_) | (with_reducible refine And.intro ?_ ?_; · omega) | simp -dsimp -implicitDefEqProofs (disch := omega) only [VCA, pg_gl, ↓upd_none, Nat.reduceEqDiff, Nat.reduceBEq, Nat.reduceAdd, Nat.reduceSub, Nat.reduceMul, Nat.reduceLT, Nat.reduceLeDiff, ↓reduceIte, reduceCtorEq, rsOf, rootsOf, SOp.rd, SI.rd, SX.rd, rdL, rdO, rdP, okParts, eqCells, okEqCells, fillA, okFill, setAt, implies_true, forall_const, forall_eq, ne_eq, exists_eq_right_right, exists_eq_right, exists_eq_left, exists_eq_left', eInt, eBool, lit_eq, upd_same])
    exact ⟨(Sub.refl _).upd hr, rfl⟩
  · rintro a h' ⟨rfl, rfl⟩
    exact ⟨_, newA_wk, rfl, rfl⟩
theorem newD_sm : DocSm newD := ⟨by decide, fun x hx => by
  have : x = ⟨1, [], [], [], -1, []⟩ := by simpa [newD] using hx
  subst this
  exact ⟨by decide, by decide, (fun a ha => by cases ha), by decide, by decide⟩⟩
/-- an edit as it is written: no lists -/
theorem edit_wk (e : HEdit) (h1 : e.node.attrs = []) (h2 : e.node.kids = []) : Wk (.agg (eE0 e)) (.agg (eEdit e)) := Wk.agg' (by
  unfold eE0 eEdit
  rw [h1, h2]
  exact .cons (.refl _) (.cons (.refl _) (.cons (.refl _) (.cons (.refl _) (.cons (.refl _) (.cons (.refl _) (.cons (.refl _) (.cons (.refl _) (.cons .emp (.cons (.refl _) (.cons (.refl _) (.cons .emp .nil))))))))))))
def beg1 : HEdit := ⟨4, 0, 0, 0, [], [], ⟨2, [112], [], [], 0, []⟩⟩
def beg2 : HEdit := ⟨5, 0, 1, -1, [], [], ⟨0, [], [], [], 0, []⟩⟩
def begD1 : HDoc := ⟨[⟨1, [], [], [], -1, []⟩, ⟨2, [112], [], [], -1, []⟩], false⟩
def begD2 : HDoc := ⟨[⟨1, [], [], [], -1, [1]⟩, ⟨2, [112], [], [], 0, []⟩], false⟩
theorem beg_is : applyD newD beg1 = begD1 ∧ applyN newD beg1 = 1 ∧ applyE newD beg1 = 0 ∧ applyD begD1 beg2 = begD2 ∧ applyE begD1 beg2 = 0 ∧ docE begD2 = 0 ∧ below begD2 0 = [0, 1] ∧ docE noDoc = 3 := by decide +kernel
theorem beg_sm : EditSm beg1 ∧ EditSm beg2 ∧ DocSm begD1 ∧ DocSm begD2 := ⟨⟨by decide, by decide, by decide, by decide, (fun a ha => by cases ha), by decide, by decide⟩, ⟨by decide, by decide, by decide, by decide, (fun a ha => by cases ha), by decide, by decide⟩,
  ⟨by decide, fun x hx => by
    have : x = ⟨1, [], [], [], -1, []⟩ ∨ x = ⟨2, [112], [], [], -1, []⟩ := by simpa [begD1] using hx
    rcases this with rfl | rfl <;> exact ⟨by decide, by decide, (fun a ha => by cases ha), by decide, by decide⟩⟩,
  ⟨by decide, fun x hx => by
    have : x = ⟨1, [], [], [], -1, [1]⟩ ∨ x = ⟨2, [112], [], [], 0, []⟩ := by simpa [begD2] using hx
    rcases this with rfl | rfl <;> exact ⟨by decide, by decide, (fun a ha => by cases ha), by decide, by decide⟩⟩⟩
def c51 : SFun := ⟨(.seq (.reg [⟨(some 0), (.mv (.c (.bool false))), none⟩]) (.seq (.reg [⟨(some 9), (.pcall 54 []), none⟩, ⟨(some 10), (.bld [(.int .i64 (0)), (.str []), .emp, (.str []), (.int .i64 (0)), .emp] [(0, (1, (.c (.int .i64 (2))))), (1, (1, (.c (.str [112]))))]), none⟩, ⟨(some 11), (.bld [(.int .i64 (0)), (.int .i64 (0)), (.int .i64 (0)), (.int .i64 (0)), (.str []), (.str []), (.int .i64 (0)), (.str []), .emp, (.str []), (.int .i64 (0)), .emp] [(0, (1, (.c (.int .i64 (4))))), (6, (6, (.t 10)))]), none⟩, ⟨(some 12), (.pcall 55 [(.t 9), (.t 11)]), none⟩, ⟨(some 8), (.mv (.t 12)), none⟩, ⟨(some 13), (.ext (.t 8) 0), none⟩, ⟨(some 14), (.ext (.t 8) 1), none⟩, ⟨(some 15), (.ext (.t 8) 2), none⟩, ⟨(some 1), (.new 24 2 [.emp, (.bool false)]), none⟩, ⟨none, (.st 2 (.t 1) (.t 13)), none⟩, ⟨(some 2), (.mv (.t 14)), none⟩, ⟨(some 3), (.mv (.t 15)), none⟩]) (.seq (.reg [⟨(some 17), (.ld 2 true (.t 1)), none⟩, ⟨(some 18), (.mv (.t 2)), none⟩, ⟨(some 19), (.bld [(.int .i64 (0)), (.int .i64 (0)), (.int .i64 (0)), (.int .i64 (0)), (.str []), (.str []), (.int .i64 (0)), (.str []), .emp, (.str []), (.int .i64 (0)), .emp] [(0, (1, (.c (.int .i64 (5))))), (1, (1, (.c (.int .i64 (0))))), (2, (1, (.t 18))), (3, (1, (.c (.int .i64 (-1)))))]), none⟩, ⟨(some 20), (.pcall 55 [(.t 17), (.t 19)]), none⟩, ⟨(some 16), (.mv (.t 20)), none⟩, ⟨(some 21), (.ext (.t 16) 0), none⟩, ⟨(some 22), (.ext (.t 16) 1), none⟩, ⟨(some 23), (.ext (.t 16) 2), none⟩, ⟨none, (.st 2 (.t 1) (.t 21)), none⟩, ⟨(some 4), (.mv (.t 22)), none⟩, ⟨(some 5), (.mv (.t 23)), none⟩]) (.seq (.reg [⟨(some 25), (.ld 2 true (.t 1)), none⟩, ⟨(some 26), (.pcall 59 [(.t 25)]), none⟩, ⟨(some 24), (.mv (.t 26)), none⟩, ⟨(some 27), (.ext (.t 24) 0), none⟩, ⟨(some 28), (.ext (.t 24) 1), none⟩, ⟨(some 6), (.mv (.t 27)), none⟩, ⟨(some 7), (.mv (.t 28)), none⟩]) (.seq (.reg [⟨(some 29), (.mv (.t 2)), none⟩, ⟨(some 30), (.bin .eql (.t 29) (.c (.int .i64 (1)))), none⟩, ⟨(some 31), (.mv (.t 30)), none⟩, ⟨(some 32), (.mv (.t 3)), (some (31, true))⟩, ⟨(some 33), (.bin .eql (.t 32) (.c (.int .i64 (0)))), (some (31, true))⟩, ⟨(some 34), (.pick (.t 31) (.t 33) (.c (.bool false))), none⟩, ⟨(some 35), (.mv (.t 34)), none⟩, ⟨(some 36), (.mv (.t 5)), (some (35, true))⟩, ⟨(some 37), (.bin .eql (.t 36) (.c (.int .i64 (0)))), (some (35, true))⟩, ⟨(some 38), (.pick (.t 35) (.t 37) (.c (.bool false))), none⟩, ⟨(some 39), (.mv (.t 38)), none⟩, ⟨(some 40), (.mv (.t 7)), (some (39, true))⟩, ⟨(some 41), (.bin .eql (.t 40) (.c (.int .i64 (0)))), (some (39, true))⟩, ⟨(some 42), (.pick (.t 39) (.t 41) (.c (.bool false))), none⟩, ⟨(some 43), (.mv (.t 42)), none⟩, ⟨(some 44), (.mv (.t 6)), (some (43, true))⟩, ⟨(some 45), (.bldF 3 1 [(.c (.int .i64 (0))), (.c (.int .i64 (1)))]), (some (43, true))⟩, ⟨(some 46), (.pcall 30 [(.t 44), (.t 45)]), (some (43, true))⟩, ⟨(some 47), (.pick (.t 43) (.t 46) (.c (.bool false))), none⟩, ⟨(some 48), (.mv (.t 47)), none⟩, ⟨(some 49), (.bld [.emp, (.bool false)] []), (some (48, true))⟩, ⟨(some 50), (.pcall 52 [(.t 49)]), (some (48, true))⟩, ⟨(some 51), (.bin .eql (.t 50) (.c (.int .i64 (3)))), (some (48, true))⟩, ⟨(some 52), (.pick (.t 48) (.t 51) (.c (.bool false))), none⟩, ⟨(some 0), (.mv (.t 52)), none⟩]) .ret))))), [(.tmp 0)]⟩
theorem hc51 : toSF Tryd.prog {pure := [55, 54, 59, 30, 52]} Tryd.f51 = some c51 := by kernel_rfl
theorem hn51 : (Tryd.f51.name == "runtime.NumGoroutine") = false := by kernel_rfl
theorem domBegun_ok : PCalls (Pg G) 51 [] (.bool true) := fun h => by
  obtain ⟨b1, b2, b3, b4, b5, b6, b7, b8⟩ := beg_is
  obtain ⟨s1, s2, s3, s4⟩ := beg_sm
  have h1 : PCalls (Pg G) 55 [.agg (eDoc newD), .agg (eE0 beg1)] (.tup [.agg (eDoc begD1), aInt 1, aInt 0]) := by
    have h := (apply_ok (G := G) newD newD_sm beg1 s1).wk (args := [.agg (eDoc newD), .agg (eE0 beg1)]) (.cons (.refl _) (.cons (edit_wk beg1 rfl rfl) .nil))
    rw [b1, b2, b3] at h
    exact h
  have h2 : PCalls (Pg G) 55 [.agg (eDoc begD1), .agg (eE0 beg2)] (.tup [.agg (eDoc begD2), aInt (applyN begD1 beg2), aInt 0]) := by
    have h := (apply_ok (G := G) begD1 s3 beg2 s2).wk (args := [.agg (eDoc begD1), .agg (eE0 beg2)]) (.cons (.refl _) (.cons (edit_wk beg2 rfl rfl) .nil))
    rw [b4, b5] at h
    exact h
  have h3 : PCalls (Pg G) 59 [.agg (eDoc begD2)] (.tup [sl eInt [0, 1], aInt 0]) := by
    have h := domOrder_ok (G := G) begD2 (docE_DV b6) b6 s4
    rw [b7] at h
    exact h
  have h4 : PCalls (Pg G) 30 [sl eInt [0, 1], .slc [[.int .i64 0], [.int .i64 1]]] (.bool true) := sameN_ok (G := G) [0, 1] [0, 1] (by simp) (by simp)
  have h5 : PCalls (Pg G) 52 [.agg [.emp, .bool false]] (aInt 3) := by
    have h := (check_ok (G := G) noDoc ⟨by decide, fun x hx => by cases hx⟩).wk (args := [.agg [.emp, .bool false]]) (.cons (Wk.agg' (.cons .emp (.cons (.refl _) .nil))) .nil)
    rw [b8] at h
    exact h
  unfold eE0 beg1 at h1
  unfold eE0 beg2 at h2
  refine dcalls_of_vc Tryd.func51 hn51 hc51 (by rw [Tryd.ntmps51]; simp) (by rw [Tryd.ntmps51]; decide) ?_
  simp -dsimp -implicitDefEqProofs (disch := omega) only [↓vcOps_sp 31, ↓vcD_sp 31, ↓vcOps_sp 35, ↓vcD_sp 35, ↓vcOps_sp 39, ↓vcD_sp 39, ↓vcOps_sp 43, ↓vcD_sp 43, ↓vcOps_sp 48, ↓vcD_sp 48, VCA, pg_gl, ↓upd_none, Nat.reduceEqDiff, Nat.reduceBEq, Nat.reduceAdd, Nat.reduceSub, Nat.reduceMul, Nat.reduceLT, Nat.reduceLeDiff, ↓reduceIte, reduceCtorEq, rsOf, rootsOf, SOp.rd, SI.rd, SX.rd, rdL, rdO, rdP, okParts, eqCells, okEqCells, fillA, okFill, setAt, implies_true, forall_const, forall_eq, ne_eq, exists_eq_right_right, exists_eq_right, exists_eq_left, exists_eq_left', eInt, eBool, lit_eq, c51]
  repeat' (first | ((with_reducible refine Br.dec (fun _ => ?_) (fun _ => ?_)) <;> try (exfalso; omega)) | ((with_reducible refine Br.eq (fun _ => ?_) (fun _ => ?_)) <;> try (exfalso; omega)) | ((with_reducible refine Br.ne (fun _ => ?_) (fun _ => ?_)) <;> try (exfalso; omega)) | ((with_reducible refine brNdec (fun _ => ?_) (fun _ => ?_)) <;> try (exfalso; omega)) | ((with_reducible refine brNeq (fun _ => ?_) (fun _ => ?_)) <;> try (exfalso; omega)) | with_reducible refine Br.intro (fun _ => ?_) (fun _ => ?_) | (with_reducible apply pcallE.of; · exact new_ok (G := G)) | (with_reducible apply pcallE.of; · exact h1) | (with_reducible refine And.intro ?_ ?_; · omega) | simp -dsimp -implicitDefEqProofs (disch := omega) only [↓vcOps_sp 31, ↓vcD_sp 31, ↓vcOps_sp 35, ↓vcD_sp 35, ↓vcOps_sp 39, ↓vcD_sp 39, ↓vcOps_sp 43, ↓vcD_sp 43, ↓vcOps_sp 48, ↓vcD_sp 48, VCA, pg_gl, ↓upd_none, Nat.reduceEqDiff, Nat.reduceBEq, Nat.reduceAdd, Nat.reduceSub, Nat.reduceMul, Nat.reduceLT, Nat.reduceLeDiff, ↓reduceIte, reduceCtorEq, rsOf, rootsOf, SOp.rd, SI.rd, SX.rd, rdL, rdO, rdP, okParts, eqCells, okEqCells, fillA, okFill, setAt, implies_true, forall_const, forall_eq, ne_eq, exists_eq_right_right, exists_eq_right, exists_eq_left, exists_eq_left', eInt, eBool, lit_eq, upd_same])
  intro r hr
  repeat' (first | ((with_reducible refine Br.dec (fun _ => ?_) (fun _ => ?_)) <;> try (exfalso; omega)) | ((with_reducible refine Br.eq (fun _ => ?_) (fun _ => ?_)) <;> try (exfalso; omega)) | ((with_reducible refine Br.ne (fun _ => ?_) (fun _ => ?_)) <;> try (exfalso; omega)) | ((with_reducible refine brNdec (fun _ => ?_) (fun _ => ?_)) <;> try (exfalso; omega)) | ((with_reducible refine brNeq (fun _ => ?_) (fun _ => ?_)) <;> try (exfalso; omega)) | with_reducible refine Br.intro (fun _ => ?_) (fun _ => ?_) | (with_reducible apply pcallE.of; · exact h2) | (with_reducible apply pcallE.of; · exact h3) | (with_reducible apply pcallE.of; · exact h4) | (with_reducible apply pcallE.of; · exact h5) | (with_reducible refine And.intro ?_ ?_; · omega) | simp -dsimp -implicitDefEqProofs (disch := omega) only [↓vcOps_sp 31, ↓vcD_sp 31, ↓vcOps_sp 35, ↓vcD_sp 35, ↓vcOps_sp 39, ↓vcD_sp 39, ↓vcOps_sp 43, ↓vcD_sp 43, ↓vcOps_sp 48, ↓vcD_sp 48, VCA, pg_gl, ↓upd_none, Nat.reduceEqDiff, Nat.reduceBEq, Nat.reduceAdd, Nat.reduceSub, Nat.reduceMul, Nat.reduceLT, Nat.reduceLeDiff, ↓reduceIte, reduceCtorEq, rsOf, rootsOf, SOp.rd, SI.rd, SX.rd, rdL, rdO, rdP, okParts, eqCells, okEqCells, fillA, okFill, setAt, implies_true, forall_const, forall_eq, ne_eq, exists_eq_right_right, exists_eq_right, exists_eq_left, exists_eq_left', eInt, eBool, lit_eq, upd_same, eDoc_len, eDoc_take, eDoc_dr, List.append_nil])
  exact ⟨(Sub.refl h).upd hr, rfl⟩
end Go.Proofs.K
end
section
/- Edits: the law of DomEdits. -/
set_option linter.unusedSimpArgs false
set_option linter.unusedVariables false
namespace Go.Proofs.K
open Go Go.Sim Go.Proofs
variable {G : Glob}
theorem eEdit_len (e : HEdit) : (eEdit e).length = 12 := rfl
theorem eEdit_take (e : HEdit) : (eEdit e).take 12 = eEdit e := rfl
def c11 : SFun := ⟨(.seq (.reg [⟨(some 2), (.box 24 2 (.t 0)), none⟩, ⟨(some 3), (.boxF 87 12 (.t 1)), none⟩, ⟨(some 4), (.mv (.c (.bool false))), none⟩]) (.seq (.reg [⟨(some 12), (.ld 2 true (.t 2)), none⟩, ⟨(some 13), (.pcall 15 [(.t 12), (.c (.int .i64 (210)))]), none⟩, ⟨none, (.st 2 (.t 2) (.t 13)), none⟩]) (.seq (.reg [⟨(some 15), (.ld 2 true (.t 2)), none⟩, ⟨(some 16), (.ld 12 true (.t 3)), none⟩, ⟨(some 17), (.pcall 55 [(.t 15), (.t 16)]), none⟩, ⟨(some 14), (.mv (.t 17)), none⟩, ⟨(some 18), (.ext (.t 14) 0), none⟩, ⟨(some 19), (.ext (.t 14) 1), none⟩, ⟨(some 20), (.ext (.t 14) 2), none⟩, ⟨(some 5), (.new 24 2 [.emp, (.bool false)]), none⟩, ⟨none, (.st 2 (.t 5) (.t 18)), none⟩, ⟨(some 6), (.mv (.t 19)), none⟩, ⟨(some 7), (.mv (.t 20)), none⟩]) (.seq (.seq (.reg [⟨(some 21), (.ld 2 true (.t 2)), none⟩, ⟨(some 22), (.pcall 17 [(.t 21)]), none⟩, ⟨(some 8), (.mv (.t 22)), none⟩]) (.seq (.reg [⟨(some 23), (.mv (.t 8)), none⟩, ⟨(some 24), (.bin .neq (.t 23) (.c (.int .i64 (0)))), none⟩]) (.cond (.t 24) (.seq (.reg [⟨(some 25), (.pcall 51 []), none⟩, ⟨(some 26), (.mv (.t 25)), none⟩, ⟨(some 27), (.mv (.t 7)), (some (26, true))⟩, ⟨(some 28), (.mv (.t 8)), (some (26, true))⟩, ⟨(some 29), (.bin .eql (.t 27) (.t 28)), (some (26, true))⟩, ⟨(some 30), (.pick (.t 26) (.t 29) (.c (.bool false))), none⟩, ⟨(some 31), (.mv (.t 30)), none⟩, ⟨(some 32), (.mv (.t 6)), (some (31, true))⟩, ⟨(some 33), (.bin .eql (.t 32) (.c (.int .i64 (0)))), (some (31, true))⟩, ⟨(some 34), (.pick (.t 31) (.t 33) (.c (.bool false))), none⟩, ⟨(some 35), (.mv (.t 34)), none⟩, ⟨(some 36), (.ld 2 true (.t 5)), (some (35, true))⟩, ⟨(some 37), (.bld [.emp, (.bool false)] []), (some (35, true))⟩, ⟨(some 38), (.pcall 53 [(.t 36), (.t 37)]), (some (35, true))⟩, ⟨(some 39), (.pick (.t 35) (.t 38) (.c (.bool false))), none⟩, ⟨(some 4), (.mv (.t 39)), none⟩]) .ret) .skip))) (.seq (.reg [⟨(some 41), (.ld 2 true (.t 2)), none⟩, ⟨(some 42), (.ld 12 true (.t 3)), none⟩, ⟨(some 43), (.pcall 56 [(.t 41), (.t 42)]), none⟩, ⟨(some 40), (.mv (.t 43)), none⟩, ⟨(some 44), (.ext (.t 40) 0), none⟩, ⟨(some 45), (.ext (.t 40) 1), none⟩, ⟨(some 46), (.ext (.t 40) 2), none⟩, ⟨(some 9), (.new 24 2 [.emp, (.bool false)]), none⟩, ⟨none, (.st 2 (.t 9) (.t 44)), none⟩, ⟨(some 10), (.mv (.t 45)), none⟩, ⟨(some 11), (.mv (.t 46)), none⟩]) (.seq (.reg [⟨(some 47), (.pcall 51 []), none⟩, ⟨(some 48), (.mv (.t 47)), none⟩, ⟨(some 49), (.ld 2 true (.t 5)), (some (48, true))⟩, ⟨(some 50), (.ld 2 true (.t 9)), (some (48, true))⟩, ⟨(some 51), (.pcall 53 [(.t 49), (.t 50)]), (some (48, true))⟩, ⟨(some 52), (.pick (.t 48) (.t 51) (.c (.bool false))), none⟩, ⟨(some 53), (.mv (.t 52)), none⟩, ⟨(some 54), (.mv (.t 6)), (some (53, true))⟩, ⟨(some 55), (.mv (.t 10)), (some (53, true))⟩, ⟨(some 56), (.bin .eql (.t 54) (.t 55)), (some (53, true))⟩, ⟨(some 57), (.pick (.t 53) (.t 56) (.c (.bool false))), none⟩, ⟨(some 58), (.mv (.t 57)), none⟩, ⟨(some 59), (.mv (.t 7)), (some (58, true))⟩, ⟨(some 60), (.mv (.t 11)), (some (58, true))⟩, ⟨(some 61), (.bin .eql (.t 59) (.t 60)), (some (58, true))⟩, ⟨(some 62), (.pick (.t 58) (.t 61) (.c (.bool false))), none⟩, ⟨(some 4), (.mv (.t 62)), none⟩]) .ret)))))), [(.tmp 4)]⟩
theorem hc11 : toSF Tryd.prog {pure := [15, 51, 55, 17, 56, 53], how := [(2, 6)]} Tryd.f11 = some c11 := by kernel_rfl
theorem hn11 : (Tryd.f11.name == "runtime.NumGoroutine") = false := by kernel_rfl
theorem domEdits_ok (d : HDoc) (sm : DocSm d) (e : HEdit) (he : EditSm e) : PCalls (Pg G) 11 [.agg (eDoc d), .agg (eEdit e)] (.bool true) := fun h => by
  have hF : PCalls (Pg G) 15 [.agg (eDoc d), .int .i64 210] (.agg (eDoc ⟨d.nodes.take 210, d.quirks⟩)) := few_ok (G := G) d 210 sm
  have fs := sm.few 210
  generalize (⟨d.nodes.take 210, d.quirks⟩ : HDoc) = f at *
  have hA := apply_ok (G := G) f fs e he
  have hD := docErr_ok (G := G) f fs
  have asm := apply_sm (d := f) fs he
  have hS1 : applyD f e = noDoc → PCalls (Pg G) 53 [.agg (eDoc (applyD f e)), .agg [.emp, .bool false]] (.bool true) := fun h => by
    rw [h]
    exact (sameDoc_ok (G := G) noDoc noDoc ⟨by decide, fun x hx => by cases hx⟩ ⟨by decide, fun x hx => by cases hx⟩).wk (.cons (.refl _) (.cons (Wk.agg' (.cons .emp (.cons (.refl _) .nil))) .nil))
  have hS2 : PCalls (Pg G) 53 [.agg (eDoc (applyD f e)), .agg (eDoc (applyD f e))] (.bool true) := by
    have h := sameDoc_ok (G := G) (applyD f e) (applyD f e) asm asm
    rwa [show (applyD f e == applyD f e) = true by simp] at h
  have hB := domBegun_ok (G := G)
  by_cases h0 : docE f = 0
  · have hE := edited_ok (G := G) f ((docE_iff f).1 h0) fs e he
    unfold edR at hE
    rw [h0] at hD
    generalize applyD f e = D at *
    generalize applyN f e = N at *
    generalize applyE f e = X at *
    have n1 : (N == N) = true := by simp
    have n2 : (X == X) = true := by simp
    have n3 : ((0 : Int) != 0) = false := rfl
    refine dcalls_of_vc Tryd.func11 hn11 hc11 (by rw [Tryd.ntmps11]; simp) (by rw [Tryd.ntmps11]; decide) ?_
    simp -dsimp -implicitDefEqProofs (disch := omega) only [↓vcOps_sp 26, ↓vcD_sp 26, ↓vcOps_sp 31, ↓vcD_sp 31, ↓vcOps_sp 35, ↓vcD_sp 35, ↓vcOps_sp 48, ↓vcD_sp 48, ↓vcOps_sp 53, ↓vcD_sp 53, ↓vcOps_sp 58, ↓vcD_sp 58, VCA, pg_gl, ↓upd_none, Nat.reduceEqDiff, Nat.reduceBEq, Nat.reduceAdd, Nat.reduceSub, Nat.reduceMul, Nat.reduceLT, Nat.reduceLeDiff, ↓reduceIte, reduceCtorEq, rsOf, rootsOf, SOp.rd, SI.rd, SX.rd, rdL, rdO, rdP, okParts, eqCells, okEqCells, fillA, okFill, setAt, implies_true, forall_const, forall_eq, ne_eq, exists_eq_right_right, exists_eq_right, exists_eq_left, exists_eq_left', eInt, eBool, lit_eq, c11, eDoc_len, eDoc_take, eDoc_dr, List.append_nil]
    intro r2 hr2
    repeat' (first | ((with_reducible refine Br.dec (fun _ => ?_) (fun _ => ?_)) <;> try (exfalso; omega)) | ((with_reducible refine Br.eq (fun _ => ?_) (fun _ => ?_)) <;> try (exfalso; omega)) | ((with_reducible refine Br.ne (fun _ => ?_) (fun _ => ?_)) <;> try (exfalso; omega)) | ((with_reducible refine brNdec (fun _ => ?_) (fun _ => ?_)) <;> try (exfalso; omega)) | ((with_reducible refine brNeq (fun _ => ?_) (fun _ => ?_)) <;> try (exfalso; omega)) | with_reducible refine Br.intro (fun _ => ?_) (fun _ => ?_) | (with_reducible apply pcallE.of; · exact hF) | (with_reducible apply pcallE.of; · exact hA) | (with_reducible refine And.intro ?_ ?_; · omega) | simp -dsimp -implicitDefEqProofs (disch := omega) only [↓vcOps_sp 26, ↓vcD_sp 26, ↓vcOps_sp 31, ↓vcD_sp 31, ↓vcOps_sp 35, ↓vcD_sp 35, ↓vcOps_sp 48, ↓vcD_sp 48, ↓vcOps_sp 53, ↓vcD_sp 53, ↓vcOps_sp 58, ↓vcD_sp 58, VCA, pg_gl, ↓upd_none, Nat.reduceEqDiff, Nat.reduceBEq, Nat.reduceAdd, Nat.reduceSub, Nat.reduceMul, Nat.reduceLT, Nat.reduceLeDiff, ↓reduceIte, reduceCtorEq, rsOf, rootsOf, SOp.rd, SI.rd, SX.rd, rdL, rdO, rdP, okParts, eqCells, okEqCells, fillA, okFill, setAt, implies_true, forall_const, forall_eq, ne_eq, exists_eq_right_right, exists_eq_right, exists_eq_left, exists_eq_left', eInt, eBool, lit_eq, upd_same, eDoc_len, eDoc_take, eDoc_dr, eEdit_len, eEdit_take, List.append_nil, BEq.rfl, beq_self_eq_true, n1, n2, n3])
    intro r5 hr5
    have m1 : ¬ r5 = r2 := hr5.1
    have m2 : ¬ r2 = r5 := fun h => m1 h.symm
    repeat' (first | ((with_reducible refine Br.dec (fun _ => ?_) (fun _ => ?_)) <;> try (exfalso; omega)) | ((with_reducible refine Br.eq (fun _ => ?_) (fun _ => ?_)) <;> try (exfalso; omega)) | ((with_reducible refine Br.ne (fun _ => ?_) (fun _ => ?_)) <;> try (exfalso; omega)) | ((with_reducible refine brNdec (fun _ => ?_) (fun _ => ?_)) <;> try (exfalso; omega)) | ((with_reducible refine brNeq (fun _ => ?_) (fun _ => ?_)) <;> try (exfalso; omega)) | with_reducible refine Br.intro (fun _ => ?_) (fun _ => ?_) | (with_reducible apply pcallE.of; · exact hD) | (with_reducible apply pcallE.of; · exact hE) | (with_reducible refine And.intro ?_ ?_; · omega) | simp -dsimp -implicitDefEqProofs (disch := omega) only [↓vcOps_sp 26, ↓vcD_sp 26, ↓vcOps_sp 31, ↓vcD_sp 31, ↓vcOps_sp 35, ↓vcD_sp 35, ↓vcOps_sp 48, ↓vcD_sp 48, ↓vcOps_sp 53, ↓vcD_sp 53, ↓vcOps_sp 58, ↓vcD_sp 58, VCA, pg_gl, ↓upd_none, Nat.reduceEqDiff, Nat.reduceBEq, Nat.reduceAdd, Nat.reduceSub, Nat.reduceMul, Nat.reduceLT, Nat.reduceLeDiff, ↓reduceIte, reduceCtorEq, rsOf, rootsOf, SOp.rd, SI.rd, SX.rd, rdL, rdO, rdP, okParts, eqCells, okEqCells, fillA, okFill, setAt, implies_true, forall_const, forall_eq, ne_eq, exists_eq_right_right, exists_eq_right, exists_eq_left, exists_eq_left', eInt, eBool, lit_eq, upd_same, eDoc_len, eDoc_take, eDoc_dr, eEdit_len, eEdit_take, List.append_nil, BEq.rfl, beq_self_eq_true, n1, n2, n3, m1, m2])
    intro r9 hr9
    have k1 : ¬ r9 = r2 := hr9.2.1
    have k2 : ¬ r2 = r9 := fun h => k1 h.symm
    have k3 : ¬ r9 = r5 := hr9.1
    have k4 : ¬ r5 = r9 := fun h => k3 h.symm
    repeat' (first | ((with_reducible refine Br.dec (fun _ => ?_) (fun _ => ?_)) <;> try (exfalso; omega)) | ((with_reducible refine Br.eq (fun _ => ?_) (fun _ => ?_)) <;> try (exfalso; omega)) | ((with_reducible refine Br.ne (fun _ => ?_) (fun _ => ?_)) <;> try (exfalso; omega)) | ((with_reducible refine brNdec (fun _ => ?_) (fun _ => ?_)) <;> try (exfalso; omega)) | ((with_reducible refine brNeq (fun _ => ?_) (fun _ => ?_)) <;> try (exfalso; omega)) | with_reducible refine Br.intro (fun _ => ?_) (fun _ => ?_) | (with_reducible apply pcallE.of; · exact hB) | (with_reducible apply pcallE.of; · exact hS2) | (with_reducible refine And.intro ?_ ?_; · omega) | simp -dsimp -implicitDefEqProofs (disch := omega) only [↓vcOps_sp 26, ↓vcD_sp 26, ↓vcOps_sp 31, ↓vcD_sp 31, ↓vcOps_sp 35, ↓vcD_sp 35, ↓vcOps_sp 48, ↓vcD_sp 48, ↓vcOps_sp 53, ↓vcD_sp 53, ↓vcOps_sp 58, ↓vcD_sp 58, VCA, pg_gl, ↓upd_none, Nat.reduceEqDiff, Nat.reduceBEq, Nat.reduceAdd, Nat.reduceSub, Nat.reduceMul, Nat.reduceLT, Nat.reduceLeDiff, ↓reduceIte, reduceCtorEq, rsOf, rootsOf, SOp.rd, SI.rd, SX.rd, rdL, rdO, rdP, okParts, eqCells, okEqCells, fillA, okFill, setAt, implies_true, forall_const, forall_eq, ne_eq, exists_eq_right_right, exists_eq_right, exists_eq_left, exists_eq_left', eInt, eBool, lit_eq, upd_same, eDoc_len, eDoc_take, eDoc_dr, eEdit_len, eEdit_take, List.append_nil, BEq.rfl, beq_self_eq_true, n1, n2, n3, m1, m2, k1, k2, k3, k4])
    exact (((Sub.refl h).upd hr2).upd hr5.2).upd hr9.2.2
  · have aE : applyE f e = docE f := by unfold applyE; rw [if_pos h0]
    have aD : applyD f e = noDoc := by unfold applyD; rw [aE, if_neg h0]
    have aN : applyN f e = 0 := by unfold applyN; rw [aE, if_neg h0]
    have hS1 := hS1 aD
    rw [aD, aN, aE] at hA
    rw [aD] at hS1
    generalize docE f = X at *
    have n2 : (X == X) = true := by simp
    have n1 : ((0 : Int) == 0) = true := rfl
    have n3 : (X != 0) = true := by simpa using h0
    refine dcalls_of_vc Tryd.func11 hn11 hc11 (by rw [Tryd.ntmps11]; simp) (by rw [Tryd.ntmps11]; decide) ?_
    simp -dsimp -implicitDefEqProofs (disch := omega) only [↓vcOps_sp 26, ↓vcD_sp 26, ↓vcOps_sp 31, ↓vcD_sp 31, ↓vcOps_sp 35, ↓vcD_sp 35, ↓vcOps_sp 48, ↓vcD_sp 48, ↓vcOps_sp 53, ↓vcD_sp 53, ↓vcOps_sp 58, ↓vcD_sp 58, VCA, pg_gl, ↓upd_none, Nat.reduceEqDiff, Nat.reduceBEq, Nat.reduceAdd, Nat.reduceSub, Nat.reduceMul, Nat.reduceLT, Nat.reduceLeDiff, ↓reduceIte, reduceCtorEq, rsOf, rootsOf, SOp.rd, SI.rd, SX.rd, rdL, rdO, rdP, okParts, eqCells, okEqCells, fillA, okFill, setAt, implies_true, forall_const, forall_eq, ne_eq, exists_eq_right_right, exists_eq_right, exists_eq_left, exists_eq_left', eInt, eBool, lit_eq, c11, eDoc_len, eDoc_take, eDoc_dr, List.append_nil]
    intro r2 hr2
    repeat' (first | ((with_reducible refine Br.dec (fun _ => ?_) (fun _ => ?_)) <;> try (exfalso; omega)) | ((with_reducible refine Br.eq (fun _ => ?_) (fun _ => ?_)) <;> try (exfalso; omega)) | ((with_reducible refine Br.ne (fun _ => ?_) (fun _ => ?_)) <;> try (exfalso; omega)) | ((with_reducible refine brNdec (fun _ => ?_) (fun _ => ?_)) <;> try (exfalso; omega)) | ((with_reducible refine brNeq (fun _ => ?_) (fun _ => ?_)) <;> try (exfalso; omega)) | with_reducible refine Br.intro (fun _ => ?_) (fun _ => ?_) | (with_reducible apply pcallE.of; · exact hF) | (with_reducible apply pcallE.of; · exact hA) | (with_reducible refine And.intro ?_ ?_; · omega) | simp -dsimp -implicitDefEqProofs (disch := omega) only [↓vcOps_sp 26, ↓vcD_sp 26, ↓vcOps_sp 31, ↓vcD_sp 31, ↓vcOps_sp 35, ↓vcD_sp 35, ↓vcOps_sp 48, ↓vcD_sp 48, ↓vcOps_sp 53, ↓vcD_sp 53, ↓vcOps_sp 58, ↓vcD_sp 58, VCA, pg_gl, ↓upd_none, Nat.reduceEqDiff, Nat.reduceBEq, Nat.reduceAdd, Nat.reduceSub, Nat.reduceMul, Nat.reduceLT, Nat.reduceLeDiff, ↓reduceIte, reduceCtorEq, rsOf, rootsOf, SOp.rd, SI.rd, SX.rd, rdL, rdO, rdP, okParts, eqCells, okEqCells, fillA, okFill, setAt, implies_true, forall_const, forall_eq, ne_eq, exists_eq_right_right, exists_eq_right, exists_eq_left, exists_eq_left', eInt, eBool, lit_eq, upd_same, eDoc_len, eDoc_take, eDoc_dr, eEdit_len, eEdit_take, List.append_nil, BEq.rfl, beq_self_eq_true, n1, n2, n3])
    intro r5 hr5
    have m1 : ¬ r5 = r2 := hr5.1
    have m2 : ¬ r2 = r5 := fun h => m1 h.symm
    repeat' (first | ((with_reducible refine Br.dec (fun _ => ?_) (fun _ => ?_)) <;> try (exfalso; omega)) | ((with_reducible refine Br.eq (fun _ => ?_) (fun _ => ?_)) <;> try (exfalso; omega)) | ((with_reducible refine Br.ne (fun _ => ?_) (fun _ => ?_)) <;> try (exfalso; omega)) | ((with_reducible refine brNdec (fun _ => ?_) (fun _ => ?_)) <;> try (exfalso; omega)) | ((with_reducible refine brNeq (fun _ => ?_) (fun _ => ?_)) <;> try (exfalso; omega)) | with_reducible refine Br.intro (fun _ => ?_) (fun _ => ?_) | (with_reducible apply pcallE.of; · exact hD) | (with_reducible apply pcallE.of; · exact hB) | (with_reducible apply pcallE.of; · exact hS1) | (with_reducible refine And.intro ?_ ?_; · omega) | simp -dsimp -implicitDefEqProofs (disch := omega) only [↓vcOps_sp 26, ↓vcD_sp 26, ↓vcOps_sp 31, ↓vcD_sp 31, ↓vcOps_sp 35, ↓vcD_sp 35, ↓vcOps_sp 48, ↓vcD_sp 48, ↓vcOps_sp 53, ↓vcD_sp 53, ↓vcOps_sp 58, ↓vcD_sp 58, VCA, pg_gl, ↓upd_none, Nat.reduceEqDiff, Nat.reduceBEq, Nat.reduceAdd, Nat.reduceSub, Nat.reduceMul, Nat.reduceLT, Nat.reduceLeDiff, ↓reduceIte, reduceCtorEq, rsOf, rootsOf, SOp.rd, SI.rd, SX.rd, rdL, rdO, rdP, okParts, eqCells, okEqCells, fillA, okFill, setAt, implies_true, forall_const, forall_eq, ne_eq, exists_eq_right_right, exists_eq_right, exists_eq_left, exists_eq_left', eInt, eBool, lit_eq, upd_same, eDoc_len, eDoc_take, eDoc_dr, eEdit_len, eEdit_take, List.append_nil, BEq.rfl, beq_self_eq_true, n1, n2, n3, m1, m2])
    exact ((Sub.refl h).upd hr2).upd hr5.2
end Go.Proofs.K
end
