/- Texts of this claim, one behind the other. -/
import Derived.Test.YtcbhonddhmeibaaDoorM5
section
set_option linter.unusedSimpArgs false
set_option linter.unusedVariables false
namespace Go.Proofs.K
open Go Go.Sim Go.Proofs
variable {G : Glob}
def lowB (b : UInt8) : UInt8 := if 65 ≤ b.toNat ∧ b.toNat ≤ 90 then b + 32 else b
def nameC (b : UInt8) : Bool := (decide (97 ≤ b.toNat) && decide (b.toNat ≤ 122)) || ((decide (48 ≤ b.toNat) && decide (b.toNat ≤ 57)) || (b.toNat == 45 || (b.toNat == 95 || b.toNat == 58)))
theorem lowB_name (b : UInt8) : nmB b = if nameC (lowB b) = true then lowB b else 95 :=
  of_decide_eq_true (u8_all (p := fun b => decide (nmB b = if nameC (lowB b) = true then lowB b else 95)) (by decide +kernel) b)
theorem lowB_I (b : UInt8) : ((lowB b).toNat : Int) = lowI b.toNat :=
  of_decide_eq_true (u8_all (p := fun b => decide (((lowB b).toNat : Int) = lowI b.toNat)) (by decide +kernel) b)
def c16 : SFun := ⟨.seq (.reg [⟨some 2, .mv (.c (.int .u8 0)), none⟩]) (.seq (.seq (.reg [⟨some 3, .mv (.t 0), none⟩, ⟨some 4, .bin .geq (.t 3) (.c (.int .u8 65)), none⟩, ⟨some 5, .mv (.t 4), none⟩, ⟨some 6, .mv (.t 0), some (5, true)⟩, ⟨some 7, .bin .leq (.t 6) (.c (.int .u8 90)), some (5, true)⟩, ⟨some 8, .pick (.t 5) (.t 7) (.c (.bool false)), none⟩]) (.cond (.t 8) (.seq (.reg [⟨some 9, .mv (.t 0), none⟩, ⟨some 10, .bin .sub (.t 9) (.c (.int .u8 65)), none⟩, ⟨some 11, .bin .add (.t 10) (.c (.int .u8 97)), none⟩, ⟨some 2, .mv (.t 11), none⟩]) .ret) .skip)) (.seq (.reg [⟨some 12, .mv (.t 0), none⟩, ⟨some 2, .mv (.t 12), none⟩]) .ret)), [.tmp 2]⟩
theorem hc16 : toSF Tryd.prog {} Tryd.f16 = some c16 := by kernel_rfl
theorem hn16 : (Tryd.f16.name == "runtime.NumGoroutine") = false := by kernel_rfl
theorem refLow_ok (b : UInt8) : PCalls (Pg G) 16 [.int .u8 b.toNat] (.int .u8 (lowB b).toNat) := fun h => by
  rw [lowB_I]
  unfold lowI
  have hb := b.toNat_lt
  refine dcalls_of_vc Tryd.func16 hn16 hc16 (by rw [Tryd.ntmps16]; simp) (by rw [Tryd.ntmps16]; decide) ?_
  simp -dsimp -implicitDefEqProofs (disch := omega) only [↓vcOps_sp 5, ↓vcD_sp 5, VCA, pg_gl, ↓upd_none, Nat.reduceEqDiff, Nat.reduceBEq, Nat.reduceAdd, Nat.reduceSub, Nat.reduceMul, Nat.reduceLT, Nat.reduceLeDiff, ↓reduceIte, reduceCtorEq, rsOf, rootsOf, SOp.rd, SI.rd, SX.rd, rdL, rdO, rdP, okParts, eqCells, okEqCells, fillA, okFill, setAt, implies_true, forall_const, forall_eq, ne_eq, exists_eq_right_right, exists_eq_right, exists_eq_left, exists_eq_left', rootL, eAttr, lit_eq, deVp_tup, c16]
  repeat' (first | ((with_reducible refine brC (fun _ => ?_) fun _ => ?_) <;> try (exfalso; omega)) | (with_reducible refine And.intro ?_ ?_; · omega) | simp -dsimp -implicitDefEqProofs (disch := omega) only [↓vcOps_sp 5, ↓vcD_sp 5, VCA, pg_gl, ↓upd_none, Nat.reduceEqDiff, Nat.reduceBEq, Nat.reduceAdd, Nat.reduceSub, Nat.reduceMul, Nat.reduceLT, Nat.reduceLeDiff, ↓reduceIte, reduceCtorEq, rsOf, rootsOf, SOp.rd, SI.rd, SX.rd, rdL, rdO, rdP, okParts, eqCells, okEqCells, fillA, okFill, setAt, implies_true, forall_const, forall_eq, ne_eq, exists_eq_right_right, exists_eq_right, exists_eq_left, exists_eq_left', rootL, eAttr, lit_eq, deVp_tup])
  all_goals first | (refine ⟨Sub.refl _, ?_⟩; (first | (rw [if_pos (by omega)]; (try simp only [IntKind.wrap_u8]); omega) | rw [if_neg (by omega)]); done) | trace_state
def c10 : SFun := ⟨.seq (.reg [⟨some 2, .mv (.c (.int .i64 0)), none⟩]) (.seq (.seq (.reg [⟨some 3, .mv (.t 0), none⟩, ⟨some 4, .bin .eql (.t 3) (.c (.str [115, 99, 114, 105, 112, 116])), none⟩, ⟨some 5, .mv (.t 4), none⟩, ⟨some 6, .mv (.t 0), some (5, false)⟩, ⟨some 7, .bin .eql (.t 6) (.c (.str [115, 116, 121, 108, 101])), some (5, false)⟩, ⟨some 8, .pick (.t 5) (.c (.bool true)) (.t 7), none⟩]) (.cond (.t 8) (.seq (.reg [⟨some 2, .mv (.c (.int .i64 1)), none⟩]) .ret) .skip)) (.seq (.seq (.reg [⟨some 9, .mv (.t 0), none⟩, ⟨some 10, .bin .eql (.t 9) (.c (.str [116, 101, 120, 116, 97, 114, 101, 97])), none⟩, ⟨some 11, .mv (.t 10), none⟩, ⟨some 12, .mv (.t 0), some (11, false)⟩, ⟨some 13, .bin .eql (.t 12) (.c (.str [116, 105, 116, 108, 101])), some (11, false)⟩, ⟨some 14, .pick (.t 11) (.c (.bool true)) (.t 13), none⟩]) (.cond (.t 14) (.seq (.reg [⟨some 2, .mv (.c (.int .i64 2)), none⟩]) .ret) .skip)) (.seq (.reg [⟨some 2, .mv (.c (.int .i64 0)), none⟩]) .ret))), [.tmp 2]⟩
theorem hc10 : toSF Tryd.prog {} Tryd.f10 = some c10 := by kernel_rfl
theorem hn10 : (Tryd.f10.name == "runtime.NumGoroutine") = false := by kernel_rfl
theorem refTokRaw_ok (nm : List UInt8) : PCalls (Pg G) 10 [.str nm] (aInt (rawM nm)) := fun h => by
  unfold rawM
  refine dcalls_of_vc Tryd.func10 hn10 hc10 (by rw [Tryd.ntmps10]; simp) (by rw [Tryd.ntmps10]; decide) ?_
  simp -dsimp -implicitDefEqProofs (disch := omega) only [↓vcOps_sp 5, ↓vcD_sp 5, ↓vcOps_sp 11, ↓vcD_sp 11, VCA, pg_gl, ↓upd_none, Nat.reduceEqDiff, Nat.reduceBEq, Nat.reduceAdd, Nat.reduceSub, Nat.reduceMul, Nat.reduceLT, Nat.reduceLeDiff, ↓reduceIte, reduceCtorEq, rsOf, rootsOf, SOp.rd, SI.rd, SX.rd, rdL, rdO, rdP, okParts, eqCells, okEqCells, fillA, okFill, setAt, implies_true, forall_const, forall_eq, ne_eq, exists_eq_right_right, exists_eq_right, exists_eq_left, exists_eq_left', rootL, eAttr, lit_eq, deVp_tup, c10]
  repeat' (first | ((with_reducible refine brC (fun _ => ?_) fun _ => ?_) <;> try (exfalso; omega)) | (with_reducible refine And.intro ?_ ?_; · omega) | simp -dsimp -implicitDefEqProofs (disch := omega) only [↓vcOps_sp 5, ↓vcD_sp 5, ↓vcOps_sp 11, ↓vcD_sp 11, VCA, pg_gl, ↓upd_none, Nat.reduceEqDiff, Nat.reduceBEq, Nat.reduceAdd, Nat.reduceSub, Nat.reduceMul, Nat.reduceLT, Nat.reduceLeDiff, ↓reduceIte, reduceCtorEq, rsOf, rootsOf, SOp.rd, SI.rd, SX.rd, rdL, rdO, rdP, okParts, eqCells, okEqCells, fillA, okFill, setAt, implies_true, forall_const, forall_eq, ne_eq, exists_eq_right_right, exists_eq_right, exists_eq_left, exists_eq_left', rootL, eAttr, lit_eq, deVp_tup])
  all_goals first | (refine ⟨Sub.refl _, ?_⟩; simp_all; done) | (exact Sub.refl _) | trace_state
def c8 : SFun := ⟨.seq (.reg [⟨some 2, .mv (.c (.str [])), none⟩]) (.seq (.reg [⟨some 3, .mv (.c (.str [])), none⟩]) (.seq (.seq (.reg [⟨some 4, .mv (.c (.int .i64 0)), none⟩]) (.block 0 (.loop (.seq (.seq (.reg [⟨some 6, .mv (.t 4), none⟩, ⟨some 7, .mv (.t 0), none⟩, ⟨some 8, .lenS (.t 7), none⟩, ⟨some 9, .bin .lss (.t 6) (.t 8), none⟩, ⟨some 10, .mv (.t 9), none⟩, ⟨some 11, .mv (.t 4), some (10, true)⟩, ⟨some 12, .bin .lss (.t 11) (.c (.int .i64 40)), some (10, true)⟩, ⟨some 13, .pick (.t 10) (.t 12) (.c (.bool false)), none⟩]) (.cond (.t 13) .skip (.exit 0))) (.seq (.block 1 (.seq (.reg [⟨some 16, .mv (.t 0), none⟩, ⟨some 17, .mv (.t 4), none⟩, ⟨some 18, .idxS (.t 16) (.t 17), none⟩, ⟨some 19, .pcall 16 [.t 18], none⟩, ⟨some 5, .mv (.t 19), none⟩]) (.seq (.reg [⟨some 20, .mv (.t 5), none⟩, ⟨some 21, .bin .geq (.t 20) (.c (.int .u8 97)), none⟩, ⟨some 22, .mv (.t 21), none⟩, ⟨some 23, .mv (.t 5), some (22, true)⟩, ⟨some 24, .bin .leq (.t 23) (.c (.int .u8 122)), some (22, true)⟩, ⟨some 25, .pick (.t 22) (.t 24) (.c (.bool false)), none⟩, ⟨some 26, .mv (.t 25), none⟩, ⟨some 27, .mv (.t 5), some (26, false)⟩, ⟨some 28, .bin .geq (.t 27) (.c (.int .u8 48)), some (26, false)⟩, ⟨some 29, .mv (.t 28), some (26, false)⟩, ⟨some 30, .mv (.t 5), some (29, true)⟩, ⟨some 31, .bin .leq (.t 30) (.c (.int .u8 57)), some (29, true)⟩, ⟨some 32, .pick (.t 29) (.t 31) (.c (.bool false)), some (26, false)⟩, ⟨some 33, .pick (.t 26) (.c (.bool true)) (.t 32), none⟩, ⟨some 34, .mv (.t 33), none⟩, ⟨some 35, .mv (.t 5), some (34, false)⟩, ⟨some 36, .bin .eql (.t 35) (.c (.int .u8 45)), some (34, false)⟩, ⟨some 37, .pick (.t 34) (.c (.bool true)) (.t 36), none⟩, ⟨some 38, .mv (.t 37), none⟩, ⟨some 39, .mv (.t 5), some (38, false)⟩, ⟨some 40, .bin .eql (.t 39) (.c (.int .u8 95)), some (38, false)⟩, ⟨some 41, .pick (.t 38) (.c (.bool true)) (.t 40), none⟩, ⟨some 42, .mv (.t 41), none⟩, ⟨some 43, .mv (.t 5), some (42, false)⟩, ⟨some 44, .bin .eql (.t 43) (.c (.int .u8 58)), some (42, false)⟩, ⟨some 45, .pick (.t 42) (.c (.bool true)) (.t 44), none⟩]) (.cond (.t 45) (.reg [⟨some 46, .mv (.t 3), none⟩, ⟨some 47, .mv (.t 5), none⟩, ⟨some 48, .bldF 5 1 [.t 47], none⟩, ⟨some 49, .b2s (.t 48), none⟩, ⟨some 50, .bin .add (.t 46) (.t 49), none⟩, ⟨some 3, .mv (.t 50), none⟩]) (.reg [⟨some 51, .mv (.t 3), none⟩, ⟨some 52, .bin .add (.t 51) (.c (.str [95])), none⟩, ⟨some 3, .mv (.t 52), none⟩]))))) (.reg [⟨some 14, .mv (.t 4), none⟩, ⟨some 15, .bin .add (.t 14) (.c (.int .i64 1)), none⟩, ⟨some 4, .mv (.t 15), none⟩])))))) (.seq (.reg [⟨some 53, .mv (.t 3), none⟩, ⟨some 2, .mv (.t 53), none⟩]) .ret))), [.tmp 2]⟩
theorem hc8 : toSF Tryd.prog {pure := [16]} Tryd.f8 = some c8 := by kernel_rfl
theorem hn8 : (Tryd.f8.name == "runtime.NumGoroutine") = false := by kernel_rfl
theorem refName_ok (s : List UInt8) (hs : s.length ≤ 1073741824) : PCalls (Pg G) 8 [.str s] (.str (nameM s)) := fun h => by
  refine dcalls_of_vc Tryd.func8 hn8 hc8 (by rw [Tryd.ntmps8]; simp) (by rw [Tryd.ntmps8]; decide) ?_
  simp -dsimp -implicitDefEqProofs (disch := omega) only [↓vcOps_sp 10, ↓vcD_sp 10, ↓vcOps_sp 22, ↓vcD_sp 22, ↓vcOps_sp 26, ↓vcD_sp 26, ↓vcOps_sp 29, ↓vcD_sp 29, ↓vcOps_sp 34, ↓vcD_sp 34, ↓vcOps_sp 38, ↓vcD_sp 38, ↓vcOps_sp 42, ↓vcD_sp 42, VCA, pg_gl, ↓upd_none, Nat.reduceEqDiff, Nat.reduceBEq, Nat.reduceAdd, Nat.reduceSub, Nat.reduceMul, Nat.reduceLT, Nat.reduceLeDiff, ↓reduceIte, reduceCtorEq, rsOf, rootsOf, SOp.rd, SI.rd, SX.rd, rdL, rdO, rdP, okParts, eqCells, okEqCells, fillA, okFill, setAt, implies_true, forall_const, forall_eq, ne_eq, exists_eq_right_right, exists_eq_right, exists_eq_left, exists_eq_left', rootL, eAttr, lit_eq, deVp_tup, c8]
  refine LoopVC.intro (fun m e h' => ∃ j : Nat, j ≤ s.length ∧ j ≤ 40 ∧ m = 40 - j ∧ e 0 = .str s ∧ e 3 = .str ((s.take j).map nmB) ∧ e 4 = aInt j ∧ h' = h) 40
    (by exact ⟨0, by omega, by omega, by omega, rfl, rfl, rfl, rfl⟩) ?_
  rintro m e h' ⟨j, hj, hj4, rfl, e0, e3, e4, hh⟩
  by_cases hlt : j < s.length ∧ j < 40
  · obtain ⟨hl, hl4⟩ := hlt
    obtain ⟨b, hb⟩ : ∃ b, s.getD j 0 = b := ⟨_, rfl⟩
    have cL := refLow_ok (G := G) b
    have ht : (s.take (j + 1)).map nmB = (s.take j).map nmB ++ [nmB b] := by rw [take_snoc hl, List.map_append, show nth s j = b from hb]; rfl
    have hn := lowB_name b
    have hlb := (lowB b).toNat_lt
    generalize lowB b = l at *
    have hc : nameC l = nameC l := rfl
    unfold nameC at hn
    repeat' (first | ((with_reducible refine brC (fun _ => ?_) fun _ => ?_) <;> try (exfalso; omega)) | (with_reducible apply pcallE.of; · exact cL) | (with_reducible refine And.intro ?_ ?_; · omega) | simp -dsimp -implicitDefEqProofs (disch := omega) only [↓vcOps_sp 10, ↓vcD_sp 10, ↓vcOps_sp 22, ↓vcD_sp 22, ↓vcOps_sp 26, ↓vcD_sp 26, ↓vcOps_sp 29, ↓vcD_sp 29, ↓vcOps_sp 34, ↓vcD_sp 34, ↓vcOps_sp 38, ↓vcD_sp 38, ↓vcOps_sp 42, ↓vcD_sp 42, VCA, pg_gl, ↓upd_none, Nat.reduceEqDiff, Nat.reduceBEq, Nat.reduceAdd, Nat.reduceSub, Nat.reduceMul, Nat.reduceLT, Nat.reduceLeDiff, ↓reduceIte, reduceCtorEq, rsOf, rootsOf, SOp.rd, SI.rd, SX.rd, rdL, rdO, rdP, okParts, eqCells, okEqCells, fillA, okFill, setAt, implies_true, forall_const, forall_eq, ne_eq, exists_eq_right_right, exists_eq_right, exists_eq_left, exists_eq_left', rootL, eAttr, lit_eq, deVp_tup, e0, e3, e4, hb])
    all_goals first
      | exact ⟨[l], rfl, by rw [List.length_take]; simp only [List.length_cons, List.length_nil]; omega, _, by omega, j + 1, by omega, by omega, rfl, by rw [ht, hn, if_pos (by simp only [Bool.or_eq_true, Bool.and_eq_true, decide_eq_true_eq, beq_iff_eq]; omega)], by omega, hh⟩
      | exact ⟨by rw [List.length_take]; omega, _, by omega, j + 1, by omega, by omega, rfl, by rw [ht, hn, if_neg (by simp only [Bool.or_eq_true, Bool.and_eq_true, decide_eq_true_eq, beq_iff_eq]; omega)], by omega, hh⟩
      | trace_state
  · have e : (s.take j).map nmB = nameM s := by
      unfold nameM
      by_cases h4 : j = 40
      · rw [h4]
      · have : j = s.length := by omega
        rw [this, List.take_length, List.take_of_length_le (by omega)]
    repeat' (first | ((with_reducible refine brC (fun _ => ?_) fun _ => ?_) <;> try (exfalso; omega)) | (with_reducible refine And.intro ?_ ?_; · omega) | simp -dsimp -implicitDefEqProofs (disch := omega) only [↓vcOps_sp 10, ↓vcD_sp 10, ↓vcOps_sp 22, ↓vcD_sp 22, ↓vcOps_sp 26, ↓vcD_sp 26, ↓vcOps_sp 29, ↓vcD_sp 29, ↓vcOps_sp 34, ↓vcD_sp 34, ↓vcOps_sp 38, ↓vcD_sp 38, ↓vcOps_sp 42, ↓vcD_sp 42, VCA, pg_gl, ↓upd_none, Nat.reduceEqDiff, Nat.reduceBEq, Nat.reduceAdd, Nat.reduceSub, Nat.reduceMul, Nat.reduceLT, Nat.reduceLeDiff, ↓reduceIte, reduceCtorEq, rsOf, rootsOf, SOp.rd, SI.rd, SX.rd, rdL, rdO, rdP, okParts, eqCells, okEqCells, fillA, okFill, setAt, implies_true, forall_const, forall_eq, ne_eq, exists_eq_right_right, exists_eq_right, exists_eq_left, exists_eq_left', rootL, eAttr, lit_eq, deVp_tup, e0, e3, e4, e])
    all_goals first | exact ⟨by rw [hh]; exact Sub.refl _, rfl⟩ | (rw [hh]; exact Sub.refl _) | (exfalso; omega) | trace_state
def bg : List UInt8 := [97, 60, 80, 32, 120, 61, 49, 62, 38, 108, 116, 59, 60, 47, 112, 32, 62]
theorem rd_1 : readD [97] false = [97] := by
  rw [readD_cons (by simp), show tE [97] false = [97] by decide +kernel, show nE [97] false = 1 by decide +kernel]
  show [97] ++ readD [] false = _
  rw [readD_nil]; rfl
theorem rd_2 : readD [49] true = [49] := by
  rw [readD_cons (by simp), show tE [49] true = [49] by decide +kernel, show nE [49] true = 1 by decide +kernel]
  show [49] ++ readD [] true = _
  rw [readD_nil]; rfl
theorem rd_3 : readD [38, 108, 116, 59] false = [60] := by
  rw [readD_cons (by simp), show tE [38, 108, 116, 59] false = [60] by decide +kernel, show nE [38, 108, 116, 59] false = 4 by decide +kernel]
  show [60] ++ readD [] false = _
  rw [readD_nil]; rfl
theorem bg_1 : tkMark bg 1 = some (⟨1, [112], [⟨[120], readD [49] true⟩], [], false, 0, 0⟩, true, 8) := by kernel_rfl
theorem bg_2 : tkMark bg 12 = some (⟨2, [112], [], [], false, 0, 0⟩, true, 17) := by kernel_rfl
theorem bg_all : readM bg = ([⟨3, [], [], readD [97] false, false, 0, 1⟩, ⟨1, [112], [⟨[120], readD [49] true⟩], [], false, 1, 8⟩, ⟨3, [], [], readD [38, 108, 116, 59] false, false, 8, 12⟩, ⟨2, [112], [], [], false, 12, 17⟩], 17) := by kernel_rfl
theorem bg_k : ∀ a, a < 17 → kindM bg a = 0 ∨ a = 1 ∧ kindM bg a = 97 ∨ a = 12 ∧ kindM bg a = 47 := by decide +kernel
theorem bg_D : DeclC G bg := fun h rb a en out hr hk ha hs => by
  rcases bg_k a ha with q | ⟨_, q⟩ | ⟨_, q⟩ <;> omega
theorem bg_R : RawC G bg := fun a q ha hk hq hw => by
  rcases bg_k a ha with h | ⟨rfl, h⟩ | ⟨rfl, h⟩
  · exact absurd h hk
  · rw [bg_1] at hq; cases hq
    exact absurd hw (by decide)
  · rw [bg_2] at hq; cases hq
    exact absurd hw (by decide)
def c6 : SFun := ⟨.seq (.reg [⟨some 0, .mv (.c (.bool false)), none⟩]) (.seq (.reg [⟨some 4, .pcall 15 [.c (.str [97, 60, 80, 32, 120, 61, 49, 62, 38, 108, 116, 59, 60, 47, 112, 32, 62])], none⟩, ⟨some 3, .mv (.t 4), none⟩, ⟨some 5, .ext (.t 3) 0, none⟩, ⟨some 6, .ext (.t 3) 1, none⟩, ⟨some 1, .mv (.t 5), none⟩, ⟨some 2, .mv (.t 6), none⟩]) (.seq (.reg [⟨some 7, .mv (.t 2), none⟩, ⟨some 8, .bin .eql (.t 7) (.c (.int .i64 0)), none⟩, ⟨some 9, .mv (.t 8), none⟩, ⟨some 10, .mv (.t 1), some (9, true)⟩, ⟨some 11, .len (.t 10), some (9, true)⟩, ⟨some 12, .bin .eql (.t 11) (.c (.int .i64 4)), some (9, true)⟩, ⟨some 13, .pick (.t 9) (.t 12) (.c (.bool false)), none⟩, ⟨some 14, .mv (.t 13), none⟩, ⟨some 15, .mv (.t 1), some (14, true)⟩, ⟨some 16, .idxA 7 (.t 15) (.c (.int .i64 1)), some (14, true)⟩, ⟨some 17, .fldA 1 (.t 16), some (14, true)⟩, ⟨some 18, .ld 1 false (.t 17), some (14, true)⟩, ⟨some 19, .bin .eql (.t 18) (.c (.str [112])), some (14, true)⟩, ⟨some 20, .pick (.t 14) (.t 19) (.c (.bool false)), none⟩, ⟨some 21, .mv (.t 20), none⟩, ⟨some 22, .mv (.t 1), some (21, true)⟩, ⟨some 23, .idxA 7 (.t 22) (.c (.int .i64 1)), some (21, true)⟩, ⟨some 24, .fldA 2 (.t 23), some (21, true)⟩, ⟨some 25, .ld 1 false (.t 24), some (21, true)⟩, ⟨some 26, .len (.t 25), some (21, true)⟩, ⟨some 27, .bin .eql (.t 26) (.c (.int .i64 1)), some (21, true)⟩, ⟨some 28, .pick (.t 21) (.t 27) (.c (.bool false)), none⟩, ⟨some 29, .mv (.t 28), none⟩, ⟨some 30, .mv (.t 1), some (29, true)⟩, ⟨some 31, .idxA 7 (.t 30) (.c (.int .i64 1)), some (29, true)⟩, ⟨some 32, .fldA 2 (.t 31), some (29, true)⟩, ⟨some 33, .ld 1 false (.t 32), some (29, true)⟩, ⟨some 34, .idxA 2 (.t 33) (.c (.int .i64 0)), some (29, true)⟩, ⟨some 35, .fldA 1 (.t 34), some (29, true)⟩, ⟨some 36, .ld 1 false (.t 35), some (29, true)⟩, ⟨some 37, .bin .eql (.t 36) (.c (.str [49])), some (29, true)⟩, ⟨some 38, .pick (.t 29) (.t 37) (.c (.bool false)), none⟩, ⟨some 39, .mv (.t 38), none⟩, ⟨some 40, .mv (.t 1), some (39, true)⟩, ⟨some 41, .idxA 7 (.t 40) (.c (.int .i64 2)), some (39, true)⟩, ⟨some 42, .fldA 3 (.t 41), some (39, true)⟩, ⟨some 43, .ld 1 false (.t 42), some (39, true)⟩, ⟨some 44, .bin .eql (.t 43) (.c (.str [60])), some (39, true)⟩, ⟨some 45, .pick (.t 39) (.t 44) (.c (.bool false)), none⟩, ⟨some 46, .mv (.t 45), none⟩, ⟨some 47, .mv (.t 1), some (46, true)⟩, ⟨some 48, .idxA 7 (.t 47) (.c (.int .i64 3)), some (46, true)⟩, ⟨some 49, .fldA 0 (.t 48), some (46, true)⟩, ⟨some 50, .ld 1 false (.t 49), some (46, true)⟩, ⟨some 51, .bin .eql (.t 50) (.c (.int .i64 2)), some (46, true)⟩, ⟨some 52, .pick (.t 46) (.t 51) (.c (.bool false)), none⟩, ⟨some 53, .mv (.t 52), none⟩, ⟨some 54, .mv (.t 1), some (53, true)⟩, ⟨some 55, .idxA 7 (.t 54) (.c (.int .i64 3)), some (53, true)⟩, ⟨some 56, .fldA 6 (.t 55), some (53, true)⟩, ⟨some 57, .ld 1 false (.t 56), some (53, true)⟩, ⟨some 58, .bin .eql (.t 57) (.c (.int .i64 17)), some (53, true)⟩, ⟨some 59, .pick (.t 53) (.t 58) (.c (.bool false)), none⟩, ⟨some 0, .mv (.t 59), none⟩]) .ret)), [.tmp 0]⟩
theorem hc6 : toSF Tryd.prog {pure := [15]} Tryd.f6 = some c6 := by kernel_rfl
theorem hn6 : (Tryd.f6.name == "runtime.NumGoroutine") = false := by kernel_rfl
theorem tokenBegun_ok (hG : MaxLenOK G) : PCalls (Pg G) 6 [] (.bool true) := fun h => by
  have cR := tokReadAll_ok (G := G) hG (s := bg) (by decide) bg_D bg_R
  rw [bg_all, rd_1, rd_2, rd_3] at cR
  unfold bg sl at cR
  simp only [List.map_cons, List.map_nil, eTok, eAttr, sl] at cR
  obtain ⟨A, hA⟩ : ∃ A, [[AVal.str [120], AVal.str [49]]] = A := ⟨_, rfl⟩
  rw [hA] at cR
  obtain ⟨T, hT⟩ : ∃ T, [[aInt 3, .str [], .slc [], .str [97], .bool false, aInt 0, aInt 1], [aInt 1, .str [112], .slc A, .str [], .bool false, aInt 1, aInt 8], [aInt 3, .str [], .slc [], .str [60], .bool false, aInt 8, aInt 12], [aInt 2, .str [112], .slc [], .str [], .bool false, aInt 12, aInt 17]] = T := ⟨_, rfl⟩
  have cR : PCalls (Pg G) 15 [.str [97, 60, 80, 32, 120, 61, 49, 62, 38, 108, 116, 59, 60, 47, 112, 32, 62]] (.tup [.slc T, aInt 0]) := by rw [← hT]; exact cR
  have l4 : T.length = 4 := by rw [← hT]; rfl
  have g1 : T.getD 1 [] = [.int .i64 1, .str [112], .slc A, .str [], .bool false, .int .i64 1, .int .i64 8] := by rw [← hT]; rfl
  have g2 : T.getD 2 [] = [.int .i64 3, .str [], .slc [], .str [60], .bool false, .int .i64 8, .int .i64 12] := by rw [← hT]; rfl
  have g3 : T.getD 3 [] = [.int .i64 2, .str [112], .slc [], .str [], .bool false, .int .i64 12, .int .i64 17] := by rw [← hT]; rfl
  have lA : A.length = 1 := by rw [← hA]; rfl
  have gA : A.getD 0 [] = [.str [120], .str [49]] := by rw [← hA]; rfl
  have k1 : Int.toNat 1 = 1 := rfl
  have k2 : Int.toNat 2 = 2 := rfl
  have k3 : Int.toNat 3 = 3 := rfl
  have k0 : Int.toNat 0 = 0 := rfl
  clear hT hA
  refine dcalls_of_vc Tryd.func6 hn6 hc6 (by rw [Tryd.ntmps6]; simp) (by rw [Tryd.ntmps6]; decide) ?_
  simp -dsimp -implicitDefEqProofs (disch := omega) only [↓vcOps_sp 9, ↓vcD_sp 9, ↓vcOps_sp 14, ↓vcD_sp 14, ↓vcOps_sp 21, ↓vcD_sp 21, ↓vcOps_sp 29, ↓vcD_sp 29, ↓vcOps_sp 39, ↓vcD_sp 39, ↓vcOps_sp 46, ↓vcD_sp 46, ↓vcOps_sp 53, ↓vcD_sp 53, VCA, pg_gl, ↓upd_none, Nat.reduceEqDiff, Nat.reduceBEq, Nat.reduceAdd, Nat.reduceSub, Nat.reduceMul, Nat.reduceLT, Nat.reduceLeDiff, ↓reduceIte, reduceCtorEq, rsOf, rootsOf, SOp.rd, SI.rd, SX.rd, rdL, rdO, rdP, okParts, eqCells, okEqCells, fillA, okFill, setAt, implies_true, forall_const, forall_eq, ne_eq, exists_eq_right_right, exists_eq_right, exists_eq_left, exists_eq_left', rootL, eAttr, lit_eq, deVp_tup, c6]
  repeat' (first | ((with_reducible refine brC (fun _ => ?_) fun _ => ?_) <;> try (exfalso; omega)) | (with_reducible apply pcallE.of; · exact cR) | (with_reducible refine And.intro ?_ ?_; · omega) | simp -dsimp -implicitDefEqProofs (disch := omega) only [↓vcOps_sp 9, ↓vcD_sp 9, ↓vcOps_sp 14, ↓vcD_sp 14, ↓vcOps_sp 21, ↓vcD_sp 21, ↓vcOps_sp 29, ↓vcD_sp 29, ↓vcOps_sp 39, ↓vcD_sp 39, ↓vcOps_sp 46, ↓vcD_sp 46, ↓vcOps_sp 53, ↓vcD_sp 53, VCA, pg_gl, ↓upd_none, Nat.reduceEqDiff, Nat.reduceBEq, Nat.reduceAdd, Nat.reduceSub, Nat.reduceMul, Nat.reduceLT, Nat.reduceLeDiff, ↓reduceIte, reduceCtorEq, rsOf, rootsOf, SOp.rd, SI.rd, SX.rd, rdL, rdO, rdP, okParts, eqCells, okEqCells, fillA, okFill, setAt, implies_true, forall_const, forall_eq, ne_eq, exists_eq_right_right, exists_eq_right, exists_eq_left, exists_eq_left', rootL, eAttr, lit_eq, deVp_tup, l4, g1, g2, g3, lA, gA, k0, k1, k2, k3])
  all_goals first | exact ⟨Sub.refl _, rfl⟩ | exact Sub.refl _ | exact absurd rfl (by assumption) | trace_state
def c3 : SFun := ⟨.seq (.reg [⟨some 2, .mv (.c (.bool false)), none⟩]) (.seq (.reg [⟨some 3, .mv (.t 0), none⟩, ⟨some 4, .pcall 5 [.t 3, .c (.int .i64 100)], none⟩, ⟨some 0, .mv (.t 4), none⟩]) (.seq (.reg [⟨some 5, .pcall 6 [], none⟩, ⟨some 6, .mv (.t 5), none⟩, ⟨some 7, .mv (.t 0), some (6, true)⟩, ⟨some 8, .pcall 7 [.t 7], some (6, true)⟩, ⟨some 9, .mv (.t 0), some (6, true)⟩, ⟨some 10, .pcall 8 [.t 9], some (6, true)⟩, ⟨some 11, .bin .eql (.t 8) (.t 10), some (6, true)⟩, ⟨some 12, .pick (.t 6) (.t 11) (.c (.bool false)), none⟩, ⟨some 13, .mv (.t 12), none⟩, ⟨some 14, .mv (.t 0), some (13, true)⟩, ⟨some 15, .pcall 9 [.t 14], some (13, true)⟩, ⟨some 16, .mv (.t 0), some (13, true)⟩, ⟨some 17, .pcall 10 [.t 16], some (13, true)⟩, ⟨some 18, .bin .eql (.t 15) (.t 17), some (13, true)⟩, ⟨some 19, .pick (.t 13) (.t 18) (.c (.bool false)), none⟩, ⟨some 2, .mv (.t 19), none⟩]) .ret)), [.tmp 2]⟩
theorem hc3 : toSF Tryd.prog {pure := [5, 6, 7, 9, 8, 10]} Tryd.f3 = some c3 := by kernel_rfl
theorem hn3 : (Tryd.f3.name == "runtime.NumGoroutine") = false := by kernel_rfl
theorem tokenNames_ok (hG : MaxLenOK G) (s : List UInt8) (hs : s.length ≤ 1073741824) : PCalls (Pg G) 3 [.str s] (.bool true) := fun h => by
  have hl : (s.take 100).length ≤ 1073741824 := by rw [List.length_take]; omega
  have h0 : PCalls (Pg G) 5 [.str s, .int .i64 100] (.str (s.take 100)) := some_ok s 100 hs
  have h1 := tokenBegun_ok (G := G) hG
  have h2 := tokName_ok (G := G) _ hl
  have h3 := refName_ok (G := G) _ hl
  have h4 := tokRaw_ok (G := G) (s.take 100)
  have h5 := refTokRaw_ok (G := G) (s.take 100)
  refine dcalls_of_vc Tryd.func3 hn3 hc3 (by rw [Tryd.ntmps3]; simp) (by rw [Tryd.ntmps3]; decide) ?_
  simp -dsimp -implicitDefEqProofs (disch := omega) only [↓vcOps_sp 6, ↓vcD_sp 6, ↓vcOps_sp 13, ↓vcD_sp 13, VCA, pg_gl, ↓upd_none, Nat.reduceEqDiff, Nat.reduceBEq, Nat.reduceAdd, Nat.reduceSub, Nat.reduceMul, Nat.reduceLT, Nat.reduceLeDiff, ↓reduceIte, reduceCtorEq, rsOf, rootsOf, SOp.rd, SI.rd, SX.rd, rdL, rdO, rdP, okParts, eqCells, okEqCells, fillA, okFill, setAt, implies_true, forall_const, forall_eq, ne_eq, exists_eq_right_right, exists_eq_right, exists_eq_left, exists_eq_left', rootL, eAttr, lit_eq, deVp_tup, c3]
  repeat' (first | ((with_reducible refine brC (fun _ => ?_) fun _ => ?_) <;> try (exfalso; omega)) | (with_reducible apply pcallE.of; · exact h0) | (with_reducible apply pcallE.of; · exact h1) | (with_reducible apply pcallE.of; · exact h2) | (with_reducible apply pcallE.of; · exact h3) | (with_reducible apply pcallE.of; · exact h4) | (with_reducible apply pcallE.of; · exact h5) | (with_reducible refine And.intro ?_ ?_; · omega) | simp -dsimp -implicitDefEqProofs (disch := omega) only [↓vcOps_sp 6, ↓vcD_sp 6, ↓vcOps_sp 13, ↓vcD_sp 13, VCA, pg_gl, ↓upd_none, Nat.reduceEqDiff, Nat.reduceBEq, Nat.reduceAdd, Nat.reduceSub, Nat.reduceMul, Nat.reduceLT, Nat.reduceLeDiff, ↓reduceIte, reduceCtorEq, rsOf, rootsOf, SOp.rd, SI.rd, SX.rd, rdL, rdO, rdP, okParts, eqCells, okEqCells, fillA, okFill, setAt, implies_true, forall_const, forall_eq, ne_eq, exists_eq_right_right, exists_eq_right, exists_eq_left, exists_eq_left', rootL, eAttr, lit_eq, deVp_tup])
  all_goals first | exact ⟨Sub.refl _, by simp⟩ | exact absurd rfl (by assumption) | trace_state
end Go.Proofs.K
end
