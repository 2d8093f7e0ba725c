/- Documents: names, attributes, one node. -/
import Derived.Test.YtmfechcelhchcaaDoorDom1
import Derived.Test.YtmfechcelhchcaaDoorTab
import Derived.Test.YtmfechcelhchcaaDoorShelf
import Derived.Shelf.Strings.SlTrimAscii
import Derived.Lib.IndexAny
set_option linter.unusedSimpArgs false
set_option linter.unusedVariables false
namespace Go.Proofs.K
open Go Go.Sim Go.Proofs
variable {G : Glob}

/-! ## names -/
theorem indexByte_ok (s : List UInt8) (c : UInt8) : PCalls (Pg G) 154 [.str s, .int .u8 c.toNat] (aInt (Lib.indexByte s c)) := by
  refine PCalls.ofRun ⟨_, Tryd.func154, by kernel_rfl, by kernel_rfl⟩ fun g w vs GR V => ?_
  obtain ⟨u, v, rfl, hu, hv⟩ := V.two_inv
  rw [hu.str_inv', hv.int_inv]
  have := Tryd.strings_IndexByte ⟨⟨s⟩⟩ (c.toNat : Int) w
  refine this.mono fun e w' ⟨he, hw⟩ => ⟨_, he, hw, ?_⟩
  have e : ((c.toNat : Int)).toNat.toUInt8 = c := by simp
  rw [e]
  exact .int _ _
def signsL : List UInt8 := [97, 98, 99, 100, 101, 102, 103, 104, 105, 106, 107, 108, 109, 110, 111, 112, 113, 114, 115, 116, 117, 118, 119, 120, 121, 122, 48, 49, 50, 51, 52, 53, 54, 55, 56, 57, 45, 95, 58]
theorem trim_ok (s cs : List UInt8) (hs : s.length ≤ 1073741824) (hc : cs.length ≤ 1000) (ha : cs.all (fun b => decide (b.toNat < 128)) = true) : PCalls (Pg G) 177 [.str s, .str cs] (.str (Lib.trimS s cs)) := by
  refine ofBelow ⟨_, Tryd.func177, by kernel_rfl, by kernel_rfl⟩ fun g w vs GR V => ?_
  obtain ⟨u, v, rfl, hu, hv⟩ := V.two_inv
  rw [hu.str_inv', hv.str_inv']
  exact (Any.strings_Trim_laid Tryd.lays160 (by kernel_rfl) ⟨⟨s⟩⟩ ⟨⟨cs⟩⟩ w (by show s.length ≤ _; omega) (by show cs.length < _; omega) (ascii_of_all ha)).mono fun e w' ⟨he, hw⟩ => ⟨_, he, hw, fun g w => VRel.str_mk g w _⟩
theorem dropWhile_all {α : Type} (p : α → Bool) (l : List α) : l.dropWhile p = [] ↔ l.all p = true := by
  induction l with
  | nil => simp
  | cons x r ih =>
    rw [List.dropWhile_cons]
    split
    · rename_i h; rw [ih]; simp [h]
    · rename_i h; simp [h]
theorem trim_all (s cs : List UInt8) : Lib.trimS s cs = [] ↔ s.all (cs.contains ·) = true := by
  unfold Lib.trimS Lib.trimLeftS Lib.trimRightS
  rw [dropWhile_all, List.all_reverse]
  have hr : s.all (cs.contains ·) = s.reverse.all (cs.contains ·) := by rw [List.all_reverse]
  rw [hr, ← dropWhile_all]
  generalize s.reverse = l
  refine Iff.trans ?_ (dropWhile_all (cs.contains ·) l)
  constructor
  · intro h
    cases hd : l.dropWhile (cs.contains ·) with
    | nil => rfl
    | cons x r =>
      have h2 := List.head_dropWhile_not (cs.contains ·) (l := l) (by rw [hd]; simp)
      simp only [hd, List.head_cons] at h2
      rw [hd, List.dropWhile_cons] at h
      split at h
      · rename_i h3; rw [h2] at h3; cases h3
      · cases h
  · intro h; rw [h]; rfl
def namedM (s first : List UInt8) : Bool := decide (s ≠ []) && (decide (s.length ≤ 40) && (first.contains (s.getD 0 0) && s.all (signsL.contains ·)))
def k159_1 : List UInt8 := [97, 98, 99, 100, 101, 102, 103, 104, 105, 106, 107, 108, 109, 110, 111, 112, 113, 114, 115, 116, 117, 118, 119, 120, 121, 122, 48, 49, 50, 51, 52, 53, 54, 55, 56, 57, 45, 95, 58]
def c159 : SFun := ⟨(.seq (.reg [⟨(some 4), (.mv (.c (.bool false))), none⟩]) (.seq (.reg [⟨(some 5), (.mv (.t 0)), none⟩, ⟨(some 6), (.bin .neq (.t 5) (.c (.str []))), none⟩, ⟨(some 7), (.mv (.t 6)), none⟩, ⟨(some 8), (.mv (.t 0)), (some (7, true))⟩, ⟨(some 9), (.lenS (.t 8)), (some (7, true))⟩, ⟨(some 10), (.bin .leq (.t 9) (.c (.int .i64 (40)))), (some (7, true))⟩, ⟨(some 11), (.pick (.t 7) (.t 10) (.c (.bool false))), none⟩, ⟨(some 12), (.mv (.t 11)), none⟩, ⟨(some 13), (.mv (.t 1)), (some (12, true))⟩, ⟨(some 14), (.mv (.t 0)), (some (12, true))⟩, ⟨(some 15), (.idxS (.t 14) (.c (.int .i64 (0)))), (some (12, true))⟩, ⟨(some 16), (.call (.c (.fn 154 [] [])) [(.t 13), (.t 15)]), (some (12, true))⟩, ⟨(some 17), (.bin .geq (.t 16) (.c (.int .i64 (0)))), (some (12, true))⟩, ⟨(some 18), (.pick (.t 12) (.t 17) (.c (.bool false))), none⟩, ⟨(some 19), (.mv (.t 18)), none⟩, ⟨(some 20), (.mv (.t 0)), (some (19, true))⟩, ⟨(some 21), (.call (.c (.fn 177 [] [])) [(.t 20), (.c (.str k159_1))]), (some (19, true))⟩, ⟨(some 22), (.bin .eql (.t 21) (.c (.str []))), (some (19, true))⟩, ⟨(some 23), (.pick (.t 19) (.t 22) (.c (.bool false))), none⟩, ⟨(some 4), (.mv (.t 23)), none⟩]) .ret)), [(.tmp 4)]⟩
theorem hc159 : toSF Tryd.prog {} Tryd.f159 = some c159 := by kernel_rfl
theorem hn159 : (Tryd.f159.name == "runtime.NumGoroutine") = false := by kernel_rfl
theorem named_ok (s first : List UInt8) (hs : s.length ≤ 1073741824) : PCalls (Pg G) 159 [.str s, .str first] (.bool (namedM s first)) := fun h => by
  have hI := indexByte_ok (G := G) first (s.getD 0 0)
  have hC := Lib.contains_iff_indexByte first (s.getD 0 0)
  have hT := trim_ok (G := G) s signsL hs (by decide) (by decide)
  have hA := trim_all s signsL
  have hp : ∀ {a : Bool}, (∀ r h', r = AVal.bool a ∧ h' = h → Sim.Sub h' h ∧ r = AVal.bool a) := fun r h' ⟨h1, h2⟩ => by subst h2; exact ⟨Sub.refl _, h1⟩
  unfold namedM
  refine dcalls_of_vc Tryd.func159 hn159 hc159 (by rw [Tryd.ntmps159]; simp) (by rw [Tryd.ntmps159]; decide) ?_
  by_cases h1 : s = []
  · subst h1
    have f1 : (([] : List UInt8) != []) = false := rfl
    simp -dsimp -implicitDefEqProofs (disch := omega) only [↓vcOps_sp 7, ↓vcD_sp 7, ↓vcOps_sp 12, ↓vcD_sp 12, ↓vcOps_sp 19, ↓vcD_sp 19, VCA, pg_gl, ↓upd_none, Nat.reduceEqDiff, Nat.reduceBEq, Nat.reduceAdd, Nat.reduceSub, Nat.reduceMul, Nat.reduceLT, Nat.reduceLeDiff, ↓reduceIte, reduceCtorEq, rsOf, rootsOf, SOp.rd, SI.rd, SX.rd, rdL, rdO, rdP, okParts, eqCells, okEqCells, fillA, okFill, setAt, implies_true, forall_const, forall_eq, ne_eq, exists_eq_right_right, exists_eq_right, exists_eq_left, exists_eq_left', eAttr, eInt, eNode, eDoc, c159, f1]
    exact ⟨Sub.refl _, by simp⟩
  · have f1 : (s != []) = true := by simpa using h1
    have hl := List.length_pos_iff.2 h1
    by_cases h2 : s.length ≤ 40
    · have f2 : decide ((s.length : Int) ≤ 40) = true := by rw [decide_eq_true_iff]; omega
      simp -dsimp -implicitDefEqProofs (disch := omega) only [↓vcOps_sp 7, ↓vcD_sp 7, ↓vcOps_sp 12, ↓vcD_sp 12, ↓vcOps_sp 19, ↓vcD_sp 19, VCA, pg_gl, ↓upd_none, Nat.reduceEqDiff, Nat.reduceBEq, Nat.reduceAdd, Nat.reduceSub, Nat.reduceMul, Nat.reduceLT, Nat.reduceLeDiff, ↓reduceIte, reduceCtorEq, rsOf, rootsOf, SOp.rd, SI.rd, SX.rd, rdL, rdO, rdP, okParts, eqCells, okEqCells, fillA, okFill, setAt, implies_true, forall_const, forall_eq, ne_eq, exists_eq_right_right, exists_eq_right, exists_eq_left, exists_eq_left', eAttr, eInt, eNode, eDoc, c159, f1, f2]
      refine ⟨by omega, ?_⟩
      refine PCalls.of hI ?_
      cases h3 : first.contains (s.getD 0 0)
      · have f3 : decide ((0 : Int) ≤ Lib.indexByte first (s.getD 0 0)) = false := by rw [← hC]; exact h3
        simp -dsimp -implicitDefEqProofs (disch := omega) only [↓vcOps_sp 7, ↓vcD_sp 7, ↓vcOps_sp 12, ↓vcD_sp 12, ↓vcOps_sp 19, ↓vcD_sp 19, VCA, pg_gl, ↓upd_none, Nat.reduceEqDiff, Nat.reduceBEq, Nat.reduceAdd, Nat.reduceSub, Nat.reduceMul, Nat.reduceLT, Nat.reduceLeDiff, ↓reduceIte, reduceCtorEq, rsOf, rootsOf, SOp.rd, SI.rd, SX.rd, rdL, rdO, rdP, okParts, eqCells, okEqCells, fillA, okFill, setAt, implies_true, forall_const, forall_eq, ne_eq, exists_eq_right_right, exists_eq_right, exists_eq_left, exists_eq_left', eAttr, eInt, eNode, eDoc, f3]
        exact ⟨Sub.refl _, by simp⟩
      · have f3 : decide ((0 : Int) ≤ Lib.indexByte first (s.getD 0 0)) = true := by rw [← hC]; exact h3
        simp -dsimp -implicitDefEqProofs (disch := omega) only [↓vcOps_sp 7, ↓vcD_sp 7, ↓vcOps_sp 12, ↓vcD_sp 12, ↓vcOps_sp 19, ↓vcD_sp 19, VCA, pg_gl, ↓upd_none, Nat.reduceEqDiff, Nat.reduceBEq, Nat.reduceAdd, Nat.reduceSub, Nat.reduceMul, Nat.reduceLT, Nat.reduceLeDiff, ↓reduceIte, reduceCtorEq, rsOf, rootsOf, SOp.rd, SI.rd, SX.rd, rdL, rdO, rdP, okParts, eqCells, okEqCells, fillA, okFill, setAt, implies_true, forall_const, forall_eq, ne_eq, exists_eq_right_right, exists_eq_right, exists_eq_left, exists_eq_left', eAttr, eInt, eNode, eDoc, f3]
        refine PCalls.of hT ?_
        simp -dsimp -implicitDefEqProofs (disch := omega) only [↓vcOps_sp 7, ↓vcD_sp 7, ↓vcOps_sp 12, ↓vcD_sp 12, ↓vcOps_sp 19, ↓vcD_sp 19, VCA, pg_gl, ↓upd_none, Nat.reduceEqDiff, Nat.reduceBEq, Nat.reduceAdd, Nat.reduceSub, Nat.reduceMul, Nat.reduceLT, Nat.reduceLeDiff, ↓reduceIte, reduceCtorEq, rsOf, rootsOf, SOp.rd, SI.rd, SX.rd, rdL, rdO, rdP, okParts, eqCells, okEqCells, fillA, okFill, setAt, implies_true, forall_const, forall_eq, ne_eq, exists_eq_right_right, exists_eq_right, exists_eq_left, exists_eq_left', eAttr, eInt, eNode, eDoc]
        refine ⟨Sub.refl _, ?_⟩
        rw [decide_eq_true h1, decide_eq_true h2]
        simp only [Bool.true_and]
        rw [Bool.eq_iff_iff, beq_iff_eq, hA]
    · have f2 : decide ((s.length : Int) ≤ 40) = false := by rw [decide_eq_false_iff_not]; omega
      simp -dsimp -implicitDefEqProofs (disch := omega) only [↓vcOps_sp 7, ↓vcD_sp 7, ↓vcOps_sp 12, ↓vcD_sp 12, ↓vcOps_sp 19, ↓vcD_sp 19, VCA, pg_gl, ↓upd_none, Nat.reduceEqDiff, Nat.reduceBEq, Nat.reduceAdd, Nat.reduceSub, Nat.reduceMul, Nat.reduceLT, Nat.reduceLeDiff, ↓reduceIte, reduceCtorEq, rsOf, rootsOf, SOp.rd, SI.rd, SX.rd, rdL, rdO, rdP, okParts, eqCells, okEqCells, fillA, okFill, setAt, implies_true, forall_const, forall_eq, ne_eq, exists_eq_right_right, exists_eq_right, exists_eq_left, exists_eq_left', eAttr, eInt, eNode, eDoc, c159, f1, f2]
      exact ⟨Sub.refl _, by simp [h2]⟩
theorem sign_all (b : UInt8) : signsL.contains b = signB b := by
  have := u8_all (p := fun b => signsL.contains b == signB b) (by decide +kernel) b
  simpa using this
theorem first_all (el : Bool) (b : UInt8) : (if el = true then signsL.take 26 else signsL.take 26 ++ [45, 95]).contains b = firstB el b := by
  cases el
  · have := u8_all (p := fun b => (signsL.take 26 ++ [45, 95]).contains b == firstB false b) (by decide +kernel) b
    simpa using this
  · have := u8_all (p := fun b => (signsL.take 26).contains b == firstB true b) (by decide +kernel) b
    simpa using this
theorem namedM_eq (s : List UInt8) (el : Bool) : namedM s (if el = true then signsL.take 26 else signsL.take 26 ++ [45, 95]) = nameOK el s := by
  unfold namedM nameOK
  rw [first_all]
  have e1 : s.all (signsL.contains ·) = s.all signB := by congr 1; funext b; exact sign_all b
  rw [e1]
  have e2 : decide (s ≠ []) = decide (1 ≤ s.length) := by
    rw [Bool.eq_iff_iff, decide_eq_true_iff, decide_eq_true_iff, ← List.length_pos_iff]; exact Iff.rfl
  rw [e2]
def k136_1 : List UInt8 := [97, 98, 99, 100, 101, 102, 103, 104, 105, 106, 107, 108, 109, 110, 111, 112, 113, 114, 115, 116, 117, 118, 119, 120, 121, 122, 48, 49, 50, 51, 52, 53, 54, 55, 56, 57, 45, 95, 58]
def c136 : SFun := ⟨(.seq (.reg [⟨(some 2), (.mv (.c (.bool false))), none⟩]) (.seq (.reg [⟨(some 3), (.mv (.t 0)), none⟩, ⟨(some 4), (.slS (.c (.str k136_1)) none (some (.c (.int .i64 (26))))), none⟩, ⟨(some 5), (.call (.c (.fn 159 [] [])) [(.t 3), (.t 4)]), none⟩, ⟨(some 2), (.mv (.t 5)), none⟩]) .ret)), [(.tmp 2)]⟩
theorem hc136 : toSF Tryd.prog {} Tryd.f136 = some c136 := by kernel_rfl
theorem hn136 : (Tryd.f136.name == "runtime.NumGoroutine") = false := by kernel_rfl
theorem name_ok (s : List UInt8) (hs : s.length ≤ 1073741824) : PCalls (Pg G) 136 [.str s] (.bool (nameOK true s)) := fun h => by
  refine dcalls_of_vc Tryd.func136 hn136 hc136 (by rw [Tryd.ntmps136]; simp) (by rw [Tryd.ntmps136]; decide) ?_
  simp -dsimp -implicitDefEqProofs (disch := omega) only [VCA, pg_gl, ↓upd_none, Nat.reduceEqDiff, Nat.reduceBEq, Nat.reduceAdd, Nat.reduceSub, Nat.reduceMul, Nat.reduceLT, Nat.reduceLeDiff, ↓reduceIte, reduceCtorEq, rsOf, rootsOf, SOp.rd, SI.rd, SX.rd, rdL, rdO, rdP, okParts, eqCells, okEqCells, fillA, okFill, setAt, implies_true, forall_const, forall_eq, ne_eq, exists_eq_right_right, exists_eq_right, exists_eq_left, exists_eq_left', eAttr, eInt, eNode, eDoc, c136]
  refine ⟨by decide, PCalls.of (named_ok s _ hs) ?_⟩
  simp -dsimp -implicitDefEqProofs (disch := omega) only [VCA, pg_gl, ↓upd_none, Nat.reduceEqDiff, Nat.reduceBEq, Nat.reduceAdd, Nat.reduceSub, Nat.reduceMul, Nat.reduceLT, Nat.reduceLeDiff, ↓reduceIte, reduceCtorEq, rsOf, rootsOf, SOp.rd, SI.rd, SX.rd, rdL, rdO, rdP, okParts, eqCells, okEqCells, fillA, okFill, setAt, implies_true, forall_const, forall_eq, ne_eq, exists_eq_right_right, exists_eq_right, exists_eq_left, exists_eq_left', eAttr, eInt, eNode, eDoc]
  exact ⟨Sub.refl _, by rw [← namedM_eq]; rfl⟩
def k160_1 : List UInt8 := [97, 98, 99, 100, 101, 102, 103, 104, 105, 106, 107, 108, 109, 110, 111, 112, 113, 114, 115, 116, 117, 118, 119, 120, 121, 122, 48, 49, 50, 51, 52, 53, 54, 55, 56, 57, 45, 95, 58]
def c160 : SFun := ⟨(.seq (.reg [⟨(some 2), (.mv (.c (.bool false))), none⟩]) (.seq (.reg [⟨(some 3), (.mv (.t 0)), none⟩, ⟨(some 4), (.slS (.c (.str k160_1)) none (some (.c (.int .i64 (26))))), none⟩, ⟨(some 5), (.bin .add (.t 4) (.c (.str [45, 95]))), none⟩, ⟨(some 6), (.call (.c (.fn 159 [] [])) [(.t 3), (.t 5)]), none⟩, ⟨(some 2), (.mv (.t 6)), none⟩]) .ret)), [(.tmp 2)]⟩
theorem hc160 : toSF Tryd.prog {} Tryd.f160 = some c160 := by kernel_rfl
theorem hn160 : (Tryd.f160.name == "runtime.NumGoroutine") = false := by kernel_rfl
theorem attrName_ok (s : List UInt8) (hs : s.length ≤ 1073741824) : PCalls (Pg G) 160 [.str s] (.bool (nameOK false s)) := fun h => by
  refine dcalls_of_vc Tryd.func160 hn160 hc160 (by rw [Tryd.ntmps160]; simp) (by rw [Tryd.ntmps160]; decide) ?_
  simp -dsimp -implicitDefEqProofs (disch := omega) only [VCA, pg_gl, ↓upd_none, Nat.reduceEqDiff, Nat.reduceBEq, Nat.reduceAdd, Nat.reduceSub, Nat.reduceMul, Nat.reduceLT, Nat.reduceLeDiff, ↓reduceIte, reduceCtorEq, rsOf, rootsOf, SOp.rd, SI.rd, SX.rd, rdL, rdO, rdP, okParts, eqCells, okEqCells, fillA, okFill, setAt, implies_true, forall_const, forall_eq, ne_eq, exists_eq_right_right, exists_eq_right, exists_eq_left, exists_eq_left', eAttr, eInt, eNode, eDoc, c160]
  refine ⟨by decide, by decide, PCalls.of (named_ok s _ hs) ?_⟩
  simp -dsimp -implicitDefEqProofs (disch := omega) only [VCA, pg_gl, ↓upd_none, Nat.reduceEqDiff, Nat.reduceBEq, Nat.reduceAdd, Nat.reduceSub, Nat.reduceMul, Nat.reduceLT, Nat.reduceLeDiff, ↓reduceIte, reduceCtorEq, rsOf, rootsOf, SOp.rd, SI.rd, SX.rd, rdL, rdO, rdP, okParts, eqCells, okEqCells, fillA, okFill, setAt, implies_true, forall_const, forall_eq, ne_eq, exists_eq_right_right, exists_eq_right, exists_eq_left, exists_eq_left', eAttr, eInt, eNode, eDoc]
  exact ⟨Sub.refl _, by rw [← namedM_eq]; rfl⟩
def c141 : SFun := ⟨(.seq (.reg [⟨(some 4), (.mv (.c (.int .i64 (0)))), none⟩]) (.seq (.seq (.reg [⟨(some 6), (.mv (.t 0)), none⟩, ⟨(some 7), (.len (.t 6)), none⟩, ⟨(some 8), (.mv (.c (.int .i64 (0)))), none⟩]) (.block 0 (.loop (.seq (.reg [⟨(some 9), (.bin .lss (.t 8) (.t 7)), none⟩]) (.seq (.cond (.t 9) .skip (.exit 0)) (.seq (.block 1 (.seq (.reg [⟨(some 10), (.mv (.t 8)), none⟩, ⟨(some 5), (.mv (.t 10)), none⟩]) (.seq (.reg [⟨(some 11), (.mv (.t 1)), none⟩, ⟨(some 12), (.mv (.t 0)), none⟩, ⟨(some 13), (.mv (.t 5)), none⟩, ⟨(some 14), (.idxA 2 (.t 12) (.t 13)), none⟩, ⟨(some 15), (.ld 2 true (.t 14)), none⟩, ⟨(some 16), (.call (.t 11) [(.t 15)]), none⟩]) (.cond (.t 16) (.seq (.reg [⟨(some 17), (.mv (.t 5)), none⟩, ⟨(some 4), (.mv (.t 17)), none⟩]) .ret) .skip)))) (.reg [⟨(some 18), (.bin .add (.t 8) (.c (.int .i64 (1)))), none⟩, ⟨(some 8), (.mv (.t 18)), none⟩]))))))) (.seq (.reg [⟨(some 4), (.mv (.c (.int .i64 (-1)))), none⟩]) .ret))), [(.tmp 4)]⟩
theorem hc141 : toSF Tryd.prog {} Tryd.f141 = some c141 := by kernel_rfl
theorem hn141 : (Tryd.f141.name == "runtime.NumGoroutine") = false := by kernel_rfl
theorem indexFA_ok {h : Heap} (l : List HAttr) (f : Nat) (a b : List AVal) (p : HAttr → Bool) (hl : l.length ≤ 1073741824)
    (hp : ∀ x, DCalls (Pg G) f (a ++ ([.agg (eAttr x)] ++ b)) h fun r h' => r = .bool (p x) ∧ h' = h) : DCalls (Pg G) 141 [sl eAttr l, .fn f a b] h fun r h' => r = aInt (idxM p l) ∧ h' = h := by
  refine dcalls_of_vc Tryd.func141 hn141 hc141 (by rw [Tryd.ntmps141]; simp) (by rw [Tryd.ntmps141]; decide) ?_
  simp -dsimp -implicitDefEqProofs (disch := omega) only [VCA, pg_gl, ↓upd_none, Nat.reduceEqDiff, Nat.reduceBEq, Nat.reduceAdd, Nat.reduceSub, Nat.reduceMul, Nat.reduceLT, Nat.reduceLeDiff, ↓reduceIte, reduceCtorEq, rsOf, rootsOf, SOp.rd, SI.rd, SX.rd, rdL, rdO, rdP, okParts, eqCells, okEqCells, fillA, okFill, setAt, implies_true, forall_const, forall_eq, ne_eq, exists_eq_right_right, exists_eq_right, exists_eq_left, exists_eq_left', eAttr, eInt, eNode, eDoc, c141]
  refine LoopVC.intro (fun m e h' => ∃ k : Nat, k ≤ l.length ∧ m = l.length - k ∧ e 0 = sl eAttr l ∧ e 1 = .fn f a b ∧ e 7 = aInt l.length ∧ e 8 = aInt k ∧ h' = h ∧ ∀ j, j < k → p (nth l j) = false) l.length ⟨0, by omega, by omega, rfl, rfl, rfl, rfl, rfl, by omega⟩ ?_
  rintro m e h' ⟨k, hk, rfl, he0, he1, he7, he8, rfl, hj⟩
  simp -dsimp -implicitDefEqProofs (disch := omega) only [VCA, pg_gl, ↓upd_none, Nat.reduceEqDiff, Nat.reduceBEq, Nat.reduceAdd, Nat.reduceSub, Nat.reduceMul, Nat.reduceLT, Nat.reduceLeDiff, ↓reduceIte, reduceCtorEq, rsOf, rootsOf, SOp.rd, SI.rd, SX.rd, rdL, rdO, rdP, okParts, eqCells, okEqCells, fillA, okFill, setAt, implies_true, forall_const, forall_eq, ne_eq, exists_eq_right_right, exists_eq_right, exists_eq_left, exists_eq_left', eAttr, eInt, eNode, eDoc, he0, he1, he7, he8]
  refine Br.dec (fun hlt => ?_) (fun hge => ?_)
  · simp -dsimp -implicitDefEqProofs (disch := omega) only [VCA, pg_gl, ↓upd_none, Nat.reduceEqDiff, Nat.reduceBEq, Nat.reduceAdd, Nat.reduceSub, Nat.reduceMul, Nat.reduceLT, Nat.reduceLeDiff, ↓reduceIte, reduceCtorEq, rsOf, rootsOf, SOp.rd, SI.rd, SX.rd, rdL, rdO, rdP, okParts, eqCells, okEqCells, fillA, okFill, setAt, implies_true, forall_const, forall_eq, ne_eq, exists_eq_right_right, exists_eq_right, exists_eq_left, exists_eq_left', eAttr, eInt, eNode, eDoc, he0, he1, he7, he8, eAttr]
    refine ⟨by omega, DCalls.of (hp (nth l k)) ?_⟩
    rintro r h' ⟨rfl, rfl⟩
    simp -dsimp -implicitDefEqProofs (disch := omega) only [VCA, pg_gl, ↓upd_none, Nat.reduceEqDiff, Nat.reduceBEq, Nat.reduceAdd, Nat.reduceSub, Nat.reduceMul, Nat.reduceLT, Nat.reduceLeDiff, ↓reduceIte, reduceCtorEq, rsOf, rootsOf, SOp.rd, SI.rd, SX.rd, rdL, rdO, rdP, okParts, eqCells, okEqCells, fillA, okFill, setAt, implies_true, forall_const, forall_eq, ne_eq, exists_eq_right_right, exists_eq_right, exists_eq_left, exists_eq_left', eAttr, eInt, eNode, eDoc, he0, he1, he7, he8]
    refine Br.intro (fun ht => ?_) (fun hf => ?_)
    · simp -dsimp -implicitDefEqProofs (disch := omega) only [VCA, pg_gl, ↓upd_none, Nat.reduceEqDiff, Nat.reduceBEq, Nat.reduceAdd, Nat.reduceSub, Nat.reduceMul, Nat.reduceLT, Nat.reduceLeDiff, ↓reduceIte, reduceCtorEq, rsOf, rootsOf, SOp.rd, SI.rd, SX.rd, rdL, rdO, rdP, okParts, eqCells, okEqCells, fillA, okFill, setAt, implies_true, forall_const, forall_eq, ne_eq, exists_eq_right_right, exists_eq_right, exists_eq_left, exists_eq_left', eAttr, eInt, eNode, eDoc]
      rw [idxM_some (by omega) hj ht]; exact ⟨Sub.refl _, rfl⟩
    · simp -dsimp -implicitDefEqProofs (disch := omega) only [VCA, pg_gl, ↓upd_none, Nat.reduceEqDiff, Nat.reduceBEq, Nat.reduceAdd, Nat.reduceSub, Nat.reduceMul, Nat.reduceLT, Nat.reduceLeDiff, ↓reduceIte, reduceCtorEq, rsOf, rootsOf, SOp.rd, SI.rd, SX.rd, rdL, rdO, rdP, okParts, eqCells, okEqCells, fillA, okFill, setAt, implies_true, forall_const, forall_eq, ne_eq, exists_eq_right_right, exists_eq_right, exists_eq_left, exists_eq_left', eAttr, eInt, eNode, eDoc, he0, he1, he7, he8]
      refine ⟨_, ?_, k + 1, by omega, rfl, by omega, fun j hj' => ?_⟩
      · omega
      · by_cases h1 : j = k
        · subst h1; exact hf
        · exact hj j (by omega)
  · simp -dsimp -implicitDefEqProofs (disch := omega) only [VCA, pg_gl, ↓upd_none, Nat.reduceEqDiff, Nat.reduceBEq, Nat.reduceAdd, Nat.reduceSub, Nat.reduceMul, Nat.reduceLT, Nat.reduceLeDiff, ↓reduceIte, reduceCtorEq, rsOf, rootsOf, SOp.rd, SI.rd, SX.rd, rdL, rdO, rdP, okParts, eqCells, okEqCells, fillA, okFill, setAt, implies_true, forall_const, forall_eq, ne_eq, exists_eq_right_right, exists_eq_right, exists_eq_left, exists_eq_left', eAttr, eInt, eNode, eDoc]
    rw [idxM_none (fun j hj' => hj j (by omega))]; exact ⟨Sub.refl _, rfl⟩
def c142 : SFun := ⟨(.seq (.reg [⟨(some 2), (.boxF 122 2 (.t 0)), none⟩, ⟨(some 3), (.mv (.c (.bool false))), none⟩]) (.seq (.reg [⟨(some 4), (.fldA 0 (.t 2)), none⟩, ⟨(some 5), (.ld 1 false (.t 4)), none⟩, ⟨(some 6), (.ld 1 false (.t 1)), none⟩, ⟨(some 7), (.bin .eql (.t 5) (.t 6)), none⟩, ⟨(some 3), (.mv (.t 7)), none⟩]) .ret)), [(.tmp 3)]⟩
theorem hc142 : toSF Tryd.prog {} Tryd.f142 = some c142 := by kernel_rfl
theorem hn142 : (Tryd.f142.name == "runtime.NumGoroutine") = false := by kernel_rfl
theorem find1_ok (name : List UInt8) (a : HAttr) : PCalls (Pg G) 142 [.agg (eAttr a), .pin [.str name]] (.bool (a.name == name)) := fun h => by
  refine dcalls_of_vc Tryd.func142 hn142 hc142 (by rw [Tryd.ntmps142]; simp) (by rw [Tryd.ntmps142]; decide) ?_
  simp -dsimp -implicitDefEqProofs (disch := omega) only [VCA, pg_gl, ↓upd_none, Nat.reduceEqDiff, Nat.reduceBEq, Nat.reduceAdd, Nat.reduceSub, Nat.reduceMul, Nat.reduceLT, Nat.reduceLeDiff, ↓reduceIte, reduceCtorEq, rsOf, rootsOf, SOp.rd, SI.rd, SX.rd, rdL, rdO, rdP, okParts, eqCells, okEqCells, fillA, okFill, setAt, implies_true, forall_const, forall_eq, ne_eq, exists_eq_right_right, exists_eq_right, exists_eq_left, exists_eq_left', eAttr, eInt, eNode, eDoc, c142, eAttr]
  exact Sub.refl _
def c112 : SFun := ⟨(.seq (.reg [⟨(some 3), (.boxF 9 1 (.t 1)), none⟩, ⟨(some 4), (.mv (.c (.int .i64 (0)))), none⟩]) (.seq (.reg [⟨(some 5), (.mv (.t 0)), none⟩, ⟨(some 6), (.mkf 142 [] [(.t 3)]), none⟩, ⟨(some 7), (.call (.c (.fn 141 [] [])) [(.t 5), (.t 6)]), none⟩, ⟨(some 4), (.mv (.t 7)), none⟩]) .ret)), [(.tmp 4)]⟩
theorem hc112 : toSF Tryd.prog {} Tryd.f112 = some c112 := by kernel_rfl
theorem hn112 : (Tryd.f112.name == "runtime.NumGoroutine") = false := by kernel_rfl
theorem find_ok (l : List HAttr) (name : List UInt8) (hl : l.length ≤ 1073741824) : PCalls (Pg G) 112 [sl eAttr l, .str name] (aInt (attrAt l name)) := fun h => by
  refine dcalls_of_vc Tryd.func112 hn112 hc112 (by rw [Tryd.ntmps112]; simp) (by rw [Tryd.ntmps112]; decide) ?_
  simp -dsimp -implicitDefEqProofs (disch := omega) only [VCA, pg_gl, ↓upd_none, Nat.reduceEqDiff, Nat.reduceBEq, Nat.reduceAdd, Nat.reduceSub, Nat.reduceMul, Nat.reduceLT, Nat.reduceLeDiff, ↓reduceIte, reduceCtorEq, rsOf, rootsOf, SOp.rd, SI.rd, SX.rd, rdL, rdO, rdP, okParts, eqCells, okEqCells, fillA, okFill, setAt, implies_true, forall_const, forall_eq, ne_eq, exists_eq_right_right, exists_eq_right, exists_eq_left, exists_eq_left', eAttr, eInt, eNode, eDoc, c112]
  refine DCalls.of (indexFA_ok l 142 [] [.pin [.str name]] (fun a => a.name == name) hl fun x => find1_ok name x h) ?_
  rintro r h' ⟨rfl, rfl⟩
  simp -dsimp -implicitDefEqProofs (disch := omega) only [VCA, pg_gl, ↓upd_none, Nat.reduceEqDiff, Nat.reduceBEq, Nat.reduceAdd, Nat.reduceSub, Nat.reduceMul, Nat.reduceLT, Nat.reduceLeDiff, ↓reduceIte, reduceCtorEq, rsOf, rootsOf, SOp.rd, SI.rd, SX.rd, rdL, rdO, rdP, okParts, eqCells, okEqCells, fillA, okFill, setAt, implies_true, forall_const, forall_eq, ne_eq, exists_eq_right_right, exists_eq_right, exists_eq_left, exists_eq_left', eAttr, eInt, eNode, eDoc]
  exact ⟨Sub.refl _, rfl⟩
end Go.Proofs.K
