/- Texts of this claim, one behind the other. -/
import Derived.Test.YtcbhonddhmeibaaDoorM4
import Derived.Test.YtcbhonddhmeibaaDoorM3
section
set_option linter.unusedSimpArgs false
set_option linter.unusedVariables false
namespace Go.Proofs.K
open Go Go.Sim Go.Proofs
variable {G : Glob}
theorem has_at {h h' : Heap} {rb : Nat} {o : AObj} (S : Sub (upd h rb (some o)) h') : h' rb = some o := S rb o (upd_same _ _ _)
theorem stand_one (s : List UInt8) (c : UInt8) (hc : lettI c.toNat = false) (i : Nat) (hi : i < s.length) : standB s i [c] = (bt s i == c.toNat) := by
  unfold standB
  have e1 : decide (i + [c].length ≤ s.length) = true := decide_eq_true (by simp only [List.length_cons, List.length_nil]; omega)
  have e2 : (List.range [c].length).all (fun j => lowI (bt s (i + j)) == bt [c] j) = (lowI (bt s i) == c.toNat) := by
    simp [List.range_succ, bt]
  rw [e1, e2, low_noLet hc, Bool.true_and]
theorem up_quote {s : List UInt8} {c : UInt8} (hc : lettI c.toNat = false) {a : Nat} (ha : a ≤ s.length) : upM s a [c] = firstM (fun i => bt s i == c.toNat) s.length a :=
  first_congr ha fun j _ hj => stand_one s c hc j hj
theorem rdO_next (s : List UInt8) (a en : Nat) (out : AVal) (k : Nat) : (⟨Tr, 4, [[.str s, .int .i64 ((a : Int) + (k : Int)), aInt en, out]]⟩ : AObj) = rdO s (a + k) en out := by
  unfold rdO; rw [Int.natCast_add]
theorem rdO_one (s : List UInt8) (a en : Nat) (out : AVal) : (⟨Tr, 4, [[.str s, .int .i64 ((a : Int) + 1), aInt en, out]]⟩ : AObj) = rdO s (a + 1) en out := rdO_next s a en out 1
theorem one_at {s : List UInt8} {c : Nat} (hc : c < s.length) : (s.take (c + 1)).drop c = [s.getD c 0] := by
  rw [take_snoc hc, List.drop_append_of_le_length (by rw [List.length_take]; omega), List.drop_of_length_le (by rw [List.length_take]; omega)]
  rfl
def c129 : SFun := ⟨.seq (.reg [⟨some 2, .mv (.c (.str [])), none⟩]) (.seq (.reg [⟨some 6, .mv (.t 0), none⟩, ⟨some 7, .call (.c (.fn 102 [] [])) [.t 6, .c (.fn 140 [] [])], none⟩]) (.seq (.seq (.dreg [(⟨some 8, .mv (.t 0), none⟩, none), (⟨some 9, .fldA 0 (.t 8), none⟩, none), (⟨some 10, .fldA 1 (.t 9), none⟩, none), (⟨some 11, .ld 1 false (.t 10), none⟩, none), (⟨some 12, .mv (.t 0), none⟩, none), (⟨some 13, .fldA 0 (.t 12), none⟩, none), (⟨some 14, .fldA 0 (.t 13), none⟩, none), (⟨some 15, .ld 1 false (.t 14), none⟩, none), (⟨some 16, .lenS (.t 15), none⟩, none), (⟨some 17, .bin .lss (.t 11) (.t 16), none⟩, none), (⟨some 18, .mv (.t 17), none⟩, none), (⟨some 19, .mv (.t 0), some (18, true)⟩, none), (⟨some 20, .fldA 0 (.t 19), some (18, true)⟩, none), (⟨some 21, .fldA 0 (.t 20), some (18, true)⟩, none), (⟨some 22, .ld 1 false (.t 21), some (18, true)⟩, none), (⟨some 23, .mv (.t 0), some (18, true)⟩, none), (⟨some 24, .fldA 0 (.t 23), some (18, true)⟩, none), (⟨some 25, .fldA 1 (.t 24), some (18, true)⟩, none), (⟨some 26, .ld 1 false (.t 25), some (18, true)⟩, none), (⟨some 27, .idxS (.t 22) (.t 26), some (18, true)⟩, none), (⟨some 28, .bin .eql (.t 27) (.c (.int .u8 34)), some (18, true)⟩, none), (⟨some 29, .mv (.t 28), some (18, true)⟩, none), (⟨some 30, .mv (.t 0), some (29, false)⟩, none), (⟨some 31, .fldA 0 (.t 30), some (29, false)⟩, none), (⟨some 32, .fldA 0 (.t 31), some (29, false)⟩, none), (⟨some 33, .ld 1 false (.t 32), some (29, false)⟩, none), (⟨some 34, .mv (.t 0), some (29, false)⟩, none), (⟨some 35, .fldA 0 (.t 34), some (29, false)⟩, none), (⟨some 36, .fldA 1 (.t 35), some (29, false)⟩, none), (⟨some 37, .ld 1 false (.t 36), some (29, false)⟩, none), (⟨some 38, .idxS (.t 33) (.t 37), some (29, false)⟩, none), (⟨some 39, .bin .eql (.t 38) (.c (.int .u8 39)), some (29, false)⟩, none), (⟨some 40, .pick (.t 29) (.c (.bool true)) (.t 39), some (18, true)⟩, none), (⟨some 41, .pick (.t 18) (.t 40) (.c (.bool false)), none⟩, none)]) (.cond (.t 41) (.seq (.dreg [(⟨some 42, .mv (.t 0), none⟩, none), (⟨some 43, .fldA 0 (.t 42), none⟩, none), (⟨some 44, .fldA 0 (.t 43), none⟩, none), (⟨some 45, .ld 1 false (.t 44), none⟩, none), (⟨some 46, .mv (.t 0), none⟩, none), (⟨some 47, .fldA 0 (.t 46), none⟩, none), (⟨some 48, .fldA 1 (.t 47), none⟩, none), (⟨some 49, .ld 1 false (.t 48), none⟩, none), (⟨some 50, .mv (.t 0), none⟩, none), (⟨some 51, .fldA 0 (.t 50), none⟩, none), (⟨some 52, .fldA 1 (.t 51), none⟩, none), (⟨some 53, .ld 1 false (.t 52), none⟩, none), (⟨some 54, .bin .add (.t 53) (.c (.int .i64 1)), none⟩, none), (⟨some 55, .slS (.t 45) (some (.t 49)) (some (.t 54)), none⟩, none), (⟨some 3, .mv (.t 55), none⟩, none)]) (.seq (.reg [⟨some 56, .mv (.t 0), none⟩, ⟨some 57, .fldA 0 (.t 56), none⟩, ⟨some 58, .fldA 1 (.t 57), none⟩, ⟨some 59, .ld 1 false (.t 58), none⟩, ⟨some 60, .bin .add (.t 59) (.c (.int .i64 1)), none⟩, ⟨some 61, .fldA 0 (.t 56), none⟩, ⟨some 62, .fldA 1 (.t 61), none⟩, ⟨none, .st 1 (.t 62) (.t 60), none⟩]) (.seq (.reg [⟨some 64, .mv (.t 0), none⟩, ⟨some 65, .mv (.t 3), none⟩, ⟨some 66, .call (.c (.fn 100 [] [])) [.t 64, .t 65], none⟩, ⟨some 63, .mv (.t 66), none⟩, ⟨some 67, .ext (.t 63) 0, none⟩, ⟨some 68, .ext (.t 63) 1, none⟩, ⟨some 4, .mv (.t 67), none⟩, ⟨some 5, .mv (.t 68), none⟩]) (.seq (.reg [⟨some 69, .mv (.t 4), none⟩, ⟨some 2, .mv (.t 69), none⟩]) .ret)))) .skip)) (.seq (.reg [⟨some 70, .mv (.t 0), none⟩, ⟨some 71, .call (.c (.fn 102 [] [])) [.t 70, .c (.fn 141 [] [])], none⟩, ⟨some 2, .mv (.t 71), none⟩]) .ret))), [.tmp 2]⟩
theorem hc129 : toSF Tryd.prog {} Tryd.f129 = some c129 := by kernel_rfl
theorem hn129 : (Tryd.f129.name == "runtime.NumGoroutine") = false := by kernel_rfl
theorem tokValue_ok (hG : MaxLenOK G) {rb : Nat} {s : List UInt8} {a en : Nat} {out : AVal} {h : Heap} (hr : h rb = some (rdO s a en out)) (ha : a ≤ s.length) (hs : s.length ≤ 1000000) :
    DCalls (Pg G) 129 [.vp rb 0] h fun r h' => r = .str (seg s (valT s (skipM notBlank s a)).1 (valT s (skipM notBlank s a)).2.1) ∧ Sub (upd h rb (some (rdO s (valT s (skipM notBlank s a)).2.2 en out))) h' := by
  have hU := until_ok (G := G) hr ha hs pV1
  have hc := skip_le (q := notBlank) ha
  generalize skipM notBlank s a = c at *
  have hr1 : ∀ x : AObj, upd h rb (some x) rb = some x := fun x => upd_same _ _ _
  have hV := until_ok (G := G) (h := upd h rb (some (rdO s c en out))) (rb := rb) (hr1 _) hc.2 hs pV2
  rw [upd_upd] at hV
  have plain : quoteAt s c = false → valT s c = (c, skipM valStop s c, skipM valStop s c) := fun q => by unfold valT; rw [if_neg (by rw [q]; simp)]
  have hr1' := hr1 (rdO s c en out)
  unfold rdO at hr1'
  by_cases hcl : c < s.length
  · obtain ⟨q, hq⟩ : ∃ q, s.getD c 0 = q := ⟨_, rfl⟩
    have hb : bt s c = q.toNat := by unfold bt; rw [hq]
    have h1 := one_at hcl
    rw [hq] at h1
    by_cases hqq : q = 34 ∨ q = 39
    · have b1 : (((q.toNat : Int) == 34) || ((q.toNat : Int) == 39)) = true := by rcases hqq with rfl | rfl <;> rfl
      have hl : lettI q.toNat = false := by rcases hqq with rfl | rfl <;> decide
      have hnl : noLet [q] = true := by rcases hqq with rfl | rfl <;> decide
      have hqa : quoteAt s c = true := by unfold quoteAt; rw [hb, decide_eq_true hcl]; simpa using b1
      have hP := past_ok (G := G) hG (w := [q]) (h := upd h rb (some (rdO s (c + 1) en out))) (rb := rb) (hr1 _) (show c + 1 ≤ s.length by omega) hs hnl (by simp)
      rw [up_quote hl (by omega)] at hP
      have hP := rdO_one s c en out ▸ hP
      have e1 : valT s c = (c + 1, firstM (fun i => bt s i == q.toNat) s.length (c + 1), if firstM (fun i => bt s i == q.toNat) s.length (c + 1) < s.length then firstM (fun i => bt s i == q.toNat) s.length (c + 1) + 1 else s.length) := by
        unfold valT; rw [if_pos hqa, hb]
      rw [e1]
      rcases hqq with rfl | rfl
      · have b34 : (((34 : UInt8).toNat : Int) == 34) = true := rfl
        refine dcalls_of_vc Tryd.func129 hn129 hc129 (by rw [Tryd.ntmps129]; simp) (by rw [Tryd.ntmps129]; decide) ?_
        simp -dsimp -implicitDefEqProofs (disch := omega) only [↓vcOps_sp 18, ↓vcD_sp 18, ↓vcOps_sp 29, ↓vcD_sp 29, VCA, pg_gl, ↓upd_none, Nat.reduceEqDiff, Nat.reduceBEq, Nat.reduceAdd, Nat.reduceSub, Nat.reduceMul, Nat.reduceLT, Nat.reduceLeDiff, ↓reduceIte, reduceCtorEq, rsOf, rootsOf, SOp.rd, SI.rd, SX.rd, rdL, rdO, rdP, okParts, eqCells, okEqCells, fillA, okFill, setAt, implies_true, forall_const, forall_eq, ne_eq, exists_eq_right_right, exists_eq_right, exists_eq_left, exists_eq_left', rootL, eAttr, lit_eq, deVp_tup, c129]
        refine DCalls.of hU ?_
        rintro r _ ⟨rfl, rfl⟩
        repeat' (first | ((with_reducible refine brC (fun _ => ?_) fun _ => ?_) <;> try (exfalso; omega)) | ((refine DCalls.of hP ?_; rintro _ h2 ⟨rfl, S2⟩)) | (with_reducible refine And.intro ?_ ?_; · omega) | simp -dsimp -implicitDefEqProofs (disch := omega) only [↓vcOps_sp 18, ↓vcD_sp 18, ↓vcOps_sp 29, ↓vcD_sp 29, VCA, pg_gl, ↓upd_none, Nat.reduceEqDiff, Nat.reduceBEq, Nat.reduceAdd, Nat.reduceSub, Nat.reduceMul, Nat.reduceLT, Nat.reduceLeDiff, ↓reduceIte, reduceCtorEq, rsOf, rootsOf, SOp.rd, SI.rd, SX.rd, rdL, rdO, rdP, okParts, eqCells, okEqCells, fillA, okFill, setAt, implies_true, forall_const, forall_eq, ne_eq, exists_eq_right_right, exists_eq_right, exists_eq_left, exists_eq_left', rootL, eAttr, lit_eq, deVp_tup, hr1', hq, h1, b34])
        all_goals first | exact ⟨_, Sub.refl _, Sub.refl _⟩ | exact ⟨_, Sub.refl _, by rw [upd_upd] at S2; exact S2⟩
      · have b34 : (((39 : UInt8).toNat : Int) == 34) = false := rfl
        have b39 : (((39 : UInt8).toNat : Int) == 39) = true := rfl
        refine dcalls_of_vc Tryd.func129 hn129 hc129 (by rw [Tryd.ntmps129]; simp) (by rw [Tryd.ntmps129]; decide) ?_
        simp -dsimp -implicitDefEqProofs (disch := omega) only [↓vcOps_sp 18, ↓vcD_sp 18, ↓vcOps_sp 29, ↓vcD_sp 29, VCA, pg_gl, ↓upd_none, Nat.reduceEqDiff, Nat.reduceBEq, Nat.reduceAdd, Nat.reduceSub, Nat.reduceMul, Nat.reduceLT, Nat.reduceLeDiff, ↓reduceIte, reduceCtorEq, rsOf, rootsOf, SOp.rd, SI.rd, SX.rd, rdL, rdO, rdP, okParts, eqCells, okEqCells, fillA, okFill, setAt, implies_true, forall_const, forall_eq, ne_eq, exists_eq_right_right, exists_eq_right, exists_eq_left, exists_eq_left', rootL, eAttr, lit_eq, deVp_tup, c129]
        refine DCalls.of hU ?_
        rintro r _ ⟨rfl, rfl⟩
        repeat' (first | ((with_reducible refine brC (fun _ => ?_) fun _ => ?_) <;> try (exfalso; omega)) | ((refine DCalls.of hP ?_; rintro _ h2 ⟨rfl, S2⟩)) | (with_reducible refine And.intro ?_ ?_; · omega) | simp -dsimp -implicitDefEqProofs (disch := omega) only [↓vcOps_sp 18, ↓vcD_sp 18, ↓vcOps_sp 29, ↓vcD_sp 29, VCA, pg_gl, ↓upd_none, Nat.reduceEqDiff, Nat.reduceBEq, Nat.reduceAdd, Nat.reduceSub, Nat.reduceMul, Nat.reduceLT, Nat.reduceLeDiff, ↓reduceIte, reduceCtorEq, rsOf, rootsOf, SOp.rd, SI.rd, SX.rd, rdL, rdO, rdP, okParts, eqCells, okEqCells, fillA, okFill, setAt, implies_true, forall_const, forall_eq, ne_eq, exists_eq_right_right, exists_eq_right, exists_eq_left, exists_eq_left', rootL, eAttr, lit_eq, deVp_tup, hr1', hq, h1, b34, b39])
        all_goals first | exact ⟨_, Sub.refl _, Sub.refl _⟩ | exact ⟨_, Sub.refl _, by rw [upd_upd] at S2; exact S2⟩
    · have b34 : ((q.toNat : Int) == 34) = false := by
        rw [beq_eq_false_iff_ne]; intro hh; exact hqq (.inl (bt_inj (by simpa using hh)))
      have b39 : ((q.toNat : Int) == 39) = false := by
        rw [beq_eq_false_iff_ne]; intro hh; exact hqq (.inr (bt_inj (by simpa using hh)))
      rw [plain (by unfold quoteAt; rw [hb, b34, b39]; simp)]
      refine dcalls_of_vc Tryd.func129 hn129 hc129 (by rw [Tryd.ntmps129]; simp) (by rw [Tryd.ntmps129]; decide) ?_
      simp -dsimp -implicitDefEqProofs (disch := omega) only [↓vcOps_sp 18, ↓vcD_sp 18, ↓vcOps_sp 29, ↓vcD_sp 29, VCA, pg_gl, ↓upd_none, Nat.reduceEqDiff, Nat.reduceBEq, Nat.reduceAdd, Nat.reduceSub, Nat.reduceMul, Nat.reduceLT, Nat.reduceLeDiff, ↓reduceIte, reduceCtorEq, rsOf, rootsOf, SOp.rd, SI.rd, SX.rd, rdL, rdO, rdP, okParts, eqCells, okEqCells, fillA, okFill, setAt, implies_true, forall_const, forall_eq, ne_eq, exists_eq_right_right, exists_eq_right, exists_eq_left, exists_eq_left', rootL, eAttr, lit_eq, deVp_tup, c129]
      refine DCalls.of hU ?_
      rintro r _ ⟨rfl, rfl⟩
      repeat' (first | ((with_reducible refine brC (fun _ => ?_) fun _ => ?_) <;> try (exfalso; omega)) | ((refine DCalls.of hV ?_; rintro _ h2 ⟨rfl, rfl⟩)) | (with_reducible refine And.intro ?_ ?_; · omega) | simp -dsimp -implicitDefEqProofs (disch := omega) only [↓vcOps_sp 18, ↓vcD_sp 18, ↓vcOps_sp 29, ↓vcD_sp 29, VCA, pg_gl, ↓upd_none, Nat.reduceEqDiff, Nat.reduceBEq, Nat.reduceAdd, Nat.reduceSub, Nat.reduceMul, Nat.reduceLT, Nat.reduceLeDiff, ↓reduceIte, reduceCtorEq, rsOf, rootsOf, SOp.rd, SI.rd, SX.rd, rdL, rdO, rdP, okParts, eqCells, okEqCells, fillA, okFill, setAt, implies_true, forall_const, forall_eq, ne_eq, exists_eq_right_right, exists_eq_right, exists_eq_left, exists_eq_left', rootL, eAttr, lit_eq, deVp_tup, hr1', hq, b34, b39])
      all_goals first | exact ⟨_, Sub.refl _, Sub.refl _⟩ | exact ⟨_, Sub.refl _, by rw [upd_upd] at S2; exact S2⟩
  · rw [plain (by unfold quoteAt; rw [decide_eq_false hcl]; rfl)]
    refine dcalls_of_vc Tryd.func129 hn129 hc129 (by rw [Tryd.ntmps129]; simp) (by rw [Tryd.ntmps129]; decide) ?_
    simp -dsimp -implicitDefEqProofs (disch := omega) only [↓vcOps_sp 18, ↓vcD_sp 18, ↓vcOps_sp 29, ↓vcD_sp 29, VCA, pg_gl, ↓upd_none, Nat.reduceEqDiff, Nat.reduceBEq, Nat.reduceAdd, Nat.reduceSub, Nat.reduceMul, Nat.reduceLT, Nat.reduceLeDiff, ↓reduceIte, reduceCtorEq, rsOf, rootsOf, SOp.rd, SI.rd, SX.rd, rdL, rdO, rdP, okParts, eqCells, okEqCells, fillA, okFill, setAt, implies_true, forall_const, forall_eq, ne_eq, exists_eq_right_right, exists_eq_right, exists_eq_left, exists_eq_left', rootL, eAttr, lit_eq, deVp_tup, c129]
    refine DCalls.of hU ?_
    rintro r _ ⟨rfl, rfl⟩
    repeat' (first | ((with_reducible refine brC (fun _ => ?_) fun _ => ?_) <;> try (exfalso; omega)) | ((refine DCalls.of hV ?_; rintro _ h2 ⟨rfl, rfl⟩)) | (with_reducible refine And.intro ?_ ?_; · omega) | simp -dsimp -implicitDefEqProofs (disch := omega) only [↓vcOps_sp 18, ↓vcD_sp 18, ↓vcOps_sp 29, ↓vcD_sp 29, VCA, pg_gl, ↓upd_none, Nat.reduceEqDiff, Nat.reduceBEq, Nat.reduceAdd, Nat.reduceSub, Nat.reduceMul, Nat.reduceLT, Nat.reduceLeDiff, ↓reduceIte, reduceCtorEq, rsOf, rootsOf, SOp.rd, SI.rd, SX.rd, rdL, rdO, rdP, okParts, eqCells, okEqCells, fillA, okFill, setAt, implies_true, forall_const, forall_eq, ne_eq, exists_eq_right_right, exists_eq_right, exists_eq_left, exists_eq_left', rootL, eAttr, lit_eq, deVp_tup, hr1'])
    all_goals first | exact ⟨_, Sub.refl _, Sub.refl _⟩ | exact ⟨_, Sub.refl _, by rw [upd_upd] at S2; exact S2⟩
theorem S_next {h h1 h2 : Heap} {rb : Nat} {x y : AObj} (S1 : Sub (upd h rb (some x)) h1) (S2 : Sub (upd h1 rb (some y)) h2) : Sub (upd h rb (some y)) h2 := by
  intro t o ht
  by_cases e : t = rb
  · subst e; rw [upd_same] at ht; cases ht; exact S2 _ _ (upd_same _ _ _)
  · rw [upd_ne _ _ e] at ht
    exact S2 t o (by rw [upd_ne _ _ e]; exact S1 t o (by rw [upd_ne _ _ e]; exact ht))
theorem S_put {h h1 : Heap} {rb : Nat} {x y : AObj} (S1 : Sub (upd h rb (some x)) h1) : Sub (upd h rb (some y)) (upd h1 rb (some y)) := by
  intro t o ht
  by_cases e : t = rb
  · subst e; rw [upd_same] at ht ⊢; exact ht
  · rw [upd_ne _ _ e] at ht ⊢
    exact S1 t o (by rw [upd_ne _ _ e]; exact ht)
theorem S_new {h h1 : Heap} {rb r : Nat} {x : AObj} {o : Option AObj} (S1 : Sub (upd h rb (some x)) h1) (h0 : h r = none) (hne : r ≠ rb) : Sub (upd h rb (some x)) (upd h1 r o) := S1.upd (by rw [upd_ne _ _ hne]; exact h0)
theorem none_off {h h1 : Heap} {rb r : Nat} {x : AObj} (S1 : Sub (upd h rb (some x)) h1) (h0 : h1 r = none) : h r = none ∧ r ≠ rb := by
  have hne : r ≠ rb := fun e => by subst e; rw [S1 _ _ (upd_same _ _ _)] at h0; cases h0
  exact ⟨by have := S1.none h0; rwa [upd_ne _ _ hne] at this, hne⟩
theorem att_next {s : List UInt8} {a : Nat} (ha : a < s.length) : a + 1 ≤ atE s a ∧ atE s a ≤ atB s a ∧ atB s a ≤ s.length := by
  have h1 := skip_le (q := nameStop) (s := s) (a := a + 1) (by omega)
  have h2 := skip_le (q := notBlank) (s := s) (a := atE s a) h1.2
  exact ⟨h1.1, h2.1, h2.2⟩
def c107 : SFun := ⟨.seq (.reg [⟨some 2, .new 43 2 [.str [], .str []], none⟩]) (.seq (.reg [⟨some 5, .mv (.t 0), none⟩, ⟨some 6, .fldA 0 (.t 5), none⟩, ⟨some 7, .fldA 1 (.t 6), none⟩, ⟨some 8, .ld 1 false (.t 7), none⟩, ⟨some 3, .mv (.t 8), none⟩]) (.seq (.reg [⟨some 9, .mv (.t 0), none⟩, ⟨some 10, .fldA 0 (.t 9), none⟩, ⟨some 11, .fldA 1 (.t 10), none⟩, ⟨some 12, .ld 1 false (.t 11), none⟩, ⟨some 13, .bin .add (.t 12) (.c (.int .i64 1)), none⟩, ⟨some 14, .fldA 0 (.t 9), none⟩, ⟨some 15, .fldA 1 (.t 14), none⟩, ⟨none, .st 1 (.t 15) (.t 13), none⟩]) (.seq (.reg [⟨some 16, .mv (.t 0), none⟩, ⟨some 17, .call (.c (.fn 102 [] [])) [.t 16, .c (.fn 125 [] [])], none⟩]) (.seq (.dreg [(⟨some 18, .mv (.t 0), none⟩, none), (⟨some 19, .fldA 0 (.t 18), none⟩, none), (⟨some 20, .fldA 0 (.t 19), none⟩, none), (⟨some 21, .ld 1 false (.t 20), none⟩, none), (⟨some 22, .mv (.t 3), none⟩, none), (⟨some 23, .mv (.t 0), none⟩, none), (⟨some 24, .fldA 0 (.t 23), none⟩, none), (⟨some 25, .fldA 1 (.t 24), none⟩, none), (⟨some 26, .ld 1 false (.t 25), none⟩, none), (⟨some 27, .slS (.t 21) (some (.t 22)) (some (.t 26)), none⟩, none), (⟨some 28, .pcall 126 [.t 27], none⟩, none), (⟨some 29, .bld [.str [], .str []] [(0, (1, (.t 28)))], none⟩, none), (⟨some 4, .new 43 2 [.str [], .str []], none⟩, (some [])), (⟨none, .st 2 (.t 4) (.t 29), none⟩, (some [21, 26]))]) (.seq (.reg [⟨some 30, .mv (.t 0), none⟩, ⟨some 31, .call (.c (.fn 102 [] [])) [.t 30, .c (.fn 127 [] [])], none⟩]) (.seq (.seq (.dreg [(⟨some 32, .mv (.t 0), none⟩, none), (⟨some 33, .fldA 0 (.t 32), none⟩, none), (⟨some 34, .fldA 1 (.t 33), none⟩, none), (⟨some 35, .ld 1 false (.t 34), none⟩, none), (⟨some 36, .mv (.t 0), none⟩, none), (⟨some 37, .fldA 0 (.t 36), none⟩, none), (⟨some 38, .fldA 0 (.t 37), none⟩, none), (⟨some 39, .ld 1 false (.t 38), none⟩, none), (⟨some 40, .lenS (.t 39), none⟩, none), (⟨some 41, .bin .lss (.t 35) (.t 40), none⟩, none), (⟨some 42, .mv (.t 41), none⟩, none), (⟨some 43, .mv (.t 0), some (42, true)⟩, none), (⟨some 44, .fldA 0 (.t 43), some (42, true)⟩, none), (⟨some 45, .fldA 0 (.t 44), some (42, true)⟩, none), (⟨some 46, .ld 1 false (.t 45), some (42, true)⟩, none), (⟨some 47, .mv (.t 0), some (42, true)⟩, none), (⟨some 48, .fldA 0 (.t 47), some (42, true)⟩, none), (⟨some 49, .fldA 1 (.t 48), some (42, true)⟩, none), (⟨some 50, .ld 1 false (.t 49), some (42, true)⟩, none), (⟨some 51, .idxS (.t 46) (.t 50), some (42, true)⟩, none), (⟨some 52, .bin .eql (.t 51) (.c (.int .u8 61)), some (42, true)⟩, none), (⟨some 53, .pick (.t 42) (.t 52) (.c (.bool false)), none⟩, none)]) (.cond (.t 53) (.seq (.reg [⟨some 54, .mv (.t 0), none⟩, ⟨some 55, .fldA 0 (.t 54), none⟩, ⟨some 56, .fldA 1 (.t 55), none⟩, ⟨some 57, .ld 1 false (.t 56), none⟩, ⟨some 58, .bin .add (.t 57) (.c (.int .i64 1)), none⟩, ⟨some 59, .fldA 0 (.t 54), none⟩, ⟨some 60, .fldA 1 (.t 59), none⟩, ⟨none, .st 1 (.t 60) (.t 58), none⟩]) (.reg [⟨some 61, .mv (.t 0), none⟩, ⟨some 62, .call (.c (.fn 129 [] [])) [.t 61], none⟩, ⟨some 63, .pcall 128 [.t 62], none⟩, ⟨some 64, .fldA 1 (.t 4), none⟩, ⟨none, .st 1 (.t 64) (.t 63), none⟩])) .skip)) (.seq (.reg [⟨some 65, .ld 2 true (.t 4), none⟩, ⟨none, .st 2 (.t 2) (.t 65), none⟩]) .ret))))))), [.cell 2 2 true]⟩
theorem hc107 : toSF Tryd.prog {pure := [126, 128]} Tryd.f107 = some c107 := by kernel_rfl
theorem hn107 : (Tryd.f107.name == "runtime.NumGoroutine") = false := by kernel_rfl
set_option maxHeartbeats 1000000 in
theorem tokAttr_ok (hG : MaxLenOK G) {rb : Nat} {s : List UInt8} {a en : Nat} {out : AVal} {h : Heap} (hr : h rb = some (rdO s a en out)) (ha : a < s.length) (hs : s.length ≤ 1000000) :
    DCalls (Pg G) 107 [.vp rb 0] h fun r h' => r = .agg (eAttr (attrT s a).1) ∧ Sub (upd h rb (some (rdO s (attrT s a).2 en out))) h' := by
  have hr' := hr
  unfold rdO at hr'
  obtain ⟨n1, n2, n3⟩ := att_next ha
  have sl := seg_len (s := s) (a := a) (b := atE s a) (by omega)
  have cN := tokAttrName_ok (G := G) (seg s a (atE s a)) (by omega)
  refine dcalls_of_vc Tryd.func107 hn107 hc107 (by rw [Tryd.ntmps107]; simp) (by rw [Tryd.ntmps107]; decide) ?_
  simp -dsimp -implicitDefEqProofs (disch := omega) only [↓vcOps_sp 42, ↓vcD_sp 42, VCA, pg_gl, ↓upd_none, Nat.reduceEqDiff, Nat.reduceBEq, Nat.reduceAdd, Nat.reduceSub, Nat.reduceMul, Nat.reduceLT, Nat.reduceLeDiff, ↓reduceIte, reduceCtorEq, rsOf, rootsOf, SOp.rd, SI.rd, SX.rd, rdL, rdO, rdP, okParts, eqCells, okEqCells, fillA, okFill, setAt, implies_true, forall_const, forall_eq, ne_eq, exists_eq_right_right, exists_eq_right, exists_eq_left, exists_eq_left', rootL, eAttr, lit_eq, deVp_tup, c107]
  intro r2 hr2
  have m1 : ¬ rb = r2 := fun q => by rw [← q, hr] at hr2; cases hr2
  have m2 : ¬ r2 = rb := fun q => m1 q.symm
  repeat' (first | ((with_reducible refine brC (fun _ => ?_) fun _ => ?_) <;> try (exfalso; omega)) | (with_reducible refine And.intro ?_ ?_; · omega) | simp -dsimp -implicitDefEqProofs (disch := omega) only [↓vcOps_sp 42, ↓vcD_sp 42, VCA, pg_gl, ↓upd_none, Nat.reduceEqDiff, Nat.reduceBEq, Nat.reduceAdd, Nat.reduceSub, Nat.reduceMul, Nat.reduceLT, Nat.reduceLeDiff, ↓reduceIte, reduceCtorEq, rsOf, rootsOf, SOp.rd, SI.rd, SX.rd, rdL, rdO, rdP, okParts, eqCells, okEqCells, fillA, okFill, setAt, implies_true, forall_const, forall_eq, ne_eq, exists_eq_right_right, exists_eq_right, exists_eq_left, exists_eq_left', rootL, eAttr, lit_eq, deVp_tup, hr', m1, m2, upd_same])
  rw [rdO_one]
  obtain ⟨hA, hhA⟩ : ∃ hA, upd (upd h r2 (some ⟨.t 43, 2, [[.str [], .str []]]⟩)) rb (some (rdO s (a + 1) en out)) = hA := ⟨_, rfl⟩
  have SA : Sub (upd h rb (some (rdO s (a + 1) en out))) hA := by
    rw [← hhA]; exact S_put (x := rdO s a en out) (by rw [upd_id hr]; exact (Sub.refl h).upd hr2)
  have gA : hA rb = some (rdO s (a + 1) en out) := has_at SA
  have zA : hA r2 = some ⟨.t 43, 2, [[.str [], .str []]]⟩ := by rw [← hhA, upd_ne _ _ m2, upd_same]
  rw [hhA]
  refine DCalls.of (until_ok (G := G) gA (by omega) hs pA1) ?_
  rintro _ hB ⟨rfl, hhB⟩
  have eB : skipM nameStop s (a + 1) = atE s a := rfl
  rw [eB] at hhB
  have SB := S_next SA (by rw [hhB]; exact Sub.refl _ : Sub (upd hA rb (some (rdO s (atE s a) en out))) hB)
  have gB := has_at SB
  have zB : hB r2 = some ⟨.t 43, 2, [[.str [], .str []]]⟩ := by rw [hhB, upd_ne _ _ m2]; exact zA
  have gB' := gB
  unfold rdO at gB'
  have esg : (s.take (atE s a)).drop a = seg s a (atE s a) := rfl
  repeat' (first | ((with_reducible refine brC (fun _ => ?_) fun _ => ?_) <;> try (exfalso; omega)) | (with_reducible apply pcallE.of; · exact cN) | (with_reducible refine And.intro ?_ ?_; · omega) | simp -dsimp -implicitDefEqProofs (disch := omega) only [↓vcOps_sp 42, ↓vcD_sp 42, VCA, pg_gl, ↓upd_none, Nat.reduceEqDiff, Nat.reduceBEq, Nat.reduceAdd, Nat.reduceSub, Nat.reduceMul, Nat.reduceLT, Nat.reduceLeDiff, ↓reduceIte, reduceCtorEq, rsOf, rootsOf, SOp.rd, SI.rd, SX.rd, rdL, rdO, rdP, okParts, eqCells, okEqCells, fillA, okFill, setAt, implies_true, forall_const, forall_eq, ne_eq, exists_eq_right_right, exists_eq_right, exists_eq_left, exists_eq_left', rootL, eAttr, lit_eq, deVp_tup, gB', esg, m1, hr'])
  intro r4 hr4
  have m3 : ¬ rb = r4 := fun q => by rw [← q, gB] at hr4; cases hr4
  have m4 : ¬ r4 = rb := fun q => m3 q.symm
  have m5 : ¬ r2 = r4 := fun q => by rw [← q, zB] at hr4; cases hr4
  have m6 : ¬ r4 = r2 := fun q => m5 q.symm
  have hr4' := none_off SB hr4
  repeat' (first | ((with_reducible refine brC (fun _ => ?_) fun _ => ?_) <;> try (exfalso; omega)) | (with_reducible refine And.intro ?_ ?_; · omega) | simp -dsimp -implicitDefEqProofs (disch := omega) only [↓vcOps_sp 42, ↓vcD_sp 42, VCA, pg_gl, ↓upd_none, Nat.reduceEqDiff, Nat.reduceBEq, Nat.reduceAdd, Nat.reduceSub, Nat.reduceMul, Nat.reduceLT, Nat.reduceLeDiff, ↓reduceIte, reduceCtorEq, rsOf, rootsOf, SOp.rd, SI.rd, SX.rd, rdL, rdO, rdP, okParts, eqCells, okEqCells, fillA, okFill, setAt, implies_true, forall_const, forall_eq, ne_eq, exists_eq_right_right, exists_eq_right, exists_eq_left, exists_eq_left', rootL, eAttr, lit_eq, deVp_tup, upd_same, m3, m4, gB', hr', m1])
  obtain ⟨nm, hnm⟩ : ∃ nm, attrNameM (seg s a (atE s a)) = nm := ⟨_, rfl⟩
  rw [hnm]
  obtain ⟨hC, hhC⟩ : ∃ hC, upd hB r4 (some ⟨.t 43, 2, [[.str nm, .str []]]⟩) = hC := ⟨_, rfl⟩
  have SC : Sub (upd h rb (some (rdO s (atE s a) en out))) hC := by rw [← hhC]; exact S_new SB hr4'.1 m4
  have gC := has_at SC
  have zC : hC r2 = some ⟨.t 43, 2, [[.str [], .str []]]⟩ := by rw [← hhC, upd_ne _ _ m5]; exact zB
  have yC : hC r4 = some ⟨.t 43, 2, [[.str nm, .str []]]⟩ := by rw [← hhC, upd_same]
  rw [hhC]
  refine DCalls.of (until_ok (G := G) gC (by omega) hs pA2) ?_
  rintro _ hD ⟨rfl, hhD⟩
  have eD : skipM notBlank s (atE s a) = atB s a := rfl
  rw [eD] at hhD
  have SD := S_next SC (by rw [hhD]; exact Sub.refl _ : Sub (upd hC rb (some (rdO s (atB s a) en out))) hD)
  have gD := has_at SD
  have zD : hD r2 = some ⟨.t 43, 2, [[.str [], .str []]]⟩ := by rw [hhD, upd_ne _ _ m2]; exact zC
  have yD : hD r4 = some ⟨.t 43, 2, [[.str nm, .str []]]⟩ := by rw [hhD, upd_ne _ _ m4]; exact yC
  unfold attrT
  rw [hnm]
  generalize atB s a = b at *
  have gD' := gD
  unfold rdO at gD'
  by_cases hbl : b < s.length
  · obtain ⟨q, hq⟩ : ∃ q, s.getD b 0 = q := ⟨_, rfl⟩
    have hbq : bt s b = q.toNat := by unfold bt; rw [hq]
    cases h61 : ((q.toNat : Int) == 61) with
    | true =>
      have hE : hasEq s b = true := by unfold hasEq; rw [decide_eq_true hbl, hbq, h61]; rfl
      rw [if_pos hE]
      have SE0 : Sub (upd h rb (some (rdO s (b + 1) en out))) (upd hD rb (some (rdO s (b + 1) en out))) := S_put SD
      obtain ⟨hE, hhE⟩ : ∃ hE, upd hD rb (some (rdO s (b + 1) en out)) = hE := ⟨_, rfl⟩
      rw [hhE] at SE0
      have gE := has_at SE0
      have zE : hE r2 = some ⟨.t 43, 2, [[.str [], .str []]]⟩ := by rw [← hhE, upd_ne _ _ m2]; exact zD
      have yE : hE r4 = some ⟨.t 43, 2, [[.str nm, .str []]]⟩ := by rw [← hhE, upd_ne _ _ m4]; exact yD
      have hV := tokValue_ok (G := G) hG gE (show b + 1 ≤ s.length by omega) hs
      obtain ⟨T, hT⟩ : ∃ T, valT s (skipM notBlank s (b + 1)) = T := ⟨_, rfl⟩
      rw [hT] at hV ⊢
      have cV := value_ok (G := G) (seg s T.1 T.2.1) (by have := seg_le s T.1 T.2.1; omega)
      repeat' (first | ((with_reducible refine brC (fun _ => ?_) fun _ => ?_) <;> try (exfalso; omega)) | (with_reducible refine And.intro ?_ ?_; · omega) | simp -dsimp -implicitDefEqProofs (disch := omega) only [↓vcOps_sp 42, ↓vcD_sp 42, VCA, pg_gl, ↓upd_none, Nat.reduceEqDiff, Nat.reduceBEq, Nat.reduceAdd, Nat.reduceSub, Nat.reduceMul, Nat.reduceLT, Nat.reduceLeDiff, ↓reduceIte, reduceCtorEq, rsOf, rootsOf, SOp.rd, SI.rd, SX.rd, rdL, rdO, rdP, okParts, eqCells, okEqCells, fillA, okFill, setAt, implies_true, forall_const, forall_eq, ne_eq, exists_eq_right_right, exists_eq_right, exists_eq_left, exists_eq_left', rootL, eAttr, lit_eq, deVp_tup, gD', hq, h61, upd_same])
      rw [rdO_one, hhE]
      refine DCalls.of hV ?_
      rintro _ hF ⟨rfl, SF⟩
      have SG := S_next SE0 SF
      have zF : hF r2 = some ⟨.t 43, 2, [[.str [], .str []]]⟩ := SF _ _ (by rw [upd_ne _ _ m2]; exact zE)
      have yF : hF r4 = some ⟨.t 43, 2, [[.str nm, .str []]]⟩ := SF _ _ (by rw [upd_ne _ _ m4]; exact yE)
      repeat' (first | ((with_reducible refine brC (fun _ => ?_) fun _ => ?_) <;> try (exfalso; omega)) | (with_reducible apply pcallE.of; · exact cV) | (with_reducible refine And.intro ?_ ?_; · omega) | simp -dsimp -implicitDefEqProofs (disch := omega) only [↓vcOps_sp 42, ↓vcD_sp 42, VCA, pg_gl, ↓upd_none, Nat.reduceEqDiff, Nat.reduceBEq, Nat.reduceAdd, Nat.reduceSub, Nat.reduceMul, Nat.reduceLT, Nat.reduceLeDiff, ↓reduceIte, reduceCtorEq, rsOf, rootsOf, SOp.rd, SI.rd, SX.rd, rdL, rdO, rdP, okParts, eqCells, okEqCells, fillA, okFill, setAt, implies_true, forall_const, forall_eq, ne_eq, exists_eq_right_right, exists_eq_right, exists_eq_left, exists_eq_left', rootL, eAttr, lit_eq, deVp_tup, yF, zF, upd_same, m5, m6])
      exact ⟨_, Sub.refl _, S_new (S_new SG hr4'.1 m4) hr2 m2⟩
    | false =>
      have hE : hasEq s b = false := by unfold hasEq; rw [hbq, h61]; simp
      rw [if_neg (by rw [hE]; simp)]
      repeat' (first | ((with_reducible refine brC (fun _ => ?_) fun _ => ?_) <;> try (exfalso; omega)) | (with_reducible refine And.intro ?_ ?_; · omega) | simp -dsimp -implicitDefEqProofs (disch := omega) only [↓vcOps_sp 42, ↓vcD_sp 42, VCA, pg_gl, ↓upd_none, Nat.reduceEqDiff, Nat.reduceBEq, Nat.reduceAdd, Nat.reduceSub, Nat.reduceMul, Nat.reduceLT, Nat.reduceLeDiff, ↓reduceIte, reduceCtorEq, rsOf, rootsOf, SOp.rd, SI.rd, SX.rd, rdL, rdO, rdP, okParts, eqCells, okEqCells, fillA, okFill, setAt, implies_true, forall_const, forall_eq, ne_eq, exists_eq_right_right, exists_eq_right, exists_eq_left, exists_eq_left', rootL, eAttr, lit_eq, deVp_tup, gD', hq, h61, yD, zD, upd_same])
      exact ⟨_, Sub.refl _, S_new SD hr2 m2⟩
  · have hE : hasEq s b = false := by unfold hasEq; rw [decide_eq_false hbl]; simp
    rw [if_neg (by rw [hE]; simp)]
    repeat' (first | ((with_reducible refine brC (fun _ => ?_) fun _ => ?_) <;> try (exfalso; omega)) | (with_reducible refine And.intro ?_ ?_; · omega) | simp -dsimp -implicitDefEqProofs (disch := omega) only [↓vcOps_sp 42, ↓vcD_sp 42, VCA, pg_gl, ↓upd_none, Nat.reduceEqDiff, Nat.reduceBEq, Nat.reduceAdd, Nat.reduceSub, Nat.reduceMul, Nat.reduceLT, Nat.reduceLeDiff, ↓reduceIte, reduceCtorEq, rsOf, rootsOf, SOp.rd, SI.rd, SX.rd, rdL, rdO, rdP, okParts, eqCells, okEqCells, fillA, okFill, setAt, implies_true, forall_const, forall_eq, ne_eq, exists_eq_right_right, exists_eq_right, exists_eq_left, exists_eq_left', rootL, eAttr, lit_eq, deVp_tup, gD', yD, zD, upd_same])
    exact ⟨_, Sub.refl _, S_new SD hr2 m2⟩
end Go.Proofs.K
end
section
set_option linter.unusedSimpArgs false
set_option linter.unusedVariables false
namespace Go.Proofs.K
open Go Go.Sim Go.Proofs
section
variable {d : HDoc}
theorem upF_congr {d' : HDoc} (V : DV d) (h : ∀ m, inD d m → (nd d' m).parent = (nd d m).parent) : ∀ (f : Nat) (n : Int), inD d n → upF f d' n = upF f d n
  | 0, _, _ => rfl
  | f + 1, n, hn => by
    unfold upF
    rw [h n hn]
    by_cases hp : 0 ≤ (nd d n).parent
    · rw [if_pos hp, if_pos hp, upF_congr V h f _ (V.par_in hn hp).1]
    · rw [if_neg hp, if_neg hp]
def addN (d : HDoc) (x : HNode) : HDoc := ⟨d.nodes ++ [x], d.quirks⟩
theorem addN_len (x : HNode) : (addN d x).nodes.length = d.nodes.length + 1 := by simp [addN]
theorem nd_addN {x : HNode} {m : Int} (hm : inD d m) : nd (addN d x) m = nd d m := by
  have h := hm.nat
  unfold nd addN nth
  rw [List.getD_eq_getElem?_getD, List.getD_eq_getElem?_getD, List.getElem?_append_left h.1]
theorem nd_addN_new (x : HNode) : nd (addN d x) (d.nodes.length : Int) = x := by
  unfold nd addN nth
  rw [List.getD_eq_getElem?_getD]; simp
theorem inD_addN {x : HNode} {m : Int} : inD (addN d x) m ↔ inD d m ∨ m = d.nodes.length := by unfold inD; rw [addN_len]; omega
theorem up_addN (V : DV d) {x : HNode} {m : Int} (hm : inD d m) : up (addN d x) m = up d m := by
  have h1 : upF (d.nodes.length + 1 + 1) (addN d x) m = upF (d.nodes.length + 1 + 1) d m := upF_congr V (fun k hk => by rw [nd_addN hk]) _ m hm
  have h2 : up (addN d x) m = upF (d.nodes.length + 1 + 1) (addN d x) m := by unfold up; rw [addN_len]
  rw [h2, h1]
  have h3 := V.fin m hm
  exact upF_mono (f := d.nodes.length + 1) (by unfold up at h3; omega) (by omega)
theorem DV.add (V : DV d) {x : HNode} (hp : x.parent = -1) (hc : x.kids = []) (h1 : x.kind ≠ 1) : DV (addN d x) ↔ nodeE x = 0 ∧ d.nodes.length < 200 := by
  have new := nd_addN_new (d := d) x
  have inew : inD (addN d x) (d.nodes.length : Int) := inD_addN.2 (.inr rfl)
  constructor
  · intro W
    have h2 := W.node _ inew
    have h3 := W.len
    rw [new] at h2
    rw [addN_len] at h3
    exact ⟨h2, by omega⟩
  · rintro ⟨hx, hl⟩
    have z := V.pos
    have upn : up (addN d x) (d.nodes.length : Int) = 0 := by
      unfold up upF
      rw [new, if_neg (by omega)]
    refine ⟨by rw [addN_len]; omega, by rw [addN_len]; omega, fun m hm => ?_, fun m hm => ?_, fun m hm k hk' => ?_, fun m hm => ?_, fun k hk' => ?_, fun m hm => ?_, ?_, fun m hm => ?_, fun m hm => ?_⟩
    · rcases inD_addN.1 hm with hm | rfl
      · rw [nd_addN hm]; exact V.kind m hm
      · rw [new]; constructor
        · intro h; exact absurd h h1
        · intro h; omega
    · rcases inD_addN.1 hm with hm | rfl
      · rw [nd_addN hm]; exact V.node m hm
      · rw [new]; exact hx
    · rcases inD_addN.1 hm with hm | rfl
      · rw [nd_addN hm] at hk'
        obtain ⟨g1, g2⟩ := V.kid m hm k hk'
        exact ⟨inD_addN.2 (.inl g1), by rw [nd_addN g1]; exact g2⟩
      · rw [new, hc] at hk'; cases hk'
    · rcases inD_addN.1 hm with hm | rfl
      · rw [nd_addN hm]; exact V.nodup m hm
      · rw [new, hc]; exact .nil
    · rw [nd_addN V.zero] at hk'
      rw [nd_addN (V.kid 0 V.zero k hk').1]; exact V.top k hk'
    · rcases inD_addN.1 hm with hm | rfl
      · rw [nd_addN hm]
        rcases V.par m hm with h | ⟨g1, g2⟩
        · exact .inl h
        · exact .inr ⟨inD_addN.2 (.inl g1), by rw [nd_addN g1]; exact g2⟩
      · rw [new]; exact .inl hp
    · rw [nd_addN V.zero]; exact V.root
    · rcases inD_addN.1 hm with hm | rfl
      · rw [up_addN V hm, addN_len]; have := V.fin m hm; omega
      · rw [upn]; omega
    · rcases inD_addN.1 hm with hm | rfl
      · rw [up_addN V hm]; exact V.deep m hm
      · rw [upn]; omega
section
variable {a t : Int} {i : Nat}
end
section
variable {n : Int} {i : Nat}
end
end
end Go.Proofs.K
end
section
set_option linter.unusedSimpArgs false
set_option linter.unusedVariables false
namespace Go.Proofs.K
open Go Go.Sim Go.Proofs
structure HEdit where
  do' : Int
  at' : Int
  into : Int
  before : Int
  name : List UInt8
  value : List UInt8
  node : HNode
deriving DecidableEq, Inhabited
def eEdit (e : HEdit) : List AVal := [aInt e.do', aInt e.at', aInt e.into, aInt e.before, .str e.name, .str e.value, aInt e.node.kind, .str e.node.name, sl eAttr e.node.attrs, .str e.node.text, aInt e.node.parent, sl eInt e.node.kids]
instance : LenE eEdit 12 := ⟨fun _ => rfl⟩
structure EditSm (e : HEdit) : Prop where
  name : e.name.length ≤ 1073741824
  value : e.value.length ≤ 1073741824
  node : NodeSm e.node
section
variable {d : HDoc}
end
section
variable {d : HDoc}
end
end Go.Proofs.K
end
section
set_option linter.unusedSimpArgs false
set_option linter.unusedVariables false
namespace Go.Proofs.K
open Go Go.Sim Go.Proofs
variable {G : Glob}
def rootOf : AVal → Option Nat
  | .osl r _ _ _ => some r
  | _ => none
def OwnS (h : Heap) (ty sz : Nat) (cells : List (List AVal)) (a : AVal) : Prop :=
  (cells = [] ∧ a = .emp) ∨ (a = .slc cells ∧ ∀ e ∈ cells, e.length = sz) ∨ ∃ r es, a = .osl r sz 0 cells.length ∧ h r = some ⟨ty, sz, es⟩ ∧ cells.length ≤ es.length ∧ es.take cells.length = cells
theorem OwnS.keep {h h2 : Heap} {ty sz : Nat} {cells : List (List AVal)} {a : AVal} (O : OwnS h ty sz cells a) (hk : ∀ r o, rootOf a = some r → h r = some o → h2 r = some o) : OwnS h2 ty sz cells a := by
  rcases O with O | O | ⟨r, es, ha, hr, h1, h2⟩
  · exact .inl O
  · exact .inr (.inl O)
  · exact .inr (.inr ⟨r, es, ha, hk r _ (by rw [ha]; rfl) hr, h1, h2⟩)
theorem OwnS.len {h : Heap} {ty sz : Nat} {cells : List (List AVal)} {a : AVal} (O : OwnS h ty sz cells a) : aLen a = aInt cells.length ∧ okLen a = True := by
  rcases O with ⟨h1, h2⟩ | ⟨h2, _⟩ | ⟨r, es, ha, _⟩
  · subst h1; subst h2; exact ⟨rfl, rfl⟩
  · subst h2; exact ⟨rfl, rfl⟩
  · subst ha; exact ⟨rfl, rfl⟩
theorem OwnS.vw {α : Type} [Inhabited α] {enc : α → List AVal} {h : Heap} {ty sz : Nat} [LenE enc sz] {l : List α} {a : AVal} (O : OwnS h ty sz (l.map enc) a) : Vw h a (sl enc l) := by
  rcases O with ⟨h1, h2⟩ | ⟨h2, _⟩ | ⟨r, es, ha, hr, h1, h2⟩
  · have : l = [] := by simpa using h1
    subst this; subst h2; exact .emp
  · subst h2; exact .refl _
  · subst ha
    refine .osl r sz 0 _ ⟨ty, sz, es⟩ (l.map enc) hr (by simpa using h1) rfl (fun f hf => by obtain ⟨x, _, rfl⟩ := List.mem_map.1 hf; exact LenE.len x) fun k j e f x y he hf hx hy => ?_
    have hk : k < (l.map enc).length := (List.getElem?_eq_some_iff.1 hf).1
    simp only [Nat.zero_add] at he
    have he' : (es.take (l.map enc).length)[k]? = some e := by rw [List.getElem?_take, if_pos hk]; exact he
    rw [h2] at he'
    rw [he'] at hf
    cases hf
    rw [hx] at hy; cases hy; exact .refl _
def rowA (x : HNode) (a k : AVal) : List AVal := [aInt x.kind, .str x.name, a, .str x.text, aInt x.parent, k]
def rowsA (d : HDoc) (sl : Nat → AVal) : List (List AVal) := (List.range d.nodes.length).map fun i => rowA (nth d.nodes i) (sl (2 * i)) (sl (2 * i + 1))
theorem rowsA_len (d : HDoc) (sl : Nat → AVal) : (rowsA d sl).length = d.nodes.length := by simp [rowsA]
structure Dw (X : List Nat) (h0 h : Heap) (rN : Nat) (d : HDoc) (sl : Nat → AVal) : Prop where
  sub : Sim.Sub h0 h
  nodes : h rN = some ⟨.t 53, 6, rowsA d sl⟩
  new : h0 rN = none ∧ rN ∉ X
  own : ∀ i, i < d.nodes.length → OwnS h 43 2 ((nth d.nodes i).attrs.map eAttr) (sl (2 * i)) ∧ OwnS h 3 1 ((nth d.nodes i).kids.map eInt) (sl (2 * i + 1))
  fresh : ∀ k, k < 2 * d.nodes.length → ∀ r, rootOf (sl k) = some r → h0 r = none ∧ r ≠ rN ∧ r ∉ X
  sep : ∀ j k, j < 2 * d.nodes.length → k < 2 * d.nodes.length → j ≠ k → ∀ r, rootOf (sl j) = some r → rootOf (sl k) ≠ some r
  keep : ∀ r ∈ X, ∃ o, h r = some o
theorem Dw.vw {X : List Nat} {h0 h : Heap} {rN : Nat} {d : HDoc} {sl' : Nat → AVal} (E : Dw X h0 h rN d sl') : Vw h (.osl rN 6 0 d.nodes.length) (sl eNode d.nodes) := by
  refine Vw.osl0 E.nodes (by simp) (by rw [rowsA_len]; exact Nat.le_refl _) (fun f hf => by obtain ⟨x, _, rfl⟩ := List.mem_map.1 hf; rfl) ?_
  show F2 (F2 (Vw h)) ((rowsA d sl').take d.nodes.length) (d.nodes.map eNode)
  rw [List.take_of_length_le (by rw [rowsA_len]; exact Nat.le_refl _)]
  have key : ∀ (i : Nat), i < d.nodes.length → F2 (Vw h) (rowA (nth d.nodes i) (sl' (2 * i)) (sl' (2 * i + 1))) (eNode (nth d.nodes i)) := fun i hi => by
    obtain ⟨g1, g2⟩ := E.own i hi
    exact .cons (.refl _) (.cons (.refl _) (.cons g1.vw (.cons (.refl _) (.cons (.refl _) (.cons g2.vw .nil)))))
  have e : d.nodes.map eNode = (List.range d.nodes.length).map fun i => eNode (nth d.nodes i) := by
    apply List.ext_getElem?
    intro j
    by_cases hj : j < d.nodes.length
    · rw [List.getElem?_map, List.getElem?_map, List.getElem?_range hj, nth_some hj]; rfl
    · rw [List.getElem?_eq_none (by simp; omega), List.getElem?_eq_none (by simp; omega)]
  rw [e]
  unfold rowsA
  have gen : ∀ l : List Nat, (∀ i ∈ l, i < d.nodes.length) → F2 (F2 (Vw h)) (l.map fun i => rowA (nth d.nodes i) (sl' (2 * i)) (sl' (2 * i + 1))) (l.map fun i => eNode (nth d.nodes i)) := fun l => by
    induction l with
    | nil => intro _; exact .nil
    | cons i l ih => intro hl; exact .cons (key i (hl i List.mem_cons_self)) (ih fun j hj => hl j (List.mem_cons_of_mem _ hj))
  exact gen _ fun i hi => List.mem_range.1 hi
end Go.Proofs.K
end
section
set_option linter.unusedSimpArgs false
set_option linter.unusedVariables false
namespace Go.Proofs.K
open Go Go.Sim Go.Proofs
variable {G : Glob}
theorem _root_.Go.Sim.Acc.re {h1 h2 h1' h2' : Heap} {ty : TypeId} {sz : Nat} {cells : List (List AVal)} {a : AVal} (A : Acc h1 ty sz cells a h2) (hd : ∀ r o, h1 r = none → h2 r = some o → h1' r = none ∧ h2' r = some o) : Acc h1' ty sz cells a h2' := by
  rcases A with h | ⟨r, h0, h1, h2⟩
  · exact .inl h
  · exact .inr ⟨r, (hd r _ h0 h1).1, (hd r _ h0 h1).2, h2⟩
theorem _root_.Go.Sim.Acc.keepA {h h1 : Heap} {ty : TypeId} {sz : Nat} {cells : List (List AVal)} {a : AVal} (A : Acc h ty sz cells a h1) {r2 : Nat} (hn : rootOf a ≠ some r2) (o : Option AObj) : Acc h ty sz cells a (upd h1 r2 o) := by
  rcases A with q | ⟨r, q0, q1, q2⟩
  · exact .inl q
  · have : r ≠ r2 := fun e => hn (by rw [q2, e]; rfl)
    exact .inr ⟨r, q0, by rw [upd_ne _ _ this]; exact q1, q2⟩
theorem _root_.Go.Sim.Acc.vw {h h' : Heap} {ty : TypeId} {sz : Nat} {cells : List (List AVal)} {a : AVal} (A : Acc h ty sz cells a h') (hl : ∀ f ∈ cells, f.length = sz) : Vw (newH h h') a (.slc cells) := by
  rcases A with ⟨rfl, rfl⟩ | ⟨r, h0, h1, rfl⟩
  · exact .emp
  · exact Vw.osl0 (by rw [newH_none h0]; exact h1) rfl (Nat.le_refl _) hl (by rw [List.take_length]; exact F2.refl (F2.refl .refl) _)
theorem _root_.Go.Sim.Acc.appW {h h' : Heap} {ty : TypeId} {sz b : Nat} {cells es2 : List (List AVal)} {a : AVal} {K : AVal → Heap → Prop} (A : Acc h ty sz cells a h') (S : Sub h h')
    (h1 : (cells.length + es2.length) * b ≤ 140737488355328) (h2 : cells.length + es2.length ≤ 140737488355328)
    (hk : ∀ a' h'', Acc h ty sz (cells ++ es2) a' h'' → Sub h h'' → (∀ r o, h' r = some o → rootOf a ≠ some r → h'' r = some o ∧ rootOf a' ≠ some r) → K a' h'') : Hd (appE ty sz b a es2 h') K .mk := by
  rcases A with ⟨rfl, rfl⟩ | ⟨r, h0, hr, rfl⟩
  · refine ⟨by simpa using h1, by simpa using h2, fun r hr => hk _ _ ?_ (S.upd (S.none hr)) fun x o hx _ => ?_⟩
    · exact .inr ⟨r, S.none hr, by simp, rfl⟩
    · have : x ≠ r := fun e => by rw [e, hr] at hx; cases hx
      exact ⟨by rw [upd_ne _ _ this]; exact hx, fun e => this (by cases e; rfl)⟩
  · refine ⟨rfl, _, hr, rfl, by simp, h1, h2, fun r' hr' => hk _ _ ?_ ?_ fun x o hx hn => ?_⟩
    · have hn : h r' = none := (S.del h0).none hr'
      refine .inr ⟨r', hn, by simp, by simp⟩
    · exact (S.del h0).upd ((S.del h0).none hr')
    · have hxr : x ≠ r := fun e => hn (by rw [e]; rfl)
      have hd : del h' r x = some o := by unfold del; rw [if_neg hxr]; exact hx
      have : x ≠ r' := fun e => by rw [e, hr'] at hd; cases hd
      exact ⟨by rw [upd_ne _ _ this]; exact hd, fun e => this (by cases e; rfl)⟩
end Go.Proofs.K
end
section
set_option linter.unusedSimpArgs false
set_option linter.unusedVariables false
namespace Go.Proofs.K
open Go Go.Sim Go.Proofs
variable {G : Glob}
abbrev Ta : Nat := 43
theorem idxOwn_ok {h0 h : Heap} {a : AVal} (L : List HAttr) (A : Acc h0 Ta 2 (L.map eAttr) a h) (f : Nat) (fa fb : List AVal) (p : HAttr → Bool) (hl : L.length ≤ 1073741824)
    (hp : ∀ x, DCalls (Pg G) f (fa ++ ([.agg (eAttr x)] ++ fb)) h fun r h' => r = .bool (p x) ∧ h' = h) : DCalls (Pg G) 114 [a, .fn f fa fb] h fun r h' => r = aInt (idxM p L) ∧ h' = h := by
  rcases A with ⟨h1, rfl⟩ | ⟨r, _, hr, rfl⟩
  · have hL : L = [] := by simpa using h1
    subst hL
    have e1 : idxM p ([] : List HAttr) = -1 := rfl
    rw [e1]
    refine dcalls_of_vc Tryd.func114 hn114 hc114 (by rw [Tryd.ntmps114]; simp) (by rw [Tryd.ntmps114]; decide) ?_
    simp -dsimp -implicitDefEqProofs (disch := omega) only [VCA, pg_gl, ↓upd_none, Nat.reduceEqDiff, Nat.reduceBEq, Nat.reduceAdd, Nat.reduceSub, Nat.reduceMul, Nat.reduceLT, Nat.reduceLeDiff, ↓reduceIte, reduceCtorEq, rsOf, rootsOf, SOp.rd, SI.rd, SX.rd, rdL, rdO, rdP, okParts, eqCells, okEqCells, fillA, okFill, setAt, implies_true, forall_const, forall_eq, ne_eq, exists_eq_right_right, exists_eq_right, exists_eq_left, exists_eq_left', rootL, eAttr, lit_eq, deVp_tup, c114]
    refine LoopVC.intro (fun m e h' => e 7 = aInt 0 ∧ e 8 = aInt 0 ∧ h' = h) 0 ⟨rfl, rfl, rfl⟩ ?_
    rintro m e h' ⟨e7, e8, rfl⟩
    repeat' (first | ((with_reducible refine brC (fun _ => ?_) fun _ => ?_) <;> try (exfalso; omega)) | (with_reducible refine And.intro ?_ ?_; · omega) | simp -dsimp -implicitDefEqProofs (disch := omega) only [VCA, pg_gl, ↓upd_none, Nat.reduceEqDiff, Nat.reduceBEq, Nat.reduceAdd, Nat.reduceSub, Nat.reduceMul, Nat.reduceLT, Nat.reduceLeDiff, ↓reduceIte, reduceCtorEq, rsOf, rootsOf, SOp.rd, SI.rd, SX.rd, rdL, rdO, rdP, okParts, eqCells, okEqCells, fillA, okFill, setAt, implies_true, forall_const, forall_eq, ne_eq, exists_eq_right_right, exists_eq_right, exists_eq_left, exists_eq_left', rootL, eAttr, lit_eq, deVp_tup, e7, e8])
    all_goals first | (exfalso; omega) | exact Sub.refl _ | exact ⟨Sub.refl _, rfl⟩ | trace_state
  · rw [List.length_map]
    refine dcalls_of_vc Tryd.func114 hn114 hc114 (by rw [Tryd.ntmps114]; simp) (by rw [Tryd.ntmps114]; decide) ?_
    simp -dsimp -implicitDefEqProofs (disch := omega) only [VCA, pg_gl, ↓upd_none, Nat.reduceEqDiff, Nat.reduceBEq, Nat.reduceAdd, Nat.reduceSub, Nat.reduceMul, Nat.reduceLT, Nat.reduceLeDiff, ↓reduceIte, reduceCtorEq, rsOf, rootsOf, SOp.rd, SI.rd, SX.rd, rdL, rdO, rdP, okParts, eqCells, okEqCells, fillA, okFill, setAt, implies_true, forall_const, forall_eq, ne_eq, exists_eq_right_right, exists_eq_right, exists_eq_left, exists_eq_left', rootL, eAttr, lit_eq, deVp_tup, c114]
    refine LoopVC.intro (fun m e h' => ∃ k : Nat, k ≤ L.length ∧ m = L.length - k ∧ e 0 = .osl r 2 0 L.length ∧ e 1 = .fn f fa fb ∧ e 7 = aInt L.length ∧ e 8 = aInt k ∧ h' = h ∧ ∀ j, j < k → p (nth L j) = false) L.length ⟨0, by omega, by omega, rfl, rfl, rfl, rfl, rfl, by omega⟩ ?_
    rintro m e h' ⟨k, hk, rfl, e0, e1, e7, e8, rfl, hj⟩
    by_cases hlt : k < L.length
    · have hat : (L.map eAttr).getD k [] = eAttr (nth L k) := getD_map_enc hlt
      obtain ⟨x, hx⟩ : ∃ x, nth L k = x := ⟨_, rfl⟩
      rw [hx] at hat
      have hpx := hp x
      unfold eAttr at hpx
      cases hb : p x with
      | true =>
        rw [hb] at hpx
        repeat' (first | ((with_reducible refine brC (fun _ => ?_) fun _ => ?_) <;> try (exfalso; omega)) | ((refine DCalls.of hpx ?_; rintro _ _ ⟨rfl, rfl⟩)) | (with_reducible refine And.intro ?_ ?_; · omega) | simp -dsimp -implicitDefEqProofs (disch := omega) only [VCA, pg_gl, ↓upd_none, Nat.reduceEqDiff, Nat.reduceBEq, Nat.reduceAdd, Nat.reduceSub, Nat.reduceMul, Nat.reduceLT, Nat.reduceLeDiff, ↓reduceIte, reduceCtorEq, rsOf, rootsOf, SOp.rd, SI.rd, SX.rd, rdL, rdO, rdP, okParts, eqCells, okEqCells, fillA, okFill, setAt, implies_true, forall_const, forall_eq, ne_eq, exists_eq_right_right, exists_eq_right, exists_eq_left, exists_eq_left', rootL, eAttr, lit_eq, deVp_tup, e0, e1, e7, e8, hr, hat])
        exact ⟨Sub.refl _, (idxM_some hlt hj (by rw [hx]; exact hb)).symm⟩
      | false =>
        rw [hb] at hpx
        repeat' (first | ((with_reducible refine brC (fun _ => ?_) fun _ => ?_) <;> try (exfalso; omega)) | ((refine DCalls.of hpx ?_; rintro _ _ ⟨rfl, rfl⟩)) | (with_reducible refine And.intro ?_ ?_; · omega) | simp -dsimp -implicitDefEqProofs (disch := omega) only [VCA, pg_gl, ↓upd_none, Nat.reduceEqDiff, Nat.reduceBEq, Nat.reduceAdd, Nat.reduceSub, Nat.reduceMul, Nat.reduceLT, Nat.reduceLeDiff, ↓reduceIte, reduceCtorEq, rsOf, rootsOf, SOp.rd, SI.rd, SX.rd, rdL, rdO, rdP, okParts, eqCells, okEqCells, fillA, okFill, setAt, implies_true, forall_const, forall_eq, ne_eq, exists_eq_right_right, exists_eq_right, exists_eq_left, exists_eq_left', rootL, eAttr, lit_eq, deVp_tup, e0, e1, e7, e8, hr, hat])
        refine ⟨_, by omega, k + 1, by omega, rfl, by omega, fun j hj' => ?_⟩
        by_cases h1 : j = k
        · subst h1; rw [hx]; exact hb
        · exact hj j (by omega)
    · obtain rfl : k = L.length := by omega
      rw [idxM_none hj]
      repeat' (first | ((with_reducible refine brC (fun _ => ?_) fun _ => ?_) <;> try (exfalso; omega)) | (with_reducible refine And.intro ?_ ?_; · omega) | simp -dsimp -implicitDefEqProofs (disch := omega) only [VCA, pg_gl, ↓upd_none, Nat.reduceEqDiff, Nat.reduceBEq, Nat.reduceAdd, Nat.reduceSub, Nat.reduceMul, Nat.reduceLT, Nat.reduceLeDiff, ↓reduceIte, reduceCtorEq, rsOf, rootsOf, SOp.rd, SI.rd, SX.rd, rdL, rdO, rdP, okParts, eqCells, okEqCells, fillA, okFill, setAt, implies_true, forall_const, forall_eq, ne_eq, exists_eq_right_right, exists_eq_right, exists_eq_left, exists_eq_left', rootL, eAttr, lit_eq, deVp_tup, e0, e1, e7, e8])
      exact Sub.refl _
def c108 : SFun := ⟨.seq (.reg [⟨some 4, .mv (.c (.bool false)), none⟩]) (.seq (.reg [⟨some 5, .mv (.t 0), none⟩, ⟨some 6, .mv (.t 1), none⟩, ⟨some 7, .call (.c (.fn 114 [] [])) [.t 5, .t 6], none⟩, ⟨some 8, .bin .geq (.t 7) (.c (.int .i64 0)), none⟩, ⟨some 4, .mv (.t 8), none⟩]) .ret), [.tmp 4]⟩
theorem hc108 : toSF Tryd.prog {} Tryd.f108 = some c108 := by kernel_rfl
theorem hn108 : (Tryd.f108.name == "runtime.NumGoroutine") = false := by kernel_rfl
theorem conOwn_ok {h0 h : Heap} {a : AVal} (L : List HAttr) (A : Acc h0 Ta 2 (L.map eAttr) a h) (f : Nat) (fa fb : List AVal) (p : HAttr → Bool) (hl : L.length ≤ 1073741824)
    (hp : ∀ x, DCalls (Pg G) f (fa ++ ([.agg (eAttr x)] ++ fb)) h fun r h' => r = .bool (p x) ∧ h' = h) : DCalls (Pg G) 108 [a, .fn f fa fb] h fun r h' => r = .bool (L.any p) ∧ h' = h := by
  refine dcalls_of_vc Tryd.func108 hn108 hc108 (by rw [Tryd.ntmps108]; simp) (by rw [Tryd.ntmps108]; decide) ?_
  simp -dsimp -implicitDefEqProofs (disch := omega) only [VCA, pg_gl, ↓upd_none, Nat.reduceEqDiff, Nat.reduceBEq, Nat.reduceAdd, Nat.reduceSub, Nat.reduceMul, Nat.reduceLT, Nat.reduceLeDiff, ↓reduceIte, reduceCtorEq, rsOf, rootsOf, SOp.rd, SI.rd, SX.rd, rdL, rdO, rdP, okParts, eqCells, okEqCells, fillA, okFill, setAt, implies_true, forall_const, forall_eq, ne_eq, exists_eq_right_right, exists_eq_right, exists_eq_left, exists_eq_left', rootL, eAttr, lit_eq, deVp_tup, c108]
  refine DCalls.of (idxOwn_ok (G := G) L A f fa fb p hl hp) ?_
  rintro _ _ ⟨rfl, rfl⟩
  simp -dsimp -implicitDefEqProofs (disch := omega) only [VCA, pg_gl, ↓upd_none, Nat.reduceEqDiff, Nat.reduceBEq, Nat.reduceAdd, Nat.reduceSub, Nat.reduceMul, Nat.reduceLT, Nat.reduceLeDiff, ↓reduceIte, reduceCtorEq, rsOf, rootsOf, SOp.rd, SI.rd, SX.rd, rdL, rdO, rdP, okParts, eqCells, okEqCells, fillA, okFill, setAt, implies_true, forall_const, forall_eq, ne_eq, exists_eq_right_right, exists_eq_right, exists_eq_left, exists_eq_left', rootL, eAttr, lit_eq, deVp_tup]
  exact ⟨Sub.refl _, idxM_any p L⟩
def c109 : SFun := ⟨.seq (.reg [⟨some 2, .boxF 43 2 (.t 0), none⟩, ⟨some 3, .mv (.c (.bool false)), none⟩]) (.seq (.reg [⟨some 4, .fldA 0 (.t 2), none⟩, ⟨some 5, .ld 1 false (.t 4), none⟩, ⟨some 6, .fldA 0 (.t 1), none⟩, ⟨some 7, .ld 1 false (.t 6), none⟩, ⟨some 8, .bin .eql (.t 5) (.t 7), none⟩, ⟨some 3, .mv (.t 8), none⟩]) .ret), [.tmp 3]⟩
theorem hc109 : toSF Tryd.prog {} Tryd.f109 = some c109 := by kernel_rfl
theorem hn109 : (Tryd.f109.name == "runtime.NumGoroutine") = false := by kernel_rfl
theorem tag3_ok {h : Heap} {r7 : Nat} {y : HAttr} (hr : h r7 = some ⟨Ta, 2, [eAttr y]⟩) (x : HAttr) : DCalls (Pg G) 109 [.agg (eAttr x), .vp r7 0] h fun r h' => r = .bool (x.name == y.name) ∧ h' = h := by
  unfold eAttr at hr
  refine dcalls_of_vc Tryd.func109 hn109 hc109 (by rw [Tryd.ntmps109]; simp) (by rw [Tryd.ntmps109]; decide) ?_
  simp -dsimp -implicitDefEqProofs (disch := omega) only [VCA, pg_gl, ↓upd_none, Nat.reduceEqDiff, Nat.reduceBEq, Nat.reduceAdd, Nat.reduceSub, Nat.reduceMul, Nat.reduceLT, Nat.reduceLeDiff, ↓reduceIte, reduceCtorEq, rsOf, rootsOf, SOp.rd, SI.rd, SX.rd, rdL, rdO, rdP, okParts, eqCells, okEqCells, fillA, okFill, setAt, implies_true, forall_const, forall_eq, ne_eq, exists_eq_right_right, exists_eq_right, exists_eq_left, exists_eq_left', rootL, eAttr, lit_eq, deVp_tup, c109, eAttr, hr]
  exact Sub.refl _
def tokA (k : Int) (nm : List UInt8) (l : AVal) (sf : Bool) : List AVal := [aInt k, .str nm, l, .str [], .bool sf, aInt 0, aInt 0]
abbrev Tt : Nat := 41
theorem addA_len (L : List HAttr) (x : HAttr) : (addA L x).length ≤ L.length + 1 := by unfold addA; split <;> simp
theorem val_le {s : List UInt8} {c : Nat} (hc : c ≤ s.length) : c ≤ (valT s c).2.2 ∧ (valT s c).2.2 ≤ s.length := by
  unfold valT
  split
  · rename_i hq
    have hcl : c < s.length := by
      unfold quoteAt at hq
      simp only [Bool.and_eq_true, decide_eq_true_eq] at hq
      exact hq.1
    have F := fstI (q := fun i => bt s i == bt s c) (n := s.length) (a := c + 1) (by omega)
    have := F.ge
    have := F.le
    simp only
    split <;> omega
  · have := skip_le (q := valStop) hc
    exact this
theorem attr_next {s : List UInt8} {a : Nat} (ha : a < s.length) : a < (attrT s a).2 ∧ (attrT s a).2 ≤ s.length := by
  obtain ⟨n1, n2, n3⟩ := att_next ha
  unfold attrT
  split
  · rename_i hq
    have hb : atB s a < s.length := by
      unfold hasEq at hq
      simp only [Bool.and_eq_true, decide_eq_true_eq] at hq
      exact hq.1
    have h1 := skip_le (q := notBlank) (s := s) (a := atB s a + 1) (by omega)
    have h2 := val_le h1.2
    simp only
    omega
  · simp only
    omega
theorem acc_next {h h1 h2 : Heap} {rb sz : Nat} {ty : TypeId} {x y : AObj} {cells : List (List AVal)} {a : AVal} (A : Acc (upd h rb (some x)) ty sz cells a h1) (S2 : Sub (upd h1 rb (some y)) h2) : Acc (upd h rb (some y)) ty sz cells a h2 :=
  A.re fun r o h0 h1' => by
    have hne : r ≠ rb := fun e => by subst e; rw [upd_same] at h0; cases h0
    exact ⟨by rw [upd_ne _ _ hne] at h0 ⊢; exact h0, S2 r o (by rw [upd_ne _ _ hne]; exact h1')⟩
theorem acc_new {h h1 : Heap} {r sz : Nat} {ty : TypeId} {cells : List (List AVal)} {a : AVal} (A : Acc h ty sz cells a h1) (h0 : h1 r = none) (o : Option AObj) : Acc h ty sz cells a (upd h1 r o) :=
  A.keepA (fun e => by
    rcases A with ⟨_, rfl⟩ | ⟨r', _, q1, rfl⟩
    · cases e
    · cases e; rw [h0] at q1; cases q1) o
theorem acc_ne {h h1 : Heap} {r sz sz' : Nat} {ty ty' : Nat} {cells es : List (List AVal)} {a : AVal} (A : Acc h (ty : TypeId) sz cells a h1) (h0 : h1 r = some ⟨.t ty', sz', es⟩) (hne : ty ≠ ty') : rootOf a ≠ some r := fun e => by
  rcases A with ⟨_, rfl⟩ | ⟨r', _, q1, rfl⟩
  · cases e
  · cases e; rw [h0] at q1; cases q1; exact hne rfl
def TagK (h : Heap) (rb : Nat) (s : List UInt8) (en : Nat) (out : AVal) (k : Int) (nm : List UInt8) (T : Option (List HAttr × Bool × Nat)) (r : AVal) (h' : Heap) : Prop :=
  ∃ L l sf b, Acc (upd h rb (some (rdO s b en out))) Ta 2 (L.map eAttr) l h' ∧ L.length ≤ s.length ∧ Sub (upd h rb (some (rdO s b en out))) h' ∧ b ≤ s.length ∧
    match T with
    | some q => r = .tup [.agg (tokA k nm l sf), .bool true] ∧ q = (L, sf, b)
    | none => r = .tup [.agg (tokA k nm l sf), .bool false] ∧ b = s.length
theorem hasSuf_ok (s p : List UInt8) (hs : s.length ≤ 1073741824) : PCalls (Pg G) 106 [.str s, .str p] (.bool (Lib.hasSuffix s p)) := by
  refine PCalls.ofRun ⟨_, Tryd.func106, by kernel_rfl, by kernel_rfl⟩ fun g w vs GR V => ?_
  obtain ⟨u, v, rfl, hu, hv⟩ := V.two_inv
  rw [hu.str_inv', hv.str_inv']
  exact (Tryd.strings_HasSuffix ⟨⟨s⟩⟩ ⟨⟨p⟩⟩ w (by show s.length ≤ _; omega)).mono fun e w' ⟨he, hw⟩ => ⟨_, he, hw, .bool _⟩
theorem suf_seg {s : List UInt8} {j u : Nat} (hj : j ≤ u) (hu : u ≤ s.length) : Lib.hasSuffix (seg s j u) [47] = (decide (j < u) && bt s (u - 1) == 47) := by
  have sl := seg_len (s := s) (a := j) hu
  rw [suffix_last, sl]
  by_cases h : j < u
  · rw [decide_eq_true (show 0 < u - j by omega), decide_eq_true h, bt_seg (by omega), show j + (u - j - 1) = u - 1 by omega]; rfl
  · rw [decide_eq_false (show ¬ 0 < u - j by omega), decide_eq_false h]; rfl
def c78_s2 : SCode := (.block 0 (.loop (.block 1 (.seq (.reg [⟨some 12, .mv (.t 0), none⟩, ⟨some 13, .call (.c (.fn 102 [] [])) [.t 12, .c (.fn 105 [] [])], none⟩, ⟨some 6, .mv (.t 13), none⟩]) (.seq (.seq (.dreg [(⟨some 14, .mv (.t 0), none⟩, none), (⟨some 15, .fldA 0 (.t 14), none⟩, none), (⟨some 16, .fldA 1 (.t 15), none⟩, none), (⟨some 17, .ld 1 false (.t 16), none⟩, none), (⟨some 18, .mv (.t 0), none⟩, none), (⟨some 19, .fldA 0 (.t 18), none⟩, none), (⟨some 20, .fldA 0 (.t 19), none⟩, none), (⟨some 21, .ld 1 false (.t 20), none⟩, none), (⟨some 22, .lenS (.t 21), none⟩, none), (⟨some 23, .bin .eql (.t 17) (.t 22), none⟩, none)]) (.cond (.t 23) (.seq (.reg [⟨some 24, .ld 7 true (.t 3), none⟩, ⟨none, .st 7 (.t 4) (.t 24), none⟩, ⟨some 5, .mv (.c (.bool false)), none⟩]) .ret) .skip)) (.seq (.seq (.dreg [(⟨some 25, .mv (.t 0), none⟩, none), (⟨some 26, .fldA 0 (.t 25), none⟩, none), (⟨some 27, .fldA 0 (.t 26), none⟩, none), (⟨some 28, .ld 1 false (.t 27), none⟩, none), (⟨some 29, .mv (.t 0), none⟩, none), (⟨some 30, .fldA 0 (.t 29), none⟩, none), (⟨some 31, .fldA 1 (.t 30), none⟩, none), (⟨some 32, .ld 1 false (.t 31), none⟩, none), (⟨some 33, .idxS (.t 28) (.t 32), none⟩, none), (⟨some 34, .bin .eql (.t 33) (.c (.int .u8 62)), none⟩, none)]) (.cond (.t 34) (.seq (.reg [⟨some 35, .mv (.t 0), none⟩, ⟨some 36, .fldA 0 (.t 35), none⟩, ⟨some 37, .fldA 1 (.t 36), none⟩, ⟨some 38, .ld 1 false (.t 37), none⟩, ⟨some 39, .bin .add (.t 38) (.c (.int .i64 1)), none⟩, ⟨some 40, .fldA 0 (.t 35), none⟩, ⟨some 41, .fldA 1 (.t 40), none⟩, ⟨none, .st 1 (.t 41) (.t 39), none⟩]) (.seq (.reg [⟨some 42, .mv (.t 6), none⟩, ⟨some 43, .pcall 106 [.t 42, .c (.str [47])], none⟩, ⟨some 44, .fldA 4 (.t 3), none⟩, ⟨none, .st 1 (.t 44) (.t 43), none⟩]) (.seq (.reg [⟨some 45, .ld 7 true (.t 3), none⟩, ⟨none, .st 7 (.t 4) (.t 45), none⟩, ⟨some 5, .mv (.c (.bool true)), none⟩]) .ret))) .skip)) (.seq (.reg [⟨some 46, .mv (.t 0), none⟩, ⟨some 47, .call (.c (.fn 107 [] [])) [.t 46], none⟩, ⟨some 7, .new 43 2 [.str [], .str []], none⟩, ⟨none, .st 2 (.t 7) (.t 47), none⟩]) (.seq (.reg [⟨some 48, .fldA 2 (.t 3), none⟩, ⟨some 49, .ld 1 false (.t 48), none⟩, ⟨some 50, .mkf 109 [] [.t 7], none⟩, ⟨some 51, .call (.c (.fn 108 [] [])) [.t 49, .t 50], none⟩, ⟨some 52, .un .not (.t 51), none⟩]) (.cond (.t 52) (.reg [⟨some 53, .fldA 2 (.t 3), none⟩, ⟨some 54, .ld 1 false (.t 53), none⟩, ⟨some 55, .ld 2 true (.t 7), none⟩, ⟨some 56, .bldF 43 2 [.t 55], none⟩, ⟨some 57, .app 43 2 32 (.t 54) (.t 56), none⟩, ⟨some 58, .fldA 2 (.t 3), none⟩, ⟨none, .st 1 (.t 58) (.t 57), none⟩]) .skip)))))))))
def c78 : SFun := ⟨.seq (.reg [⟨some 3, .box 41 7 (.t 1), none⟩, ⟨some 4, .new 41 7 [.int .i64 0, .str [], .emp, .str [], .bool false, .int .i64 0, .int .i64 0], none⟩, ⟨some 5, .mv (.c (.bool false)), none⟩]) (.seq (.reg [⟨some 8, .mv (.t 0), none⟩, ⟨some 9, .call (.c (.fn 102 [] [])) [.t 8, .c (.fn 103 [] [])], none⟩, ⟨some 10, .pcall 7 [.t 9], none⟩, ⟨some 11, .fldA 1 (.t 3), none⟩, ⟨none, .st 1 (.t 11) (.t 10), none⟩]) c78_s2), [.cell 4 7 true, .tmp 5]⟩
theorem hc78 : toSF Tryd.prog {pure := [7, 106], how := [(3, 6)]} Tryd.f78 = some c78 := by kernel_rfl
theorem hn78 : (Tryd.f78.name == "runtime.NumGoroutine") = false := by kernel_rfl
theorem tag_loop (hG : MaxLenOK G) {h : Heap} {rb r3 r4 : Nat} {s : List UInt8} {c en : Nat} {out : AVal} (k : Int) (nm : List UInt8) (hs : s.length ≤ 1000000) (hc : c ≤ s.length)
    {h1 : Heap} (S1 : Sub (upd h rb (some (rdO s c en out))) h1) (n3 : h r3 = none) (n4 : h r4 = none) (m3 : r3 ≠ rb) (m4 : r4 ≠ rb) (m34 : r3 ≠ r4)
    (z3 : h1 r3 = some ⟨Tt, 7, [tokA k nm .emp false]⟩) (z4 : h1 r4 = some ⟨Tt, 7, [[aInt 0, .str [], .emp, .str [], .bool false, aInt 0, aInt 0]]⟩)
    {e : Env} (e0 : e 0 = .vp rb 0) (e3 : e 3 = .vp r3 0) (e4 : e 4 = .vp r4 0) :
    vc (Pg G) c78_s2 (retK [.cell 4 7 true, .tmp 5] (TagK h rb s en out k nm (tagF s (s.length + 1) c []))) e h1 := by
  skip
  repeat' (first | ((with_reducible refine brC (fun _ => ?_) fun _ => ?_) <;> try (exfalso; omega)) | (with_reducible refine And.intro ?_ ?_; · omega) | simp -dsimp -implicitDefEqProofs (disch := omega) only [VCA, pg_gl, ↓upd_none, Nat.reduceEqDiff, Nat.reduceBEq, Nat.reduceAdd, Nat.reduceSub, Nat.reduceMul, Nat.reduceLT, Nat.reduceLeDiff, ↓reduceIte, reduceCtorEq, rsOf, rootsOf, SOp.rd, SI.rd, SX.rd, rdL, rdO, rdP, okParts, eqCells, okEqCells, fillA, okFill, setAt, implies_true, forall_const, forall_eq, ne_eq, exists_eq_right_right, exists_eq_right, exists_eq_left, exists_eq_left', rootL, eAttr, lit_eq, deVp_tup, c78_s2])
  refine LoopVC.intro (fun m e h' => ∃ (j f : Nat) (L : List HAttr) (l : AVal), c ≤ j ∧ j ≤ s.length ∧ m = s.length - j ∧ e 0 = .vp rb 0 ∧ e 3 = .vp r3 0 ∧ e 4 = .vp r4 0 ∧ Sub (upd h rb (some (rdO s j en out))) h' ∧
      h' r3 = some ⟨Tt, 7, [tokA k nm l false]⟩ ∧ h' r4 = some ⟨Tt, 7, [[aInt 0, .str [], .emp, .str [], .bool false, aInt 0, aInt 0]]⟩ ∧ Acc (upd h rb (some (rdO s j en out))) Ta 2 (L.map eAttr) l h' ∧ L.length ≤ j ∧ s.length < f + j ∧ tagF s f j L = tagF s (s.length + 1) c []) (s.length - c)
    (by exact ⟨c, s.length + 1, [], .emp, by omega, hc, by omega, e0, e3, e4, S1, z3, z4, .nil, by simp, by omega, rfl⟩) ?_
  rintro m e h' ⟨j, f, L, l, hj0, hj, rfl, e0, e3, e4, S, z3, z4, A, hL, hf, hT⟩
  obtain ⟨f, rfl⟩ : ∃ g, f = g + 1 := ⟨f - 1, by omega⟩
  rw [tagF] at hT
  have g1 := has_at S
  have hu := skip_le (q := gapStop) hj
  obtain ⟨u, hue⟩ : ∃ u, skipM gapStop s j = u := ⟨_, rfl⟩
  rw [hue] at hT hu
  repeat' (first | ((with_reducible refine brC (fun _ => ?_) fun _ => ?_) <;> try (exfalso; omega)) | (with_reducible refine And.intro ?_ ?_; · omega) | simp -dsimp -implicitDefEqProofs (disch := omega) only [VCA, pg_gl, ↓upd_none, Nat.reduceEqDiff, Nat.reduceBEq, Nat.reduceAdd, Nat.reduceSub, Nat.reduceMul, Nat.reduceLT, Nat.reduceLeDiff, ↓reduceIte, reduceCtorEq, rsOf, rootsOf, SOp.rd, SI.rd, SX.rd, rdL, rdO, rdP, okParts, eqCells, okEqCells, fillA, okFill, setAt, implies_true, forall_const, forall_eq, ne_eq, exists_eq_right_right, exists_eq_right, exists_eq_left, exists_eq_left', rootL, eAttr, lit_eq, deVp_tup, e0])
  refine DCalls.of (until_ok (G := G) g1 hj hs pT2) ?_
  rintro _ hA ⟨rfl, hhA⟩
  rw [hue] at hhA ⊢
  have SA0 : Sub (upd h' rb (some (rdO s u en out))) hA := by rw [hhA]; exact Sub.refl _
  have SA := S_next S SA0
  have AA := acc_next A SA0
  have y3 : hA r3 = some ⟨Tt, 7, [tokA k nm l false]⟩ := by rw [hhA, upd_ne _ _ m3]; exact z3
  have y4 : hA r4 = some ⟨Tt, 7, [[aInt 0, .str [], .emp, .str [], .bool false, aInt 0, aInt 0]]⟩ := by rw [hhA, upd_ne _ _ m4]; exact z4
  have gA := has_at SA
  have gA' := gA
  unfold rdO at gA'
  have y3' := y3
  unfold tokA at y3'
  have lv := Acc.isv A
  have n34 : ¬ r4 = r3 := fun q => m34 q.symm
  by_cases hul : u < s.length
  · obtain ⟨q, hq⟩ : ∃ q, s.getD u 0 = q := ⟨_, rfl⟩
    have hbq : bt s u = q.toNat := by unfold bt; rw [hq]
    rw [if_pos hul, hbq] at hT
    have bu : ((u : Int) == (s.length : Int)) = false := by rw [beq_eq_false_iff_ne]; omega
    cases h62 : ((q.toNat : Int) == 62) with
    | true =>
      rw [if_pos (by simpa using h62)] at hT
      have cS := hasSuf_ok (G := G) (seg s j u) [47] (by have := seg_le s j u; omega)
      rw [suf_seg hu.1 hu.2] at cS
      obtain ⟨sf, hsf⟩ : ∃ sf, (decide (j < u) && bt s (u - 1) == 47) = sf := ⟨_, rfl⟩
      rw [hsf] at hT cS
      have w3 : upd hA rb (some ⟨Tr, 4, [[.str s, .int .i64 ((u : Int) + 1), aInt en, out]]⟩) r3 = some ⟨Tt, 7, [tokA k nm l false]⟩ := by rw [upd_ne _ _ m3]; exact y3
      unfold tokA at w3
      have mr4 : ¬ rb = r4 := fun q => m4 q.symm
      repeat' (first | ((with_reducible refine brC (fun _ => ?_) fun _ => ?_) <;> try (exfalso; omega)) | (with_reducible apply pcallE.of; · exact cS) | (with_reducible refine And.intro ?_ ?_; · omega) | simp -dsimp -implicitDefEqProofs (disch := omega) only [VCA, pg_gl, ↓upd_none, Nat.reduceEqDiff, Nat.reduceBEq, Nat.reduceAdd, Nat.reduceSub, Nat.reduceMul, Nat.reduceLT, Nat.reduceLeDiff, ↓reduceIte, reduceCtorEq, rsOf, rootsOf, SOp.rd, SI.rd, SX.rd, rdL, rdO, rdP, okParts, eqCells, okEqCells, fillA, okFill, setAt, implies_true, forall_const, forall_eq, ne_eq, exists_eq_right_right, exists_eq_right, exists_eq_left, exists_eq_left', rootL, eAttr, lit_eq, deVp_tup, e0, e3, e4, gA', hq, bu, h62, upd_same, y3', y4, m3, m4, n34, lv.1, lv.2])
      have W1 : Sub (upd h rb (some (rdO s (u + 1) en out))) (upd hA rb (some (rdO s (u + 1) en out))) := S_put SA
      have A1 : Acc (upd h rb (some (rdO s (u + 1) en out))) Ta 2 (L.map eAttr) l (upd hA rb (some (rdO s (u + 1) en out))) := acc_next AA (Sub.refl _)
      have q3 : upd hA rb (some (rdO s (u + 1) en out)) r3 = some ⟨Tt, 7, [tokA k nm l false]⟩ := by rw [upd_ne _ _ m3]; exact y3
      rw [rdO_one]
      refine ⟨_, Sub.refl _, ?_⟩
      rw [← hT]
      have A2 := A1.keepA (acc_ne A1 q3 (by decide)) (some (⟨Tt, 7, [[aInt k, .str nm, l, .str [], .bool sf, aInt 0, aInt 0]]⟩ : AObj))
      have q4 : upd (upd hA rb (some (rdO s (u + 1) en out))) r3 (some (⟨Tt, 7, [[aInt k, .str nm, l, .str [], .bool sf, aInt 0, aInt 0]]⟩ : AObj)) r4 = some ⟨Tt, 7, [[aInt 0, .str [], .emp, .str [], .bool false, aInt 0, aInt 0]]⟩ := by
        rw [upd_ne _ _ n34, upd_ne _ _ m4]; exact y4
      exact ⟨L, l, sf, u + 1, A2.keepA (acc_ne A2 q4 (by decide)) _, by omega, S_new (S_new W1 n3 m3) n4 m4, by omega, rfl, rfl⟩
    | false =>
      rw [if_neg (by simpa using h62)] at hT
      obtain ⟨x, hx⟩ : ∃ x, (attrT s u).1 = x := ⟨_, rfl⟩
      have hn := attr_next hul
      have hAt := tokAttr_ok (G := G) hG gA hul hs
      obtain ⟨v, hv⟩ : ∃ v, (attrT s u).2 = v := ⟨_, rfl⟩
      rw [hx, hv] at hT hAt
      rw [hv] at hn
      repeat' (first | ((with_reducible refine brC (fun _ => ?_) fun _ => ?_) <;> try (exfalso; omega)) | (with_reducible refine And.intro ?_ ?_; · omega) | simp -dsimp -implicitDefEqProofs (disch := omega) only [VCA, pg_gl, ↓upd_none, Nat.reduceEqDiff, Nat.reduceBEq, Nat.reduceAdd, Nat.reduceSub, Nat.reduceMul, Nat.reduceLT, Nat.reduceLeDiff, ↓reduceIte, reduceCtorEq, rsOf, rootsOf, SOp.rd, SI.rd, SX.rd, rdL, rdO, rdP, okParts, eqCells, okEqCells, fillA, okFill, setAt, implies_true, forall_const, forall_eq, ne_eq, exists_eq_right_right, exists_eq_right, exists_eq_left, exists_eq_left', rootL, eAttr, lit_eq, deVp_tup, e0, e3, e4, gA', hq, bu, h62, upd_same])
      refine DCalls.of hAt ?_
      rintro _ hB ⟨rfl, SB0⟩
      have SB := S_next SA SB0
      have AB := acc_next AA SB0
      have x3 : hB r3 = some ⟨Tt, 7, [tokA k nm l false]⟩ := SB0 _ _ (by rw [upd_ne _ _ m3]; exact y3)
      have x4 : hB r4 = some ⟨Tt, 7, [[aInt 0, .str [], .emp, .str [], .bool false, aInt 0, aInt 0]]⟩ := SB0 _ _ (by rw [upd_ne _ _ m4]; exact y4)
      repeat' (first | ((with_reducible refine brC (fun _ => ?_) fun _ => ?_) <;> try (exfalso; omega)) | (with_reducible refine And.intro ?_ ?_; · omega) | simp -dsimp -implicitDefEqProofs (disch := omega) only [VCA, pg_gl, ↓upd_none, Nat.reduceEqDiff, Nat.reduceBEq, Nat.reduceAdd, Nat.reduceSub, Nat.reduceMul, Nat.reduceLT, Nat.reduceLeDiff, ↓reduceIte, reduceCtorEq, rsOf, rootsOf, SOp.rd, SI.rd, SX.rd, rdL, rdO, rdP, okParts, eqCells, okEqCells, fillA, okFill, setAt, implies_true, forall_const, forall_eq, ne_eq, exists_eq_right_right, exists_eq_right, exists_eq_left, exists_eq_left', rootL, eAttr, lit_eq, deVp_tup, e0, e3, e4, upd_same, eAttr])
      intro r7 hr7
      have n7 := none_off SB hr7
      have p3 : ¬ r3 = r7 := fun q => by rw [← q, x3] at hr7; cases hr7
      have p4 : ¬ r7 = r3 := fun q => p3 q.symm
      have p5 : ¬ r4 = r7 := fun q => by rw [← q, x4] at hr7; cases hr7
      have x3' := x3
      unfold tokA at x3'
      obtain ⟨hC, hhC⟩ : ∃ hC, upd hB r7 (some ⟨Ta, 2, [eAttr x]⟩) = hC := ⟨_, rfl⟩
      have SC : Sub (upd h rb (some (rdO s v en out))) hC := by rw [← hhC]; exact S_new SB n7.1 n7.2
      have AC : Acc (upd h rb (some (rdO s v en out))) Ta 2 (L.map eAttr) l hC := by rw [← hhC]; exact acc_new AB hr7 _
      have z7 : hC r7 = some ⟨Ta, 2, [eAttr x]⟩ := by rw [← hhC, upd_same]
      have z3C : hC r3 = some ⟨Tt, 7, [tokA k nm l false]⟩ := by rw [← hhC, upd_ne _ _ p3]; exact x3
      have z4C : hC r4 = some ⟨Tt, 7, [[aInt 0, .str [], .emp, .str [], .bool false, aInt 0, aInt 0]]⟩ := by rw [← hhC, upd_ne _ _ p5]; exact x4
      have z3C' := z3C
      unfold tokA at z3C'
      have z7' := z7
      unfold eAttr at hhC z7'
      repeat' (first | ((with_reducible refine brC (fun _ => ?_) fun _ => ?_) <;> try (exfalso; omega)) | (with_reducible refine And.intro ?_ ?_; · omega) | simp -dsimp -implicitDefEqProofs (disch := omega) only [VCA, pg_gl, ↓upd_none, Nat.reduceEqDiff, Nat.reduceBEq, Nat.reduceAdd, Nat.reduceSub, Nat.reduceMul, Nat.reduceLT, Nat.reduceLeDiff, ↓reduceIte, reduceCtorEq, rsOf, rootsOf, SOp.rd, SI.rd, SX.rd, rdL, rdO, rdP, okParts, eqCells, okEqCells, fillA, okFill, setAt, implies_true, forall_const, forall_eq, ne_eq, exists_eq_right_right, exists_eq_right, exists_eq_left, exists_eq_left', rootL, eAttr, lit_eq, deVp_tup, p3, p4, x3', hhC])
      refine DCalls.of (conOwn_ok (G := G) L AC _ _ _ (fun y => y.name == x.name) (by omega) fun y => tag3_ok (G := G) z7 y) ?_
      rintro _ _ ⟨rfl, rfl⟩
      have hal := addA_len L x
      cases hany : L.any (fun y => y.name == x.name) with
      | true =>
        have e1 : addA L x = L := if_pos hany
        rw [e1] at hT
        repeat' (first | ((with_reducible refine brC (fun _ => ?_) fun _ => ?_) <;> try (exfalso; omega)) | (with_reducible refine And.intro ?_ ?_; · omega) | simp -dsimp -implicitDefEqProofs (disch := omega) only [VCA, pg_gl, ↓upd_none, Nat.reduceEqDiff, Nat.reduceBEq, Nat.reduceAdd, Nat.reduceSub, Nat.reduceMul, Nat.reduceLT, Nat.reduceLeDiff, ↓reduceIte, reduceCtorEq, rsOf, rootsOf, SOp.rd, SI.rd, SX.rd, rdL, rdO, rdP, okParts, eqCells, okEqCells, fillA, okFill, setAt, implies_true, forall_const, forall_eq, ne_eq, exists_eq_right_right, exists_eq_right, exists_eq_left, exists_eq_left', rootL, eAttr, lit_eq, deVp_tup, e0, e3, e4])
        exact ⟨_, by omega, v, f, L, l, by omega, hn.2, rfl, SC, z3C, z4C, AC, by omega, by omega, hT⟩
      | false =>
        have e1 : addA L x = L ++ [x] := if_neg (by rw [hany]; simp)
        rw [e1] at hT
        repeat' (first | ((with_reducible refine brC (fun _ => ?_) fun _ => ?_) <;> try (exfalso; omega)) | (with_reducible refine And.intro ?_ ?_; · omega) | simp -dsimp -implicitDefEqProofs (disch := omega) only [VCA, pg_gl, ↓upd_none, Nat.reduceEqDiff, Nat.reduceBEq, Nat.reduceAdd, Nat.reduceSub, Nat.reduceMul, Nat.reduceLT, Nat.reduceLeDiff, ↓reduceIte, reduceCtorEq, rsOf, rootsOf, SOp.rd, SI.rd, SX.rd, rdL, rdO, rdP, okParts, eqCells, okEqCells, fillA, okFill, setAt, implies_true, forall_const, forall_eq, ne_eq, exists_eq_right_right, exists_eq_right, exists_eq_left, exists_eq_left', rootL, eAttr, lit_eq, deVp_tup, e0, e3, e4, z3C', z7', upd_same])
        have el : (L.map eAttr).length = L.length := List.length_map ..
        refine AC.appW SC (by rw [el]; simp only [List.length_cons, List.length_nil]; omega) (by rw [el]; simp only [List.length_cons, List.length_nil]; omega) fun a' hD AD SD kD => ?_
        have kD3 := kD r3 _ z3C (acc_ne AC z3C (by decide))
        have kD4 := kD r4 _ z4C (acc_ne AC z4C (by decide))
        have d3 := kD3.1
        unfold tokA at d3
        have iv := Acc.isv AD
        have em : L.map eAttr ++ [[.str x.name, .str x.value]] = (L ++ [x]).map eAttr := by rw [List.map_append]; rfl
        rw [em] at AD
        repeat' (first | ((with_reducible refine brC (fun _ => ?_) fun _ => ?_) <;> try (exfalso; omega)) | (with_reducible refine And.intro ?_ ?_; · omega) | simp -dsimp -implicitDefEqProofs (disch := omega) only [VCA, pg_gl, ↓upd_none, Nat.reduceEqDiff, Nat.reduceBEq, Nat.reduceAdd, Nat.reduceSub, Nat.reduceMul, Nat.reduceLT, Nat.reduceLeDiff, ↓reduceIte, reduceCtorEq, rsOf, rootsOf, SOp.rd, SI.rd, SX.rd, rdL, rdO, rdP, okParts, eqCells, okEqCells, fillA, okFill, setAt, implies_true, forall_const, forall_eq, ne_eq, exists_eq_right_right, exists_eq_right, exists_eq_left, exists_eq_left', rootL, eAttr, lit_eq, deVp_tup, e0, e3, e4, d3, iv.1, iv.2])
        refine ⟨_, by omega, v, f, L ++ [x], a', by omega, hn.2, rfl, S_new SD n3 m3, by first | rfl | (rw [upd_same]; rfl), by first | (rw [if_neg n34]; exact kD4.1) | (rw [upd_ne _ _ n34]; exact kD4.1), AD.keepA kD3.2 _, by rw [List.length_append]; simp only [List.length_cons, List.length_nil]; omega, by omega, hT⟩
  · obtain rfl : u = s.length := by omega
    rw [if_neg hul] at hT
    have bu : ((s.length : Int) == (s.length : Int)) = true := by simp
    repeat' (first | ((with_reducible refine brC (fun _ => ?_) fun _ => ?_) <;> try (exfalso; omega)) | (with_reducible refine And.intro ?_ ?_; · omega) | simp -dsimp -implicitDefEqProofs (disch := omega) only [VCA, pg_gl, ↓upd_none, Nat.reduceEqDiff, Nat.reduceBEq, Nat.reduceAdd, Nat.reduceSub, Nat.reduceMul, Nat.reduceLT, Nat.reduceLeDiff, ↓reduceIte, reduceCtorEq, rsOf, rootsOf, SOp.rd, SI.rd, SX.rd, rdL, rdO, rdP, okParts, eqCells, okEqCells, fillA, okFill, setAt, implies_true, forall_const, forall_eq, ne_eq, exists_eq_right_right, exists_eq_right, exists_eq_left, exists_eq_left', rootL, eAttr, lit_eq, deVp_tup, e0, e3, e4, gA', bu, y3', y4, lv.1, lv.2, upd_same])
    refine ⟨_, Sub.refl _, ?_⟩
    rw [← hT]
    exact ⟨L, l, false, s.length, AA.keepA (acc_ne AA y4 (by decide)) _, by omega, S_new SA n4 m4, Nat.le_refl _, rfl, rfl⟩
theorem tag_raw (hG : MaxLenOK G) {h : Heap} {rb : Nat} {s : List UInt8} {a en : Nat} {out : AVal} (k : Int) (hr : h rb = some (rdO s a en out)) (ha : a ≤ s.length) (hs : s.length ≤ 1000000) :
    DCalls (Pg G) 78 [.vp rb 0, .agg (tokA k [] .emp false)] h (TagK h rb s en out k (nameM (seg s a (skipM tagStop s a))) (tagF s (s.length + 1) (skipM tagStop s a) [])) := by
  have hc := skip_le (q := tagStop) ha
  obtain ⟨c, hce⟩ : ∃ c, skipM tagStop s a = c := ⟨_, rfl⟩
  rw [hce] at hc ⊢
  have cN := tokName_ok (G := G) (seg s a c) (by have := seg_le s a c; omega)
  refine dcalls_of_vc Tryd.func78 hn78 hc78 (by rw [Tryd.ntmps78]; simp) (by rw [Tryd.ntmps78]; decide) ?_
  simp -dsimp -implicitDefEqProofs (disch := omega) only [VCA, pg_gl, ↓upd_none, Nat.reduceEqDiff, Nat.reduceBEq, Nat.reduceAdd, Nat.reduceSub, Nat.reduceMul, Nat.reduceLT, Nat.reduceLeDiff, ↓reduceIte, reduceCtorEq, rsOf, rootsOf, SOp.rd, SI.rd, SX.rd, rdL, rdO, rdP, okParts, eqCells, okEqCells, fillA, okFill, setAt, implies_true, forall_const, forall_eq, ne_eq, exists_eq_right_right, exists_eq_right, exists_eq_left, exists_eq_left', rootL, eAttr, lit_eq, deVp_tup, c78, tokA]
  intro r3 hr3 r4 hr4
  have m3 : r3 ≠ rb := fun q => by rw [q, hr] at hr3; cases hr3
  have m4 : r4 ≠ rb := fun q => by rw [q, hr] at hr4; cases hr4.2
  have n34 : r3 ≠ r4 := fun q => hr4.1 q.symm
  obtain ⟨hA, hhA⟩ : ∃ hA, upd (upd h r3 (some ⟨Tt, 7, [[aInt k, .str [], .emp, .str [], .bool false, aInt 0, aInt 0]]⟩)) r4 (some ⟨Tt, 7, [[aInt 0, .str [], .emp, .str [], .bool false, aInt 0, aInt 0]]⟩) = hA := ⟨_, rfl⟩
  have SA : Sub (upd h rb (some (rdO s a en out))) hA := by rw [← hhA]; exact S_new (S_new (by rw [upd_id hr]; exact Sub.refl _) hr3 m3) hr4.2 m4
  have gA := has_at SA
  have zA : hA r3 = some ⟨Tt, 7, [[aInt k, .str [], .emp, .str [], .bool false, aInt 0, aInt 0]]⟩ := by rw [← hhA, upd_ne _ _ n34, upd_same]
  have yA : hA r4 = some ⟨Tt, 7, [[aInt 0, .str [], .emp, .str [], .bool false, aInt 0, aInt 0]]⟩ := by rw [← hhA, upd_same]
  rw [hhA]
  refine DCalls.of (until_ok (G := G) gA ha hs pT1) ?_
  rintro _ hB ⟨rfl, hhB⟩
  rw [hce] at hhB ⊢
  have SB := S_next SA (by rw [hhB]; exact Sub.refl _ : Sub (upd hA rb (some (rdO s c en out))) hB)
  have zB : hB r3 = some ⟨Tt, 7, [[aInt k, .str [], .emp, .str [], .bool false, aInt 0, aInt 0]]⟩ := by rw [hhB, upd_ne _ _ m3]; exact zA
  have yB : hB r4 = some ⟨Tt, 7, [[aInt 0, .str [], .emp, .str [], .bool false, aInt 0, aInt 0]]⟩ := by rw [hhB, upd_ne _ _ m4]; exact yA
  have gB := has_at SB
  have gB' := gB
  unfold rdO at gB'
  repeat' (first | ((with_reducible refine brC (fun _ => ?_) fun _ => ?_) <;> try (exfalso; omega)) | (with_reducible apply pcallE.of; · exact cN) | (with_reducible refine And.intro ?_ ?_; · omega) | simp -dsimp -implicitDefEqProofs (disch := omega) only [VCA, pg_gl, ↓upd_none, Nat.reduceEqDiff, Nat.reduceBEq, Nat.reduceAdd, Nat.reduceSub, Nat.reduceMul, Nat.reduceLT, Nat.reduceLeDiff, ↓reduceIte, reduceCtorEq, rsOf, rootsOf, SOp.rd, SI.rd, SX.rd, rdL, rdO, rdP, okParts, eqCells, okEqCells, fillA, okFill, setAt, implies_true, forall_const, forall_eq, ne_eq, exists_eq_right_right, exists_eq_right, exists_eq_left, exists_eq_left', rootL, eAttr, lit_eq, deVp_tup, gB', zB, upd_same])
  refine tag_loop (G := G) hG k (nameM (seg s a c)) hs hc.2 (S_new SB hr3 m3) hr3 hr4.2 m3 m4 n34 (by rw [upd_same]; rfl) (by rw [upd_ne _ _ n34.symm]; exact yB) ?_ ?_ ?_
  all_goals first | (simp [upd]; done) | (simp [upd]; rfl)
theorem tokTag_ok (hG : MaxLenOK G) {h : Heap} {rb : Nat} {s : List UInt8} {a en : Nat} {out : AVal} (k : Int) (hr : h rb = some (rdO s a en out)) (ha : a ≤ s.length) (hs : s.length ≤ 1000000) :
    DCalls (Pg G) 78 [.vp rb 0, .agg (tokA k [] .emp false)] h fun r h' => ∃ b, Sub (upd h rb (some (rdO s b en out))) h' ∧ b ≤ s.length ∧
      match tagM s a with
      | some q => r = .tup [.agg (eTok ⟨k, q.1, q.2.1, [], q.2.2.1, 0, 0⟩), .bool true] ∧ b = q.2.2.2 ∧ q.2.1.length ≤ s.length
      | none => (∃ t : HTok, t.kind = k ∧ r = .tup [.agg (eTok t), .bool false]) ∧ b = s.length := by
  refine (tag_raw hG k hr ha hs).outV fun r h' ⟨L, l, sf, b, A, hL, S, hb, hT⟩ => ?_
  have hv := A.vw (fun f hf => by obtain ⟨x, _, rfl⟩ := List.mem_map.1 hf; rfl)
  have vt : VwT (newH (upd h rb (some (rdO s b en out))) h') (.tup [.agg (tokA k (nameM (seg s a (skipM tagStop s a))) l sf), .bool true]) (.tup [.agg (eTok ⟨k, nameM (seg s a (skipM tagStop s a)), L, [], sf, 0, 0⟩), .bool true]) :=
    .tup' (.cons (.agg' (.cons (.refl _) (.cons (.refl _) (.cons hv (.cons (.refl _) (.cons (.refl _) (.cons (.refl _) (.cons (.refl _) .nil)))))))) (.cons (.refl _) .nil))
  have vf : VwT (newH (upd h rb (some (rdO s b en out))) h') (.tup [.agg (tokA k (nameM (seg s a (skipM tagStop s a))) l sf), .bool false]) (.tup [.agg (eTok ⟨k, nameM (seg s a (skipM tagStop s a)), L, [], sf, 0, 0⟩), .bool false]) :=
    .tup' (.cons (.agg' (.cons (.refl _) (.cons (.refl _) (.cons hv (.cons (.refl _) (.cons (.refl _) (.cons (.refl _) (.cons (.refl _) .nil)))))))) (.cons (.refl _) .nil))
  unfold tagM
  cases hq : tagF s (s.length + 1) (skipM tagStop s a) [] with
  | some q =>
    rw [hq] at hT
    obtain ⟨rfl, rfl⟩ := hT
    exact ⟨upd h rb (some (rdO s b en out)), newH _ h', _, S, newH_sub _ _, newH_disj _ _, vt, b, Sub.refl _, hb, rfl, rfl, hL⟩
  | none =>
    rw [hq] at hT
    obtain ⟨rfl, rfl⟩ := hT
    exact ⟨upd h rb (some (rdO s s.length en out)), newH _ h', _, S, newH_sub _ _, newH_disj _ _, vf, s.length, Sub.refl _, Nat.le_refl _, ⟨_, rfl, rfl⟩, rfl⟩
end Go.Proofs.K
end
section
set_option linter.unusedSimpArgs false
set_option linter.unusedVariables false
namespace Go.Proofs.K
open Go Go.Sim Go.Proofs
variable {G : Glob}
def tokR (t : HTok) : List AVal := [aInt t.kind, .str t.name, .emp, .str t.text, .bool t.self, aInt t.frm, aInt t.til]
theorem tokR_wk {t : HTok} (h : t.attrs = []) : Wk (.agg (tokR t)) (.agg (eTok t)) := by
  have e : sl eAttr t.attrs = .slc [] := by rw [h]; rfl
  unfold tokR eTok
  rw [e]
  exact .agg' (.cons (.refl _) (.cons (.refl _) (.cons .emp (.cons (.refl _) (.cons (.refl _) (.cons (.refl _) (.cons (.refl _) .nil)))))))
theorem tokR_wk2 {t : HTok} {b : Bool} (h : t.attrs = []) : Wk (.tup [.agg (tokR t), .bool b]) (.tup [.agg (eTok t), .bool b]) :=
  .tup' (.cons (tokR_wk h) (.cons (.refl _) .nil))
def RS (h0 : Heap) (rb : Nat) (s : List UInt8) (a en : Nat) (T : List HTok) (h : Heap) : Prop :=
  ∃ out, Acc (upd h0 rb (some (rdO s a en out))) Tt 7 (T.map eTok) out h ∧ Sub (upd h0 rb (some (rdO s a en out))) h
theorem RS.next {h0 h h' : Heap} {rb : Nat} {s : List UInt8} {a en b : Nat} {T : List HTok} (R : RS h0 rb s a en T h) (hs : ∀ out, h rb = some (rdO s a en out) → Sub (upd h rb (some (rdO s b en out))) h') : RS h0 rb s b en T h' := by
  obtain ⟨out, A, S⟩ := R
  exact ⟨out, acc_next A (hs out (has_at S)), S_next S (hs out (has_at S))⟩
def c77 : SFun := ⟨.seq (.reg [⟨some 4, .new 41 7 [.int .i64 0, .str [], .emp, .str [], .bool false, .int .i64 0, .int .i64 0], none⟩, ⟨some 5, .mv (.c (.bool false)), none⟩]) (.seq (.reg [⟨some 6, .fldA 0 (.t 4), none⟩, ⟨none, .st 1 (.t 6) (.c (.int .i64 4)), none⟩]) (.seq (.reg [⟨some 8, .mv (.t 0), none⟩, ⟨some 9, .mv (.t 1), none⟩, ⟨some 10, .call (.c (.fn 100 [] [])) [.t 8, .t 9], none⟩, ⟨some 7, .mv (.t 10), none⟩, ⟨some 11, .ext (.t 7) 0, none⟩, ⟨some 12, .ext (.t 7) 1, none⟩, ⟨some 13, .fldA 3 (.t 4), none⟩, ⟨none, .st 1 (.t 13) (.t 11), none⟩, ⟨some 5, .mv (.t 12), none⟩]) (.seq (.reg [⟨some 14, .ld 7 true (.t 4), none⟩, ⟨some 15, .mv (.t 5), none⟩, ⟨none, .st 7 (.t 4) (.t 14), none⟩, ⟨some 5, .mv (.t 15), none⟩]) .ret))), [.cell 4 7 true, .tmp 5]⟩
theorem hc77 : toSF Tryd.prog {} Tryd.f77 = some c77 := by kernel_rfl
theorem hn77 : (Tryd.f77.name == "runtime.NumGoroutine") = false := by kernel_rfl
theorem tokComment_raw (hG : MaxLenOK G) {h : Heap} {rb : Nat} {s w : List UInt8} {a en : Nat} {out : AVal} (hr : h rb = some (rdO s a en out)) (ha : a ≤ s.length) (hs : s.length ≤ 1000000) (hw : noLet w = true) (h0 : w ≠ []) :
    DCalls (Pg G) 77 [.vp rb 0, .str w] h fun r h' => r = .tup [.agg (tokR (comM s a w).1), .bool (comM s a w).2.1] ∧ Sub (upd h rb (some (rdO s (comM s a w).2.2 en out))) h' := by
  have hr' := hr
  unfold rdO at hr'
  unfold comM
  refine dcalls_of_vc Tryd.func77 hn77 hc77 (by rw [Tryd.ntmps77]; simp) (by rw [Tryd.ntmps77]; decide) ?_
  simp -dsimp -implicitDefEqProofs (disch := omega) only [VCA, pg_gl, ↓upd_none, Nat.reduceEqDiff, Nat.reduceBEq, Nat.reduceAdd, Nat.reduceSub, Nat.reduceMul, Nat.reduceLT, Nat.reduceLeDiff, ↓reduceIte, reduceCtorEq, rsOf, rootsOf, SOp.rd, SI.rd, SX.rd, rdL, rdO, rdP, okParts, eqCells, okEqCells, fillA, okFill, setAt, implies_true, forall_const, forall_eq, ne_eq, exists_eq_right_right, exists_eq_right, exists_eq_left, exists_eq_left', rootL, eAttr, lit_eq, deVp_tup, c77]
  intro r4 hr4
  have m4 : r4 ≠ rb := fun q => by rw [q, hr] at hr4; cases hr4
  obtain ⟨hA, hhA⟩ : ∃ hA, upd h r4 (some ⟨Tt, 7, [[aInt 4, .str [], .emp, .str [], .bool false, aInt 0, aInt 0]]⟩) = hA := ⟨_, rfl⟩
  have SA : Sub (upd h rb (some (rdO s a en out))) hA := by rw [← hhA]; exact S_new (by rw [upd_id hr]; exact Sub.refl _) hr4 m4
  have yA : hA r4 = some ⟨Tt, 7, [[aInt 4, .str [], .emp, .str [], .bool false, aInt 0, aInt 0]]⟩ := by rw [← hhA, upd_same]
  rw [hhA]
  refine DCalls.of (past_ok (G := G) hG (has_at SA) ha hs hw h0) ?_
  rintro _ hB ⟨rfl, SB⟩
  have yB : hB r4 = some ⟨Tt, 7, [[aInt 4, .str [], .emp, .str [], .bool false, aInt 0, aInt 0]]⟩ := SB _ _ (by rw [upd_ne _ _ m4]; exact yA)
  repeat' (first | ((with_reducible refine brC (fun _ => ?_) fun _ => ?_) <;> try (exfalso; omega)) | (with_reducible refine And.intro ?_ ?_; · omega) | simp -dsimp -implicitDefEqProofs (disch := omega) only [VCA, pg_gl, ↓upd_none, Nat.reduceEqDiff, Nat.reduceBEq, Nat.reduceAdd, Nat.reduceSub, Nat.reduceMul, Nat.reduceLT, Nat.reduceLeDiff, ↓reduceIte, reduceCtorEq, rsOf, rootsOf, SOp.rd, SI.rd, SX.rd, rdL, rdO, rdP, okParts, eqCells, okEqCells, fillA, okFill, setAt, implies_true, forall_const, forall_eq, ne_eq, exists_eq_right_right, exists_eq_right, exists_eq_left, exists_eq_left', rootL, eAttr, lit_eq, deVp_tup, yB, upd_same])
  exact ⟨_, Sub.refl _, rfl, S_new (S_next SA SB) hr4 m4⟩
theorem tokComment_ok (hG : MaxLenOK G) {h : Heap} {rb : Nat} {s w : List UInt8} {a en : Nat} {out : AVal} (hr : h rb = some (rdO s a en out)) (ha : a ≤ s.length) (hs : s.length ≤ 1000000) (hw : noLet w = true) (h0 : w ≠ []) :
    DCalls (Pg G) 77 [.vp rb 0, .str w] h fun r h' => r = .tup [.agg (eTok (comM s a w).1), .bool (comM s a w).2.1] ∧ Sub (upd h rb (some (rdO s (comM s a w).2.2 en out))) h' :=
  (tokComment_raw hG hr ha hs hw h0).wkRes fun r h' ⟨e, S⟩ => ⟨_, by rw [e]; exact tokR_wk2 rfl, rfl, S⟩
def c53 : SFun := ⟨.seq (.reg [⟨some 4, .mv (.c (.int .u8 0)), none⟩]) (.seq (.seq (.reg [⟨some 6, .mv (.t 0), none⟩, ⟨some 7, .fldA 0 (.t 6), none⟩, ⟨some 8, .fldA 0 (.t 7), none⟩, ⟨some 9, .ld 1 false (.t 8), none⟩, ⟨some 10, .mv (.t 1), none⟩, ⟨some 11, .idxS (.t 9) (.t 10), none⟩, ⟨some 12, .bin .neq (.t 11) (.c (.int .u8 60)), none⟩, ⟨some 13, .mv (.t 12), none⟩, ⟨some 14, .mv (.t 1), some (13, false)⟩, ⟨some 15, .bin .add (.t 14) (.c (.int .i64 1)), some (13, false)⟩, ⟨some 16, .mv (.t 0), some (13, false)⟩, ⟨some 17, .fldA 0 (.t 16), some (13, false)⟩, ⟨some 18, .fldA 0 (.t 17), some (13, false)⟩, ⟨some 19, .ld 1 false (.t 18), some (13, false)⟩, ⟨some 20, .lenS (.t 19), some (13, false)⟩, ⟨some 21, .bin .eql (.t 15) (.t 20), some (13, false)⟩, ⟨some 22, .pick (.t 13) (.c (.bool true)) (.t 21), none⟩]) (.cond (.t 22) (.seq (.reg [⟨some 4, .mv (.c (.int .u8 0)), none⟩]) .ret) .skip)) (.seq (.seq (.reg [⟨some 23, .mv (.t 0), none⟩, ⟨some 24, .fldA 0 (.t 23), none⟩, ⟨some 25, .fldA 0 (.t 24), none⟩, ⟨some 26, .ld 1 false (.t 25), none⟩, ⟨some 27, .mv (.t 1), none⟩, ⟨some 28, .bin .add (.t 27) (.c (.int .i64 1)), none⟩, ⟨some 29, .idxS (.t 26) (.t 28), none⟩, ⟨some 5, .mv (.t 29), none⟩]) (.block 0 (.seq (.reg [⟨some 31, .mv (.t 5), none⟩, ⟨some 32, .pcall 75 [.t 31], none⟩, ⟨some 30, .mv (.t 32), none⟩]) (.cond (.t 30) (.seq (.reg [⟨some 4, .mv (.c (.int .u8 97)), none⟩]) .ret) (.seq (.reg [⟨some 34, .mv (.t 5), none⟩, ⟨some 35, .bin .eql (.t 34) (.c (.int .u8 33)), none⟩, ⟨some 36, .mv (.t 35), none⟩, ⟨some 37, .mv (.t 5), some (36, false)⟩, ⟨some 38, .bin .eql (.t 37) (.c (.int .u8 63)), some (36, false)⟩, ⟨some 39, .pick (.t 36) (.c (.bool true)) (.t 38), none⟩, ⟨some 33, .mv (.t 39), none⟩]) (.cond (.t 33) (.seq (.reg [⟨some 40, .mv (.t 5), none⟩, ⟨some 4, .mv (.t 40), none⟩]) .ret) (.seq (.reg [⟨some 42, .mv (.t 5), none⟩, ⟨some 43, .bin .eql (.t 42) (.c (.int .u8 47)), none⟩, ⟨some 44, .mv (.t 43), none⟩, ⟨some 45, .mv (.t 1), some (44, true)⟩, ⟨some 46, .bin .add (.t 45) (.c (.int .i64 2)), some (44, true)⟩, ⟨some 47, .mv (.t 0), some (44, true)⟩, ⟨some 48, .fldA 0 (.t 47), some (44, true)⟩, ⟨some 49, .fldA 0 (.t 48), some (44, true)⟩, ⟨some 50, .ld 1 false (.t 49), some (44, true)⟩, ⟨some 51, .lenS (.t 50), some (44, true)⟩, ⟨some 52, .bin .lss (.t 46) (.t 51), some (44, true)⟩, ⟨some 53, .pick (.t 44) (.t 52) (.c (.bool false)), none⟩, ⟨some 41, .mv (.t 53), none⟩]) (.cond (.t 41) (.seq (.reg [⟨some 54, .mv (.t 5), none⟩, ⟨some 4, .mv (.t 54), none⟩]) .ret) .skip)))))))) (.seq (.reg [⟨some 4, .mv (.c (.int .u8 0)), none⟩]) .ret))), [.tmp 4]⟩
theorem hc53 : toSF Tryd.prog {pure := [75]} Tryd.f53 = some c53 := by kernel_rfl
theorem hn53 : (Tryd.f53.name == "runtime.NumGoroutine") = false := by kernel_rfl
theorem tokMark_ok {h : Heap} {rb : Nat} {s : List UInt8} {a p en : Nat} {out : AVal} (hr : h rb = some (rdO s a en out)) (hp : p < s.length) (hs : s.length ≤ 1000000) :
    DCalls (Pg G) 53 [.vp rb 0, aInt p] h fun r h' => r = .int .u8 (kindM s p) ∧ h' = h := by
  unfold rdO at hr
  unfold kindM
  obtain ⟨b, hb⟩ : ∃ b, s.getD p 0 = b := ⟨_, rfl⟩
  obtain ⟨c, hc⟩ : ∃ c, s.getD (p + 1) 0 = c := ⟨_, rfl⟩
  have eb : bt s p = b.toNat := by unfold bt; rw [hb]
  have ec : bt s (p + 1) = c.toNat := by unfold bt; rw [hc]
  have cL := tokLetter_ok (G := G) c
  rw [eb, ec]
  refine dcalls_of_vc Tryd.func53 hn53 hc53 (by rw [Tryd.ntmps53]; simp) (by rw [Tryd.ntmps53]; decide) ?_
  simp -dsimp -implicitDefEqProofs (disch := omega) only [↓vcOps_sp 13, ↓vcD_sp 13, ↓vcOps_sp 36, ↓vcD_sp 36, ↓vcOps_sp 44, ↓vcD_sp 44, VCA, pg_gl, ↓upd_none, Nat.reduceEqDiff, Nat.reduceBEq, Nat.reduceAdd, Nat.reduceSub, Nat.reduceMul, Nat.reduceLT, Nat.reduceLeDiff, ↓reduceIte, reduceCtorEq, rsOf, rootsOf, SOp.rd, SI.rd, SX.rd, rdL, rdO, rdP, okParts, eqCells, okEqCells, fillA, okFill, setAt, implies_true, forall_const, forall_eq, ne_eq, exists_eq_right_right, exists_eq_right, exists_eq_left, exists_eq_left', rootL, eAttr, lit_eq, deVp_tup, c53, hr, hb]
  repeat' (first | ((with_reducible refine brC (fun _ => ?_) fun _ => ?_) <;> try (exfalso; omega)) | (with_reducible apply pcallE.of; · exact cL) | (with_reducible refine And.intro ?_ ?_; · omega) | simp -dsimp -implicitDefEqProofs (disch := omega) only [↓vcOps_sp 13, ↓vcD_sp 13, ↓vcOps_sp 36, ↓vcD_sp 36, ↓vcOps_sp 44, ↓vcD_sp 44, VCA, pg_gl, ↓upd_none, Nat.reduceEqDiff, Nat.reduceBEq, Nat.reduceAdd, Nat.reduceSub, Nat.reduceMul, Nat.reduceLT, Nat.reduceLeDiff, ↓reduceIte, reduceCtorEq, rsOf, rootsOf, SOp.rd, SI.rd, SX.rd, rdL, rdO, rdP, okParts, eqCells, okEqCells, fillA, okFill, setAt, implies_true, forall_const, forall_eq, ne_eq, exists_eq_right_right, exists_eq_right, exists_eq_left, exists_eq_left', rootL, eAttr, lit_eq, deVp_tup, hr, hb, hc])
  all_goals refine ⟨Sub.refl _, ?_⟩
  all_goals (repeat' split) <;> first | rfl | omega | (simp_all; done) | trace_state
def c55 : SFun := ⟨.seq (.reg [⟨some 4, .box 41 7 (.t 1), none⟩]) (.seq (.dreg [(⟨some 6, .mv (.t 2), none⟩, none), (⟨some 7, .mv (.t 0), none⟩, none), (⟨some 8, .fldA 0 (.t 7), none⟩, none), (⟨some 9, .fldA 1 (.t 8), none⟩, none), (⟨some 10, .ld 1 false (.t 9), none⟩, none), (⟨some 11, .fldA 5 (.t 4), none⟩, none), (⟨none, .st 1 (.t 11) (.t 6), none⟩, (some [])), (⟨some 12, .fldA 6 (.t 4), none⟩, none), (⟨none, .st 1 (.t 12) (.t 10), none⟩, (some [10]))]) (.dreg [(⟨some 13, .mv (.t 0), none⟩, none), (⟨some 14, .mv (.t 0), none⟩, none), (⟨some 15, .fldA 0 (.t 14), none⟩, none), (⟨some 16, .fldA 3 (.t 15), none⟩, none), (⟨some 17, .ld 1 false (.t 16), none⟩, none), (⟨some 18, .ld 7 true (.t 4), none⟩, none), (⟨some 19, .bldF 41 7 [.t 18], none⟩, none), (⟨some 20, .app 41 7 88 (.t 17) (.t 19), none⟩, (some [17, 18])), (⟨some 21, .fldA 0 (.t 13), none⟩, none), (⟨some 22, .fldA 3 (.t 21), none⟩, none), (⟨none, .st 1 (.t 22) (.t 20), none⟩, (some [17, 18]))])), []⟩
theorem hc55 : toSF Tryd.prog {how := [(4, 6)]} Tryd.f55 = some c55 := by kernel_rfl
theorem hn55 : (Tryd.f55.name == "runtime.NumGoroutine") = false := by kernel_rfl
theorem tokPut_ok {h0 h : Heap} {rb : Nat} {s : List UInt8} {a en : Nat} {T : List HTok} {t : HTok} (frm : Int) (R : RS h0 rb s a en T h) (hT : T.length ≤ 1000000) :
    DCalls (Pg G) 55 [.vp rb 0, .agg (eTok t), aInt frm] h fun _ h' => RS h0 rb s a en (T ++ [{ t with frm := frm, til := a }]) h' := by
  obtain ⟨out, A, S⟩ := R
  have g1 := has_at S
  have g1' := g1
  unfold rdO at g1'
  obtain ⟨l, hl⟩ : ∃ l, sl eAttr t.attrs = l := ⟨_, rfl⟩
  refine dcalls_of_vc Tryd.func55 hn55 hc55 (by rw [Tryd.ntmps55]; simp) (by rw [Tryd.ntmps55]; decide) ?_
  simp -dsimp -implicitDefEqProofs (disch := omega) only [VCA, pg_gl, ↓upd_none, Nat.reduceEqDiff, Nat.reduceBEq, Nat.reduceAdd, Nat.reduceSub, Nat.reduceMul, Nat.reduceLT, Nat.reduceLeDiff, ↓reduceIte, reduceCtorEq, rsOf, rootsOf, SOp.rd, SI.rd, SX.rd, rdL, rdO, rdP, okParts, eqCells, okEqCells, fillA, okFill, setAt, implies_true, forall_const, forall_eq, ne_eq, exists_eq_right_right, exists_eq_right, exists_eq_left, exists_eq_left', rootL, eAttr, lit_eq, deVp_tup, c55, eTok, hl]
  intro r4 hr4
  have n4 := none_off S hr4
  have m1 : ¬ rb = r4 := fun q => n4.2 q.symm
  have m2 : ¬ r4 = rb := n4.2
  repeat' (first | ((with_reducible refine brC (fun _ => ?_) fun _ => ?_) <;> try (exfalso; omega)) | (with_reducible refine And.intro ?_ ?_; · omega) | simp -dsimp -implicitDefEqProofs (disch := omega) only [VCA, pg_gl, ↓upd_none, Nat.reduceEqDiff, Nat.reduceBEq, Nat.reduceAdd, Nat.reduceSub, Nat.reduceMul, Nat.reduceLT, Nat.reduceLeDiff, ↓reduceIte, reduceCtorEq, rsOf, rootsOf, SOp.rd, SI.rd, SX.rd, rdL, rdO, rdP, okParts, eqCells, okEqCells, fillA, okFill, setAt, implies_true, forall_const, forall_eq, ne_eq, exists_eq_right_right, exists_eq_right, exists_eq_left, exists_eq_left', rootL, eAttr, lit_eq, deVp_tup, m1, m2, g1', upd_same])
  have SC := fun o : Option AObj => S_new (o := o) S n4.1 n4.2
  have AC := fun o : Option AObj => acc_new A hr4 o
  have el : (T.map eTok).length = T.length := List.length_map ..
  refine (AC _).appW (SC _) (by rw [el]; simp only [List.length_cons, List.length_nil]; omega) (by rw [el]; simp only [List.length_cons, List.length_nil]; omega) fun a' hD AD SD kD => ?_
  refine ⟨by simp [keepR], ?_⟩
  have kb := (kD rb _ (by rw [upd_ne _ _ m1]; exact g1) (acc_ne A g1 (by decide))).1
  have kb' := kb
  unfold rdO at kb'
  have iv := Acc.isv AD
  repeat' (first | ((with_reducible refine brC (fun _ => ?_) fun _ => ?_) <;> try (exfalso; omega)) | (with_reducible refine And.intro ?_ ?_; · omega) | simp -dsimp -implicitDefEqProofs (disch := omega) only [VCA, pg_gl, ↓upd_none, Nat.reduceEqDiff, Nat.reduceBEq, Nat.reduceAdd, Nat.reduceSub, Nat.reduceMul, Nat.reduceLT, Nat.reduceLeDiff, ↓reduceIte, reduceCtorEq, rsOf, rootsOf, SOp.rd, SI.rd, SX.rd, rdL, rdO, rdP, okParts, eqCells, okEqCells, fillA, okFill, setAt, implies_true, forall_const, forall_eq, ne_eq, exists_eq_right_right, exists_eq_right, exists_eq_left, exists_eq_left', rootL, eAttr, lit_eq, deVp_tup, m1, m2, g1', kb', iv.1, iv.2, upd_same])
  refine ⟨_, Sub.refl _, a', ?_, S_put SD⟩
  have em : (T ++ [({ t with frm := frm, til := a } : HTok)]).map eTok = T.map eTok ++ [[aInt t.kind, .str t.name, l, .str t.text, .bool t.self, .int .i64 frm, .int .i64 a]] := by rw [List.map_append, ← hl]; rfl
  rw [em]
  exact acc_next AD (Sub.refl _)
theorem RS.none_rb {h0 h : Heap} {rb : Nat} {s : List UInt8} {a en : Nat} {T : List HTok} (R : RS h0 rb s a en T h) : ∃ out, h rb = some (rdO s a en out) := by
  obtain ⟨out, A, S⟩ := R; exact ⟨out, has_at S⟩
def c52 : SFun := ⟨.seq (.reg [⟨some 3, .mv (.t 0), none⟩, ⟨some 4, .fldA 0 (.t 3), none⟩, ⟨some 5, .fldA 1 (.t 4), none⟩, ⟨some 6, .ld 1 false (.t 5), none⟩, ⟨some 2, .mv (.t 6), none⟩]) (.seq (.block 0 (.loop (.seq (.seq (.dreg [(⟨some 7, .mv (.t 0), none⟩, none), (⟨some 8, .fldA 0 (.t 7), none⟩, none), (⟨some 9, .fldA 1 (.t 8), none⟩, none), (⟨some 10, .ld 1 false (.t 9), none⟩, none), (⟨some 11, .mv (.t 0), none⟩, none), (⟨some 12, .fldA 0 (.t 11), none⟩, none), (⟨some 13, .fldA 0 (.t 12), none⟩, none), (⟨some 14, .ld 1 false (.t 13), none⟩, none), (⟨some 15, .lenS (.t 14), none⟩, none), (⟨some 16, .bin .lss (.t 10) (.t 15), none⟩, none), (⟨some 17, .mv (.t 16), none⟩, none), (⟨some 18, .mv (.t 0), some (17, true)⟩, none), (⟨some 19, .mv (.t 0), some (17, true)⟩, none), (⟨some 20, .fldA 0 (.t 19), some (17, true)⟩, none), (⟨some 21, .fldA 1 (.t 20), some (17, true)⟩, none), (⟨some 22, .ld 1 false (.t 21), some (17, true)⟩, none), (⟨some 23, .call (.c (.fn 53 [] [])) [.t 18, .t 22], some (17, true)⟩, (some [22, 10, 14])), (⟨some 24, .bin .eql (.t 23) (.c (.int .u8 0)), some (17, true)⟩, none), (⟨some 25, .pick (.t 17) (.t 24) (.c (.bool false)), none⟩, none)]) (.cond (.t 25) .skip (.exit 0))) (.block 1 (.reg [⟨some 26, .mv (.t 0), none⟩, ⟨some 27, .fldA 0 (.t 26), none⟩, ⟨some 28, .fldA 1 (.t 27), none⟩, ⟨some 29, .ld 1 false (.t 28), none⟩, ⟨some 30, .bin .add (.t 29) (.c (.int .i64 1)), none⟩, ⟨some 31, .fldA 0 (.t 26), none⟩, ⟨some 32, .fldA 1 (.t 31), none⟩, ⟨none, .st 1 (.t 32) (.t 30), none⟩]))))) (.seq (.reg [⟨some 33, .mv (.t 0), none⟩, ⟨some 34, .fldA 0 (.t 33), none⟩, ⟨some 35, .fldA 1 (.t 34), none⟩, ⟨some 36, .ld 1 false (.t 35), none⟩, ⟨some 37, .mv (.t 2), none⟩, ⟨some 38, .bin .gtr (.t 36) (.t 37), none⟩]) (.cond (.t 38) (.dreg [(⟨some 39, .mv (.t 0), none⟩, none), (⟨some 40, .mv (.t 0), none⟩, none), (⟨some 41, .fldA 0 (.t 40), none⟩, none), (⟨some 42, .fldA 0 (.t 41), none⟩, none), (⟨some 43, .ld 1 false (.t 42), none⟩, none), (⟨some 44, .mv (.t 2), none⟩, none), (⟨some 45, .mv (.t 0), none⟩, none), (⟨some 46, .fldA 0 (.t 45), none⟩, none), (⟨some 47, .fldA 1 (.t 46), none⟩, none), (⟨some 48, .ld 1 false (.t 47), none⟩, none), (⟨some 49, .slS (.t 43) (some (.t 44)) (some (.t 48)), none⟩, none), (⟨some 50, .pcall 74 [.t 49], none⟩, none), (⟨some 51, .bld [.int .i64 0, .str [], .emp, .str [], .bool false, .int .i64 0, .int .i64 0] [(0, (1, (.c (.int .i64 3)))), (3, (1, (.t 50)))], none⟩, none), (⟨some 52, .mv (.t 2), none⟩, none), (⟨some 53, .call (.c (.fn 55 [] [])) [.t 39, .t 51, .t 52], none⟩, (some [43, 48]))]) .skip))), []⟩
theorem hc52 : toSF Tryd.prog {pure := [74]} Tryd.f52 = some c52 := by kernel_rfl
theorem hn52 : (Tryd.f52.name == "runtime.NumGoroutine") = false := by kernel_rfl
theorem tokText_ok {h0 h : Heap} {rb : Nat} {s : List UInt8} {a en : Nat} {T : List HTok} (R : RS h0 rb s a en T h) (ha : a ≤ s.length) (hs : s.length ≤ 1000000) (hT : T.length ≤ 1000000) :
    DCalls (Pg G) 52 [.vp rb 0] h fun _ h' => RS h0 rb s (textEnd s a []) en (T ++ textTok s a []) h' := by
  obtain ⟨out, hr⟩ := R.none_rb
  have hr' := hr
  unfold rdO at hr'
  obtain ⟨q, hq⟩ : ∃ q : Nat → Bool, (fun i => kindM s i != 0) = q := ⟨_, rfl⟩
  have ht : textEnd s a [] = firstM q s.length a := by unfold textEnd; rw [if_pos rfl, hq]
  have hu := fstI (q := q) ha
  obtain ⟨u, hue⟩ : ∃ u, firstM q s.length a = u := ⟨_, rfl⟩
  rw [hue] at hu ht
  rw [ht]
  have tx : textTok s a [] = if a < u then [⟨3, [], [], readD (seg s a u) false, false, a, u⟩] else [] := by unfold textTok; rw [ht]; rfl
  have cX := text_ok (G := G) (seg s a u) (by have := seg_le s a u; omega)
  have Put : ∀ h1, RS h0 rb s u en T h1 → DCalls (Pg G) 55 [.vp rb 0, .agg [.int .i64 3, .str [], .emp, .str (readD (seg s a u) false), .bool false, .int .i64 0, .int .i64 0], .int .i64 a] h1 fun _ h' => RS h0 rb s u en (T ++ [⟨3, [], [], readD (seg s a u) false, false, a, u⟩]) h' :=
    fun h1 R1 => (tokPut_ok (G := G) (t := ⟨3, [], [], readD (seg s a u) false, false, 0, 0⟩) a R1 hT).weak rfl (F2.get (.cons (.refl _) (.cons (tokR_wk (t := ⟨3, [], [], readD (seg s a u) false, false, 0, 0⟩) rfl) (.cons (.refl _) .nil))))
  unfold seg at cX Put
  refine dcalls_of_vc Tryd.func52 hn52 hc52 (by rw [Tryd.ntmps52]; simp) (by rw [Tryd.ntmps52]; decide) ?_
  simp -dsimp -implicitDefEqProofs (disch := omega) only [↓vcOps_sp 17, ↓vcD_sp 17, VCA, pg_gl, ↓upd_none, Nat.reduceEqDiff, Nat.reduceBEq, Nat.reduceAdd, Nat.reduceSub, Nat.reduceMul, Nat.reduceLT, Nat.reduceLeDiff, ↓reduceIte, reduceCtorEq, rsOf, rootsOf, SOp.rd, SI.rd, SX.rd, rdL, rdO, rdP, okParts, eqCells, okEqCells, fillA, okFill, setAt, implies_true, forall_const, forall_eq, ne_eq, exists_eq_right_right, exists_eq_right, exists_eq_left, exists_eq_left', rootL, eAttr, lit_eq, deVp_tup, c52, hr']
  refine LoopVC.intro (fun m e h' => ∃ j : Nat, a ≤ j ∧ j ≤ s.length ∧ m = s.length - j ∧ e 0 = .vp rb 0 ∧ e 2 = aInt a ∧ h' = upd h rb (some (rdO s j en out)) ∧ firstM q s.length j = u) (s.length - a)
    (by exact ⟨a, by omega, by omega, by omega, rfl, rfl, (upd_id hr).symm, hue⟩) ?_
  rintro m e h' ⟨j, hj0, hj, rfl, e0, e2, hh, hsk⟩
  have hr2 : h' rb = some (rdO s j en out) := by rw [hh, upd_same]
  have hr3 := hr2
  unfold rdO at hr3
  have Rj : RS h0 rb s j en T h' := R.next fun o ho => by rw [hr] at ho; cases ho; rw [hh]; exact Sub.refl _
  by_cases hlt : j < s.length
  · have cM := tokMark_ok (G := G) hr2 hlt hs
    obtain ⟨k, hk⟩ : ∃ k, kindM s j = k := ⟨_, rfl⟩
    rw [hk] at cM
    have hqj : q j = (k != 0) := by rw [← hq, ← hk]
    cases hk0 : (k == 0) with
    | true =>
      have hj2 := first_on (q := q) hlt (by rw [hqj]; simpa using hk0)
      repeat' (first | ((with_reducible refine brC (fun _ => ?_) fun _ => ?_) <;> try (exfalso; omega)) | ((refine DCalls.of cM ?_; rintro _ _ ⟨rfl, rfl⟩)) | (with_reducible refine And.intro ?_ ?_; · omega) | simp -dsimp -implicitDefEqProofs (disch := omega) only [↓vcOps_sp 17, ↓vcD_sp 17, VCA, pg_gl, ↓upd_none, Nat.reduceEqDiff, Nat.reduceBEq, Nat.reduceAdd, Nat.reduceSub, Nat.reduceMul, Nat.reduceLT, Nat.reduceLeDiff, ↓reduceIte, reduceCtorEq, rsOf, rootsOf, SOp.rd, SI.rd, SX.rd, rdL, rdO, rdP, okParts, eqCells, okEqCells, fillA, okFill, setAt, implies_true, forall_const, forall_eq, ne_eq, exists_eq_right_right, exists_eq_right, exists_eq_left, exists_eq_left', rootL, eAttr, lit_eq, deVp_tup, e0, e2, hr3, hk0])
      exact ⟨_, by omega, j + 1, by omega, by omega, rfl, by rw [hh, upd_upd]; rfl, hj2.symm.trans hsk⟩
    | false =>
      have hj2 := first_off (q := q) (by rw [hqj]; simpa using hk0) hlt
      rw [hj2] at hsk
      subst hsk
      repeat' (first | ((with_reducible refine brC (fun _ => ?_) fun _ => ?_) <;> try (exfalso; omega)) | ((refine DCalls.of cM ?_; rintro _ _ ⟨rfl, rfl⟩)) | (with_reducible apply pcallE.of; · exact cX) | ((refine DCalls.of (Put _ Rj) ?_; rintro _ _ R2)) | (with_reducible refine And.intro ?_ ?_; · omega) | simp -dsimp -implicitDefEqProofs (disch := omega) only [↓vcOps_sp 17, ↓vcD_sp 17, VCA, pg_gl, ↓upd_none, Nat.reduceEqDiff, Nat.reduceBEq, Nat.reduceAdd, Nat.reduceSub, Nat.reduceMul, Nat.reduceLT, Nat.reduceLeDiff, ↓reduceIte, reduceCtorEq, rsOf, rootsOf, SOp.rd, SI.rd, SX.rd, rdL, rdO, rdP, okParts, eqCells, okEqCells, fillA, okFill, setAt, implies_true, forall_const, forall_eq, ne_eq, exists_eq_right_right, exists_eq_right, exists_eq_left, exists_eq_left', rootL, eAttr, lit_eq, deVp_tup, e0, e2, hr3, hk0])
      all_goals first
        | exact ⟨_, Sub.refl _, by rw [tx, if_pos (by omega)]; exact R2⟩
        | exact ⟨_, Sub.refl _, by rw [tx, if_neg (by omega), List.append_nil]; exact Rj⟩
        | trace_state
  · obtain rfl : j = s.length := by omega
    have hj2 := first_end (q := q) (Nat.le_refl s.length)
    rw [hj2] at hsk
    subst hsk
    rw [List.take_length] at cX Put
    repeat' (first | ((with_reducible refine brC (fun _ => ?_) fun _ => ?_) <;> try (exfalso; omega)) | (with_reducible apply pcallE.of; · exact cX) | ((refine DCalls.of (Put _ Rj) ?_; rintro _ _ R2)) | (with_reducible refine And.intro ?_ ?_; · omega) | simp -dsimp -implicitDefEqProofs (disch := omega) only [↓vcOps_sp 17, ↓vcD_sp 17, VCA, pg_gl, ↓upd_none, Nat.reduceEqDiff, Nat.reduceBEq, Nat.reduceAdd, Nat.reduceSub, Nat.reduceMul, Nat.reduceLT, Nat.reduceLeDiff, ↓reduceIte, reduceCtorEq, rsOf, rootsOf, SOp.rd, SI.rd, SX.rd, rdL, rdO, rdP, okParts, eqCells, okEqCells, fillA, okFill, setAt, implies_true, forall_const, forall_eq, ne_eq, exists_eq_right_right, exists_eq_right, exists_eq_left, exists_eq_left', rootL, eAttr, lit_eq, deVp_tup, e0, e2, hr3])
    all_goals first
      | exact ⟨_, Sub.refl _, by rw [tx, if_pos (by omega)]; unfold seg; rw [List.take_length]; exact R2⟩
      | exact ⟨_, Sub.refl _, by rw [tx, if_neg (by omega), List.append_nil]; exact Rj⟩
      | trace_state
theorem all_congr' {α : Type} {l : List α} {p q : α → Bool} (h : ∀ x ∈ l, p x = q x) : l.all p = l.all q := by
  rw [Bool.eq_iff_iff, List.all_eq_true, List.all_eq_true]
  exact ⟨fun g x hx => (h x hx).symm.trans (g x hx), fun g x hx => (h x hx).trans (g x hx)⟩
def foldW (w : List UInt8) : Bool := w.all fun b => (decide (97 ≤ b.toNat) && (decide (b.toNat ≤ 122) && b != 107)) || (b == 33 || (b == 47 || b == 60))
def EqF (G : Glob) : Prop := ∀ s w : List UInt8, s.length = w.length → foldW w = true → s.length ≤ 1000000 → PCalls (Pg G) 99 [.str s, .str w] (.bool (standB s 0 w))
theorem stand_seg {s w : List UInt8} {a : Nat} (h : a + w.length ≤ s.length) : standB (seg s a (a + w.length)) 0 w = standB s a w := by
  unfold standB
  have e1 := seg_len (s := s) (a := a) (b := a + w.length) h
  rw [e1, decide_eq_true (show 0 + w.length ≤ a + w.length - a by omega), decide_eq_true h, Bool.true_and, Bool.true_and]
  refine all_congr' fun i hi => ?_
  rw [Nat.zero_add, bt_seg (by have := List.mem_range.1 hi; omega)]
theorem stand_cons {s w : List UInt8} {a : Nat} {b : UInt8} (hb : lettI b.toNat = false) (h : a + 1 + w.length ≤ s.length) : standB s a (b :: w) = ((bt s a == b.toNat) && standB s (a + 1) w) := by
  unfold standB
  rw [decide_eq_true h, decide_eq_true (show a + (b :: w).length ≤ s.length by rw [List.length_cons]; omega), Bool.true_and, Bool.true_and, List.length_cons, List.range_succ_eq_map, List.all_cons, List.all_map]
  have e0 : bt (b :: w) 0 = b.toNat := rfl
  rw [Nat.add_zero, e0, low_noLet hb]
  congr 1
  refine all_congr' fun i _ => ?_
  have e1 : bt (b :: w) (i + 1) = bt w i := rfl
  simp only [Function.comp, Nat.succ_eq_add_one, e1]
  rw [show a + (i + 1) = a + 1 + i by omega]
theorem seg_two {s : List UInt8} {a : Nat} (h : a + 2 ≤ s.length) : (seg s a (a + 2) == [60, 47]) = ((bt s a == 60) && (bt s (a + 1) == 47)) := by
  have e1 := seg_len (s := s) (a := a) (b := a + 2) h
  obtain ⟨x, y, hxy⟩ : ∃ x y, seg s a (a + 2) = [x, y] := by
    match hh : seg s a (a + 2), (show (seg s a (a + 2)).length = 2 by omega) with
    | [x, y], _ => exact ⟨x, y, rfl⟩
  have b0 := bt_seg (s := s) (a := a) (b := a + 2) (i := 0) (by omega)
  have b1 := bt_seg (s := s) (a := a) (b := a + 2) (i := 1) (by omega)
  rw [hxy] at b0 b1 ⊢
  rw [show a + 0 = a by omega] at b0
  rw [← b0, ← b1]
  have c0 : bt [x, y] 0 = x.toNat := rfl
  have c1 : bt [x, y] 1 = y.toNat := rfl
  rw [c0, c1]
  have k : ∀ (z w : UInt8), (((z.toNat : Nat) : Int) == ((w.toNat : Nat) : Int)) = (z == w) := fun z w => by
    rw [Bool.eq_iff_iff, beq_iff_eq, beq_iff_eq]
    exact ⟨fun h => bt_inj (by omega), fun h => by rw [h]⟩
  rw [show (60 : Int) = (((60 : UInt8).toNat : Nat) : Int) from rfl, show (47 : Int) = (((47 : UInt8).toNat : Nat) : Int) from rfl, k, k]
  simp only [List.cons_beq_cons, List.nil_beq_eq, Bool.and_true, List.isEmpty_nil]
def c79 : SFun := ⟨.seq (.reg [⟨some 6, .mv (.c (.bool false)), none⟩]) (.seq (.reg [⟨some 8, .mv (.t 1), none⟩, ⟨some 9, .bin .add (.t 8) (.c (.int .i64 2)), none⟩, ⟨some 10, .mv (.t 2), none⟩, ⟨some 11, .lenS (.t 10), none⟩, ⟨some 12, .bin .add (.t 9) (.t 11), none⟩, ⟨some 7, .mv (.t 12), none⟩]) (.seq (.reg [⟨some 13, .mv (.t 7), none⟩, ⟨some 14, .mv (.t 0), none⟩, ⟨some 15, .fldA 0 (.t 14), none⟩, ⟨some 16, .fldA 0 (.t 15), none⟩, ⟨some 17, .ld 1 false (.t 16), none⟩, ⟨some 18, .lenS (.t 17), none⟩, ⟨some 19, .bin .lss (.t 13) (.t 18), none⟩, ⟨some 20, .mv (.t 19), none⟩, ⟨some 21, .mv (.t 0), some (20, true)⟩, ⟨some 22, .fldA 0 (.t 21), some (20, true)⟩, ⟨some 23, .fldA 0 (.t 22), some (20, true)⟩, ⟨some 24, .ld 1 false (.t 23), some (20, true)⟩, ⟨some 25, .mv (.t 1), some (20, true)⟩, ⟨some 26, .mv (.t 1), some (20, true)⟩, ⟨some 27, .bin .add (.t 26) (.c (.int .i64 2)), some (20, true)⟩, ⟨some 28, .slS (.t 24) (some (.t 25)) (some (.t 27)), some (20, true)⟩, ⟨some 29, .bin .eql (.t 28) (.c (.str [60, 47])), some (20, true)⟩, ⟨some 30, .pick (.t 20) (.t 29) (.c (.bool false)), none⟩, ⟨some 31, .mv (.t 30), none⟩, ⟨some 32, .mv (.t 0), some (31, true)⟩, ⟨some 33, .fldA 0 (.t 32), some (31, true)⟩, ⟨some 34, .fldA 0 (.t 33), some (31, true)⟩, ⟨some 35, .ld 1 false (.t 34), some (31, true)⟩, ⟨some 36, .mv (.t 1), some (31, true)⟩, ⟨some 37, .bin .add (.t 36) (.c (.int .i64 2)), some (31, true)⟩, ⟨some 38, .mv (.t 7), some (31, true)⟩, ⟨some 39, .slS (.t 35) (some (.t 37)) (some (.t 38)), some (31, true)⟩, ⟨some 40, .mv (.t 2), some (31, true)⟩, ⟨some 41, .pcall 99 [.t 39, .t 40], some (31, true)⟩, ⟨some 42, .pick (.t 31) (.t 41) (.c (.bool false)), none⟩, ⟨some 43, .mv (.t 42), none⟩, ⟨some 44, .mv (.t 0), some (43, true)⟩, ⟨some 45, .fldA 0 (.t 44), some (43, true)⟩, ⟨some 46, .fldA 0 (.t 45), some (43, true)⟩, ⟨some 47, .ld 1 false (.t 46), some (43, true)⟩, ⟨some 48, .mv (.t 7), some (43, true)⟩, ⟨some 49, .idxS (.t 47) (.t 48), some (43, true)⟩, ⟨some 50, .pcall 104 [.t 49], some (43, true)⟩, ⟨some 51, .mv (.t 50), some (43, true)⟩, ⟨some 52, .mv (.t 0), some (51, false)⟩, ⟨some 53, .fldA 0 (.t 52), some (51, false)⟩, ⟨some 54, .fldA 0 (.t 53), some (51, false)⟩, ⟨some 55, .ld 1 false (.t 54), some (51, false)⟩, ⟨some 56, .mv (.t 7), some (51, false)⟩, ⟨some 57, .idxS (.t 55) (.t 56), some (51, false)⟩, ⟨some 58, .bin .eql (.t 57) (.c (.int .u8 47)), some (51, false)⟩, ⟨some 59, .pick (.t 51) (.c (.bool true)) (.t 58), some (43, true)⟩, ⟨some 60, .mv (.t 59), some (43, true)⟩, ⟨some 61, .mv (.t 0), some (60, false)⟩, ⟨some 62, .fldA 0 (.t 61), some (60, false)⟩, ⟨some 63, .fldA 0 (.t 62), some (60, false)⟩, ⟨some 64, .ld 1 false (.t 63), some (60, false)⟩, ⟨some 65, .mv (.t 7), some (60, false)⟩, ⟨some 66, .idxS (.t 64) (.t 65), some (60, false)⟩, ⟨some 67, .bin .eql (.t 66) (.c (.int .u8 62)), some (60, false)⟩, ⟨some 68, .pick (.t 60) (.c (.bool true)) (.t 67), some (43, true)⟩, ⟨some 69, .pick (.t 43) (.t 68) (.c (.bool false)), none⟩, ⟨some 6, .mv (.t 69), none⟩]) .ret)), [.tmp 6]⟩
theorem hc79 : toSF Tryd.prog {pure := [99, 104]} Tryd.f79 = some c79 := by kernel_rfl
theorem hn79 : (Tryd.f79.name == "runtime.NumGoroutine") = false := by kernel_rfl
theorem tokCloses_ok (hE : EqF G) {h : Heap} {rb : Nat} {s nm : List UInt8} {a p en : Nat} {out : AVal} (hr : h rb = some (rdO s a en out)) (hp : p < s.length) (hs : s.length ≤ 1000000) (hn : foldW nm = true) (hl : nm.length ≤ 1000000) :
    DCalls (Pg G) 79 [.vp rb 0, aInt p, .str nm] h fun r h' => r = .bool (closeM s p nm) ∧ h' = h := by
  unfold rdO at hr
  unfold closeM
  by_cases hlt : p + 2 + nm.length < s.length
  · obtain ⟨b, hb⟩ : ∃ b, s.getD (p + 2 + nm.length) 0 = b := ⟨_, rfl⟩
    have eb : bt s (p + 2 + nm.length) = b.toNat := by unfold bt; rw [hb]
    have cB := tokBlank_ok (G := G) b
    have cE := hE (seg s (p + 2) (p + 2 + nm.length)) nm (by rw [seg_len (by omega)]; omega) hn (by have := seg_le s (p + 2) (p + 2 + nm.length); omega)
    rw [stand_seg (by omega)] at cE
    have h2 := seg_two (s := s) (a := p) (by omega)
    rw [decide_eq_true hlt, Bool.true_and, stand_cons (by decide) (by rw [List.length_cons]; omega), stand_cons (by decide) (by omega), eb, ← Bool.and_assoc]
    have e60 : ((bt s p == ((60 : UInt8).toNat : Int)) && (bt s (p + 1) == ((47 : UInt8).toNat : Int))) = (seg s p (p + 2) == [60, 47]) := h2.symm
    rw [e60]
    obtain ⟨x, hx⟩ : ∃ x, (seg s p (p + 2) == [60, 47]) = x := ⟨_, rfl⟩
    obtain ⟨y, hy⟩ : ∃ y, standB s (p + 1 + 1) nm = y := ⟨_, rfl⟩
    rw [hx, hy]
    have hy' : standB s (p + 2) nm = y := hy
    rw [hy'] at cE
    unfold seg at cE hx
    refine dcalls_of_vc Tryd.func79 hn79 hc79 (by rw [Tryd.ntmps79]; simp) (by rw [Tryd.ntmps79]; decide) ?_
    simp -dsimp -implicitDefEqProofs (disch := omega) only [↓vcOps_sp 20, ↓vcD_sp 20, ↓vcOps_sp 31, ↓vcD_sp 31, ↓vcOps_sp 43, ↓vcD_sp 43, ↓vcOps_sp 51, ↓vcD_sp 51, ↓vcOps_sp 60, ↓vcD_sp 60, VCA, pg_gl, ↓upd_none, Nat.reduceEqDiff, Nat.reduceBEq, Nat.reduceAdd, Nat.reduceSub, Nat.reduceMul, Nat.reduceLT, Nat.reduceLeDiff, ↓reduceIte, reduceCtorEq, rsOf, rootsOf, SOp.rd, SI.rd, SX.rd, rdL, rdO, rdP, okParts, eqCells, okEqCells, fillA, okFill, setAt, implies_true, forall_const, forall_eq, ne_eq, exists_eq_right_right, exists_eq_right, exists_eq_left, exists_eq_left', rootL, eAttr, lit_eq, deVp_tup, c79, hr]
    have t1 : ((p : Int) + 2).toNat = p + 2 := by omega
    have t2 : ((p : Int) + 2 + (nm.length : Int)).toNat = p + 2 + nm.length := by omega
    repeat' (first | ((with_reducible refine brC (fun _ => ?_) fun _ => ?_) <;> try (exfalso; omega)) | (with_reducible apply pcallE.of; · exact cE) | (with_reducible apply pcallE.of; · exact cB) | (with_reducible refine And.intro ?_ ?_; · omega) | simp -dsimp -implicitDefEqProofs (disch := omega) only [↓vcOps_sp 20, ↓vcD_sp 20, ↓vcOps_sp 31, ↓vcD_sp 31, ↓vcOps_sp 43, ↓vcD_sp 43, ↓vcOps_sp 51, ↓vcD_sp 51, ↓vcOps_sp 60, ↓vcD_sp 60, VCA, pg_gl, ↓upd_none, Nat.reduceEqDiff, Nat.reduceBEq, Nat.reduceAdd, Nat.reduceSub, Nat.reduceMul, Nat.reduceLT, Nat.reduceLeDiff, ↓reduceIte, reduceCtorEq, rsOf, rootsOf, SOp.rd, SI.rd, SX.rd, rdL, rdO, rdP, okParts, eqCells, okEqCells, fillA, okFill, setAt, implies_true, forall_const, forall_eq, ne_eq, exists_eq_right_right, exists_eq_right, exists_eq_left, exists_eq_left', rootL, eAttr, lit_eq, deVp_tup, hr, hx, hb, t1, t2])
    all_goals refine ⟨Sub.refl _, ?_⟩
    all_goals first | (unfold tagStop; simp_all; done) | trace_state
  · rw [decide_eq_false hlt]
    refine dcalls_of_vc Tryd.func79 hn79 hc79 (by rw [Tryd.ntmps79]; simp) (by rw [Tryd.ntmps79]; decide) ?_
    simp -dsimp -implicitDefEqProofs (disch := omega) only [↓vcOps_sp 20, ↓vcD_sp 20, ↓vcOps_sp 31, ↓vcD_sp 31, ↓vcOps_sp 43, ↓vcD_sp 43, ↓vcOps_sp 51, ↓vcD_sp 51, ↓vcOps_sp 60, ↓vcD_sp 60, VCA, pg_gl, ↓upd_none, Nat.reduceEqDiff, Nat.reduceBEq, Nat.reduceAdd, Nat.reduceSub, Nat.reduceMul, Nat.reduceLT, Nat.reduceLeDiff, ↓reduceIte, reduceCtorEq, rsOf, rootsOf, SOp.rd, SI.rd, SX.rd, rdL, rdO, rdP, okParts, eqCells, okEqCells, fillA, okFill, setAt, implies_true, forall_const, forall_eq, ne_eq, exists_eq_right_right, exists_eq_right, exists_eq_left, exists_eq_left', rootL, eAttr, lit_eq, deVp_tup, c79, hr]
    repeat' (first | ((with_reducible refine brC (fun _ => ?_) fun _ => ?_) <;> try (exfalso; omega)) | (with_reducible refine And.intro ?_ ?_; · omega) | simp -dsimp -implicitDefEqProofs (disch := omega) only [↓vcOps_sp 20, ↓vcD_sp 20, ↓vcOps_sp 31, ↓vcD_sp 31, ↓vcOps_sp 43, ↓vcD_sp 43, ↓vcOps_sp 51, ↓vcD_sp 51, ↓vcOps_sp 60, ↓vcD_sp 60, VCA, pg_gl, ↓upd_none, Nat.reduceEqDiff, Nat.reduceBEq, Nat.reduceAdd, Nat.reduceSub, Nat.reduceMul, Nat.reduceLT, Nat.reduceLeDiff, ↓reduceIte, reduceCtorEq, rsOf, rootsOf, SOp.rd, SI.rd, SX.rd, rdL, rdO, rdP, okParts, eqCells, okEqCells, fillA, okFill, setAt, implies_true, forall_const, forall_eq, ne_eq, exists_eq_right_right, exists_eq_right, exists_eq_left, exists_eq_left', rootL, eAttr, lit_eq, deVp_tup, hr])
    exact ⟨Sub.refl _, rfl⟩
end Go.Proofs.K
end
section
set_option linter.unusedSimpArgs false
set_option linter.unusedVariables false
namespace Go.Proofs.K
open Go Go.Sim Go.Proofs
variable {G : Glob}
def c9 : SFun := ⟨.seq (.reg [⟨some 2, .mv (.c (.int .i64 0)), none⟩]) (.seq (.seq (.reg [⟨some 3, .mv (.t 0), none⟩]) (.block 0 (.seq (.seq (.reg [⟨some 5, .bin .eql (.t 3) (.c (.str [115, 99, 114, 105, 112, 116])), none⟩, ⟨some 4, .mv (.t 5), none⟩]) (.cond (.t 4) .skip (.reg [⟨some 6, .bin .eql (.t 3) (.c (.str [115, 116, 121, 108, 101])), none⟩, ⟨some 4, .mv (.t 6), none⟩]))) (.cond (.t 4) (.seq (.reg [⟨some 2, .mv (.c (.int .i64 1)), none⟩]) .ret) (.seq (.seq (.reg [⟨some 8, .bin .eql (.t 3) (.c (.str [116, 101, 120, 116, 97, 114, 101, 97])), none⟩, ⟨some 7, .mv (.t 8), none⟩]) (.cond (.t 7) .skip (.reg [⟨some 9, .bin .eql (.t 3) (.c (.str [116, 105, 116, 108, 101])), none⟩, ⟨some 7, .mv (.t 9), none⟩]))) (.cond (.t 7) (.seq (.reg [⟨some 2, .mv (.c (.int .i64 2)), none⟩]) .ret) .skip)))))) (.seq (.reg [⟨some 2, .mv (.c (.int .i64 0)), none⟩]) .ret)), [.tmp 2]⟩
theorem hc9 : toSF Tryd.prog {} Tryd.f9 = some c9 := by kernel_rfl
theorem hn9 : (Tryd.f9.name == "runtime.NumGoroutine") = false := by kernel_rfl
theorem tokRaw_ok (nm : List UInt8) : PCalls (Pg G) 9 [.str nm] (aInt (rawM nm)) := fun h => by
  unfold rawM
  refine dcalls_of_vc Tryd.func9 hn9 hc9 (by rw [Tryd.ntmps9]; simp) (by rw [Tryd.ntmps9]; decide) ?_
  simp -dsimp -implicitDefEqProofs (disch := omega) only [VCA, pg_gl, ↓upd_none, Nat.reduceEqDiff, Nat.reduceBEq, Nat.reduceAdd, Nat.reduceSub, Nat.reduceMul, Nat.reduceLT, Nat.reduceLeDiff, ↓reduceIte, reduceCtorEq, rsOf, rootsOf, SOp.rd, SI.rd, SX.rd, rdL, rdO, rdP, okParts, eqCells, okEqCells, fillA, okFill, setAt, implies_true, forall_const, forall_eq, ne_eq, exists_eq_right_right, exists_eq_right, exists_eq_left, exists_eq_left', rootL, eAttr, lit_eq, deVp_tup, c9]
  repeat' (first | ((with_reducible refine brC (fun _ => ?_) fun _ => ?_) <;> try (exfalso; omega)) | (with_reducible refine And.intro ?_ ?_; · omega) | simp -dsimp -implicitDefEqProofs (disch := omega) only [VCA, pg_gl, ↓upd_none, Nat.reduceEqDiff, Nat.reduceBEq, Nat.reduceAdd, Nat.reduceSub, Nat.reduceMul, Nat.reduceLT, Nat.reduceLeDiff, ↓reduceIte, reduceCtorEq, rsOf, rootsOf, SOp.rd, SI.rd, SX.rd, rdL, rdO, rdP, okParts, eqCells, okEqCells, fillA, okFill, setAt, implies_true, forall_const, forall_eq, ne_eq, exists_eq_right_right, exists_eq_right, exists_eq_left, exists_eq_left', rootL, eAttr, lit_eq, deVp_tup])
  all_goals first | (refine ⟨Sub.refl _, ?_⟩; simp_all; done) | (exact Sub.refl _) | trace_state
theorem rawM_two (nm : List UInt8) : rawM nm = 0 ∨ rawM nm = 1 ∨ rawM nm = 2 := by
  unfold rawM
  split
  · exact .inr (.inl rfl)
  · split
    · exact .inr (.inr rfl)
    · exact .inl rfl
theorem rawM_fold {nm : List UInt8} (h : 0 < rawM nm) : foldW nm = true ∧ nm ≠ [] ∧ nm.length ≤ 1000000 := by
  unfold rawM at h
  split at h
  · rename_i q; rcases q with rfl | rfl <;> exact ⟨by decide, by decide, by decide⟩
  · split at h
    · rename_i q; rcases q with rfl | rfl <;> exact ⟨by decide, by decide, by decide⟩
    · omega
def c56 : SFun := ⟨.seq (.reg [⟨some 6, .mv (.t 0), none⟩, ⟨some 7, .fldA 0 (.t 6), none⟩, ⟨some 8, .fldA 1 (.t 7), none⟩, ⟨some 9, .ld 1 false (.t 8), none⟩, ⟨some 4, .mv (.t 9), none⟩]) (.seq (.block 0 (.loop (.seq (.seq (.dreg [(⟨some 10, .mv (.t 0), none⟩, none), (⟨some 11, .fldA 0 (.t 10), none⟩, none), (⟨some 12, .fldA 1 (.t 11), none⟩, none), (⟨some 13, .ld 1 false (.t 12), none⟩, none), (⟨some 14, .mv (.t 0), none⟩, none), (⟨some 15, .fldA 0 (.t 14), none⟩, none), (⟨some 16, .fldA 0 (.t 15), none⟩, none), (⟨some 17, .ld 1 false (.t 16), none⟩, none), (⟨some 18, .lenS (.t 17), none⟩, none), (⟨some 19, .bin .lss (.t 13) (.t 18), none⟩, none), (⟨some 20, .mv (.t 19), none⟩, none), (⟨some 21, .mv (.t 0), some (20, true)⟩, none), (⟨some 22, .mv (.t 0), some (20, true)⟩, none), (⟨some 23, .fldA 0 (.t 22), some (20, true)⟩, none), (⟨some 24, .fldA 1 (.t 23), some (20, true)⟩, none), (⟨some 25, .ld 1 false (.t 24), some (20, true)⟩, none), (⟨some 26, .mv (.t 1), some (20, true)⟩, none), (⟨some 27, .call (.c (.fn 79 [] [])) [.t 21, .t 25, .t 26], some (20, true)⟩, (some [25, 13, 17])), (⟨some 28, .un .not (.t 27), some (20, true)⟩, none), (⟨some 29, .pick (.t 20) (.t 28) (.c (.bool false)), none⟩, none)]) (.cond (.t 29) .skip (.exit 0))) (.block 1 (.reg [⟨some 30, .mv (.t 0), none⟩, ⟨some 31, .fldA 0 (.t 30), none⟩, ⟨some 32, .fldA 1 (.t 31), none⟩, ⟨some 33, .ld 1 false (.t 32), none⟩, ⟨some 34, .bin .add (.t 33) (.c (.int .i64 1)), none⟩, ⟨some 35, .fldA 0 (.t 30), none⟩, ⟨some 36, .fldA 1 (.t 35), none⟩, ⟨none, .st 1 (.t 36) (.t 34), none⟩]))))) (.seq (.seq (.reg [⟨some 37, .mv (.t 0), none⟩, ⟨some 38, .fldA 0 (.t 37), none⟩, ⟨some 39, .fldA 1 (.t 38), none⟩, ⟨some 40, .ld 1 false (.t 39), none⟩, ⟨some 41, .mv (.t 4), none⟩, ⟨some 42, .bin .eql (.t 40) (.t 41), none⟩]) (.cond (.t 42) .ret .skip)) (.seq (.dreg [(⟨some 43, .mv (.t 0), none⟩, none), (⟨some 44, .fldA 0 (.t 43), none⟩, none), (⟨some 45, .fldA 0 (.t 44), none⟩, none), (⟨some 46, .ld 1 false (.t 45), none⟩, none), (⟨some 47, .mv (.t 4), none⟩, none), (⟨some 48, .mv (.t 0), none⟩, none), (⟨some 49, .fldA 0 (.t 48), none⟩, none), (⟨some 50, .fldA 1 (.t 49), none⟩, none), (⟨some 51, .ld 1 false (.t 50), none⟩, none), (⟨some 52, .slS (.t 46) (some (.t 47)) (some (.t 51)), none⟩, none), (⟨some 5, .mv (.t 52), none⟩, none)]) (.seq (.seq (.reg [⟨some 53, .mv (.t 1), none⟩, ⟨some 54, .pcall 9 [.t 53], none⟩, ⟨some 55, .bin .eql (.t 54) (.c (.int .i64 2)), none⟩]) (.cond (.t 55) (.reg [⟨some 56, .mv (.t 5), none⟩, ⟨some 57, .pcall 74 [.t 56], none⟩, ⟨some 5, .mv (.t 57), none⟩]) .skip)) (.reg [⟨some 58, .mv (.t 0), none⟩, ⟨some 59, .mv (.t 5), none⟩, ⟨some 60, .bld [.int .i64 0, .str [], .emp, .str [], .bool false, .int .i64 0, .int .i64 0] [(0, (1, (.c (.int .i64 3)))), (3, (1, (.t 59)))], none⟩, ⟨some 61, .mv (.t 4), none⟩, ⟨some 62, .call (.c (.fn 55 [] [])) [.t 58, .t 60, .t 61], none⟩]))))), []⟩
theorem hc56 : toSF Tryd.prog {pure := [9, 74]} Tryd.f56 = some c56 := by kernel_rfl
theorem hn56 : (Tryd.f56.name == "runtime.NumGoroutine") = false := by kernel_rfl
theorem tokRawText_ok (hE : EqF G) {h0 h : Heap} {rb : Nat} {s nm : List UInt8} {a en : Nat} {T : List HTok} (R : RS h0 rb s a en T h) (ha : a ≤ s.length) (hs : s.length ≤ 1000000) (hT : T.length ≤ 1000000) (hn : 0 < rawM nm) :
    DCalls (Pg G) 56 [.vp rb 0, .str nm] h fun _ h' => RS h0 rb s (textEnd s a nm) en (T ++ textTok s a nm) h' := by
  obtain ⟨out, hr⟩ := R.none_rb
  have hr' := hr
  unfold rdO at hr'
  obtain ⟨f1, f2, f3⟩ := rawM_fold hn
  obtain ⟨q, hq⟩ : ∃ q : Nat → Bool, (fun i => closeM s i nm) = q := ⟨_, rfl⟩
  have ht : textEnd s a nm = firstM q s.length a := by unfold textEnd; rw [if_neg f2, hq]
  have hu := fstI (q := q) ha
  obtain ⟨u, hue⟩ : ∃ u, firstM q s.length a = u := ⟨_, rfl⟩
  rw [hue] at hu ht
  rw [ht]
  obtain ⟨x, hx⟩ : ∃ x, (if rawM nm = 1 then seg s a u else readD (seg s a u) false) = x := ⟨_, rfl⟩
  have tx : textTok s a nm = if a < u then [⟨3, [], [], x, false, a, u⟩] else [] := by unfold textTok; rw [ht, hx]
  have cX := text_ok (G := G) (seg s a u) (by have := seg_le s a u; omega)
  have Put : ∀ h1, RS h0 rb s u en T h1 → DCalls (Pg G) 55 [.vp rb 0, .agg [.int .i64 3, .str [], .emp, .str x, .bool false, .int .i64 0, .int .i64 0], .int .i64 a] h1 fun _ h' => RS h0 rb s u en (T ++ [⟨3, [], [], x, false, a, u⟩]) h' :=
    fun h1 R1 => (tokPut_ok (G := G) (t := ⟨3, [], [], x, false, 0, 0⟩) a R1 hT).weak rfl (F2.get (.cons (.refl _) (.cons (tokR_wk (t := ⟨3, [], [], x, false, 0, 0⟩) rfl) (.cons (.refl _) .nil))))
  have cR := tokRaw_ok (G := G) nm
  have hu1 := hu.ge
  have hu2 := hu.le
  refine dcalls_of_vc Tryd.func56 hn56 hc56 (by rw [Tryd.ntmps56]; simp) (by rw [Tryd.ntmps56]; decide) ?_
  simp -dsimp -implicitDefEqProofs (disch := omega) only [↓vcOps_sp 20, ↓vcD_sp 20, VCA, pg_gl, ↓upd_none, Nat.reduceEqDiff, Nat.reduceBEq, Nat.reduceAdd, Nat.reduceSub, Nat.reduceMul, Nat.reduceLT, Nat.reduceLeDiff, ↓reduceIte, reduceCtorEq, rsOf, rootsOf, SOp.rd, SI.rd, SX.rd, rdL, rdO, rdP, okParts, eqCells, okEqCells, fillA, okFill, setAt, implies_true, forall_const, forall_eq, ne_eq, exists_eq_right_right, exists_eq_right, exists_eq_left, exists_eq_left', rootL, eAttr, lit_eq, deVp_tup, c56, hr']
  refine LoopVC.intro (fun m e h' => ∃ j : Nat, a ≤ j ∧ j ≤ s.length ∧ m = s.length - j ∧ e 0 = .vp rb 0 ∧ e 1 = .str nm ∧ e 4 = aInt a ∧ h' = upd h rb (some (rdO s j en out)) ∧ firstM q s.length j = u) (s.length - a)
    (by exact ⟨a, by omega, by omega, by omega, rfl, rfl, rfl, (upd_id hr).symm, hue⟩) ?_
  rintro m e h' ⟨j, hj0, hj, rfl, e0, e1, e4, hh, hsk⟩
  have hr2 : h' rb = some (rdO s j en out) := by rw [hh, upd_same]
  have hr3 := hr2
  unfold rdO at hr3
  have Rj : RS h0 rb s j en T h' := R.next fun o ho => by rw [hr] at ho; cases ho; rw [hh]; exact Sub.refl _
  by_cases hlt : j < s.length ∧ q j = false
  · have cM := tokCloses_ok (G := G) hE (nm := nm) hr2 hlt.1 hs f1 f3
    rw [show closeM s j nm = q j by rw [← hq], hlt.2] at cM
    have hj2 := first_on (q := q) hlt.1 hlt.2
    have l1 := hlt.1
    repeat' (first | ((with_reducible refine brC (fun _ => ?_) fun _ => ?_) <;> try (exfalso; omega)) | ((refine DCalls.of cM ?_; rintro _ _ ⟨rfl, rfl⟩)) | (with_reducible refine And.intro ?_ ?_; · omega) | simp -dsimp -implicitDefEqProofs (disch := omega) only [↓vcOps_sp 20, ↓vcD_sp 20, VCA, pg_gl, ↓upd_none, Nat.reduceEqDiff, Nat.reduceBEq, Nat.reduceAdd, Nat.reduceSub, Nat.reduceMul, Nat.reduceLT, Nat.reduceLeDiff, ↓reduceIte, reduceCtorEq, rsOf, rootsOf, SOp.rd, SI.rd, SX.rd, rdL, rdO, rdP, okParts, eqCells, okEqCells, fillA, okFill, setAt, implies_true, forall_const, forall_eq, ne_eq, exists_eq_right_right, exists_eq_right, exists_eq_left, exists_eq_left', rootL, eAttr, lit_eq, deVp_tup, e0, e1, e4, hr3])
    exact ⟨_, by omega, j + 1, by omega, by omega, rfl, by rw [hh, upd_upd]; rfl, hj2.symm.trans hsk⟩
  · have hju : u = j := by
      by_cases l1 : j < s.length
      · have : q j = true := by cases hqj : q j with
          | true => rfl
          | false => exact absurd ⟨l1, hqj⟩ hlt
        rw [← hsk]; exact first_off this l1
      · rw [← hsk]; exact first_end (by omega)
    subst hju
    have cM : u < s.length → DCalls (Pg G) 79 [.vp rb 0, aInt u, .str nm] h' fun r h'' => r = .bool true ∧ h'' = h' := fun l1 => by
      have g := tokCloses_ok (G := G) hE (nm := nm) hr2 l1 hs f1 f3
      rw [show closeM s u nm = true by rw [show closeM s u nm = q u by rw [← hq]]; exact hu.hit l1] at g
      exact g
    have t0 : List.drop a (List.take u s) = seg s a u := rfl
    have t1 : ((u : Int) == (a : Int)) = decide (¬ a < u) := by rw [Bool.eq_iff_iff, beq_iff_eq, decide_eq_true_iff]; omega
    have t2 : (rawM nm == 2) = decide (rawM nm ≠ 1) := by
      rcases rawM_two nm with q | q | q
      · omega
      · rw [q]; rfl
      · rw [q]; rfl
    by_cases hau : a < u
    · rw [decide_eq_false (by omega)] at t1
      by_cases h1 : rawM nm = 1
      · rw [decide_eq_false (by omega)] at t2
        rw [if_pos h1] at hx
        by_cases l1 : u < s.length
        · repeat' (first | ((with_reducible refine brC (fun _ => ?_) fun _ => ?_) <;> try (exfalso; omega)) | ((refine DCalls.of (cM l1) ?_; rintro _ _ ⟨rfl, rfl⟩)) | (with_reducible apply pcallE.of; · exact cR) | (with_reducible apply pcallE.of; · exact cX) | ((refine DCalls.of (Put _ Rj) ?_; rintro _ _ R2)) | (with_reducible refine And.intro ?_ ?_; · omega) | simp -dsimp -implicitDefEqProofs (disch := omega) only [↓vcOps_sp 20, ↓vcD_sp 20, VCA, pg_gl, ↓upd_none, Nat.reduceEqDiff, Nat.reduceBEq, Nat.reduceAdd, Nat.reduceSub, Nat.reduceMul, Nat.reduceLT, Nat.reduceLeDiff, ↓reduceIte, reduceCtorEq, rsOf, rootsOf, SOp.rd, SI.rd, SX.rd, rdL, rdO, rdP, okParts, eqCells, okEqCells, fillA, okFill, setAt, implies_true, forall_const, forall_eq, ne_eq, exists_eq_right_right, exists_eq_right, exists_eq_left, exists_eq_left', rootL, eAttr, lit_eq, deVp_tup, e0, e1, e4, hr3, t0, t1, t2, hx])
          all_goals first
            | exact ⟨_, Sub.refl _, by rw [tx, if_pos (by omega)]; exact R2⟩
            | trace_state
        · have t3 : List.drop a s = seg s a u := by unfold seg; rw [List.take_of_length_le (by omega)]
          repeat' (first | ((with_reducible refine brC (fun _ => ?_) fun _ => ?_) <;> try (exfalso; omega)) | (with_reducible apply pcallE.of; · exact cR) | (with_reducible apply pcallE.of; · exact cX) | ((refine DCalls.of (Put _ Rj) ?_; rintro _ _ R2)) | (with_reducible refine And.intro ?_ ?_; · omega) | simp -dsimp -implicitDefEqProofs (disch := omega) only [↓vcOps_sp 20, ↓vcD_sp 20, VCA, pg_gl, ↓upd_none, Nat.reduceEqDiff, Nat.reduceBEq, Nat.reduceAdd, Nat.reduceSub, Nat.reduceMul, Nat.reduceLT, Nat.reduceLeDiff, ↓reduceIte, reduceCtorEq, rsOf, rootsOf, SOp.rd, SI.rd, SX.rd, rdL, rdO, rdP, okParts, eqCells, okEqCells, fillA, okFill, setAt, implies_true, forall_const, forall_eq, ne_eq, exists_eq_right_right, exists_eq_right, exists_eq_left, exists_eq_left', rootL, eAttr, lit_eq, deVp_tup, e0, e1, e4, hr3, t0, t1, t2, hx])
          all_goals first
            | exact ⟨_, Sub.refl _, by rw [tx, if_pos (by omega)]; exact R2⟩
            | trace_state
      · rw [decide_eq_true (by omega)] at t2
        rw [if_neg h1] at hx
        rw [hx] at cX
        by_cases l1 : u < s.length
        · repeat' (first | ((with_reducible refine brC (fun _ => ?_) fun _ => ?_) <;> try (exfalso; omega)) | ((refine DCalls.of (cM l1) ?_; rintro _ _ ⟨rfl, rfl⟩)) | (with_reducible apply pcallE.of; · exact cR) | (with_reducible apply pcallE.of; · exact cX) | ((refine DCalls.of (Put _ Rj) ?_; rintro _ _ R2)) | (with_reducible refine And.intro ?_ ?_; · omega) | simp -dsimp -implicitDefEqProofs (disch := omega) only [↓vcOps_sp 20, ↓vcD_sp 20, VCA, pg_gl, ↓upd_none, Nat.reduceEqDiff, Nat.reduceBEq, Nat.reduceAdd, Nat.reduceSub, Nat.reduceMul, Nat.reduceLT, Nat.reduceLeDiff, ↓reduceIte, reduceCtorEq, rsOf, rootsOf, SOp.rd, SI.rd, SX.rd, rdL, rdO, rdP, okParts, eqCells, okEqCells, fillA, okFill, setAt, implies_true, forall_const, forall_eq, ne_eq, exists_eq_right_right, exists_eq_right, exists_eq_left, exists_eq_left', rootL, eAttr, lit_eq, deVp_tup, e0, e1, e4, hr3, t0, t1, t2])
          all_goals first
            | exact ⟨_, Sub.refl _, by rw [tx, if_pos (by omega)]; exact R2⟩
            | trace_state
        · have t3 : List.drop a s = seg s a u := by unfold seg; rw [List.take_of_length_le (by omega)]
          repeat' (first | ((with_reducible refine brC (fun _ => ?_) fun _ => ?_) <;> try (exfalso; omega)) | (with_reducible apply pcallE.of; · exact cR) | (with_reducible apply pcallE.of; · exact cX) | ((refine DCalls.of (Put _ Rj) ?_; rintro _ _ R2)) | (with_reducible refine And.intro ?_ ?_; · omega) | simp -dsimp -implicitDefEqProofs (disch := omega) only [↓vcOps_sp 20, ↓vcD_sp 20, VCA, pg_gl, ↓upd_none, Nat.reduceEqDiff, Nat.reduceBEq, Nat.reduceAdd, Nat.reduceSub, Nat.reduceMul, Nat.reduceLT, Nat.reduceLeDiff, ↓reduceIte, reduceCtorEq, rsOf, rootsOf, SOp.rd, SI.rd, SX.rd, rdL, rdO, rdP, okParts, eqCells, okEqCells, fillA, okFill, setAt, implies_true, forall_const, forall_eq, ne_eq, exists_eq_right_right, exists_eq_right, exists_eq_left, exists_eq_left', rootL, eAttr, lit_eq, deVp_tup, e0, e1, e4, hr3, t0, t1, t2])
          all_goals first
            | exact ⟨_, Sub.refl _, by rw [tx, if_pos (by omega)]; exact R2⟩
            | trace_state
    · rw [decide_eq_true (by omega)] at t1
      by_cases l1 : u < s.length
      · repeat' (first | ((with_reducible refine brC (fun _ => ?_) fun _ => ?_) <;> try (exfalso; omega)) | ((refine DCalls.of (cM l1) ?_; rintro _ _ ⟨rfl, rfl⟩)) | (with_reducible refine And.intro ?_ ?_; · omega) | simp -dsimp -implicitDefEqProofs (disch := omega) only [↓vcOps_sp 20, ↓vcD_sp 20, VCA, pg_gl, ↓upd_none, Nat.reduceEqDiff, Nat.reduceBEq, Nat.reduceAdd, Nat.reduceSub, Nat.reduceMul, Nat.reduceLT, Nat.reduceLeDiff, ↓reduceIte, reduceCtorEq, rsOf, rootsOf, SOp.rd, SI.rd, SX.rd, rdL, rdO, rdP, okParts, eqCells, okEqCells, fillA, okFill, setAt, implies_true, forall_const, forall_eq, ne_eq, exists_eq_right_right, exists_eq_right, exists_eq_left, exists_eq_left', rootL, eAttr, lit_eq, deVp_tup, e0, e1, e4, hr3, t1])
        exact ⟨_, Sub.refl _, by rw [tx, if_neg (by omega), List.append_nil]; exact Rj⟩
      · repeat' (first | ((with_reducible refine brC (fun _ => ?_) fun _ => ?_) <;> try (exfalso; omega)) | (with_reducible refine And.intro ?_ ?_; · omega) | simp -dsimp -implicitDefEqProofs (disch := omega) only [↓vcOps_sp 20, ↓vcD_sp 20, VCA, pg_gl, ↓upd_none, Nat.reduceEqDiff, Nat.reduceBEq, Nat.reduceAdd, Nat.reduceSub, Nat.reduceMul, Nat.reduceLT, Nat.reduceLeDiff, ↓reduceIte, reduceCtorEq, rsOf, rootsOf, SOp.rd, SI.rd, SX.rd, rdL, rdO, rdP, okParts, eqCells, okEqCells, fillA, okFill, setAt, implies_true, forall_const, forall_eq, ne_eq, exists_eq_right_right, exists_eq_right, exists_eq_left, exists_eq_left', rootL, eAttr, lit_eq, deVp_tup, e0, e1, e4, hr3, t1])
        exact ⟨_, Sub.refl _, by rw [tx, if_neg (by omega), List.append_nil]; exact Rj⟩
theorem kind_is {s : List UInt8} {a : Nat} (h : kindM s a ≠ 0) : bt s a = 60 ∧ a + 1 < s.length ∧ (kindM s a = 97 ∨ kindM s a = 33 ∨ kindM s a = 63 ∨ (kindM s a = 47 ∧ a + 2 < s.length)) := by
  unfold kindM at h ⊢
  by_cases h1 : bt s a ≠ 60 ∨ ¬ a + 1 < s.length
  · rw [if_pos h1] at h; exact absurd rfl h
  · rw [if_neg h1] at h ⊢
    refine ⟨by omega, by omega, ?_⟩
    split
    · exact .inl rfl
    · rename_i h2
      rw [if_neg h2] at h
      split
      · rename_i h3; omega
      · rename_i h3
        rw [if_neg h3] at h
        split
        · rename_i h4; exact .inr (.inr (.inr ⟨rfl, h4.2⟩))
        · rename_i h4; rw [if_neg h4] at h; exact absurd rfl h
theorem rdO_is {s : List UInt8} {v : Int} {b en : Nat} {out : AVal} (hv : v = b) : (⟨Tr, 4, [[.str s, .int .i64 v, aInt en, out]]⟩ : AObj) = rdO s b en out := by subst hv; rfl
def DeclC (G : Glob) (s : List UInt8) : Prop := ∀ (h : Heap) (rb a en : Nat) (out : AVal), h rb = some (rdO s a en out) → kindM s a = 33 → a < s.length → s.length ≤ 1000000 →
  DCalls (Pg G) 76 [.vp rb 0] h fun r h' => r = .tup [.agg (eTok (declM s a).1), .bool (declM s a).2.1] ∧ Sub (upd h rb (some (rdO s (declM s a).2.2 en out))) h' ∧ (declM s a).2.2 ≤ s.length
def NextK (h : Heap) (rb : Nat) (s : List UInt8) (a en : Nat) (out r : AVal) (h' : Heap) : Prop :=
  ∃ b, Sub (upd h rb (some (rdO s b en out))) h' ∧ b ≤ s.length ∧
    match tkMark s a with
    | some q => r = .tup [.agg (eTok q.1), .bool q.2.1] ∧ b = q.2.2
    | none => ∃ t : HTok, (t.kind = 1 ∨ t.kind = 2) ∧ r = .tup [.agg (eTok t), .bool false]
theorem com_le {s w : List UInt8} {a : Nat} (ha : a ≤ s.length) : (comM s a w).2.2 ≤ s.length := by
  have := up_le (w := w) ha
  unfold comM
  simp only
  split
  · rename_i h; exact this.2.2 h
  · exact Nat.le_refl _
def c54 : SFun := ⟨.seq (.reg [⟨some 4, .new 41 7 [.int .i64 0, .str [], .emp, .str [], .bool false, .int .i64 0, .int .i64 0], none⟩, ⟨some 5, .mv (.c (.bool false)), none⟩]) (.seq (.block 0 (.seq (.reg [⟨some 8, .mv (.t 1), none⟩, ⟨some 9, .bin .eql (.t 8) (.c (.int .u8 33)), none⟩, ⟨some 7, .mv (.t 9), none⟩]) (.cond (.t 7) (.seq (.reg [⟨some 10, .mv (.t 0), none⟩, ⟨some 11, .call (.c (.fn 76 [] [])) [.t 10], none⟩, ⟨some 12, .ext (.t 11) 0, none⟩, ⟨some 13, .ext (.t 11) 1, none⟩, ⟨none, .st 7 (.t 4) (.t 12), none⟩, ⟨some 5, .mv (.t 13), none⟩]) .ret) (.seq (.reg [⟨some 15, .mv (.t 1), none⟩, ⟨some 16, .bin .eql (.t 15) (.c (.int .u8 63)), none⟩, ⟨some 14, .mv (.t 16), none⟩]) (.cond (.t 14) (.seq (.reg [⟨some 17, .mv (.t 0), none⟩, ⟨some 18, .fldA 0 (.t 17), none⟩, ⟨some 19, .fldA 1 (.t 18), none⟩, ⟨some 20, .ld 1 false (.t 19), none⟩, ⟨some 21, .bin .add (.t 20) (.c (.int .i64 1)), none⟩, ⟨some 22, .fldA 0 (.t 17), none⟩, ⟨some 23, .fldA 1 (.t 22), none⟩, ⟨none, .st 1 (.t 23) (.t 21), none⟩]) (.seq (.reg [⟨some 24, .mv (.t 0), none⟩, ⟨some 25, .call (.c (.fn 77 [] [])) [.t 24, .c (.str [62])], none⟩, ⟨some 26, .ext (.t 25) 0, none⟩, ⟨some 27, .ext (.t 25) 1, none⟩, ⟨none, .st 7 (.t 4) (.t 26), none⟩, ⟨some 5, .mv (.t 27), none⟩]) .ret)) (.seq (.reg [⟨some 29, .mv (.t 1), none⟩, ⟨some 30, .bin .eql (.t 29) (.c (.int .u8 97)), none⟩, ⟨some 28, .mv (.t 30), none⟩]) (.cond (.t 28) (.seq (.reg [⟨some 31, .mv (.t 0), none⟩, ⟨some 32, .fldA 0 (.t 31), none⟩, ⟨some 33, .fldA 1 (.t 32), none⟩, ⟨some 34, .ld 1 false (.t 33), none⟩, ⟨some 35, .bin .add (.t 34) (.c (.int .i64 1)), none⟩, ⟨some 36, .fldA 0 (.t 31), none⟩, ⟨some 37, .fldA 1 (.t 36), none⟩, ⟨none, .st 1 (.t 37) (.t 35), none⟩]) (.seq (.reg [⟨some 38, .mv (.t 0), none⟩, ⟨some 39, .bld [.int .i64 0, .str [], .emp, .str [], .bool false, .int .i64 0, .int .i64 0] [(0, (1, (.c (.int .i64 1))))], none⟩, ⟨some 40, .call (.c (.fn 78 [] [])) [.t 38, .t 39], none⟩, ⟨some 41, .ext (.t 40) 0, none⟩, ⟨some 42, .ext (.t 40) 1, none⟩, ⟨none, .st 7 (.t 4) (.t 41), none⟩, ⟨some 5, .mv (.t 42), none⟩]) .ret)) .skip))))))) (.seq (.reg [⟨some 43, .mv (.t 0), none⟩, ⟨some 44, .fldA 0 (.t 43), none⟩, ⟨some 45, .fldA 1 (.t 44), none⟩, ⟨some 46, .ld 1 false (.t 45), none⟩, ⟨some 47, .bin .add (.t 46) (.c (.int .i64 2)), none⟩, ⟨some 48, .fldA 0 (.t 43), none⟩, ⟨some 49, .fldA 1 (.t 48), none⟩, ⟨none, .st 1 (.t 49) (.t 47), none⟩]) (.seq (.seq (.dreg [(⟨some 50, .mv (.t 0), none⟩, none), (⟨some 51, .fldA 0 (.t 50), none⟩, none), (⟨some 52, .fldA 0 (.t 51), none⟩, none), (⟨some 53, .ld 1 false (.t 52), none⟩, none), (⟨some 54, .mv (.t 0), none⟩, none), (⟨some 55, .fldA 0 (.t 54), none⟩, none), (⟨some 56, .fldA 1 (.t 55), none⟩, none), (⟨some 57, .ld 1 false (.t 56), none⟩, none), (⟨some 58, .idxS (.t 53) (.t 57), none⟩, none), (⟨some 6, .mv (.t 58), none⟩, none)]) (.block 1 (.seq (.reg [⟨some 60, .mv (.t 6), none⟩, ⟨some 61, .bin .eql (.t 60) (.c (.int .u8 62)), none⟩, ⟨some 59, .mv (.t 61), none⟩]) (.cond (.t 59) (.seq (.reg [⟨some 62, .mv (.t 0), none⟩, ⟨some 63, .fldA 0 (.t 62), none⟩, ⟨some 64, .fldA 1 (.t 63), none⟩, ⟨some 65, .ld 1 false (.t 64), none⟩, ⟨some 66, .bin .add (.t 65) (.c (.int .i64 1)), none⟩, ⟨some 67, .fldA 0 (.t 62), none⟩, ⟨some 68, .fldA 1 (.t 67), none⟩, ⟨none, .st 1 (.t 68) (.t 66), none⟩]) (.seq (.reg [⟨some 69, .ld 7 true (.t 4), none⟩, ⟨none, .st 7 (.t 4) (.t 69), none⟩, ⟨some 5, .mv (.c (.bool true)), none⟩]) .ret)) (.seq (.reg [⟨some 71, .mv (.t 6), none⟩, ⟨some 72, .pcall 75 [.t 71], none⟩, ⟨some 73, .un .not (.t 72), none⟩, ⟨some 70, .mv (.t 73), none⟩]) (.cond (.t 70) (.seq (.reg [⟨some 74, .mv (.t 0), none⟩, ⟨some 75, .call (.c (.fn 77 [] [])) [.t 74, .c (.str [62])], none⟩, ⟨some 76, .ext (.t 75) 0, none⟩, ⟨some 77, .ext (.t 75) 1, none⟩, ⟨none, .st 7 (.t 4) (.t 76), none⟩, ⟨some 5, .mv (.t 77), none⟩]) .ret) .skip)))))) (.seq (.reg [⟨some 79, .mv (.t 0), none⟩, ⟨some 80, .bld [.int .i64 0, .str [], .emp, .str [], .bool false, .int .i64 0, .int .i64 0] [(0, (1, (.c (.int .i64 2))))], none⟩, ⟨some 81, .call (.c (.fn 78 [] [])) [.t 79, .t 80], none⟩, ⟨some 78, .mv (.t 81), none⟩, ⟨some 82, .ext (.t 78) 0, none⟩, ⟨some 83, .ext (.t 78) 1, none⟩, ⟨none, .st 7 (.t 4) (.t 82), none⟩, ⟨some 5, .mv (.t 83), none⟩]) (.seq (.reg [⟨some 84, .fldA 2 (.t 4), none⟩, ⟨none, .st 1 (.t 84) (.c .emp), none⟩, ⟨some 85, .fldA 4 (.t 4), none⟩, ⟨none, .st 1 (.t 85) (.c (.bool false)), none⟩]) (.seq (.reg [⟨some 86, .ld 7 true (.t 4), none⟩, ⟨some 87, .mv (.t 5), none⟩, ⟨none, .st 7 (.t 4) (.t 86), none⟩, ⟨some 5, .mv (.t 87), none⟩]) .ret)))))), [.cell 4 7 true, .tmp 5]⟩
theorem hc54 : toSF Tryd.prog {pure := [75]} Tryd.f54 = some c54 := by kernel_rfl
theorem hn54 : (Tryd.f54.name == "runtime.NumGoroutine") = false := by kernel_rfl
set_option maxHeartbeats 1000000 in
theorem tokNext_ok (hG : MaxLenOK G) {h : Heap} {rb : Nat} {s : List UInt8} {a en : Nat} {out : AVal} (hr : h rb = some (rdO s a en out)) (hD : DeclC G s) (hk : kindM s a ≠ 0) (ha : a < s.length) (hs : s.length ≤ 1000000) :
    DCalls (Pg G) 54 [.vp rb 0, .int .u8 (kindM s a)] h (NextK h rb s a en out) := by
  refine DCalls.wkRes (K0 := fun r h' => ∃ r', Wk r r' ∧ NextK h rb s a en out r' h') ?_ (fun a h' ⟨b, w, k⟩ => ⟨b, w, k⟩)
  have hr' := hr
  unfold rdO at hr'
  obtain ⟨_, ha1, hc⟩ := kind_is hk
  unfold NextK tkMark
  rcases hc with hc | hc | hc | ⟨hc, ha2⟩
  · rw [hc, if_pos rfl]
    refine dcalls_of_vc Tryd.func54 hn54 hc54 (by rw [Tryd.ntmps54]; simp) (by rw [Tryd.ntmps54]; decide) ?_
    simp -dsimp -implicitDefEqProofs (disch := omega) only [VCA, pg_gl, ↓upd_none, Nat.reduceEqDiff, Nat.reduceBEq, Nat.reduceAdd, Nat.reduceSub, Nat.reduceMul, Nat.reduceLT, Nat.reduceLeDiff, ↓reduceIte, reduceCtorEq, rsOf, rootsOf, SOp.rd, SI.rd, SX.rd, rdL, rdO, rdP, okParts, eqCells, okEqCells, fillA, okFill, setAt, implies_true, forall_const, forall_eq, ne_eq, exists_eq_right_right, exists_eq_right, exists_eq_left, exists_eq_left', rootL, eAttr, lit_eq, deVp_tup, c54]
    intro r4 hr4
    have m1 : ¬ rb = r4 := fun q => by rw [← q, hr] at hr4; cases hr4
    have m2 : ¬ r4 = rb := fun q => m1 q.symm
    obtain ⟨hA, hhA⟩ : ∃ hA, upd (upd h r4 (some ⟨Tt, 7, [[aInt 0, .str [], .emp, .str [], .bool false, aInt 0, aInt 0]]⟩)) rb (some (rdO s (a + 1) en out)) = hA := ⟨_, rfl⟩
    have SA : Sub (upd h rb (some (rdO s (a + 1) en out))) hA := by
      rw [← hhA]; exact S_put (x := rdO s a en out) (by rw [upd_id hr]; exact (Sub.refl h).upd hr4)
    have gA := has_at SA
    have gA' := gA
    unfold rdO at gA'
    have zA : hA r4 = some ⟨Tt, 7, [[aInt 0, .str [], .emp, .str [], .bool false, aInt 0, aInt 0]]⟩ := by rw [← hhA, upd_ne _ _ m2, upd_same]
    repeat' (first | ((with_reducible refine brC (fun _ => ?_) fun _ => ?_) <;> try (exfalso; omega)) | (with_reducible refine And.intro ?_ ?_; · omega) | simp -dsimp -implicitDefEqProofs (disch := omega) only [VCA, pg_gl, ↓upd_none, Nat.reduceEqDiff, Nat.reduceBEq, Nat.reduceAdd, Nat.reduceSub, Nat.reduceMul, Nat.reduceLT, Nat.reduceLeDiff, ↓reduceIte, reduceCtorEq, rsOf, rootsOf, SOp.rd, SI.rd, SX.rd, rdL, rdO, rdP, okParts, eqCells, okEqCells, fillA, okFill, setAt, implies_true, forall_const, forall_eq, ne_eq, exists_eq_right_right, exists_eq_right, exists_eq_left, exists_eq_left', rootL, eAttr, lit_eq, deVp_tup, m1, m2, hr', upd_same])
    rw [rdO_one, hhA]
    refine DCalls.of (tokTag_ok (G := G) hG 1 gA (by omega) hs) ?_
    rintro _ hB ⟨b, SB, hb, hT⟩
    have zB : hB r4 = some ⟨Tt, 7, [[aInt 0, .str [], .emp, .str [], .bool false, aInt 0, aInt 0]]⟩ := SB _ _ (by rw [upd_ne _ _ m2]; exact zA)
    cases hq : tagM s (a + 1) with
    | some q =>
      rw [hq] at hT
      obtain ⟨rfl, rfl, _⟩ := hT
      obtain ⟨t, ht⟩ : ∃ t : HTok, ⟨1, q.1, q.2.1, [], q.2.2.1, 0, 0⟩ = t := ⟨_, rfl⟩
      rw [ht]
      unfold eTok
      repeat' (first | ((with_reducible refine brC (fun _ => ?_) fun _ => ?_) <;> try (exfalso; omega)) | (with_reducible refine And.intro ?_ ?_; · omega) | simp -dsimp -implicitDefEqProofs (disch := omega) only [VCA, pg_gl, ↓upd_none, Nat.reduceEqDiff, Nat.reduceBEq, Nat.reduceAdd, Nat.reduceSub, Nat.reduceMul, Nat.reduceLT, Nat.reduceLeDiff, ↓reduceIte, reduceCtorEq, rsOf, rootsOf, SOp.rd, SI.rd, SX.rd, rdL, rdO, rdP, okParts, eqCells, okEqCells, fillA, okFill, setAt, implies_true, forall_const, forall_eq, ne_eq, exists_eq_right_right, exists_eq_right, exists_eq_left, exists_eq_left', rootL, eAttr, lit_eq, deVp_tup, zB])
      exact ⟨_, Sub.refl _, _, .refl _, q.2.2.2, S_new (S_next SA SB) hr4 m2, hb, by rw [← ht]; exact ⟨rfl, rfl⟩⟩
    | none =>
      rw [hq] at hT
      obtain ⟨⟨t, ht, rfl⟩, rfl⟩ := hT
      unfold eTok
      repeat' (first | ((with_reducible refine brC (fun _ => ?_) fun _ => ?_) <;> try (exfalso; omega)) | (with_reducible refine And.intro ?_ ?_; · omega) | simp -dsimp -implicitDefEqProofs (disch := omega) only [VCA, pg_gl, ↓upd_none, Nat.reduceEqDiff, Nat.reduceBEq, Nat.reduceAdd, Nat.reduceSub, Nat.reduceMul, Nat.reduceLT, Nat.reduceLeDiff, ↓reduceIte, reduceCtorEq, rsOf, rootsOf, SOp.rd, SI.rd, SX.rd, rdL, rdO, rdP, okParts, eqCells, okEqCells, fillA, okFill, setAt, implies_true, forall_const, forall_eq, ne_eq, exists_eq_right_right, exists_eq_right, exists_eq_left, exists_eq_left', rootL, eAttr, lit_eq, deVp_tup, zB])
      exact ⟨_, Sub.refl _, _, .refl _, _, S_new (S_next SA SB) hr4 m2, hb, t, .inl ht, rfl⟩
  · rw [hc, if_neg (by decide), if_pos rfl]
    have cD := fun h hr => hD h rb a en out hr hc ha hs
    obtain ⟨⟨t, b, c⟩, ht⟩ : ∃ t, declM s a = t := ⟨_, rfl⟩
    rw [ht]
    refine dcalls_of_vc Tryd.func54 hn54 hc54 (by rw [Tryd.ntmps54]; simp) (by rw [Tryd.ntmps54]; decide) ?_
    simp -dsimp -implicitDefEqProofs (disch := omega) only [VCA, pg_gl, ↓upd_none, Nat.reduceEqDiff, Nat.reduceBEq, Nat.reduceAdd, Nat.reduceSub, Nat.reduceMul, Nat.reduceLT, Nat.reduceLeDiff, ↓reduceIte, reduceCtorEq, rsOf, rootsOf, SOp.rd, SI.rd, SX.rd, rdL, rdO, rdP, okParts, eqCells, okEqCells, fillA, okFill, setAt, implies_true, forall_const, forall_eq, ne_eq, exists_eq_right_right, exists_eq_right, exists_eq_left, exists_eq_left', rootL, eAttr, lit_eq, deVp_tup, c54]
    intro r4 hr4
    have m1 : ¬ rb = r4 := fun q => by rw [← q, hr] at hr4; cases hr4
    have m2 : ¬ r4 = rb := fun q => m1 q.symm
    have zA : upd h r4 (some ⟨Tt, 7, [[aInt 0, .str [], .emp, .str [], .bool false, aInt 0, aInt 0]]⟩) r4 = some ⟨Tt, 7, [[aInt 0, .str [], .emp, .str [], .bool false, aInt 0, aInt 0]]⟩ := upd_same _ _ _
    have cD := cD (upd h r4 (some ⟨Tt, 7, [[aInt 0, .str [], .emp, .str [], .bool false, aInt 0, aInt 0]]⟩)) (by rw [upd_ne _ _ m1]; exact hr)
    repeat' (first | ((with_reducible refine brC (fun _ => ?_) fun _ => ?_) <;> try (exfalso; omega)) | (with_reducible refine And.intro ?_ ?_; · omega) | simp -dsimp -implicitDefEqProofs (disch := omega) only [VCA, pg_gl, ↓upd_none, Nat.reduceEqDiff, Nat.reduceBEq, Nat.reduceAdd, Nat.reduceSub, Nat.reduceMul, Nat.reduceLT, Nat.reduceLeDiff, ↓reduceIte, reduceCtorEq, rsOf, rootsOf, SOp.rd, SI.rd, SX.rd, rdL, rdO, rdP, okParts, eqCells, okEqCells, fillA, okFill, setAt, implies_true, forall_const, forall_eq, ne_eq, exists_eq_right_right, exists_eq_right, exists_eq_left, exists_eq_left', rootL, eAttr, lit_eq, deVp_tup])
    refine DCalls.of cD ?_
    rintro _ hB ⟨rfl, SB, hb⟩
    rw [ht] at SB hb ⊢
    have zB : hB r4 = some ⟨Tt, 7, [[aInt 0, .str [], .emp, .str [], .bool false, aInt 0, aInt 0]]⟩ := SB _ _ (by rw [upd_ne _ _ m2]; exact zA)
    have SA : Sub (upd h rb (some (rdO s a en out))) (upd h r4 (some ⟨Tt, 7, [[aInt 0, .str [], .emp, .str [], .bool false, aInt 0, aInt 0]]⟩)) := by rw [upd_id hr]; exact (Sub.refl h).upd hr4
    unfold eTok
    repeat' (first | ((with_reducible refine brC (fun _ => ?_) fun _ => ?_) <;> try (exfalso; omega)) | (with_reducible refine And.intro ?_ ?_; · omega) | simp -dsimp -implicitDefEqProofs (disch := omega) only [VCA, pg_gl, ↓upd_none, Nat.reduceEqDiff, Nat.reduceBEq, Nat.reduceAdd, Nat.reduceSub, Nat.reduceMul, Nat.reduceLT, Nat.reduceLeDiff, ↓reduceIte, reduceCtorEq, rsOf, rootsOf, SOp.rd, SI.rd, SX.rd, rdL, rdO, rdP, okParts, eqCells, okEqCells, fillA, okFill, setAt, implies_true, forall_const, forall_eq, ne_eq, exists_eq_right_right, exists_eq_right, exists_eq_left, exists_eq_left', rootL, eAttr, lit_eq, deVp_tup, zB])
    exact ⟨_, Sub.refl _, _, .refl _, c, S_new (S_next SA SB) hr4 m2, hb, rfl, rfl⟩
  · rw [hc, if_neg (by decide), if_neg (by decide), if_pos rfl]
    have hb := com_le (s := s) (w := [62]) (a := a + 1) (by omega)
    refine dcalls_of_vc Tryd.func54 hn54 hc54 (by rw [Tryd.ntmps54]; simp) (by rw [Tryd.ntmps54]; decide) ?_
    simp -dsimp -implicitDefEqProofs (disch := omega) only [VCA, pg_gl, ↓upd_none, Nat.reduceEqDiff, Nat.reduceBEq, Nat.reduceAdd, Nat.reduceSub, Nat.reduceMul, Nat.reduceLT, Nat.reduceLeDiff, ↓reduceIte, reduceCtorEq, rsOf, rootsOf, SOp.rd, SI.rd, SX.rd, rdL, rdO, rdP, okParts, eqCells, okEqCells, fillA, okFill, setAt, implies_true, forall_const, forall_eq, ne_eq, exists_eq_right_right, exists_eq_right, exists_eq_left, exists_eq_left', rootL, eAttr, lit_eq, deVp_tup, c54]
    intro r4 hr4
    have m1 : ¬ rb = r4 := fun q => by rw [← q, hr] at hr4; cases hr4
    have m2 : ¬ r4 = rb := fun q => m1 q.symm
    obtain ⟨hA, hhA⟩ : ∃ hA, upd (upd h r4 (some ⟨Tt, 7, [[aInt 0, .str [], .emp, .str [], .bool false, aInt 0, aInt 0]]⟩)) rb (some (rdO s (a + 1) en out)) = hA := ⟨_, rfl⟩
    have SA : Sub (upd h rb (some (rdO s (a + 1) en out))) hA := by
      rw [← hhA]; exact S_put (x := rdO s a en out) (by rw [upd_id hr]; exact (Sub.refl h).upd hr4)
    have gA := has_at SA
    have gA' := gA
    unfold rdO at gA'
    have zA : hA r4 = some ⟨Tt, 7, [[aInt 0, .str [], .emp, .str [], .bool false, aInt 0, aInt 0]]⟩ := by rw [← hhA, upd_ne _ _ m2, upd_same]
    repeat' (first | ((with_reducible refine brC (fun _ => ?_) fun _ => ?_) <;> try (exfalso; omega)) | (with_reducible refine And.intro ?_ ?_; · omega) | simp -dsimp -implicitDefEqProofs (disch := omega) only [VCA, pg_gl, ↓upd_none, Nat.reduceEqDiff, Nat.reduceBEq, Nat.reduceAdd, Nat.reduceSub, Nat.reduceMul, Nat.reduceLT, Nat.reduceLeDiff, ↓reduceIte, reduceCtorEq, rsOf, rootsOf, SOp.rd, SI.rd, SX.rd, rdL, rdO, rdP, okParts, eqCells, okEqCells, fillA, okFill, setAt, implies_true, forall_const, forall_eq, ne_eq, exists_eq_right_right, exists_eq_right, exists_eq_left, exists_eq_left', rootL, eAttr, lit_eq, deVp_tup, m1, m2, hr', upd_same])
    rw [rdO_one, hhA]
    refine DCalls.of (tokComment_ok (G := G) hG gA (by omega) hs (by decide) (by simp)) ?_
    rintro _ hB ⟨rfl, SB⟩
    have zB : hB r4 = some ⟨Tt, 7, [[aInt 0, .str [], .emp, .str [], .bool false, aInt 0, aInt 0]]⟩ := SB _ _ (by rw [upd_ne _ _ m2]; exact zA)
    obtain ⟨⟨t, b, c⟩, ht⟩ : ∃ t, comM s (a + 1) [62] = t := ⟨_, rfl⟩
    rw [ht] at SB hb ⊢
    unfold eTok
    repeat' (first | ((with_reducible refine brC (fun _ => ?_) fun _ => ?_) <;> try (exfalso; omega)) | (with_reducible refine And.intro ?_ ?_; · omega) | simp -dsimp -implicitDefEqProofs (disch := omega) only [VCA, pg_gl, ↓upd_none, Nat.reduceEqDiff, Nat.reduceBEq, Nat.reduceAdd, Nat.reduceSub, Nat.reduceMul, Nat.reduceLT, Nat.reduceLeDiff, ↓reduceIte, reduceCtorEq, rsOf, rootsOf, SOp.rd, SI.rd, SX.rd, rdL, rdO, rdP, okParts, eqCells, okEqCells, fillA, okFill, setAt, implies_true, forall_const, forall_eq, ne_eq, exists_eq_right_right, exists_eq_right, exists_eq_left, exists_eq_left', rootL, eAttr, lit_eq, deVp_tup, zB])
    exact ⟨_, Sub.refl _, _, .refl _, c, S_new (S_next SA SB) hr4 m2, hb, rfl, rfl⟩
  · rw [hc, if_neg (by decide), if_neg (by decide), if_neg (by decide)]
    obtain ⟨c, hcc⟩ : ∃ c, s.getD (a + 2) 0 = c := ⟨_, rfl⟩
    have ec : bt s (a + 2) = c.toNat := by unfold bt; rw [hcc]
    rw [ec]
    have cL := tokLetter_ok (G := G) c
    have t2 : ((a : Int) + 2).toNat = a + 2 := by omega
    have tB : (((a + 2 : Nat) : Int)) = (a : Int) + 2 := by omega
    cases h62 : ((c.toNat : Int) == 62) with
    | true =>
      rw [if_pos (by simpa using h62)]
      refine dcalls_of_vc Tryd.func54 hn54 hc54 (by rw [Tryd.ntmps54]; simp) (by rw [Tryd.ntmps54]; decide) ?_
      simp -dsimp -implicitDefEqProofs (disch := omega) only [VCA, pg_gl, ↓upd_none, Nat.reduceEqDiff, Nat.reduceBEq, Nat.reduceAdd, Nat.reduceSub, Nat.reduceMul, Nat.reduceLT, Nat.reduceLeDiff, ↓reduceIte, reduceCtorEq, rsOf, rootsOf, SOp.rd, SI.rd, SX.rd, rdL, rdO, rdP, okParts, eqCells, okEqCells, fillA, okFill, setAt, implies_true, forall_const, forall_eq, ne_eq, exists_eq_right_right, exists_eq_right, exists_eq_left, exists_eq_left', rootL, eAttr, lit_eq, deVp_tup, c54]
      intro r4 hr4
      have m1 : ¬ rb = r4 := fun q => by rw [← q, hr] at hr4; cases hr4
      have m2 : ¬ r4 = rb := fun q => m1 q.symm
      obtain ⟨hA, hhA⟩ : ∃ hA, upd (upd h r4 (some ⟨Tt, 7, [[aInt 0, .str [], .emp, .str [], .bool false, aInt 0, aInt 0]]⟩)) rb (some (rdO s (a + 2) en out)) = hA := ⟨_, rfl⟩
      have SA : Sub (upd h rb (some (rdO s (a + 2) en out))) hA := by
        rw [← hhA]; exact S_put (x := rdO s a en out) (by rw [upd_id hr]; exact (Sub.refl h).upd hr4)
      have gA := has_at SA
      have gA' := gA
      unfold rdO at gA'
      have zA : hA r4 = some ⟨Tt, 7, [[aInt 0, .str [], .emp, .str [], .bool false, aInt 0, aInt 0]]⟩ := by rw [← hhA, upd_ne _ _ m2, upd_same]
      repeat' (first | ((with_reducible refine brC (fun _ => ?_) fun _ => ?_) <;> try (exfalso; omega)) | (with_reducible refine And.intro ?_ ?_; · omega) | simp -dsimp -implicitDefEqProofs (disch := omega) only [VCA, pg_gl, ↓upd_none, Nat.reduceEqDiff, Nat.reduceBEq, Nat.reduceAdd, Nat.reduceSub, Nat.reduceMul, Nat.reduceLT, Nat.reduceLeDiff, ↓reduceIte, reduceCtorEq, rsOf, rootsOf, SOp.rd, SI.rd, SX.rd, rdL, rdO, rdP, okParts, eqCells, okEqCells, fillA, okFill, setAt, implies_true, forall_const, forall_eq, ne_eq, exists_eq_right_right, exists_eq_right, exists_eq_left, exists_eq_left', rootL, eAttr, lit_eq, deVp_tup, m1, m2, hr', upd_same, hcc, h62, t2])
      refine ⟨_, Sub.refl _, _, tokR_wk2 (t := tok0) rfl, a + 3, ?_, by omega, rfl, rfl⟩
      rw [rdO_is (v := (a : Int) + 2 + 1) (b := a + 3) (by omega)]
      exact S_new (S_put (x := rdO s a en out) (by rw [upd_id hr]; exact (Sub.refl h).upd hr4)) hr4 m2
    | false =>
      rw [if_neg (by simpa using h62)]
      refine dcalls_of_vc Tryd.func54 hn54 hc54 (by rw [Tryd.ntmps54]; simp) (by rw [Tryd.ntmps54]; decide) ?_
      simp -dsimp -implicitDefEqProofs (disch := omega) only [VCA, pg_gl, ↓upd_none, Nat.reduceEqDiff, Nat.reduceBEq, Nat.reduceAdd, Nat.reduceSub, Nat.reduceMul, Nat.reduceLT, Nat.reduceLeDiff, ↓reduceIte, reduceCtorEq, rsOf, rootsOf, SOp.rd, SI.rd, SX.rd, rdL, rdO, rdP, okParts, eqCells, okEqCells, fillA, okFill, setAt, implies_true, forall_const, forall_eq, ne_eq, exists_eq_right_right, exists_eq_right, exists_eq_left, exists_eq_left', rootL, eAttr, lit_eq, deVp_tup, c54]
      intro r4 hr4
      have m1 : ¬ rb = r4 := fun q => by rw [← q, hr] at hr4; cases hr4
      have m2 : ¬ r4 = rb := fun q => m1 q.symm
      obtain ⟨hA, hhA⟩ : ∃ hA, upd (upd h r4 (some ⟨Tt, 7, [[aInt 0, .str [], .emp, .str [], .bool false, aInt 0, aInt 0]]⟩)) rb (some (rdO s (a + 2) en out)) = hA := ⟨_, rfl⟩
      have SA : Sub (upd h rb (some (rdO s (a + 2) en out))) hA := by
        rw [← hhA]; exact S_put (x := rdO s a en out) (by rw [upd_id hr]; exact (Sub.refl h).upd hr4)
      have gA := has_at SA
      have zA : hA r4 = some ⟨Tt, 7, [[aInt 0, .str [], .emp, .str [], .bool false, aInt 0, aInt 0]]⟩ := by rw [← hhA, upd_ne _ _ m2, upd_same]
      cases hl : lettI (c.toNat : Int) with
      | false =>
        rw [hl] at cL
        rw [if_neg (by simp)]
        have hb := com_le (s := s) (w := [62]) (a := a + 2) (by omega)
        repeat' (first | ((with_reducible refine brC (fun _ => ?_) fun _ => ?_) <;> try (exfalso; omega)) | (with_reducible apply pcallE.of; · exact cL) | (with_reducible refine And.intro ?_ ?_; · omega) | simp -dsimp -implicitDefEqProofs (disch := omega) only [VCA, pg_gl, ↓upd_none, Nat.reduceEqDiff, Nat.reduceBEq, Nat.reduceAdd, Nat.reduceSub, Nat.reduceMul, Nat.reduceLT, Nat.reduceLeDiff, ↓reduceIte, reduceCtorEq, rsOf, rootsOf, SOp.rd, SI.rd, SX.rd, rdL, rdO, rdP, okParts, eqCells, okEqCells, fillA, okFill, setAt, implies_true, forall_const, forall_eq, ne_eq, exists_eq_right_right, exists_eq_right, exists_eq_left, exists_eq_left', rootL, eAttr, lit_eq, deVp_tup, m1, m2, hr', upd_same, hcc, h62, t2])
        rw [rdO_is (v := (a : Int) + 2) (b := a + 2) (by omega), hhA]
        refine DCalls.of (tokComment_ok (G := G) hG gA (by omega) hs (by decide) (by simp)) ?_
        rintro _ hB ⟨rfl, SB⟩
        have zB : hB r4 = some ⟨Tt, 7, [[aInt 0, .str [], .emp, .str [], .bool false, aInt 0, aInt 0]]⟩ := SB _ _ (by rw [upd_ne _ _ m2]; exact zA)
        obtain ⟨⟨t, b, c⟩, ht⟩ : ∃ t, comM s (a + 2) [62] = t := ⟨_, rfl⟩
        rw [ht] at SB hb ⊢
        unfold eTok
        repeat' (first | ((with_reducible refine brC (fun _ => ?_) fun _ => ?_) <;> try (exfalso; omega)) | (with_reducible refine And.intro ?_ ?_; · omega) | simp -dsimp -implicitDefEqProofs (disch := omega) only [VCA, pg_gl, ↓upd_none, Nat.reduceEqDiff, Nat.reduceBEq, Nat.reduceAdd, Nat.reduceSub, Nat.reduceMul, Nat.reduceLT, Nat.reduceLeDiff, ↓reduceIte, reduceCtorEq, rsOf, rootsOf, SOp.rd, SI.rd, SX.rd, rdL, rdO, rdP, okParts, eqCells, okEqCells, fillA, okFill, setAt, implies_true, forall_const, forall_eq, ne_eq, exists_eq_right_right, exists_eq_right, exists_eq_left, exists_eq_left', rootL, eAttr, lit_eq, deVp_tup, zB])
        exact ⟨_, Sub.refl _, _, .refl _, c, S_new (S_next SA SB) hr4 m2, hb, rfl, rfl⟩
      | true =>
        rw [hl] at cL
        rw [if_pos rfl]
        repeat' (first | ((with_reducible refine brC (fun _ => ?_) fun _ => ?_) <;> try (exfalso; omega)) | (with_reducible apply pcallE.of; · exact cL) | (with_reducible refine And.intro ?_ ?_; · omega) | simp -dsimp -implicitDefEqProofs (disch := omega) only [VCA, pg_gl, ↓upd_none, Nat.reduceEqDiff, Nat.reduceBEq, Nat.reduceAdd, Nat.reduceSub, Nat.reduceMul, Nat.reduceLT, Nat.reduceLeDiff, ↓reduceIte, reduceCtorEq, rsOf, rootsOf, SOp.rd, SI.rd, SX.rd, rdL, rdO, rdP, okParts, eqCells, okEqCells, fillA, okFill, setAt, implies_true, forall_const, forall_eq, ne_eq, exists_eq_right_right, exists_eq_right, exists_eq_left, exists_eq_left', rootL, eAttr, lit_eq, deVp_tup, m1, m2, hr', upd_same, hcc, h62, t2])
        rw [rdO_is (v := (a : Int) + 2) (b := a + 2) (by omega), hhA]
        refine DCalls.of (tokTag_ok (G := G) hG 2 gA (by omega) hs) ?_
        rintro _ hB ⟨b, SB, hb, hT⟩
        have zB : hB r4 = some ⟨Tt, 7, [[aInt 0, .str [], .emp, .str [], .bool false, aInt 0, aInt 0]]⟩ := SB _ _ (by rw [upd_ne _ _ m2]; exact zA)
        cases hq : tagM s (a + 2) with
        | some q =>
          rw [hq] at hT
          obtain ⟨rfl, rfl, _⟩ := hT
          unfold eTok
          repeat' (first | ((with_reducible refine brC (fun _ => ?_) fun _ => ?_) <;> try (exfalso; omega)) | (with_reducible refine And.intro ?_ ?_; · omega) | simp -dsimp -implicitDefEqProofs (disch := omega) only [VCA, pg_gl, ↓upd_none, Nat.reduceEqDiff, Nat.reduceBEq, Nat.reduceAdd, Nat.reduceSub, Nat.reduceMul, Nat.reduceLT, Nat.reduceLeDiff, ↓reduceIte, reduceCtorEq, rsOf, rootsOf, SOp.rd, SI.rd, SX.rd, rdL, rdO, rdP, okParts, eqCells, okEqCells, fillA, okFill, setAt, implies_true, forall_const, forall_eq, ne_eq, exists_eq_right_right, exists_eq_right, exists_eq_left, exists_eq_left', rootL, eAttr, lit_eq, deVp_tup, zB, upd_same])
          exact ⟨_, Sub.refl _, _, tokR_wk2 (t := ⟨2, q.1, [], [], false, 0, 0⟩) rfl, q.2.2.2, S_new (S_next SA SB) hr4 m2, hb, rfl, rfl⟩
        | none =>
          rw [hq] at hT
          obtain ⟨⟨t, ht, rfl⟩, rfl⟩ := hT
          unfold eTok
          repeat' (first | ((with_reducible refine brC (fun _ => ?_) fun _ => ?_) <;> try (exfalso; omega)) | (with_reducible refine And.intro ?_ ?_; · omega) | simp -dsimp -implicitDefEqProofs (disch := omega) only [VCA, pg_gl, ↓upd_none, Nat.reduceEqDiff, Nat.reduceBEq, Nat.reduceAdd, Nat.reduceSub, Nat.reduceMul, Nat.reduceLT, Nat.reduceLeDiff, ↓reduceIte, reduceCtorEq, rsOf, rootsOf, SOp.rd, SI.rd, SX.rd, rdL, rdO, rdP, okParts, eqCells, okEqCells, fillA, okFill, setAt, implies_true, forall_const, forall_eq, ne_eq, exists_eq_right_right, exists_eq_right, exists_eq_left, exists_eq_left', rootL, eAttr, lit_eq, deVp_tup, zB, upd_same])
          exact ⟨_, Sub.refl _, _, tokR_wk2 (t := ⟨t.kind, t.name, [], t.text, false, t.frm, t.til⟩) rfl, _, S_new (S_next SA SB) hr4 m2, hb, ⟨t.kind, t.name, [], t.text, false, t.frm, t.til⟩, .inr ht, rfl⟩
end Go.Proofs.K
end
section
set_option linter.unusedSimpArgs false
set_option linter.unusedVariables false
namespace Go.Proofs.K
open Go Go.Sim Go.Proofs
variable {G : Glob}
theorem tagF_gt {s : List UInt8} : ∀ (f c : Nat) (l : List HAttr) {q : List HAttr × Bool × Nat}, c ≤ s.length → tagF s f c l = some q → c < q.2.2
  | 0, c, l, q, _, h => by cases h
  | f + 1, c, l, q, hc, h => by
    rw [tagF] at h
    have hu := skip_le (q := gapStop) hc
    split at h
    · rename_i hl
      split at h
      · cases h; simp only; omega
      · have hn := attr_next hl
        have := tagF_gt f _ _ hn.2 h
        omega
    · cases h
theorem tagM_gt {s : List UInt8} {c : Nat} {q : List UInt8 × List HAttr × Bool × Nat} (hc : c ≤ s.length) (h : tagM s c = some q) : c < q.2.2.2 := by
  unfold tagM at h
  have hu := skip_le (q := tagStop) hc
  cases hh : tagF s (s.length + 1) (skipM tagStop s c) [] with
  | none => rw [hh] at h; cases h
  | some x =>
    rw [hh] at h; cases h
    have := tagF_gt _ _ _ hu.2 hh
    simp only; omega
theorem com_ge {s w : List UInt8} {a : Nat} (ha : a ≤ s.length) : a ≤ (comM s a w).2.2 := by
  have := up_le (w := w) ha
  unfold comM
  simp only
  split <;> omega
theorem decl_gt {s : List UInt8} {a : Nat} (ha : a + 1 < s.length) : a < (declM s a).2.2 := by
  unfold declM
  split
  · rename_i h
    have h4 : a + 4 ≤ s.length := by unfold standB at h; rw [Bool.and_eq_true, decide_eq_true_eq] at h; exact h.1
    split
    · simp only; omega
    · split
      · simp only; omega
      · have := com_ge (w := [45, 45, 62]) h4; omega
  · split
    · have := up_le (s := s) (w := [62]) (a := a) (by omega)
      simp only
      split <;> omega
    · have := com_ge (s := s) (w := [62]) (a := a + 2) (by omega); omega
theorem mark_is {s : List UInt8} {a : Nat} {q : HTok × Bool × Nat} (hk : kindM s a ≠ 0) (h : tkMark s a = some q) : a < q.2.2 ∧ (q.1.kind = 0 ∧ q.2.1 = true ∨ q.1.kind = 1 ∧ q.2.1 = true ∨ q.1.kind = 2 ∧ q.2.1 = true ∨ q.1.kind = 4 ∨ q.1.kind = 5) := by
  obtain ⟨_, h1, hc⟩ := kind_is hk
  unfold tkMark at h
  rcases hc with hc | hc | hc | ⟨hc, h2⟩
  · rw [hc, if_pos rfl] at h
    cases ht : tagM s (a + 1) with
    | none => rw [ht] at h; cases h
    | some x =>
      rw [ht] at h; cases h
      have := tagM_gt (by omega) ht
      exact ⟨by simp only; omega, .inr (.inl ⟨rfl, rfl⟩)⟩
  · rw [hc, if_neg (by decide), if_pos rfl] at h
    cases h
    refine ⟨decl_gt h1, ?_⟩
    unfold declM
    split
    · split
      · exact .inr (.inr (.inr (.inl rfl)))
      · split <;> exact .inr (.inr (.inr (.inl rfl)))
    · split
      · exact .inr (.inr (.inr (.inr rfl)))
      · exact .inr (.inr (.inr (.inl rfl)))
  · rw [hc, if_neg (by decide), if_neg (by decide), if_pos rfl] at h
    cases h
    have := com_ge (s := s) (w := [62]) (a := a + 1) (by omega)
    exact ⟨by omega, .inr (.inr (.inr (.inl rfl)))⟩
  · rw [hc, if_neg (by decide), if_neg (by decide), if_neg (by decide)] at h
    split at h
    · cases h; exact ⟨by simp only; omega, .inl ⟨rfl, rfl⟩⟩
    · split at h
      · cases ht : tagM s (a + 2) with
        | none => rw [ht] at h; cases h
        | some x =>
          rw [ht] at h; cases h
          have := tagM_gt (by omega) ht
          exact ⟨by simp only; omega, .inr (.inr (.inl ⟨rfl, rfl⟩))⟩
      · cases h
        have := com_ge (s := s) (w := [62]) (a := a + 2) (by omega)
        exact ⟨by omega, .inr (.inr (.inr (.inl rfl)))⟩
theorem closeM_kind {s nm : List UInt8} {a : Nat} (hn : nm ≠ []) (h : closeM s a nm = true) : kindM s a ≠ 0 := by
  unfold closeM at h
  rw [Bool.and_eq_true, Bool.and_eq_true, decide_eq_true_eq] at h
  obtain ⟨h1, h2, _⟩ := h
  have hl : 0 < nm.length := List.length_pos_iff.2 hn
  rw [stand_cons (by decide) (by rw [List.length_cons]; omega), stand_cons (by decide) (by omega), Bool.and_eq_true, Bool.and_eq_true, beq_iff_eq, beq_iff_eq] at h2
  have e1 : bt s a = 60 := h2.1
  have e2 : bt s (a + 1) = 47 := h2.2.1
  unfold kindM
  rw [e1, e2, if_neg (by omega), if_neg (by decide), if_neg (by decide), if_pos ⟨rfl, by omega⟩]
  decide
theorem textEnd_le {s nm : List UInt8} {a : Nat} (ha : a ≤ s.length) : a ≤ textEnd s a nm ∧ textEnd s a nm ≤ s.length := by
  unfold textEnd
  split
  · exact ⟨(fstI ha).ge, (fstI ha).le⟩
  · exact ⟨(fstI ha).ge, (fstI ha).le⟩
theorem textEnd_kind {s nm : List UInt8} {a : Nat} (ha : a ≤ s.length) (h : textEnd s a nm < s.length) : kindM s (textEnd s a nm) ≠ 0 := by
  by_cases hn : nm = []
  · have e : textEnd s a nm = firstM (fun i => kindM s i != 0) s.length a := by unfold textEnd; rw [if_pos hn]
    rw [e] at h ⊢
    have := (fstI ha).hit h
    simpa using this
  · have e : textEnd s a nm = firstM (fun i => closeM s i nm) s.length a := by unfold textEnd; rw [if_neg hn]
    rw [e] at h ⊢
    exact closeM_kind hn ((fstI ha).hit h)
theorem textEnd_again {s nm : List UInt8} {a : Nat} (ha : a ≤ s.length) : textEnd s (textEnd s a nm) [] = textEnd s a nm ∧ textTok s (textEnd s a nm) [] = [] := by
  have h := textEnd_le (nm := nm) ha
  have e : textEnd s (textEnd s a nm) [] = textEnd s a nm := by
    have hk := textEnd_kind (nm := nm) ha
    generalize textEnd s a nm = u at *
    unfold textEnd
    rw [if_pos rfl]
    by_cases hl : u < s.length
    · exact first_off (by simpa using hk hl) hl
    · exact first_end (by omega)
  exact ⟨e, by unfold textTok; rw [e, if_neg (Nat.lt_irrefl _)]⟩
theorem textTok_len (s nm : List UInt8) (a : Nat) : (textTok s a nm).length ≤ 1 := by unfold textTok; split <;> simp
theorem RS.add {h0 h : Heap} {rb r : Nat} {s : List UInt8} {a en : Nat} {T : List HTok} (R : RS h0 rb s a en T h) (hr : h r = none) (o : Option AObj) : RS (upd h0 r o) rb s a en T (upd h r o) := by
  obtain ⟨out, A, S⟩ := R
  obtain ⟨n1, n2⟩ := none_off S hr
  refine ⟨out, ?_, ?_⟩
  · refine A.re fun x ob q0 q1 => ?_
    have hx : x ≠ r := fun e => by rw [e, hr] at q1; cases q1
    rw [upd_ne _ _ hx]
    refine ⟨?_, q1⟩
    by_cases e : x = rb
    · subst e; rw [upd_same] at q0; cases q0
    · rw [upd_ne _ _ e] at q0 ⊢; rw [upd_ne _ _ hx]; exact q0
  · intro x ob hx
    by_cases e : x = rb
    · subst e
      rw [upd_same] at hx; cases hx
      rw [upd_ne _ _ n2.symm]; exact has_at S
    · rw [upd_ne _ _ e] at hx
      by_cases e2 : x = r
      · subst e2; rw [upd_same] at hx ⊢; exact hx
      · rw [upd_ne _ _ e2] at hx ⊢
        exact S x ob (by rw [upd_ne _ _ e]; exact hx)
theorem RS.base {h0 h : Heap} {rb r : Nat} {s : List UInt8} {a en : Nat} {T : List HTok} {o : Option AObj} (R : RS (upd h0 r o) rb s a en T h) (n1 : h0 r = none) (n2 : r ≠ rb) : RS h0 rb s a en T h := by
  obtain ⟨out, A, S⟩ := R
  have Sb : ∀ x, Sub (upd h0 rb (some x)) (upd (upd h0 r o) rb (some x)) := fun x t ob ht => by
    by_cases e : t = rb
    · subst e; rw [upd_same] at ht ⊢; exact ht
    · rw [upd_ne _ _ e] at ht ⊢
      have : t ≠ r := fun q => by rw [q, n1] at ht; cases ht
      rw [upd_ne _ _ this]; exact ht
  refine ⟨out, A.re fun x ob q0 q1 => ⟨?_, q1⟩, fun t ob ht => S t ob (Sb _ t ob ht)⟩
  exact (Sb _).none q0
theorem RS.keep {h0 h : Heap} {rb r : Nat} {s : List UInt8} {a en : Nat} {T : List HTok} {o : AObj} (R : RS (upd h0 r (some o)) rb s a en T h) (n2 : r ≠ rb) : h r = some o := by
  obtain ⟨out, A, S⟩ := R
  exact S r o (by rw [upd_ne _ _ n2, upd_same])
theorem RS.setEn {h0 h : Heap} {rb : Nat} {s : List UInt8} {a en : Nat} {T : List HTok} {out : AVal} (R : RS h0 rb s a en T h) (hr : h rb = some (rdO s a en out)) (b : Nat) : RS h0 rb s a b T (upd h rb (some (rdO s a b out))) := by
  obtain ⟨o2, A, S⟩ := R
  have e := has_at S
  rw [hr] at e
  have : out = o2 := by unfold rdO at e; cases e; rfl
  subst this
  exact ⟨out, acc_next A (Sub.refl _), S_put S⟩
theorem RS.upd {h0 h : Heap} {rb r : Nat} {s : List UInt8} {a en : Nat} {T : List HTok} (R : RS h0 rb s a en T h) (hr : h r = none) (o : Option AObj) : RS h0 rb s a en T (upd h r o) := by
  obtain ⟨out, A, S⟩ := R
  obtain ⟨n1, n2⟩ := none_off S hr
  exact ⟨out, acc_new A hr o, S_new S n1 n2⟩
theorem RS.off {h0 h : Heap} {rb r : Nat} {s : List UInt8} {a en : Nat} {T : List HTok} (R : RS h0 rb s a en T h) (hr : h r = none) : h0 r = none ∧ r ≠ rb := by
  obtain ⟨out, A, S⟩ := R; exact none_off S hr
def RawC (G : Glob) (s : List UInt8) : Prop := ∀ (a : Nat) (q : HTok × Bool × Nat), a < s.length → kindM s a ≠ 0 → tkMark s a = some q → 0 < rawM q.1.name → EqF G
def c30 : SFun := ⟨.seq (.reg [⟨some 2, .mv (.c (.prim (Value.pointer none))), none⟩]) (.seq (.reg [⟨some 8, .mv (.t 0), none⟩, ⟨some 9, .bld [.str [], .int .i64 0, .int .i64 0, .emp] [(0, (1, (.t 8)))], none⟩, ⟨some 10, .box 64 4 (.t 9), none⟩, ⟨some 3, .mv (.t 10), none⟩]) (.seq (.seq (.reg [⟨some 11, .mv (.t 3), none⟩, ⟨some 12, .call (.c (.fn 52 [] [])) [.t 11], none⟩]) (.block 0 (.loop (.seq (.seq (.reg [⟨some 13, .mv (.t 3), none⟩, ⟨some 14, .fldA 0 (.t 13), none⟩, ⟨some 15, .fldA 1 (.t 14), none⟩, ⟨some 16, .ld 1 false (.t 15), none⟩, ⟨some 17, .mv (.t 0), none⟩, ⟨some 18, .lenS (.t 17), none⟩, ⟨some 19, .bin .lss (.t 16) (.t 18), none⟩]) (.cond (.t 19) .skip (.exit 0))) (.seq (.block 1 (.seq (.reg [⟨some 22, .mv (.t 3), none⟩, ⟨some 23, .fldA 0 (.t 22), none⟩, ⟨some 24, .fldA 1 (.t 23), none⟩, ⟨some 25, .ld 1 false (.t 24), none⟩, ⟨some 4, .mv (.t 25), none⟩]) (.seq (.reg [⟨some 26, .mv (.t 3), none⟩, ⟨some 27, .mv (.t 4), none⟩, ⟨some 28, .call (.c (.fn 53 [] [])) [.t 26, .t 27], none⟩, ⟨some 5, .mv (.t 28), none⟩]) (.seq (.reg [⟨some 30, .mv (.t 3), none⟩, ⟨some 31, .mv (.t 5), none⟩, ⟨some 32, .call (.c (.fn 54 [] [])) [.t 30, .t 31], none⟩, ⟨some 29, .mv (.t 32), none⟩, ⟨some 33, .ext (.t 29) 0, none⟩, ⟨some 34, .ext (.t 29) 1, none⟩, ⟨some 6, .new 41 7 [.int .i64 0, .str [], .emp, .str [], .bool false, .int .i64 0, .int .i64 0], none⟩, ⟨none, .st 7 (.t 6) (.t 33), none⟩, ⟨some 7, .mv (.t 34), none⟩]) (.seq (.seq (.reg [⟨some 35, .mv (.t 7), none⟩, ⟨some 36, .un .not (.t 35), none⟩, ⟨some 37, .mv (.t 36), none⟩, ⟨some 38, .fldA 0 (.t 6), some (37, true)⟩, ⟨some 39, .ld 1 false (.t 38), some (37, true)⟩, ⟨some 40, .bin .eql (.t 39) (.c (.int .i64 1)), some (37, true)⟩, ⟨some 41, .mv (.t 40), some (37, true)⟩, ⟨some 42, .fldA 0 (.t 6), some (41, false)⟩, ⟨some 43, .ld 1 false (.t 42), some (41, false)⟩, ⟨some 44, .bin .eql (.t 43) (.c (.int .i64 2)), some (41, false)⟩, ⟨some 45, .pick (.t 41) (.c (.bool true)) (.t 44), some (37, true)⟩, ⟨some 46, .pick (.t 37) (.t 45) (.c (.bool false)), none⟩]) (.cond (.t 46) (.exit 0) .skip)) (.seq (.seq (.reg [⟨some 47, .fldA 0 (.t 6), none⟩, ⟨some 48, .ld 1 false (.t 47), none⟩, ⟨some 49, .bin .neq (.t 48) (.c (.int .i64 0)), none⟩]) (.cond (.t 49) (.seq (.reg [⟨some 50, .mv (.t 3), none⟩, ⟨some 51, .ld 7 true (.t 6), none⟩, ⟨some 52, .mv (.t 4), none⟩, ⟨some 53, .call (.c (.fn 55 [] [])) [.t 50, .t 51, .t 52], none⟩]) (.seq (.reg [⟨some 54, .mv (.t 7), none⟩]) (.cond (.t 54) (.reg [⟨some 55, .mv (.t 3), none⟩, ⟨some 56, .mv (.t 3), none⟩, ⟨some 57, .fldA 0 (.t 56), none⟩, ⟨some 58, .fldA 1 (.t 57), none⟩, ⟨some 59, .ld 1 false (.t 58), none⟩, ⟨some 60, .fldA 0 (.t 55), none⟩, ⟨some 61, .fldA 2 (.t 60), none⟩, ⟨none, .st 1 (.t 61) (.t 59), none⟩]) .skip))) .skip)) (.seq (.reg [⟨some 62, .fldA 0 (.t 6), none⟩, ⟨some 63, .ld 1 false (.t 62), none⟩, ⟨some 64, .bin .eql (.t 63) (.c (.int .i64 1)), none⟩, ⟨some 65, .mv (.t 64), none⟩, ⟨some 66, .fldA 1 (.t 6), some (65, true)⟩, ⟨some 67, .ld 1 false (.t 66), some (65, true)⟩, ⟨some 68, .pcall 9 [.t 67], some (65, true)⟩, ⟨some 69, .bin .gtr (.t 68) (.c (.int .i64 0)), some (65, true)⟩, ⟨some 70, .pick (.t 65) (.t 69) (.c (.bool false)), none⟩]) (.cond (.t 70) (.reg [⟨some 71, .mv (.t 3), none⟩, ⟨some 72, .fldA 1 (.t 6), none⟩, ⟨some 73, .ld 1 false (.t 72), none⟩, ⟨some 74, .call (.c (.fn 56 [] [])) [.t 71, .t 73], none⟩]) .skip)))))))) (.reg [⟨some 20, .mv (.t 3), none⟩, ⟨some 21, .call (.c (.fn 52 [] [])) [.t 20], none⟩])))))) (.seq (.reg [⟨some 75, .mv (.t 3), none⟩, ⟨some 2, .mv (.t 75), none⟩]) .ret))), [.tmp 2]⟩
theorem hc30 : toSF Tryd.prog {pure := [9], how := [(10, 6)]} Tryd.f30 = some c30 := by kernel_rfl
theorem hn30 : (Tryd.f30.name == "runtime.NumGoroutine") = false := by kernel_rfl
set_option maxHeartbeats 2000000 in
theorem tokRead_ok (hG : MaxLenOK G) {s : List UInt8} (hs : s.length ≤ 4000) (hD : DeclC G s) (hE : RawC G s) (h : Heap) :
    DCalls (Pg G) 30 [.str s] h fun r h' => ∃ rb a, r = .vp rb 0 ∧ h rb = none ∧ RS h rb s a (readM s).2 (readM s).1 h' := by
  refine dcalls_of_vc Tryd.func30 hn30 hc30 (by rw [Tryd.ntmps30]; simp) (by rw [Tryd.ntmps30]; decide) ?_
  simp -dsimp -implicitDefEqProofs (disch := omega) only [↓vcOps_sp 37, ↓vcD_sp 37, ↓vcOps_sp 41, ↓vcD_sp 41, ↓vcOps_sp 65, ↓vcD_sp 65, VCA, pg_gl, ↓upd_none, Nat.reduceEqDiff, Nat.reduceBEq, Nat.reduceAdd, Nat.reduceSub, Nat.reduceMul, Nat.reduceLT, Nat.reduceLeDiff, ↓reduceIte, reduceCtorEq, rsOf, rootsOf, SOp.rd, SI.rd, SX.rd, rdL, rdO, rdP, okParts, eqCells, okEqCells, fillA, okFill, setAt, implies_true, forall_const, forall_eq, ne_eq, exists_eq_right_right, exists_eq_right, exists_eq_left, exists_eq_left', rootL, eAttr, lit_eq, deVp_tup, c30]
  intro rb hrb
  have R0 : RS h rb s 0 0 [] (upd h rb (some (rdO s 0 0 .emp))) := ⟨.emp, .nil, Sub.refl _⟩
  have CT := fun {h' : Heap} {a en : Nat} {T : List HTok} (R : RS h rb s a en T h') (ha : a ≤ s.length) (hT : T.length ≤ 1000000) => tokText_ok (G := G) R ha (by omega) hT
  refine DCalls.of (CT R0 (by omega) (by simp)) ?_
  rintro _ h1 R1
  repeat' (first | ((with_reducible refine brC (fun _ => ?_) fun _ => ?_) <;> try (exfalso; omega)) | (with_reducible refine And.intro ?_ ?_; · omega) | simp -dsimp -implicitDefEqProofs (disch := omega) only [↓vcOps_sp 37, ↓vcD_sp 37, ↓vcOps_sp 41, ↓vcD_sp 41, ↓vcOps_sp 65, ↓vcD_sp 65, VCA, pg_gl, ↓upd_none, Nat.reduceEqDiff, Nat.reduceBEq, Nat.reduceAdd, Nat.reduceSub, Nat.reduceMul, Nat.reduceLT, Nat.reduceLeDiff, ↓reduceIte, reduceCtorEq, rsOf, rootsOf, SOp.rd, SI.rd, SX.rd, rdL, rdO, rdP, okParts, eqCells, okEqCells, fillA, okFill, setAt, implies_true, forall_const, forall_eq, ne_eq, exists_eq_right_right, exists_eq_right, exists_eq_left, exists_eq_left', rootL, eAttr, lit_eq, deVp_tup])
  have l0 := textEnd_le (s := s) (nm := []) (a := 0) (by omega)
  refine LoopVC.intro (fun m e h' => ∃ (a en : Nat) (T : List HTok) (f : Nat), a ≤ s.length ∧ m = s.length - a ∧ e 0 = .str s ∧ e 3 = .vp rb 0 ∧ RS h rb s a en T h' ∧ T.length ≤ 2 * a + 1 ∧ (a < s.length → kindM s a ≠ 0) ∧ s.length < f + a ∧ readF s f a T en = readM s) (s.length - textEnd s 0 [])
    (by exact ⟨textEnd s 0 [], 0, textTok s 0 [], s.length + 1, l0.2, by omega, rfl, rfl, by simpa using R1, by have := textTok_len s [] 0; omega, textEnd_kind (by omega), by omega, rfl⟩) ?_
  rintro m e h' ⟨a, en, T, f, ha, rfl, e0, e3, R, hT, hk, hf, hrd⟩
  obtain ⟨f, rfl⟩ : ∃ g, f = g + 1 := ⟨f - 1, by omega⟩
  obtain ⟨out, hr⟩ := R.none_rb
  have hr' := hr
  unfold rdO at hr'
  rw [readF] at hrd
  by_cases hlt : a < s.length
  · rw [if_pos hlt] at hrd
    have cM := tokMark_ok (G := G) hr hlt (by omega)
    have cN := tokNext_ok (G := G) hG hr hD (hk hlt) hlt (by omega)
    obtain ⟨k, hkk⟩ : ∃ k, kindM s a = k := ⟨_, rfl⟩
    rw [hkk] at cM cN
    repeat' (first | ((with_reducible refine brC (fun _ => ?_) fun _ => ?_) <;> try (exfalso; omega)) | ((refine DCalls.of cM ?_; rintro _ _ ⟨rfl, rfl⟩)) | ((refine DCalls.of cN ?_; rintro _ h2 ⟨b, S2, hb, hN⟩)) | (with_reducible refine And.intro ?_ ?_; · omega) | simp -dsimp -implicitDefEqProofs (disch := omega) only [↓vcOps_sp 37, ↓vcD_sp 37, ↓vcOps_sp 41, ↓vcD_sp 41, ↓vcOps_sp 65, ↓vcD_sp 65, VCA, pg_gl, ↓upd_none, Nat.reduceEqDiff, Nat.reduceBEq, Nat.reduceAdd, Nat.reduceSub, Nat.reduceMul, Nat.reduceLT, Nat.reduceLeDiff, ↓reduceIte, reduceCtorEq, rsOf, rootsOf, SOp.rd, SI.rd, SX.rd, rdL, rdO, rdP, okParts, eqCells, okEqCells, fillA, okFill, setAt, implies_true, forall_const, forall_eq, ne_eq, exists_eq_right_right, exists_eq_right, exists_eq_left, exists_eq_left', rootL, eAttr, lit_eq, deVp_tup, e0, e3, hr'])
    cases hq : tkMark s a with
    | none =>
      rw [hq] at hN hrd
      obtain ⟨t, ht, rfl⟩ := hN
      obtain ⟨kd, nm, at', tx, sf, fr, ti⟩ := t
      have Rn : RS h rb s b en T h2 := R.next fun o ho => by rw [hr] at ho; cases ho; exact S2
      unfold eTok
      rcases ht with rfl | rfl
      · repeat' (first | ((with_reducible refine brC (fun _ => ?_) fun _ => ?_) <;> try (exfalso; omega)) | (with_reducible refine And.intro ?_ ?_; · omega) | simp -dsimp -implicitDefEqProofs (disch := omega) only [↓vcOps_sp 37, ↓vcD_sp 37, ↓vcOps_sp 41, ↓vcD_sp 41, ↓vcOps_sp 65, ↓vcD_sp 65, VCA, pg_gl, ↓upd_none, Nat.reduceEqDiff, Nat.reduceBEq, Nat.reduceAdd, Nat.reduceSub, Nat.reduceMul, Nat.reduceLT, Nat.reduceLeDiff, ↓reduceIte, reduceCtorEq, rsOf, rootsOf, SOp.rd, SI.rd, SX.rd, rdL, rdO, rdP, okParts, eqCells, okEqCells, fillA, okFill, setAt, implies_true, forall_const, forall_eq, ne_eq, exists_eq_right_right, exists_eq_right, exists_eq_left, exists_eq_left', rootL, eAttr, lit_eq, deVp_tup, e0, e3, upd_same])
        intro r6 hr6
        repeat' (first | ((with_reducible refine brC (fun _ => ?_) fun _ => ?_) <;> try (exfalso; omega)) | (with_reducible refine And.intro ?_ ?_; · omega) | simp -dsimp -implicitDefEqProofs (disch := omega) only [↓vcOps_sp 37, ↓vcD_sp 37, ↓vcOps_sp 41, ↓vcD_sp 41, ↓vcOps_sp 65, ↓vcD_sp 65, VCA, pg_gl, ↓upd_none, Nat.reduceEqDiff, Nat.reduceBEq, Nat.reduceAdd, Nat.reduceSub, Nat.reduceMul, Nat.reduceLT, Nat.reduceLeDiff, ↓reduceIte, reduceCtorEq, rsOf, rootsOf, SOp.rd, SI.rd, SX.rd, rdL, rdO, rdP, okParts, eqCells, okEqCells, fillA, okFill, setAt, implies_true, forall_const, forall_eq, ne_eq, exists_eq_right_right, exists_eq_right, exists_eq_left, exists_eq_left', rootL, eAttr, lit_eq, deVp_tup, e0, e3, upd_same])
        exact ⟨_, Sub.refl _, rb, b, rfl, hrb, by rw [← hrd]; exact Rn.upd hr6 _⟩
      · repeat' (first | ((with_reducible refine brC (fun _ => ?_) fun _ => ?_) <;> try (exfalso; omega)) | (with_reducible refine And.intro ?_ ?_; · omega) | simp -dsimp -implicitDefEqProofs (disch := omega) only [↓vcOps_sp 37, ↓vcD_sp 37, ↓vcOps_sp 41, ↓vcD_sp 41, ↓vcOps_sp 65, ↓vcD_sp 65, VCA, pg_gl, ↓upd_none, Nat.reduceEqDiff, Nat.reduceBEq, Nat.reduceAdd, Nat.reduceSub, Nat.reduceMul, Nat.reduceLT, Nat.reduceLeDiff, ↓reduceIte, reduceCtorEq, rsOf, rootsOf, SOp.rd, SI.rd, SX.rd, rdL, rdO, rdP, okParts, eqCells, okEqCells, fillA, okFill, setAt, implies_true, forall_const, forall_eq, ne_eq, exists_eq_right_right, exists_eq_right, exists_eq_left, exists_eq_left', rootL, eAttr, lit_eq, deVp_tup, e0, e3, upd_same])
        intro r6 hr6
        repeat' (first | ((with_reducible refine brC (fun _ => ?_) fun _ => ?_) <;> try (exfalso; omega)) | (with_reducible refine And.intro ?_ ?_; · omega) | simp -dsimp -implicitDefEqProofs (disch := omega) only [↓vcOps_sp 37, ↓vcD_sp 37, ↓vcOps_sp 41, ↓vcD_sp 41, ↓vcOps_sp 65, ↓vcD_sp 65, VCA, pg_gl, ↓upd_none, Nat.reduceEqDiff, Nat.reduceBEq, Nat.reduceAdd, Nat.reduceSub, Nat.reduceMul, Nat.reduceLT, Nat.reduceLeDiff, ↓reduceIte, reduceCtorEq, rsOf, rootsOf, SOp.rd, SI.rd, SX.rd, rdL, rdO, rdP, okParts, eqCells, okEqCells, fillA, okFill, setAt, implies_true, forall_const, forall_eq, ne_eq, exists_eq_right_right, exists_eq_right, exists_eq_left, exists_eq_left', rootL, eAttr, lit_eq, deVp_tup, e0, e3, upd_same])
        exact ⟨_, Sub.refl _, rb, b, rfl, hrb, by rw [← hrd]; exact Rn.upd hr6 _⟩
    | some q =>
      rw [hq] at hN hrd
      obtain ⟨⟨kd, nm, at', tx, sf, fr, ti⟩, e2, b2⟩ := q
      obtain ⟨hN1, hb2⟩ := hN
      have hN1 : _ = AVal.tup [.agg [aInt kd, .str nm, sl eAttr at', .str tx, .bool sf, aInt fr, aInt ti], .bool e2] := hN1
      have hb2 : b = b2 := hb2
      subst hN1 hb2
      have hmk := mark_is (hkk ▸ hk hlt) hq
      have hRw : 0 < rawM nm → EqF G := hE a _ hlt (hkk ▸ hk hlt) hq
      have hab : a < b := hmk.1
      have hmk2 : kd = 0 ∧ e2 = true ∨ kd = 1 ∧ e2 = true ∨ kd = 2 ∧ e2 = true ∨ kd = 4 ∨ kd = 5 := hmk.2
      clear hmk
      have Rn : RS h rb s b en T h2 := R.next fun o ho => by rw [hr] at ho; cases ho; exact S2
      have hrd : readF s f (textEnd s b (rawOf ⟨kd, nm, at', tx, sf, fr, ti⟩)) (T ++ (putT ⟨kd, nm, at', tx, sf, fr, ti⟩ a b ++ textTok s b (rawOf ⟨kd, nm, at', tx, sf, fr, ti⟩))) (if e2 = true ∧ kd ≠ 0 then b else en) = readM s := hrd
      obtain ⟨RW, hRW⟩ : ∃ w, rawOf ⟨kd, nm, at', tx, sf, fr, ti⟩ = w := ⟨_, rfl⟩
      obtain ⟨PT, hPT⟩ : ∃ w, putT ⟨kd, nm, at', tx, sf, fr, ti⟩ a b = w := ⟨_, rfl⟩
      rw [hRW, hPT] at hrd
      have hx := textEnd_le (nm := RW) hb
      have l1 := textTok_len s RW b
      have kx : textEnd s b RW < s.length → ¬ kindM s (textEnd s b RW) = 0 := textEnd_kind hb
      have CP := fun {h0 h' : Heap} (R : RS h0 rb s b en T h') => tokPut_ok (G := G) (t := ⟨kd, nm, at', tx, sf, fr, ti⟩) a R (by omega)
      have CP : ∀ {h0 h' : Heap}, RS h0 rb s b en T h' → DCalls (Pg G) 55 [.vp rb 0, .agg [aInt kd, .str nm, sl eAttr at', .str tx, .bool sf, aInt fr, aInt ti], .int .i64 a] h' fun _ h' => RS h0 rb s b en (T ++ [⟨kd, nm, at', tx, sf, a, b⟩]) h' := CP
      rcases hmk2 with ⟨rfl, rfl⟩ | ⟨rfl, rfl⟩ | ⟨rfl, rfl⟩ | rfl | rfl
      · subst hRW hPT
        repeat' (first | ((with_reducible refine brC (fun _ => ?_) fun _ => ?_) <;> try (exfalso; omega)) | (with_reducible refine And.intro ?_ ?_; · omega) | simp -dsimp -implicitDefEqProofs (disch := omega) only [↓vcOps_sp 37, ↓vcD_sp 37, ↓vcOps_sp 41, ↓vcD_sp 41, ↓vcOps_sp 65, ↓vcD_sp 65, VCA, pg_gl, ↓upd_none, Nat.reduceEqDiff, Nat.reduceBEq, Nat.reduceAdd, Nat.reduceSub, Nat.reduceMul, Nat.reduceLT, Nat.reduceLeDiff, ↓reduceIte, reduceCtorEq, rsOf, rootsOf, SOp.rd, SI.rd, SX.rd, rdL, rdO, rdP, okParts, eqCells, okEqCells, fillA, okFill, setAt, implies_true, forall_const, forall_eq, ne_eq, exists_eq_right_right, exists_eq_right, exists_eq_left, exists_eq_left', rootL, eAttr, lit_eq, deVp_tup, e0, e3, upd_same])
        intro r6 hr6
        have Rq := Rn.upd hr6
        repeat' (first | ((with_reducible refine brC (fun _ => ?_) fun _ => ?_) <;> try (exfalso; omega)) | ((refine DCalls.of (CT (Rq _) hb (by omega)) ?_; rintro _ h3 R3)) | (with_reducible refine And.intro ?_ ?_; · omega) | simp -dsimp -implicitDefEqProofs (disch := omega) only [↓vcOps_sp 37, ↓vcD_sp 37, ↓vcOps_sp 41, ↓vcD_sp 41, ↓vcOps_sp 65, ↓vcD_sp 65, VCA, pg_gl, ↓upd_none, Nat.reduceEqDiff, Nat.reduceBEq, Nat.reduceAdd, Nat.reduceSub, Nat.reduceMul, Nat.reduceLT, Nat.reduceLeDiff, ↓reduceIte, reduceCtorEq, rsOf, rootsOf, SOp.rd, SI.rd, SX.rd, rdL, rdO, rdP, okParts, eqCells, okEqCells, fillA, okFill, setAt, implies_true, forall_const, forall_eq, ne_eq, exists_eq_right_right, exists_eq_right, exists_eq_left, exists_eq_left', rootL, eAttr, lit_eq, deVp_tup, e0, e3, upd_same])
        refine ⟨_, ?_, _, en, _, f, hx.2, rfl, R3, ?_, kx, ?_, ?_⟩
        · have := hx.1; omega
        · rw [List.length_append]; have := hx.1; have := textTok_len s [] b; omega
        · have := hx.1; omega
        · rw [← hrd]; rfl
      · have hPT : [⟨1, nm, at', tx, sf, a, b⟩] = PT := by rw [← hPT]; rfl
        subst hPT
        have cR := tokRaw_ok (G := G) nm
        by_cases hw : 0 < rawM nm
        · have eR : rawOf ⟨1, nm, at', tx, sf, fr, ti⟩ = nm := if_pos ⟨rfl, hw⟩
          obtain rfl : nm = RW := by rw [← hRW, eR]
          have cRw := fun {h0 h' : Heap} {T : List HTok} (R : RS h0 rb s b b T h') (hT : T.length ≤ 1000000) => tokRawText_ok (G := G) (nm := nm) (hRw hw) R hb (by omega) hT hw
          have hag := textEnd_again (nm := nm) hb
          repeat' (first | ((with_reducible refine brC (fun _ => ?_) fun _ => ?_) <;> try (exfalso; omega)) | (with_reducible refine And.intro ?_ ?_; · omega) | simp -dsimp -implicitDefEqProofs (disch := omega) only [↓vcOps_sp 37, ↓vcD_sp 37, ↓vcOps_sp 41, ↓vcD_sp 41, ↓vcOps_sp 65, ↓vcD_sp 65, VCA, pg_gl, ↓upd_none, Nat.reduceEqDiff, Nat.reduceBEq, Nat.reduceAdd, Nat.reduceSub, Nat.reduceMul, Nat.reduceLT, Nat.reduceLeDiff, ↓reduceIte, reduceCtorEq, rsOf, rootsOf, SOp.rd, SI.rd, SX.rd, rdL, rdO, rdP, okParts, eqCells, okEqCells, fillA, okFill, setAt, implies_true, forall_const, forall_eq, ne_eq, exists_eq_right_right, exists_eq_right, exists_eq_left, exists_eq_left', rootL, eAttr, lit_eq, deVp_tup, e0, e3, upd_same])
          intro r6 hr6
          have Rq := Rn.add hr6
          obtain ⟨n61, n62⟩ := Rn.off hr6
          repeat' (first | ((with_reducible refine brC (fun _ => ?_) fun _ => ?_) <;> try (exfalso; omega)) | ((refine DCalls.of (CP (Rq _)) ?_; rintro _ h3 R3)) | (with_reducible refine And.intro ?_ ?_; · omega) | simp -dsimp -implicitDefEqProofs (disch := omega) only [↓vcOps_sp 37, ↓vcD_sp 37, ↓vcOps_sp 41, ↓vcD_sp 41, ↓vcOps_sp 65, ↓vcD_sp 65, VCA, pg_gl, ↓upd_none, Nat.reduceEqDiff, Nat.reduceBEq, Nat.reduceAdd, Nat.reduceSub, Nat.reduceMul, Nat.reduceLT, Nat.reduceLeDiff, ↓reduceIte, reduceCtorEq, rsOf, rootsOf, SOp.rd, SI.rd, SX.rd, rdL, rdO, rdP, okParts, eqCells, okEqCells, fillA, okFill, setAt, implies_true, forall_const, forall_eq, ne_eq, exists_eq_right_right, exists_eq_right, exists_eq_left, exists_eq_left', rootL, eAttr, lit_eq, deVp_tup, e0, e3, upd_same])
          obtain ⟨out3, g3⟩ := R3.none_rb
          have z6 := R3.keep n62
          have R4 := R3.setEn g3 b
          unfold rdO at g3
          have m1 : ¬ rb = r6 := fun q => n62 q.symm
          have z6' : upd h3 rb (some (rdO s b b out3)) r6 = _ := (upd_ne _ _ n62).trans z6
          repeat' (first | ((with_reducible refine brC (fun _ => ?_) fun _ => ?_) <;> try (exfalso; omega)) | (with_reducible apply pcallE.of; · exact cR) | ((refine DCalls.of (cRw R4 (by simp only [List.length_append, List.length_cons, List.length_nil]; omega)) ?_; rintro _ h5 R5)) | ((refine DCalls.of (CT (R5.base n61 n62) hx.2 (by simp only [List.length_append, List.length_cons, List.length_nil]; omega)) ?_; rintro _ h6 R6)) | (with_reducible refine And.intro ?_ ?_; · omega) | simp -dsimp -implicitDefEqProofs (disch := omega) only [↓vcOps_sp 37, ↓vcD_sp 37, ↓vcOps_sp 41, ↓vcD_sp 41, ↓vcOps_sp 65, ↓vcD_sp 65, VCA, pg_gl, ↓upd_none, Nat.reduceEqDiff, Nat.reduceBEq, Nat.reduceAdd, Nat.reduceSub, Nat.reduceMul, Nat.reduceLT, Nat.reduceLeDiff, ↓reduceIte, reduceCtorEq, rsOf, rootsOf, SOp.rd, SI.rd, SX.rd, rdL, rdO, rdP, okParts, eqCells, okEqCells, fillA, okFill, setAt, implies_true, forall_const, forall_eq, ne_eq, exists_eq_right_right, exists_eq_right, exists_eq_left, exists_eq_left', rootL, eAttr, lit_eq, deVp_tup, e0, e3, upd_same, g3, z6, m1, n62])
          rw [hag.1, hag.2, List.append_nil] at R6
          refine ⟨_, ?_, _, b, _, f, hx.2, rfl, R6, ?_, kx, ?_, ?_⟩
          · have := hx.1; omega
          · simp only [List.length_append, List.length_cons, List.length_nil]; have := hx.1; omega
          · have := hx.1; omega
          · rw [if_pos ⟨rfl, by decide⟩, ← List.append_assoc] at hrd; exact hrd
        · obtain rfl : [] = RW := by rw [← hRW]; exact (if_neg (by rintro ⟨q1, q2⟩; exact hw q2)).symm
          repeat' (first | ((with_reducible refine brC (fun _ => ?_) fun _ => ?_) <;> try (exfalso; omega)) | (with_reducible refine And.intro ?_ ?_; · omega) | simp -dsimp -implicitDefEqProofs (disch := omega) only [↓vcOps_sp 37, ↓vcD_sp 37, ↓vcOps_sp 41, ↓vcD_sp 41, ↓vcOps_sp 65, ↓vcD_sp 65, VCA, pg_gl, ↓upd_none, Nat.reduceEqDiff, Nat.reduceBEq, Nat.reduceAdd, Nat.reduceSub, Nat.reduceMul, Nat.reduceLT, Nat.reduceLeDiff, ↓reduceIte, reduceCtorEq, rsOf, rootsOf, SOp.rd, SI.rd, SX.rd, rdL, rdO, rdP, okParts, eqCells, okEqCells, fillA, okFill, setAt, implies_true, forall_const, forall_eq, ne_eq, exists_eq_right_right, exists_eq_right, exists_eq_left, exists_eq_left', rootL, eAttr, lit_eq, deVp_tup, e0, e3, upd_same])
          intro r6 hr6
          have Rq := Rn.add hr6
          obtain ⟨n61, n62⟩ := Rn.off hr6
          repeat' (first | ((with_reducible refine brC (fun _ => ?_) fun _ => ?_) <;> try (exfalso; omega)) | ((refine DCalls.of (CP (Rq _)) ?_; rintro _ h3 R3)) | (with_reducible refine And.intro ?_ ?_; · omega) | simp -dsimp -implicitDefEqProofs (disch := omega) only [↓vcOps_sp 37, ↓vcD_sp 37, ↓vcOps_sp 41, ↓vcD_sp 41, ↓vcOps_sp 65, ↓vcD_sp 65, VCA, pg_gl, ↓upd_none, Nat.reduceEqDiff, Nat.reduceBEq, Nat.reduceAdd, Nat.reduceSub, Nat.reduceMul, Nat.reduceLT, Nat.reduceLeDiff, ↓reduceIte, reduceCtorEq, rsOf, rootsOf, SOp.rd, SI.rd, SX.rd, rdL, rdO, rdP, okParts, eqCells, okEqCells, fillA, okFill, setAt, implies_true, forall_const, forall_eq, ne_eq, exists_eq_right_right, exists_eq_right, exists_eq_left, exists_eq_left', rootL, eAttr, lit_eq, deVp_tup, e0, e3, upd_same])
          obtain ⟨out3, g3⟩ := R3.none_rb
          have z6 := R3.keep n62
          have m1 : ¬ rb = r6 := fun q => n62 q.symm
          have R4 := R3.setEn g3 b
          unfold rdO at g3
          have z6' : upd h3 rb (some (rdO s b b out3)) r6 = _ := (upd_ne _ _ n62).trans z6
          repeat' (first | ((with_reducible refine brC (fun _ => ?_) fun _ => ?_) <;> try (exfalso; omega)) | (with_reducible apply pcallE.of; · exact cR) | ((refine DCalls.of (CT (R4.base n61 n62) hb (by simp only [List.length_append, List.length_cons, List.length_nil]; omega)) ?_; rintro _ h6 R6)) | (with_reducible refine And.intro ?_ ?_; · omega) | simp -dsimp -implicitDefEqProofs (disch := omega) only [↓vcOps_sp 37, ↓vcD_sp 37, ↓vcOps_sp 41, ↓vcD_sp 41, ↓vcOps_sp 65, ↓vcD_sp 65, VCA, pg_gl, ↓upd_none, Nat.reduceEqDiff, Nat.reduceBEq, Nat.reduceAdd, Nat.reduceSub, Nat.reduceMul, Nat.reduceLT, Nat.reduceLeDiff, ↓reduceIte, reduceCtorEq, rsOf, rootsOf, SOp.rd, SI.rd, SX.rd, rdL, rdO, rdP, okParts, eqCells, okEqCells, fillA, okFill, setAt, implies_true, forall_const, forall_eq, ne_eq, exists_eq_right_right, exists_eq_right, exists_eq_left, exists_eq_left', rootL, eAttr, lit_eq, deVp_tup, e0, e3, upd_same, g3, z6, m1, n62])
          refine ⟨_, ?_, _, b, _, f, hx.2, rfl, R6, ?_, kx, ?_, ?_⟩
          · have := hx.1; omega
          · simp only [List.length_append, List.length_cons, List.length_nil]; have := hx.1; omega
          · have := hx.1; omega
          · rw [if_pos ⟨rfl, by decide⟩, ← List.append_assoc] at hrd; exact hrd
      · obtain rfl : [] = RW := by rw [← hRW]; exact (if_neg (by rintro ⟨q1, q2⟩; have q1 : (2 : Int) = 1 := q1; omega)).symm
        have hPT : [⟨2, nm, at', tx, sf, a, b⟩] = PT := by rw [← hPT]; rfl
        subst hPT
        repeat' (first | ((with_reducible refine brC (fun _ => ?_) fun _ => ?_) <;> try (exfalso; omega)) | (with_reducible refine And.intro ?_ ?_; · omega) | simp -dsimp -implicitDefEqProofs (disch := omega) only [↓vcOps_sp 37, ↓vcD_sp 37, ↓vcOps_sp 41, ↓vcD_sp 41, ↓vcOps_sp 65, ↓vcD_sp 65, VCA, pg_gl, ↓upd_none, Nat.reduceEqDiff, Nat.reduceBEq, Nat.reduceAdd, Nat.reduceSub, Nat.reduceMul, Nat.reduceLT, Nat.reduceLeDiff, ↓reduceIte, reduceCtorEq, rsOf, rootsOf, SOp.rd, SI.rd, SX.rd, rdL, rdO, rdP, okParts, eqCells, okEqCells, fillA, okFill, setAt, implies_true, forall_const, forall_eq, ne_eq, exists_eq_right_right, exists_eq_right, exists_eq_left, exists_eq_left', rootL, eAttr, lit_eq, deVp_tup, e0, e3, upd_same])
        intro r6 hr6
        have Rq := Rn.add hr6
        obtain ⟨n61, n62⟩ := Rn.off hr6
        repeat' (first | ((with_reducible refine brC (fun _ => ?_) fun _ => ?_) <;> try (exfalso; omega)) | ((refine DCalls.of (CP (Rq _)) ?_; rintro _ h3 R3)) | (with_reducible refine And.intro ?_ ?_; · omega) | simp -dsimp -implicitDefEqProofs (disch := omega) only [↓vcOps_sp 37, ↓vcD_sp 37, ↓vcOps_sp 41, ↓vcD_sp 41, ↓vcOps_sp 65, ↓vcD_sp 65, VCA, pg_gl, ↓upd_none, Nat.reduceEqDiff, Nat.reduceBEq, Nat.reduceAdd, Nat.reduceSub, Nat.reduceMul, Nat.reduceLT, Nat.reduceLeDiff, ↓reduceIte, reduceCtorEq, rsOf, rootsOf, SOp.rd, SI.rd, SX.rd, rdL, rdO, rdP, okParts, eqCells, okEqCells, fillA, okFill, setAt, implies_true, forall_const, forall_eq, ne_eq, exists_eq_right_right, exists_eq_right, exists_eq_left, exists_eq_left', rootL, eAttr, lit_eq, deVp_tup, e0, e3, upd_same])
        obtain ⟨out3, g3⟩ := R3.none_rb
        have z6 := R3.keep n62
        have m1 : ¬ rb = r6 := fun q => n62 q.symm
        have R4 := R3.setEn g3 b
        unfold rdO at g3
        have z6' : upd h3 rb (some (rdO s b b out3)) r6 = _ := (upd_ne _ _ n62).trans z6
        repeat' (first | ((with_reducible refine brC (fun _ => ?_) fun _ => ?_) <;> try (exfalso; omega)) | ((refine DCalls.of (CT (R4.base n61 n62) hb (by simp only [List.length_append, List.length_cons, List.length_nil]; omega)) ?_; rintro _ h6 R6)) | (with_reducible refine And.intro ?_ ?_; · omega) | simp -dsimp -implicitDefEqProofs (disch := omega) only [↓vcOps_sp 37, ↓vcD_sp 37, ↓vcOps_sp 41, ↓vcD_sp 41, ↓vcOps_sp 65, ↓vcD_sp 65, VCA, pg_gl, ↓upd_none, Nat.reduceEqDiff, Nat.reduceBEq, Nat.reduceAdd, Nat.reduceSub, Nat.reduceMul, Nat.reduceLT, Nat.reduceLeDiff, ↓reduceIte, reduceCtorEq, rsOf, rootsOf, SOp.rd, SI.rd, SX.rd, rdL, rdO, rdP, okParts, eqCells, okEqCells, fillA, okFill, setAt, implies_true, forall_const, forall_eq, ne_eq, exists_eq_right_right, exists_eq_right, exists_eq_left, exists_eq_left', rootL, eAttr, lit_eq, deVp_tup, e0, e3, upd_same, g3, z6, m1, n62])
        refine ⟨_, ?_, _, b, _, f, hx.2, rfl, R6, ?_, kx, ?_, ?_⟩
        · have := hx.1; omega
        · simp only [List.length_append, List.length_cons, List.length_nil]; have := hx.1; omega
        · have := hx.1; omega
        · rw [if_pos ⟨rfl, by decide⟩, ← List.append_assoc] at hrd; exact hrd
      · cases e2 with
        | true =>
          obtain rfl : [] = RW := by rw [← hRW]; exact (if_neg (by rintro ⟨q1, q2⟩; have q1 : (4 : Int) = 1 := q1; omega)).symm
          have hPT : [⟨4, nm, at', tx, sf, a, b⟩] = PT := by rw [← hPT]; rfl
          subst hPT
          repeat' (first | ((with_reducible refine brC (fun _ => ?_) fun _ => ?_) <;> try (exfalso; omega)) | (with_reducible refine And.intro ?_ ?_; · omega) | simp -dsimp -implicitDefEqProofs (disch := omega) only [↓vcOps_sp 37, ↓vcD_sp 37, ↓vcOps_sp 41, ↓vcD_sp 41, ↓vcOps_sp 65, ↓vcD_sp 65, VCA, pg_gl, ↓upd_none, Nat.reduceEqDiff, Nat.reduceBEq, Nat.reduceAdd, Nat.reduceSub, Nat.reduceMul, Nat.reduceLT, Nat.reduceLeDiff, ↓reduceIte, reduceCtorEq, rsOf, rootsOf, SOp.rd, SI.rd, SX.rd, rdL, rdO, rdP, okParts, eqCells, okEqCells, fillA, okFill, setAt, implies_true, forall_const, forall_eq, ne_eq, exists_eq_right_right, exists_eq_right, exists_eq_left, exists_eq_left', rootL, eAttr, lit_eq, deVp_tup, e0, e3, upd_same])
          intro r6 hr6
          have Rq := Rn.add hr6
          obtain ⟨n61, n62⟩ := Rn.off hr6
          repeat' (first | ((with_reducible refine brC (fun _ => ?_) fun _ => ?_) <;> try (exfalso; omega)) | ((refine DCalls.of (CP (Rq _)) ?_; rintro _ h3 R3)) | (with_reducible refine And.intro ?_ ?_; · omega) | simp -dsimp -implicitDefEqProofs (disch := omega) only [↓vcOps_sp 37, ↓vcD_sp 37, ↓vcOps_sp 41, ↓vcD_sp 41, ↓vcOps_sp 65, ↓vcD_sp 65, VCA, pg_gl, ↓upd_none, Nat.reduceEqDiff, Nat.reduceBEq, Nat.reduceAdd, Nat.reduceSub, Nat.reduceMul, Nat.reduceLT, Nat.reduceLeDiff, ↓reduceIte, reduceCtorEq, rsOf, rootsOf, SOp.rd, SI.rd, SX.rd, rdL, rdO, rdP, okParts, eqCells, okEqCells, fillA, okFill, setAt, implies_true, forall_const, forall_eq, ne_eq, exists_eq_right_right, exists_eq_right, exists_eq_left, exists_eq_left', rootL, eAttr, lit_eq, deVp_tup, e0, e3, upd_same])
          obtain ⟨out3, g3⟩ := R3.none_rb
          have z6 := R3.keep n62
          have m1 : ¬ rb = r6 := fun q => n62 q.symm
          have R4 := R3.setEn g3 b
          unfold rdO at g3
          have z6' : upd h3 rb (some (rdO s b b out3)) r6 = _ := (upd_ne _ _ n62).trans z6
          repeat' (first | ((with_reducible refine brC (fun _ => ?_) fun _ => ?_) <;> try (exfalso; omega)) | ((refine DCalls.of (CT (R4.base n61 n62) hb (by simp only [List.length_append, List.length_cons, List.length_nil]; omega)) ?_; rintro _ h6 R6)) | (with_reducible refine And.intro ?_ ?_; · omega) | simp -dsimp -implicitDefEqProofs (disch := omega) only [↓vcOps_sp 37, ↓vcD_sp 37, ↓vcOps_sp 41, ↓vcD_sp 41, ↓vcOps_sp 65, ↓vcD_sp 65, VCA, pg_gl, ↓upd_none, Nat.reduceEqDiff, Nat.reduceBEq, Nat.reduceAdd, Nat.reduceSub, Nat.reduceMul, Nat.reduceLT, Nat.reduceLeDiff, ↓reduceIte, reduceCtorEq, rsOf, rootsOf, SOp.rd, SI.rd, SX.rd, rdL, rdO, rdP, okParts, eqCells, okEqCells, fillA, okFill, setAt, implies_true, forall_const, forall_eq, ne_eq, exists_eq_right_right, exists_eq_right, exists_eq_left, exists_eq_left', rootL, eAttr, lit_eq, deVp_tup, e0, e3, upd_same, g3, z6, m1, n62])
          refine ⟨_, ?_, _, b, _, f, hx.2, rfl, R6, ?_, kx, ?_, ?_⟩
          · have := hx.1; omega
          · simp only [List.length_append, List.length_cons, List.length_nil]; have := hx.1; omega
          · have := hx.1; omega
          · rw [if_pos ⟨rfl, by decide⟩, ← List.append_assoc] at hrd; exact hrd
        | false =>
          obtain rfl : [] = RW := by rw [← hRW]; exact (if_neg (by rintro ⟨q1, q2⟩; have q1 : (4 : Int) = 1 := q1; omega)).symm
          have hPT : [⟨4, nm, at', tx, sf, a, b⟩] = PT := by rw [← hPT]; rfl
          subst hPT
          repeat' (first | ((with_reducible refine brC (fun _ => ?_) fun _ => ?_) <;> try (exfalso; omega)) | (with_reducible refine And.intro ?_ ?_; · omega) | simp -dsimp -implicitDefEqProofs (disch := omega) only [↓vcOps_sp 37, ↓vcD_sp 37, ↓vcOps_sp 41, ↓vcD_sp 41, ↓vcOps_sp 65, ↓vcD_sp 65, VCA, pg_gl, ↓upd_none, Nat.reduceEqDiff, Nat.reduceBEq, Nat.reduceAdd, Nat.reduceSub, Nat.reduceMul, Nat.reduceLT, Nat.reduceLeDiff, ↓reduceIte, reduceCtorEq, rsOf, rootsOf, SOp.rd, SI.rd, SX.rd, rdL, rdO, rdP, okParts, eqCells, okEqCells, fillA, okFill, setAt, implies_true, forall_const, forall_eq, ne_eq, exists_eq_right_right, exists_eq_right, exists_eq_left, exists_eq_left', rootL, eAttr, lit_eq, deVp_tup, e0, e3, upd_same])
          intro r6 hr6
          have Rq := Rn.add hr6
          obtain ⟨n61, n62⟩ := Rn.off hr6
          repeat' (first | ((with_reducible refine brC (fun _ => ?_) fun _ => ?_) <;> try (exfalso; omega)) | ((refine DCalls.of (CP (Rq _)) ?_; rintro _ h3 R3)) | (with_reducible refine And.intro ?_ ?_; · omega) | simp -dsimp -implicitDefEqProofs (disch := omega) only [↓vcOps_sp 37, ↓vcD_sp 37, ↓vcOps_sp 41, ↓vcD_sp 41, ↓vcOps_sp 65, ↓vcD_sp 65, VCA, pg_gl, ↓upd_none, Nat.reduceEqDiff, Nat.reduceBEq, Nat.reduceAdd, Nat.reduceSub, Nat.reduceMul, Nat.reduceLT, Nat.reduceLeDiff, ↓reduceIte, reduceCtorEq, rsOf, rootsOf, SOp.rd, SI.rd, SX.rd, rdL, rdO, rdP, okParts, eqCells, okEqCells, fillA, okFill, setAt, implies_true, forall_const, forall_eq, ne_eq, exists_eq_right_right, exists_eq_right, exists_eq_left, exists_eq_left', rootL, eAttr, lit_eq, deVp_tup, e0, e3, upd_same])
          obtain ⟨out3, g3⟩ := R3.none_rb
          have z6 := R3.keep n62
          have m1 : ¬ rb = r6 := fun q => n62 q.symm
          have R4 := R3
          unfold rdO at g3
          repeat' (first | ((with_reducible refine brC (fun _ => ?_) fun _ => ?_) <;> try (exfalso; omega)) | ((refine DCalls.of (CT (R4.base n61 n62) hb (by simp only [List.length_append, List.length_cons, List.length_nil]; omega)) ?_; rintro _ h6 R6)) | (with_reducible refine And.intro ?_ ?_; · omega) | simp -dsimp -implicitDefEqProofs (disch := omega) only [↓vcOps_sp 37, ↓vcD_sp 37, ↓vcOps_sp 41, ↓vcD_sp 41, ↓vcOps_sp 65, ↓vcD_sp 65, VCA, pg_gl, ↓upd_none, Nat.reduceEqDiff, Nat.reduceBEq, Nat.reduceAdd, Nat.reduceSub, Nat.reduceMul, Nat.reduceLT, Nat.reduceLeDiff, ↓reduceIte, reduceCtorEq, rsOf, rootsOf, SOp.rd, SI.rd, SX.rd, rdL, rdO, rdP, okParts, eqCells, okEqCells, fillA, okFill, setAt, implies_true, forall_const, forall_eq, ne_eq, exists_eq_right_right, exists_eq_right, exists_eq_left, exists_eq_left', rootL, eAttr, lit_eq, deVp_tup, e0, e3, upd_same, g3, z6, m1, n62])
          refine ⟨_, ?_, _, en, _, f, hx.2, rfl, R6, ?_, kx, ?_, ?_⟩
          · have := hx.1; omega
          · simp only [List.length_append, List.length_cons, List.length_nil]; have := hx.1; omega
          · have := hx.1; omega
          · rw [if_neg (by simp), ← List.append_assoc] at hrd; exact hrd
      · cases e2 with
        | true =>
          obtain rfl : [] = RW := by rw [← hRW]; exact (if_neg (by rintro ⟨q1, q2⟩; have q1 : (5 : Int) = 1 := q1; omega)).symm
          have hPT : [⟨5, nm, at', tx, sf, a, b⟩] = PT := by rw [← hPT]; rfl
          subst hPT
          repeat' (first | ((with_reducible refine brC (fun _ => ?_) fun _ => ?_) <;> try (exfalso; omega)) | (with_reducible refine And.intro ?_ ?_; · omega) | simp -dsimp -implicitDefEqProofs (disch := omega) only [↓vcOps_sp 37, ↓vcD_sp 37, ↓vcOps_sp 41, ↓vcD_sp 41, ↓vcOps_sp 65, ↓vcD_sp 65, VCA, pg_gl, ↓upd_none, Nat.reduceEqDiff, Nat.reduceBEq, Nat.reduceAdd, Nat.reduceSub, Nat.reduceMul, Nat.reduceLT, Nat.reduceLeDiff, ↓reduceIte, reduceCtorEq, rsOf, rootsOf, SOp.rd, SI.rd, SX.rd, rdL, rdO, rdP, okParts, eqCells, okEqCells, fillA, okFill, setAt, implies_true, forall_const, forall_eq, ne_eq, exists_eq_right_right, exists_eq_right, exists_eq_left, exists_eq_left', rootL, eAttr, lit_eq, deVp_tup, e0, e3, upd_same])
          intro r6 hr6
          have Rq := Rn.add hr6
          obtain ⟨n61, n62⟩ := Rn.off hr6
          repeat' (first | ((with_reducible refine brC (fun _ => ?_) fun _ => ?_) <;> try (exfalso; omega)) | ((refine DCalls.of (CP (Rq _)) ?_; rintro _ h3 R3)) | (with_reducible refine And.intro ?_ ?_; · omega) | simp -dsimp -implicitDefEqProofs (disch := omega) only [↓vcOps_sp 37, ↓vcD_sp 37, ↓vcOps_sp 41, ↓vcD_sp 41, ↓vcOps_sp 65, ↓vcD_sp 65, VCA, pg_gl, ↓upd_none, Nat.reduceEqDiff, Nat.reduceBEq, Nat.reduceAdd, Nat.reduceSub, Nat.reduceMul, Nat.reduceLT, Nat.reduceLeDiff, ↓reduceIte, reduceCtorEq, rsOf, rootsOf, SOp.rd, SI.rd, SX.rd, rdL, rdO, rdP, okParts, eqCells, okEqCells, fillA, okFill, setAt, implies_true, forall_const, forall_eq, ne_eq, exists_eq_right_right, exists_eq_right, exists_eq_left, exists_eq_left', rootL, eAttr, lit_eq, deVp_tup, e0, e3, upd_same])
          obtain ⟨out3, g3⟩ := R3.none_rb
          have z6 := R3.keep n62
          have m1 : ¬ rb = r6 := fun q => n62 q.symm
          have R4 := R3.setEn g3 b
          unfold rdO at g3
          have z6' : upd h3 rb (some (rdO s b b out3)) r6 = _ := (upd_ne _ _ n62).trans z6
          repeat' (first | ((with_reducible refine brC (fun _ => ?_) fun _ => ?_) <;> try (exfalso; omega)) | ((refine DCalls.of (CT (R4.base n61 n62) hb (by simp only [List.length_append, List.length_cons, List.length_nil]; omega)) ?_; rintro _ h6 R6)) | (with_reducible refine And.intro ?_ ?_; · omega) | simp -dsimp -implicitDefEqProofs (disch := omega) only [↓vcOps_sp 37, ↓vcD_sp 37, ↓vcOps_sp 41, ↓vcD_sp 41, ↓vcOps_sp 65, ↓vcD_sp 65, VCA, pg_gl, ↓upd_none, Nat.reduceEqDiff, Nat.reduceBEq, Nat.reduceAdd, Nat.reduceSub, Nat.reduceMul, Nat.reduceLT, Nat.reduceLeDiff, ↓reduceIte, reduceCtorEq, rsOf, rootsOf, SOp.rd, SI.rd, SX.rd, rdL, rdO, rdP, okParts, eqCells, okEqCells, fillA, okFill, setAt, implies_true, forall_const, forall_eq, ne_eq, exists_eq_right_right, exists_eq_right, exists_eq_left, exists_eq_left', rootL, eAttr, lit_eq, deVp_tup, e0, e3, upd_same, g3, z6, m1, n62])
          refine ⟨_, ?_, _, b, _, f, hx.2, rfl, R6, ?_, kx, ?_, ?_⟩
          · have := hx.1; omega
          · simp only [List.length_append, List.length_cons, List.length_nil]; have := hx.1; omega
          · have := hx.1; omega
          · rw [if_pos ⟨rfl, by decide⟩, ← List.append_assoc] at hrd; exact hrd
        | false =>
          obtain rfl : [] = RW := by rw [← hRW]; exact (if_neg (by rintro ⟨q1, q2⟩; have q1 : (5 : Int) = 1 := q1; omega)).symm
          have hPT : [⟨5, nm, at', tx, sf, a, b⟩] = PT := by rw [← hPT]; rfl
          subst hPT
          repeat' (first | ((with_reducible refine brC (fun _ => ?_) fun _ => ?_) <;> try (exfalso; omega)) | (with_reducible refine And.intro ?_ ?_; · omega) | simp -dsimp -implicitDefEqProofs (disch := omega) only [↓vcOps_sp 37, ↓vcD_sp 37, ↓vcOps_sp 41, ↓vcD_sp 41, ↓vcOps_sp 65, ↓vcD_sp 65, VCA, pg_gl, ↓upd_none, Nat.reduceEqDiff, Nat.reduceBEq, Nat.reduceAdd, Nat.reduceSub, Nat.reduceMul, Nat.reduceLT, Nat.reduceLeDiff, ↓reduceIte, reduceCtorEq, rsOf, rootsOf, SOp.rd, SI.rd, SX.rd, rdL, rdO, rdP, okParts, eqCells, okEqCells, fillA, okFill, setAt, implies_true, forall_const, forall_eq, ne_eq, exists_eq_right_right, exists_eq_right, exists_eq_left, exists_eq_left', rootL, eAttr, lit_eq, deVp_tup, e0, e3, upd_same])
          intro r6 hr6
          have Rq := Rn.add hr6
          obtain ⟨n61, n62⟩ := Rn.off hr6
          repeat' (first | ((with_reducible refine brC (fun _ => ?_) fun _ => ?_) <;> try (exfalso; omega)) | ((refine DCalls.of (CP (Rq _)) ?_; rintro _ h3 R3)) | (with_reducible refine And.intro ?_ ?_; · omega) | simp -dsimp -implicitDefEqProofs (disch := omega) only [↓vcOps_sp 37, ↓vcD_sp 37, ↓vcOps_sp 41, ↓vcD_sp 41, ↓vcOps_sp 65, ↓vcD_sp 65, VCA, pg_gl, ↓upd_none, Nat.reduceEqDiff, Nat.reduceBEq, Nat.reduceAdd, Nat.reduceSub, Nat.reduceMul, Nat.reduceLT, Nat.reduceLeDiff, ↓reduceIte, reduceCtorEq, rsOf, rootsOf, SOp.rd, SI.rd, SX.rd, rdL, rdO, rdP, okParts, eqCells, okEqCells, fillA, okFill, setAt, implies_true, forall_const, forall_eq, ne_eq, exists_eq_right_right, exists_eq_right, exists_eq_left, exists_eq_left', rootL, eAttr, lit_eq, deVp_tup, e0, e3, upd_same])
          obtain ⟨out3, g3⟩ := R3.none_rb
          have z6 := R3.keep n62
          have m1 : ¬ rb = r6 := fun q => n62 q.symm
          have R4 := R3
          unfold rdO at g3
          repeat' (first | ((with_reducible refine brC (fun _ => ?_) fun _ => ?_) <;> try (exfalso; omega)) | ((refine DCalls.of (CT (R4.base n61 n62) hb (by simp only [List.length_append, List.length_cons, List.length_nil]; omega)) ?_; rintro _ h6 R6)) | (with_reducible refine And.intro ?_ ?_; · omega) | simp -dsimp -implicitDefEqProofs (disch := omega) only [↓vcOps_sp 37, ↓vcD_sp 37, ↓vcOps_sp 41, ↓vcD_sp 41, ↓vcOps_sp 65, ↓vcD_sp 65, VCA, pg_gl, ↓upd_none, Nat.reduceEqDiff, Nat.reduceBEq, Nat.reduceAdd, Nat.reduceSub, Nat.reduceMul, Nat.reduceLT, Nat.reduceLeDiff, ↓reduceIte, reduceCtorEq, rsOf, rootsOf, SOp.rd, SI.rd, SX.rd, rdL, rdO, rdP, okParts, eqCells, okEqCells, fillA, okFill, setAt, implies_true, forall_const, forall_eq, ne_eq, exists_eq_right_right, exists_eq_right, exists_eq_left, exists_eq_left', rootL, eAttr, lit_eq, deVp_tup, e0, e3, upd_same, g3, z6, m1, n62])
          refine ⟨_, ?_, _, en, _, f, hx.2, rfl, R6, ?_, kx, ?_, ?_⟩
          · have := hx.1; omega
          · simp only [List.length_append, List.length_cons, List.length_nil]; have := hx.1; omega
          · have := hx.1; omega
          · rw [if_neg (by simp), ← List.append_assoc] at hrd; exact hrd
  · rw [if_neg hlt] at hrd
    repeat' (first | ((with_reducible refine brC (fun _ => ?_) fun _ => ?_) <;> try (exfalso; omega)) | (with_reducible refine And.intro ?_ ?_; · omega) | simp -dsimp -implicitDefEqProofs (disch := omega) only [↓vcOps_sp 37, ↓vcD_sp 37, ↓vcOps_sp 41, ↓vcD_sp 41, ↓vcOps_sp 65, ↓vcD_sp 65, VCA, pg_gl, ↓upd_none, Nat.reduceEqDiff, Nat.reduceBEq, Nat.reduceAdd, Nat.reduceSub, Nat.reduceMul, Nat.reduceLT, Nat.reduceLeDiff, ↓reduceIte, reduceCtorEq, rsOf, rootsOf, SOp.rd, SI.rd, SX.rd, rdL, rdO, rdP, okParts, eqCells, okEqCells, fillA, okFill, setAt, implies_true, forall_const, forall_eq, ne_eq, exists_eq_right_right, exists_eq_right, exists_eq_left, exists_eq_left', rootL, eAttr, lit_eq, deVp_tup, e0, e3, hr'])
    exact ⟨_, Sub.refl _, rb, a, rfl, hrb, by rw [← hrd]; exact R⟩
def c15 : SFun := ⟨.seq (.reg [⟨some 2, .mv (.c .emp), none⟩, ⟨some 3, .mv (.c (.int .i64 0)), none⟩]) (.seq (.seq (.reg [⟨some 4, .mv (.t 0), none⟩, ⟨some 5, .lenS (.t 4), none⟩, ⟨some 6, .bin .gtr (.t 5) (.c (.int .i64 4000)), none⟩]) (.cond (.t 6) (.seq (.reg [⟨some 2, .mv (.c .emp), none⟩, ⟨some 3, .mv (.c (.int .i64 2)), none⟩]) .ret) .skip)) (.seq (.reg [⟨some 7, .mv (.t 0), none⟩, ⟨some 8, .call (.c (.fn 30 [] [])) [.t 7], none⟩, ⟨some 9, .fldA 0 (.t 8), none⟩, ⟨some 10, .fldA 3 (.t 9), none⟩, ⟨some 11, .ld 1 false (.t 10), none⟩, ⟨some 2, .mv (.t 11), none⟩, ⟨some 3, .mv (.c (.int .i64 0)), none⟩]) .ret)), [.tmp 2, .tmp 3]⟩
theorem hc15 : toSF Tryd.prog {} Tryd.f15 = some c15 := by kernel_rfl
theorem hn15 : (Tryd.f15.name == "runtime.NumGoroutine") = false := by kernel_rfl
theorem tokReadAll_ok (hG : MaxLenOK G) {s : List UInt8} (hs : s.length ≤ 4000) (hD : DeclC G s) (hE : RawC G s) : PCalls (Pg G) 15 [.str s] (.tup [sl eTok (readM s).1, aInt 0]) := by
  refine PCalls.outV fun h => ?_
  refine dcalls_of_vc Tryd.func15 hn15 hc15 (by rw [Tryd.ntmps15]; simp) (by rw [Tryd.ntmps15]; decide) ?_
  simp -dsimp -implicitDefEqProofs (disch := omega) only [VCA, pg_gl, ↓upd_none, Nat.reduceEqDiff, Nat.reduceBEq, Nat.reduceAdd, Nat.reduceSub, Nat.reduceMul, Nat.reduceLT, Nat.reduceLeDiff, ↓reduceIte, reduceCtorEq, rsOf, rootsOf, SOp.rd, SI.rd, SX.rd, rdL, rdO, rdP, okParts, eqCells, okEqCells, fillA, okFill, setAt, implies_true, forall_const, forall_eq, ne_eq, exists_eq_right_right, exists_eq_right, exists_eq_left, exists_eq_left', rootL, eAttr, lit_eq, deVp_tup, c15]
  repeat' (first | ((with_reducible refine brC (fun _ => ?_) fun _ => ?_) <;> try (exfalso; omega)) | ((refine DCalls.of (tokRead_ok (G := G) hG hs hD hE h) ?_; rintro _ h1 ⟨rb, a, rfl, hrb, R⟩)) | (with_reducible refine And.intro ?_ ?_; · omega) | simp -dsimp -implicitDefEqProofs (disch := omega) only [VCA, pg_gl, ↓upd_none, Nat.reduceEqDiff, Nat.reduceBEq, Nat.reduceAdd, Nat.reduceSub, Nat.reduceMul, Nat.reduceLT, Nat.reduceLeDiff, ↓reduceIte, reduceCtorEq, rsOf, rootsOf, SOp.rd, SI.rd, SX.rd, rdL, rdO, rdP, okParts, eqCells, okEqCells, fillA, okFill, setAt, implies_true, forall_const, forall_eq, ne_eq, exists_eq_right_right, exists_eq_right, exists_eq_left, exists_eq_left', rootL, eAttr, lit_eq, deVp_tup])
  obtain ⟨out, A, S⟩ := R
  have g := has_at S
  unfold rdO at g
  have iv := Acc.isv A
  have S0 : Sub h (upd h rb (some (rdO s a (readM s).2 out))) := (Sub.refl h).upd hrb
  have A0 : Acc h Tt 7 ((readM s).1.map eTok) out h1 := A.re fun r o q0 q1 => ⟨S0.none q0, q1⟩
  repeat' (first | ((with_reducible refine brC (fun _ => ?_) fun _ => ?_) <;> try (exfalso; omega)) | (with_reducible refine And.intro ?_ ?_; · omega) | simp -dsimp -implicitDefEqProofs (disch := omega) only [VCA, pg_gl, ↓upd_none, Nat.reduceEqDiff, Nat.reduceBEq, Nat.reduceAdd, Nat.reduceSub, Nat.reduceMul, Nat.reduceLT, Nat.reduceLeDiff, ↓reduceIte, reduceCtorEq, rsOf, rootsOf, SOp.rd, SI.rd, SX.rd, rdL, rdO, rdP, okParts, eqCells, okEqCells, fillA, okFill, setAt, implies_true, forall_const, forall_eq, ne_eq, exists_eq_right_right, exists_eq_right, exists_eq_left, exists_eq_left', rootL, eAttr, lit_eq, deVp_tup, g, iv.1, iv.2])
  exact ⟨h1, Sub.refl _, fun r o hr => S r o (S0 r o hr), .tup' (.cons (A0.vw fun f hf => by obtain ⟨x, _, rfl⟩ := List.mem_map.1 hf; rfl) (.cons (.refl _) .nil))⟩
end Go.Proofs.K
end
