/- chars.Clean and the document's. -/
import Derived.Test.YtlehoolkjkdncaaDoorSgn
set_option linter.unusedSimpArgs false
set_option linter.unusedVariables false
namespace Go.Proofs.K
open Go Go.Sim Go.Proofs
variable {G : Glob}

theorem upd_comm {α : Type} (f : Nat → α) {a b : Nat} (h : a ≠ b) (x y : α) : upd (upd f a x) b y = upd (upd f b y) a x := by
  funext t; unfold upd; by_cases h1 : t = a <;> by_cases h2 : t = b <;> simp_all
/-- beside a builder another variable turns -/
theorem Bl.beside {h0 h : Heap} {rb rl : Nat} {s : List UInt8} {x y : AObj} (hne : rl ≠ rb) (B : Bl (upd h0 rl (some x)) rb s h) : Bl (upd h0 rl (some y)) rb s (upd h rl (some y)) := by
  obtain ⟨h1, p, buf, hp, hb, A, S⟩ := B
  rw [upd_comm _ hne] at A S
  refine ⟨by simpa [Sim.upd, hne.symm] using h1, p, buf, hp, hb, ?_, ?_⟩
  · rw [upd_comm _ hne]; exact acc_at A
  · rw [upd_comm _ hne]; exact sub_at S
theorem bl_is {h0 h : Heap} {rb rl : Nat} {s : List UInt8} {x : AObj} (hne : rl ≠ rb) (B : Bl (upd h0 rl (some x)) rb s h) : h rl = some x := by
  obtain ⟨h1, p, buf, hp, hb, A, S⟩ := B
  exact S rl x (by simp [Sim.upd, hne])
theorem bl_not {h0 h : Heap} {rb : Nat} {s : List UInt8} (B : Bl h0 rb s h) : h0 rb = none := B.1

def cleanS (last r : Int) : List Int := if r = 0 then [65533] else if r = 13 ∨ (r = 10 ∧ last ≠ 13) then [10] else if r ≠ 10 then [r] else []
def cleanL : Int → List Int → List Int
  | _, [] => []
  | last, r :: l => cleanS last r ++ cleanL r l
def cleanR : List Int → List Int
  | [] => []
  | r :: l => (if r = 13 ∧ l.head? = some 10 then [] else if r = 13 then [10] else if r = 0 then [65533] else [r]) ++ cleanR l
theorem clean_eq (l : List Int) : (∀ last, last ≠ 13 → cleanL last l = cleanR l) ∧ 10 :: cleanL 13 l = (if l.head? = some 10 then cleanR l else 10 :: cleanR l) := by
  induction l with
  | nil => exact ⟨fun _ _ => rfl, by simp [cleanL, cleanR]⟩
  | cons r l ih =>
    obtain ⟨i1, i2⟩ := ih
    have h1 : ∀ last, last ≠ 13 ∨ r ≠ 10 → cleanL last (r :: l) = cleanR (r :: l) := by
      intro last hl
      simp only [cleanL, cleanR, cleanS]
      by_cases h13 : r = 13
      · subst h13
        simp only [true_or, if_true, true_and]
        rw [if_neg (by decide)]
        by_cases hh : l.head? = some 10
        · rw [if_pos hh] at i2 ⊢; simpa using i2
        · rw [if_neg hh] at i2 ⊢; simpa using i2
      · have : ¬ (r = 13 ∧ l.head? = some 10) := fun h => h13 h.1
        rw [if_neg this, if_neg h13, i1 r h13]
        by_cases h0 : r = 0
        · rw [if_pos h0, if_pos h0]
        · rw [if_neg h0, if_neg h0]
          by_cases h10 : r = 10
          · subst h10
            have hl' : last ≠ 13 := hl.resolve_right fun h => h rfl
            rw [if_pos (.inr ⟨rfl, hl'⟩)]
          · rw [if_neg (by rintro (h | h); exact h13 h; exact h10 h.1), if_pos h10]
    refine ⟨fun last hl => h1 last (.inl hl), ?_⟩
    by_cases h10 : r = 10
    · subst h10
      have := i1 10 (by decide)
      simp [cleanL, cleanR, cleanS, this]
    · rw [h1 13 (.inr h10), if_neg (by simpa using h10)]
theorem cleanL_0 (l : List Int) : cleanL 0 l = cleanR l := (clean_eq l).1 0 (by decide)
def lastD (l : List Int) : Int := l.getLastD 0
theorem cleanL_snoc (last : Int) (l : List Int) (r : Int) : cleanL last (l ++ [r]) = cleanL last l ++ cleanS (l.getLastD last) r := by
  induction l generalizing last with
  | nil => simp [cleanL]
  | cons x l ih =>
    simp only [List.cons_append, cleanL, ih, List.append_assoc]
    cases l <;> simp [List.getLastD]
set_option maxRecDepth 10000 in
theorem I32_dec (s : List UInt8) : ∀ n, s.length ≤ n → ∀ r ∈ decD s, 0 ≤ r ∧ r < 8388608 := by
  intro n
  induction n generalizing s with
  | zero => intro h; have : s = [] := List.length_eq_zero_iff.1 (by omega); subst this; rw [decD_nil]; simp
  | succ n ih =>
    intro h r hr
    by_cases hs : s = []
    · subst hs; rw [decD_nil] at hr; simp at hr
    · rw [decD_cons hs] at hr
      have := oneM_n hs
      rcases List.mem_cons.1 hr with rfl | hr
      · exact oneM_r s
      · exact ih (s.drop (oneM s).2) (by rw [List.length_drop]; omega) r hr
set_option maxRecDepth 10000 in
theorem decD_len (s : List UInt8) : ∀ n, s.length ≤ n → (decD s).length ≤ s.length := by
  intro n
  induction n generalizing s with
  | zero => intro h; have : s = [] := List.length_eq_zero_iff.1 (by omega); subst this; rw [decD_nil]; simp
  | succ n ih =>
    intro h
    by_cases hs : s = []
    · subst hs; rw [decD_nil]; simp
    · rw [decD_cons hs]
      have := oneM_n hs
      have := ih (s.drop (oneM s).2) (by rw [List.length_drop]; omega)
      rw [List.length_drop] at this
      simp only [List.length_cons]; omega
theorem cleanS_len (last r : Int) : (cleanS last r).length ≤ 1 := by unfold cleanS; repeat' split
                                                                     all_goals simp
theorem cleanL_len (l : List Int) : ∀ last, (cleanL last l).length ≤ l.length := by
  induction l with
  | nil => intro last; simp [cleanL]
  | cons r l ih => intro last; have := ih r; have := cleanS_len last r; simp [cleanL]; omega
theorem encM_append (a b : List Int) : encM (a ++ b) = encM a ++ encM b := by simp [encM]
theorem encM_one (r : Int) : encM [r] = Lib.encodeRune r := by simp [encM]
theorem enc10 : Lib.encodeRune 10 = [10] := by decide +kernel
def c22 : SFun := ⟨(.seq (.reg [⟨(some 2), (.mv (.c (.str []))), none⟩]) (.seq (.reg [⟨(some 3), (.new 38 2 [(.prim (Value.pointer none)), .emp]), none⟩]) (.seq (.reg [⟨(some 4), (.new 21 1 [(.int .i32 (0))]), none⟩, ⟨none, (.st 1 (.t 4) (.c (.int .i32 (0)))), none⟩]) (.seq (.seq (.reg [⟨(some 7), (.mv (.t 0)), none⟩, ⟨(some 8), (.pcall 19 [(.t 7)]), none⟩]) (.block 0 (.range (.t 8) [9, 10] [(6, 10)] (.block 1 (.seq (.block 2 (.seq (.reg [⟨(some 12), (.mv (.t 6)), none⟩, ⟨(some 13), (.bin .eql (.t 12) (.c (.int .i32 (0)))), none⟩, ⟨(some 11), (.mv (.t 13)), none⟩]) (.cond (.t 11) (.reg [⟨(some 14), (.call (.c (.fn 34 [] [])) [(.t 3), (.c (.int .i32 (65533)))]), none⟩]) (.seq (.seq (.reg [⟨(some 16), (.mv (.t 6)), none⟩, ⟨(some 17), (.bin .eql (.t 16) (.c (.int .i32 (13)))), none⟩, ⟨(some 15), (.mv (.t 17)), none⟩]) (.cond (.t 15) .skip (.reg [⟨(some 18), (.mv (.t 6)), none⟩, ⟨(some 19), (.bin .eql (.t 18) (.c (.int .i32 (10)))), none⟩, ⟨(some 20), (.mv (.t 19)), none⟩, ⟨(some 21), (.ld 1 false (.t 4)), (some (20, true))⟩, ⟨(some 22), (.bin .neq (.t 21) (.c (.int .i32 (13)))), (some (20, true))⟩, ⟨(some 23), (.pick (.t 20) (.t 22) (.c (.bool false))), none⟩, ⟨(some 15), (.mv (.t 23)), none⟩]))) (.cond (.t 15) (.reg [⟨(some 24), (.call (.c (.fn 35 [] [])) [(.t 3), (.c (.int .u8 (10)))]), none⟩]) (.seq (.reg [⟨(some 26), (.mv (.t 6)), none⟩, ⟨(some 27), (.bin .neq (.t 26) (.c (.int .i32 (10)))), none⟩, ⟨(some 25), (.mv (.t 27)), none⟩]) (.cond (.t 25) (.reg [⟨(some 28), (.mv (.t 6)), none⟩, ⟨(some 29), (.call (.c (.fn 34 [] [])) [(.t 3), (.t 28)]), none⟩]) .skip))))))) (.reg [⟨(some 30), (.mv (.t 6)), none⟩, ⟨none, (.st 1 (.t 4) (.t 30)), none⟩])))))) (.seq (.reg [⟨(some 31), (.call (.c (.fn 21 [] [])) [(.t 3)]), none⟩, ⟨(some 2), (.mv (.t 31)), none⟩]) .ret))))), [(.tmp 2)]⟩
theorem hc22 : toSF Tryd.prog {pure := [19]} Tryd.f22 = some c22 := by kernel_rfl
theorem hn22 : (Tryd.f22.name == "runtime.NumGoroutine") = false := by kernel_rfl
theorem clean_ok (s : List UInt8) (hl : s.length ≤ 1073741824) : PCalls (Pg G) 22 [.str s] (.str (encM (cleanL 0 (decD s)))) := fun h => by
  refine dcalls_of_vc Tryd.func22 hn22 hc22 (by rw [Tryd.ntmps22]; simp) (by rw [Tryd.ntmps22]; decide) ?_
  simp -dsimp -implicitDefEqProofs (disch := omega) only [↓vcOps_sp 20, ↓vcD_sp 20, VCA, pg_gl, ↓upd_none, Nat.reduceEqDiff, Nat.reduceBEq, Nat.reduceAdd, Nat.reduceSub, Nat.reduceMul, Nat.reduceLT, Nat.reduceLeDiff, ↓reduceIte, reduceCtorEq, rsOf, rootsOf, SOp.rd, SI.rd, SX.rd, rdL, rdO, rdP, okParts, eqCells, okEqCells, fillA, okFill, setAt, implies_true, forall_const, forall_eq, ne_eq, exists_eq_right_right, exists_eq_right, exists_eq_left, exists_eq_left', eRune, c22]
  intro rb hb rl hne
  refine pcallE.of (signs_ok s) ?_; simp -dsimp -implicitDefEqProofs (disch := omega) only [↓vcOps_sp 20, ↓vcD_sp 20, VCA, pg_gl, ↓upd_none, Nat.reduceEqDiff, Nat.reduceBEq, Nat.reduceAdd, Nat.reduceSub, Nat.reduceMul, Nat.reduceLT, Nat.reduceLeDiff, ↓reduceIte, reduceCtorEq, rsOf, rootsOf, SOp.rd, SI.rd, SX.rd, rdL, rdO, rdP, okParts, eqCells, okEqCells, fillA, okFill, setAt, implies_true, forall_const, forall_eq, ne_eq, exists_eq_right_right, exists_eq_right, exists_eq_left, exists_eq_left', eRune]
  have hlen : (sgnM s 0).length ≤ s.length := by
    have := congrArg List.length (sgnM_dec s 0 (by omega))
    rw [List.length_map, List.drop_zero] at this
    have := decD_len s _ (Nat.le_refl _)
    omega
  have hle : ∀ pre : List (Nat × Rn), (encM (cleanL 0 (pre.map (·.2.1)))).length ≤ 4 * pre.length := fun pre => by
    have h1 := encM_len (cleanL 0 (pre.map (·.2.1)))
    have h2 := cleanL_len (pre.map (·.2.1)) 0
    rw [List.length_map] at h2; omega
  have hnl : h rl = none := hne.2
  refine RangeVC.intro (signs1_it s hl) rfl (fun _ => rfl) (fun pre h' => Bl (upd h rl (some ⟨Ti, 1, [[.int .i32 (lastD (pre.map (·.2.1)))]]⟩)) rb (encM (cleanL 0 (pre.map (·.2.1)))) h') (fun _ _ _ => False) ?_ ?_ ?_ ?_
  · have := Bl.new (upd h rl (some ⟨Ti, 1, [[.int .i32 0]]⟩)) rb (by simpa [Sim.upd, Ne.symm hne.1] using hb)
    rw [upd_comm _ hne.1] at this
    exact this
  · intro pre x h' B hN
    have hp := hle pre
    have hrl := bl_is hne.1 B
    have hx : cleanL 0 ((pre ++ [x]).map (·.2.1)) = cleanL 0 (pre.map (·.2.1)) ++ cleanS (lastD (pre.map (·.2.1))) x.2.1 := by
      rw [List.map_append, List.map_cons, List.map_nil, cleanL_snoc]; rfl
    have hlast : lastD ((pre ++ [x]).map (·.2.1)) = x.2.1 := by simp [lastD]
    have fin : ∀ h2, Bl (upd h rl (some ⟨Ti, 1, [[.int .i32 (lastD (pre.map (·.2.1)))]]⟩)) rb (encM (cleanL 0 (pre.map (·.2.1))) ++ encM (cleanS (lastD (pre.map (·.2.1))) x.2.1)) h2 → 
        Bl (upd h rl (some ⟨Ti, 1, [[.int .i32 (lastD ((pre ++ [x]).map (·.2.1)))]]⟩)) rb (encM (cleanL 0 ((pre ++ [x]).map (·.2.1)))) (upd h2 rl (some ⟨Ti, 1, [[.int .i32 x.2.1]]⟩)) := fun h2 B2 => by
      rw [hx, hlast, encM_append]
      exact B2.beside hne.1
    simp -dsimp -implicitDefEqProofs (disch := omega) only [↓vcOps_sp 20, ↓vcD_sp 20, VCA, pg_gl, ↓upd_none, Nat.reduceEqDiff, Nat.reduceBEq, Nat.reduceAdd, Nat.reduceSub, Nat.reduceMul, Nat.reduceLT, Nat.reduceLeDiff, ↓reduceIte, reduceCtorEq, rsOf, rootsOf, SOp.rd, SI.rd, SX.rd, rdL, rdO, rdP, okParts, eqCells, okEqCells, fillA, okFill, setAt, implies_true, forall_const, forall_eq, ne_eq, exists_eq_right_right, exists_eq_right, exists_eq_left, exists_eq_left', eRune, eSgn]
    repeat' (first | ((with_reducible refine Br.dec (fun _ => ?_) (fun _ => ?_)) <;> try (exfalso; omega)) | ((with_reducible refine Br.eq (fun _ => ?_) (fun _ => ?_)) <;> try (exfalso; omega)) | ((with_reducible refine Br.ne (fun _ => ?_) (fun _ => ?_)) <;> try (exfalso; omega)) | with_reducible refine Br.intro (fun _ => ?_) (fun _ => ?_) | (with_reducible refine And.intro ?_ ?_; · omega) | simp -dsimp -implicitDefEqProofs (disch := omega) only [↓vcOps_sp 20, ↓vcD_sp 20, VCA, pg_gl, ↓upd_none, Nat.reduceEqDiff, Nat.reduceBEq, Nat.reduceAdd, Nat.reduceSub, Nat.reduceMul, Nat.reduceLT, Nat.reduceLeDiff, ↓reduceIte, reduceCtorEq, rsOf, rootsOf, SOp.rd, SI.rd, SX.rd, rdL, rdO, rdP, okParts, eqCells, okEqCells, fillA, okFill, setAt, implies_true, forall_const, forall_eq, ne_eq, exists_eq_right_right, exists_eq_right, exists_eq_left, exists_eq_left', eRune, eSgn, hrl])
    · have hs : cleanS (lastD (pre.map (·.2.1))) x.2.1 = [65533] := by unfold cleanS; rw [if_pos (by assumption)]
      rw [hs, encM_one] at fin
      refine DCalls.of (writeRune_ok 65533 B (by omega) (by omega) (by omega)) ?_
      rintro a h2 ⟨⟨n, rfl⟩, B'⟩
      simp -dsimp -implicitDefEqProofs (disch := omega) only [↓vcOps_sp 20, ↓vcD_sp 20, VCA, pg_gl, ↓upd_none, Nat.reduceEqDiff, Nat.reduceBEq, Nat.reduceAdd, Nat.reduceSub, Nat.reduceMul, Nat.reduceLT, Nat.reduceLeDiff, ↓reduceIte, reduceCtorEq, rsOf, rootsOf, SOp.rd, SI.rd, SX.rd, rdL, rdO, rdP, okParts, eqCells, okEqCells, fillA, okFill, setAt, implies_true, forall_const, forall_eq, ne_eq, exists_eq_right_right, exists_eq_right, exists_eq_left, exists_eq_left', eRune, bl_is hne.1 B']
      exact fin _ B'
    · have hs : cleanS (lastD (pre.map (·.2.1))) x.2.1 = [10] := by unfold cleanS; rw [if_neg (by omega), if_pos (by omega)]
      rw [hs, encM_one, enc10] at fin
      refine DCalls.of (writeByte_ok 10 B (by omega)) ?_
      rintro a h2 ⟨rfl, B'⟩
      simp -dsimp -implicitDefEqProofs (disch := omega) only [↓vcOps_sp 20, ↓vcD_sp 20, VCA, pg_gl, ↓upd_none, Nat.reduceEqDiff, Nat.reduceBEq, Nat.reduceAdd, Nat.reduceSub, Nat.reduceMul, Nat.reduceLT, Nat.reduceLeDiff, ↓reduceIte, reduceCtorEq, rsOf, rootsOf, SOp.rd, SI.rd, SX.rd, rdL, rdO, rdP, okParts, eqCells, okEqCells, fillA, okFill, setAt, implies_true, forall_const, forall_eq, ne_eq, exists_eq_right_right, exists_eq_right, exists_eq_left, exists_eq_left', eRune, bl_is hne.1 B']
      exact fin _ B'
    · have hs : cleanS (lastD (pre.map (·.2.1))) x.2.1 = [10] := by unfold cleanS; rw [if_neg (by omega), if_pos (by omega)]
      rw [hs, encM_one, enc10] at fin
      refine DCalls.of (writeByte_ok 10 B (by omega)) ?_
      rintro a h2 ⟨rfl, B'⟩
      simp -dsimp -implicitDefEqProofs (disch := omega) only [↓vcOps_sp 20, ↓vcD_sp 20, VCA, pg_gl, ↓upd_none, Nat.reduceEqDiff, Nat.reduceBEq, Nat.reduceAdd, Nat.reduceSub, Nat.reduceMul, Nat.reduceLT, Nat.reduceLeDiff, ↓reduceIte, reduceCtorEq, rsOf, rootsOf, SOp.rd, SI.rd, SX.rd, rdL, rdO, rdP, okParts, eqCells, okEqCells, fillA, okFill, setAt, implies_true, forall_const, forall_eq, ne_eq, exists_eq_right_right, exists_eq_right, exists_eq_left, exists_eq_left', eRune, bl_is hne.1 B']
      exact fin _ B'
    · have hs : cleanS (lastD (pre.map (·.2.1))) x.2.1 = [] := by unfold cleanS; rw [if_neg (by omega), if_neg (by omega), if_neg (by omega)]
      rw [hs] at fin
      exact fin _ (by simpa [encM] using B)
    · have hs : cleanS (lastD (pre.map (·.2.1))) x.2.1 = [x.2.1] := by unfold cleanS; rw [if_neg (by omega), if_neg (by omega), if_pos (by assumption)]
      rw [hs, encM_one] at fin
      have hxr := x.2.2
      refine DCalls.of (writeRune_ok x.2.1 B (by omega) (by omega) (by omega)) ?_
      rintro a h2 ⟨⟨n, rfl⟩, B'⟩
      simp -dsimp -implicitDefEqProofs (disch := omega) only [↓vcOps_sp 20, ↓vcD_sp 20, VCA, pg_gl, ↓upd_none, Nat.reduceEqDiff, Nat.reduceBEq, Nat.reduceAdd, Nat.reduceSub, Nat.reduceMul, Nat.reduceLT, Nat.reduceLeDiff, ↓reduceIte, reduceCtorEq, rsOf, rootsOf, SOp.rd, SI.rd, SX.rd, rdL, rdO, rdP, okParts, eqCells, okEqCells, fillA, okFill, setAt, implies_true, forall_const, forall_eq, ne_eq, exists_eq_right_right, exists_eq_right, exists_eq_left, exists_eq_left', eRune, bl_is hne.1 B']
      exact fin _ B'
  · intro h' B
    have hp := hle (sgnM s 0)
    have e : (sgnM s 0).map (·.2.1) = decD s := by
      have := sgnM_dec s 0 (by omega)
      rwa [List.drop_zero] at this
    rw [e] at B hp
    simp -dsimp -implicitDefEqProofs (disch := omega) only [↓vcOps_sp 20, ↓vcD_sp 20, VCA, pg_gl, ↓upd_none, Nat.reduceEqDiff, Nat.reduceBEq, Nat.reduceAdd, Nat.reduceSub, Nat.reduceMul, Nat.reduceLT, Nat.reduceLeDiff, ↓reduceIte, reduceCtorEq, rsOf, rootsOf, SOp.rd, SI.rd, SX.rd, rdL, rdO, rdP, okParts, eqCells, okEqCells, fillA, okFill, setAt, implies_true, forall_const, forall_eq, ne_eq, exists_eq_right_right, exists_eq_right, exists_eq_left, exists_eq_left', eRune]
    refine DCalls.of (string_ok B (by omega)) ?_
    rintro a h2 ⟨rfl, S⟩
    simp -dsimp -implicitDefEqProofs (disch := omega) only [↓vcOps_sp 20, ↓vcD_sp 20, VCA, pg_gl, ↓upd_none, Nat.reduceEqDiff, Nat.reduceBEq, Nat.reduceAdd, Nat.reduceSub, Nat.reduceMul, Nat.reduceLT, Nat.reduceLeDiff, ↓reduceIte, reduceCtorEq, rsOf, rootsOf, SOp.rd, SI.rd, SX.rd, rdL, rdO, rdP, okParts, eqCells, okEqCells, fillA, okFill, setAt, implies_true, forall_const, forall_eq, ne_eq, exists_eq_right_right, exists_eq_right, exists_eq_left, exists_eq_left', eRune]
    exact fun t o ht => S t o (by rw [upd_ne _ _ (by rintro rfl; rw [hnl] at ht; cases ht)]; exact ht)
  · intro ex pre h' _ _ hh
    exact hh.elim
def c9 : SFun := ⟨(.seq (.reg [⟨(some 4), (.mv (.c (.bool false))), none⟩]) (.seq (.seq (.reg [⟨(some 6), (.mv (.t 0)), none⟩, ⟨(some 7), (.len (.t 6)), none⟩, ⟨(some 8), (.mv (.t 1)), none⟩, ⟨(some 9), (.len (.t 8)), none⟩, ⟨(some 10), (.bin .neq (.t 7) (.t 9)), none⟩]) (.cond (.t 10) (.seq (.reg [⟨(some 4), (.mv (.c (.bool false))), none⟩]) .ret) .skip)) (.seq (.seq (.reg [⟨(some 5), (.mv (.c (.int .i64 (0)))), none⟩]) (.block 0 (.loop (.seq (.seq (.reg [⟨(some 11), (.mv (.t 5)), none⟩, ⟨(some 12), (.mv (.t 0)), none⟩, ⟨(some 13), (.len (.t 12)), none⟩, ⟨(some 14), (.bin .lss (.t 11) (.t 13)), none⟩]) (.cond (.t 14) .skip (.exit 0))) (.seq (.block 1 (.seq (.dreg [(⟨(some 17), (.mv (.t 0)), none⟩, false), (⟨(some 18), (.mv (.t 5)), none⟩, false), (⟨(some 19), (.idxA 1 (.t 17) (.t 18)), none⟩, false), (⟨(some 20), (.ld 1 false (.t 19)), none⟩, false), (⟨(some 21), (.mv (.t 1)), none⟩, false), (⟨(some 22), (.mv (.t 5)), none⟩, false), (⟨(some 23), (.idxA 1 (.t 21) (.t 22)), none⟩, false), (⟨(some 24), (.ld 1 false (.t 23)), none⟩, false), (⟨(some 25), (.bin .neq (.t 20) (.t 24)), none⟩, false)]) (.cond (.t 25) (.seq (.reg [⟨(some 4), (.mv (.c (.bool false))), none⟩]) .ret) .skip))) (.reg [⟨(some 15), (.mv (.t 5)), none⟩, ⟨(some 16), (.bin .add (.t 15) (.c (.int .i64 (1)))), none⟩, ⟨(some 5), (.mv (.t 16)), none⟩])))))) (.seq (.reg [⟨(some 4), (.mv (.c (.bool true))), none⟩]) .ret)))), [(.tmp 4)]⟩
theorem hc9 : toSF Tryd.prog {} Tryd.f9 = some c9 := by kernel_rfl
theorem hn9 : (Tryd.f9.name == "runtime.NumGoroutine") = false := by kernel_rfl
theorem sameR_ok (a b : List Int) (ha : a.length ≤ 1073741824) (hb : b.length ≤ 1073741824) : PCalls (Pg G) 9 [sl eRune a, sl eRune b] (.bool (a == b)) := by
  intro h
  refine dcalls_of_vc Tryd.func9 hn9 hc9 (by rw [Tryd.ntmps9]; simp) (by rw [Tryd.ntmps9]; decide) ?_
  simp -dsimp -implicitDefEqProofs (disch := omega) only [VCA, pg_gl, ↓upd_none, Nat.reduceEqDiff, Nat.reduceBEq, Nat.reduceAdd, Nat.reduceSub, Nat.reduceMul, Nat.reduceLT, Nat.reduceLeDiff, ↓reduceIte, reduceCtorEq, rsOf, rootsOf, SOp.rd, SI.rd, SX.rd, rdL, rdO, rdP, okParts, eqCells, okEqCells, fillA, okFill, setAt, implies_true, forall_const, forall_eq, ne_eq, exists_eq_right_right, exists_eq_right, exists_eq_left, exists_eq_left', eRune, c9]
  refine Br.ne (fun h1 => ?_) (fun h1 => ?_)
  · simp -dsimp -implicitDefEqProofs (disch := omega) only [VCA, pg_gl, ↓upd_none, Nat.reduceEqDiff, Nat.reduceBEq, Nat.reduceAdd, Nat.reduceSub, Nat.reduceMul, Nat.reduceLT, Nat.reduceLeDiff, ↓reduceIte, reduceCtorEq, rsOf, rootsOf, SOp.rd, SI.rd, SX.rd, rdL, rdO, rdP, okParts, eqCells, okEqCells, fillA, okFill, setAt, implies_true, forall_const, forall_eq, ne_eq, exists_eq_right_right, exists_eq_right, exists_eq_left, exists_eq_left', eRune]
    have : ¬ a = b := fun e => h1 (by rw [e])
    first | exact Sub.refl _ | exact ⟨Sub.refl _, by simp [this]⟩
  · simp -dsimp -implicitDefEqProofs (disch := omega) only [VCA, pg_gl, ↓upd_none, Nat.reduceEqDiff, Nat.reduceBEq, Nat.reduceAdd, Nat.reduceSub, Nat.reduceMul, Nat.reduceLT, Nat.reduceLeDiff, ↓reduceIte, reduceCtorEq, rsOf, rootsOf, SOp.rd, SI.rd, SX.rd, rdL, rdO, rdP, okParts, eqCells, okEqCells, fillA, okFill, setAt, implies_true, forall_const, forall_eq, ne_eq, exists_eq_right_right, exists_eq_right, exists_eq_left, exists_eq_left', eRune]
    have h1' : a.length = b.length := by omega
    refine LoopVC.intro (fun m e h' => ∃ k : Nat, k ≤ a.length ∧ m = a.length - k ∧ e 0 = sl eRune a ∧ e 1 = sl eRune b ∧ e 5 = aInt k ∧ h' = h ∧ ∀ j, j < k → nth a j = nth b j) a.length ⟨0, by omega, by omega, rfl, rfl, rfl, rfl, fun j hj => absurd hj (Nat.not_lt_zero j)⟩ ?_
    rintro m e h' ⟨k, hk, rfl, he0, he1, he5, rfl, hj⟩
    simp -dsimp -implicitDefEqProofs (disch := omega) only [VCA, pg_gl, ↓upd_none, Nat.reduceEqDiff, Nat.reduceBEq, Nat.reduceAdd, Nat.reduceSub, Nat.reduceMul, Nat.reduceLT, Nat.reduceLeDiff, ↓reduceIte, reduceCtorEq, rsOf, rootsOf, SOp.rd, SI.rd, SX.rd, rdL, rdO, rdP, okParts, eqCells, okEqCells, fillA, okFill, setAt, implies_true, forall_const, forall_eq, ne_eq, exists_eq_right_right, exists_eq_right, exists_eq_left, exists_eq_left', eRune, he0, he1, he5]
    refine Br.dec (fun hlt => ?_) (fun hge => ?_)
    · simp -dsimp -implicitDefEqProofs (disch := omega) only [VCA, pg_gl, ↓upd_none, Nat.reduceEqDiff, Nat.reduceBEq, Nat.reduceAdd, Nat.reduceSub, Nat.reduceMul, Nat.reduceLT, Nat.reduceLeDiff, ↓reduceIte, reduceCtorEq, rsOf, rootsOf, SOp.rd, SI.rd, SX.rd, rdL, rdO, rdP, okParts, eqCells, okEqCells, fillA, okFill, setAt, implies_true, forall_const, forall_eq, ne_eq, exists_eq_right_right, exists_eq_right, exists_eq_left, exists_eq_left', eRune, he0, he1, he5]
      refine ⟨by omega, by omega, ?_⟩
      refine Br.ne (fun h2 => ?_) (fun h2 => ?_)
      · simp -dsimp -implicitDefEqProofs (disch := omega) only [VCA, pg_gl, ↓upd_none, Nat.reduceEqDiff, Nat.reduceBEq, Nat.reduceAdd, Nat.reduceSub, Nat.reduceMul, Nat.reduceLT, Nat.reduceLeDiff, ↓reduceIte, reduceCtorEq, rsOf, rootsOf, SOp.rd, SI.rd, SX.rd, rdL, rdO, rdP, okParts, eqCells, okEqCells, fillA, okFill, setAt, implies_true, forall_const, forall_eq, ne_eq, exists_eq_right_right, exists_eq_right, exists_eq_left, exists_eq_left', eRune]
        have : ¬ a = b := fun e => by subst e; simp at h2
        first | exact Sub.refl _ | exact ⟨Sub.refl _, by simp [this]⟩
      · simp -dsimp -implicitDefEqProofs (disch := omega) only [VCA, pg_gl, ↓upd_none, Nat.reduceEqDiff, Nat.reduceBEq, Nat.reduceAdd, Nat.reduceSub, Nat.reduceMul, Nat.reduceLT, Nat.reduceLeDiff, ↓reduceIte, reduceCtorEq, rsOf, rootsOf, SOp.rd, SI.rd, SX.rd, rdL, rdO, rdP, okParts, eqCells, okEqCells, fillA, okFill, setAt, implies_true, forall_const, forall_eq, ne_eq, exists_eq_right_right, exists_eq_right, exists_eq_left, exists_eq_left', eRune, he0, he1, he5]
        refine ⟨_, ?_, k + 1, by omega, rfl, by omega, fun j hj' => ?_⟩
        · omega
        · by_cases h3 : j = k
          · subst h3; exact h2
          · exact hj j (by omega)
    · simp -dsimp -implicitDefEqProofs (disch := omega) only [VCA, pg_gl, ↓upd_none, Nat.reduceEqDiff, Nat.reduceBEq, Nat.reduceAdd, Nat.reduceSub, Nat.reduceMul, Nat.reduceLT, Nat.reduceLeDiff, ↓reduceIte, reduceCtorEq, rsOf, rootsOf, SOp.rd, SI.rd, SX.rd, rdL, rdO, rdP, okParts, eqCells, okEqCells, fillA, okFill, setAt, implies_true, forall_const, forall_eq, ne_eq, exists_eq_right_right, exists_eq_right, exists_eq_left, exists_eq_left', eRune]
      have : a = b := ext_nth h1' (fun j hj' => hj j (by omega))
      first | exact Sub.refl _ | exact ⟨Sub.refl _, by simp [this]⟩
theorem dec_b : decD [97, 195, 169, 226, 130] = [97, 233, 65533] := by
  have e1 : oneM [97, 195, 169, 226, 130] = (97, 1) := by decide +kernel
  have e2 : oneM [195, 169, 226, 130] = (233, 2) := by decide +kernel
  have e3 : oneM [226, 130] = (65533, 2) := by decide +kernel
  rw [decD_cons (by simp), e1]
  show 97 :: decD [195, 169, 226, 130] = _
  rw [decD_cons (by simp), e2]
  show 97 :: 233 :: decD [226, 130] = _
  rw [decD_cons (by simp), e3]
  show 97 :: 233 :: 65533 :: decD [] = _
  rw [decD_nil]
theorem dec_c : decD [97, 13, 10, 98, 13, 99] = [97, 13, 10, 98, 13, 99] := by
  have e1 : oneM [97, 13, 10, 98, 13, 99] = (97, 1) := by decide +kernel
  have e2 : oneM [13, 10, 98, 13, 99] = (13, 1) := by decide +kernel
  have e3 : oneM [10, 98, 13, 99] = (10, 1) := by decide +kernel
  have e4 : oneM [98, 13, 99] = (98, 1) := by decide +kernel
  have e5 : oneM [13, 99] = (13, 1) := by decide +kernel
  have e6 : oneM [99] = (99, 1) := by decide +kernel
  rw [decD_cons (by simp), e1]
  show 97 :: decD [13, 10, 98, 13, 99] = _
  rw [decD_cons (by simp), e2]
  show 97 :: 13 :: decD [10, 98, 13, 99] = _
  rw [decD_cons (by simp), e3]
  show 97 :: 13 :: 10 :: decD [98, 13, 99] = _
  rw [decD_cons (by simp), e4]
  show 97 :: 13 :: 10 :: 98 :: decD [13, 99] = _
  rw [decD_cons (by simp), e5]
  show 97 :: 13 :: 10 :: 98 :: 13 :: decD [99] = _
  rw [decD_cons (by simp), e6]
  show 97 :: 13 :: 10 :: 98 :: 13 :: 99 :: decD [] = _
  rw [decD_nil]
theorem clean_c : encM (cleanL 0 (decD [97, 13, 10, 98, 13, 99])) = [97, 10, 98, 10, 99] := by
  rw [dec_c]; decide +kernel
def c8 : SFun := ⟨(.seq (.reg [⟨(some 0), (.mv (.c (.bool false))), none⟩]) (.seq (.reg [⟨(some 2), (.pcall 6 [(.c (.str [97, 195, 169, 226, 130]))]), none⟩, ⟨(some 1), (.mv (.t 2)), none⟩]) (.seq (.reg [⟨(some 3), (.mv (.t 1)), none⟩, ⟨(some 4), (.bldF 21 1 [(.c (.int .i32 (97))), (.c (.int .i32 (233))), (.c (.int .i32 (65533)))]), none⟩, ⟨(some 5), (.pcall 9 [(.t 3), (.t 4)]), none⟩, ⟨(some 6), (.mv (.t 5)), none⟩, ⟨(some 7), (.pcall 22 [(.c (.str [97, 13, 10, 98, 13, 99]))]), (some (6, true))⟩, ⟨(some 8), (.bin .eql (.t 7) (.c (.str [97, 10, 98, 10, 99]))), (some (6, true))⟩, ⟨(some 9), (.pick (.t 6) (.t 8) (.c (.bool false))), none⟩, ⟨(some 0), (.mv (.t 9)), none⟩]) .ret))), [(.tmp 0)]⟩
theorem hc8 : toSF Tryd.prog {pure := [6, 22, 9]} Tryd.f8 = some c8 := by kernel_rfl
theorem hn8 : (Tryd.f8.name == "runtime.NumGoroutine") = false := by kernel_rfl
theorem charsBegun_ok : PCalls (Pg G) 8 [] (.bool true) := by
  intro h
  refine dcalls_of_vc Tryd.func8 hn8 hc8 (by rw [Tryd.ntmps8]; simp) (by rw [Tryd.ntmps8]; decide) ?_
  simp -dsimp -implicitDefEqProofs (disch := omega) only [↓vcOps_sp 6, ↓vcD_sp 6, VCA, pg_gl, ↓upd_none, Nat.reduceEqDiff, Nat.reduceBEq, Nat.reduceAdd, Nat.reduceSub, Nat.reduceMul, Nat.reduceLT, Nat.reduceLeDiff, ↓reduceIte, reduceCtorEq, rsOf, rootsOf, SOp.rd, SI.rd, SX.rd, rdL, rdO, rdP, okParts, eqCells, okEqCells, fillA, okFill, setAt, implies_true, forall_const, forall_eq, ne_eq, exists_eq_right_right, exists_eq_right, exists_eq_left, exists_eq_left', eRune, c8]
  refine pcallE.of (decode_ok [97, 195, 169, 226, 130] (by simp)) ?_; simp -dsimp -implicitDefEqProofs (disch := omega) only [↓vcOps_sp 6, ↓vcD_sp 6, VCA, pg_gl, ↓upd_none, Nat.reduceEqDiff, Nat.reduceBEq, Nat.reduceAdd, Nat.reduceSub, Nat.reduceMul, Nat.reduceLT, Nat.reduceLeDiff, ↓reduceIte, reduceCtorEq, rsOf, rootsOf, SOp.rd, SI.rd, SX.rd, rdL, rdO, rdP, okParts, eqCells, okEqCells, fillA, okFill, setAt, implies_true, forall_const, forall_eq, ne_eq, exists_eq_right_right, exists_eq_right, exists_eq_left, exists_eq_left', eRune]
  rw [dec_b]
  refine pcallE.of (sameR_ok [97, 233, 65533] [97, 233, 65533] (by simp) (by simp)) ?_; simp -dsimp -implicitDefEqProofs (disch := omega) only [↓vcOps_sp 6, ↓vcD_sp 6, VCA, pg_gl, ↓upd_none, Nat.reduceEqDiff, Nat.reduceBEq, Nat.reduceAdd, Nat.reduceSub, Nat.reduceMul, Nat.reduceLT, Nat.reduceLeDiff, ↓reduceIte, reduceCtorEq, rsOf, rootsOf, SOp.rd, SI.rd, SX.rd, rdL, rdO, rdP, okParts, eqCells, okEqCells, fillA, okFill, setAt, implies_true, forall_const, forall_eq, ne_eq, exists_eq_right_right, exists_eq_right, exists_eq_left, exists_eq_left', eRune]
  refine Br.eq (fun _ => ?_) (fun hh => absurd rfl hh)
  simp -dsimp -implicitDefEqProofs (disch := omega) only [↓vcOps_sp 6, ↓vcD_sp 6, VCA, pg_gl, ↓upd_none, Nat.reduceEqDiff, Nat.reduceBEq, Nat.reduceAdd, Nat.reduceSub, Nat.reduceMul, Nat.reduceLT, Nat.reduceLeDiff, ↓reduceIte, reduceCtorEq, rsOf, rootsOf, SOp.rd, SI.rd, SX.rd, rdL, rdO, rdP, okParts, eqCells, okEqCells, fillA, okFill, setAt, implies_true, forall_const, forall_eq, ne_eq, exists_eq_right_right, exists_eq_right, exists_eq_left, exists_eq_left', eRune]
  refine pcallE.of (clean_ok [97, 13, 10, 98, 13, 99] (by simp)) ?_; simp -dsimp -implicitDefEqProofs (disch := omega) only [↓vcOps_sp 6, ↓vcD_sp 6, VCA, pg_gl, ↓upd_none, Nat.reduceEqDiff, Nat.reduceBEq, Nat.reduceAdd, Nat.reduceSub, Nat.reduceMul, Nat.reduceLT, Nat.reduceLeDiff, ↓reduceIte, reduceCtorEq, rsOf, rootsOf, SOp.rd, SI.rd, SX.rd, rdL, rdO, rdP, okParts, eqCells, okEqCells, fillA, okFill, setAt, implies_true, forall_const, forall_eq, ne_eq, exists_eq_right_right, exists_eq_right, exists_eq_left, exists_eq_left', eRune]
  rw [clean_c]
  exact ⟨Sub.refl _, rfl⟩
def c5 : SFun := ⟨(.seq (.reg [⟨(some 4), (.mv (.c (.str []))), none⟩]) (.seq (.reg [⟨(some 5), (.mv (.t 0)), none⟩, ⟨(some 6), (.mv (.t 0)), none⟩, ⟨(some 7), (.lenS (.t 6)), none⟩, ⟨(some 8), (.mv (.t 1)), none⟩, ⟨(some 9), (.min2 (.t 7) (.t 8)), none⟩, ⟨(some 10), (.slS (.t 5) none (some (.t 9))), none⟩, ⟨(some 4), (.mv (.t 10)), none⟩]) .ret)), [(.tmp 4)]⟩
theorem hc5 : toSF Tryd.prog {} Tryd.f5 = some c5 := by kernel_rfl
theorem hn5 : (Tryd.f5.name == "runtime.NumGoroutine") = false := by kernel_rfl
theorem some_ok (s : List UInt8) (n : Nat) (hs : s.length ≤ 1073741824) : PCalls (Pg G) 5 [.str s, aInt n] (.str (s.take n)) := fun h => by
  refine dcalls_of_vc Tryd.func5 hn5 hc5 (by rw [Tryd.ntmps5]; simp) (by rw [Tryd.ntmps5]; decide) ?_
  simp -dsimp -implicitDefEqProofs (disch := omega) only [VCA, pg_gl, ↓upd_none, Nat.reduceEqDiff, Nat.reduceBEq, Nat.reduceAdd, Nat.reduceSub, Nat.reduceMul, Nat.reduceLT, Nat.reduceLeDiff, ↓reduceIte, reduceCtorEq, rsOf, rootsOf, SOp.rd, SI.rd, SX.rd, rdL, rdO, rdP, okParts, eqCells, okEqCells, fillA, okFill, setAt, implies_true, forall_const, forall_eq, ne_eq, exists_eq_right_right, exists_eq_right, exists_eq_left, exists_eq_left', eRune, c5]
  refine ⟨by omega, Sub.refl _, ?_⟩
  have : (min (s.length : Int) n).toNat = min s.length n := by omega
  have e : s.take (min s.length n) = s.take n := by rw [List.take_eq_take_iff]; omega
  rw [this, e]
end Go.Proofs.K
