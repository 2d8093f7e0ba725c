/- chars.signs: the iterator. -/
import Derived.Test.YtlehoolkjkdncaaDoorDcs
import Derived.Test.YtlehoolkjkdncaaDoorSimYld
set_option linter.unusedSimpArgs false
set_option linter.unusedVariables false
namespace Go.Proofs.K
open Go Go.Sim Go.Proofs
variable {G : Glob}

/-- the places and the signs from a place on -/
abbrev Rn := { r : Int // 0 ≤ r ∧ r < 8388608 }
def oneR (s : List UInt8) : Rn := ⟨(oneM s).1, oneM_r s⟩
def sgnM (s : List UInt8) (i : Nat) : List (Nat × Rn) := if h : i < s.length then (i, oneR (s.drop i)) :: sgnM s (i + (oneM (s.drop i)).2) else []
termination_by s.length - i
decreasing_by
  have h1 := oneM_n (s := s.drop i) (by intro h2; have := congrArg List.length h2; simp at this; omega)
  omega
theorem sgnM_end {s : List UInt8} {i : Nat} (h : ¬ i < s.length) : sgnM s i = [] := by rw [sgnM, dif_neg h]
theorem sgnM_on {s : List UInt8} {i : Nat} (h : i < s.length) : sgnM s i = (i, oneR (s.drop i)) :: sgnM s (i + (oneM (s.drop i)).2) := by
  conv => lhs; rw [sgnM, dif_pos h]
set_option maxRecDepth 10000 in
theorem sgnM_dec (s : List UInt8) (i : Nat) (hi : i ≤ s.length) : (sgnM s i).map (·.2.1) = decD (s.drop i) := by
  by_cases h : i < s.length
  · have hne : s.drop i ≠ [] := by intro h2; have := congrArg List.length h2; simp at this; omega
    have hn := oneM_n hne
    rw [List.length_drop] at hn
    rw [sgnM_on h, decD_cons hne, List.map_cons, sgnM_dec s (i + (oneM (s.drop i)).2) (by omega), List.drop_drop]
    rfl
  · rw [sgnM_end h, List.drop_eq_nil_of_le (by omega), decD_nil]; rfl
termination_by s.length - i
def eSgn (x : Nat × Rn) : List AVal := [aInt x.1, .int .i32 x.2.1]
def c31 : ICode := (.seq (.reg [(.op ⟨(some 3), (.mv (.c (.int .i64 (0)))), none⟩)]) (.block 0 (.loop (.seq (.seq (.reg [(.op ⟨(some 6), (.mv (.t 3)), none⟩), (.op ⟨(some 7), (.ld 1 false (.t 1)), none⟩), (.op ⟨(some 8), (.lenS (.t 7)), none⟩), (.op ⟨(some 9), (.bin .lss (.t 6) (.t 8)), none⟩)]) (.cond (.t 9) .skip (.exit 0))) (.block 1 (.seq (.reg [(.op ⟨(some 11), (.ld 1 false (.t 1)), none⟩), (.op ⟨(some 12), (.mv (.t 3)), none⟩), (.op ⟨(some 13), (.slS (.t 11) (some (.t 12)) none), none⟩), (.op ⟨(some 14), (.pcall 32 [(.t 13)]), none⟩), (.op ⟨(some 10), (.mv (.t 14)), none⟩), (.op ⟨(some 15), (.ext (.t 10) 0), none⟩), (.op ⟨(some 16), (.ext (.t 10) 1), none⟩), (.op ⟨(some 4), (.mv (.t 15)), none⟩), (.op ⟨(some 5), (.mv (.t 16)), none⟩)]) (.seq (.seq (.reg [(.op ⟨(some 17), (.mv (.t 0)), none⟩), (.op ⟨(some 18), (.mv (.t 3)), none⟩), (.op ⟨(some 19), (.mv (.t 4)), none⟩), (.yld (some 20) (.t 17) [(.t 18), (.t 19)]), (.op ⟨(some 21), (.un .not (.t 20)), none⟩)]) (.cond (.t 21) .ret .skip)) (.reg [(.op ⟨(some 22), (.mv (.t 3)), none⟩), (.op ⟨(some 23), (.mv (.t 5)), none⟩), (.op ⟨(some 24), (.bin .add (.t 22) (.t 23)), none⟩), (.op ⟨(some 3), (.mv (.t 24)), none⟩)]))))))))
theorem hc31 : toIF Tryd.prog {pure := [32]} 2 Tryd.f31 = some c31 := by kernel_rfl
theorem hn31 : (Tryd.f31.name == "runtime.NumGoroutine") = false := by kernel_rfl
set_option maxRecDepth 10000 in
theorem signs1_it (s : List UInt8) (hl : s.length ≤ 1073741824) : IterV (Pg G) 31 [.pin [.str s]] eSgn (sgnM s 0) (s.length + 1) := by
  refine iterV_of_itv Tryd.func31 hn31 hc31 (by rw [Tryd.ntmps31]; simp) (by rw [Tryd.ntmps31]; decide) ?_ ?_ ?_
  · intro c hc
    simp at hc; subst hc
    exact .pin _ (fun c hc => by simp at hc; subst hc; exact .str _)
  · intro x y hy
    simp [eSgn] at hy
    rcases hy with rfl | rfl <;> constructor
  · intro l
    simp -dsimp -implicitDefEqProofs (disch := omega) only [VCA, pg_gl, ↓upd_none, Nat.reduceEqDiff, Nat.reduceBEq, Nat.reduceAdd, Nat.reduceSub, Nat.reduceMul, Nat.reduceLT, Nat.reduceLeDiff, ↓reduceIte, reduceCtorEq, rsOf, rootsOf, SOp.rd, SI.rd, SX.rd, rdL, rdO, rdP, okParts, eqCells, okEqCells, fillA, okFill, setAt, implies_true, forall_const, forall_eq, ne_eq, exists_eq_right_right, exists_eq_right, exists_eq_left, exists_eq_left', eRune, IT1, IT2, IT3, aft_lo, aft_hi, c31]
    refine itLoop.intro (fun m b p e => ∃ i : Nat, m = s.length - i ∧ i ≤ s.length ∧ b = false ∧ p.length ≤ i ∧ p ++ sgnM s i = sgnM s 0 ∧ e 0 = .prim (.func (.yield l) #[] #[]) ∧ e 1 = .pin [.str s] ∧ e 3 = aInt i) s.length ⟨0, rfl, by omega, rfl, by simp, rfl, rfl, rfl, rfl⟩ ?_
    rintro m b p e ⟨i, rfl, hi, rfl, hp, hP, he0, he1, he3⟩
    simp -dsimp -implicitDefEqProofs (disch := omega) only [VCA, pg_gl, ↓upd_none, Nat.reduceEqDiff, Nat.reduceBEq, Nat.reduceAdd, Nat.reduceSub, Nat.reduceMul, Nat.reduceLT, Nat.reduceLeDiff, ↓reduceIte, reduceCtorEq, rsOf, rootsOf, SOp.rd, SI.rd, SX.rd, rdL, rdO, rdP, okParts, eqCells, okEqCells, fillA, okFill, setAt, implies_true, forall_const, forall_eq, ne_eq, exists_eq_right_right, exists_eq_right, exists_eq_left, exists_eq_left', eRune, IT1, IT2, IT3, aft_lo, aft_hi, he0, he1, he3]
    refine Br.dec (fun hlt => ?_) (fun hge => ?_)
    · simp -dsimp -implicitDefEqProofs (disch := omega) only [VCA, pg_gl, ↓upd_none, Nat.reduceEqDiff, Nat.reduceBEq, Nat.reduceAdd, Nat.reduceSub, Nat.reduceMul, Nat.reduceLT, Nat.reduceLeDiff, ↓reduceIte, reduceCtorEq, rsOf, rootsOf, SOp.rd, SI.rd, SX.rd, rdL, rdO, rdP, okParts, eqCells, okEqCells, fillA, okFill, setAt, implies_true, forall_const, forall_eq, ne_eq, exists_eq_right_right, exists_eq_right, exists_eq_left, exists_eq_left', eRune, IT1, IT2, IT3, aft_lo, aft_hi, he0, he1, he3]
      have hne : s.drop i ≠ [] := by intro h2; have := congrArg List.length h2; simp at this; omega
      have hn := oneM_n hne
      rw [List.length_drop] at hn
      rw [sgnM_on (by omega)] at hP
      refine ⟨by omega, ?_⟩
      refine pcallE.of (one_ok (s.drop i) hne (by simp; omega)) ?_; simp -dsimp -implicitDefEqProofs (disch := omega) only [VCA, pg_gl, ↓upd_none, Nat.reduceEqDiff, Nat.reduceBEq, Nat.reduceAdd, Nat.reduceSub, Nat.reduceMul, Nat.reduceLT, Nat.reduceLeDiff, ↓reduceIte, reduceCtorEq, rsOf, rootsOf, SOp.rd, SI.rd, SX.rd, rdL, rdO, rdP, okParts, eqCells, okEqCells, fillA, okFill, setAt, implies_true, forall_const, forall_eq, ne_eq, exists_eq_right_right, exists_eq_right, exists_eq_left, exists_eq_left', eRune, IT1, IT2, IT3, aft_lo, aft_hi, he0, he1, he3]
      refine ⟨by omega, (i, oneR (s.drop i)), rfl, ?_⟩
      refine ⟨⟨_, ?_, i + (oneM (s.drop i)).2, rfl, by omega, by simp; omega, by simp [hP], by omega⟩, ?_⟩
      · omega
      · exact ⟨sgnM s (i + (oneM (s.drop i)).2), by rw [← hP]; simp⟩
    · simp -dsimp -implicitDefEqProofs (disch := omega) only [VCA, pg_gl, ↓upd_none, Nat.reduceEqDiff, Nat.reduceBEq, Nat.reduceAdd, Nat.reduceSub, Nat.reduceMul, Nat.reduceLT, Nat.reduceLeDiff, ↓reduceIte, reduceCtorEq, rsOf, rootsOf, SOp.rd, SI.rd, SX.rd, rdL, rdO, rdP, okParts, eqCells, okEqCells, fillA, okFill, setAt, implies_true, forall_const, forall_eq, ne_eq, exists_eq_right_right, exists_eq_right, exists_eq_left, exists_eq_left', eRune, IT1, IT2, IT3, aft_lo, aft_hi]
      rw [sgnM_end (by omega), List.append_nil] at hP
      exact hP
def c19 : SFun := ⟨(.seq (.reg [⟨(some 1), (.boxF 9 1 (.t 0)), none⟩, ⟨(some 2), (.mv (.c (.prim .nilFunc))), none⟩]) (.seq (.reg [⟨(some 3), (.mkf 31 [] [(.t 1)]), none⟩, ⟨(some 2), (.mv (.t 3)), none⟩]) .ret)), [(.tmp 2)]⟩
theorem hc19 : toSF Tryd.prog {} Tryd.f19 = some c19 := by kernel_rfl
theorem hn19 : (Tryd.f19.name == "runtime.NumGoroutine") = false := by kernel_rfl
theorem signs_ok (s : List UInt8) : PCalls (Pg G) 19 [.str s] (.fn 31 [] [.pin [.str s]]) := fun h => by
  refine dcalls_of_vc Tryd.func19 hn19 hc19 (by rw [Tryd.ntmps19]; simp) (by rw [Tryd.ntmps19]; decide) ?_
  simp -dsimp -implicitDefEqProofs (disch := omega) only [VCA, pg_gl, ↓upd_none, Nat.reduceEqDiff, Nat.reduceBEq, Nat.reduceAdd, Nat.reduceSub, Nat.reduceMul, Nat.reduceLT, Nat.reduceLeDiff, ↓reduceIte, reduceCtorEq, rsOf, rootsOf, SOp.rd, SI.rd, SX.rd, rdL, rdO, rdP, okParts, eqCells, okEqCells, fillA, okFill, setAt, implies_true, forall_const, forall_eq, ne_eq, exists_eq_right_right, exists_eq_right, exists_eq_left, exists_eq_left', eRune, IT1, IT2, IT3, aft_lo, aft_hi, c19]
  exact Sub.refl _
/-- a variable that holds a list that is being built -/
def AccV (h0 : Heap) (r0 tv ty sz : Nat) (cells : List (List AVal)) (h : Heap) : Prop := h0 r0 = none ∧ ∃ a, Acc (upd h0 r0 (some ⟨tv, 1, [[a]]⟩)) ty sz cells a h ∧ Sub (upd h0 r0 (some ⟨tv, 1, [[a]]⟩)) h
theorem AccV.new {h0 : Heap} {r0 tv ty sz : Nat} (h : h0 r0 = none) : AccV h0 r0 tv ty sz [] (upd h0 r0 (some ⟨tv, 1, [[.emp]]⟩)) := ⟨h, .emp, Acc.nil, Sub.refl _⟩
theorem Acc.isv {h h' : Heap} {ty sz : Nat} {cells : List (List AVal)} {a : AVal} (A : Acc h ty sz cells a h') : isV a = true ∧ cellsOf a = [a] := by
  rcases A with ⟨_, rfl⟩ | ⟨r, _, _, rfl⟩ <;> exact ⟨rfl, rfl⟩
theorem acc_off {h0 h : Heap} {rb ty sz : Nat} {x : AObj} {cells : List (List AVal)} {a : AVal} (h1 : h0 rb = none) (A : Acc (upd h0 rb (some x)) ty sz cells a h) : Acc h0 ty sz cells a h :=
  A.mono ((Sub.refl h0).upd h1)
/-- a list that has been built is lent to a reader -/
theorem Acc.lend {α : Type} [Inhabited α] {enc : α → List AVal} {P : PG} {h h' : Heap} {ty sz f : Nat} [LenE enc sz] {L : List α} {a v : AVal} {K : AVal → Heap → Prop} (A : Acc h ty sz (L.map enc) a h') (hp : PCalls P f [sl enc L] v) (hs : Scal v) (hk : K v h') : Hd (DCalls P f [a] h') K .mk := by
  rcases A with ⟨h1, rfl⟩ | ⟨r, _, hr, rfl⟩
  · have : L = [] := by simpa using h1
    subst this
    exact PCalls.of (hp.wk (.cons .emp .nil)) hk
  · exact PCalls.borrow1 hp hs hr (Nat.le_refl _) (by rw [List.take_length]) hk
def c6 : SFun := ⟨(.seq (.reg [⟨(some 2), (.mv (.c .emp)), none⟩]) (.seq (.reg [⟨(some 3), (.new 22 1 [.emp]), none⟩]) (.seq (.seq (.reg [⟨(some 6), (.mv (.t 0)), none⟩, ⟨(some 7), (.pcall 19 [(.t 6)]), none⟩]) (.block 0 (.range (.t 7) [8, 9] [(5, 9)] (.block 1 (.reg [⟨(some 10), (.ld 1 false (.t 3)), none⟩, ⟨(some 11), (.mv (.t 5)), none⟩, ⟨(some 12), (.bldF 21 1 [(.t 11)]), none⟩, ⟨(some 13), (.app 21 1 4 (.t 10) (.t 12)), none⟩, ⟨none, (.st 1 (.t 3) (.t 13)), none⟩]))))) (.seq (.reg [⟨(some 14), (.ld 1 false (.t 3)), none⟩, ⟨(some 2), (.mv (.t 14)), none⟩]) .ret)))), [(.tmp 2)]⟩
theorem hc6 : toSF Tryd.prog {pure := [19]} Tryd.f6 = some c6 := by kernel_rfl
theorem hn6 : (Tryd.f6.name == "runtime.NumGoroutine") = false := by kernel_rfl
theorem decode_ok (s : List UInt8) (hl : s.length ≤ 1073741824) : PCalls (Pg G) 6 [.str s] (sl eRune (decD s)) := PCalls.acc (ty := Ti) (sz := 1) fun h => by
  refine dcalls_of_vc Tryd.func6 hn6 hc6 (by rw [Tryd.ntmps6]; simp) (by rw [Tryd.ntmps6]; decide) ?_
  simp -dsimp -implicitDefEqProofs (disch := omega) only [VCA, pg_gl, ↓upd_none, Nat.reduceEqDiff, Nat.reduceBEq, Nat.reduceAdd, Nat.reduceSub, Nat.reduceMul, Nat.reduceLT, Nat.reduceLeDiff, ↓reduceIte, reduceCtorEq, rsOf, rootsOf, SOp.rd, SI.rd, SX.rd, rdL, rdO, rdP, okParts, eqCells, okEqCells, fillA, okFill, setAt, implies_true, forall_const, forall_eq, ne_eq, exists_eq_right_right, exists_eq_right, exists_eq_left, exists_eq_left', eRune, IT1, IT2, IT3, aft_lo, aft_hi, c6]
  intro r0 h0
  refine pcallE.of (signs_ok s) ?_; simp -dsimp -implicitDefEqProofs (disch := omega) only [VCA, pg_gl, ↓upd_none, Nat.reduceEqDiff, Nat.reduceBEq, Nat.reduceAdd, Nat.reduceSub, Nat.reduceMul, Nat.reduceLT, Nat.reduceLeDiff, ↓reduceIte, reduceCtorEq, rsOf, rootsOf, SOp.rd, SI.rd, SX.rd, rdL, rdO, rdP, okParts, eqCells, okEqCells, fillA, okFill, setAt, implies_true, forall_const, forall_eq, ne_eq, exists_eq_right_right, exists_eq_right, exists_eq_left, exists_eq_left', eRune, IT1, IT2, IT3, aft_lo, aft_hi]
  refine RangeVC.intro (signs1_it s hl) rfl (fun _ => rfl) (fun pre h' => AccV h r0 22 Ti 1 (pre.map fun x => eRune x.2.1) h') (fun _ _ _ => False) (AccV.new h0) ?_ ?_ ?_
  · rintro pre x h' ⟨_, a, A, S⟩ hN
    simp -dsimp -implicitDefEqProofs (disch := omega) only [VCA, pg_gl, ↓upd_none, Nat.reduceEqDiff, Nat.reduceBEq, Nat.reduceAdd, Nat.reduceSub, Nat.reduceMul, Nat.reduceLT, Nat.reduceLeDiff, ↓reduceIte, reduceCtorEq, rsOf, rootsOf, SOp.rd, SI.rd, SX.rd, rdL, rdO, rdP, okParts, eqCells, okEqCells, fillA, okFill, setAt, implies_true, forall_const, forall_eq, ne_eq, exists_eq_right_right, exists_eq_right, exists_eq_left, exists_eq_left', eRune, IT1, IT2, IT3, aft_lo, aft_hi, eSgn, sub_is S]
    refine A.app S (by simp; omega) (by simp; omega) fun a' h3 A' S' => ?_
    have iv := Acc.isv A'
    simp -dsimp -implicitDefEqProofs (disch := omega) only [VCA, pg_gl, ↓upd_none, Nat.reduceEqDiff, Nat.reduceBEq, Nat.reduceAdd, Nat.reduceSub, Nat.reduceMul, Nat.reduceLT, Nat.reduceLeDiff, ↓reduceIte, reduceCtorEq, rsOf, rootsOf, SOp.rd, SI.rd, SX.rd, rdL, rdO, rdP, okParts, eqCells, okEqCells, fillA, okFill, setAt, implies_true, forall_const, forall_eq, ne_eq, exists_eq_right_right, exists_eq_right, exists_eq_left, exists_eq_left', eRune, IT1, IT2, IT3, aft_lo, aft_hi, sub_is S', iv.1, iv.2]
    exact ⟨h0, a', by simpa [eRune] using acc_at A', sub_at S'⟩
  · rintro h' ⟨_, a, A, S⟩
    simp -dsimp -implicitDefEqProofs (disch := omega) only [VCA, pg_gl, ↓upd_none, Nat.reduceEqDiff, Nat.reduceBEq, Nat.reduceAdd, Nat.reduceSub, Nat.reduceMul, Nat.reduceLT, Nat.reduceLeDiff, ↓reduceIte, reduceCtorEq, rsOf, rootsOf, SOp.rd, SI.rd, SX.rd, rdL, rdO, rdP, okParts, eqCells, okEqCells, fillA, okFill, setAt, implies_true, forall_const, forall_eq, ne_eq, exists_eq_right_right, exists_eq_right, exists_eq_left, exists_eq_left', eRune, IT1, IT2, IT3, aft_lo, aft_hi, sub_is S]
    refine ⟨h', Sub.refl _, ?_, sub_off h0 S⟩
    have e : (sgnM s 0).map (fun x => eRune x.2.1) = (decD s).map eRune := by
      have := sgnM_dec s 0 (by omega)
      rw [List.drop_zero] at this
      rw [← this, List.map_map]; rfl
    rw [← e]
    exact acc_off h0 A
  · intro ex pre h' _ _ hh
    exact hh.elim
end Go.Proofs.K
