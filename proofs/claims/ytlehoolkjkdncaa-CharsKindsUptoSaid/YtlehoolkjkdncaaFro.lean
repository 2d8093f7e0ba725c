/- The document's From. -/
import Derived.Test.YtlehoolkjkdncaaFrn
set_option linter.unusedSimpArgs false
set_option linter.unusedVariables false
namespace Go.Proofs.K
open Go Go.Sim Go.Proofs
variable {G : Glob}

def surr (x : Int) : Bool := decide (55296 ≤ x) && decide (x ≤ 57343)
def fixR (x : Int) : Int := if surr x = true then 65533 else x
/-- the document's walk through units: what waits for its second half, what is there -/
def refM : Int → List Int → List Int → Int × List Int
  | h, out, [] => (h, out)
  | h, out, x :: r => if 0 ≤ h ∧ 56320 ≤ x ∧ x ≤ 57343 then refM (-1) (out.dropLast ++ [65536 + 1024 * (h - 55296) + x - 56320]) r
    else refM (if 55296 ≤ x ∧ x ≤ 56319 then x else -1) (out ++ [fixR x]) r
theorem refM_app (u v : List Int) : ∀ h out, refM h out (u ++ v) = refM (refM h out u).1 (refM h out u).2 v := by
  induction u with
  | nil => intro h out; rfl
  | cons x r ih =>
    intro h out
    simp only [List.cons_append, refM]
    split
    · exact ih _ _
    · exact ih _ _
def hiH (x : Int) : Prop := 55296 ≤ x ∧ x ≤ 56319
theorem refM_eq : ∀ (n : Nat) (u : List Int), u.length ≤ n → (∀ x ∈ u, 0 ≤ x ∧ x < 65536) → (∀ out, (refM (-1) out u).2 = out ++ (pairM u).map fixR) ∧ ∀ (h : Int) out, hiH h → (refM h (out ++ [65533]) u).2 = out ++ (pairM (h :: u)).map fixR := by
  intro n
  induction n with
  | zero =>
    intro u hu _
    have : u = [] := List.length_eq_zero_iff.1 (by omega)
    subst this
    refine ⟨fun out => by simp [refM, pairM], fun h out hh => ?_⟩
    have : surr h = true := by unfold hiH at hh; simp [surr]; omega
    simp [refM, pairM, fixR, this]
  | succ n ih =>
    intro u hu hr
    have one : ∀ out, (refM (-1) out u).2 = out ++ (pairM u).map fixR := by
      intro out
      cases u with
      | nil => simp [refM, pairM]
      | cons x r =>
        simp only [List.length_cons] at hu
        have hx := hr x List.mem_cons_self
        obtain ⟨i1, i2⟩ := ih r (by omega) fun y hy => hr y (List.mem_cons_of_mem _ hy)
        simp only [refM]
        rw [if_neg (by omega)]
        by_cases hh : 55296 ≤ x ∧ x ≤ 56319
        · rw [if_pos hh]
          have hs : fixR x = 65533 := by unfold fixR surr; rw [if_pos (by simp; omega)]
          rw [hs]; exact i2 x out hh
        · rw [if_neg hh, i1]
          have : pairM (x :: r) = x :: pairM r := by
            cases r with
            | nil => rfl
            | cons b r => rw [pairM, if_neg (by omega)]
          rw [this]; simp
    refine ⟨one, fun h out hh => ?_⟩
    cases u with
    | nil =>
      have : surr h = true := by unfold hiH at hh; simp [surr]; omega
      simp [refM, pairM, fixR, this]
    | cons x r =>
      simp only [List.length_cons] at hu
      have hx := hr x List.mem_cons_self
      have hh' := hh
      unfold hiH at hh'
      obtain ⟨i1, i2⟩ := ih r (by omega) fun y hy => hr y (List.mem_cons_of_mem _ hy)
      by_cases hl : 56320 ≤ x ∧ x ≤ 57343
      · simp only [refM]
        rw [if_pos (by omega), i1, List.dropLast_concat, pairM, if_pos (by omega)]
        have e : 65536 + 1024 * (h - 55296) + x - 56320 = 65536 + h % 1024 * 1024 + x % 1024 := by omega
        have hs : surr (65536 + h % 1024 * 1024 + x % 1024) = false := by simp [surr]; omega
        rw [e]; simp [fixR, hs]
      · have h2 : pairM (h :: x :: r) = h :: pairM (x :: r) := by rw [pairM, if_neg (by omega)]
        have hs : surr h = true := by simp [surr]; omega
        have h3 : refM h (out ++ [65533]) (x :: r) = refM (-1) (out ++ [65533]) (x :: r) := by
          have q1 : ¬ (0 ≤ h ∧ 56320 ≤ x ∧ x ≤ 57343) := by omega
          have q2 : ¬ ((0 : Int) ≤ -1 ∧ 56320 ≤ x ∧ x ≤ 57343) := by omega
          simp only [refM, if_neg q1, if_neg q2]
        rw [h2, h3, one]; simp [fixR, hs]
theorem enc_fix (l : List Int) : encM (l.map fixR) = encM l := by
  induction l with
  | nil => rfl
  | cons x r ih =>
    have : Lib.encodeRune (fixR x) = Lib.encodeRune x := by
      unfold fixR
      split
      · rename_i h
        simp only [surr, Bool.and_eq_true, decide_eq_true_eq] at h
        simp only [Lib.encodeRune]
        rw [Lib.encodeRuneZ_bad (.inr (.inl h)), Lib.encodeRuneZ_three (by omega)]
        rfl
      · rfl
    have h2 : ∀ (y : Int) (l : List Int), encM (y :: l) = Lib.encodeRune y ++ encM l := fun y l => by simp [encM]
    rw [List.map_cons, h2, h2, this, ih]
theorem refM_inv (v : List Int) : ∀ h out, (0 ≤ h → out ≠ [] ∧ hiH h) → (h < 0 → h = -1) → (0 ≤ (refM h out v).1 → (refM h out v).2 ≠ [] ∧ hiH (refM h out v).1) ∧ ((refM h out v).1 < 0 → (refM h out v).1 = -1) ∧ (refM h out v).2.length ≤ out.length + v.length := by
  induction v with
  | nil => intro h out h1 h2; exact ⟨h1, h2, by simp [refM]⟩
  | cons x r ih =>
    intro h out h1 h2
    simp only [refM]
    split
    · rename_i hc
      have := ih (-1) (out.dropLast ++ [65536 + 1024 * (h - 55296) + x - 56320]) (by omega) (by omega)
      refine ⟨this.1, this.2.1, ?_⟩
      have h3 := this.2.2
      have h4 := List.length_pos_iff.2 (h1 hc.1).1
      simp at h3 ⊢; omega
    · have := ih (if 55296 ≤ x ∧ x ≤ 56319 then x else -1) (out ++ [fixR x]) (fun hh => ⟨by simp, by
        split at hh
        · rename_i hc; rw [if_pos hc]; exact hc
        · omega⟩) (fun hh => by
        split at hh
        · omega
        · rename_i hc; rw [if_neg hc])
      refine ⟨this.1, this.2.1, ?_⟩
      have h3 := this.2.2
      simp at h3 ⊢; omega
theorem unitsM_take {s : List UInt8} {hi k : Nat} (h : k < s.length / 2) : (unitsM s hi).take (k + 1) = (unitsM s hi).take k ++ [unitM s hi k] := by
  unfold unitsM
  rw [List.take_add_one, List.getElem?_map, List.getElem?_range h]; rfl
theorem unitsM_len (s : List UInt8) (hi : Nat) : (unitsM s hi).length = s.length / 2 := by simp [unitsM]
theorem refM_snoc (h : Int) (out v : List Int) (x : Int) : refM h out (v ++ [x]) = if 0 ≤ (refM h out v).1 ∧ 56320 ≤ x ∧ x ≤ 57343 then (-1, (refM h out v).2.dropLast ++ [65536 + 1024 * ((refM h out v).1 - 55296) + x - 56320])
    else (if 55296 ≤ x ∧ x ≤ 56319 then x else -1, (refM h out v).2 ++ [fixR x]) := by
  rw [refM_app]
  simp only [refM]
theorem set_last {α : Type} (l : List α) (h : 0 < l.length) (x : α) : l.set (l.length - 1) x = l.dropLast ++ [x] := by
  have hne : l ≠ [] := List.length_pos_iff.1 h
  conv => lhs; rw [← List.dropLast_concat_getLast hne]
  rw [List.set_append_right _ _ (by simp)]
  simp
def c47 : SFun := ⟨(.seq (.reg [⟨(some 4), (.mv (.c (.str []))), none⟩, ⟨(some 5), (.mv (.c (.int .i64 (0)))), none⟩]) (.seq (.seq (.reg [⟨(some 10), (.mv (.t 1)), none⟩, ⟨(some 11), (.pcall 84 [(.t 10), (.c (.int .i64 (0))), (.c (.int .i64 (4)))]), none⟩, ⟨(some 12), (.un .not (.t 11)), none⟩]) (.cond (.t 12) (.seq (.reg [⟨(some 4), (.mv (.c (.str []))), none⟩, ⟨(some 5), (.mv (.c (.int .i64 (1)))), none⟩]) .ret) .skip)) (.seq (.seq (.reg [⟨(some 13), (.mv (.t 0)), none⟩, ⟨(some 14), (.lenS (.t 13)), none⟩, ⟨(some 15), (.bin .gtr (.t 14) (.c (.int .i64 (4000)))), none⟩]) (.cond (.t 15) (.seq (.reg [⟨(some 4), (.mv (.c (.str []))), none⟩, ⟨(some 5), (.mv (.c (.int .i64 (2)))), none⟩]) .ret) .skip)) (.seq (.seq (.reg [⟨(some 16), (.mv (.t 1)), none⟩, ⟨(some 17), (.bin .lss (.t 16) (.c (.int .i64 (2)))), none⟩]) (.cond (.t 17) (.seq (.reg [⟨(some 18), (.mv (.t 0)), none⟩, ⟨(some 19), (.pcall 64 [(.t 18)]), none⟩, ⟨(some 20), (.call (.c (.fn 65 [] [])) [(.t 19)]), none⟩, ⟨(some 4), (.mv (.t 20)), none⟩, ⟨(some 5), (.mv (.c (.int .i64 (0)))), none⟩]) .ret) .skip)) (.seq (.reg [⟨(some 6), (.mv (.c .emp)), none⟩]) (.seq (.reg [⟨(some 7), (.mv (.c (.int .i64 (-1)))), none⟩]) (.seq (.seq (.reg [⟨(some 8), (.mv (.c (.int .i64 (0)))), none⟩]) (.block 0 (.loop (.seq (.seq (.reg [⟨(some 21), (.mv (.t 8)), none⟩, ⟨(some 22), (.mv (.t 0)), none⟩, ⟨(some 23), (.lenS (.t 22)), none⟩, ⟨(some 24), (.bin .lss (.t 21) (.t 23)), none⟩]) (.cond (.t 24) .skip (.exit 0))) (.seq (.block 1 (.seq (.seq (.reg [⟨(some 27), (.mv (.t 1)), none⟩, ⟨(some 28), (.bin .eql (.t 27) (.c (.int .i64 (4)))), none⟩]) (.cond (.t 28) (.seq (.reg [⟨(some 29), (.mv (.t 6)), none⟩, ⟨(some 30), (.mv (.t 0)), none⟩, ⟨(some 31), (.mv (.t 8)), none⟩, ⟨(some 32), (.idxS (.t 30) (.t 31)), none⟩, ⟨(some 33), (.cvi .i32 (.t 32)), none⟩, ⟨(some 34), (.bldF 21 1 [(.t 33)]), none⟩, ⟨(some 35), (.app 21 1 4 (.t 29) (.t 34)), none⟩, ⟨(some 6), (.mv (.t 35)), none⟩]) (.exit 1)) .skip)) (.seq (.seq (.reg [⟨(some 36), (.mv (.t 8)), none⟩, ⟨(some 37), (.bin .add (.t 36) (.c (.int .i64 (1)))), none⟩, ⟨(some 38), (.mv (.t 0)), none⟩, ⟨(some 39), (.lenS (.t 38)), none⟩, ⟨(some 40), (.bin .eql (.t 37) (.t 39)), none⟩]) (.cond (.t 40) (.seq (.reg [⟨(some 41), (.mv (.t 6)), none⟩, ⟨(some 42), (.bldF 21 1 [(.c (.int .i32 (65533)))]), none⟩, ⟨(some 43), (.app 21 1 4 (.t 41) (.t 42)), none⟩, ⟨(some 6), (.mv (.t 43)), none⟩]) (.exit 1)) .skip)) (.seq (.dreg [(⟨(some 44), (.mv (.t 0)), none⟩, false), (⟨(some 45), (.mv (.t 8)), none⟩, false), (⟨(some 46), (.idxS (.t 44) (.t 45)), none⟩, false), (⟨(some 47), (.cvi .i64 (.t 46)), none⟩, false), (⟨(some 48), (.bin .mul (.c (.int .i64 (256))) (.t 47)), none⟩, false), (⟨(some 49), (.mv (.t 0)), none⟩, false), (⟨(some 50), (.mv (.t 8)), none⟩, false), (⟨(some 51), (.bin .add (.t 50) (.c (.int .i64 (1)))), none⟩, false), (⟨(some 52), (.idxS (.t 49) (.t 51)), none⟩, false), (⟨(some 53), (.cvi .i64 (.t 52)), none⟩, false), (⟨(some 54), (.bin .add (.t 48) (.t 53)), none⟩, false), (⟨(some 9), (.mv (.t 54)), none⟩, false)]) (.seq (.seq (.reg [⟨(some 55), (.mv (.t 1)), none⟩, ⟨(some 56), (.bin .eql (.t 55) (.c (.int .i64 (3)))), none⟩]) (.cond (.t 56) (.dreg [(⟨(some 57), (.mv (.t 0)), none⟩, false), (⟨(some 58), (.mv (.t 8)), none⟩, false), (⟨(some 59), (.idxS (.t 57) (.t 58)), none⟩, false), (⟨(some 60), (.cvi .i64 (.t 59)), none⟩, false), (⟨(some 61), (.mv (.t 0)), none⟩, false), (⟨(some 62), (.mv (.t 8)), none⟩, false), (⟨(some 63), (.bin .add (.t 62) (.c (.int .i64 (1)))), none⟩, false), (⟨(some 64), (.idxS (.t 61) (.t 63)), none⟩, false), (⟨(some 65), (.cvi .i64 (.t 64)), none⟩, false), (⟨(some 66), (.bin .mul (.c (.int .i64 (256))) (.t 65)), none⟩, false), (⟨(some 67), (.bin .add (.t 60) (.t 66)), none⟩, false), (⟨(some 9), (.mv (.t 67)), none⟩, false)]) .skip)) (.seq (.reg [⟨(some 68), (.mv (.t 8)), none⟩, ⟨(some 69), (.bin .add (.t 68) (.c (.int .i64 (1)))), none⟩, ⟨(some 8), (.mv (.t 69)), none⟩]) (.seq (.seq (.reg [⟨(some 70), (.mv (.t 7)), none⟩, ⟨(some 71), (.bin .geq (.t 70) (.c (.int .i64 (0)))), none⟩, ⟨(some 72), (.mv (.t 71)), none⟩, ⟨(some 73), (.mv (.t 9)), (some (72, true))⟩, ⟨(some 74), (.pcall 84 [(.t 73), (.c (.int .i64 (56320))), (.c (.int .i64 (57343)))]), (some (72, true))⟩, ⟨(some 75), (.pick (.t 72) (.t 74) (.c (.bool false))), none⟩]) (.cond (.t 75) (.seq (.reg [⟨(some 76), (.mv (.t 6)), none⟩, ⟨(some 77), (.mv (.t 6)), none⟩, ⟨(some 78), (.len (.t 77)), none⟩, ⟨(some 79), (.bin .sub (.t 78) (.c (.int .i64 (1)))), none⟩, ⟨(some 80), (.mv (.t 7)), none⟩, ⟨(some 81), (.bin .sub (.t 80) (.c (.int .i64 (55296)))), none⟩, ⟨(some 82), (.bin .mul (.c (.int .i64 (1024))) (.t 81)), none⟩, ⟨(some 83), (.bin .add (.c (.int .i64 (65536))) (.t 82)), none⟩, ⟨(some 84), (.mv (.t 9)), none⟩, ⟨(some 85), (.bin .add (.t 83) (.t 84)), none⟩, ⟨(some 86), (.bin .sub (.t 85) (.c (.int .i64 (56320)))), none⟩, ⟨(some 87), (.cvi .i32 (.t 86)), none⟩, ⟨(some 88), (.idxA 1 (.t 76) (.t 79)), none⟩, ⟨none, (.st 1 (.t 88) (.t 87)), none⟩]) (.seq (.reg [⟨(some 7), (.mv (.c (.int .i64 (-1)))), none⟩]) (.exit 1))) .skip)) (.seq (.reg [⟨(some 7), (.mv (.c (.int .i64 (-1)))), none⟩]) (.seq (.seq (.reg [⟨(some 89), (.mv (.t 9)), none⟩, ⟨(some 90), (.pcall 84 [(.t 89), (.c (.int .i64 (55296))), (.c (.int .i64 (56319)))]), none⟩]) (.cond (.t 90) (.reg [⟨(some 91), (.mv (.t 9)), none⟩, ⟨(some 7), (.mv (.t 91)), none⟩]) .skip)) (.seq (.seq (.reg [⟨(some 92), (.mv (.t 9)), none⟩, ⟨(some 93), (.pcall 84 [(.t 92), (.c (.int .i64 (55296))), (.c (.int .i64 (57343)))]), none⟩]) (.cond (.t 93) (.reg [⟨(some 9), (.mv (.c (.int .i64 (65533)))), none⟩]) .skip)) (.reg [⟨(some 94), (.mv (.t 6)), none⟩, ⟨(some 95), (.mv (.t 9)), none⟩, ⟨(some 96), (.cvi .i32 (.t 95)), none⟩, ⟨(some 97), (.bldF 21 1 [(.t 96)]), none⟩, ⟨(some 98), (.app 21 1 4 (.t 94) (.t 97)), none⟩, ⟨(some 6), (.mv (.t 98)), none⟩]))))))))))) (.reg [⟨(some 25), (.mv (.t 8)), none⟩, ⟨(some 26), (.bin .add (.t 25) (.c (.int .i64 (1)))), none⟩, ⟨(some 8), (.mv (.t 26)), none⟩])))))) (.seq (.reg [⟨(some 99), (.mv (.t 6)), none⟩, ⟨(some 100), (.call (.c (.fn 65 [] [])) [(.t 99)]), none⟩, ⟨(some 4), (.mv (.t 100)), none⟩, ⟨(some 5), (.mv (.c (.int .i64 (0)))), none⟩]) .ret)))))))), [(.tmp 4), (.tmp 5)]⟩
theorem hc47 : toSF Try.prog {pure := [84, 64]} Try.f47 = some c47 := by kernel_rfl
theorem hn47 : (Try.f47.name == "runtime.NumGoroutine") = false := by kernel_rfl
set_option maxHeartbeats 1000000 in
theorem refFrom_ok (s : List UInt8) (kind : Int) (hs : s.length ≤ 1048576) : PCalls (Pg G) 47 [.str s, aInt kind] (.tup [.str (fromM s kind).1, aInt (fromM s kind).2]) := fun h => by
  have hD := I32_dec s _ (Nat.le_refl _)
  have hDl := decD_len s _ (Nat.le_refl _)
  have hE := refEncode_ok (G := G) (decD s) (fun x hx => by have := hD x hx; omega) (by omega)
  rcases (by omega : kind < 0 ∨ 4 < kind ∨ kind = 0 ∨ kind = 1 ∨ (kind = (0 : Nat) + 2 ∨ kind = (1 : Nat) + 2) ∨ kind = 4) with hk | hk | rfl | rfl | hk | rfl
  · have e : fromM s kind = ([], 1) := if_pos (.inl hk)
    rw [e]
    have hb : (decide (0 ≤ kind) && decide (kind ≤ 4)) = false := by simp; omega
    refine dcalls_of_vc Try.func47 hn47 hc47 (by rw [Try.ntmps47]; simp) (by rw [Try.ntmps47]; decide) ?_
    simp -dsimp -implicitDefEqProofs (disch := omega) only [↓vcOps_sp 72, ↓vcD_sp 72, VCA, pg_gl, ↓upd_none, Nat.reduceEqDiff, Nat.reduceBEq, Nat.reduceAdd, Nat.reduceSub, Nat.reduceMul, Nat.reduceLT, Nat.reduceLeDiff, ↓reduceIte, reduceCtorEq, rsOf, rootsOf, SOp.rd, SI.rd, SX.rd, rdL, rdO, rdP, okParts, eqCells, okEqCells, fillA, okFill, setAt, implies_true, forall_const, forall_eq, ne_eq, exists_eq_right_right, exists_eq_right, exists_eq_left, exists_eq_left', eRune, c47]
    repeat' (first | ((with_reducible refine Br.dec (fun _ => ?_) (fun _ => ?_)) <;> try (exfalso; omega)) | ((with_reducible refine Br.eq (fun _ => ?_) (fun _ => ?_)) <;> try (exfalso; omega)) | ((with_reducible refine Br.ne (fun _ => ?_) (fun _ => ?_)) <;> try (exfalso; omega)) | with_reducible refine Br.intro (fun _ => ?_) (fun _ => ?_) | (with_reducible apply pcallE.of; · exact between_ok _ _ _) | (with_reducible refine And.intro ?_ ?_; · omega) | simp -dsimp -implicitDefEqProofs (disch := omega) only [↓vcOps_sp 72, ↓vcD_sp 72, VCA, pg_gl, ↓upd_none, Nat.reduceEqDiff, Nat.reduceBEq, Nat.reduceAdd, Nat.reduceSub, Nat.reduceMul, Nat.reduceLT, Nat.reduceLeDiff, ↓reduceIte, reduceCtorEq, rsOf, rootsOf, SOp.rd, SI.rd, SX.rd, rdL, rdO, rdP, okParts, eqCells, okEqCells, fillA, okFill, setAt, implies_true, forall_const, forall_eq, ne_eq, exists_eq_right_right, exists_eq_right, exists_eq_left, exists_eq_left', eRune, hb, Bool.not_false])
    all_goals exact Sub.refl _
  · have e : fromM s kind = ([], 1) := if_pos (.inr hk)
    rw [e]
    have hb : (decide (0 ≤ kind) && decide (kind ≤ 4)) = false := by simp; omega
    refine dcalls_of_vc Try.func47 hn47 hc47 (by rw [Try.ntmps47]; simp) (by rw [Try.ntmps47]; decide) ?_
    simp -dsimp -implicitDefEqProofs (disch := omega) only [↓vcOps_sp 72, ↓vcD_sp 72, VCA, pg_gl, ↓upd_none, Nat.reduceEqDiff, Nat.reduceBEq, Nat.reduceAdd, Nat.reduceSub, Nat.reduceMul, Nat.reduceLT, Nat.reduceLeDiff, ↓reduceIte, reduceCtorEq, rsOf, rootsOf, SOp.rd, SI.rd, SX.rd, rdL, rdO, rdP, okParts, eqCells, okEqCells, fillA, okFill, setAt, implies_true, forall_const, forall_eq, ne_eq, exists_eq_right_right, exists_eq_right, exists_eq_left, exists_eq_left', eRune, c47]
    repeat' (first | ((with_reducible refine Br.dec (fun _ => ?_) (fun _ => ?_)) <;> try (exfalso; omega)) | ((with_reducible refine Br.eq (fun _ => ?_) (fun _ => ?_)) <;> try (exfalso; omega)) | ((with_reducible refine Br.ne (fun _ => ?_) (fun _ => ?_)) <;> try (exfalso; omega)) | with_reducible refine Br.intro (fun _ => ?_) (fun _ => ?_) | (with_reducible apply pcallE.of; · exact between_ok _ _ _) | (with_reducible refine And.intro ?_ ?_; · omega) | simp -dsimp -implicitDefEqProofs (disch := omega) only [↓vcOps_sp 72, ↓vcD_sp 72, VCA, pg_gl, ↓upd_none, Nat.reduceEqDiff, Nat.reduceBEq, Nat.reduceAdd, Nat.reduceSub, Nat.reduceMul, Nat.reduceLT, Nat.reduceLeDiff, ↓reduceIte, reduceCtorEq, rsOf, rootsOf, SOp.rd, SI.rd, SX.rd, rdL, rdO, rdP, okParts, eqCells, okEqCells, fillA, okFill, setAt, implies_true, forall_const, forall_eq, ne_eq, exists_eq_right_right, exists_eq_right, exists_eq_left, exists_eq_left', eRune, hb, Bool.not_false])
    all_goals exact Sub.refl _
  · have hb : (decide ((0 : Int) ≤ 0) && decide ((0 : Int) ≤ 4)) = true := by decide
    refine dcalls_of_vc Try.func47 hn47 hc47 (by rw [Try.ntmps47]; simp) (by rw [Try.ntmps47]; decide) ?_
    simp -dsimp -implicitDefEqProofs (disch := omega) only [↓vcOps_sp 72, ↓vcD_sp 72, VCA, pg_gl, ↓upd_none, Nat.reduceEqDiff, Nat.reduceBEq, Nat.reduceAdd, Nat.reduceSub, Nat.reduceMul, Nat.reduceLT, Nat.reduceLeDiff, ↓reduceIte, reduceCtorEq, rsOf, rootsOf, SOp.rd, SI.rd, SX.rd, rdL, rdO, rdP, okParts, eqCells, okEqCells, fillA, okFill, setAt, implies_true, forall_const, forall_eq, ne_eq, exists_eq_right_right, exists_eq_right, exists_eq_left, exists_eq_left', eRune, c47]
    repeat' (first | ((with_reducible refine Br.dec (fun _ => ?_) (fun _ => ?_)) <;> try (exfalso; omega)) | ((with_reducible refine Br.eq (fun _ => ?_) (fun _ => ?_)) <;> try (exfalso; omega)) | ((with_reducible refine Br.ne (fun _ => ?_) (fun _ => ?_)) <;> try (exfalso; omega)) | with_reducible refine Br.intro (fun _ => ?_) (fun _ => ?_) | (with_reducible apply pcallE.of; · exact between_ok _ _ _) | (with_reducible apply pcallE.of; · exact refDecode_ok s (by omega)) | (with_reducible refine PCalls.of hE ?_) | (with_reducible refine And.intro ?_ ?_; · omega) | simp -dsimp -implicitDefEqProofs (disch := omega) only [↓vcOps_sp 72, ↓vcD_sp 72, VCA, pg_gl, ↓upd_none, Nat.reduceEqDiff, Nat.reduceBEq, Nat.reduceAdd, Nat.reduceSub, Nat.reduceMul, Nat.reduceLT, Nat.reduceLeDiff, ↓reduceIte, reduceCtorEq, rsOf, rootsOf, SOp.rd, SI.rd, SX.rd, rdL, rdO, rdP, okParts, eqCells, okEqCells, fillA, okFill, setAt, implies_true, forall_const, forall_eq, ne_eq, exists_eq_right_right, exists_eq_right, exists_eq_left, exists_eq_left', eRune, hb, Bool.not_true])
    · rw [show fromM s 0 = ([], 2) from by unfold fromM; rw [if_neg (by omega), if_pos (by omega)]]
      exact ⟨Sub.refl _, rfl⟩
    · rw [show fromM s 0 = (encM (decD s), 0) from by unfold fromM fromL; rw [if_neg (by omega), if_neg (by omega), if_neg (by omega), if_neg (by omega)]]
      exact ⟨Sub.refl _, rfl⟩
  · have hb : (decide ((0 : Int) ≤ 1) && decide ((1 : Int) ≤ 4)) = true := by decide
    refine dcalls_of_vc Try.func47 hn47 hc47 (by rw [Try.ntmps47]; simp) (by rw [Try.ntmps47]; decide) ?_
    simp -dsimp -implicitDefEqProofs (disch := omega) only [↓vcOps_sp 72, ↓vcD_sp 72, VCA, pg_gl, ↓upd_none, Nat.reduceEqDiff, Nat.reduceBEq, Nat.reduceAdd, Nat.reduceSub, Nat.reduceMul, Nat.reduceLT, Nat.reduceLeDiff, ↓reduceIte, reduceCtorEq, rsOf, rootsOf, SOp.rd, SI.rd, SX.rd, rdL, rdO, rdP, okParts, eqCells, okEqCells, fillA, okFill, setAt, implies_true, forall_const, forall_eq, ne_eq, exists_eq_right_right, exists_eq_right, exists_eq_left, exists_eq_left', eRune, c47]
    repeat' (first | ((with_reducible refine Br.dec (fun _ => ?_) (fun _ => ?_)) <;> try (exfalso; omega)) | ((with_reducible refine Br.eq (fun _ => ?_) (fun _ => ?_)) <;> try (exfalso; omega)) | ((with_reducible refine Br.ne (fun _ => ?_) (fun _ => ?_)) <;> try (exfalso; omega)) | with_reducible refine Br.intro (fun _ => ?_) (fun _ => ?_) | (with_reducible apply pcallE.of; · exact between_ok _ _ _) | (with_reducible apply pcallE.of; · exact refDecode_ok s (by omega)) | (with_reducible refine PCalls.of hE ?_) | (with_reducible refine And.intro ?_ ?_; · omega) | simp -dsimp -implicitDefEqProofs (disch := omega) only [↓vcOps_sp 72, ↓vcD_sp 72, VCA, pg_gl, ↓upd_none, Nat.reduceEqDiff, Nat.reduceBEq, Nat.reduceAdd, Nat.reduceSub, Nat.reduceMul, Nat.reduceLT, Nat.reduceLeDiff, ↓reduceIte, reduceCtorEq, rsOf, rootsOf, SOp.rd, SI.rd, SX.rd, rdL, rdO, rdP, okParts, eqCells, okEqCells, fillA, okFill, setAt, implies_true, forall_const, forall_eq, ne_eq, exists_eq_right_right, exists_eq_right, exists_eq_left, exists_eq_left', eRune, hb, Bool.not_true])
    · rw [show fromM s 1 = ([], 2) from by unfold fromM; rw [if_neg (by omega), if_pos (by omega)]]
      exact ⟨Sub.refl _, rfl⟩
    · rw [show fromM s 1 = (encM (decD s), 0) from by unfold fromM fromL; rw [if_neg (by omega), if_neg (by omega), if_neg (by omega), if_neg (by omega)]]
      exact ⟨Sub.refl _, rfl⟩
  · obtain ⟨hi, hh, rfl⟩ : ∃ hi : Nat, hi ≤ 1 ∧ kind = hi + 2 := by
      rcases hk with hk | hk
      · exact ⟨0, by omega, hk⟩
      · exact ⟨1, by omega, hk⟩
    clear hk
    have hb : (decide (0 ≤ (hi : Int) + 2) && decide ((hi : Int) + 2 ≤ 4)) = true := by simp; omega
    refine dcalls_of_vc Try.func47 hn47 hc47 (by rw [Try.ntmps47]; simp) (by rw [Try.ntmps47]; decide) ?_
    simp -dsimp -implicitDefEqProofs (disch := omega) only [↓vcOps_sp 72, ↓vcD_sp 72, VCA, pg_gl, ↓upd_none, Nat.reduceEqDiff, Nat.reduceBEq, Nat.reduceAdd, Nat.reduceSub, Nat.reduceMul, Nat.reduceLT, Nat.reduceLeDiff, ↓reduceIte, reduceCtorEq, rsOf, rootsOf, SOp.rd, SI.rd, SX.rd, rdL, rdO, rdP, okParts, eqCells, okEqCells, fillA, okFill, setAt, implies_true, forall_const, forall_eq, ne_eq, exists_eq_right_right, exists_eq_right, exists_eq_left, exists_eq_left', eRune, c47]
    repeat' (first | ((with_reducible refine Br.dec (fun _ => ?_) (fun _ => ?_)) <;> try (exfalso; omega)) | ((with_reducible refine Br.eq (fun _ => ?_) (fun _ => ?_)) <;> try (exfalso; omega)) | ((with_reducible refine Br.ne (fun _ => ?_) (fun _ => ?_)) <;> try (exfalso; omega)) | with_reducible refine Br.intro (fun _ => ?_) (fun _ => ?_) | (with_reducible apply pcallE.of; · exact between_ok _ _ _) | (with_reducible refine And.intro ?_ ?_; · omega) | simp -dsimp -implicitDefEqProofs (disch := omega) only [↓vcOps_sp 72, ↓vcD_sp 72, VCA, pg_gl, ↓upd_none, Nat.reduceEqDiff, Nat.reduceBEq, Nat.reduceAdd, Nat.reduceSub, Nat.reduceMul, Nat.reduceLT, Nat.reduceLeDiff, ↓reduceIte, reduceCtorEq, rsOf, rootsOf, SOp.rd, SI.rd, SX.rd, rdL, rdO, rdP, okParts, eqCells, okEqCells, fillA, okFill, setAt, implies_true, forall_const, forall_eq, ne_eq, exists_eq_right_right, exists_eq_right, exists_eq_left, exists_eq_left', eRune, hb, Bool.not_true])
    · rw [show fromM s (hi + 2) = ([], 2) from by unfold fromM; rw [if_neg (by omega), if_pos (by omega)]]
      exact ⟨Sub.refl _, rfl⟩
    have h4 : ¬ 4000 < s.length := by omega
    have hr : fromM s (hi + 2) = (encM (pairM (unitsM s hi) ++ (if s.length % 2 = 1 then [65533] else [])), 0) := by
      unfold fromM
      rw [if_neg (by omega), if_neg h4, fromL, if_pos (by omega)]
      have : ((hi : Int) + 2 - 2).toNat = hi := by omega
      rw [this]
    have hul := unitsM_len s hi
    refine LoopVC.intro (fun m e h' => ∃ (i : Nat) (hg : Int) (out : List Int), m = s.length - i ∧ i ≤ s.length ∧ e 0 = .str s ∧ e 1 = aInt (hi + 2) ∧ e 7 = aInt hg ∧ e 8 = aInt i ∧ Acc h Ti 1 (out.map eRune) (e 6) h' ∧ Sub h h' ∧
      ((∃ k, i = 2 * k ∧ refM (-1) [] ((unitsM s hi).take k) = (hg, out)) ∨ (i = s.length ∧ s.length % 2 = 1 ∧ out = (refM (-1) [] (unitsM s hi)).2 ++ [65533]))) _ ⟨0, -1, [], rfl, by omega, rfl, rfl, rfl, rfl, Acc.nil, Sub.refl _, .inl ⟨0, rfl, rfl⟩⟩ ?_
    rintro m e h' ⟨i, hg, out, rfl, hi2, he0, he1, he7, he8, A, S, hC⟩
    generalize ea : e 6 = a at A
    by_cases hlt : i < s.length
    · obtain ⟨k, rfl, hR⟩ := hC.resolve_right (by omega)
      have hinv := refM_inv ((unitsM s hi).take k) (-1) [] (by omega) (by omega)
      rw [hR] at hinv
      simp only at hinv
      have hol : out.length ≤ k := by
        have := hinv.2.2
        rw [List.length_take] at this
        simp at this; omega
      have hb1 := bt_byte s (2 * k)
      have hb2 := bt_byte s (2 * k + 1)
      have eb1 : ((s.getD (2 * k) 0).toNat : Int) = bt s (2 * k) := rfl
      have eb2 : ((s.getD (2 * k + 1) 0).toNat : Int) = bt s (2 * k + 1) := rfl
      have i1 : (((2 * k : Nat) : Int) + 1).toNat = 2 * k + 1 := by omega
      simp -dsimp -implicitDefEqProofs (disch := omega) only [↓vcOps_sp 72, ↓vcD_sp 72, VCA, pg_gl, ↓upd_none, Nat.reduceEqDiff, Nat.reduceBEq, Nat.reduceAdd, Nat.reduceSub, Nat.reduceMul, Nat.reduceLT, Nat.reduceLeDiff, ↓reduceIte, reduceCtorEq, rsOf, rootsOf, SOp.rd, SI.rd, SX.rd, rdL, rdO, rdP, okParts, eqCells, okEqCells, fillA, okFill, setAt, implies_true, forall_const, forall_eq, ne_eq, exists_eq_right_right, exists_eq_right, exists_eq_left, exists_eq_left', eRune, he0, he1, he7, he8, ea, eb1, eb2, i1]
      by_cases hend : 2 * k + 1 = s.length
      · repeat' (first | ((with_reducible refine Br.dec (fun _ => ?_) (fun _ => ?_)) <;> try (exfalso; omega)) | ((with_reducible refine Br.eq (fun _ => ?_) (fun _ => ?_)) <;> try (exfalso; omega)) | ((with_reducible refine Br.ne (fun _ => ?_) (fun _ => ?_)) <;> try (exfalso; omega)) | with_reducible refine Br.intro (fun _ => ?_) (fun _ => ?_) | (refine A.app S (by simp; omega) (by simp; omega) (fun a' h3 A' S' => ?_)) | (with_reducible refine And.intro ?_ ?_; · omega) | simp -dsimp -implicitDefEqProofs (disch := omega) only [↓vcOps_sp 72, ↓vcD_sp 72, VCA, pg_gl, ↓upd_none, Nat.reduceEqDiff, Nat.reduceBEq, Nat.reduceAdd, Nat.reduceSub, Nat.reduceMul, Nat.reduceLT, Nat.reduceLeDiff, ↓reduceIte, reduceCtorEq, rsOf, rootsOf, SOp.rd, SI.rd, SX.rd, rdL, rdO, rdP, okParts, eqCells, okEqCells, fillA, okFill, setAt, implies_true, forall_const, forall_eq, ne_eq, exists_eq_right_right, exists_eq_right, exists_eq_left, exists_eq_left', eRune, he0, he1, he7, he8, ea, eb1, eb2, i1])
        refine ⟨_, ?_, 2 * k + 1, hg, out ++ [65533], rfl, by omega, rfl, by omega, by simpa [eRune] using A', S', .inr ⟨hend, by omega, ?_⟩⟩
        · omega
        · have : (unitsM s hi).take k = unitsM s hi := List.take_of_length_le (by omega)
          rw [← this, hR]
      · have hkl : k < s.length / 2 := by omega
        have hT := unitsM_take (hi := hi) hkl
        have hur := unitM_r s hi k
        have hsn := refM_snoc (-1) [] ((unitsM s hi).take k) (unitM s hi k)
        rw [hR, ← hT] at hsn
        simp only at hsn
        have hxv : (if hi = 1 then bt s (2 * k) + 256 * bt s (2 * k + 1) else 256 * bt s (2 * k) + bt s (2 * k + 1)) = unitM s hi k := by
          unfold unitM
          rcases (by omega : hi = 0 ∨ hi = 1) with rfl | rfl
          · rw [if_neg (by omega)]; simp; omega
          · rw [if_pos rfl]; simp; omega
        rcases (by omega : hi = 0 ∨ hi = 1) with rfl | rfl
        · skip
          rw [if_neg (by omega)] at hxv
          have hb1' : (decide (56320 ≤ unitM s 0 k) && decide (unitM s 0 k ≤ 57343)) = decide (56320 ≤ unitM s 0 k ∧ unitM s 0 k ≤ 57343) := by simp
          have hb2' : (decide (55296 ≤ unitM s 0 k) && decide (unitM s 0 k ≤ 56319)) = decide (55296 ≤ unitM s 0 k ∧ unitM s 0 k ≤ 56319) := by simp
          have hb3' : (decide (55296 ≤ unitM s 0 k) && decide (unitM s 0 k ≤ 57343)) = decide (55296 ≤ unitM s 0 k ∧ unitM s 0 k ≤ 57343) := by simp
          have hx3 : surr (unitM s 0 k) = decide (55296 ≤ unitM s 0 k ∧ unitM s 0 k ≤ 57343) := hb3'
          have hw5 : IntKind.i32.wrap 65533 = 65533 := by decide
          have hwx : IntKind.i32.wrap (unitM s 0 k) = unitM s 0 k := by rw [IntKind.wrap_i32]; omega
          generalize unitM s 0 k = x at *
          repeat' (first | ((with_reducible refine Br.dec (fun _ => ?_) (fun _ => ?_)) <;> try (exfalso; omega)) | ((with_reducible refine Br.eq (fun _ => ?_) (fun _ => ?_)) <;> try (exfalso; omega)) | ((with_reducible refine Br.ne (fun _ => ?_) (fun _ => ?_)) <;> try (exfalso; omega)) | with_reducible refine Br.intro (fun _ => ?_) (fun _ => ?_) | (with_reducible apply pcallE.of; · exact between_ok _ _ _) | (refine A.app S (by simp; omega) (by simp; omega) (fun a' h3 A' S' => ?_)) | (with_reducible refine And.intro ?_ ?_; · omega) | simp -dsimp -implicitDefEqProofs (disch := omega) only [↓vcOps_sp 72, ↓vcD_sp 72, VCA, pg_gl, ↓upd_none, Nat.reduceEqDiff, Nat.reduceBEq, Nat.reduceAdd, Nat.reduceSub, Nat.reduceMul, Nat.reduceLT, Nat.reduceLeDiff, ↓reduceIte, reduceCtorEq, rsOf, rootsOf, SOp.rd, SI.rd, SX.rd, rdL, rdO, rdP, okParts, eqCells, okEqCells, fillA, okFill, setAt, implies_true, forall_const, forall_eq, ne_eq, exists_eq_right_right, exists_eq_right, exists_eq_left, exists_eq_left', eRune, he0, he1, he7, he8, ea, eb1, eb2, i1, hxv, hb1', hb2', hb3', hw5, hwx])
          all_goals first
            | (refine ⟨_, ?_, 2 * k + 2, _, out ++ [fixR x], rfl, by omega, rfl, by omega, ?_, S', .inl ⟨k + 1, by omega, ?_⟩⟩
               · omega
               · rw [List.map_append]
                 refine Eq.mp (congrArg (fun z => Acc h Ti 1 (out.map eRune ++ [[.int .i32 z]]) a' h3) ?_) A'
                 unfold fixR
                 rw [hx3]
                 first | rw [if_pos (decide_eq_true (by omega))] | rw [if_neg (by simp; omega)]
               · rw [hsn, if_neg (by omega)]
                 first | rw [if_pos (by omega)] | rw [if_neg (by omega)])
            | skip
          have hpos := List.length_pos_iff.2 (hinv.1 (by assumption)).1
          have hhg := (hinv.1 (by assumption)).2
          unfold hiH at hhg
          obtain ⟨r, hr0, hr1, rfl⟩ := A.pos (by simpa using hpos)
          have hln : ((out.map eRune).length : Int) = out.length := by simp
          have hwc : IntKind.i32.wrap (65536 + 1024 * (hg - 55296) + x - 56320) = 65536 + 1024 * (hg - 55296) + x - 56320 := by rw [IntKind.wrap_i32]; omega
          simp -dsimp -implicitDefEqProofs (disch := omega) only [↓vcOps_sp 72, ↓vcD_sp 72, VCA, pg_gl, ↓upd_none, Nat.reduceEqDiff, Nat.reduceBEq, Nat.reduceAdd, Nat.reduceSub, Nat.reduceMul, Nat.reduceLT, Nat.reduceLeDiff, ↓reduceIte, reduceCtorEq, rsOf, rootsOf, SOp.rd, SI.rd, SX.rd, rdL, rdO, rdP, okParts, eqCells, okEqCells, fillA, okFill, setAt, implies_true, forall_const, forall_eq, ne_eq, exists_eq_right_right, exists_eq_right, exists_eq_left, exists_eq_left', eRune, he0, he1, he8, ea, hr1, hwc]
          refine ⟨by omega, by omega, _, ?_, 2 * k + 2, -1, out.dropLast ++ [65536 + 1024 * (hg - 55296) + x - 56320], rfl, by omega, rfl, by omega, ?_, S.upd hr0, .inl ⟨k + 1, by omega, ?_⟩⟩
          · omega
          · have hn : ((out.length : Int) - 1).toNat = out.length - 1 := by omega
            refine .inr ⟨r, hr0, ?_, ?_⟩
            · rw [upd_same, hn, List.map_append, List.map_dropLast]
              have := set_last (out.map eRune) (by simpa using hpos) (eRune (65536 + 1024 * (hg - 55296) + x - 56320))
              rw [List.length_map] at this
              rw [List.map_cons, List.map_nil, ← this]
              rfl
            · rw [List.length_map, List.length_append, List.length_dropLast, List.length_singleton]
              have : out.length - 1 + 1 = out.length := by omega
              rw [this]
          · rw [hsn, if_pos (by omega)]
        · skip
          rw [if_pos rfl] at hxv
          have hb1' : (decide (56320 ≤ unitM s 1 k) && decide (unitM s 1 k ≤ 57343)) = decide (56320 ≤ unitM s 1 k ∧ unitM s 1 k ≤ 57343) := by simp
          have hb2' : (decide (55296 ≤ unitM s 1 k) && decide (unitM s 1 k ≤ 56319)) = decide (55296 ≤ unitM s 1 k ∧ unitM s 1 k ≤ 56319) := by simp
          have hb3' : (decide (55296 ≤ unitM s 1 k) && decide (unitM s 1 k ≤ 57343)) = decide (55296 ≤ unitM s 1 k ∧ unitM s 1 k ≤ 57343) := by simp
          have hx3 : surr (unitM s 1 k) = decide (55296 ≤ unitM s 1 k ∧ unitM s 1 k ≤ 57343) := hb3'
          have hw5 : IntKind.i32.wrap 65533 = 65533 := by decide
          have hwx : IntKind.i32.wrap (unitM s 1 k) = unitM s 1 k := by rw [IntKind.wrap_i32]; omega
          generalize unitM s 1 k = x at *
          repeat' (first | ((with_reducible refine Br.dec (fun _ => ?_) (fun _ => ?_)) <;> try (exfalso; omega)) | ((with_reducible refine Br.eq (fun _ => ?_) (fun _ => ?_)) <;> try (exfalso; omega)) | ((with_reducible refine Br.ne (fun _ => ?_) (fun _ => ?_)) <;> try (exfalso; omega)) | with_reducible refine Br.intro (fun _ => ?_) (fun _ => ?_) | (with_reducible apply pcallE.of; · exact between_ok _ _ _) | (refine A.app S (by simp; omega) (by simp; omega) (fun a' h3 A' S' => ?_)) | (with_reducible refine And.intro ?_ ?_; · omega) | simp -dsimp -implicitDefEqProofs (disch := omega) only [↓vcOps_sp 72, ↓vcD_sp 72, VCA, pg_gl, ↓upd_none, Nat.reduceEqDiff, Nat.reduceBEq, Nat.reduceAdd, Nat.reduceSub, Nat.reduceMul, Nat.reduceLT, Nat.reduceLeDiff, ↓reduceIte, reduceCtorEq, rsOf, rootsOf, SOp.rd, SI.rd, SX.rd, rdL, rdO, rdP, okParts, eqCells, okEqCells, fillA, okFill, setAt, implies_true, forall_const, forall_eq, ne_eq, exists_eq_right_right, exists_eq_right, exists_eq_left, exists_eq_left', eRune, he0, he1, he7, he8, ea, eb1, eb2, i1, hxv, hb1', hb2', hb3', hw5, hwx])
          all_goals first
            | (refine ⟨_, ?_, 2 * k + 2, _, out ++ [fixR x], rfl, by omega, rfl, by omega, ?_, S', .inl ⟨k + 1, by omega, ?_⟩⟩
               · omega
               · rw [List.map_append]
                 refine Eq.mp (congrArg (fun z => Acc h Ti 1 (out.map eRune ++ [[.int .i32 z]]) a' h3) ?_) A'
                 unfold fixR
                 rw [hx3]
                 first | rw [if_pos (decide_eq_true (by omega))] | rw [if_neg (by simp; omega)]
               · rw [hsn, if_neg (by omega)]
                 first | rw [if_pos (by omega)] | rw [if_neg (by omega)])
            | skip
          have hpos := List.length_pos_iff.2 (hinv.1 (by assumption)).1
          have hhg := (hinv.1 (by assumption)).2
          unfold hiH at hhg
          obtain ⟨r, hr0, hr1, rfl⟩ := A.pos (by simpa using hpos)
          have hln : ((out.map eRune).length : Int) = out.length := by simp
          have hwc : IntKind.i32.wrap (65536 + 1024 * (hg - 55296) + x - 56320) = 65536 + 1024 * (hg - 55296) + x - 56320 := by rw [IntKind.wrap_i32]; omega
          simp -dsimp -implicitDefEqProofs (disch := omega) only [↓vcOps_sp 72, ↓vcD_sp 72, VCA, pg_gl, ↓upd_none, Nat.reduceEqDiff, Nat.reduceBEq, Nat.reduceAdd, Nat.reduceSub, Nat.reduceMul, Nat.reduceLT, Nat.reduceLeDiff, ↓reduceIte, reduceCtorEq, rsOf, rootsOf, SOp.rd, SI.rd, SX.rd, rdL, rdO, rdP, okParts, eqCells, okEqCells, fillA, okFill, setAt, implies_true, forall_const, forall_eq, ne_eq, exists_eq_right_right, exists_eq_right, exists_eq_left, exists_eq_left', eRune, he0, he1, he8, ea, hr1, hwc]
          refine ⟨by omega, by omega, _, ?_, 2 * k + 2, -1, out.dropLast ++ [65536 + 1024 * (hg - 55296) + x - 56320], rfl, by omega, rfl, by omega, ?_, S.upd hr0, .inl ⟨k + 1, by omega, ?_⟩⟩
          · omega
          · have hn : ((out.length : Int) - 1).toNat = out.length - 1 := by omega
            refine .inr ⟨r, hr0, ?_, ?_⟩
            · rw [upd_same, hn, List.map_append, List.map_dropLast]
              have := set_last (out.map eRune) (by simpa using hpos) (eRune (65536 + 1024 * (hg - 55296) + x - 56320))
              rw [List.length_map] at this
              rw [List.map_cons, List.map_nil, ← this]
              rfl
            · rw [List.length_map, List.length_append, List.length_dropLast, List.length_singleton]
              have : out.length - 1 + 1 = out.length := by omega
              rw [this]
          · rw [hsn, if_pos (by omega)]
    · simp -dsimp -implicitDefEqProofs (disch := omega) only [↓vcOps_sp 72, ↓vcD_sp 72, VCA, pg_gl, ↓upd_none, Nat.reduceEqDiff, Nat.reduceBEq, Nat.reduceAdd, Nat.reduceSub, Nat.reduceMul, Nat.reduceLT, Nat.reduceLeDiff, ↓reduceIte, reduceCtorEq, rsOf, rootsOf, SOp.rd, SI.rd, SX.rd, rdL, rdO, rdP, okParts, eqCells, okEqCells, fillA, okFill, setAt, implies_true, forall_const, forall_eq, ne_eq, exists_eq_right_right, exists_eq_right, exists_eq_left, exists_eq_left', eRune, he0, he1, he7, he8, ea]
      repeat' (first | ((with_reducible refine Br.dec (fun _ => ?_) (fun _ => ?_)) <;> try (exfalso; omega)) | ((with_reducible refine Br.eq (fun _ => ?_) (fun _ => ?_)) <;> try (exfalso; omega)) | ((with_reducible refine Br.ne (fun _ => ?_) (fun _ => ?_)) <;> try (exfalso; omega)) | with_reducible refine Br.intro (fun _ => ?_) (fun _ => ?_) | (with_reducible refine And.intro ?_ ?_; · omega) | simp -dsimp -implicitDefEqProofs (disch := omega) only [↓vcOps_sp 72, ↓vcD_sp 72, VCA, pg_gl, ↓upd_none, Nat.reduceEqDiff, Nat.reduceBEq, Nat.reduceAdd, Nat.reduceSub, Nat.reduceMul, Nat.reduceLT, Nat.reduceLeDiff, ↓reduceIte, reduceCtorEq, rsOf, rootsOf, SOp.rd, SI.rd, SX.rd, rdL, rdO, rdP, okParts, eqCells, okEqCells, fillA, okFill, setAt, implies_true, forall_const, forall_eq, ne_eq, exists_eq_right_right, exists_eq_right, exists_eq_left, exists_eq_left', eRune, he0, he1, he7, he8, ea])
      have hur := unitsM_r s hi
      have hpr := pairM_r (unitsM s hi) hur.2 _ (Nat.le_refl _)
      have hq := (refM_eq _ (unitsM s hi) (Nat.le_refl _) hur.2).1 []
      rw [List.nil_append] at hq
      have ho : out = (pairM (unitsM s hi)).map fixR ++ (if s.length % 2 = 1 then [65533] else []) := by
        rcases hC with ⟨k, hk, hR⟩ | ⟨_, h1, h2⟩
        · rw [List.take_of_length_le (by omega)] at hR
          rw [hR] at hq
          rw [if_neg (by omega), List.append_nil]; exact hq
        · rw [h2, hq, if_pos h1]
      have hxr : ∀ x ∈ out, 0 ≤ x ∧ x < 1114112 := by
        intro x hx
        rw [ho] at hx
        rcases List.mem_append.1 hx with hx | hx
        · obtain ⟨y, hy, rfl⟩ := List.mem_map.1 hx
          have := hpr.2 y hy
          unfold fixR; split <;> omega
        · split at hx
          · simp at hx; omega
          · simp at hx
      have hol : out.length ≤ s.length + 1 := by
        rw [ho]; simp only [List.length_append, List.length_map]
        have := hur.1
        split <;> simp <;> omega
      refine Acc.lend A (refEncode_ok out (fun x hx => by have := hxr x hx; omega) (by omega)) (.str _) ?_
      have he : encM out = (fromM s (hi + 2)).1 := by rw [hr, ho, encM_append, enc_fix, ← encM_append]
      rw [he]
      have h0 : (fromM s (hi + 2)).2 = 0 := by rw [hr]
      rw [h0]
      simp -dsimp -implicitDefEqProofs (disch := omega) only [↓vcOps_sp 72, ↓vcD_sp 72, VCA, pg_gl, ↓upd_none, Nat.reduceEqDiff, Nat.reduceBEq, Nat.reduceAdd, Nat.reduceSub, Nat.reduceMul, Nat.reduceLT, Nat.reduceLeDiff, ↓reduceIte, reduceCtorEq, rsOf, rootsOf, SOp.rd, SI.rd, SX.rd, rdL, rdO, rdP, okParts, eqCells, okEqCells, fillA, okFill, setAt, implies_true, forall_const, forall_eq, ne_eq, exists_eq_right_right, exists_eq_right, exists_eq_left, exists_eq_left', eRune]
      exact S
  · have hb : (decide ((0 : Int) ≤ 4) && decide ((4 : Int) ≤ 4)) = true := by decide
    refine dcalls_of_vc Try.func47 hn47 hc47 (by rw [Try.ntmps47]; simp) (by rw [Try.ntmps47]; decide) ?_
    simp -dsimp -implicitDefEqProofs (disch := omega) only [↓vcOps_sp 72, ↓vcD_sp 72, VCA, pg_gl, ↓upd_none, Nat.reduceEqDiff, Nat.reduceBEq, Nat.reduceAdd, Nat.reduceSub, Nat.reduceMul, Nat.reduceLT, Nat.reduceLeDiff, ↓reduceIte, reduceCtorEq, rsOf, rootsOf, SOp.rd, SI.rd, SX.rd, rdL, rdO, rdP, okParts, eqCells, okEqCells, fillA, okFill, setAt, implies_true, forall_const, forall_eq, ne_eq, exists_eq_right_right, exists_eq_right, exists_eq_left, exists_eq_left', eRune, c47]
    repeat' (first | ((with_reducible refine Br.dec (fun _ => ?_) (fun _ => ?_)) <;> try (exfalso; omega)) | ((with_reducible refine Br.eq (fun _ => ?_) (fun _ => ?_)) <;> try (exfalso; omega)) | ((with_reducible refine Br.ne (fun _ => ?_) (fun _ => ?_)) <;> try (exfalso; omega)) | with_reducible refine Br.intro (fun _ => ?_) (fun _ => ?_) | (with_reducible apply pcallE.of; · exact between_ok _ _ _) | (with_reducible refine And.intro ?_ ?_; · omega) | simp -dsimp -implicitDefEqProofs (disch := omega) only [↓vcOps_sp 72, ↓vcD_sp 72, VCA, pg_gl, ↓upd_none, Nat.reduceEqDiff, Nat.reduceBEq, Nat.reduceAdd, Nat.reduceSub, Nat.reduceMul, Nat.reduceLT, Nat.reduceLeDiff, ↓reduceIte, reduceCtorEq, rsOf, rootsOf, SOp.rd, SI.rd, SX.rd, rdL, rdO, rdP, okParts, eqCells, okEqCells, fillA, okFill, setAt, implies_true, forall_const, forall_eq, ne_eq, exists_eq_right_right, exists_eq_right, exists_eq_left, exists_eq_left', eRune, hb, Bool.not_true])
    · rw [show fromM s 4 = ([], 2) from by unfold fromM; rw [if_neg (by omega), if_pos (by omega)]]
      exact ⟨Sub.refl _, rfl⟩
    · have hr : fromM s 4 = (encM (latM s), 0) := by unfold fromM fromL; rw [if_neg (by omega), if_neg (by omega), if_neg (by omega), if_pos rfl]
      have hL := latM_r s
      refine LoopVC.intro (fun m e h' => ∃ k : Nat, m = s.length - k ∧ k ≤ s.length ∧ e 0 = .str s ∧ e 1 = aInt 4 ∧ e 8 = aInt k ∧ Acc h Ti 1 ((latM (s.take k)).map eRune) (e 6) h' ∧ Sub h h') _ ⟨0, rfl, by omega, rfl, rfl, rfl, Acc.nil, Sub.refl _⟩ ?_
      rintro m e h' ⟨k, rfl, hk, he0, he1, he8, A, S⟩
      generalize ea : e 6 = a at A
      have hbk := bt_byte s k
      have ebk : ((s.getD k 0).toNat : Int) = bt s k := rfl
      have hw : IntKind.i32.wrap (bt s k) = bt s k := by rw [IntKind.wrap_i32]; omega
      have hlk : (latM (s.take k)).length = k := by rw [(latM_r _).1, List.length_take]; omega
      simp -dsimp -implicitDefEqProofs (disch := omega) only [↓vcOps_sp 72, ↓vcD_sp 72, VCA, pg_gl, ↓upd_none, Nat.reduceEqDiff, Nat.reduceBEq, Nat.reduceAdd, Nat.reduceSub, Nat.reduceMul, Nat.reduceLT, Nat.reduceLeDiff, ↓reduceIte, reduceCtorEq, rsOf, rootsOf, SOp.rd, SI.rd, SX.rd, rdL, rdO, rdP, okParts, eqCells, okEqCells, fillA, okFill, setAt, implies_true, forall_const, forall_eq, ne_eq, exists_eq_right_right, exists_eq_right, exists_eq_left, exists_eq_left', eRune, he0, he1, he8, ea, ebk, hw]
      repeat' (first | ((with_reducible refine Br.dec (fun _ => ?_) (fun _ => ?_)) <;> try (exfalso; omega)) | ((with_reducible refine Br.eq (fun _ => ?_) (fun _ => ?_)) <;> try (exfalso; omega)) | ((with_reducible refine Br.ne (fun _ => ?_) (fun _ => ?_)) <;> try (exfalso; omega)) | with_reducible refine Br.intro (fun _ => ?_) (fun _ => ?_) | (refine A.app S (by simp [hlk]; omega) (by simp [hlk]; omega) (fun a' h3 A' S' => ?_)) | (with_reducible refine And.intro ?_ ?_; · omega) | simp -dsimp -implicitDefEqProofs (disch := omega) only [↓vcOps_sp 72, ↓vcD_sp 72, VCA, pg_gl, ↓upd_none, Nat.reduceEqDiff, Nat.reduceBEq, Nat.reduceAdd, Nat.reduceSub, Nat.reduceMul, Nat.reduceLT, Nat.reduceLeDiff, ↓reduceIte, reduceCtorEq, rsOf, rootsOf, SOp.rd, SI.rd, SX.rd, rdL, rdO, rdP, okParts, eqCells, okEqCells, fillA, okFill, setAt, implies_true, forall_const, forall_eq, ne_eq, exists_eq_right_right, exists_eq_right, exists_eq_left, exists_eq_left', eRune, he0, he1, he8, ea, ebk, hw])
      · refine ⟨_, ?_, k + 1, rfl, by omega, by omega, ?_, S'⟩
        · omega
        · rw [lat_snoc (by omega), List.map_append]; exact A'
      · have hkl : k = s.length := by omega
        subst hkl
        rw [List.take_length] at A
        refine Acc.lend A (refEncode_ok (latM s) (fun x hx => by have := hL.2 x hx; omega) (by omega)) (.str _) ?_
        rw [hr]
        simp -dsimp -implicitDefEqProofs (disch := omega) only [↓vcOps_sp 72, ↓vcD_sp 72, VCA, pg_gl, ↓upd_none, Nat.reduceEqDiff, Nat.reduceBEq, Nat.reduceAdd, Nat.reduceSub, Nat.reduceMul, Nat.reduceLT, Nat.reduceLeDiff, ↓reduceIte, reduceCtorEq, rsOf, rootsOf, SOp.rd, SI.rd, SX.rd, rdL, rdO, rdP, okParts, eqCells, okEqCells, fillA, okFill, setAt, implies_true, forall_const, forall_eq, ne_eq, exists_eq_right_right, exists_eq_right, exists_eq_left, exists_eq_left', eRune]
        exact S

def c9 : SFun := ⟨(.seq (.reg [⟨(some 4), (.mv (.c (.bool false))), none⟩]) (.seq (.reg [⟨(some 16), (.mv (.t 0)), none⟩, ⟨(some 17), (.pcall 44 [(.t 16)]), none⟩, ⟨(some 15), (.mv (.t 17)), none⟩, ⟨(some 18), (.ext (.t 15) 0), none⟩, ⟨(some 19), (.ext (.t 15) 1), none⟩, ⟨(some 5), (.mv (.t 18)), none⟩, ⟨(some 6), (.mv (.t 19)), none⟩]) (.seq (.reg [⟨(some 21), (.mv (.t 0)), none⟩, ⟨(some 22), (.pcall 45 [(.t 21)]), none⟩, ⟨(some 20), (.mv (.t 22)), none⟩, ⟨(some 23), (.ext (.t 20) 0), none⟩, ⟨(some 24), (.ext (.t 20) 1), none⟩, ⟨(some 7), (.mv (.t 23)), none⟩, ⟨(some 8), (.mv (.t 24)), none⟩]) (.seq (.reg [⟨(some 26), (.mv (.t 0)), none⟩, ⟨(some 27), (.mv (.t 1)), none⟩, ⟨(some 28), (.pcall 46 [(.t 26), (.t 27)]), none⟩, ⟨(some 25), (.mv (.t 28)), none⟩, ⟨(some 29), (.ext (.t 25) 0), none⟩, ⟨(some 30), (.ext (.t 25) 1), none⟩, ⟨(some 9), (.mv (.t 29)), none⟩, ⟨(some 10), (.mv (.t 30)), none⟩]) (.seq (.reg [⟨(some 32), (.mv (.t 0)), none⟩, ⟨(some 33), (.mv (.t 1)), none⟩, ⟨(some 34), (.pcall 47 [(.t 32), (.t 33)]), none⟩, ⟨(some 31), (.mv (.t 34)), none⟩, ⟨(some 35), (.ext (.t 31) 0), none⟩, ⟨(some 36), (.ext (.t 31) 1), none⟩, ⟨(some 11), (.mv (.t 35)), none⟩, ⟨(some 12), (.mv (.t 36)), none⟩]) (.seq (.reg [⟨(some 38), (.pcall 46 [(.c (.str [])), (.c (.int .i64 (5)))]), none⟩, ⟨(some 37), (.mv (.t 38)), none⟩, ⟨(some 39), (.ext (.t 37) 0), none⟩, ⟨(some 40), (.ext (.t 37) 1), none⟩, ⟨(some 13), (.mv (.t 39)), none⟩, ⟨(some 14), (.mv (.t 40)), none⟩]) (.seq (.reg [⟨(some 41), (.pcall 19 []), none⟩, ⟨(some 42), (.mv (.t 41)), none⟩, ⟨(some 43), (.mv (.t 14)), (some (42, true))⟩, ⟨(some 44), (.bin .eql (.t 43) (.c (.int .i64 (1)))), (some (42, true))⟩, ⟨(some 45), (.pick (.t 42) (.t 44) (.c (.bool false))), none⟩, ⟨(some 46), (.mv (.t 45)), none⟩, ⟨(some 47), (.mv (.t 5)), (some (46, true))⟩, ⟨(some 48), (.mv (.t 7)), (some (46, true))⟩, ⟨(some 49), (.bin .eql (.t 47) (.t 48)), (some (46, true))⟩, ⟨(some 50), (.pick (.t 46) (.t 49) (.c (.bool false))), none⟩, ⟨(some 51), (.mv (.t 50)), none⟩, ⟨(some 52), (.mv (.t 6)), (some (51, true))⟩, ⟨(some 53), (.mv (.t 8)), (some (51, true))⟩, ⟨(some 54), (.bin .eql (.t 52) (.t 53)), (some (51, true))⟩, ⟨(some 55), (.pick (.t 51) (.t 54) (.c (.bool false))), none⟩, ⟨(some 56), (.mv (.t 55)), none⟩, ⟨(some 57), (.mv (.t 9)), (some (56, true))⟩, ⟨(some 58), (.mv (.t 11)), (some (56, true))⟩, ⟨(some 59), (.bin .eql (.t 57) (.t 58)), (some (56, true))⟩, ⟨(some 60), (.pick (.t 56) (.t 59) (.c (.bool false))), none⟩, ⟨(some 61), (.mv (.t 60)), none⟩, ⟨(some 62), (.mv (.t 10)), (some (61, true))⟩, ⟨(some 63), (.mv (.t 12)), (some (61, true))⟩, ⟨(some 64), (.bin .eql (.t 62) (.t 63)), (some (61, true))⟩, ⟨(some 65), (.pick (.t 61) (.t 64) (.c (.bool false))), none⟩, ⟨(some 4), (.mv (.t 65)), none⟩]) .ret))))))), [(.tmp 4)]⟩
theorem hc9 : toSF Try.prog {pure := [44, 45, 46, 47, 19]} Try.f9 = some c9 := by kernel_rfl
theorem hn9 : (Try.f9.name == "runtime.NumGoroutine") = false := by kernel_rfl
theorem kinds_ok (s : List UInt8) (kind : Int) (hs : s.length ≤ 1048576) : PCalls (Pg G) 9 [.str s, aInt kind] (.bool true) := fun h => by
  refine dcalls_of_vc Try.func9 hn9 hc9 (by rw [Try.ntmps9]; simp) (by rw [Try.ntmps9]; decide) ?_
  simp -dsimp -implicitDefEqProofs (disch := omega) only [↓vcOps_sp 42, ↓vcD_sp 42, ↓vcOps_sp 46, ↓vcD_sp 46, ↓vcOps_sp 51, ↓vcD_sp 51, ↓vcOps_sp 56, ↓vcD_sp 56, ↓vcOps_sp 61, ↓vcD_sp 61, VCA, pg_gl, ↓upd_none, Nat.reduceEqDiff, Nat.reduceBEq, Nat.reduceAdd, Nat.reduceSub, Nat.reduceMul, Nat.reduceLT, Nat.reduceLeDiff, ↓reduceIte, reduceCtorEq, rsOf, rootsOf, SOp.rd, SI.rd, SX.rd, rdL, rdO, rdP, okParts, eqCells, okEqCells, fillA, okFill, setAt, implies_true, forall_const, forall_eq, ne_eq, exists_eq_right_right, exists_eq_right, exists_eq_left, exists_eq_left', eRune, c9]
  refine pcallE.of (sniff_ok s (by omega)) ?_; simp -dsimp -implicitDefEqProofs (disch := omega) only [↓vcOps_sp 42, ↓vcD_sp 42, ↓vcOps_sp 46, ↓vcD_sp 46, ↓vcOps_sp 51, ↓vcD_sp 51, ↓vcOps_sp 56, ↓vcD_sp 56, ↓vcOps_sp 61, ↓vcD_sp 61, VCA, pg_gl, ↓upd_none, Nat.reduceEqDiff, Nat.reduceBEq, Nat.reduceAdd, Nat.reduceSub, Nat.reduceMul, Nat.reduceLT, Nat.reduceLeDiff, ↓reduceIte, reduceCtorEq, rsOf, rootsOf, SOp.rd, SI.rd, SX.rd, rdL, rdO, rdP, okParts, eqCells, okEqCells, fillA, okFill, setAt, implies_true, forall_const, forall_eq, ne_eq, exists_eq_right_right, exists_eq_right, exists_eq_left, exists_eq_left', eRune]
  refine pcallE.of (refSniff_ok s (by omega)) ?_; simp -dsimp -implicitDefEqProofs (disch := omega) only [↓vcOps_sp 42, ↓vcD_sp 42, ↓vcOps_sp 46, ↓vcD_sp 46, ↓vcOps_sp 51, ↓vcD_sp 51, ↓vcOps_sp 56, ↓vcD_sp 56, ↓vcOps_sp 61, ↓vcD_sp 61, VCA, pg_gl, ↓upd_none, Nat.reduceEqDiff, Nat.reduceBEq, Nat.reduceAdd, Nat.reduceSub, Nat.reduceMul, Nat.reduceLT, Nat.reduceLeDiff, ↓reduceIte, reduceCtorEq, rsOf, rootsOf, SOp.rd, SI.rd, SX.rd, rdL, rdO, rdP, okParts, eqCells, okEqCells, fillA, okFill, setAt, implies_true, forall_const, forall_eq, ne_eq, exists_eq_right_right, exists_eq_right, exists_eq_left, exists_eq_left', eRune]
  refine pcallE.of (from_ok s kind hs) ?_; simp -dsimp -implicitDefEqProofs (disch := omega) only [↓vcOps_sp 42, ↓vcD_sp 42, ↓vcOps_sp 46, ↓vcD_sp 46, ↓vcOps_sp 51, ↓vcD_sp 51, ↓vcOps_sp 56, ↓vcD_sp 56, ↓vcOps_sp 61, ↓vcD_sp 61, VCA, pg_gl, ↓upd_none, Nat.reduceEqDiff, Nat.reduceBEq, Nat.reduceAdd, Nat.reduceSub, Nat.reduceMul, Nat.reduceLT, Nat.reduceLeDiff, ↓reduceIte, reduceCtorEq, rsOf, rootsOf, SOp.rd, SI.rd, SX.rd, rdL, rdO, rdP, okParts, eqCells, okEqCells, fillA, okFill, setAt, implies_true, forall_const, forall_eq, ne_eq, exists_eq_right_right, exists_eq_right, exists_eq_left, exists_eq_left', eRune]
  refine pcallE.of (refFrom_ok s kind hs) ?_; simp -dsimp -implicitDefEqProofs (disch := omega) only [↓vcOps_sp 42, ↓vcD_sp 42, ↓vcOps_sp 46, ↓vcD_sp 46, ↓vcOps_sp 51, ↓vcD_sp 51, ↓vcOps_sp 56, ↓vcD_sp 56, ↓vcOps_sp 61, ↓vcD_sp 61, VCA, pg_gl, ↓upd_none, Nat.reduceEqDiff, Nat.reduceBEq, Nat.reduceAdd, Nat.reduceSub, Nat.reduceMul, Nat.reduceLT, Nat.reduceLeDiff, ↓reduceIte, reduceCtorEq, rsOf, rootsOf, SOp.rd, SI.rd, SX.rd, rdL, rdO, rdP, okParts, eqCells, okEqCells, fillA, okFill, setAt, implies_true, forall_const, forall_eq, ne_eq, exists_eq_right_right, exists_eq_right, exists_eq_left, exists_eq_left', eRune]
  refine pcallE.of (from_ok [] 5 (by simp)) ?_; simp -dsimp -implicitDefEqProofs (disch := omega) only [↓vcOps_sp 42, ↓vcD_sp 42, ↓vcOps_sp 46, ↓vcD_sp 46, ↓vcOps_sp 51, ↓vcD_sp 51, ↓vcOps_sp 56, ↓vcD_sp 56, ↓vcOps_sp 61, ↓vcD_sp 61, VCA, pg_gl, ↓upd_none, Nat.reduceEqDiff, Nat.reduceBEq, Nat.reduceAdd, Nat.reduceSub, Nat.reduceMul, Nat.reduceLT, Nat.reduceLeDiff, ↓reduceIte, reduceCtorEq, rsOf, rootsOf, SOp.rd, SI.rd, SX.rd, rdL, rdO, rdP, okParts, eqCells, okEqCells, fillA, okFill, setAt, implies_true, forall_const, forall_eq, ne_eq, exists_eq_right_right, exists_eq_right, exists_eq_left, exists_eq_left', eRune]
  refine pcallE.of (charsBegun_ok) ?_; simp -dsimp -implicitDefEqProofs (disch := omega) only [↓vcOps_sp 42, ↓vcD_sp 42, ↓vcOps_sp 46, ↓vcD_sp 46, ↓vcOps_sp 51, ↓vcD_sp 51, ↓vcOps_sp 56, ↓vcD_sp 56, ↓vcOps_sp 61, ↓vcD_sp 61, VCA, pg_gl, ↓upd_none, Nat.reduceEqDiff, Nat.reduceBEq, Nat.reduceAdd, Nat.reduceSub, Nat.reduceMul, Nat.reduceLT, Nat.reduceLeDiff, ↓reduceIte, reduceCtorEq, rsOf, rootsOf, SOp.rd, SI.rd, SX.rd, rdL, rdO, rdP, okParts, eqCells, okEqCells, fillA, okFill, setAt, implies_true, forall_const, forall_eq, ne_eq, exists_eq_right_right, exists_eq_right, exists_eq_left, exists_eq_left', eRune]
  have e : fromM [] 5 = ([], 1) := rfl
  rw [e]
  repeat' (first | ((with_reducible refine Br.dec (fun _ => ?_) (fun _ => ?_)) <;> try (exfalso; omega)) | ((with_reducible refine Br.eq (fun _ => ?_) (fun _ => ?_)) <;> try (exfalso; omega)) | ((with_reducible refine Br.ne (fun _ => ?_) (fun _ => ?_)) <;> try (exfalso; omega)) | with_reducible refine Br.intro (fun _ => ?_) (fun _ => ?_) | (with_reducible refine And.intro ?_ ?_; · omega) | simp -dsimp -implicitDefEqProofs (disch := omega) only [↓vcOps_sp 42, ↓vcD_sp 42, ↓vcOps_sp 46, ↓vcD_sp 46, ↓vcOps_sp 51, ↓vcD_sp 51, ↓vcOps_sp 56, ↓vcD_sp 56, ↓vcOps_sp 61, ↓vcD_sp 61, VCA, pg_gl, ↓upd_none, Nat.reduceEqDiff, Nat.reduceBEq, Nat.reduceAdd, Nat.reduceSub, Nat.reduceMul, Nat.reduceLT, Nat.reduceLeDiff, ↓reduceIte, reduceCtorEq, rsOf, rootsOf, SOp.rd, SI.rd, SX.rd, rdL, rdO, rdP, okParts, eqCells, okEqCells, fillA, okFill, setAt, implies_true, forall_const, forall_eq, ne_eq, exists_eq_right_right, exists_eq_right, exists_eq_left, exists_eq_left', eRune])
  all_goals first | exact ⟨Sub.refl _, by simp⟩ | exact absurd rfl (by assumption)
end Go.Proofs.K
