/- The document's decoding is the program's. -/
import Derived.Test.YtlehoolkjkdncaaDoorDec
set_option linter.unusedSimpArgs false
set_option linter.unusedVariables false
namespace Go.Proofs.K
open Go Go.Sim Go.Proofs
variable {G : Glob}

def longM (b : Int) : Nat := if b < 128 then 1 else if b < 224 then 2 else if b < 240 then 3 else 4
def c23 : SFun := ⟨(.seq (.reg [⟨(some 2), (.mv (.c (.int .i64 (0)))), none⟩]) (.seq (.seq (.reg [⟨(some 3), (.mv (.t 0)), none⟩, ⟨(some 4), (.bin .lss (.t 3) (.c (.int .i64 (128)))), none⟩]) (.cond (.t 4) (.seq (.reg [⟨(some 2), (.mv (.c (.int .i64 (1)))), none⟩]) .ret) .skip)) (.seq (.seq (.reg [⟨(some 5), (.mv (.t 0)), none⟩, ⟨(some 6), (.bin .lss (.t 5) (.c (.int .i64 (224)))), none⟩]) (.cond (.t 6) (.seq (.reg [⟨(some 2), (.mv (.c (.int .i64 (2)))), none⟩]) .ret) .skip)) (.seq (.seq (.reg [⟨(some 7), (.mv (.t 0)), none⟩, ⟨(some 8), (.bin .lss (.t 7) (.c (.int .i64 (240)))), none⟩]) (.cond (.t 8) (.seq (.reg [⟨(some 2), (.mv (.c (.int .i64 (3)))), none⟩]) .ret) .skip)) (.seq (.reg [⟨(some 2), (.mv (.c (.int .i64 (4)))), none⟩]) .ret))))), [(.tmp 2)]⟩
theorem hc23 : toSF Tryd.prog {} Tryd.f23 = some c23 := by kernel_rfl
theorem hn23 : (Tryd.f23.name == "runtime.NumGoroutine") = false := by kernel_rfl
theorem longOf_ok (b : Int) : PCalls (Pg G) 23 [aInt b] (aInt (longM b)) := fun h => by
  refine dcalls_of_vc Tryd.func23 hn23 hc23 (by rw [Tryd.ntmps23]; simp) (by rw [Tryd.ntmps23]; decide) ?_
  simp -dsimp -implicitDefEqProofs (disch := omega) only [VCA, pg_gl, ↓upd_none, Nat.reduceEqDiff, Nat.reduceBEq, Nat.reduceAdd, Nat.reduceSub, Nat.reduceMul, Nat.reduceLT, Nat.reduceLeDiff, ↓reduceIte, reduceCtorEq, rsOf, rootsOf, SOp.rd, SI.rd, SX.rd, rdL, rdO, rdP, okParts, eqCells, okEqCells, fillA, okFill, setAt, implies_true, forall_const, forall_eq, ne_eq, exists_eq_right_right, exists_eq_right, exists_eq_left, exists_eq_left', eRune, c23]
  repeat' (first | ((with_reducible refine Br.dec (fun _ => ?_) (fun _ => ?_)) <;> try (exfalso; omega)) | ((with_reducible refine Br.eq (fun _ => ?_) (fun _ => ?_)) <;> try (exfalso; omega)) | ((with_reducible refine Br.ne (fun _ => ?_) (fun _ => ?_)) <;> try (exfalso; omega)) | with_reducible refine Br.intro (fun _ => ?_) (fun _ => ?_) | (with_reducible refine And.intro ?_ ?_; · omega) | simp -dsimp -implicitDefEqProofs (disch := omega) only [VCA, pg_gl, ↓upd_none, Nat.reduceEqDiff, Nat.reduceBEq, Nat.reduceAdd, Nat.reduceSub, Nat.reduceMul, Nat.reduceLT, Nat.reduceLeDiff, ↓reduceIte, reduceCtorEq, rsOf, rootsOf, SOp.rd, SI.rd, SX.rd, rdL, rdO, rdP, okParts, eqCells, okEqCells, fillA, okFill, setAt, implies_true, forall_const, forall_eq, ne_eq, exists_eq_right_right, exists_eq_right, exists_eq_left, exists_eq_left', eRune])
  all_goals (refine ⟨Sub.refl _, ?_⟩; unfold longM; repeat' split)
  all_goals first | rfl | omega
def btw (n a b : Int) : Bool := decide (a ≤ n) && decide (n ≤ b)
def mayM (f p b : Int) : Bool :=
  if p = 0 then decide (b < 128) || btw b 194 244
  else if p = 1 ∧ f = 224 then btw b 160 191
  else if p = 1 ∧ f = 237 then btw b 128 159
  else if p = 1 ∧ f = 240 then btw b 144 191
  else if p = 1 ∧ f = 244 then btw b 128 143
  else btw b 128 191
def c24 : SFun := ⟨(.seq (.reg [⟨(some 6), (.mv (.c (.bool false))), none⟩]) (.seq (.seq (.reg [⟨(some 7), (.mv (.t 1)), none⟩, ⟨(some 8), (.bin .eql (.t 7) (.c (.int .i64 (0)))), none⟩]) (.cond (.t 8) (.seq (.reg [⟨(some 9), (.mv (.t 2)), none⟩, ⟨(some 10), (.bin .lss (.t 9) (.c (.int .i64 (128)))), none⟩, ⟨(some 11), (.mv (.t 10)), none⟩, ⟨(some 12), (.mv (.t 2)), (some (11, false))⟩, ⟨(some 13), (.pcall 25 [(.t 12), (.c (.int .i64 (194))), (.c (.int .i64 (244)))]), (some (11, false))⟩, ⟨(some 14), (.pick (.t 11) (.c (.bool true)) (.t 13)), none⟩, ⟨(some 6), (.mv (.t 14)), none⟩]) .ret) .skip)) (.seq (.seq (.reg [⟨(some 15), (.mv (.t 1)), none⟩, ⟨(some 16), (.bin .eql (.t 15) (.c (.int .i64 (1)))), none⟩, ⟨(some 17), (.mv (.t 16)), none⟩, ⟨(some 18), (.mv (.t 0)), (some (17, true))⟩, ⟨(some 19), (.bin .eql (.t 18) (.c (.int .i64 (224)))), (some (17, true))⟩, ⟨(some 20), (.pick (.t 17) (.t 19) (.c (.bool false))), none⟩]) (.cond (.t 20) (.seq (.reg [⟨(some 21), (.mv (.t 2)), none⟩, ⟨(some 22), (.pcall 25 [(.t 21), (.c (.int .i64 (160))), (.c (.int .i64 (191)))]), none⟩, ⟨(some 6), (.mv (.t 22)), none⟩]) .ret) .skip)) (.seq (.seq (.reg [⟨(some 23), (.mv (.t 1)), none⟩, ⟨(some 24), (.bin .eql (.t 23) (.c (.int .i64 (1)))), none⟩, ⟨(some 25), (.mv (.t 24)), none⟩, ⟨(some 26), (.mv (.t 0)), (some (25, true))⟩, ⟨(some 27), (.bin .eql (.t 26) (.c (.int .i64 (237)))), (some (25, true))⟩, ⟨(some 28), (.pick (.t 25) (.t 27) (.c (.bool false))), none⟩]) (.cond (.t 28) (.seq (.reg [⟨(some 29), (.mv (.t 2)), none⟩, ⟨(some 30), (.pcall 25 [(.t 29), (.c (.int .i64 (128))), (.c (.int .i64 (159)))]), none⟩, ⟨(some 6), (.mv (.t 30)), none⟩]) .ret) .skip)) (.seq (.seq (.reg [⟨(some 31), (.mv (.t 1)), none⟩, ⟨(some 32), (.bin .eql (.t 31) (.c (.int .i64 (1)))), none⟩, ⟨(some 33), (.mv (.t 32)), none⟩, ⟨(some 34), (.mv (.t 0)), (some (33, true))⟩, ⟨(some 35), (.bin .eql (.t 34) (.c (.int .i64 (240)))), (some (33, true))⟩, ⟨(some 36), (.pick (.t 33) (.t 35) (.c (.bool false))), none⟩]) (.cond (.t 36) (.seq (.reg [⟨(some 37), (.mv (.t 2)), none⟩, ⟨(some 38), (.pcall 25 [(.t 37), (.c (.int .i64 (144))), (.c (.int .i64 (191)))]), none⟩, ⟨(some 6), (.mv (.t 38)), none⟩]) .ret) .skip)) (.seq (.seq (.reg [⟨(some 39), (.mv (.t 1)), none⟩, ⟨(some 40), (.bin .eql (.t 39) (.c (.int .i64 (1)))), none⟩, ⟨(some 41), (.mv (.t 40)), none⟩, ⟨(some 42), (.mv (.t 0)), (some (41, true))⟩, ⟨(some 43), (.bin .eql (.t 42) (.c (.int .i64 (244)))), (some (41, true))⟩, ⟨(some 44), (.pick (.t 41) (.t 43) (.c (.bool false))), none⟩]) (.cond (.t 44) (.seq (.reg [⟨(some 45), (.mv (.t 2)), none⟩, ⟨(some 46), (.pcall 25 [(.t 45), (.c (.int .i64 (128))), (.c (.int .i64 (143)))]), none⟩, ⟨(some 6), (.mv (.t 46)), none⟩]) .ret) .skip)) (.seq (.reg [⟨(some 47), (.mv (.t 2)), none⟩, ⟨(some 48), (.pcall 25 [(.t 47), (.c (.int .i64 (128))), (.c (.int .i64 (191)))]), none⟩, ⟨(some 6), (.mv (.t 48)), none⟩]) .ret))))))), [(.tmp 6)]⟩
theorem hc24 : toSF Tryd.prog {pure := [25]} Tryd.f24 = some c24 := by kernel_rfl
theorem hn24 : (Tryd.f24.name == "runtime.NumGoroutine") = false := by kernel_rfl
theorem mayBe_ok (f p b : Int) : PCalls (Pg G) 24 [aInt f, aInt p, aInt b] (.bool (mayM f p b)) := fun h => by
  refine dcalls_of_vc Tryd.func24 hn24 hc24 (by rw [Tryd.ntmps24]; simp) (by rw [Tryd.ntmps24]; decide) ?_
  simp -dsimp -implicitDefEqProofs (disch := omega) only [↓vcOps_sp 11, ↓vcD_sp 11, ↓vcOps_sp 17, ↓vcD_sp 17, ↓vcOps_sp 25, ↓vcD_sp 25, ↓vcOps_sp 33, ↓vcD_sp 33, ↓vcOps_sp 41, ↓vcD_sp 41, VCA, pg_gl, ↓upd_none, Nat.reduceEqDiff, Nat.reduceBEq, Nat.reduceAdd, Nat.reduceSub, Nat.reduceMul, Nat.reduceLT, Nat.reduceLeDiff, ↓reduceIte, reduceCtorEq, rsOf, rootsOf, SOp.rd, SI.rd, SX.rd, rdL, rdO, rdP, okParts, eqCells, okEqCells, fillA, okFill, setAt, implies_true, forall_const, forall_eq, ne_eq, exists_eq_right_right, exists_eq_right, exists_eq_left, exists_eq_left', eRune, c24]
  repeat' (first | ((with_reducible refine Br.dec (fun _ => ?_) (fun _ => ?_)) <;> try (exfalso; omega)) | ((with_reducible refine Br.eq (fun _ => ?_) (fun _ => ?_)) <;> try (exfalso; omega)) | ((with_reducible refine Br.ne (fun _ => ?_) (fun _ => ?_)) <;> try (exfalso; omega)) | with_reducible refine Br.intro (fun _ => ?_) (fun _ => ?_) | (with_reducible apply pcallE.of; · exact between_ok _ _ _) | (with_reducible refine And.intro ?_ ?_; · omega) | simp -dsimp -implicitDefEqProofs (disch := omega) only [↓vcOps_sp 11, ↓vcD_sp 11, ↓vcOps_sp 17, ↓vcD_sp 17, ↓vcOps_sp 25, ↓vcD_sp 25, ↓vcOps_sp 33, ↓vcD_sp 33, ↓vcOps_sp 41, ↓vcD_sp 41, VCA, pg_gl, ↓upd_none, Nat.reduceEqDiff, Nat.reduceBEq, Nat.reduceAdd, Nat.reduceSub, Nat.reduceMul, Nat.reduceLT, Nat.reduceLeDiff, ↓reduceIte, reduceCtorEq, rsOf, rootsOf, SOp.rd, SI.rd, SX.rd, rdL, rdO, rdP, okParts, eqCells, okEqCells, fillA, okFill, setAt, implies_true, forall_const, forall_eq, ne_eq, exists_eq_right_right, exists_eq_right, exists_eq_left, exists_eq_left', eRune])
  all_goals first | (exfalso; omega) | skip
  all_goals refine ⟨Sub.refl _, ?_⟩
  all_goals simp_all [mayM, btw]
  all_goals omega

/-- the reference's value of the first i bytes of a sign -/
def valM (s : List UInt8) (n : Nat) : Nat → Int
  | 0 => 0
  | 1 => if n = 2 then bt s 0 - 192 else if n = 3 then bt s 0 - 224 else if n = 4 then bt s 0 - 240 else bt s 0
  | i + 2 => 64 * valM s n (i + 1) + bt s (i + 1) - 128
/-- the text's signs, one after the other -/
def decM : Nat → List UInt8 → List Int
  | 0, _ => []
  | f + 1, s => if s = [] then [] else (oneM s).1 :: decM f (s.drop (oneM s).2)
theorem contM_n (s : List UInt8) (m : Nat) : ∀ (f i : Nat) (lo hi n : Int), i + f = m + 1 → 1 ≤ i → i ≤ s.length → 1 ≤ (contM s m f i lo hi n).2 ∧ (contM s m f i lo hi n).2 ≤ s.length
  | 0, i, lo, hi, n, h, h1, h2 => by simp [contM]; omega
  | f + 1, i, lo, hi, n, h, h1, h2 => by
    unfold contM
    split
    · exact ⟨h1, h2⟩
    · exact contM_n s m f (i + 1) _ _ _ (by omega) (by omega) (by omega)
theorem oneM_n {s : List UInt8} (hs : s ≠ []) : 1 ≤ (oneM s).2 ∧ (oneM s).2 ≤ s.length := by
  have hp : 0 < s.length := List.length_pos_iff.2 hs
  unfold oneM
  simp only
  split
  · simp; omega
  · split
    · simp; omega
    · exact contM_n s _ _ _ _ _ _ (by omega) (by omega) (by omega)
theorem contM_r (s : List UInt8) (m : Nat) (hm : m ≤ 3) : ∀ (f i : Nat) (lo hi n : Int), i + f = m + 1 → 0 ≤ n → n < 32 * 64 ^ (i - 1) → 1 ≤ i → 0 ≤ (contM s m f i lo hi n).1 ∧ (contM s m f i lo hi n).1 < 8388608
  | 0, i, lo, hi, n, h, h0, h1, h2 => by
    unfold contM
    rcases (by omega : i = 1 ∨ i = 2 ∨ i = 3 ∨ i = 4) with rfl | rfl | rfl | rfl <;> (simp at h1; omega)
  | f + 1, i, lo, hi, n, h, h0, h1, h2 => by
    unfold contM
    split
    · simp
    · have hb := bt_byte s i
      refine contM_r s m hm f (i + 1) _ _ _ (by omega) (by omega) ?_ (by omega)
      have : 32 * (64 : Int) ^ (i + 1 - 1) = (32 * 64 ^ (i - 1)) * 64 := by
        have : i + 1 - 1 = (i - 1) + 1 := by omega
        rw [this, Int.pow_succ]; omega
      omega
theorem oneM_r (s : List UInt8) : 0 ≤ (oneM s).1 ∧ (oneM s).1 < 8388608 := by
  have hb := bt_byte s 0
  unfold oneM
  simp only
  split
  · simp
  · split
    · simp; omega
    · rename_i h1 h2
      rcases leadM_cases (bt s 0) with h | h | ⟨m, hm1, hm3, h⟩
      · omega
      · omega
      · rw [h, Int.toNat_natCast]
        refine contM_r s m hm3 m 1 _ _ _ (by omega) ?_ ?_ (by omega)
        · rcases (by omega : m = 1 ∨ m = 2 ∨ m = 3) with rfl | rfl | rfl <;> (simp only [Nat.reduceSub]; omega)
        · rcases (by omega : m = 1 ∨ m = 2 ∨ m = 3) with rfl | rfl | rfl <;> (simp only [Nat.reduceSub]; omega)
/-- how far the reference comes: at n bytes, the rest of the program's work is as it says -/
theorem lead_may (b c : Int) (h0 : 0 ≤ b) (h1 : b < 256) : (leadM b).1 = (if mayM b 0 b = true then (longM b : Int) - 1 else -1) ∧ ((2 ≤ longM b ∧ mayM b 0 b = true) → mayM b 1 c = btw c (leadM b).2.1 (leadM b).2.2) ∧ ∀ p, 2 ≤ p → mayM b p c = btw c 128 191 := by
  refine ⟨?_, fun h => ?_, fun p hp => ?_⟩
  · unfold leadM mayM longM btw
    simp only [if_true]
    repeat' split
    all_goals (simp only [Bool.or_eq_true, Bool.and_eq_true, decide_eq_true_eq] at * <;> omega)
  · unfold mayM leadM
    simp only [Int.one_ne_zero, if_false, true_and]
    unfold mayM longM btw at h
    simp only [if_true] at h
    repeat' split
    all_goals first | rfl | (exfalso; simp_all; omega) | (simp_all [btw]; done) | skip
  · unfold mayM
    rw [if_neg (by omega), if_neg (by omega), if_neg (by omega), if_neg (by omega), if_neg (by omega)]
def loAt (s : List UInt8) (n : Nat) : Int := if n = 1 then (leadM (bt s 0)).2.1 else 128
def hiAt (s : List UInt8) (n : Nat) : Int := if n = 1 then (leadM (bt s 0)).2.2 else 191
def lM (s : List UInt8) : Nat := longM (bt s 0)
def At (s : List UInt8) (n : Nat) : Prop := mayM (bt s 0) 0 (bt s 0) = true ∧ oneM s = contM s (lM s - 1) (lM s - n) n (loAt s n) (hiAt s n) (valM s (lM s) n)
theorem lM_ge (s : List UInt8) : 1 ≤ lM s ∧ lM s ≤ 4 := by unfold lM longM; repeat' split
                                                           all_goals omega
theorem at_in {s : List UInt8} (h : mayM (bt s 0) 0 (bt s 0) = true) : At s 1 := by
  have hb := bt_byte s 0
  have hL := (lead_may (bt s 0) 0 hb.1 hb.2).1
  have hg := lM_ge s
  rw [if_pos h] at hL
  refine ⟨h, ?_⟩
  unfold oneM loAt hiAt
  simp only [if_true]
  have hle : (leadM (bt s 0)).1 = ((lM s - 1 : Nat) : Int) := by rw [hL]; unfold lM at *; omega
  rw [if_neg (by omega)]
  by_cases h1 : lM s = 1
  · rw [if_pos (by omega), h1]; rfl
  · rw [if_neg (by omega), hle, Int.toNat_natCast]
    refine congrArg (fun z => contM s (lM s - 1) (lM s - 1) 1 (leadM (bt s 0)).2.1 (leadM (bt s 0)).2.2 z) ?_
    simp only [valM]
    unfold mayM at h
    simp only [if_true, btw, Bool.or_eq_true, Bool.and_eq_true, decide_eq_true_eq] at h
    have hc : lM s = 1 ∧ bt s 0 < 128 ∨ lM s = 2 ∧ 128 ≤ bt s 0 ∧ bt s 0 < 224 ∨ lM s = 3 ∧ 224 ≤ bt s 0 ∧ bt s 0 < 240 ∨ lM s = 4 ∧ 240 ≤ bt s 0 := by
      unfold lM longM; repeat' split
      all_goals omega
    rcases hc with ⟨e, h2⟩ | ⟨e, h2⟩ | ⟨e, h2⟩ | ⟨e, h2⟩
    · omega
    · rw [e]; simp; omega
    · rw [e]; simp; omega
    · rw [e]; simp; omega
theorem at_may {s : List UInt8} {n : Nat} (A : At s n) (h1 : 1 ≤ n) (h2 : n < lM s) : mayM (bt s 0) n (bt s n) = btw (bt s n) (loAt s n) (hiAt s n) := by
  have hb := bt_byte s 0
  obtain ⟨_, q1, q2⟩ := lead_may (bt s 0) (bt s n) hb.1 hb.2
  unfold loAt hiAt
  by_cases h : n = 1
  · subst h; exact q1 ⟨h2, A.1⟩
  · rw [if_neg h, if_neg h]; exact q2 n (by omega)
theorem lead_lo (b : Int) : 128 ≤ (leadM b).2.1 ∧ (leadM b).2.2 ≤ 191 := by
  unfold leadM; repeat' split
  all_goals simp
theorem at_on {s : List UInt8} {n : Nat} (A : At s n) (h1 : 1 ≤ n) (h2 : n < lM s) (h3 : n < s.length) (hm : mayM (bt s 0) n (bt s n) = true) : At s (n + 1) := by
  rw [at_may A h1 h2] at hm
  simp only [btw, Bool.and_eq_true, decide_eq_true_eq] at hm
  refine ⟨A.1, A.2.trans ?_⟩
  have hl := lead_lo (bt s 0)
  have hr : 128 ≤ bt s n ∧ bt s n ≤ 191 := by
    unfold loAt hiAt at hm
    split at hm <;> omega
  obtain ⟨f, hf⟩ : ∃ f, lM s - n = f + 1 := ⟨lM s - n - 1, by omega⟩
  have hf' : lM s - (n + 1) = f := by omega
  rw [hf, hf']
  conv => lhs; unfold contM
  rw [if_neg (by omega)]
  obtain ⟨k, rfl⟩ : ∃ k, n = k + 1 := ⟨n - 1, by omega⟩
  simp only [loAt, hiAt, valM]
  rw [if_neg (by omega), if_neg (by omega)]
  congr 1
  omega
theorem at_off {s : List UInt8} {n : Nat} (A : At s n) (h1 : 1 ≤ n) (h2 : n < lM s) (h3 : n = s.length ∨ mayM (bt s 0) n (bt s n) = false) : oneM s = (65533, n) := by
  rw [at_may A h1 h2] at h3
  rw [A.2]
  obtain ⟨f, hf⟩ : ∃ f, lM s - n = f + 1 := ⟨lM s - n - 1, by omega⟩
  rw [hf]
  unfold contM
  rw [if_pos]
  rcases h3 with h3 | h3
  · exact .inl h3
  · right
    simp only [btw, Bool.and_eq_false_iff, decide_eq_false_iff_not] at h3
    omega
theorem at_none {s : List UInt8} (h : mayM (bt s 0) 0 (bt s 0) = false) : oneM s = (65533, 1) := by
  have hb := bt_byte s 0
  have hL := (lead_may (bt s 0) 0 hb.1 hb.2).1
  rw [if_neg (by rw [h]; simp)] at hL
  unfold oneM
  simp only [hL]
  rfl
theorem at_all {s : List UInt8} (A : At s (lM s)) : oneM s = (valM s (lM s) (lM s), lM s) := by
  have := lM_ge s
  rw [A.2, Nat.sub_self]
  unfold contM
  rw [Nat.sub_add_cancel this.1]
theorem valM_r (s : List UInt8) (L i : Nat) (h : i ≤ 4) : -200000000 ≤ valM s L i ∧ valM s L i ≤ 200000000 := by
  have hb := bt_byte s 0
  have b1 := bt_byte s 1
  have b2 := bt_byte s 2
  have b3 := bt_byte s 3
  have v1 : -240 ≤ valM s L 1 ∧ valM s L 1 ≤ 255 := by
    simp only [valM]
    repeat' split
    all_goals omega
  have e2 : valM s L 2 = 64 * valM s L 1 + bt s 1 - 128 := rfl
  have e3 : valM s L 3 = 64 * valM s L 2 + bt s 2 - 128 := rfl
  have e4 : valM s L 4 = 64 * valM s L 3 + bt s 3 - 128 := rfl
  have e0 : valM s L 0 = 0 := rfl
  rcases (by omega : i = 0 ∨ i = 1 ∨ i = 2 ∨ i = 3 ∨ i = 4) with rfl | rfl | rfl | rfl | rfl
  all_goals omega
def decD (s : List UInt8) : List Int := if h : s = [] then [] else (oneM s).1 :: decD (s.drop (oneM s).2)
termination_by s.length
decreasing_by
  have := oneM_n h
  rw [List.length_drop]; omega
theorem decD_nil : decD [] = [] := by unfold decD; rfl
theorem decD_cons {s : List UInt8} (h : s ≠ []) : decD s = (oneM s).1 :: decD (s.drop (oneM s).2) := by
  rw [decD]; rw [dif_neg h]
end Go.Proofs.K
