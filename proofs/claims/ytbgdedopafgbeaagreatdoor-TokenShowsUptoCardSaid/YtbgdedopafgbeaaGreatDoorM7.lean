/- Texts of this claim, one behind the other. -/
import Derived.Test.YtbgdedopafgbeaaGreatDoorM6
import Derived.Test.YtbgdedopafgbeaaGreatDoorM5
set_option maxHeartbeats 4000000
set_option maxRecDepth 100000
section
set_option linter.unusedSimpArgs false
set_option linter.unusedVariables false
namespace Go.Proofs.K
open Go Go.Sim Go.Proofs
variable {G : JU}
theorem up_step {s : List UInt8} {a : Nat} (h : a < s.length) (hb : bt s a ≠ 62) : upM s a [62] = upM s (a + 1) [62] := by
  unfold upM
  exact W4 h (by rw [stand_one s 62 (by decide) a h]; rw [beq_eq_false_iff_ne]; exact hb)
theorem com_far {s : List UInt8} {a f : Nat} (h1 : a < f) (h2 : f <= a + 2) (h3 : f <= s.length) (h4 : ∀ j, a <= j -> j < f -> bt s j ≠ 62) : upM s a [62] = upM s f [62] := by
  have q1 := up_step (s := s) (a := a) (by omega) (h4 a (by omega) h1)
  by_cases h : f = a + 1
  · rw [q1, h]
  · have q2 := up_step (s := s) (a := a + 1) (by omega) (h4 (a + 1) (by omega) (by omega))
    rw [q1, q2, show f = a + 1 + 1 by omega]
def c21 : SFun := ⟨.seq (.reg [o 4 (.new 43 7 [.int .i64 0, .str [], .emp, .str [], .bool false, .int .i64 0, .int .i64 0]), o 5 (.mv (.c (.int .i64 0))), o 6 (.mv (.c (.bool false)))]) (.seq (.seq (.reg [o 16 (.mv (.t 0)), o 17 (.mv (.t 1)), o 18 (.pcall 14 [.t 16, .t 17, .c (.str [60, 33, 45, 45])])]) (.cond (.t 18) (.seq (.seq (.reg [o 19 (.mv (.t 0)), o 20 (.mv (.t 1)), o 21 (.bin .add (.t 20) (.c (.int .i64 4))), o 22 (.pcall 14 [.t 19, .t 21, .c (.str [62])])]) (.cond (.t 22) (.seq (.reg [o 23 (.bld [.int .i64 0, .str [], .emp, .str [], .bool false, .int .i64 0, .int .i64 0] [(0, (1, (.c (.int .i64 4))))]), o 24 (.mv (.t 1)), o 25 (.bin .add (.t 24) (.c (.int .i64 5))), ⟨none, .st 7 (.t 4) (.t 23), none⟩, o 5 (.mv (.t 25)), o 6 (.mv (.c (.bool true)))]) .ret) .skip)) (.seq (.seq (.reg [o 26 (.mv (.t 0)), o 27 (.mv (.t 1)), o 28 (.bin .add (.t 27) (.c (.int .i64 4))), o 29 (.pcall 14 [.t 26, .t 28, .c (.str [45, 62])])]) (.cond (.t 29) (.seq (.reg [o 30 (.bld [.int .i64 0, .str [], .emp, .str [], .bool false, .int .i64 0, .int .i64 0] [(0, (1, (.c (.int .i64 4))))]), o 31 (.mv (.t 1)), o 32 (.bin .add (.t 31) (.c (.int .i64 6))), ⟨none, .st 7 (.t 4) (.t 30), none⟩, o 5 (.mv (.t 32)), o 6 (.mv (.c (.bool true)))]) .ret) .skip)) (.seq (.reg [o 34 (.mv (.t 0)), o 35 (.mv (.t 1)), o 36 (.bin .add (.t 35) (.c (.int .i64 4))), o 37 (.pcall 41 [.t 34, .t 36, .c (.str [45, 45, 62])]), o 33 (.mv (.t 37)), o 38 (.ext (.t 33) 0), o 39 (.ext (.t 33) 1), o 7 (.mv (.t 38)), o 8 (.mv (.t 39))]) (.seq (.reg [o 40 (.mv (.t 0)), o 41 (.mv (.t 1)), o 42 (.bin .add (.t 41) (.c (.int .i64 4))), o 43 (.mv (.t 7)), o 44 (.slS (.t 40) (some (.t 42)) (some (.t 43))), o 45 (.bld [.int .i64 0, .str [], .emp, .str [], .bool false, .int .i64 0, .int .i64 0] [(0, (1, (.c (.int .i64 4)))), (3, (1, (.t 44)))]), o 9 (.new 43 7 [.int .i64 0, .str [], .emp, .str [], .bool false, .int .i64 0, .int .i64 0]), ⟨none, .st 7 (.t 9) (.t 45), none⟩]) (.seq (.seq (.reg [o 46 (.mv (.t 8))]) (.cond (.t 46) (.reg [o 47 (.mv (.t 7)), o 48 (.bin .add (.t 47) (.c (.int .i64 3))), o 7 (.mv (.t 48))]) .skip)) (.seq (.reg [o 49 (.ld 7 true (.t 9)), o 50 (.mv (.t 7)), o 51 (.mv (.t 8)), ⟨none, .st 7 (.t 4) (.t 49), none⟩, o 5 (.mv (.t 50)), o 6 (.mv (.t 51))]) .ret)))))) .skip)) (.seq (.reg [o 53 (.mv (.t 0)), o 54 (.mv (.t 1)), o 55 (.pcall 41 [.t 53, .t 54, .c (.str [62])]), o 52 (.mv (.t 55)), o 56 (.ext (.t 52) 0), o 57 (.ext (.t 52) 1), o 10 (.mv (.t 56)), o 11 (.mv (.t 57))]) (.seq (.reg [o 58 (.mv (.t 10)), o 12 (.mv (.t 58))]) (.seq (.seq (.reg [o 59 (.mv (.t 11))]) (.cond (.t 59) (.reg [o 60 (.mv (.t 12)), o 61 (.bin .add (.t 60) (.c (.int .i64 1))), o 12 (.mv (.t 61))]) .skip)) (.seq (.seq (.reg [o 62 (.mv (.t 0)), o 63 (.mv (.t 1)), o 64 (.pcall 14 [.t 62, .t 63, .c (.str [60, 33, 100, 111, 99, 116, 121, 112, 101])])]) (.cond (.t 64) (.seq (.reg [o 65 (.mv (.t 1)), o 66 (.bin .add (.t 65) (.c (.int .i64 9))), o 13 (.mv (.t 66))]) (.seq (.block 0 (.loop (.seq (.seq (.reg [o 67 (.mv (.t 13)), o 68 (.mv (.t 10)), o 69 (.bin .lss (.t 67) (.t 68)), o 70 (.mv (.t 69)), ⟨some 71, .mv (.t 0), some (70, true)⟩, ⟨some 72, .mv (.t 13), some (70, true)⟩, ⟨some 73, .idxS (.t 71) (.t 72), some (70, true)⟩, ⟨some 74, .pcall 15 [.t 73], some (70, true)⟩, o 75 (.pick (.t 70) (.t 74) (.c (.bool false)))]) (.cond (.t 75) .skip (.exit 0))) (.block 1 (.reg [o 76 (.mv (.t 13)), o 77 (.bin .add (.t 76) (.c (.int .i64 1))), o 13 (.mv (.t 77))]))))) (.seq (.reg [o 78 (.mv (.t 13)), o 14 (.mv (.t 78))]) (.seq (.block 2 (.loop (.seq (.seq (.reg [o 79 (.mv (.t 14)), o 80 (.mv (.t 10)), o 81 (.bin .lss (.t 79) (.t 80)), o 82 (.mv (.t 81)), ⟨some 83, .mv (.t 0), some (82, true)⟩, ⟨some 84, .mv (.t 14), some (82, true)⟩, ⟨some 85, .idxS (.t 83) (.t 84), some (82, true)⟩, ⟨some 86, .pcall 15 [.t 85], some (82, true)⟩, ⟨some 87, .un .not (.t 86), some (82, true)⟩, o 88 (.pick (.t 82) (.t 87) (.c (.bool false)))]) (.cond (.t 88) .skip (.exit 2))) (.block 3 (.reg [o 89 (.mv (.t 14)), o 90 (.bin .add (.t 89) (.c (.int .i64 1))), o 14 (.mv (.t 90))]))))) (.seq (.reg [o 91 (.mv (.t 0)), o 92 (.mv (.t 13)), o 93 (.mv (.t 14)), o 94 (.slS (.t 91) (some (.t 92)) (some (.t 93))), o 95 (.pcall 39 [.t 94]), o 96 (.bld [.int .i64 0, .str [], .emp, .str [], .bool false, .int .i64 0, .int .i64 0] [(0, (1, (.c (.int .i64 5)))), (1, (1, (.t 95)))]), o 97 (.mv (.t 12)), o 98 (.mv (.t 11)), ⟨none, .st 7 (.t 4) (.t 96), none⟩, o 5 (.mv (.t 97)), o 6 (.mv (.t 98))]) .ret))))) .skip)) (.seq (.reg [o 99 (.mv (.t 1)), o 100 (.bin .add (.t 99) (.c (.int .i64 2))), o 15 (.mv (.t 100))]) (.seq (.seq (.reg [o 101 (.mv (.t 0)), o 102 (.mv (.t 1)), o 103 (.bin .add (.t 102) (.c (.int .i64 1))), o 104 (.idxS (.t 101) (.t 103)), o 105 (.bin .eql (.t 104) (.c (.int .u8 63)))]) (.cond (.t 105) (.reg [o 106 (.mv (.t 1)), o 107 (.bin .add (.t 106) (.c (.int .i64 1))), o 15 (.mv (.t 107))]) .skip)) (.seq (.reg [o 108 (.mv (.t 0)), o 109 (.mv (.t 15)), o 110 (.mv (.t 10)), o 111 (.slS (.t 108) (some (.t 109)) (some (.t 110))), o 112 (.bld [.int .i64 0, .str [], .emp, .str [], .bool false, .int .i64 0, .int .i64 0] [(0, (1, (.c (.int .i64 4)))), (3, (1, (.t 111)))]), o 113 (.mv (.t 12)), o 114 (.mv (.t 11)), ⟨none, .st 7 (.t 4) (.t 112), none⟩, o 5 (.mv (.t 113)), o 6 (.mv (.t 114))]) .ret)))))))), [.cell 4 7 true, .tmp 5, .tmp 6]⟩
theorem hc21 : Y5 Tryz.prog {pure := [14, 41, 15, 39]} Tryz.f21 = some c21 := by kernel_rfl
theorem hn21 : (Tryz.f21.name == "runtime.NumGoroutine") = false := by kernel_rfl
def RDecK (q : HTok × Bool × Nat) (r : AVal) (h0 h' : Q2) : Prop := r = .tup [.agg (tokR q.1), Q3 q.2.2, .bool q.2.1] /\ Sub h0 h'
theorem refDeclC_raw {s : List UInt8} {a : Nat} (h : Q2) (h4 : Z7 s a [60, 33, 45, 45] = true) (hs : s.length <= 4000000) :
    DCalls (Pg G) 21 [.str s, Q3 a] h fun r h' => RDecK (ZU s a) r h h' := by
  have hl4 : a + 4 <= s.length := (stand_iff.1 h4).1
  have c0 := K6 (G := G) s [60, 33, 45, 45] a (by omega) hs (by decide)
  have c1 : PCalls (Pg G) 14 [.str s, .int .i64 ((a : Int) + 4), .str [62]] (.bool (Z7 s (a + 4) [62])) := K6 (G := G) s [62] (a + 4) (by omega) hs (by decide)
  have c2 : PCalls (Pg G) 14 [.str s, .int .i64 ((a : Int) + 4), .str [45, 62]] (.bool (Z7 s (a + 4) [45, 62])) := K6 (G := G) s [45, 62] (a + 4) (by omega) hs (by decide)
  have c3 : PCalls (Pg G) 41 [.str s, .int .i64 ((a : Int) + 4), .str [45, 45, 62]] (.tup [Q3 (upM s (a + 4) [45, 45, 62]), .bool (decide (upM s (a + 4) [45, 45, 62] < s.length))]) := refUp_ok (G := G) s [45, 45, 62] (a + 4) (by omega) hs (by decide)
  have hu := up_le (w := [45, 45, 62]) hl4
  unfold ZU UQ
  rw [h4, if_pos rfl]
  rw [h4] at c0
  obtain ⟨u, hu'⟩ : ∃ u, upM s (a + 4) [45, 45, 62] = u := ⟨_, rfl⟩
  rw [hu'] at c3 hu ⊢
  unfold RDecK tokR
  cases b1 : Z7 s (a + 4) [62] <;> rw [b1] at c1
  · cases b2 : Z7 s (a + 4) [45, 62] <;> rw [b2] at c2
    · rw [if_neg (by simp), if_neg (by simp)]
      by_cases hul : u < s.length
      · rw [decide_eq_true hul] at c3
        rw [if_pos hul, decide_eq_true hul]
        refine Q1 Tryz.func21 hn21 hc21 (by rw [Tryz.ntmps21]; simp) (by rw [Tryz.ntmps21]; decide) ?_
        simp -dsimp -implicitDefEqProofs (disch := omega) only [VCA, Nat.reduceEqDiff, Nat.reduceAdd, ↓reduceIte, reduceCtorEq, c21]
        intro r4 hr4
        repeat' (first | ((with_reducible refine brC (fun _ => ?_) fun _ => ?_) <;> try (exfalso; omega)) | (with_reducible apply pcallE.of; · exact c0) | (with_reducible apply pcallE.of; · exact c1) | (with_reducible apply pcallE.of; · exact c2) | (with_reducible apply pcallE.of; · exact c3) | (with_reducible refine And.intro ?_ ?_; · omega) | simp -dsimp -implicitDefEqProofs (disch := omega) only [VCA, ↓U9, Nat.reduceEqDiff, Nat.reduceAdd, Nat.reduceLT, Nat.reduceLeDiff, ↓reduceIte, reduceCtorEq, X7, Y6, Z3, ne_eq, exists_eq_left'])
        intro r9 hr9
        have m : ¬ r4 = r9 := fun q => hr9.1 q.symm
        repeat' (first | ((with_reducible refine brC (fun _ => ?_) fun _ => ?_) <;> try (exfalso; omega)) | (with_reducible refine And.intro ?_ ?_; · omega) | simp -dsimp -implicitDefEqProofs (disch := omega) only [VCA, Nat.reduceAdd, Nat.reduceLT, ↓reduceIte, exists_eq_left', m])
        exact ⟨_, Sub.refl _, rfl, (((Sub.refl h).upd hr4).upd hr9.2).upd hr4⟩
      · obtain rfl : u = s.length := by omega
        rw [decide_eq_false hul] at c3
        rw [if_neg hul, decide_eq_false hul]
        refine Q1 Tryz.func21 hn21 hc21 (by rw [Tryz.ntmps21]; simp) (by rw [Tryz.ntmps21]; decide) ?_
        simp -dsimp -implicitDefEqProofs (disch := omega) only [VCA, Nat.reduceEqDiff, ↓reduceIte, reduceCtorEq, c21]
        intro r4 hr4
        repeat' (first | ((with_reducible refine brC (fun _ => ?_) fun _ => ?_) <;> try (exfalso; omega)) | (with_reducible apply pcallE.of; · exact c0) | (with_reducible apply pcallE.of; · exact c1) | (with_reducible apply pcallE.of; · exact c2) | (with_reducible apply pcallE.of; · exact c3) | (with_reducible refine And.intro ?_ ?_; · omega) | simp -dsimp -implicitDefEqProofs (disch := omega) only [VCA, ↓U9, Nat.reduceEqDiff, Nat.reduceAdd, Nat.reduceLT, Nat.reduceLeDiff, ↓reduceIte, reduceCtorEq, X7, Y6, Z3, ne_eq, exists_eq_left'])
        intro r9 hr9
        have m : ¬ r4 = r9 := fun q => hr9.1 q.symm
        repeat' (first | ((with_reducible refine brC (fun _ => ?_) fun _ => ?_) <;> try (exfalso; omega)) | (with_reducible refine And.intro ?_ ?_; · omega) | simp -dsimp -implicitDefEqProofs (disch := omega) only [VCA, Nat.reduceAdd, Nat.reduceLT, ↓reduceIte, exists_eq_left', m])
        exact ⟨_, Sub.refl _, by rw [show seg s (a + 4) s.length = s.drop (a + 4) from seg_end (Nat.le_refl _)]; rfl, (((Sub.refl h).upd hr4).upd hr9.2).upd hr4⟩
    · rw [if_neg (by simp), if_pos rfl]
      refine Q1 Tryz.func21 hn21 hc21 (by rw [Tryz.ntmps21]; simp) (by rw [Tryz.ntmps21]; decide) ?_
      simp -dsimp -implicitDefEqProofs (disch := omega) only [VCA, Nat.reduceEqDiff, ↓reduceIte, reduceCtorEq, c21]
      intro r4 hr4
      repeat' (first | ((with_reducible refine brC (fun _ => ?_) fun _ => ?_) <;> try (exfalso; omega)) | (with_reducible apply pcallE.of; · exact c0) | (with_reducible apply pcallE.of; · exact c1) | (with_reducible apply pcallE.of; · exact c2) | (with_reducible refine And.intro ?_ ?_; · omega) | simp -dsimp -implicitDefEqProofs (disch := omega) only [VCA, Nat.reduceEqDiff, Nat.reduceAdd, Nat.reduceLT, Nat.reduceLeDiff, ↓reduceIte, reduceCtorEq, X7, Y6, Z3, exists_eq_left'])
      exact ⟨_, Sub.refl _, rfl, (Sub.refl h).upd hr4⟩
  · rw [if_pos rfl]
    refine Q1 Tryz.func21 hn21 hc21 (by rw [Tryz.ntmps21]; simp) (by rw [Tryz.ntmps21]; decide) ?_
    simp -dsimp -implicitDefEqProofs (disch := omega) only [VCA, Nat.reduceEqDiff, ↓reduceIte, reduceCtorEq, c21]
    intro r4 hr4
    repeat' (first | ((with_reducible refine brC (fun _ => ?_) fun _ => ?_) <;> try (exfalso; omega)) | (with_reducible apply pcallE.of; · exact c0) | (with_reducible apply pcallE.of; · exact c1) | (with_reducible refine And.intro ?_ ?_; · omega) | simp -dsimp -implicitDefEqProofs (disch := omega) only [VCA, Nat.reduceEqDiff, Nat.reduceAdd, Nat.reduceLT, Nat.reduceLeDiff, ↓reduceIte, reduceCtorEq, X7, Y6, Z3, exists_eq_left'])
    exact ⟨_, Sub.refl _, rfl, (Sub.refl h).upd hr4⟩
theorem refDeclD_raw {s : List UInt8} {a : Nat} (h : Q2) (h4 : Z7 s a [60, 33, 45, 45] = false) (h9 : Z7 s a [60, 33, 100, 111, 99, 116, 121, 112, 101] = true) (hs : s.length <= 4000000) :
    DCalls (Pg G) 21 [.str s, Q3 a] h fun r h' => RDecK (ZU s a) r h h' := by
  have hl9 : a + 9 <= s.length := (stand_iff.1 h9).1
  have c0 := K6 (G := G) s [60, 33, 45, 45] a (by omega) hs (by decide)
  have c1 := K6 (G := G) s [60, 33, 100, 111, 99, 116, 121, 112, 101] a (by omega) hs (by decide)
  have c3 := refUp_ok (G := G) s [62] a (by omega) hs (by decide)
  have hu := up_le (s := s) (w := [62]) (a := a + 9) hl9
  have hfar := up_far h9
  rw [<- hfar] at hu
  unfold ZU
  rw [h4] at c0
  rw [h9] at c1
  rw [h4, h9, if_neg (by simp), if_pos rfl]
  obtain ⟨u, hu'⟩ : ∃ u, upM s a [62] = u := ⟨_, rfl⟩
  rw [hu'] at c3 hu ⊢
  obtain ⟨f, hf⟩ : ∃ f, Y0 (fun i => Z0 (bt s i)) u (a + 9) = f := ⟨_, rfl⟩
  obtain ⟨g, hg⟩ : ∃ g, Y0 (fun i => U6 (bt s i)) u f = g := ⟨_, rfl⟩
  have Ff := WQ (q := fun i => Z0 (bt s i)) (n := u) (a := a + 9) hu.1
  have Fg := WQ (q := fun i => U6 (bt s i)) (n := u) (a := f) (by rw [<- hf]; exact Ff.le)
  rw [hf] at Ff
  rw [hg] at Fg
  rw [hf, hg]
  have q1 := Ff.ge
  have q2 := Ff.le
  have q3 := Fg.ge
  have q4 := Fg.le
  have cN : PCalls (Pg G) 39 [.str ((s.take g).drop f)] (.str (K3 (seg s f g))) := WK (G := G) (seg s f g) (by have := YY s f g; omega)
  obtain ⟨nm, hnm⟩ : ∃ n, K3 (seg s f g) = n := ⟨_, rfl⟩
  rw [hnm] at cN ⊢
  obtain ⟨B, hB⟩ : ∃ B : Nat, B = if u < s.length then u + 1 else s.length := ⟨_, rfl⟩
  rw [<- hB]
  unfold RDecK tokR
  have hBv : (u < s.length /\ B = u + 1) \/ (¬ u < s.length /\ B = u) := by
    by_cases hul : u < s.length
    · exact .inl ⟨hul, by rw [hB, if_pos hul]⟩
    · exact .inr ⟨hul, by rw [hB, if_neg hul]; omega⟩
  clear hB
  cases hok : decide (u < s.length) <;> rw [hok] at c3
  · obtain rfl : u = B := by have := of_decide_eq_false hok; omega
    refine Q1 Tryz.func21 hn21 hc21 (by rw [Tryz.ntmps21]; simp) (by rw [Tryz.ntmps21]; decide) ?_
    simp -dsimp -implicitDefEqProofs (disch := omega) only [VCA, Nat.reduceEqDiff, ↓reduceIte, reduceCtorEq, c21]
    intro r4 hr4
    repeat' (first | ((with_reducible refine brC (fun _ => ?_) fun _ => ?_) <;> try (exfalso; omega)) | (with_reducible apply pcallE.of; · exact c0) | (with_reducible apply pcallE.of; · exact c3) | (with_reducible apply pcallE.of; · exact c1) | (with_reducible refine And.intro ?_ ?_; · omega) | simp -dsimp -implicitDefEqProofs (disch := omega) only [VCA, Nat.reduceEqDiff, Nat.reduceAdd, Nat.reduceLT, ↓reduceIte, reduceCtorEq])
    have S4 : ∀ o, Sub h (upd h r4 o) := fun o => (Sub.refl h).upd hr4
    refine loopT (fun x e' h' => x = .exit 0 /\ h' = upd h r4 (some ⟨Tt, 7, [tz]⟩) /\ e' 0 = .str s /\ e' 4 = .vp r4 0 /\ e' 10 = Q3 u /\ e' 11 = .bool false /\ e' 12 = Q3 u /\ e' 13 = Q3 f)
      (fun m e' h' => ∃ j : Nat, a + 9 <= j /\ j <= f /\ m = f - j /\ h' = upd h r4 (some ⟨Tt, 7, [tz]⟩) /\ e' 0 = .str s /\ e' 4 = .vp r4 0 /\ e' 10 = Q3 u /\ e' 11 = .bool false /\ e' 12 = Q3 u /\ e' 13 = Q3 j) (f - (a + 9))
      (by exact ⟨a + 9, by omega, q1, rfl, rfl, rfl, rfl, rfl, rfl, rfl, rfl⟩) ?_ ?_
    · rintro Q' hQ m e' h' ⟨j, hj0, hj, rfl, rfl, e0, e4, e10, e11, e12, e13⟩
      obtain ⟨b, hb⟩ : ∃ b, s.getD j 0 = b := ⟨_, rfl⟩
      have eb : bt s j = b.toNat := by unfold bt; rw [hb]
      have cB' := U2 (G := G) b
      by_cases hjf : j < f
      · have hno : Z0 (bt s j) = false := Ff.no j hj0 hjf
        have hb1 : U6 b.toNat = true := by rw [eb] at hno; unfold Z0 at hno; simpa using hno
        rw [hb1] at cB'
        have hd : decide ((j : Int) < (u : Int)) = true := decide_eq_true (by omega)
        repeat' (first | ((with_reducible refine brC (fun _ => ?_) fun _ => ?_) <;> try (exfalso; omega)) | (with_reducible apply pcallE.of; · exact cB') | (with_reducible refine And.intro ?_ ?_; · omega) | simp -dsimp -implicitDefEqProofs (disch := omega) only [↓Q0 70, VCA, Nat.reduceEqDiff, ↓reduceIte, reduceCtorEq, e0, e4, e10, e11, e12, e13, hd, hb])
        exact ⟨_, by omega, j + 1, by omega, by omega, rfl, by omega⟩
      · obtain rfl : j = f := by omega
        by_cases hju : j < u
        · have hy : Z0 (bt s j) = true := Ff.hit hju
          have hb1 : U6 b.toNat = false := by rw [eb] at hy; unfold Z0 at hy; simpa using hy
          rw [hb1] at cB'
          have hd : decide ((j : Int) < (u : Int)) = true := decide_eq_true (by omega)
          repeat' (first | ((with_reducible refine brC (fun _ => ?_) fun _ => ?_) <;> try (exfalso; omega)) | (with_reducible apply pcallE.of; · exact cB') | (with_reducible refine And.intro ?_ ?_; · omega) | simp -dsimp -implicitDefEqProofs (disch := omega) only [↓Q0 70, VCA, Nat.reduceEqDiff, ↓reduceIte, reduceCtorEq, e0, e10, e13, hd, hb])
          exact hQ _ _ _ ⟨rfl, rfl, e0, e4, e10, e11, e12, e13⟩
        · have hd : decide ((j : Int) < (u : Int)) = false := decide_eq_false (by omega)
          repeat' (first | ((with_reducible refine brC (fun _ => ?_) fun _ => ?_) <;> try (exfalso; omega)) | (with_reducible refine And.intro ?_ ?_; · omega) | simp -dsimp -implicitDefEqProofs (disch := omega) only [↓Q0 70, VCA, Nat.reduceEqDiff, ↓reduceIte, e10, e13, hd])
          exact hQ _ _ _ ⟨rfl, rfl, e0, e4, e10, e11, e12, e13⟩
    · rintro _ e' _ ⟨rfl, rfl, e0, e4, e10, e11, e12, e13⟩
      repeat' (first | ((with_reducible refine brC (fun _ => ?_) fun _ => ?_) <;> try (exfalso; omega)) | (with_reducible refine And.intro ?_ ?_; · omega) | simp -dsimp -implicitDefEqProofs (disch := omega) only [VCA, ↓reduceIte, e13])
      refine loopT (fun x e' h' => x = .exit 2 /\ h' = upd h r4 (some ⟨Tt, 7, [tz]⟩) /\ e' 0 = .str s /\ e' 4 = .vp r4 0 /\ e' 11 = .bool false /\ e' 12 = Q3 u /\ e' 13 = Q3 f /\ e' 14 = Q3 g)
        (fun m e' h' => ∃ j : Nat, f <= j /\ j <= g /\ m = g - j /\ h' = upd h r4 (some ⟨Tt, 7, [tz]⟩) /\ e' 0 = .str s /\ e' 4 = .vp r4 0 /\ e' 10 = Q3 u /\ e' 11 = .bool false /\ e' 12 = Q3 u /\ e' 13 = Q3 f /\ e' 14 = Q3 j) (g - f)
        (by exact ⟨f, by omega, q3, rfl, rfl, e0, e4, e10, e11, e12, e13, rfl⟩) ?_ ?_
      · rintro Q' hQ m e' h' ⟨j, hj0, hj, rfl, rfl, e0, e4, e10, e11, e12, e13, e14⟩
        obtain ⟨b, hb⟩ : ∃ b, s.getD j 0 = b := ⟨_, rfl⟩
        have eb : bt s j = b.toNat := by unfold bt; rw [hb]
        have cB' := U2 (G := G) b
        by_cases hjf : j < g
        · have hno : U6 (bt s j) = false := Fg.no j hj0 hjf
          rw [eb] at hno
          rw [hno] at cB'
          have hd : decide ((j : Int) < (u : Int)) = true := decide_eq_true (by omega)
          repeat' (first | ((with_reducible refine brC (fun _ => ?_) fun _ => ?_) <;> try (exfalso; omega)) | (with_reducible apply pcallE.of; · exact cB') | (with_reducible refine And.intro ?_ ?_; · omega) | simp -dsimp -implicitDefEqProofs (disch := omega) only [↓Q0 82, VCA, Nat.reduceEqDiff, ↓reduceIte, reduceCtorEq, e0, e4, e10, e11, e12, e13, e14, hd, hb])
          exact ⟨_, by omega, j + 1, by omega, by omega, rfl, by omega⟩
        · obtain rfl : j = g := by omega
          by_cases hju : j < u
          · have hy : U6 (bt s j) = true := Fg.hit hju
            rw [eb] at hy
            rw [hy] at cB'
            have hd : decide ((j : Int) < (u : Int)) = true := decide_eq_true (by omega)
            repeat' (first | ((with_reducible refine brC (fun _ => ?_) fun _ => ?_) <;> try (exfalso; omega)) | (with_reducible apply pcallE.of; · exact cB') | (with_reducible refine And.intro ?_ ?_; · omega) | simp -dsimp -implicitDefEqProofs (disch := omega) only [↓Q0 82, VCA, Nat.reduceEqDiff, ↓reduceIte, reduceCtorEq, e0, e10, e14, hd, hb])
            exact hQ _ _ _ ⟨rfl, rfl, e0, e4, e11, e12, e13, e14⟩
          · have hd : decide ((j : Int) < (u : Int)) = false := decide_eq_false (by omega)
            repeat' (first | ((with_reducible refine brC (fun _ => ?_) fun _ => ?_) <;> try (exfalso; omega)) | (with_reducible refine And.intro ?_ ?_; · omega) | simp -dsimp -implicitDefEqProofs (disch := omega) only [↓Q0 82, VCA, Nat.reduceEqDiff, ↓reduceIte, e10, e14, hd])
            exact hQ _ _ _ ⟨rfl, rfl, e0, e4, e11, e12, e13, e14⟩
      · rintro _ e' _ ⟨rfl, rfl, e0, e4, e11, e12, e13, e14⟩
        unfold tz
        repeat' (first | ((with_reducible refine brC (fun _ => ?_) fun _ => ?_) <;> try (exfalso; omega)) | (with_reducible apply pcallE.of; · exact cN) | (with_reducible refine And.intro ?_ ?_; · omega) | simp -dsimp -implicitDefEqProofs (disch := omega) only [VCA, Nat.reduceEqDiff, Nat.reduceAdd, Nat.reduceLT, Nat.reduceLeDiff, ↓reduceIte, X7, Y6, Z3, exists_eq_left', e0, e4, e11, e12, e13, e14])
        first | exact ⟨_, Sub.refl _, rfl, S4 _⟩ | exact ⟨_, Sub.refl _, S4 _⟩
  · obtain rfl : B = u + 1 := by have := of_decide_eq_true hok; omega
    refine Q1 Tryz.func21 hn21 hc21 (by rw [Tryz.ntmps21]; simp) (by rw [Tryz.ntmps21]; decide) ?_
    simp -dsimp -implicitDefEqProofs (disch := omega) only [VCA, Nat.reduceEqDiff, ↓reduceIte, reduceCtorEq, c21]
    intro r4 hr4
    repeat' (first | ((with_reducible refine brC (fun _ => ?_) fun _ => ?_) <;> try (exfalso; omega)) | (with_reducible apply pcallE.of; · exact c0) | (with_reducible apply pcallE.of; · exact c3) | (with_reducible apply pcallE.of; · exact c1) | (with_reducible refine And.intro ?_ ?_; · omega) | simp -dsimp -implicitDefEqProofs (disch := omega) only [VCA, Nat.reduceEqDiff, Nat.reduceAdd, Nat.reduceLT, ↓reduceIte, reduceCtorEq])
    have S4 : ∀ o, Sub h (upd h r4 o) := fun o => (Sub.refl h).upd hr4
    refine loopT (fun x e' h' => x = .exit 0 /\ h' = upd h r4 (some ⟨Tt, 7, [tz]⟩) /\ e' 0 = .str s /\ e' 4 = .vp r4 0 /\ e' 10 = Q3 u /\ e' 11 = .bool true /\ e' 12 = Q3 (u + 1 : Nat) /\ e' 13 = Q3 f)
      (fun m e' h' => ∃ j : Nat, a + 9 <= j /\ j <= f /\ m = f - j /\ h' = upd h r4 (some ⟨Tt, 7, [tz]⟩) /\ e' 0 = .str s /\ e' 4 = .vp r4 0 /\ e' 10 = Q3 u /\ e' 11 = .bool true /\ e' 12 = Q3 (u + 1 : Nat) /\ e' 13 = Q3 j) (f - (a + 9))
      (by exact ⟨a + 9, by omega, q1, rfl, rfl, rfl, rfl, rfl, rfl, rfl, rfl⟩) ?_ ?_
    · rintro Q' hQ m e' h' ⟨j, hj0, hj, rfl, rfl, e0, e4, e10, e11, e12, e13⟩
      obtain ⟨b, hb⟩ : ∃ b, s.getD j 0 = b := ⟨_, rfl⟩
      have eb : bt s j = b.toNat := by unfold bt; rw [hb]
      have cB' := U2 (G := G) b
      by_cases hjf : j < f
      · have hno : Z0 (bt s j) = false := Ff.no j hj0 hjf
        have hb1 : U6 b.toNat = true := by rw [eb] at hno; unfold Z0 at hno; simpa using hno
        rw [hb1] at cB'
        have hd : decide ((j : Int) < (u : Int)) = true := decide_eq_true (by omega)
        repeat' (first | ((with_reducible refine brC (fun _ => ?_) fun _ => ?_) <;> try (exfalso; omega)) | (with_reducible apply pcallE.of; · exact cB') | (with_reducible refine And.intro ?_ ?_; · omega) | simp -dsimp -implicitDefEqProofs (disch := omega) only [↓Q0 70, VCA, Nat.reduceEqDiff, ↓reduceIte, reduceCtorEq, e0, e4, e10, e11, e12, e13, hd, hb])
        exact ⟨_, by omega, j + 1, by omega, by omega, rfl, by omega⟩
      · obtain rfl : j = f := by omega
        by_cases hju : j < u
        · have hy : Z0 (bt s j) = true := Ff.hit hju
          have hb1 : U6 b.toNat = false := by rw [eb] at hy; unfold Z0 at hy; simpa using hy
          rw [hb1] at cB'
          have hd : decide ((j : Int) < (u : Int)) = true := decide_eq_true (by omega)
          repeat' (first | ((with_reducible refine brC (fun _ => ?_) fun _ => ?_) <;> try (exfalso; omega)) | (with_reducible apply pcallE.of; · exact cB') | (with_reducible refine And.intro ?_ ?_; · omega) | simp -dsimp -implicitDefEqProofs (disch := omega) only [↓Q0 70, VCA, Nat.reduceEqDiff, ↓reduceIte, reduceCtorEq, e0, e10, e13, hd, hb])
          exact hQ _ _ _ ⟨rfl, rfl, e0, e4, e10, e11, e12, e13⟩
        · have hd : decide ((j : Int) < (u : Int)) = false := decide_eq_false (by omega)
          repeat' (first | ((with_reducible refine brC (fun _ => ?_) fun _ => ?_) <;> try (exfalso; omega)) | (with_reducible refine And.intro ?_ ?_; · omega) | simp -dsimp -implicitDefEqProofs (disch := omega) only [↓Q0 70, VCA, Nat.reduceEqDiff, ↓reduceIte, e10, e13, hd])
          exact hQ _ _ _ ⟨rfl, rfl, e0, e4, e10, e11, e12, e13⟩
    · rintro _ e' _ ⟨rfl, rfl, e0, e4, e10, e11, e12, e13⟩
      repeat' (first | ((with_reducible refine brC (fun _ => ?_) fun _ => ?_) <;> try (exfalso; omega)) | (with_reducible refine And.intro ?_ ?_; · omega) | simp -dsimp -implicitDefEqProofs (disch := omega) only [VCA, ↓reduceIte, e13])
      refine loopT (fun x e' h' => x = .exit 2 /\ h' = upd h r4 (some ⟨Tt, 7, [tz]⟩) /\ e' 0 = .str s /\ e' 4 = .vp r4 0 /\ e' 11 = .bool true /\ e' 12 = Q3 (u + 1 : Nat) /\ e' 13 = Q3 f /\ e' 14 = Q3 g)
        (fun m e' h' => ∃ j : Nat, f <= j /\ j <= g /\ m = g - j /\ h' = upd h r4 (some ⟨Tt, 7, [tz]⟩) /\ e' 0 = .str s /\ e' 4 = .vp r4 0 /\ e' 10 = Q3 u /\ e' 11 = .bool true /\ e' 12 = Q3 (u + 1 : Nat) /\ e' 13 = Q3 f /\ e' 14 = Q3 j) (g - f)
        (by exact ⟨f, by omega, q3, rfl, rfl, e0, e4, e10, e11, e12, e13, rfl⟩) ?_ ?_
      · rintro Q' hQ m e' h' ⟨j, hj0, hj, rfl, rfl, e0, e4, e10, e11, e12, e13, e14⟩
        obtain ⟨b, hb⟩ : ∃ b, s.getD j 0 = b := ⟨_, rfl⟩
        have eb : bt s j = b.toNat := by unfold bt; rw [hb]
        have cB' := U2 (G := G) b
        by_cases hjf : j < g
        · have hno : U6 (bt s j) = false := Fg.no j hj0 hjf
          rw [eb] at hno
          rw [hno] at cB'
          have hd : decide ((j : Int) < (u : Int)) = true := decide_eq_true (by omega)
          repeat' (first | ((with_reducible refine brC (fun _ => ?_) fun _ => ?_) <;> try (exfalso; omega)) | (with_reducible apply pcallE.of; · exact cB') | (with_reducible refine And.intro ?_ ?_; · omega) | simp -dsimp -implicitDefEqProofs (disch := omega) only [↓Q0 82, VCA, Nat.reduceEqDiff, ↓reduceIte, reduceCtorEq, e0, e4, e10, e11, e12, e13, e14, hd, hb])
          exact ⟨_, by omega, j + 1, by omega, by omega, rfl, by omega⟩
        · obtain rfl : j = g := by omega
          by_cases hju : j < u
          · have hy : U6 (bt s j) = true := Fg.hit hju
            rw [eb] at hy
            rw [hy] at cB'
            have hd : decide ((j : Int) < (u : Int)) = true := decide_eq_true (by omega)
            repeat' (first | ((with_reducible refine brC (fun _ => ?_) fun _ => ?_) <;> try (exfalso; omega)) | (with_reducible apply pcallE.of; · exact cB') | (with_reducible refine And.intro ?_ ?_; · omega) | simp -dsimp -implicitDefEqProofs (disch := omega) only [↓Q0 82, VCA, Nat.reduceEqDiff, ↓reduceIte, reduceCtorEq, e0, e10, e14, hd, hb])
            exact hQ _ _ _ ⟨rfl, rfl, e0, e4, e11, e12, e13, e14⟩
          · have hd : decide ((j : Int) < (u : Int)) = false := decide_eq_false (by omega)
            repeat' (first | ((with_reducible refine brC (fun _ => ?_) fun _ => ?_) <;> try (exfalso; omega)) | (with_reducible refine And.intro ?_ ?_; · omega) | simp -dsimp -implicitDefEqProofs (disch := omega) only [↓Q0 82, VCA, Nat.reduceEqDiff, ↓reduceIte, e10, e14, hd])
            exact hQ _ _ _ ⟨rfl, rfl, e0, e4, e11, e12, e13, e14⟩
      · rintro _ e' _ ⟨rfl, rfl, e0, e4, e11, e12, e13, e14⟩
        unfold tz
        repeat' (first | ((with_reducible refine brC (fun _ => ?_) fun _ => ?_) <;> try (exfalso; omega)) | (with_reducible apply pcallE.of; · exact cN) | (with_reducible refine And.intro ?_ ?_; · omega) | simp -dsimp -implicitDefEqProofs (disch := omega) only [VCA, Nat.reduceEqDiff, Nat.reduceAdd, Nat.reduceLT, Nat.reduceLeDiff, ↓reduceIte, X7, Y6, Z3, exists_eq_left', e0, e4, e11, e12, e13, e14])
        first | exact ⟨_, Sub.refl _, rfl, S4 _⟩ | exact ⟨_, Sub.refl _, S4 _⟩
theorem refDeclE_raw {s : List UInt8} {a f : Nat} (h : Q2) (h4 : Z7 s a [60, 33, 45, 45] = false) (h9 : Z7 s a [60, 33, 100, 111, 99, 116, 121, 112, 101] = false) (ha : a + 1 < s.length) (hs : s.length <= 4000000)
    (hf : f = if bt s (a + 1) = 63 then a + 1 else a + 2) (hfl : f <= s.length) (hb : ∀ j, a <= j -> j < f -> bt s j ≠ 62) :
    DCalls (Pg G) 21 [.str s, Q3 a] h fun r h' => RDecK (UQ s f [62]) r h h' := by
  have c0 := K6 (G := G) s [60, 33, 45, 45] a (by omega) hs (by decide)
  have c1 := K6 (G := G) s [60, 33, 100, 111, 99, 116, 121, 112, 101] a (by omega) hs (by decide)
  have c3 := refUp_ok (G := G) s [62] a (by omega) hs (by decide)
  have hu := up_le (s := s) (w := [62]) (a := f) hfl
  have haf : a < f /\ f <= a + 2 := by rw [hf]; split <;> omega
  have hfar := com_far haf.1 haf.2 hfl hb
  rw [<- hfar] at hu
  unfold UQ
  rw [<- hfar]
  rw [h4] at c0
  rw [h9] at c1
  obtain ⟨u, hu'⟩ : ∃ u, upM s a [62] = u := ⟨_, rfl⟩
  rw [hu'] at c3 hu ⊢
  obtain ⟨q, hq⟩ : ∃ q, s.getD (a + 1) 0 = q := ⟨_, rfl⟩
  have hbt : bt s (a + 1) = q.toNat := by unfold bt; rw [hq]
  rw [hbt] at hf
  unfold RDecK tokR
  have hsl : ∀ v : Nat, v = s.length -> seg s f v = s.drop f := fun v hv => seg_end (by omega)
  cases h63 : ((q.toNat : Int) == 63)
  · obtain rfl : f = a + 2 := by rw [hf, if_neg (by simpa using h63)]
    by_cases hul : u < s.length
    · rw [decide_eq_true hul] at c3
      rw [if_pos hul, decide_eq_true hul]
      refine Q1 Tryz.func21 hn21 hc21 (by rw [Tryz.ntmps21]; simp) (by rw [Tryz.ntmps21]; decide) ?_
      simp -dsimp -implicitDefEqProofs (disch := omega) only [VCA, Nat.reduceEqDiff, ↓reduceIte, reduceCtorEq, c21]
      intro r4 hr4
      repeat' (first | ((with_reducible refine brC (fun _ => ?_) fun _ => ?_) <;> try (exfalso; omega)) | (with_reducible apply pcallE.of; · exact c0) | (with_reducible apply pcallE.of; · exact c1) | (with_reducible apply pcallE.of; · exact c3) | (with_reducible refine And.intro ?_ ?_; · omega) | simp -dsimp -implicitDefEqProofs (disch := omega) only [VCA, Nat.reduceEqDiff, Nat.reduceAdd, Nat.reduceLT, Nat.reduceLeDiff, ↓reduceIte, reduceCtorEq, X7, Y6, Z3, exists_eq_left', hq, h63])
      exact ⟨_, Sub.refl _, rfl, (Sub.refl h).upd hr4⟩
    · obtain rfl : u = s.length := by omega
      rw [decide_eq_false hul] at c3
      rw [if_neg hul, decide_eq_false hul]
      refine Q1 Tryz.func21 hn21 hc21 (by rw [Tryz.ntmps21]; simp) (by rw [Tryz.ntmps21]; decide) ?_
      simp -dsimp -implicitDefEqProofs (disch := omega) only [VCA, Nat.reduceEqDiff, ↓reduceIte, reduceCtorEq, c21]
      intro r4 hr4
      repeat' (first | ((with_reducible refine brC (fun _ => ?_) fun _ => ?_) <;> try (exfalso; omega)) | (with_reducible apply pcallE.of; · exact c0) | (with_reducible apply pcallE.of; · exact c1) | (with_reducible apply pcallE.of; · exact c3) | (with_reducible refine And.intro ?_ ?_; · omega) | simp -dsimp -implicitDefEqProofs (disch := omega) only [VCA, Nat.reduceEqDiff, Nat.reduceAdd, Nat.reduceLT, Nat.reduceLeDiff, ↓reduceIte, reduceCtorEq, X7, Y6, Z3, exists_eq_left', hq, h63])
      exact ⟨_, Sub.refl _, by rw [hsl _ rfl]; rfl, (Sub.refl h).upd hr4⟩
  · obtain rfl : f = a + 1 := by rw [hf, if_pos (by simpa using h63)]
    by_cases hul : u < s.length
    · rw [decide_eq_true hul] at c3
      rw [if_pos hul, decide_eq_true hul]
      refine Q1 Tryz.func21 hn21 hc21 (by rw [Tryz.ntmps21]; simp) (by rw [Tryz.ntmps21]; decide) ?_
      simp -dsimp -implicitDefEqProofs (disch := omega) only [VCA, Nat.reduceEqDiff, ↓reduceIte, reduceCtorEq, c21]
      intro r4 hr4
      repeat' (first | ((with_reducible refine brC (fun _ => ?_) fun _ => ?_) <;> try (exfalso; omega)) | (with_reducible apply pcallE.of; · exact c0) | (with_reducible apply pcallE.of; · exact c1) | (with_reducible apply pcallE.of; · exact c3) | (with_reducible refine And.intro ?_ ?_; · omega) | simp -dsimp -implicitDefEqProofs (disch := omega) only [VCA, Nat.reduceEqDiff, Nat.reduceAdd, Nat.reduceLT, Nat.reduceLeDiff, ↓reduceIte, reduceCtorEq, X7, Y6, Z3, exists_eq_left', hq, h63])
      exact ⟨_, Sub.refl _, rfl, (Sub.refl h).upd hr4⟩
    · obtain rfl : u = s.length := by omega
      rw [decide_eq_false hul] at c3
      rw [if_neg hul, decide_eq_false hul]
      refine Q1 Tryz.func21 hn21 hc21 (by rw [Tryz.ntmps21]; simp) (by rw [Tryz.ntmps21]; decide) ?_
      simp -dsimp -implicitDefEqProofs (disch := omega) only [VCA, Nat.reduceEqDiff, ↓reduceIte, reduceCtorEq, c21]
      intro r4 hr4
      repeat' (first | ((with_reducible refine brC (fun _ => ?_) fun _ => ?_) <;> try (exfalso; omega)) | (with_reducible apply pcallE.of; · exact c0) | (with_reducible apply pcallE.of; · exact c1) | (with_reducible apply pcallE.of; · exact c3) | (with_reducible refine And.intro ?_ ?_; · omega) | simp -dsimp -implicitDefEqProofs (disch := omega) only [VCA, Nat.reduceEqDiff, Nat.reduceAdd, Nat.reduceLT, Nat.reduceLeDiff, ↓reduceIte, reduceCtorEq, X7, Y6, Z3, exists_eq_left', hq, h63])
      exact ⟨_, Sub.refl _, by rw [hsl _ rfl], (Sub.refl h).upd hr4⟩
theorem stand_off {s w : List UInt8} {a : Nat} (h0 : 1 < w.length) (hb : ZW (bt s (a + 1)) ≠ bt w 1) : Z7 s a w = false := by
  cases hst : Z7 s a w with
  | false => rfl
  | true => exact absurd ((stand_iff.1 hst).2 1 h0) hb
theorem refDecl_ok {s : List UInt8} {a : Nat} {q : HTok × Bool × Nat} (h : Q2) (hk : Y1 s a ≠ 0) (h97 : Y1 s a ≠ 97) (h47 : Y1 s a = 47 -> bt s (a + 2) ≠ 62 /\ U1 (bt s (a + 2)) = false) (hq : X5 s a = some q) (hs : s.length <= 4000000) :
    DCalls (Pg G) 21 [.str s, Q3 a] h fun r h' => RDecK q r h h' := by
  obtain ⟨hb0, ha1, hc⟩ := kind_is hk
  have e1 : Y1 s a = 33 -> bt s (a + 1) = 33 := fun e => by
    unfold Y1 at e
    (repeat' split at e) <;> omega
  have e2 : Y1 s a = 63 -> bt s (a + 1) = 63 := fun e => by
    unfold Y1 at e
    (repeat' split at e) <;> omega
  have e3 : Y1 s a = 47 -> bt s (a + 1) = 47 := fun e => by
    unfold Y1 at e
    (repeat' split at e) <;> omega
  unfold X5 at hq
  rw [if_neg h97] at hq
  rcases hc with hc | hc | hc | ⟨hc, ha2⟩
  · exact absurd hc h97
  · have e1 := e1 hc
    rw [hc, if_pos rfl] at hq
    cases hq
    cases h4 : Z7 s a [60, 33, 45, 45] with
    | true => exact refDeclC_raw h h4 hs
    | false =>
      cases h9 : Z7 s a [60, 33, 100, 111, 99, 116, 121, 112, 101] with
      | true => exact refDeclD_raw h h4 h9 hs
      | false =>
        have : ZU s a = UQ s (a + 2) [62] := by unfold ZU; rw [h4, h9, if_neg (by simp), if_neg (by simp)]
        rw [this]
        exact refDeclE_raw h h4 h9 ha1 hs (by rw [if_neg (by omega)]) (by omega) fun j h1 h2 => by
          have : j = a \/ j = a + 1 := by omega
          rcases this with rfl | rfl <;> omega
  · have e2 := e2 hc
    have n1 : ZW (bt s (a + 1)) ≠ 33 := by rw [e2]; decide
    rw [hc, if_neg (by decide), if_pos rfl] at hq
    cases hq
    exact refDeclE_raw h (stand_off (by decide) n1) (stand_off (by decide) n1) ha1 hs (by rw [if_pos e2]) (by omega) fun j h1 h2 => by
      obtain rfl : j = a := by omega
      omega
  · have e3 := e3 hc
    have n1 : ZW (bt s (a + 1)) ≠ 33 := by rw [e3]; decide
    obtain ⟨h47a, h47b⟩ := h47 hc
    rw [hc, if_neg (by decide), if_neg (by decide), if_neg h47a, h47b, if_neg (by simp)] at hq
    cases hq
    exact refDeclE_raw h (stand_off (by decide) n1) (stand_off (by decide) n1) ha1 hs (by rw [if_neg (by omega)]) (by omega) fun j h1 h2 => by
      have : j = a \/ j = a + 1 := by omega
      rcases this with rfl | rfl <;> omega
def c9 : SFun := ⟨.seq (.reg [o 2 (.mv (.c .emp)), o 3 (.mv (.c (.int .i64 0)))]) (.seq (.reg [o 4 (.mv (.c .emp))]) (.seq (.reg [o 5 (.mv (.c (.int .i64 0))), o 6 (.mv (.c (.int .i64 0))), o 7 (.mv (.c (.str [])))]) (.seq (.block 0 (.loop (.seq (.seq (.reg [o 14 (.mv (.t 5)), o 15 (.mv (.t 0)), o 16 (.lenS (.t 15)), o 17 (.bin .lss (.t 14) (.t 16))]) (.cond (.t 17) .skip (.exit 0))) (.block 1 (.seq (.reg [o 18 (.mv (.t 5)), o 8 (.mv (.t 18))]) (.seq (.block 2 (.loop (.seq (.seq (.reg [o 19 (.mv (.t 8)), o 20 (.mv (.t 0)), o 21 (.lenS (.t 20)), o 22 (.bin .lss (.t 19) (.t 21))]) (.cond (.t 22) .skip (.exit 2))) (.block 3 (.seq (.seq (.reg [o 23 (.mv (.t 7)), o 24 (.bin .neq (.t 23) (.c (.str []))), o 25 (.mv (.t 24)), ⟨some 26, .mv (.t 0), some (25, true)⟩, ⟨some 27, .mv (.t 8), some (25, true)⟩, ⟨some 28, .mv (.t 7), some (25, true)⟩, ⟨some 29, .bin .add (.c (.str [60, 47])) (.t 28), some (25, true)⟩, ⟨some 30, .pcall 14 [.t 26, .t 27, .t 29], some (25, true)⟩, o 31 (.pick (.t 25) (.t 30) (.c (.bool false))), o 32 (.mv (.t 31)), ⟨some 33, .mv (.t 8), some (32, true)⟩, ⟨some 34, .bin .add (.t 33) (.c (.int .i64 2)), some (32, true)⟩, ⟨some 35, .mv (.t 7), some (32, true)⟩, ⟨some 36, .lenS (.t 35), some (32, true)⟩, ⟨some 37, .bin .add (.t 34) (.t 36), some (32, true)⟩, ⟨some 38, .mv (.t 0), some (32, true)⟩, ⟨some 39, .lenS (.t 38), some (32, true)⟩, ⟨some 40, .bin .lss (.t 37) (.t 39), some (32, true)⟩, o 41 (.pick (.t 32) (.t 40) (.c (.bool false)))]) (.cond (.t 41) (.seq (.reg [o 42 (.mv (.t 0)), o 43 (.mv (.t 8)), o 44 (.bin .add (.t 43) (.c (.int .i64 2))), o 45 (.mv (.t 7)), o 46 (.lenS (.t 45)), o 47 (.bin .add (.t 44) (.t 46)), o 48 (.idxS (.t 42) (.t 47)), o 9 (.mv (.t 48))]) (.seq (.reg [o 49 (.mv (.t 9)), o 50 (.pcall 15 [.t 49]), o 51 (.mv (.t 50)), ⟨some 52, .mv (.t 9), some (51, false)⟩, ⟨some 53, .bin .eql (.t 52) (.c (.int .u8 47)), some (51, false)⟩, o 54 (.pick (.t 51) (.c (.bool true)) (.t 53)), o 55 (.mv (.t 54)), ⟨some 56, .mv (.t 9), some (55, false)⟩, ⟨some 57, .bin .eql (.t 56) (.c (.int .u8 62)), some (55, false)⟩, o 58 (.pick (.t 55) (.c (.bool true)) (.t 57))]) (.cond (.t 58) (.exit 2) .skip))) .skip)) (.seq (.seq (.reg [o 59 (.mv (.t 7)), o 60 (.bin .eql (.t 59) (.c (.str []))), o 61 (.mv (.t 60)), ⟨some 62, .mv (.t 0), some (61, true)⟩, ⟨some 63, .mv (.t 8), some (61, true)⟩, ⟨some 64, .pcall 16 [.t 62, .t 63], some (61, true)⟩, ⟨some 65, .bin .gtr (.t 64) (.c (.int .i64 0)), some (61, true)⟩, o 66 (.pick (.t 61) (.t 65) (.c (.bool false)))]) (.cond (.t 66) (.exit 2) .skip)) (.reg [o 67 (.mv (.t 8)), o 68 (.bin .add (.t 67) (.c (.int .i64 1))), o 8 (.mv (.t 68))]))))))) (.seq (.seq (.reg [o 69 (.mv (.t 8)), o 70 (.mv (.t 5)), o 71 (.bin .gtr (.t 69) (.t 70))]) (.cond (.t 71) (.seq (.reg [o 72 (.mv (.t 0)), o 73 (.mv (.t 5)), o 74 (.mv (.t 8)), o 75 (.slS (.t 72) (some (.t 73)) (some (.t 74))), o 10 (.mv (.t 75))]) (.seq (.seq (.reg [o 76 (.mv (.t 7)), o 77 (.pcall 17 [.t 76]), o 78 (.bin .neq (.t 77) (.c (.int .i64 1)))]) (.cond (.t 78) (.reg [o 79 (.mv (.t 10)), o 80 (.pcall 18 [.t 79, .c (.bool false)]), o 10 (.mv (.t 80))]) .skip)) (.reg [o 81 (.mv (.t 4)), o 82 (.mv (.t 10)), o 83 (.mv (.t 5)), o 84 (.mv (.t 8)), o 85 (.bld [.int .i64 0, .str [], .emp, .str [], .bool false, .int .i64 0, .int .i64 0] [(0, (1, (.c (.int .i64 3)))), (3, (1, (.t 82))), (5, (1, (.t 83))), (6, (1, (.t 84)))]), o 86 (.bldF 43 7 [.t 85]), o 87 (.app 43 7 88 (.t 81) (.t 86)), o 4 (.mv (.t 87))]))) .skip)) (.seq (.reg [o 88 (.mv (.t 8)), o 5 (.mv (.t 88)), o 7 (.mv (.c (.str [])))]) (.seq (.seq (.reg [o 89 (.mv (.t 5)), o 90 (.mv (.t 0)), o 91 (.lenS (.t 90)), o 92 (.bin .eql (.t 89) (.t 91))]) (.cond (.t 92) (.exit 0) .skip)) (.seq (.reg [o 11 (.new 43 7 [.int .i64 0, .str [], .emp, .str [], .bool false, .int .i64 0, .int .i64 0])]) (.seq (.reg [o 12 (.mv (.c (.int .i64 0))), o 13 (.mv (.c (.bool true)))]) (.seq (.block 4 (.seq (.reg [o 101 (.mv (.t 0)), o 102 (.mv (.t 5)), o 103 (.pcall 16 [.t 101, .t 102]), o 104 (.bin .eql (.t 103) (.c (.int .i64 1))), o 100 (.mv (.t 104))]) (.cond (.t 100) (.reg [o 106 (.mv (.t 0)), o 107 (.mv (.t 5)), o 108 (.bin .add (.t 107) (.c (.int .i64 1))), o 109 (.call (.c (.fn 19 [] [])) [.t 106, .t 108, .c (.int .i64 1)]), o 105 (.mv (.t 109)), o 110 (.ext (.t 105) 0), o 111 (.ext (.t 105) 1), ⟨none, .st 7 (.t 11) (.t 110), none⟩, o 12 (.mv (.t 111))]) (.seq (.reg [o 113 (.mv (.t 0)), o 114 (.mv (.t 5)), o 115 (.pcall 16 [.t 113, .t 114]), o 116 (.bin .eql (.t 115) (.c (.int .i64 2))), o 117 (.mv (.t 116)), ⟨some 118, .mv (.t 0), some (117, true)⟩, ⟨some 119, .mv (.t 5), some (117, true)⟩, ⟨some 120, .bin .add (.t 119) (.c (.int .i64 2)), some (117, true)⟩, ⟨some 121, .idxS (.t 118) (.t 120), some (117, true)⟩, ⟨some 122, .bin .eql (.t 121) (.c (.int .u8 62)), some (117, true)⟩, o 123 (.pick (.t 117) (.t 122) (.c (.bool false))), o 112 (.mv (.t 123))]) (.cond (.t 112) (.seq (.reg [o 124 (.mv (.t 5)), o 125 (.bin .add (.t 124) (.c (.int .i64 3))), o 5 (.mv (.t 125))]) (.exit 1)) (.seq (.reg [o 127 (.mv (.t 0)), o 128 (.mv (.t 5)), o 129 (.pcall 16 [.t 127, .t 128]), o 130 (.bin .eql (.t 129) (.c (.int .i64 2))), o 131 (.mv (.t 130)), ⟨some 132, .mv (.t 0), some (131, true)⟩, ⟨some 133, .mv (.t 5), some (131, true)⟩, ⟨some 134, .bin .add (.t 133) (.c (.int .i64 2)), some (131, true)⟩, ⟨some 135, .idxS (.t 132) (.t 134), some (131, true)⟩, ⟨some 136, .pcall 20 [.t 135], some (131, true)⟩, o 137 (.pick (.t 131) (.t 136) (.c (.bool false))), o 126 (.mv (.t 137))]) (.cond (.t 126) (.seq (.reg [o 139 (.mv (.t 0)), o 140 (.mv (.t 5)), o 141 (.bin .add (.t 140) (.c (.int .i64 2))), o 142 (.call (.c (.fn 19 [] [])) [.t 139, .t 141, .c (.int .i64 2)]), o 138 (.mv (.t 142)), o 143 (.ext (.t 138) 0), o 144 (.ext (.t 138) 1), ⟨none, .st 7 (.t 11) (.t 143), none⟩, o 12 (.mv (.t 144))]) (.seq (.reg [o 145 (.fldA 2 (.t 11)), ⟨none, .st 1 (.t 145) (.c .emp), none⟩]) (.reg [o 146 (.fldA 4 (.t 11)), ⟨none, .st 1 (.t 146) (.c (.bool false)), none⟩]))) (.reg [o 94 (.mv (.t 0)), o 95 (.mv (.t 5)), o 96 (.call (.c (.fn 21 [] [])) [.t 94, .t 95]), o 93 (.mv (.t 96)), o 97 (.ext (.t 93) 0), o 98 (.ext (.t 93) 1), o 99 (.ext (.t 93) 2), ⟨none, .st 7 (.t 11) (.t 97), none⟩, o 12 (.mv (.t 98)), o 13 (.mv (.t 99))])))))))) (.seq (.seq (.reg [o 147 (.mv (.t 12)), o 148 (.bin .lss (.t 147) (.c (.int .i64 0)))]) (.cond (.t 148) (.exit 0) .skip)) (.seq (.reg [o 149 (.mv (.t 5)), o 150 (.mv (.t 12)), o 151 (.fldA 5 (.t 11)), ⟨none, .st 1 (.t 151) (.t 149), none⟩, o 152 (.fldA 6 (.t 11)), ⟨none, .st 1 (.t 152) (.t 150), none⟩]) (.seq (.reg [o 153 (.mv (.t 4)), o 154 (.ld 7 true (.t 11)), o 155 (.bldF 43 7 [.t 154]), o 156 (.app 43 7 88 (.t 153) (.t 155)), o 4 (.mv (.t 156))]) (.seq (.seq (.reg [o 157 (.mv (.t 13))]) (.cond (.t 157) (.reg [o 158 (.mv (.t 12)), o 6 (.mv (.t 158))]) .skip)) (.seq (.seq (.reg [o 159 (.fldA 0 (.t 11)), o 160 (.ld 1 false (.t 159)), o 161 (.bin .eql (.t 160) (.c (.int .i64 1))), o 162 (.mv (.t 161)), ⟨some 163, .fldA 1 (.t 11), some (162, true)⟩, ⟨some 164, .ld 1 false (.t 163), some (162, true)⟩, ⟨some 165, .pcall 17 [.t 164], some (162, true)⟩, ⟨some 166, .bin .gtr (.t 165) (.c (.int .i64 0)), some (162, true)⟩, o 167 (.pick (.t 162) (.t 166) (.c (.bool false)))]) (.cond (.t 167) (.reg [o 168 (.fldA 1 (.t 11)), o 169 (.ld 1 false (.t 168)), o 7 (.mv (.t 169))]) .skip)) (.reg [o 170 (.mv (.t 12)), o 5 (.mv (.t 170))])))))))))))))))))) (.seq (.reg [o 171 (.mv (.t 4)), o 172 (.mv (.t 6)), o 2 (.mv (.t 171)), o 3 (.mv (.t 172))]) .ret)))), [.tmp 2, .tmp 3]⟩
theorem hc9 : Y5 Tryz.prog {pure := [14, 16, 15, 20, 17, 18]} Tryz.f9 = some c9 := by kernel_rfl
def rndC : SCode := cB (cR (cB (cB (cL (cR (cR (cR c9.code)))))))
def txtC : SCode := cL (cR rndC)
def Ft (e0 e : Env) : Prop := ∀ t, t <= 7 -> e t = e0 t
theorem Ft.refl (e : Env) : Ft e e := fun _ _ => rfl
theorem Ft.put {e0 e : Env} (F : Ft e0 e) {k : Nat} (hk : 8 <= k) (v : AVal) : Ft e0 (upd e k v) := fun t h1 => by
  rw [Q9 _ _ (by omega)]; exact F t h1
def stopT (s : List UInt8) (rw : List UInt8) (i : Nat) : Bool := if rw = [] then Y1 s i != 0 else X8 s i rw
theorem textEnd_stop (s rw : List UInt8) (a : Nat) : Z8 s a rw = Y0 (stopT s rw) s.length a := by
  unfold Z8 stopT
  split <;> rfl
theorem kindR_pos (s : List UInt8) (a : Nat) : decide (0 < kindR s a) = (Y1 s a != 0) := by
  rw [kindR_eq]
  by_cases h0 : Y1 s a = 0
  · rw [h0]; decide
  · have : 0 < (if Y1 s a = 97 then (1 : Int) else if Y1 s a = 47 then 2 else if Y1 s a = 0 then 0 else 3) := by
      (repeat' split) <;> first | decide | omega
    rw [decide_eq_true this]; simpa using h0
theorem txt_ok {s rw : List UInt8} {e : Env} {h : Q2} {K : SExit -> Env -> Q2 -> Prop} {j : Nat} (e0 : e 0 = .str s) (e7 : e 7 = .str rw) (e8 : e 8 = Q3 j) (hj : j <= s.length) (hs : s.length <= 4000000) (hw : rw.length <= 1000)
    (hK : ∀ e' : Env, Ft e e' -> e' 8 = Q3 (Z8 s j rw) -> K .normal e' h) : vc (Pg G) txtC K e h := by
  rw [textEnd_stop] at hK
  skip
  simp -dsimp -implicitDefEqProofs (disch := omega) only [VCA, txtC, rndC, cL, cR, cB, c9]
  refine LoopVC.intro (fun m e' h' => ∃ i : Nat, i <= s.length /\ m = s.length - i /\ Ft e e' /\ e' 8 = Q3 i /\ h' = h /\ Y0 (stopT s rw) s.length i = Y0 (stopT s rw) s.length j) (s.length - j)
    (by exact ⟨j, hj, rfl, .refl _, e8, rfl, rfl⟩) ?_
  rintro m e' h' ⟨i, hi, rfl, hp, e8', rfl, hsk⟩
  have e0' : e' 0 = .str s := (hp 0 (by omega)).trans e0
  have e7' : e' 7 = .str rw := (hp 7 (by omega)).trans e7
  by_cases hl : i < s.length
  · have hd : decide ((i : Int) < (s.length : Int)) = true := decide_eq_true (by omega)
    by_cases hrw : rw = []
    · subst hrw
      have cK := refKind_ok (G := G) s i hl hs
      have hkp := kindR_pos s i
      have hst : stopT s [] i = (Y1 s i != 0) := if_pos rfl
      rw [<- hkp] at hst
      have n0 : (([] : List UInt8) != []) = false := rfl
      have q0 : (([] : List UInt8) == []) = true := rfl
      cases hk : decide (0 < kindR s i) <;> rw [hk] at hst
      · have hx := W4 hl hst
        have hk' : decide (kindR s i > 0) = false := hk
        repeat' (first | ((with_reducible refine brC (fun _ => ?_) fun _ => ?_) <;> try (exfalso; omega)) | (with_reducible apply pcallE.of; · exact cK) | (with_reducible refine And.intro ?_ ?_; · omega) | simp -dsimp -implicitDefEqProofs (disch := omega) only [↓Q0 25, ↓Q0 32, ↓Q0 61, VCA, Nat.reduceEqDiff, ↓reduceIte, reduceCtorEq, e0', e7', e8', hd, hk', n0, q0])
        exact ⟨_, by omega, i + 1, by omega, rfl, by repeat' (first | exact hp | refine Ft.put ?_ (by omega) _), by omega, hx.symm.trans hsk⟩
      · have hx := Y9 hst hl
        have hk' : decide (kindR s i > 0) = true := hk
        repeat' (first | ((with_reducible refine brC (fun _ => ?_) fun _ => ?_) <;> try (exfalso; omega)) | (with_reducible apply pcallE.of; · exact cK) | (with_reducible refine And.intro ?_ ?_; · omega) | simp -dsimp -implicitDefEqProofs (disch := omega) only [↓Q0 25, ↓Q0 32, ↓Q0 61, VCA, Nat.reduceEqDiff, ↓reduceIte, reduceCtorEq, e0', e7', e8', hd, hk', n0, q0])
        exact hK _ (by repeat' (first | exact hp | refine Ft.put ?_ (by omega) _)) (by rw [<- hsk, hx]; exact e8')
    · have r1 : (rw != []) = true := by simpa using hrw
      have r2 : (rw == []) = false := by simpa using hrw
      have cS := K6 (G := G) s (60 :: 47 :: rw) i (by omega) hs (by simp only [List.length_cons]; omega)
      have hst : stopT s rw i = X8 s i rw := if_neg hrw
      unfold X8 at hst
      cases hb1 : Z7 s i (60 :: 47 :: rw) <;> rw [hb1] at hst cS
      · rw [Bool.false_and, Bool.and_false] at hst
        have hx := W4 hl hst
        repeat' (first | ((with_reducible refine brC (fun _ => ?_) fun _ => ?_) <;> try (exfalso; omega)) | (with_reducible apply pcallE.of; · exact cS) | (with_reducible refine And.intro ?_ ?_; · omega) | simp -dsimp -implicitDefEqProofs (disch := omega) only [↓Q0 25, ↓Q0 32, ↓Q0 61, VCA, Nat.reduceEqDiff, Nat.reduceAdd, ↓reduceIte, reduceCtorEq, e0', e7', e8', hd, r1, r2])
        exact ⟨_, by omega, i + 1, by omega, rfl, by repeat' (first | exact hp | refine Ft.put ?_ (by omega) _), by omega, hx.symm.trans hsk⟩
      · rw [Bool.true_and] at hst
        by_cases hlt : i + 2 + rw.length < s.length
        · rw [decide_eq_true hlt, Bool.true_and] at hst
          have hd2 : decide ((i : Int) + 2 + (rw.length : Int) < (s.length : Int)) = true := decide_eq_true (by omega)
          obtain ⟨b, hb⟩ : ∃ b, s.getD (i + 2 + rw.length) 0 = b := ⟨_, rfl⟩
          have tn : ((i : Int) + 2 + (rw.length : Int)).toNat = i + 2 + rw.length := by omega
          have eb : bt s (i + 2 + rw.length) = b.toNat := by unfold bt; rw [hb]
          have cB' := U2 (G := G) b
          rw [eb] at hst
          unfold Z9 at hst
          cases hb1 : U6 b.toNat <;> rw [hb1] at cB' hst
          · cases h47 : ((b.toNat : Int) == 47) <;> rw [h47] at hst
            · cases h62 : ((b.toNat : Int) == 62) <;> rw [h62] at hst
              · have hx := W4 hl hst
                repeat' (first | ((with_reducible refine brC (fun _ => ?_) fun _ => ?_) <;> try (exfalso; omega)) | (with_reducible apply pcallE.of; · exact cS) | (with_reducible apply pcallE.of; · exact cB') | (with_reducible refine And.intro ?_ ?_; · omega) | simp -dsimp -implicitDefEqProofs (disch := omega) only [↓Q0 25, ↓Q0 32, ↓Q0 51, ↓Q0 55, ↓Q0 61, VCA, Nat.reduceEqDiff, Nat.reduceAdd, ↓reduceIte, reduceCtorEq, e0', e7', e8', hd, r1, r2, hd2, tn, hb, h47, h62])
                exact ⟨_, by omega, i + 1, by omega, rfl, by repeat' (first | exact hp | refine Ft.put ?_ (by omega) _), by omega, hx.symm.trans hsk⟩
              · have hx := Y9 hst hl
                repeat' (first | ((with_reducible refine brC (fun _ => ?_) fun _ => ?_) <;> try (exfalso; omega)) | (with_reducible apply pcallE.of; · exact cS) | (with_reducible apply pcallE.of; · exact cB') | (with_reducible refine And.intro ?_ ?_; · omega) | simp -dsimp -implicitDefEqProofs (disch := omega) only [↓Q0 25, ↓Q0 32, ↓Q0 51, ↓Q0 55, VCA, Nat.reduceEqDiff, Nat.reduceAdd, ↓reduceIte, reduceCtorEq, e0', e7', e8', hd, r1, hd2, tn, hb, h47, h62])
                exact hK _ (by repeat' (first | exact hp | refine Ft.put ?_ (by omega) _)) (by rw [<- hsk, hx]; exact e8')
            · have hx := Y9 hst hl
              repeat' (first | ((with_reducible refine brC (fun _ => ?_) fun _ => ?_) <;> try (exfalso; omega)) | (with_reducible apply pcallE.of; · exact cS) | (with_reducible apply pcallE.of; · exact cB') | (with_reducible refine And.intro ?_ ?_; · omega) | simp -dsimp -implicitDefEqProofs (disch := omega) only [↓Q0 25, ↓Q0 32, ↓Q0 51, ↓Q0 55, VCA, Nat.reduceEqDiff, Nat.reduceAdd, ↓reduceIte, reduceCtorEq, e0', e7', e8', hd, r1, hd2, tn, hb, h47])
              exact hK _ (by repeat' (first | exact hp | refine Ft.put ?_ (by omega) _)) (by rw [<- hsk, hx]; exact e8')
          · have hx := Y9 hst hl
            repeat' (first | ((with_reducible refine brC (fun _ => ?_) fun _ => ?_) <;> try (exfalso; omega)) | (with_reducible apply pcallE.of; · exact cS) | (with_reducible apply pcallE.of; · exact cB') | (with_reducible refine And.intro ?_ ?_; · omega) | simp -dsimp -implicitDefEqProofs (disch := omega) only [↓Q0 25, ↓Q0 32, ↓Q0 51, ↓Q0 55, VCA, Nat.reduceEqDiff, Nat.reduceAdd, ↓reduceIte, reduceCtorEq, e0', e7', e8', hd, r1, hd2, tn, hb])
            exact hK _ (by repeat' (first | exact hp | refine Ft.put ?_ (by omega) _)) (by rw [<- hsk, hx]; exact e8')
        · rw [decide_eq_false hlt, Bool.false_and] at hst
          have hx := W4 hl hst
          have hd2 : decide ((i : Int) + 2 + (rw.length : Int) < (s.length : Int)) = false := decide_eq_false (by omega)
          repeat' (first | ((with_reducible refine brC (fun _ => ?_) fun _ => ?_) <;> try (exfalso; omega)) | (with_reducible apply pcallE.of; · exact cS) | (with_reducible refine And.intro ?_ ?_; · omega) | simp -dsimp -implicitDefEqProofs (disch := omega) only [↓Q0 25, ↓Q0 32, ↓Q0 61, VCA, Nat.reduceEqDiff, Nat.reduceAdd, ↓reduceIte, reduceCtorEq, e0', e7', e8', hd, r1, r2, hd2])
          exact ⟨_, by omega, i + 1, by omega, rfl, by repeat' (first | exact hp | refine Ft.put ?_ (by omega) _), by omega, hx.symm.trans hsk⟩
  · have hx : Y0 (stopT s rw) s.length i = i := U5 (by omega)
    have hd : decide ((i : Int) < (s.length : Int)) = false := decide_eq_false (by omega)
    repeat' (first | ((with_reducible refine brC (fun _ => ?_) fun _ => ?_) <;> try (exfalso; omega)) | (with_reducible refine And.intro ?_ ?_; · omega) | simp -dsimp -implicitDefEqProofs (disch := omega) only [VCA, Nat.reduceEqDiff, ↓reduceIte, reduceCtorEq, e0', e8', hd])
    all_goals first | (exfalso; omega) | exact hK _ (by repeat' (first | exact hp | refine Ft.put ?_ (by omega) _)) (by rw [<- hsk, hx]; exact e8')
def encA (t : HTok) (l : AVal) : List AVal := [Q3 t.kind, .str t.name, l, .str t.text, .bool t.self, Q3 t.frm, Q3 t.til]
def encR (t : HTok) : List AVal := encA t (if t.kind = 1 then sl Z6 t.attrs else .emp)
def txpC : SCode := cL (cR (cR rndC))
def Fp (e0 e : Env) : Prop := ∀ t, t <= 8 -> t ≠ 4 -> e t = e0 t
theorem Fp.refl (e : Env) : Fp e e := fun _ _ _ => rfl
theorem Fp.put {e0 e : Env} (F : Fp e0 e) {k : Nat} (hk : 9 <= k \/ k = 4) (v : AVal) : Fp e0 (upd e k v) := fun t h1 h2 => by
  rw [Q9 _ _ (by omega)]; exact F t h1 h2
theorem txp_ok {h0 h : Q2} {s rw : List UInt8} {e : Env} {K : SExit -> Env -> Q2 -> Prop} {p : Nat} {T : List HTok} {out : AVal} (e0 : e 0 = .str s) (e4 : e 4 = out) (e5 : e 5 = Q3 p) (e7 : e 7 = .str rw) (e8 : e 8 = Q3 (Z8 s p rw)) (hp : p <= s.length) (hs : s.length <= 4000000) (hT : T.length <= 4000000)
    (A : Acc h0 Tt 7 (T.map encR) out h) (S : Sub h0 h)
    (hK : ∀ (e' : Env) (h' : Q2) (out' : AVal), Fp e e' -> e' 4 = out' -> Acc h0 Tt 7 ((T ++ Y7 s p rw).map encR) out' h' -> Sub h0 h' -> K .normal e' h') : vc (Pg G) txpC K e h := by
  obtain ⟨h1, h2⟩ := XX (nm := rw) hp
  unfold Y7 at hK
  obtain ⟨E, hE⟩ : ∃ E, Z8 s p rw = E := ⟨_, rfl⟩
  rw [hE] at e8 h1 h2 hK
  have cW := ZX (G := G) rw
  have cE1 : PCalls (Pg G) 18 [.str ((s.take E).drop p), .bool false] (.str (K4 (seg s p E) false)) := refRead_ok (G := G) (seg s p E) false (by have := YY s p E; omega)
  obtain ⟨tx, htx⟩ : ∃ t, K4 (seg s p E) false = t := ⟨_, rfl⟩
  rw [htx] at cE1 hK
  have iv := Acc.isv A
  skip
  by_cases hlt : p < E
  · rw [if_pos hlt] at hK
    have hd : decide ((E : Int) > (p : Int)) = true := decide_eq_true (by omega)
    have el : (T.map encR).length = T.length := List.length_map ..
    by_cases hr : X2 rw = 1
    · rw [hr] at cW
      rw [if_pos hr] at hK
      repeat' (first | ((with_reducible refine brC (fun _ => ?_) fun _ => ?_) <;> try (exfalso; omega)) | (with_reducible apply pcallE.of; · exact cW) | (with_reducible refine And.intro ?_ ?_; · omega) | simp -dsimp -implicitDefEqProofs (disch := omega) only [VCA, Nat.reduceEqDiff, Nat.reduceAdd, Nat.reduceLeDiff, ↓reduceIte, reduceCtorEq, J4, X7, Y6, forall_eq, exists_eq_left, txpC, rndC, cL, cR, cB, c9, e0, e4, e5, e7, e8, hd])
      refine A.appW S (by rw [el]; simp only [List.length_cons, List.length_nil]; omega) (by rw [el]; simp only [List.length_cons, List.length_nil]; omega) fun a' hD AD SD kD => ?_
      repeat' (first | ((with_reducible refine brC (fun _ => ?_) fun _ => ?_) <;> try (exfalso; omega)) | (with_reducible refine And.intro ?_ ?_; · omega) | simp -dsimp -implicitDefEqProofs (disch := omega) only [VCA, ↓reduceIte])
      exact hK _ _ a' (by repeat' (first | exact .refl _ | refine Fp.put ?_ (by omega) _)) (by simp [upd]) (by rw [List.map_append]; exact AD) SD
    · have hr2 : (X2 rw != 1) = true := by simpa using hr
      rw [if_neg hr] at hK
      repeat' (first | ((with_reducible refine brC (fun _ => ?_) fun _ => ?_) <;> try (exfalso; omega)) | (with_reducible apply pcallE.of; · exact cW) | (with_reducible apply pcallE.of; · exact cE1) | (with_reducible refine And.intro ?_ ?_; · omega) | simp -dsimp -implicitDefEqProofs (disch := omega) only [VCA, Nat.reduceEqDiff, Nat.reduceAdd, Nat.reduceLeDiff, ↓reduceIte, reduceCtorEq, J4, X7, Y6, forall_eq, exists_eq_left, txpC, rndC, cL, cR, cB, c9, e0, e4, e5, e7, e8, hd, hr2])
      refine A.appW S (by rw [el]; simp only [List.length_cons, List.length_nil]; omega) (by rw [el]; simp only [List.length_cons, List.length_nil]; omega) fun a' hD AD SD kD => ?_
      repeat' (first | ((with_reducible refine brC (fun _ => ?_) fun _ => ?_) <;> try (exfalso; omega)) | (with_reducible refine And.intro ?_ ?_; · omega) | simp -dsimp -implicitDefEqProofs (disch := omega) only [VCA, ↓reduceIte])
      exact hK _ _ a' (by repeat' (first | exact .refl _ | refine Fp.put ?_ (by omega) _)) (by simp [upd]) (by rw [List.map_append]; exact AD) SD
  · rw [if_neg hlt, List.append_nil] at hK
    have hd : decide ((E : Int) > (p : Int)) = false := decide_eq_false (by omega)
    repeat' (first | ((with_reducible refine brC (fun _ => ?_) fun _ => ?_) <;> try (exfalso; omega)) | (with_reducible refine And.intro ?_ ?_; · omega) | simp -dsimp -implicitDefEqProofs (disch := omega) only [VCA, Nat.reduceEqDiff, ↓reduceIte, txpC, rndC, cL, cR, cB, c9, e5, e8, hd])
    exact hK _ _ out (by repeat' (first | exact .refl _ | refine Fp.put ?_ (by omega) _)) e4 A S
def tailC : SCode := cR (cR (cR (cR (cR (cR (cR (cR rndC)))))))
theorem tail_ok {h0 h : Q2} {s : List UInt8} {e : Env} {K : SExit -> Env -> Q2 -> Prop} {a b sf r11 : Nat} {T : List HTok} {t : HTok} {l out : AVal} {en : Bool}
    (e0 : e 0 = .str s) (e4 : e 4 = out) (e5 : e 5 = Q3 a) (e6 : e 6 = Q3 sf) (e7 : e 7 = .str []) (e11 : e 11 = .vp r11 0) (e12 : e 12 = Q3 b) (e13 : e 13 = .bool en) (hT : T.length <= 4000000)
    (A : Acc h0 Tt 7 (T.map encR) out h) (S : Sub h0 h) (n11 : h0 r11 = none) (z11 : h r11 = some ⟨Tt, 7, [encA t l]⟩) (hl : l = if t.kind = 1 then sl Z6 t.attrs else .emp) (hro : rootOf out ≠ some r11)
    (hK : ∀ (e' : Env) (h' : Q2) (out' : AVal), e' 0 = .str s -> e' 4 = out' -> e' 5 = Q3 b -> e' 6 = Q3 (if en = true then b else sf : Nat) -> e' 7 = .str (W7 t) -> Acc h0 Tt 7 ((T ++ [{ t with frm := a, til := b }]).map encR) out' h' -> Sub h0 h' -> K .normal e' h') : vc (Pg G) tailC K e h := by
  have el : (T.map encR).length = T.length := List.length_map ..
  obtain ⟨kd, nm, at', tx, sl', fr, ti⟩ := t
  have cW := ZX (G := G) nm
  have iv := Acc.isv A
  have lv : isV l = true /\ cellsOf l = [l] := by
    subst hl
    simp only
    split <;> exact ⟨rfl, rfl⟩
  unfold encA at z11
  simp only at z11
  have hd : decide ((b : Int) < 0) = false := decide_eq_false (by omega)
  skip
  have FIN : ∀ (a' : AVal) (hD : Q2) (e' : Env) (w : List UInt8), w = W7 ⟨kd, nm, at', tx, sl', fr, ti⟩ -> Acc h0 Tt 7 (T.map encR ++ [[Q3 kd, .str nm, l, .str tx, .bool sl', Q3 a, Q3 b]]) a' hD -> Sub h0 hD -> e' 0 = .str s -> e' 4 = a' -> e' 5 = Q3 b -> e' 6 = Q3 (if en = true then b else sf : Nat) -> e' 7 = .str w -> K .normal e' hD := fun a' hD e' w hw AD SD q0 q4 q5 q6 q7 =>
    hK e' hD a' q0 q4 q5 q6 (by rw [q7, hw]) (by rw [List.map_append]; subst hl; exact AD) SD
  cases hk1 : (kd == 1)
  · have hw : ([] : List UInt8) = W7 ⟨kd, nm, at', tx, sl', fr, ti⟩ := by unfold W7; rw [if_neg]; rintro ⟨q, _⟩; simp only at q; rw [q] at hk1; cases hk1
    cases en
    all_goals
      repeat' (first | ((with_reducible refine brC (fun _ => ?_) fun _ => ?_) <;> try (exfalso; omega)) | (with_reducible refine And.intro ?_ ?_; · omega) | simp -dsimp -implicitDefEqProofs (disch := omega) only [VCA, Nat.reduceEqDiff, Nat.reduceAdd, Nat.reduceLT, Nat.reduceLeDiff, ↓reduceIte, J4, Z3, forall_eq, exists_eq_left, exists_eq_left', tailC, rndC, cL, cR, cB, c9, e4, e5, e11, e12, hd, z11])
      refine (A.keepA hro _).appW (S.upd n11) (by rw [el]; simp only [List.length_cons, List.length_nil]; omega) (by rw [el]; simp only [List.length_cons, List.length_nil]; omega) fun a' hD AD SD kD => ?_
      have d11 := (kD r11 _ (Z1 _ _ _) hro).1
      repeat' (first | ((with_reducible refine brC (fun _ => ?_) fun _ => ?_) <;> try (exfalso; omega)) | (with_reducible refine And.intro ?_ ?_; · omega) | simp -dsimp -implicitDefEqProofs (disch := omega) only [↓Q0 162, VCA, Nat.reduceEqDiff, Nat.reduceAdd, Nat.reduceLT, Nat.reduceLeDiff, ↓reduceIte, exists_eq_left', e11, e12, e13, d11, hk1])
      exact FIN a' hD _ _ hw AD SD (by simp [upd, e0]) (by simp [upd]) (by simp [upd]) (by simp [upd, e6]) (by simp [upd, e7])
  · by_cases hr : 0 < X2 nm
    · have hr2 : decide (X2 nm > 0) = true := decide_eq_true hr
      have hw : nm = W7 ⟨kd, nm, at', tx, sl', fr, ti⟩ := by unfold W7; rw [if_pos ⟨by simpa using hk1, hr⟩]
      cases en
      all_goals
        repeat' (first | ((with_reducible refine brC (fun _ => ?_) fun _ => ?_) <;> try (exfalso; omega)) | (with_reducible refine And.intro ?_ ?_; · omega) | simp -dsimp -implicitDefEqProofs (disch := omega) only [VCA, Nat.reduceEqDiff, Nat.reduceAdd, Nat.reduceLT, Nat.reduceLeDiff, ↓reduceIte, J4, Z3, forall_eq, exists_eq_left, exists_eq_left', tailC, rndC, cL, cR, cB, c9, e4, e5, e11, e12, hd, z11])
        refine (A.keepA hro _).appW (S.upd n11) (by rw [el]; simp only [List.length_cons, List.length_nil]; omega) (by rw [el]; simp only [List.length_cons, List.length_nil]; omega) fun a' hD AD SD kD => ?_
        have d11 := (kD r11 _ (Z1 _ _ _) hro).1
        repeat' (first | ((with_reducible refine brC (fun _ => ?_) fun _ => ?_) <;> try (exfalso; omega)) | (with_reducible apply pcallE.of; · exact cW) | (with_reducible refine And.intro ?_ ?_; · omega) | simp -dsimp -implicitDefEqProofs (disch := omega) only [↓Q0 162, VCA, Nat.reduceEqDiff, Nat.reduceAdd, Nat.reduceLT, Nat.reduceLeDiff, ↓reduceIte, exists_eq_left', e11, e12, e13, d11, hk1, hr2])
        exact FIN a' hD _ _ hw AD SD (by simp [upd, e0]) (by simp [upd]) (by simp [upd]) (by simp [upd, e6]) (by simp [upd])
    · have hr2 : decide (X2 nm > 0) = false := decide_eq_false hr
      have hw : ([] : List UInt8) = W7 ⟨kd, nm, at', tx, sl', fr, ti⟩ := by unfold W7; rw [if_neg]; rintro ⟨_, q⟩; exact hr q
      cases en
      all_goals
        repeat' (first | ((with_reducible refine brC (fun _ => ?_) fun _ => ?_) <;> try (exfalso; omega)) | (with_reducible refine And.intro ?_ ?_; · omega) | simp -dsimp -implicitDefEqProofs (disch := omega) only [VCA, Nat.reduceEqDiff, Nat.reduceAdd, Nat.reduceLT, Nat.reduceLeDiff, ↓reduceIte, J4, Z3, forall_eq, exists_eq_left, exists_eq_left', tailC, rndC, cL, cR, cB, c9, e4, e5, e11, e12, hd, z11])
        refine (A.keepA hro _).appW (S.upd n11) (by rw [el]; simp only [List.length_cons, List.length_nil]; omega) (by rw [el]; simp only [List.length_cons, List.length_nil]; omega) fun a' hD AD SD kD => ?_
        have d11 := (kD r11 _ (Z1 _ _ _) hro).1
        repeat' (first | ((with_reducible refine brC (fun _ => ?_) fun _ => ?_) <;> try (exfalso; omega)) | (with_reducible apply pcallE.of; · exact cW) | (with_reducible refine And.intro ?_ ?_; · omega) | simp -dsimp -implicitDefEqProofs (disch := omega) only [↓Q0 162, VCA, Nat.reduceEqDiff, Nat.reduceAdd, Nat.reduceLT, Nat.reduceLeDiff, ↓reduceIte, exists_eq_left', e11, e12, e13, d11, hk1, hr2])
        exact FIN a' hD _ _ hw AD SD (by simp [upd, e0]) (by simp [upd]) (by simp [upd]) (by simp [upd, e6]) (by simp [upd, e7])
theorem rawOf_len (t : HTok) : (W7 t).length <= 8 := by
  unfold W7
  split
  · rename_i h
    have h2 := h.2
    unfold X2 at h2
    split at h2
    · rename_i q; rcases q with q | q <;> rw [q] <;> decide
    · split at h2
      · rename_i q; rcases q with q | q <;> rw [q] <;> decide
      · exact absurd h2 (by decide)
  · simp
def restR : SCode := cR (cR (cR rndC))
theorem rest_eq : restR = .seq (cL restR) (.seq (cL (cR restR)) (.seq (cL (cR (cR restR))) (.seq (cL (cR (cR (cR restR)))) (.seq (cL (cR (cR (cR (cR restR))))) tailC)))) := rfl
theorem declM_kind (s : List UInt8) (a : Nat) : (ZU s a).1.kind = 4 \/ (ZU s a).1.kind = 5 := by
  unfold ZU UQ
  (repeat' split) <;> first | exact .inl rfl | exact .inr rfl
theorem mark_decl {s : List UInt8} {a : Nat} (hk : Y1 s a ≠ 0) (h97 : Y1 s a ≠ 97) (h47 : Y1 s a = 47 -> bt s (a + 2) ≠ 62 /\ U1 (bt s (a + 2)) = false) : ∃ t en b, X5 s a = some (t, en, b) /\ (t.kind = 4 \/ t.kind = 5) := by
  obtain ⟨_, _, hc⟩ := kind_is hk
  unfold X5
  rw [if_neg h97]
  rcases hc with hc | hc | hc | ⟨hc, _⟩
  · exact absurd hc h97
  · rw [if_pos hc]; exact ⟨_, _, _, rfl, declM_kind s a⟩
  · rw [hc, if_neg (by decide), if_pos rfl]; exact ⟨_, _, _, rfl, .inl rfl⟩
  · obtain ⟨q1, q2⟩ := h47 hc
    rw [hc, if_neg (by decide), if_neg (by decide), if_neg q1, q2, if_neg (by simp)]; exact ⟨_, _, _, rfl, .inl rfl⟩
theorem refDecl_at {s : List UInt8} {a : Nat} {t : HTok} {en : Bool} {b : Nat} (h : Q2) (hk : Y1 s a ≠ 0) (h97 : Y1 s a ≠ 97) (h47 : Y1 s a = 47 -> bt s (a + 2) ≠ 62 /\ U1 (bt s (a + 2)) = false) (hq : X5 s a = some (t, en, b)) (hs : s.length <= 4000000) :
    DCalls (Pg G) 21 [.str s, Q3 a] h fun r h' => h' = h /\ r = .tup [.agg (encA t .emp), Q3 b, .bool en] := by
  refine (refDecl_ok h hk h97 h47 hq hs).outV fun r h' ⟨e, S⟩ => ?_
  subst e
  exact ⟨h, newH _ h', _, S, newH_sub _ _, VJ _ _, .tup' (.cons (.refl _) (.cons (.refl _) (.cons (.refl _) .nil))), rfl, rfl⟩
def RReadK (h0 : Q2) (s : List UInt8) (r : AVal) (h' : Q2) : Prop := ∃ out, Acc h0 Tt 7 ((T7 s).1.map encR) out h' /\ Sub h0 h' /\ r = .tup [out, Q3 (T7 s).2]
theorem tagF_le {s : List UInt8} : ∀ (f c : Nat) (l : List HAttr) {q : List HAttr × Bool × Nat}, c <= s.length -> WV s f c l = some q -> q.2.2 <= s.length
  | 0, c, l, q, _, h => by cases h
  | f + 1, c, l, q, hc, h => by
    rw [WV] at h
    have hu := T8 (q := X3) hc
    split at h
    · rename_i hl
      split at h
      · cases h; simp only; omega
      · exact tagF_le f _ _ (attr_next hl).2 h
    · cases h
theorem tagM_le {s : List UInt8} {c : Nat} {q : List UInt8 × List HAttr × Bool × Nat} (hc : c <= s.length) (h : UU s c = some q) : q.2.2.2 <= s.length := by
  unfold UU at h
  have hu := T8 (q := Z9) hc
  cases hh : WV s (s.length + 1) (Z4 Z9 s c) [] with
  | none => rw [hh] at h; cases h
  | some x =>
    rw [hh] at h; cases h
    exact tagF_le _ _ _ hu.2 hh
theorem declM_le {s : List UInt8} {a : Nat} (ha : a + 1 < s.length) : (ZU s a).2.2 <= s.length := by
  unfold ZU
  split
  · rename_i h
    have h4 : a + 4 <= s.length := (stand_iff.1 h).1
    split
    · rename_i h1
      have : a + 4 + 1 <= s.length := (stand_iff.1 h1).1
      simp only; omega
    · split
      · rename_i h1
        have : a + 4 + 2 <= s.length := (stand_iff.1 h1).1
        simp only; omega
      · exact com_le h4
  · split
    · simp only
      split <;> omega
    · exact com_le (by omega)
theorem mark_le {s : List UInt8} {a : Nat} {q : HTok × Bool × Nat} (hk : Y1 s a ≠ 0) (h : X5 s a = some q) : q.2.2 <= s.length := by
  obtain ⟨_, h1, hc⟩ := kind_is hk
  unfold X5 at h
  rcases hc with hc | hc | hc | ⟨hc, h2⟩
  · rw [hc, if_pos rfl] at h
    cases ht : UU s (a + 1) with
    | none => rw [ht] at h; cases h
    | some x => rw [ht] at h; cases h; exact tagM_le (by omega) ht
  · rw [hc, if_neg (by decide), if_pos rfl] at h
    cases h; exact declM_le h1
  · rw [hc, if_neg (by decide), if_neg (by decide), if_pos rfl] at h
    cases h; exact com_le (by omega)
  · rw [hc, if_neg (by decide), if_neg (by decide), if_neg (by decide)] at h
    split at h
    · cases h; simp only; omega
    · split at h
      · cases ht : UU s (a + 2) with
        | none => rw [ht] at h; cases h
        | some x => rw [ht] at h; cases h; exact tagM_le (by omega) ht
      · cases h; exact com_le (by omega)
def RInv (h0 : Q2) (s : List UInt8) (m : Nat) (e : Env) (h' : Q2) : Prop :=
  ∃ (p f sf : Nat) (T : List HTok) (rw : List UInt8) (out : AVal), p <= s.length /\ m = s.length - p /\ e 0 = .str s /\ e 4 = out /\ e 5 = Q3 p /\ e 6 = Q3 sf /\ e 7 = .str rw /\ rw.length <= 8 /\ Acc h0 Tt 7 (T.map encR) out h' /\ Sub h0 h' /\
    T.length <= 2 * p /\ s.length < f + p /\ V5 s f (Z8 s p rw) (T ++ Y7 s p rw) sf = T7 s
theorem accT_off {h0 h : Q2} {ty : TypeId} {sz r : Nat} {cells : List (List AVal)} {a : AVal} (A : Acc h0 ty sz cells a h) (hr : h r = none) : rootOf a ≠ some r := fun e => by
  rcases A with ⟨_, rfl⟩ | ⟨r', _, q1, rfl⟩
  · cases e
  · cases e; rw [hr] at q1; cases q1
theorem rnd_close {h0 h2 : Q2} {s : List UInt8} {e3 : Env} {K : SExit -> Env -> Q2 -> Prop} {p E f sf r11 b : Nat} {T' : List HTok} {t : HTok} {out2 l : AVal} {en : Bool} {X : AObj}
    (hs : s.length <= 1900000) (hp : p <= E) (hE : E < s.length) (hk : Y1 s E ≠ 0) (hq : X5 s E = some (t, en, b)) (hk0 : t.kind ≠ 0) (hT : T'.length <= 2 * p + 1) (hf : s.length < f + 1 + p)
    (hrd : V5 s (f + 1) E T' sf = T7 s) (A2 : Acc h0 Tt 7 (T'.map encR) out2 h2) (S2 : Sub h0 h2) (hr11 : h2 r11 = none)
    (g0 : e3 0 = .str s) (g4 : e3 4 = out2) (g5 : e3 5 = Q3 E) (g6 : e3 6 = Q3 sf) (g7 : e3 7 = .str []) (g11 : e3 11 = .vp r11 0) (g12 : e3 12 = Q3 b) (g13 : e3 13 = .bool en)
    (hl : l = if t.kind = 1 then sl Z6 t.attrs else .emp) (hX : X = ⟨Tt, 7, [encA t l]⟩)
    (hK : ∀ (e' : Env) (h' : Q2) (m' : Nat), m' < s.length - p -> RInv h0 s m' e' h' -> K .normal e' h') : vc (Pg G) tailC K e3 (upd h2 r11 (some X)) := by
  have hm := mark_is hk hq
  have hle := mark_le hk hq
  simp only at hm hle
  have hro := accT_off A2 hr11
  have n11 := S2.none hr11
  subst hX
  refine tail_ok (G := G) (s := s) (a := E) (b := b) (sf := sf) (T := T') (t := t) (l := l) (en := en) g0 g4 g5 g6 g7 g11 g12 g13 (by omega) (A2.keepA hro _) (S2.upd n11) n11 (Z1 _ _ _) hl hro ?_
  intro e' h' out' q0 q4 q5 q6 q7 A' S'
  rw [V5, if_pos hE, hq] at hrd
  have hrd : V5 s f (Z8 s b (W7 t)) (T' ++ (putT t E b ++ Y7 s b (W7 t))) (if en = true /\ t.kind ≠ 0 then b else sf) = T7 s := hrd
  have e1 : putT t E b = [{ t with frm := E, til := b }] := if_neg hk0
  have e2 : (if en = true /\ t.kind ≠ 0 then b else sf) = if en = true then b else sf := by
    cases en
    · rw [if_neg (by rintro ⟨q, _⟩; cases q), if_neg (by simp)]
    · rw [if_pos ⟨rfl, hk0⟩, if_pos rfl]
  rw [e1, e2, <- List.append_assoc] at hrd
  refine hK e' h' (s.length - b) (by omega) ⟨b, f, _, _, W7 t, out', hle, rfl, q0, q4, q5, q6, q7, rawOf_len t, A', S', ?_, by omega, hrd⟩
  rw [List.length_append]; simp only [List.length_cons, List.length_nil]; omega
theorem refTokenRead_raw (h0 : Q2) {s : List UInt8} (hs : s.length <= 1900000) : DCalls (Pg G) 9 [.str s] h0 (RReadK h0 s) := by
  have l0 := XX (s := s) (nm := []) (a := 0) (by omega)
  refine Q1 Tryz.func9 (by kernel_rfl) hc9 (by rw [Tryz.ntmps9]; simp) (by rw [Tryz.ntmps9]; decide) ?_
  simp -dsimp -implicitDefEqProofs (disch := omega) only [VCA, c9]
  refine LoopVC.intro (RInv h0 s) s.length
    (by exact ⟨0, s.length + 1, 0, [], [], .emp, by omega, by omega, rfl, rfl, rfl, rfl, rfl, by decide, .nil, Sub.refl _, by simp, by omega, rfl⟩) ?_
  rintro m e h' ⟨p, f, sf, T, rw, out, hp, rfl, e0, e4, e5, e6, e7, hrw, A, S, hT, hf, hrd⟩
  obtain ⟨l1, l2⟩ := XX (nm := rw) hp
  have hkE := UV (nm := rw) hp
  have tl := TU s rw p
  obtain ⟨T', hT'⟩ : ∃ T', T ++ Y7 s p rw = T' := ⟨_, rfl⟩
  rw [hT'] at hrd
  have hTl : T'.length <= 2 * p + 1 := by rw [<- hT', List.length_append]; omega
  by_cases hlt : p < s.length
  · have hd : decide ((p : Int) < (s.length : Int)) = true := decide_eq_true (by omega)
    repeat' (first | ((with_reducible refine brC (fun _ => ?_) fun _ => ?_) <;> try (exfalso; omega)) | (with_reducible refine And.intro ?_ ?_; · omega) | simp -dsimp -implicitDefEqProofs (disch := omega) only [VCA, Nat.reduceEqDiff, ↓reduceIte, reduceCtorEq, e0, e5, hd])
    refine txt_ok (G := G) (s := s) (rw := rw) (j := p) ?_ ?_ ?_ hp (by omega) (by omega) ?_
    · simp [upd, e0]
    · simp [upd, e7]
    · simp [upd]
    intro e1 F1 f8
    have f0 : e1 0 = .str s := (F1 0 (by omega)).trans (by simp [upd, e0])
    have f4 : e1 4 = out := (F1 4 (by omega)).trans (by simp [upd, e4])
    have f5 : e1 5 = Q3 p := (F1 5 (by omega)).trans (by simp [upd, e5])
    have f6 : e1 6 = Q3 sf := (F1 6 (by omega)).trans (by simp [upd, e6])
    have f7 : e1 7 = .str rw := (F1 7 (by omega)).trans (by simp [upd, e7])
    refine txp_ok (G := G) (s := s) (rw := rw) (p := p) (T := T) f0 f4 f5 f7 f8 hp (by omega) (by omega) A S ?_
    intro e2 h2 out2 F2 g4 A2 S2
    rw [hT'] at A2
    obtain ⟨E, hE⟩ : ∃ E, Z8 s p rw = E := ⟨_, rfl⟩
    rw [hE] at hrd l1 l2 hkE f8
    have g0 : e2 0 = .str s := (F2 0 (by omega) (by omega)).trans f0
    have g6 : e2 6 = Q3 sf := (F2 6 (by omega) (by omega)).trans f6
    have g8 : e2 8 = Q3 E := (F2 8 (by omega) (by omega)).trans f8
    refine (?_ : vc (Pg G) restR _ e2 h2)
    rw [rest_eq]
    by_cases hEl : E < s.length
    · have be : ((E : Int) == (s.length : Int)) = false := by rw [beq_eq_false_iff_ne]; omega
      have hk := hkE hEl
      obtain ⟨f, rfl⟩ : ∃ g, f = g + 1 := ⟨f - 1, by omega⟩
      have cK := refKind_ok (G := G) s E hEl (by omega)
      rw [kindR_eq] at cK
      have hneg : decide ((-1 : Int) < 0) = true := rfl
      have k11 : ((1 : Int) == 1) = true := rfl
      have k21 : ((2 : Int) == 1) = false := rfl
      have k31 : ((3 : Int) == 1) = false := rfl
      have k22 : ((2 : Int) == 2) = true := rfl
      have k32 : ((3 : Int) == 2) = false := rfl
      have hro := fun {r : Nat} (hr : h2 r = none) => accT_off A2 hr
      obtain ⟨hb0, ha1, hc⟩ := kind_is hk
      repeat' (first | ((with_reducible refine brC (fun _ => ?_) fun _ => ?_) <;> try (exfalso; omega)) | (with_reducible refine And.intro ?_ ?_; · omega) | simp -dsimp -implicitDefEqProofs (disch := omega) only [VCA, Nat.reduceEqDiff, ↓reduceIte, reduceCtorEq, restR, rndC, cL, cR, cB, c9, g0, g8, be])
      intro r11 hr11
      rcases hc with hc | hc | hc | ⟨hc, ha2⟩
      · rw [hc, if_pos rfl] at cK
        have cT := fun h => refTag_ok (G := G) h (s := s) (a := E + 1) 1 (by omega) (by omega)
        have cT : ∀ h, DCalls (Pg G) 19 [.str s, .int .i64 ((E : Int) + 1), .int .i64 1] h _ := cT
        cases hq : UU s (E + 1) with
        | some q =>
          have hmk : X5 s E = some (⟨1, q.1, q.2.1, [], q.2.2.1, 0, 0⟩, true, q.2.2.2) := by unfold X5; rw [if_pos hc, hq]; rfl
          repeat' (first | ((with_reducible refine brC (fun _ => ?_) fun _ => ?_) <;> try (exfalso; omega)) | (with_reducible apply pcallE.of; · exact cK) | ((refine DCalls.of (cT _) ?_; rintro _ _ ⟨rfl, hr⟩; rw [hq] at hr; obtain rfl := hr)) | (with_reducible refine And.intro ?_ ?_; · omega) | simp -dsimp -implicitDefEqProofs (disch := omega) only [VCA, Nat.reduceEqDiff, Nat.reduceAdd, Nat.reduceLT, ↓reduceIte, reduceCtorEq, Z3, exists_eq_left', g0, k11])
          refine ⟨rfl, ?_⟩
          exact rnd_close (G := G) (s := s) (l := sl Z6 q.2.1) hs l1 hEl hk hmk (by show (1 : Int) ≠ 0; decide) hTl (by omega) hrd A2 S2 hr11 (by simp [upd, g0]) (by simp [upd, g4]) (by simp [upd]) (by simp [upd, g6]) (by simp [upd]) (by simp [upd]) (by simp [upd]) (by simp [upd]) rfl rfl (fun e' h' m' hm hi => by exact ⟨m', hm, hi⟩)
        | none =>
          have hmk : X5 s E = none := by unfold X5; rw [if_pos hc, hq]; rfl
          repeat' (first | ((with_reducible refine brC (fun _ => ?_) fun _ => ?_) <;> try (exfalso; omega)) | (with_reducible apply pcallE.of; · exact cK) | ((refine DCalls.of (cT _) ?_; rintro _ _ ⟨rfl, hr⟩; rw [hq] at hr; obtain ⟨t, rfl⟩ := hr)) | (with_reducible refine And.intro ?_ ?_; · omega) | simp -dsimp -implicitDefEqProofs (disch := omega) only [VCA, Nat.reduceEqDiff, Nat.reduceAdd, Nat.reduceLT, ↓reduceIte, reduceCtorEq, Z3, exists_eq_left', g0, k11])
          refine ⟨rfl, ?_⟩
          rw [V5, if_pos hEl, hmk] at hrd
          repeat' (first | ((with_reducible refine brC (fun _ => ?_) fun _ => ?_) <;> try (exfalso; omega)) | (with_reducible refine And.intro ?_ ?_; · omega) | simp -dsimp -implicitDefEqProofs (disch := omega) only [VCA, Nat.reduceEqDiff, ↓reduceIte, reduceCtorEq, tailC, rndC, cL, cR, cB, c9, g4, g6, hneg])
          exact ⟨_, Sub.refl _, out2, by rw [<- hrd]; exact A2.keepA (hro hr11) _, S2.upd (S2.none hr11), by rw [<- hrd]⟩
      · rw [hc, if_neg (by decide), if_neg (by decide), if_neg (by decide)] at cK
        obtain ⟨t, en, b, hmk, hkd⟩ := mark_decl hk (by omega) (fun q => by omega)
        have cD := fun h => refDecl_at (G := G) h hk (by omega) (fun q => by omega) hmk (by omega)
        repeat' (first | ((with_reducible refine brC (fun _ => ?_) fun _ => ?_) <;> try (exfalso; omega)) | (with_reducible apply pcallE.of; · exact cK) | ((refine DCalls.of (cD _) ?_; rintro _ _ ⟨rfl, rfl⟩)) | (with_reducible refine And.intro ?_ ?_; · omega) | simp -dsimp -implicitDefEqProofs (disch := omega) only [↓Q0 117, ↓Q0 131, VCA, Nat.reduceEqDiff, Nat.reduceAdd, Nat.reduceLT, ↓reduceIte, reduceCtorEq, Z3, exists_eq_left', g0, k31, k32])
        refine ⟨rfl, ?_⟩
        exact rnd_close (G := G) (s := s) (l := .emp) hs l1 hEl hk hmk (by omega) hTl (by omega) hrd A2 S2 hr11 (by simp [upd, g0]) (by simp [upd, g4]) (by simp [upd]) (by simp [upd, g6]) (by simp [upd]) (by simp [upd]) (by simp [upd]) (by simp [upd]) (by rw [if_neg (by omega)]) rfl (fun e' h' m' hm hi => by exact ⟨m', hm, hi⟩)
      · rw [hc, if_neg (by decide), if_neg (by decide), if_neg (by decide)] at cK
        obtain ⟨t, en, b, hmk, hkd⟩ := mark_decl hk (by omega) (fun q => by omega)
        have cD := fun h => refDecl_at (G := G) h hk (by omega) (fun q => by omega) hmk (by omega)
        repeat' (first | ((with_reducible refine brC (fun _ => ?_) fun _ => ?_) <;> try (exfalso; omega)) | (with_reducible apply pcallE.of; · exact cK) | ((refine DCalls.of (cD _) ?_; rintro _ _ ⟨rfl, rfl⟩)) | (with_reducible refine And.intro ?_ ?_; · omega) | simp -dsimp -implicitDefEqProofs (disch := omega) only [↓Q0 117, ↓Q0 131, VCA, Nat.reduceEqDiff, Nat.reduceAdd, Nat.reduceLT, ↓reduceIte, reduceCtorEq, Z3, exists_eq_left', g0, k31, k32])
        refine ⟨rfl, ?_⟩
        exact rnd_close (G := G) (s := s) (l := .emp) hs l1 hEl hk hmk (by omega) hTl (by omega) hrd A2 S2 hr11 (by simp [upd, g0]) (by simp [upd, g4]) (by simp [upd]) (by simp [upd, g6]) (by simp [upd]) (by simp [upd]) (by simp [upd]) (by simp [upd]) (by rw [if_neg (by omega)]) rfl (fun e' h' m' hm hi => by exact ⟨m', hm, hi⟩)
      · rw [hc, if_neg (by decide), if_pos rfl] at cK
        obtain ⟨b, hb⟩ : ∃ b, s.getD (E + 2) 0 = b := ⟨_, rfl⟩
        have eb : bt s (E + 2) = b.toNat := by unfold bt; rw [hb]
        have cL' := UK (G := G) b
        have tE : ((E : Int) + 2).toNat = E + 2 := by omega
        cases h62 : ((b.toNat : Int) == 62)
        · have h62' : bt s (E + 2) ≠ 62 := by rw [eb]; simpa using h62
          cases hlb : U1 (b.toNat : Int) <;> rw [hlb] at cL'
          · have q47 : Y1 s E = 47 -> bt s (E + 2) ≠ 62 /\ U1 (bt s (E + 2)) = false := fun _ => ⟨h62', by rw [eb]; exact hlb⟩
            obtain ⟨t, en, b', hmk, hkd⟩ := mark_decl hk (by omega) q47
            have cD := fun h => refDecl_at (G := G) h hk (by omega) q47 hmk (by omega)
            repeat' (first | ((with_reducible refine brC (fun _ => ?_) fun _ => ?_) <;> try (exfalso; omega)) | (with_reducible apply pcallE.of; · exact cK) | (with_reducible apply pcallE.of; · exact cL') | ((refine DCalls.of (cD _) ?_; rintro _ _ ⟨rfl, rfl⟩)) | (with_reducible refine And.intro ?_ ?_; · omega) | simp -dsimp -implicitDefEqProofs (disch := omega) only [↓Q0 117, ↓Q0 131, VCA, Nat.reduceEqDiff, Nat.reduceAdd, Nat.reduceLT, ↓reduceIte, reduceCtorEq, Z3, exists_eq_left', g0, k21, k22, tE, hb, h62])
            refine ⟨rfl, ?_⟩
            exact rnd_close (G := G) (s := s) (l := .emp) hs l1 hEl hk hmk (by omega) hTl (by omega) hrd A2 S2 hr11 (by simp [upd, g0]) (by simp [upd, g4]) (by simp [upd]) (by simp [upd, g6]) (by simp [upd]) (by simp [upd]) (by simp [upd]) (by simp [upd]) (by rw [if_neg (by omega)]) rfl (fun e' h' m' hm hi => by exact ⟨m', hm, hi⟩)
          · have cT := fun h => refTag_ok (G := G) h (s := s) (a := E + 2) 2 (by omega) (by omega)
            have cT : ∀ h, DCalls (Pg G) 19 [.str s, .int .i64 ((E : Int) + 2), .int .i64 2] h _ := cT
            cases hq : UU s (E + 2) with
            | some q =>
              have hmk : X5 s E = some (⟨2, q.1, [], [], false, 0, 0⟩, true, q.2.2.2) := by
                unfold X5; rw [hc, if_neg (by decide), if_neg (by decide), if_neg (by decide), if_neg h62', eb, if_pos hlb, hq]; rfl
              repeat' (first | ((with_reducible refine brC (fun _ => ?_) fun _ => ?_) <;> try (exfalso; omega)) | (with_reducible apply pcallE.of; · exact cK) | (with_reducible apply pcallE.of; · exact cL') | ((refine DCalls.of (cT _) ?_; rintro _ _ ⟨rfl, hr⟩; rw [hq] at hr; obtain rfl := hr)) | (with_reducible refine And.intro ?_ ?_; · omega) | simp -dsimp -implicitDefEqProofs (disch := omega) only [↓Q0 117, ↓Q0 131, VCA, Nat.reduceEqDiff, Nat.reduceAdd, Nat.reduceLT, Nat.reduceLeDiff, ↓reduceIte, reduceCtorEq, Z3, exists_eq_left', g0, k21, k22, tE, hb, h62, J6])
              exact rnd_close (G := G) (s := s) (l := .emp) hs l1 hEl hk hmk (by show (2 : Int) ≠ 0; decide) hTl (by omega) hrd A2 S2 hr11 (by simp [upd, g0]) (by simp [upd, g4]) (by simp [upd]) (by simp [upd, g6]) (by simp [upd]) (by simp [upd]) (by simp [upd]) (by simp [upd]) rfl rfl (fun e' h' m' hm hi => by exact ⟨m', hm, hi⟩)
            | none =>
              have hmk : X5 s E = none := by
                unfold X5; rw [hc, if_neg (by decide), if_neg (by decide), if_neg (by decide), if_neg h62', eb, if_pos hlb, hq]; rfl
              repeat' (first | ((with_reducible refine brC (fun _ => ?_) fun _ => ?_) <;> try (exfalso; omega)) | (with_reducible apply pcallE.of; · exact cK) | (with_reducible apply pcallE.of; · exact cL') | ((refine DCalls.of (cT _) ?_; rintro _ _ ⟨rfl, hr⟩; rw [hq] at hr; obtain ⟨t, rfl⟩ := hr)) | (with_reducible refine And.intro ?_ ?_; · omega) | simp -dsimp -implicitDefEqProofs (disch := omega) only [↓Q0 117, ↓Q0 131, VCA, Nat.reduceEqDiff, Nat.reduceAdd, Nat.reduceLT, Nat.reduceLeDiff, ↓reduceIte, reduceCtorEq, Z3, exists_eq_left', g0, k21, k22, tE, hb, h62, J6])
              rw [V5, if_pos hEl, hmk] at hrd
              repeat' (first | ((with_reducible refine brC (fun _ => ?_) fun _ => ?_) <;> try (exfalso; omega)) | (with_reducible refine And.intro ?_ ?_; · omega) | simp -dsimp -implicitDefEqProofs (disch := omega) only [VCA, Nat.reduceEqDiff, ↓reduceIte, reduceCtorEq, tailC, rndC, cL, cR, cB, c9, g4, g6, hneg])
              exact ⟨_, Sub.refl _, out2, by rw [<- hrd]; exact A2.keepA (hro hr11) _, S2.upd (S2.none hr11), by rw [<- hrd]⟩
        · have hmk : X5 s E = some (tok0, true, E + 3) := by
            unfold X5; rw [hc, if_neg (by decide), if_neg (by decide), if_neg (by decide), if_pos (by rw [eb]; simpa using h62)]
          rw [V5, if_pos hEl, hmk] at hrd
          have hrd : V5 s f (Z8 s (E + 3) []) (T' ++ ([] ++ Y7 s (E + 3) [])) (if true = true /\ (0 : Int) ≠ 0 then E + 3 else sf) = T7 s := hrd
          rw [if_neg (by simp), List.nil_append] at hrd
          repeat' (first | ((with_reducible refine brC (fun _ => ?_) fun _ => ?_) <;> try (exfalso; omega)) | (with_reducible apply pcallE.of; · exact cK) | (with_reducible refine And.intro ?_ ?_; · omega) | simp -dsimp -implicitDefEqProofs (disch := omega) only [↓Q0 117, VCA, Nat.reduceEqDiff, ↓reduceIte, reduceCtorEq, g0, k21, k22, tE, hb, h62])
          exact ⟨s.length - (E + 3), by omega, E + 3, f, sf, T', [], out2, by omega, rfl, by simp [upd, g0], by simp [upd, g4], by simp [upd], by simp [upd, g6], by simp [upd], by decide, A2.keepA (hro hr11) _, S2.upd (S2.none hr11), by omega, by omega, hrd⟩
    · obtain rfl : E = s.length := by omega
      have be : ((s.length : Int) == (s.length : Int)) = true := by simp
      have hend : V5 s f s.length T' sf = (T', sf) := by
        cases f with
        | zero => rfl
        | succ f => rw [V5, if_neg (by omega)]
      rw [hend] at hrd
      repeat' (first | ((with_reducible refine brC (fun _ => ?_) fun _ => ?_) <;> try (exfalso; omega)) | (with_reducible refine And.intro ?_ ?_; · omega) | simp -dsimp -implicitDefEqProofs (disch := omega) only [VCA, Nat.reduceEqDiff, ↓reduceIte, reduceCtorEq, restR, rndC, cL, cR, cB, c9, g0, g4, g6, g8, be])
      exact ⟨_, Sub.refl _, out2, by rw [<- hrd]; exact A2, S2, by rw [<- hrd]⟩
  · obtain rfl : p = s.length := by omega
    have hd : decide (((s.length : Nat) : Int) < (s.length : Int)) = false := decide_eq_false (by omega)
    have hend : Z8 s s.length rw = s.length := by omega
    have htt : Y7 s s.length rw = [] := by unfold Y7; rw [if_neg (by omega)]
    have hT2 : T = T' := by rw [<- hT', htt, List.append_nil]
    have hrf : V5 s f s.length T' sf = (T', sf) := by
      cases f with
      | zero => rfl
      | succ f => rw [V5, if_neg (by omega)]
    rw [hend, hrf] at hrd
    repeat' (first | ((with_reducible refine brC (fun _ => ?_) fun _ => ?_) <;> try (exfalso; omega)) | (with_reducible refine And.intro ?_ ?_; · omega) | simp -dsimp -implicitDefEqProofs (disch := omega) only [VCA, Nat.reduceEqDiff, ↓reduceIte, reduceCtorEq, e0, e4, e5, e6, hd])
    exact ⟨_, Sub.refl _, out, by rw [<- hrd, <- hT2]; exact A, S, by rw [<- hrd]⟩
def AtOK (t : HTok) : Prop := t.kind = 1 \/ t.attrs = []
theorem text_at (s rw : List UInt8) (a : Nat) : ∀ t ∈ Y7 s a rw, AtOK t := fun t h => by
  unfold Y7 at h
  split at h
  · simp only [List.mem_singleton] at h; subst h; exact .inr rfl
  · cases h
theorem mark_at {s : List UInt8} {a : Nat} {q : HTok × Bool × Nat} (h : X5 s a = some q) : AtOK q.1 := by
  have hcom : ∀ (b : Nat) (w : List UInt8), AtOK (UQ s b w).1 := fun b w => .inr rfl
  have hdec : ∀ b, AtOK (ZU s b).1 := fun b => by
    unfold ZU UQ
    (repeat' split) <;> exact .inr rfl
  unfold X5 at h
  split at h
  · cases ht : UU s (a + 1) with
    | none => rw [ht] at h; cases h
    | some x => rw [ht] at h; cases h; exact .inl rfl
  · split at h
    · cases h; exact hdec _
    · split at h
      · cases h; exact hcom _ _
      · split at h
        · cases h; exact .inr rfl
        · split at h
          · cases ht : UU s (a + 2) with
            | none => rw [ht] at h; cases h
            | some x => rw [ht] at h; cases h; exact .inr rfl
          · cases h; exact hcom _ _
theorem readF_at {s : List UInt8} : ∀ (f a : Nat) (out : List HTok) (sf : Nat), (∀ t ∈ out, AtOK t) -> ∀ t ∈ (V5 s f a out sf).1, AtOK t
  | 0, a, out, sf, h => h
  | f + 1, a, out, sf, h => by
    rw [V5]
    split
    · cases hq : X5 s a with
      | none => exact h
      | some q =>
        obtain ⟨t, en, b⟩ := q
        refine readF_at f _ _ _ fun x hx => ?_
        rcases List.mem_append.1 hx with hx | hx
        · exact h x hx
        · rcases List.mem_append.1 hx with hx | hx
          · unfold putT at hx
            split at hx
            · cases hx
            · simp only [List.mem_singleton] at hx; subst hx; exact mark_at hq
          · exact text_at _ _ _ x hx
    · exact h
theorem readM_at (s : List UInt8) : ∀ t ∈ (T7 s).1, AtOK t := readF_at _ _ _ _ (text_at _ _ _)
theorem encR_vw {H : Q2} : ∀ (T : List HTok), (∀ t ∈ T, AtOK t) -> F2 (F2 (Vw H)) (T.map encR) (T.map J6)
  | [], _ => .nil
  | t :: T, h => by
    refine .cons ?_ (encR_vw T fun x hx => h x (List.mem_cons_of_mem _ hx))
    unfold encR encA
    by_cases hk : t.kind = 1
    · rw [if_pos hk]; exact F2.refl .refl _
    · have ha : t.attrs = [] := (h t (List.mem_cons_self ..)).resolve_left hk
      have e : sl Z6 t.attrs = .slc [] := by rw [ha]; rfl
      rw [if_neg hk]
      unfold J6
      rw [e]
      exact .cons (.refl _) (.cons (.refl _) (.cons .emp (.cons (.refl _) (.cons (.refl _) (.cons (.refl _) (.cons (.refl _) .nil))))))
theorem encR_acc {h h' : Q2} {T : List HTok} {a : AVal} (A : Acc h Tt 7 (T.map encR) a h') (hT : ∀ t ∈ T, AtOK t) : Vw (newH h h') a (sl J6 T) := by
  unfold sl
  rcases A with ⟨h1, rfl⟩ | ⟨r, h0, h1, rfl⟩
  · have : T = [] := by simpa using h1
    subst this; exact .emp
  · exact Vw.osl0 (by rw [newH_none h0]; exact h1) (by rw [List.length_map, List.length_map]) (Nat.le_refl _) (fun f hf => by obtain ⟨x, _, rfl⟩ := List.mem_map.1 hf; rfl) (by rw [List.take_length]; exact encR_vw T hT)
theorem refTokenRead_ok {s : List UInt8} (hs : s.length <= 1900000) : PCalls (Pg G) 9 [.str s] (.tup [sl J6 (T7 s).1, Q3 (T7 s).2]) := by
  refine PCalls.outV fun h => ?_
  refine (refTokenRead_raw h hs).mono fun r h' ⟨out, A, S, e⟩ => ?_
  subst e
  exact ⟨S, .tup' (.cons (encR_acc A (readM_at s)) (.cons (.refl _) .nil))⟩
def c10 : SFun := ⟨.seq (.reg [o 4 (.mv (.c (.bool false)))]) (.seq (.seq (.reg [o 6 (.mv (.t 0)), o 7 (.len (.t 6)), o 8 (.mv (.t 1)), o 9 (.len (.t 8)), o 10 (.bin .neq (.t 7) (.t 9))]) (.cond (.t 10) (.seq (.reg [o 4 (.mv (.c (.bool false)))]) .ret) .skip)) (.seq (.seq (.reg [o 5 (.mv (.c (.int .i64 0)))]) (.block 0 (.loop (.seq (.seq (.reg [o 11 (.mv (.t 5)), o 12 (.mv (.t 0)), o 13 (.len (.t 12)), o 14 (.bin .lss (.t 11) (.t 13))]) (.cond (.t 14) .skip (.exit 0))) (.seq (.block 1 (.seq (.dreg [(o 17 (.mv (.t 0)), none), (o 18 (.mv (.t 5)), none), (o 19 (.idxA 7 (.t 17) (.t 18)), none), (o 20 (.ld 7 true (.t 19)), none), (o 21 (.mv (.t 1)), none), (o 22 (.mv (.t 5)), none), (o 23 (.idxA 7 (.t 21) (.t 22)), none), (o 24 (.ld 7 true (.t 23)), none), (o 25 (.pcall 22 [.t 20, .t 24]), none), (o 26 (.un .not (.t 25)), none), (o 27 (.mv (.t 26)), none), (⟨some 28, .mv (.t 0), some (27, false)⟩, none), (⟨some 29, .mv (.t 5), some (27, false)⟩, none), (⟨some 30, .idxA 7 (.t 28) (.t 29), some (27, false)⟩, none), (⟨some 31, .fldA 5 (.t 30), some (27, false)⟩, none), (⟨some 32, .ld 1 false (.t 31), some (27, false)⟩, none), (⟨some 33, .mv (.t 1), some (27, false)⟩, none), (⟨some 34, .mv (.t 5), some (27, false)⟩, none), (⟨some 35, .idxA 7 (.t 33) (.t 34), some (27, false)⟩, none), (⟨some 36, .fldA 5 (.t 35), some (27, false)⟩, none), (⟨some 37, .ld 1 false (.t 36), some (27, false)⟩, none), (⟨some 38, .bin .neq (.t 32) (.t 37), some (27, false)⟩, none), (o 39 (.pick (.t 27) (.c (.bool true)) (.t 38)), none), (o 40 (.mv (.t 39)), none), (⟨some 41, .mv (.t 0), some (40, false)⟩, none), (⟨some 42, .mv (.t 5), some (40, false)⟩, none), (⟨some 43, .idxA 7 (.t 41) (.t 42), some (40, false)⟩, none), (⟨some 44, .fldA 6 (.t 43), some (40, false)⟩, none), (⟨some 45, .ld 1 false (.t 44), some (40, false)⟩, none), (⟨some 46, .mv (.t 1), some (40, false)⟩, none), (⟨some 47, .mv (.t 5), some (40, false)⟩, none), (⟨some 48, .idxA 7 (.t 46) (.t 47), some (40, false)⟩, none), (⟨some 49, .fldA 6 (.t 48), some (40, false)⟩, none), (⟨some 50, .ld 1 false (.t 49), some (40, false)⟩, none), (⟨some 51, .bin .neq (.t 45) (.t 50), some (40, false)⟩, none), (o 52 (.pick (.t 40) (.c (.bool true)) (.t 51)), none)]) (.cond (.t 52) (.seq (.reg [o 4 (.mv (.c (.bool false)))]) .ret) .skip))) (.reg [o 15 (.mv (.t 5)), o 16 (.bin .add (.t 15) (.c (.int .i64 1))), o 5 (.mv (.t 16))])))))) (.seq (.reg [o 4 (.mv (.c (.bool true)))]) .ret))), [.tmp 4]⟩
def c3 : SFun := ⟨.seq (.reg [o 2 (.mv (.c (.bool false)))]) (.seq (.reg [o 10 (.mv (.t 0)), o 11 (.pcall 5 [.t 10]), o 9 (.mv (.t 11)), o 12 (.ext (.t 9) 0), o 13 (.ext (.t 9) 1), o 3 (.mv (.t 12)), o 4 (.mv (.t 13))]) (.seq (.reg [o 15 (.mv (.t 0)), o 16 (.pcall 6 [.t 15]), o 14 (.mv (.t 16)), o 17 (.ext (.t 14) 0), o 18 (.ext (.t 14) 1), o 5 (.mv (.t 17)), o 6 (.mv (.t 18))]) (.seq (.seq (.reg [o 19 (.mv (.t 0)), o 20 (.lenS (.t 19)), o 21 (.bin .gtr (.t 20) (.c (.int .i64 4000)))]) (.cond (.t 21) (.seq (.reg [o 22 (.pcall 7 []), o 23 (.mv (.t 22)), ⟨some 24, .mv (.t 4), some (23, true)⟩, ⟨some 25, .bin .eql (.t 24) (.c (.int .i64 2)), some (23, true)⟩, o 26 (.pick (.t 23) (.t 25) (.c (.bool false))), o 27 (.mv (.t 26)), ⟨some 28, .mv (.t 6), some (27, true)⟩, ⟨some 29, .bin .eql (.t 28) (.c (.int .i64 2)), some (27, true)⟩, o 30 (.pick (.t 27) (.t 29) (.c (.bool false))), o 31 (.mv (.t 30)), ⟨some 32, .mv (.t 3), some (31, true)⟩, ⟨some 33, .len (.t 32), some (31, true)⟩, ⟨some 34, .bin .eql (.t 33) (.c (.int .i64 0)), some (31, true)⟩, o 35 (.pick (.t 31) (.t 34) (.c (.bool false))), o 36 (.mv (.t 35)), ⟨some 37, .mv (.t 5), some (36, true)⟩, ⟨some 38, .bin .eql (.t 37) (.c (.int .i64 0)), some (36, true)⟩, o 39 (.pick (.t 36) (.t 38) (.c (.bool false))), o 2 (.mv (.t 39))]) .ret) .skip)) (.seq (.reg [o 40 (.mv (.t 0)), o 41 (.pcall 8 [.t 40, .c (.int .i64 300)]), o 0 (.mv (.t 41))]) (.seq (.reg [o 43 (.mv (.t 0)), o 44 (.pcall 5 [.t 43]), o 42 (.mv (.t 44)), o 45 (.ext (.t 42) 0), o 46 (.ext (.t 42) 1), o 3 (.mv (.t 45)), o 4 (.mv (.t 46))]) (.seq (.reg [o 48 (.mv (.t 0)), o 49 (.pcall 6 [.t 48]), o 47 (.mv (.t 49)), o 50 (.ext (.t 47) 0), o 51 (.ext (.t 47) 1), o 5 (.mv (.t 50)), o 6 (.mv (.t 51))]) (.seq (.reg [o 53 (.mv (.t 0)), o 54 (.pcall 9 [.t 53]), o 52 (.mv (.t 54)), o 55 (.ext (.t 52) 0), o 56 (.ext (.t 52) 1), o 7 (.mv (.t 55)), o 8 (.mv (.t 56))]) (.seq (.reg [o 57 (.pcall 7 []), o 58 (.mv (.t 57)), ⟨some 59, .mv (.t 4), some (58, true)⟩, ⟨some 60, .bin .eql (.t 59) (.c (.int .i64 0)), some (58, true)⟩, o 61 (.pick (.t 58) (.t 60) (.c (.bool false))), o 62 (.mv (.t 61)), ⟨some 63, .mv (.t 6), some (62, true)⟩, ⟨some 64, .bin .eql (.t 63) (.c (.int .i64 0)), some (62, true)⟩, o 65 (.pick (.t 62) (.t 64) (.c (.bool false))), o 66 (.mv (.t 65)), ⟨some 67, .mv (.t 3), some (66, true)⟩, ⟨some 68, .mv (.t 7), some (66, true)⟩, ⟨some 69, .pcall 10 [.t 67, .t 68], some (66, true)⟩, o 70 (.pick (.t 66) (.t 69) (.c (.bool false))), o 71 (.mv (.t 70)), ⟨some 72, .mv (.t 5), some (71, true)⟩, ⟨some 73, .mv (.t 8), some (71, true)⟩, ⟨some 74, .bin .eql (.t 72) (.t 73), some (71, true)⟩, o 75 (.pick (.t 71) (.t 74) (.c (.bool false))), o 2 (.mv (.t 75))]) .ret)))))))), [.tmp 2]⟩
theorem hc3 : Y5 Tryz.prog {pure := [5, 6, 8, 7, 10, 9]} Tryz.f3 = some c3 := by kernel_rfl
def VU (t : HTok) (n a x : Bool) : Bool := (n || t.name == []) && ((a || (t.attrs.length == 0 && !t.self)) && (x || t.text == []))
def VK (l : List HAttr) (k : Nat) : Bool := ((nth l k).name != []) && ((K8 (nth l k).name == (nth l k).name) && !((l.take k).any fun y => y.name == (nth l k).name))
def T4 (l : List HAttr) : Bool := (List.range l.length).all (VK l)
def KU (nm : List UInt8) : Bool := nm != [] && (U1 (bt nm 0) && K3 nm == nm)
def hasM (s w : List UInt8) : Bool := decide (upM s 0 w < s.length)
def formOK (t : HTok) : Bool :=
  if t.kind = 1 then VU t true true false && (KU t.name && T4 t.attrs)
  else if t.kind = 2 then VU t true false false && (KU t.name && T4 t.attrs)
  else if t.kind = 3 then VU t false false true && t.text != []
  else if t.kind = 4 then VU t false false true && (!Z7 t.text 0 [62] && (!Z7 t.text 0 [45, 62] && !hasM t.text [45, 45, 62]))
  else VU t true false false && K3 t.name == t.name
def UZ (t : HTok) : Int := if t.kind < 1 \/ 5 < t.kind then 7 else if formOK t = true then 0 else 3
def c44 : SFun := ⟨.seq (.reg [o 4 (.boxF 43 7 (.t 0)), o 8 (.mv (.c (.bool false)))]) (.seq (.reg [o 9 (.mv (.t 1)), o 10 (.mv (.t 9)), ⟨some 11, .fldA 1 (.t 4), some (10, false)⟩, ⟨some 12, .ld 1 false (.t 11), some (10, false)⟩, ⟨some 13, .bin .eql (.t 12) (.c (.str [])), some (10, false)⟩, o 14 (.pick (.t 10) (.c (.bool true)) (.t 13)), o 15 (.mv (.t 14)), ⟨some 16, .mv (.t 2), some (15, true)⟩, ⟨some 17, .mv (.t 16), some (15, true)⟩, ⟨some 18, .fldA 2 (.t 4), some (17, false)⟩, ⟨some 19, .ld 1 false (.t 18), some (17, false)⟩, ⟨some 20, .len (.t 19), some (17, false)⟩, ⟨some 21, .bin .eql (.t 20) (.c (.int .i64 0)), some (17, false)⟩, ⟨some 22, .mv (.t 21), some (17, false)⟩, ⟨some 23, .fldA 4 (.t 4), some (22, true)⟩, ⟨some 24, .ld 1 false (.t 23), some (22, true)⟩, ⟨some 25, .un .not (.t 24), some (22, true)⟩, ⟨some 26, .pick (.t 22) (.t 25) (.c (.bool false)), some (17, false)⟩, ⟨some 27, .pick (.t 17) (.c (.bool true)) (.t 26), some (15, true)⟩, o 28 (.pick (.t 15) (.t 27) (.c (.bool false))), o 29 (.mv (.t 28)), ⟨some 30, .mv (.t 3), some (29, true)⟩, ⟨some 31, .mv (.t 30), some (29, true)⟩, ⟨some 32, .fldA 3 (.t 4), some (31, false)⟩, ⟨some 33, .ld 1 false (.t 32), some (31, false)⟩, ⟨some 34, .bin .eql (.t 33) (.c (.str [])), some (31, false)⟩, ⟨some 35, .pick (.t 31) (.c (.bool true)) (.t 34), some (29, true)⟩, o 36 (.pick (.t 29) (.t 35) (.c (.bool false))), o 8 (.mv (.t 36))]) .ret), [.tmp 8]⟩
theorem hc44 : Y5 Tryz.prog {} Tryz.f44 = some c44 := by kernel_rfl
theorem hn44 : (Tryz.f44.name == "runtime.NumGoroutine") = false := by kernel_rfl
theorem tokBare1_ok (t : HTok) : PCalls (Pg G) 44 [.agg (J6 t), .bool true, .bool true, .bool false] (.bool (VU t true true false)) := fun h => by
  obtain ⟨kd, nm, at', tx, sf, fr, ti⟩ := t
  unfold VU J6
  obtain ⟨b3, hb3⟩ : ∃ b, (tx == []) = b := ⟨_, rfl⟩
  simp only at hb3 ⊢
  rw [hb3]
  cases b3
  all_goals
    refine Q1 Tryz.func44 hn44 hc44 (by rw [Tryz.ntmps44]; simp) (by rw [Tryz.ntmps44]; decide) ?_
    simp -dsimp -implicitDefEqProofs (disch := omega) only [↓Q0 10, ↓Q0 15, ↓Q0 17, ↓Q0 22, ↓Q0 29, ↓Q0 31, VCA, Nat.reduceEqDiff, Nat.reduceAdd, Nat.reduceLeDiff, ↓reduceIte, exists_eq_right_right, exists_eq_right, c44, hb3]
    repeat' (first | ((with_reducible refine brC (fun _ => ?_) fun _ => ?_) <;> try (exfalso; omega)) | (with_reducible refine And.intro ?_ ?_; · omega) | simp -dsimp -implicitDefEqProofs (disch := omega) only [↓Q0 10, ↓Q5 10, ↓Q0 15, ↓Q5 15, ↓Q0 17, ↓Q5 17, ↓Q0 22, ↓Q5 22, ↓Q0 29, ↓Q5 29, ↓Q0 31, ↓Q5 31, VCA, pg_gl, ↓U9, Nat.reduceEqDiff, Nat.reduceBEq, Nat.reduceAdd, Nat.reduceSub, Nat.reduceMul, Nat.reduceLT, Nat.reduceLeDiff, ↓reduceIte, reduceCtorEq, Y8, Q7, SOp.rd, SI.rd, SX.rd, rdL, rdO, rdP, J4, X6, Y3, X7, Y6, Z3, implies_true, forall_const, forall_eq, ne_eq, exists_eq_right_right, exists_eq_right, exists_eq_left, exists_eq_left', J1, Z6, WJ, J8, hb3])
    first | exact Sub.refl _ | exact ⟨Sub.refl _, rfl⟩ | trace_state
theorem tokBare2_ok (t : HTok) : PCalls (Pg G) 44 [.agg (J6 t), .bool true, .bool false, .bool false] (.bool (VU t true false false)) := fun h => by
  obtain ⟨kd, nm, at', tx, sf, fr, ti⟩ := t
  unfold VU J6
  have ha : ((at'.length : Int) == 0) = (at'.length == 0) := by
    rw [Bool.eq_iff_iff, beq_iff_eq, beq_iff_eq]; omega
  obtain ⟨b2, hb2⟩ : ∃ b, (at'.length == 0) = b := ⟨_, rfl⟩
  obtain ⟨b3, hb3⟩ : ∃ b, (tx == []) = b := ⟨_, rfl⟩
  simp only at ha hb2 hb3 ⊢
  rw [hb2] at ha
  rw [hb2, hb3]
  unfold sl
  cases sf <;> cases b2 <;> cases b3
  all_goals
    refine Q1 Tryz.func44 hn44 hc44 (by rw [Tryz.ntmps44]; simp) (by rw [Tryz.ntmps44]; decide) ?_
    simp -dsimp -implicitDefEqProofs (disch := omega) only [↓Q0 10, ↓Q0 15, ↓Q0 17, ↓Q0 22, ↓Q0 29, ↓Q0 31, VCA, Nat.reduceEqDiff, Nat.reduceAdd, Nat.reduceLeDiff, ↓reduceIte, exists_eq_right_right, exists_eq_right, c44, ha, hb3]
    repeat' (first | ((with_reducible refine brC (fun _ => ?_) fun _ => ?_) <;> try (exfalso; omega)) | (with_reducible refine And.intro ?_ ?_; · omega) | simp -dsimp -implicitDefEqProofs (disch := omega) only [↓Q0 10, ↓Q5 10, ↓Q0 15, ↓Q5 15, ↓Q0 17, ↓Q5 17, ↓Q0 22, ↓Q5 22, ↓Q0 29, ↓Q5 29, ↓Q0 31, ↓Q5 31, VCA, pg_gl, ↓U9, Nat.reduceEqDiff, Nat.reduceBEq, Nat.reduceAdd, Nat.reduceSub, Nat.reduceMul, Nat.reduceLT, Nat.reduceLeDiff, ↓reduceIte, reduceCtorEq, Y8, Q7, SOp.rd, SI.rd, SX.rd, rdL, rdO, rdP, J4, X6, Y3, X7, Y6, Z3, implies_true, forall_const, forall_eq, ne_eq, exists_eq_right_right, exists_eq_right, exists_eq_left, exists_eq_left', J1, Z6, WJ, J8, ha, hb3, List.length_map])
    first | exact Sub.refl _ | exact ⟨Sub.refl _, rfl⟩ | trace_state
theorem tokBare3_ok (t : HTok) : PCalls (Pg G) 44 [.agg (J6 t), .bool false, .bool false, .bool true] (.bool (VU t false false true)) := fun h => by
  obtain ⟨kd, nm, at', tx, sf, fr, ti⟩ := t
  unfold VU J6
  have ha : ((at'.length : Int) == 0) = (at'.length == 0) := by
    rw [Bool.eq_iff_iff, beq_iff_eq, beq_iff_eq]; omega
  obtain ⟨b1, hb1⟩ : ∃ b, (nm == []) = b := ⟨_, rfl⟩
  obtain ⟨b2, hb2⟩ : ∃ b, (at'.length == 0) = b := ⟨_, rfl⟩
  simp only at ha hb1 hb2 ⊢
  rw [hb2] at ha
  rw [hb1, hb2]
  unfold sl
  cases sf <;> cases b1 <;> cases b2
  all_goals
    refine Q1 Tryz.func44 hn44 hc44 (by rw [Tryz.ntmps44]; simp) (by rw [Tryz.ntmps44]; decide) ?_
    simp -dsimp -implicitDefEqProofs (disch := omega) only [↓Q0 10, ↓Q0 15, ↓Q0 17, ↓Q0 22, ↓Q0 29, ↓Q0 31, VCA, Nat.reduceEqDiff, Nat.reduceAdd, Nat.reduceLeDiff, ↓reduceIte, exists_eq_right_right, exists_eq_right, c44, hb1, ha]
    repeat' (first | ((with_reducible refine brC (fun _ => ?_) fun _ => ?_) <;> try (exfalso; omega)) | (with_reducible refine And.intro ?_ ?_; · omega) | simp -dsimp -implicitDefEqProofs (disch := omega) only [↓Q0 10, ↓Q5 10, ↓Q0 15, ↓Q5 15, ↓Q0 17, ↓Q5 17, ↓Q0 22, ↓Q5 22, ↓Q0 29, ↓Q5 29, ↓Q0 31, ↓Q5 31, VCA, pg_gl, ↓U9, Nat.reduceEqDiff, Nat.reduceBEq, Nat.reduceAdd, Nat.reduceSub, Nat.reduceMul, Nat.reduceLT, Nat.reduceLeDiff, ↓reduceIte, reduceCtorEq, Y8, Q7, SOp.rd, SI.rd, SX.rd, rdL, rdO, rdP, J4, X6, Y3, X7, Y6, Z3, implies_true, forall_const, forall_eq, ne_eq, exists_eq_right_right, exists_eq_right, exists_eq_left, exists_eq_left', J1, Z6, WJ, J8, hb1, ha, List.length_map])
    first | exact Sub.refl _ | exact ⟨Sub.refl _, rfl⟩ | trace_state
theorem attrOK_take {l : List HAttr} {k : Nat} (hk : k < l.length) {x : HAttr} (hx : nth l k = x) : VK l k = ((x.name != []) && ((K8 x.name == x.name) && !((l.take k).any fun y => y.name == x.name))) := by
  unfold VK; rw [hx]
theorem attrsOK_all {l : List HAttr} (h : ∀ j, j < l.length -> VK l j = true) : T4 l = true := List.all_eq_true.2 fun j hj => h j (List.mem_range.1 hj)
theorem attrsOK_no {l : List HAttr} {j : Nat} (hj : j < l.length) (h : VK l j = false) : T4 l = false := by
  cases hq : T4 l with
  | false => rfl
  | true => have := List.all_eq_true.1 hq j (List.mem_range.2 hj); rw [h] at this; cases this
theorem aFound_y (z v : AVal) : VX true z (some v) = .tup [v, .bool true] := rfl
theorem aFound_n (z : AVal) : VX true z none = .tup [z, .bool false] := rfl
def c45 : SFun := ⟨.seq (.reg [o 1 (.boxF 43 7 (.t 0)), o 2 (.mv (.c (.bool false)))]) (.seq (.seq (.dreg [(o 8 (.fldA 1 (.t 1)), none), (o 9 (.ld 1 false (.t 8)), none), (o 10 (.bin .eql (.t 9) (.c (.str []))), none), (o 11 (.mv (.t 10)), none), (⟨some 12, .fldA 1 (.t 1), some (11, false)⟩, none), (⟨some 13, .ld 1 false (.t 12), some (11, false)⟩, none), (⟨some 14, .idxS (.t 13) (.c (.int .i64 0)), some (11, false)⟩, none), (⟨some 15, .pcall 56 [.t 14], some (11, false)⟩, none), (⟨some 16, .un .not (.t 15), some (11, false)⟩, none), (o 17 (.pick (.t 11) (.c (.bool true)) (.t 16)), none), (o 18 (.mv (.t 17)), none), (⟨some 19, .fldA 1 (.t 1), some (18, false)⟩, none), (⟨some 20, .ld 1 false (.t 19), some (18, false)⟩, none), (⟨some 21, .pcall 48 [.t 20], some (18, false)⟩, none), (⟨some 22, .fldA 1 (.t 1), some (18, false)⟩, none), (⟨some 23, .ld 1 false (.t 22), some (18, false)⟩, none), (⟨some 24, .bin .neq (.t 21) (.t 23), some (18, false)⟩, none), (o 25 (.pick (.t 18) (.c (.bool true)) (.t 24)), none)]) (.cond (.t 25) (.seq (.reg [o 2 (.mv (.c (.bool false)))]) .ret) .skip)) (.seq (.reg [o 26 (.mkm 98), o 3 (.mv (.t 26))]) (.seq (.seq (.reg [o 27 (.fldA 2 (.t 1)), o 28 (.ld 1 false (.t 27)), o 29 (.len (.t 28)), o 30 (.mv (.c (.int .i64 0)))]) (.block 0 (.loop (.seq (.reg [o 31 (.bin .lss (.t 30) (.t 29))]) (.seq (.cond (.t 31) .skip (.exit 0)) (.seq (.block 1 (.seq (.reg [o 32 (.idxA 2 (.t 28) (.t 30)), o 33 (.ld 2 true (.t 32)), o 5 (.new 45 2 [.str [], .str []]), ⟨none, .st 2 (.t 5) (.t 33), none⟩]) (.seq (.seq (.reg [o 35 (.mv (.t 3)), o 36 (.fldA 0 (.t 5)), o 37 (.ld 1 false (.t 36)), o 38 (.lkp none true (.agg []) (.t 35) (.t 37)), o 34 (.mv (.t 38)), o 39 (.ext (.t 34) 0), o 40 (.ext (.t 34) 1), o 6 (.boxF 99 0 (.c (.agg []))), ⟨none, .st 0 (.t 6) (.t 39), none⟩, o 7 (.mv (.t 40))]) (.seq (.dreg [(o 41 (.mv (.t 7)), none), (o 42 (.mv (.t 41)), none), (⟨some 43, .fldA 0 (.t 5), some (42, false)⟩, none), (⟨some 44, .ld 1 false (.t 43), some (42, false)⟩, none), (⟨some 45, .bin .eql (.t 44) (.c (.str [])), some (42, false)⟩, none), (o 46 (.pick (.t 42) (.c (.bool true)) (.t 45)), none), (o 47 (.mv (.t 46)), none), (⟨some 48, .fldA 0 (.t 5), some (47, false)⟩, none), (⟨some 49, .ld 1 false (.t 48), some (47, false)⟩, none), (⟨some 50, .pcall 64 [.t 49], some (47, false)⟩, none), (⟨some 51, .fldA 0 (.t 5), some (47, false)⟩, none), (⟨some 52, .ld 1 false (.t 51), some (47, false)⟩, none), (⟨some 53, .bin .neq (.t 50) (.t 52), some (47, false)⟩, none), (o 54 (.pick (.t 47) (.c (.bool true)) (.t 53)), none)]) (.cond (.t 54) (.seq (.reg [o 2 (.mv (.c (.bool false)))]) .ret) .skip))) (.reg [o 55 (.mv (.t 3)), o 56 (.fldA 0 (.t 5)), o 57 (.ld 1 false (.t 56)), o 58 (.bld [] []), ⟨none, .mup none (.t 55) (.t 57) (.t 58), none⟩])))) (.reg [o 59 (.bin .add (.t 30) (.c (.int .i64 1))), o 30 (.mv (.t 59))]))))))) (.seq (.reg [o 2 (.mv (.c (.bool true)))]) .ret)))), [.tmp 2]⟩
theorem hc45 : Y5 Tryz.prog {pure := [56, 48, 64], mp := [3, 4, 26, 35, 55]} Tryz.f45 = some c45 := by kernel_rfl
theorem hn45 : (Tryz.f45.name == "runtime.NumGoroutine") = false := by kernel_rfl
theorem tokTagged_ok (t : HTok) (hn : t.name.length <= 1073741824) (hl : t.attrs.length <= 1073741824) (ha : ∀ a ∈ t.attrs, a.name.length <= 1073741824) : PCalls (Pg G) 45 [.agg (J6 t)] (.bool (KU t.name && T4 t.attrs)) := fun h => by
  obtain ⟨kd, nm, L, tx, sf, fr, ti⟩ := t
  simp only at hn hl ha ⊢
  have cN := tokName_ok (G := G) nm hn
  obtain ⟨nm', hnm'⟩ : ∃ n, K3 nm = n := ⟨_, rfl⟩
  rw [hnm'] at cN
  unfold J6 sl
  have ll : (L.map Z6).length = L.length := List.length_map ..
  cases hb1 : (nm == [])
  · have hne : nm ≠ [] := by simpa using hb1
    have hpos : 0 < nm.length := List.length_pos_iff.2 hne
    obtain ⟨b, hb⟩ : ∃ b, nm.getD 0 0 = b := ⟨_, rfl⟩
    have eb : bt nm 0 = b.toNat := by unfold bt; rw [hb]
    have cL' := UW (G := G) b
    cases hlb : U1 (b.toNat : Int) <;> rw [hlb] at cL'
    · have hr : KU nm = false := by unfold KU; rw [eb, hlb, Bool.false_and, Bool.and_false]
      rw [hr, Bool.false_and]
      refine Q1 Tryz.func45 hn45 hc45 (by rw [Tryz.ntmps45]; simp) (by rw [Tryz.ntmps45]; decide) ?_
      simp -dsimp -implicitDefEqProofs (disch := omega) only [↓Q5 11, VCA, Nat.reduceEqDiff, Nat.reduceAdd, Nat.reduceLeDiff, ↓reduceIte, Y8, Q7, J1, c45, hb1, hb]
      repeat' (first | ((with_reducible refine brC (fun _ => ?_) fun _ => ?_) <;> try (exfalso; omega)) | (with_reducible apply pcallE.of; · exact cL') | (with_reducible refine And.intro ?_ ?_; · omega) | simp -dsimp -implicitDefEqProofs (disch := omega) only [↓Q5 18, VCA, Nat.reduceEqDiff, ↓reduceIte, Y8, Q7, exists_eq_right, J1, J8])
      first | exact Sub.refl _ | exact ⟨Sub.refl _, rfl⟩
    · cases hq : (nm' != nm)
      · have hr : KU nm = true := by
          unfold KU
          rw [eb, hlb, hnm']
          have h1 : (nm != []) = true := by simpa using hne
          have h2 : (nm' == nm) = true := by simpa using hq
          rw [h1, h2]; rfl
        rw [hr, Bool.true_and]
        refine Q1 Tryz.func45 hn45 hc45 (by rw [Tryz.ntmps45]; simp) (by rw [Tryz.ntmps45]; decide) ?_
        simp -dsimp -implicitDefEqProofs (disch := omega) only [↓Q5 11, VCA, Nat.reduceEqDiff, Nat.reduceAdd, Nat.reduceLeDiff, ↓reduceIte, Y8, Q7, J1, c45, hb1, hb]
        repeat' (first | ((with_reducible refine brC (fun _ => ?_) fun _ => ?_) <;> try (exfalso; omega)) | (with_reducible apply pcallE.of; · exact cL') | (with_reducible apply pcallE.of; · exact cN) | (with_reducible refine And.intro ?_ ?_; · omega) | simp -dsimp -implicitDefEqProofs (disch := omega) only [↓Q5 18, VCA, Nat.reduceEqDiff, Nat.reduceAdd, Nat.reduceLeDiff, ↓reduceIte, Y8, Q7, J1, hq])
        intro rM hrM
        repeat' (first | ((with_reducible refine brC (fun _ => ?_) fun _ => ?_) <;> try (exfalso; omega)) | (with_reducible refine And.intro ?_ ?_; · omega) | simp -dsimp -implicitDefEqProofs (disch := omega) only [↓Q0 11, ↓Q5 11, ↓Q0 18, ↓Q5 18, ↓Q0 42, ↓Q5 42, ↓Q0 47, ↓Q5 47, VCA, pg_gl, ↓U9, Nat.reduceEqDiff, Nat.reduceBEq, Nat.reduceAdd, Nat.reduceSub, Nat.reduceMul, Nat.reduceLT, Nat.reduceLeDiff, ↓reduceIte, reduceCtorEq, Y8, Q7, SOp.rd, SI.rd, SX.rd, rdL, rdO, rdP, J4, X6, Y3, X7, Y6, Z3, implies_true, forall_const, forall_eq, ne_eq, exists_eq_right_right, exists_eq_right, exists_eq_left, exists_eq_left', J1, Z6, WJ, J8, ll])
        have z0 : upd h rM (some ⟨.m 98 [], 1, []⟩) rM = some ⟨.m 98 (eMs []), 1, []⟩ := Z1 _ _ _
        have S0 : Sub h (upd h rM (some ⟨.m 98 [], 1, []⟩)) := (Sub.refl h).upd hrM
        refine LoopVC.intro (fun m e h' => ∃ (k : Nat) (seen : List (List UInt8)), k <= L.length /\ m = L.length - k /\ e 3 = .mpr rM /\ e 28 = .slc (L.map Z6) /\ e 29 = Q3 L.length /\ e 30 = Q3 k /\ h' rM = some ⟨.m 98 (eMs seen), 1, []⟩ /\
            (∀ s, s ∈ seen ↔ ∃ a ∈ L.take k, a.name = s) /\ (∀ j, j < k -> VK L j = true) /\ Sub h h') L.length
          (by exact ⟨0, [], by omega, by omega, rfl, rfl, rfl, rfl, z0, fun s => by simp, fun j hj => by omega, S0⟩) ?_
        rintro m e h' ⟨k, seen, hk, rfl, e3, e28, e29, e30, zM, hseen, hall, S⟩
        by_cases hlt : k < L.length
        · have hd : decide ((k : Int) < (L.length : Int)) = true := decide_eq_true (by omega)
          have hmem := W6 hlt
          obtain ⟨x, hx⟩ : ∃ x, nth L k = x := ⟨_, rfl⟩
          rw [hx] at hmem
          have cA := tokAttrName_ok (G := G) x.name (ha x hmem)
          have hok := attrOK_take hlt hx
          obtain ⟨an, han⟩ : ∃ n, K8 x.name = n := ⟨_, rfl⟩
          rw [han] at cA hok
          have hat : (L.map Z6).getD k [] = Z6 x := by rw [ZY hlt, hx]
          have hany : ((L.take k).any fun y => y.name == x.name) = decide (x.name ∈ seen) := by
            rw [Bool.eq_iff_iff, List.any_eq_true, decide_eq_true_iff, hseen]
            exact ⟨fun ⟨y, h1, h2⟩ => ⟨y, h1, by simpa using h2⟩, fun ⟨y, h1, h2⟩ => ⟨y, h1, by simpa using h2⟩⟩
          rw [hany] at hok
          by_cases hin : x.name ∈ seen
          · rw [decide_eq_true hin] at hok
            have hno : T4 L = false := attrsOK_no hlt (by rw [hok]; simp)
            rw [hno]
            repeat' (first | ((with_reducible refine brC (fun _ => ?_) fun _ => ?_) <;> try (exfalso; omega)) | (with_reducible refine And.intro ?_ ?_; · omega) | simp -dsimp -implicitDefEqProofs (disch := omega) only [↓Q5 42, VCA, Nat.reduceEqDiff, Nat.reduceAdd, Nat.reduceLT, Nat.reduceLeDiff, ↓reduceIte, Z3, exists_eq_left', Z6, e3, e28, e29, e30, hd, hx, Z6])
            intro r5 hr5
            have m5 : ¬ rM = r5 := fun q => by rw [<- q, zM] at hr5; cases hr5
            repeat' (first | ((with_reducible refine brC (fun _ => ?_) fun _ => ?_) <;> try (exfalso; omega)) | (with_reducible refine And.intro ?_ ?_; · omega) | simp -dsimp -implicitDefEqProofs (disch := omega) only [↓Q5 47, VCA, Nat.reduceEqDiff, Nat.reduceAdd, Nat.reduceLT, ↓reduceIte, Y8, Q7, exists_eq_right, exists_eq_left', J1, J8, m5, zM, hin, aFound_y])
            exact S.upd (S.none hr5)
          · rw [decide_eq_false hin] at hok
            cases hem : (x.name == [])
            · cases han2 : (an != x.name)
              · have hq1 : VK L k = true := by
                  rw [hok]
                  have h1 : (x.name != []) = true := by simpa using hem
                  have h2 : (an == x.name) = true := by simpa using han2
                  rw [h1, h2]; rfl
                repeat' (first | ((with_reducible refine brC (fun _ => ?_) fun _ => ?_) <;> try (exfalso; omega)) | (with_reducible refine And.intro ?_ ?_; · omega) | simp -dsimp -implicitDefEqProofs (disch := omega) only [↓Q5 42, VCA, Nat.reduceEqDiff, Nat.reduceAdd, Nat.reduceLT, Nat.reduceLeDiff, ↓reduceIte, Z3, exists_eq_left', Z6, e3, e28, e29, e30, hd, hx, Z6])
                intro r5 hr5
                have m5 : ¬ rM = r5 := fun q => by rw [<- q, zM] at hr5; cases hr5
                simp -dsimp -implicitDefEqProofs (disch := omega) only [↓Q5 47, VCA, Nat.reduceEqDiff, Nat.reduceAdd, Nat.reduceLT, Nat.reduceLeDiff, ↓reduceIte, Y8, Q7, exists_eq_left', J1, m5, zM, hin, aFound_n, hem]
                repeat' (first | ((with_reducible refine brC (fun _ => ?_) fun _ => ?_) <;> try (exfalso; omega)) | (with_reducible apply pcallE.of; · exact cA) | (with_reducible refine And.intro ?_ ?_; · omega) | simp -dsimp -implicitDefEqProofs (disch := omega) only [VCA, Nat.reduceEqDiff, Nat.reduceAdd, Nat.reduceLT, Nat.reduceLeDiff, ↓reduceIte, Y8, Q7, X7, Y6, exists_eq_left', J1, e3, e28, e29, e30, m5, zM, han2])
                have hput : putS x.name seen = seen ++ [x.name] := if_neg hin
                have htk : L.take (k + 1) = L.take k ++ [x] := by rw [List.take_add_one, V8 hlt, hx]; rfl
                have hmem2 : ∀ s, s ∈ putS x.name seen ↔ ∃ a ∈ L.take (k + 1), a.name = s := fun s => by
                  rw [hput, htk, List.mem_append, List.mem_singleton, hseen]
                  refine ⟨fun q => ?_, fun ⟨a, h1, h2⟩ => ?_⟩
                  · rcases q with ⟨a, h1, h2⟩ | rfl
                    · exact ⟨a, List.mem_append.2 (.inl h1), h2⟩
                    · exact ⟨x, List.mem_append.2 (.inr (List.mem_singleton.2 rfl)), rfl⟩
                  · rcases List.mem_append.1 h1 with h1 | h1
                    · exact .inl ⟨a, h1, h2⟩
                    · rw [List.mem_singleton] at h1; subst h1; exact .inr h2.symm
                have hall2 : ∀ j, j < k + 1 -> VK L j = true := fun j hj => by
                  by_cases e : j = k
                  · rw [e]; exact hq1
                  · exact hall j (by omega)
                exact ⟨_, by omega, k + 1, putS x.name seen, by omega, rfl, by omega, by first | rfl | (rw [hput]; rfl), hmem2, hall2, (S.upd (S.none hr5)).upd hrM⟩
              · have hno : T4 L = false := attrsOK_no hlt (by
                  rw [hok]
                  have h2 : (an == x.name) = false := by simpa using han2
                  rw [h2]; simp)
                rw [hno]
                repeat' (first | ((with_reducible refine brC (fun _ => ?_) fun _ => ?_) <;> try (exfalso; omega)) | (with_reducible refine And.intro ?_ ?_; · omega) | simp -dsimp -implicitDefEqProofs (disch := omega) only [↓Q5 42, VCA, Nat.reduceEqDiff, Nat.reduceAdd, Nat.reduceLT, Nat.reduceLeDiff, ↓reduceIte, Z3, exists_eq_left', Z6, e3, e28, e29, e30, hd, hx, Z6])
                intro r5 hr5
                have m5 : ¬ rM = r5 := fun q => by rw [<- q, zM] at hr5; cases hr5
                simp -dsimp -implicitDefEqProofs (disch := omega) only [↓Q5 47, VCA, Nat.reduceEqDiff, Nat.reduceAdd, Nat.reduceLT, Nat.reduceLeDiff, ↓reduceIte, Y8, Q7, exists_eq_left', J1, m5, zM, hin, aFound_n, hem]
                repeat' (first | ((with_reducible refine brC (fun _ => ?_) fun _ => ?_) <;> try (exfalso; omega)) | (with_reducible apply pcallE.of; · exact cA) | (with_reducible refine And.intro ?_ ?_; · omega) | simp -dsimp -implicitDefEqProofs (disch := omega) only [VCA, Nat.reduceEqDiff, Nat.reduceAdd, Nat.reduceLT, Nat.reduceLeDiff, ↓reduceIte, Y8, Q7, exists_eq_right, exists_eq_left', J1, han2])
                exact S.upd (S.none hr5)
            · have hno : T4 L = false := attrsOK_no hlt (by
                rw [hok]
                have h1 : (x.name != []) = false := by simpa using hem
                rw [h1]; rfl)
              rw [hno]
              repeat' (first | ((with_reducible refine brC (fun _ => ?_) fun _ => ?_) <;> try (exfalso; omega)) | (with_reducible refine And.intro ?_ ?_; · omega) | simp -dsimp -implicitDefEqProofs (disch := omega) only [↓Q5 42, VCA, Nat.reduceEqDiff, Nat.reduceAdd, Nat.reduceLT, Nat.reduceLeDiff, ↓reduceIte, Z3, exists_eq_left', Z6, e3, e28, e29, e30, hd, hx, Z6])
              intro r5 hr5
              have m5 : ¬ rM = r5 := fun q => by rw [<- q, zM] at hr5; cases hr5
              simp -dsimp -implicitDefEqProofs (disch := omega) only [↓Q5 47, VCA, Nat.reduceEqDiff, Nat.reduceAdd, Nat.reduceLT, Nat.reduceLeDiff, ↓reduceIte, Y8, Q7, exists_eq_right, exists_eq_left', J1, J8, m5, zM, hin, aFound_n, hem]
              repeat' (first | ((with_reducible refine brC (fun _ => ?_) fun _ => ?_) <;> try (exfalso; omega)) | (with_reducible apply pcallE.of; · exact cA) | (with_reducible refine And.intro ?_ ?_; · omega) | simp -dsimp -implicitDefEqProofs (disch := omega) only [↓Q0 11, ↓Q5 11, ↓Q0 18, ↓Q5 18, ↓Q0 42, ↓Q5 42, ↓Q0 47, ↓Q5 47, VCA, pg_gl, ↓U9, Nat.reduceEqDiff, Nat.reduceBEq, Nat.reduceAdd, Nat.reduceSub, Nat.reduceMul, Nat.reduceLT, Nat.reduceLeDiff, ↓reduceIte, reduceCtorEq, Y8, Q7, SOp.rd, SI.rd, SX.rd, rdL, rdO, rdP, J4, X6, Y3, X7, Y6, Z3, implies_true, forall_const, forall_eq, ne_eq, exists_eq_right_right, exists_eq_right, exists_eq_left, exists_eq_left', J1, Z6, WJ, J8, e3, e28, e29, e30, hd, hx, Z6, Z1, m5, zM, hin, aFound_y, aFound_n, hem])
              exact S.upd (S.none hr5)
        · obtain rfl : k = L.length := by omega
          have hd : decide ((L.length : Int) < (L.length : Int)) = false := decide_eq_false (by omega)
          rw [attrsOK_all hall]
          repeat' (first | ((with_reducible refine brC (fun _ => ?_) fun _ => ?_) <;> try (exfalso; omega)) | (with_reducible refine And.intro ?_ ?_; · omega) | simp -dsimp -implicitDefEqProofs (disch := omega) only [VCA, ↓reduceIte, exists_eq_right, e29, e30, hd])
          first | exact S | exact ⟨S, rfl⟩ | trace_state
      · have hr : KU nm = false := by
          unfold KU
          have h2 : (nm' == nm) = false := by simpa using hq
          rw [hnm', h2, Bool.and_false, Bool.and_false]
        rw [hr, Bool.false_and]
        refine Q1 Tryz.func45 hn45 hc45 (by rw [Tryz.ntmps45]; simp) (by rw [Tryz.ntmps45]; decide) ?_
        simp -dsimp -implicitDefEqProofs (disch := omega) only [↓Q5 11, VCA, Nat.reduceEqDiff, Nat.reduceAdd, Nat.reduceLeDiff, ↓reduceIte, Y8, Q7, J1, c45, hb1, hb]
        repeat' (first | ((with_reducible refine brC (fun _ => ?_) fun _ => ?_) <;> try (exfalso; omega)) | (with_reducible apply pcallE.of; · exact cL') | (with_reducible apply pcallE.of; · exact cN) | (with_reducible refine And.intro ?_ ?_; · omega) | simp -dsimp -implicitDefEqProofs (disch := omega) only [↓Q5 18, VCA, Nat.reduceEqDiff, Nat.reduceAdd, Nat.reduceLeDiff, ↓reduceIte, Y8, Q7, exists_eq_right, J1, hq])
        first | exact Sub.refl _ | exact ⟨Sub.refl _, rfl⟩
  · have hr : KU nm = false := by
      unfold KU
      have h1 : (nm != []) = false := by simpa using hb1
      rw [h1, Bool.false_and]
    rw [hr, Bool.false_and]
    refine Q1 Tryz.func45 hn45 hc45 (by rw [Tryz.ntmps45]; simp) (by rw [Tryz.ntmps45]; decide) ?_
    simp -dsimp -implicitDefEqProofs (disch := omega) only [↓Q5 11, ↓Q5 18, VCA, Nat.reduceEqDiff, Nat.reduceAdd, Nat.reduceLeDiff, ↓reduceIte, Y8, Q7, exists_eq_right, J1, J8, c45, hb1]
    repeat' (first | ((with_reducible refine brC (fun _ => ?_) fun _ => ?_) <;> try (exfalso; omega)) | (with_reducible refine And.intro ?_ ?_; · omega) | simp -dsimp -implicitDefEqProofs (disch := omega) only [↓Q0 11, ↓Q5 11, ↓Q0 18, ↓Q5 18, ↓Q0 42, ↓Q5 42, ↓Q0 47, ↓Q5 47, VCA, pg_gl, ↓U9, Nat.reduceEqDiff, Nat.reduceBEq, Nat.reduceAdd, Nat.reduceSub, Nat.reduceMul, Nat.reduceLT, Nat.reduceLeDiff, ↓reduceIte, reduceCtorEq, Y8, Q7, SOp.rd, SI.rd, SX.rd, rdL, rdO, rdP, J4, X6, Y3, X7, Y6, Z3, implies_true, forall_const, forall_eq, ne_eq, exists_eq_right_right, exists_eq_right, exists_eq_left, exists_eq_left', J1, Z6, WJ, J8, hb1])
    first | exact Sub.refl _ | exact ⟨Sub.refl _, rfl⟩
theorem has_is {s w : List UInt8} (hw : noLet w = true) (h0 : w ≠ []) : Lib.contains s w = hasM s w := by
  obtain ⟨h1, h2⟩ := index_up (s := s) hw h0 (a := 0) (Nat.zero_le _)
  rw [List.drop_zero] at h1 h2
  unfold Lib.contains hasM
  by_cases hl : upM s 0 w < s.length
  · rw [h1 hl, decide_eq_true hl, decide_eq_true (by omega)]
  · rw [h2 hl, decide_eq_false hl, decide_eq_false (by omega)]
structure TokSm (t : HTok) : Prop where
  name : t.name.length <= 1500000
  text : t.text.length <= 1500000
  attrs : t.attrs.length <= 1500000
  att : ∀ a ∈ t.attrs, a.name.length <= 1500000 /\ a.value.length <= 1500000
def c23 : SFun := ⟨.seq (.reg [o 1 (.boxF 43 7 (.t 0)), o 2 (.mv (.c (.int .i64 0)))]) (.seq (.reg [o 3 (.mv (.c (.bool false)))]) (.seq (.seq (.reg [o 4 (.fldA 0 (.t 1)), o 5 (.ld 1 false (.t 4))]) (.block 0 (.seq (.reg [o 7 (.bin .eql (.t 5) (.c (.int .i64 1))), o 6 (.mv (.t 7))]) (.cond (.t 6) (.reg [o 8 (.ld 7 true (.t 1)), o 9 (.pcall 44 [.t 8, .c (.bool true), .c (.bool true), .c (.bool false)]), o 10 (.mv (.t 9)), ⟨some 11, .ld 7 true (.t 1), some (10, true)⟩, ⟨some 12, .pcall 45 [.t 11], some (10, true)⟩, o 13 (.pick (.t 10) (.t 12) (.c (.bool false))), o 3 (.mv (.t 13))]) (.seq (.reg [o 15 (.bin .eql (.t 5) (.c (.int .i64 2))), o 14 (.mv (.t 15))]) (.cond (.t 14) (.reg [o 16 (.ld 7 true (.t 1)), o 17 (.pcall 44 [.t 16, .c (.bool true), .c (.bool false), .c (.bool false)]), o 18 (.mv (.t 17)), ⟨some 19, .ld 7 true (.t 1), some (18, true)⟩, ⟨some 20, .pcall 45 [.t 19], some (18, true)⟩, o 21 (.pick (.t 18) (.t 20) (.c (.bool false))), o 3 (.mv (.t 21))]) (.seq (.reg [o 23 (.bin .eql (.t 5) (.c (.int .i64 3))), o 22 (.mv (.t 23))]) (.cond (.t 22) (.reg [o 24 (.ld 7 true (.t 1)), o 25 (.pcall 44 [.t 24, .c (.bool false), .c (.bool false), .c (.bool true)]), o 26 (.mv (.t 25)), ⟨some 27, .fldA 3 (.t 1), some (26, true)⟩, ⟨some 28, .ld 1 false (.t 27), some (26, true)⟩, ⟨some 29, .bin .neq (.t 28) (.c (.str [])), some (26, true)⟩, o 30 (.pick (.t 26) (.t 29) (.c (.bool false))), o 3 (.mv (.t 30))]) (.seq (.reg [o 32 (.bin .eql (.t 5) (.c (.int .i64 4))), o 31 (.mv (.t 32))]) (.cond (.t 31) (.reg [o 33 (.ld 7 true (.t 1)), o 34 (.pcall 44 [.t 33, .c (.bool false), .c (.bool false), .c (.bool true)]), o 35 (.mv (.t 34)), ⟨some 36, .fldA 3 (.t 1), some (35, true)⟩, ⟨some 37, .ld 1 false (.t 36), some (35, true)⟩, ⟨some 38, .pcall 46 [.t 37, .c (.str [62])], some (35, true)⟩, ⟨some 39, .un .not (.t 38), some (35, true)⟩, o 40 (.pick (.t 35) (.t 39) (.c (.bool false))), o 41 (.mv (.t 40)), ⟨some 42, .fldA 3 (.t 1), some (41, true)⟩, ⟨some 43, .ld 1 false (.t 42), some (41, true)⟩, ⟨some 44, .pcall 46 [.t 43, .c (.str [45, 62])], some (41, true)⟩, ⟨some 45, .un .not (.t 44), some (41, true)⟩, o 46 (.pick (.t 41) (.t 45) (.c (.bool false))), o 47 (.mv (.t 46)), ⟨some 48, .fldA 3 (.t 1), some (47, true)⟩, ⟨some 49, .ld 1 false (.t 48), some (47, true)⟩, ⟨some 50, .pcall 47 [.t 49, .c (.str [45, 45, 62])], some (47, true)⟩, ⟨some 51, .un .not (.t 50), some (47, true)⟩, o 52 (.pick (.t 47) (.t 51) (.c (.bool false))), o 3 (.mv (.t 52))]) (.seq (.reg [o 54 (.bin .eql (.t 5) (.c (.int .i64 5))), o 53 (.mv (.t 54))]) (.cond (.t 53) (.dreg [(o 55 (.ld 7 true (.t 1)), none), (o 56 (.pcall 44 [.t 55, .c (.bool true), .c (.bool false), .c (.bool false)]), none), (o 57 (.mv (.t 56)), none), (⟨some 58, .fldA 1 (.t 1), some (57, true)⟩, none), (⟨some 59, .ld 1 false (.t 58), some (57, true)⟩, none), (⟨some 60, .pcall 48 [.t 59], some (57, true)⟩, none), (⟨some 61, .fldA 1 (.t 1), some (57, true)⟩, none), (⟨some 62, .ld 1 false (.t 61), some (57, true)⟩, none), (⟨some 63, .bin .eql (.t 60) (.t 62), some (57, true)⟩, none), (o 64 (.pick (.t 57) (.t 63) (.c (.bool false))), none), (o 3 (.mv (.t 64)), none)]) (.seq (.reg [o 2 (.mv (.c (.int .i64 7)))]) .ret))))))))))))) (.seq (.seq (.reg [o 65 (.mv (.t 3)), o 66 (.un .not (.t 65))]) (.cond (.t 66) (.seq (.reg [o 2 (.mv (.c (.int .i64 3)))]) .ret) .skip)) (.seq (.reg [o 2 (.mv (.c (.int .i64 0)))]) .ret)))), [.tmp 2]⟩
theorem hc23 : Y5 Tryz.prog {pure := [44, 45, 48, 46, 47]} Tryz.f23 = some c23 := by kernel_rfl
theorem hn23 : (Tryz.f23.name == "runtime.NumGoroutine") = false := by kernel_rfl
theorem tokRight_ok (hG : U8 G) (t : HTok) (sm : TokSm t) : PCalls (Pg G) 23 [.agg (J6 t)] (Q3 (UZ t)) := fun h => by
  have cB1 := tokBare1_ok (G := G) t
  have cB2 := tokBare2_ok (G := G) t
  have cB3 := tokBare3_ok (G := G) t
  have cT := tokTagged_ok (G := G) t (by have := sm.name; omega) (by have := sm.attrs; omega) (fun a ha => by have := (sm.att a ha).1; omega)
  have cN := tokName_ok (G := G) t.name (by have := sm.name; omega)
  have c1 := hasPre_ok (G := G) t.text [62] (by have := sm.text; omega) (by decide)
  have c2 := hasPre_ok (G := G) t.text [45, 62] (by have := sm.text; omega) (by decide)
  have e1 := pre_stand (s := t.text) (w := [62]) (by decide) (a := 0) (by omega)
  have e2 := pre_stand (s := t.text) (w := [45, 62]) (by decide) (a := 0) (by omega)
  rw [List.drop_zero] at e1 e2
  rw [e1] at c1
  rw [e2] at c2
  have c3 := contains_ok (G := G) hG t.text [45, 45, 62] (by have := sm.text; omega)
  rw [has_is (by decide) (by decide)] at c3
  unfold UZ formOK
  obtain ⟨kd, nm, L, tx, sf, fr, ti⟩ := t
  simp only at cT cN c1 c2 c3 ⊢
  obtain ⟨b1, hb1⟩ : ∃ b, VU ⟨kd, nm, L, tx, sf, fr, ti⟩ true true false = b := ⟨_, rfl⟩
  obtain ⟨b2, hb2⟩ : ∃ b, VU ⟨kd, nm, L, tx, sf, fr, ti⟩ true false false = b := ⟨_, rfl⟩
  obtain ⟨b3, hb3⟩ : ∃ b, VU ⟨kd, nm, L, tx, sf, fr, ti⟩ false false true = b := ⟨_, rfl⟩
  obtain ⟨g, hg⟩ : ∃ b, (KU nm && T4 L) = b := ⟨_, rfl⟩
  rw [hb1] at cB1
  rw [hb2] at cB2
  rw [hb3] at cB3
  rw [hg] at cT
  unfold J6 at cB1 cB2 cB3 cT ⊢
  simp only at cB1 cB2 cB3 cT ⊢
  rw [hb1, hb2, hb3, hg]
  by_cases h1 : kd = 1
  · rw [if_neg (by omega), if_pos h1]
    cases b1 <;> cases g
    all_goals
      refine Q1 Tryz.func23 hn23 hc23 (by rw [Tryz.ntmps23]; simp) (by rw [Tryz.ntmps23]; decide) ?_
      simp -dsimp -implicitDefEqProofs (disch := omega) only [VCA, Nat.reduceEqDiff, Nat.reduceAdd, Nat.reduceLeDiff, ↓reduceIte, c23]
      repeat' (first | ((with_reducible refine brC (fun _ => ?_) fun _ => ?_) <;> try (exfalso; omega)) | (with_reducible apply pcallE.of; · exact cB1) | (with_reducible apply pcallE.of; · exact cT) | (with_reducible refine And.intro ?_ ?_; · omega) | simp -dsimp -implicitDefEqProofs (disch := omega) only [↓Q0 10, VCA, Nat.reduceEqDiff, Nat.reduceAdd, ↓reduceIte, exists_eq_right_right, exists_eq_right])
      first | exact Sub.refl _ | exact ⟨Sub.refl _, rfl⟩ | trace_state
  · by_cases h2 : kd = 2
    · rw [if_neg (by omega), if_neg h1, if_pos h2]
      cases b2 <;> cases g
      all_goals
        refine Q1 Tryz.func23 hn23 hc23 (by rw [Tryz.ntmps23]; simp) (by rw [Tryz.ntmps23]; decide) ?_
        simp -dsimp -implicitDefEqProofs (disch := omega) only [VCA, Nat.reduceEqDiff, Nat.reduceAdd, Nat.reduceLeDiff, ↓reduceIte, c23]
        repeat' (first | ((with_reducible refine brC (fun _ => ?_) fun _ => ?_) <;> try (exfalso; omega)) | (with_reducible apply pcallE.of; · exact cB2) | (with_reducible apply pcallE.of; · exact cT) | (with_reducible refine And.intro ?_ ?_; · omega) | simp -dsimp -implicitDefEqProofs (disch := omega) only [↓Q0 18, VCA, Nat.reduceEqDiff, Nat.reduceAdd, ↓reduceIte, exists_eq_right_right, exists_eq_right])
        first | exact Sub.refl _ | exact ⟨Sub.refl _, rfl⟩ | trace_state
    · by_cases h3 : kd = 3
      · rw [if_neg (by omega), if_neg h1, if_neg h2, if_pos h3]
        obtain ⟨z, hz⟩ : ∃ b, (tx != []) = b := ⟨_, rfl⟩
        rw [hz]
        cases b3 <;> cases z
        all_goals
          refine Q1 Tryz.func23 hn23 hc23 (by rw [Tryz.ntmps23]; simp) (by rw [Tryz.ntmps23]; decide) ?_
          simp -dsimp -implicitDefEqProofs (disch := omega) only [VCA, Nat.reduceEqDiff, Nat.reduceAdd, Nat.reduceLeDiff, ↓reduceIte, c23]
          repeat' (first | ((with_reducible refine brC (fun _ => ?_) fun _ => ?_) <;> try (exfalso; omega)) | (with_reducible apply pcallE.of; · exact cB3) | (with_reducible refine And.intro ?_ ?_; · omega) | simp -dsimp -implicitDefEqProofs (disch := omega) only [↓Q0 26, VCA, Nat.reduceEqDiff, Nat.reduceAdd, Nat.reduceLeDiff, ↓reduceIte, exists_eq_right_right, exists_eq_right, hz])
          first | exact Sub.refl _ | exact ⟨Sub.refl _, rfl⟩ | trace_state
      · by_cases h4 : kd = 4
        · rw [if_neg (by omega), if_neg h1, if_neg h2, if_neg h3, if_pos h4]
          cases q1 : Z7 tx 0 [62] <;> cases q2 : Z7 tx 0 [45, 62] <;> cases q3 : hasM tx [45, 45, 62] <;> rw [q1] at c1 <;> rw [q2] at c2 <;> rw [q3] at c3 <;> cases b3
          all_goals
            refine Q1 Tryz.func23 hn23 hc23 (by rw [Tryz.ntmps23]; simp) (by rw [Tryz.ntmps23]; decide) ?_
            simp -dsimp -implicitDefEqProofs (disch := omega) only [VCA, Nat.reduceEqDiff, Nat.reduceAdd, Nat.reduceLeDiff, ↓reduceIte, c23]
            repeat' (first | ((with_reducible refine brC (fun _ => ?_) fun _ => ?_) <;> try (exfalso; omega)) | (with_reducible apply pcallE.of; · exact cB3) | (with_reducible apply pcallE.of; · exact c1) | (with_reducible apply pcallE.of; · exact c2) | (with_reducible apply pcallE.of; · exact c3) | (with_reducible refine And.intro ?_ ?_; · omega) | simp -dsimp -implicitDefEqProofs (disch := omega) only [↓Q0 35, ↓Q0 41, ↓Q0 47, VCA, Nat.reduceEqDiff, Nat.reduceAdd, Nat.reduceLeDiff, ↓reduceIte, exists_eq_right_right, exists_eq_right])
            first | exact Sub.refl _ | exact ⟨Sub.refl _, rfl⟩ | trace_state
        · by_cases h5 : kd = 5
          · rw [if_neg (by omega), if_neg h1, if_neg h2, if_neg h3, if_neg h4]
            obtain ⟨z, hz⟩ : ∃ b, (K3 nm == nm) = b := ⟨_, rfl⟩
            rw [hz]
            cases b2 <;> cases z
            all_goals
              refine Q1 Tryz.func23 hn23 hc23 (by rw [Tryz.ntmps23]; simp) (by rw [Tryz.ntmps23]; decide) ?_
              simp -dsimp -implicitDefEqProofs (disch := omega) only [VCA, Nat.reduceEqDiff, Nat.reduceAdd, Nat.reduceLeDiff, ↓reduceIte, c23]
              repeat' (first | ((with_reducible refine brC (fun _ => ?_) fun _ => ?_) <;> try (exfalso; omega)) | (with_reducible apply pcallE.of; · exact cB2) | (with_reducible apply pcallE.of; · exact cN) | (with_reducible refine And.intro ?_ ?_; · omega) | simp -dsimp -implicitDefEqProofs (disch := omega) only [↓Q5 57, VCA, Nat.reduceEqDiff, Nat.reduceAdd, Nat.reduceLeDiff, ↓reduceIte, Y8, Q7, exists_eq_right_right, exists_eq_right, J1, J8, hz])
              first | exact Sub.refl _ | exact ⟨Sub.refl _, rfl⟩ | trace_state
          · rw [if_pos (by omega)]
            refine Q1 Tryz.func23 hn23 hc23 (by rw [Tryz.ntmps23]; simp) (by rw [Tryz.ntmps23]; decide) ?_
            simp -dsimp -implicitDefEqProofs (disch := omega) only [VCA, Nat.reduceEqDiff, Nat.reduceAdd, Nat.reduceLeDiff, ↓reduceIte, c23]
            repeat' (first | ((with_reducible refine brC (fun _ => ?_) fun _ => ?_) <;> try (exfalso; omega)) | (with_reducible refine And.intro ?_ ?_; · omega) | simp -dsimp -implicitDefEqProofs (disch := omega) only [VCA, Nat.reduceEqDiff, ↓reduceIte, exists_eq_right])
            first | exact Sub.refl _ | exact ⟨Sub.refl _, rfl⟩ | trace_state
def W8 (nm tx : List UInt8) : List UInt8 := 60 :: nm ++ (62 :: (tx ++ (60 :: 47 :: nm ++ [62])))
theorem bt_app_l {a b : List UInt8} {i : Nat} (h : i < a.length) : bt (a ++ b) i = bt a i := by
  unfold bt; rw [List.getD_eq_getElem?_getD, List.getD_eq_getElem?_getD, List.getElem?_append_left h]
theorem JT {a b : List UInt8} {i : Nat} : bt (a ++ b) (a.length + i) = bt b i := by
  unfold bt; rw [List.getD_eq_getElem?_getD, List.getD_eq_getElem?_getD, List.getElem?_append_right (by omega), show a.length + i - a.length = i by omega]
theorem stand_app {a b w : List UInt8} {i : Nat} : Z7 (a ++ b) (a.length + i) w = Z7 b i w := by
  rw [Bool.eq_iff_iff, stand_iff, stand_iff, List.length_append]
  refine ⟨fun ⟨h1, h2⟩ => ⟨by omega, fun j hj => ?_⟩, fun ⟨h1, h2⟩ => ⟨by omega, fun j hj => ?_⟩⟩
  · have := h2 j hj; rw [Nat.add_assoc, JT] at this; exact this
  · rw [Nat.add_assoc, JT]; exact h2 j hj
theorem close_app {a b nm : List UInt8} {i : Nat} : X8 (a ++ b) (a.length + i) nm = X8 b i nm := by
  unfold X8
  rw [stand_app, show a.length + i + 2 + nm.length = a.length + (i + 2 + nm.length) by omega, JT, List.length_append]
  congr 1
  rw [Bool.eq_iff_iff, decide_eq_true_iff, decide_eq_true_iff]; omega
theorem readF_pre {s : List UInt8} : ∀ (f a : Nat) (out : List HTok) (sf : Nat), ∃ rest, (V5 s f a out sf).1 = out ++ rest
  | 0, a, out, sf => ⟨[], (List.append_nil _).symm⟩
  | f + 1, a, out, sf => by
    rw [V5]
    split
    · cases hq : X5 s a with
      | none => exact ⟨[], (List.append_nil _).symm⟩
      | some q =>
        obtain ⟨t, en, b⟩ := q
        obtain ⟨rest, hr⟩ := readF_pre f (Z8 s b (W7 t)) (out ++ (putT t a b ++ Y7 s b (W7 t))) (if en = true /\ t.kind ≠ 0 then b else sf)
        refine ⟨(putT t a b ++ Y7 s b (W7 t)) ++ rest, ?_⟩
        show (V5 s f _ _ _).1 = _
        rw [hr, List.append_assoc]
    · exact ⟨[], (List.append_nil _).symm⟩
structure RawN (nm : List UInt8) : Prop where
  ne : nm ≠ []
  raw : X2 nm = 1
  name : K3 nm = nm
  let0 : U1 (bt nm 0) = true
  low : ∀ j, j < nm.length -> ZW (bt nm j) = bt nm j
  stop : ∀ j, j < nm.length -> Z9 (bt nm j) = false
theorem rawN_of {nm : List UInt8} (h : X2 nm = 1) : RawN nm := by
  have hn : nm = [115, 99, 114, 105, 112, 116] \/ nm = [115, 116, 121, 108, 101] := by
    unfold X2 at h
    split at h
    · assumption
    · split at h <;> exact absurd h (by decide)
  rcases hn with rfl | rfl
  · exact ⟨by decide, rfl, by decide +kernel, by decide, by decide, by decide⟩
  · exact ⟨by decide, rfl, by decide +kernel, by decide, by decide, by decide⟩
theorem tag_plain {s nm : List UInt8} {a : Nat} (R : RawN nm) (hl : a + nm.length < s.length) (hb : ∀ j, j < nm.length -> bt s (a + j) = bt nm j) (he : bt s (a + nm.length) = 62) : UU s a = some (nm, [], false, a + nm.length + 1) := by
  have h1 : Z4 Z9 s a = a + nm.length := FirstIs.eq ⟨by omega, by omega, fun _ => by show Z9 (bt s (a + nm.length)) = true; rw [he]; rfl, fun j h2 h3 => by
    have := hb (j - a) (by omega)
    rw [show a + (j - a) = j by omega] at this
    show Z9 (bt s j) = false
    rw [this]; exact R.stop _ (by omega)⟩
  have h2 : Z4 X3 s (a + nm.length) = a + nm.length := Y9 (q := fun i => X3 (bt s i)) (by show X3 (bt s (a + nm.length)) = true; rw [he]; rfl) hl
  have h3 : seg s a (a + nm.length) = nm := by
    apply List.ext_getElem?
    intro j
    have sl := TK (s := s) (a := a) (b := a + nm.length) (by omega)
    by_cases hj : j < nm.length
    · have e1 : bt (seg s a (a + nm.length)) j = bt nm j := by rw [bt_seg (by omega)]; exact hb j hj
      unfold bt at e1
      rw [List.getD_eq_getElem?_getD, List.getD_eq_getElem?_getD, List.getElem?_eq_getElem (by omega), List.getElem?_eq_getElem hj] at e1
      rw [List.getElem?_eq_getElem (by omega), List.getElem?_eq_getElem hj]
      simp only [Option.getD_some] at e1
      rw [VV e1]
    · rw [List.getElem?_eq_none (by omega), List.getElem?_eq_none (by omega)]
  unfold UU
  rw [h1, WV, h2, if_pos hl, if_pos he, h3, R.name]
  simp
def clT (nm : List UInt8) : List UInt8 := 60 :: 47 :: nm ++ [62]
theorem clT_len (nm : List UInt8) : (clT nm).length = nm.length + 3 := by unfold clT; simp
theorem clT_nm {nm : List UInt8} {j : Nat} (h : j < nm.length) : bt (clT nm) (2 + j) = bt nm j := by
  unfold clT
  rw [show (60 :: 47 :: nm ++ [62] : List UInt8) = [60, 47] ++ (nm ++ [62]) from rfl, show 2 + j = ([60, 47] : List UInt8).length + j from rfl, JT, bt_app_l h]
theorem clT_end (nm : List UInt8) : bt (clT nm) (2 + nm.length) = 62 := by
  unfold clT
  rw [show (60 :: 47 :: nm ++ [62] : List UInt8) = [60, 47] ++ (nm ++ [62]) from rfl, show 2 + nm.length = ([60, 47] : List UInt8).length + (nm.length + 0) from rfl, JT, JT]; rfl
theorem clT_close {nm : List UInt8} (R : RawN nm) : X8 (clT nm) 0 nm = true := by
  unfold X8
  have h1 : Z7 (clT nm) 0 (60 :: 47 :: nm) = true := stand_iff.2 ⟨by rw [clT_len]; simp only [List.length_cons]; omega, fun j hj => by
    simp only [List.length_cons] at hj
    match j, hj with
    | 0, _ => rfl
    | 1, _ => rfl
    | j + 2, hj =>
      rw [show 0 + (j + 2) = 2 + j by omega, clT_nm (by omega), TZ, TZ]
      exact R.low j (by omega)⟩
  rw [h1, clT_len, decide_eq_true (by omega), show 0 + 2 + nm.length = 2 + nm.length by omega, clT_end]
  rfl
def QW (nm tx : List UInt8) : Bool := (List.range tx.length).any fun i => X8 (tx ++ clT nm) i nm
theorem early_no {nm tx : List UInt8} (h : QW nm tx = false) : ∀ j, j < tx.length -> X8 (tx ++ clT nm) j nm = false := fun j hj => by
  unfold QW at h
  rw [List.any_eq_false] at h
  have := h j (List.mem_range.2 hj)
  simpa using this
theorem early_yes {nm tx : List UInt8} (h : QW nm tx = true) : ∃ j, j < tx.length /\ X8 (tx ++ clT nm) j nm = true := by
  unfold QW at h
  rw [List.any_eq_true] at h
  obtain ⟨j, h1, h2⟩ := h
  exact ⟨j, List.mem_range.1 h1, h2⟩
def opT (nm : List UInt8) : List UInt8 := 60 :: nm ++ [62]
theorem TY (nm : List UInt8) : (opT nm).length = nm.length + 2 := by unfold opT; simp
theorem rawText_is (nm tx : List UInt8) : W8 nm tx = opT nm ++ (tx ++ clT nm) := by
  unfold W8 opT clT
  simp
theorem raw_read {nm tx : List UInt8} (R : RawN nm) : ∃ c : Nat, c = Y0 (fun i => X8 (tx ++ clT nm) i nm) (tx ++ clT nm).length 0 /\
    T7 (W8 nm tx) = V5 (W8 nm tx) (W8 nm tx).length (nm.length + 2 + c)
      ([⟨1, nm, [], [], false, 0, (nm.length + 2 : Nat)⟩] ++ (if 0 < c then [⟨3, [], [], seg (W8 nm tx) (nm.length + 2) (nm.length + 2 + c), false, (nm.length + 2 : Nat), (nm.length + 2 + c : Nat)⟩] else [])) (nm.length + 2) := by
  refine ⟨_, rfl, ?_⟩
  have hs := rawText_is nm tx
  obtain ⟨s, hse⟩ : ∃ s, W8 nm tx = s := ⟨_, rfl⟩
  rw [hse] at hs ⊢
  have sl : s.length = nm.length + 2 + (tx ++ clT nm).length := by rw [hs, List.length_append, TY]
  have b0 : bt s 0 = 60 := by rw [hs, bt_app_l (by rw [TY]; omega)]; rfl
  have b1 : ∀ j, j < nm.length -> bt s (1 + j) = bt nm j := fun j hj => by
    rw [hs, bt_app_l (by rw [TY]; omega), show 1 + j = j + 1 by omega]
    show bt (60 :: (nm ++ [62])) (j + 1) = _
    rw [TZ, bt_app_l hj]
  have b2 : bt s (1 + nm.length) = 62 := by
    rw [hs, bt_app_l (by rw [TY]; omega), show 1 + nm.length = nm.length + 1 by omega]
    show bt (60 :: (nm ++ [62])) (nm.length + 1) = _
    rw [TZ, show nm.length = nm.length + 0 from rfl, JT]; rfl
  have hpos : 0 < nm.length := List.length_pos_iff.2 R.ne
  have cl := clT_len nm
  have hk : Y1 s 0 = 97 := by
    unfold Y1
    have := b1 0 hpos
    rw [if_neg (by simp only [b0]; omega), if_pos (by rw [show 0 + 1 = 1 + 0 from rfl, this]; exact R.let0)]
  have e0 : Z8 s 0 [] = 0 := by
    rw [Z8, if_pos rfl]
    exact Y9 (by rw [hk]; rfl) (by omega)
  have t0 : Y7 s 0 [] = [] := by unfold Y7; rw [e0, if_neg (by omega)]
  have hm : X5 s 0 = some (⟨1, nm, [], [], false, 0, 0⟩, true, nm.length + 2) := by
    unfold X5
    rw [if_pos hk, show 0 + 1 = 1 from rfl, tag_plain R (by rw [sl]; omega) b1 b2, show 1 + nm.length + 1 = nm.length + 2 by omega]; rfl
  have hro : W7 ⟨1, nm, [], [], false, 0, 0⟩ = nm := if_pos ⟨rfl, by rw [R.raw]; decide⟩
  have e1 : Z8 s (nm.length + 2) nm = nm.length + 2 + Y0 (fun i => X8 (tx ++ clT nm) i nm) (tx ++ clT nm).length 0 := by
    rw [Z8, if_neg R.ne, sl, first_shift]
    congr 1
    refine congrArg (fun q => Y0 q (tx ++ clT nm).length 0) (funext fun i => ?_)
    rw [hs, <- TY, close_app]
  obtain ⟨c, hc⟩ : ∃ c, Y0 (fun i => X8 (tx ++ clT nm) i nm) (tx ++ clT nm).length 0 = c := ⟨_, rfl⟩
  rw [hc] at e1 ⊢
  unfold T7
  rw [e0, t0, V5, if_pos (by omega), hm]
  show V5 s s.length (Z8 s (nm.length + 2) (W7 ⟨1, nm, [], [], false, 0, 0⟩)) _ _ = _
  rw [hro, e1]
  have e2 : Y7 s (nm.length + 2) nm = if 0 < c then [⟨3, [], [], seg s (nm.length + 2) (nm.length + 2 + c), false, (nm.length + 2 : Nat), (nm.length + 2 + c : Nat)⟩] else [] := by
    unfold Y7
    rw [e1, R.raw, if_pos rfl]
    by_cases h : 0 < c
    · rw [if_pos (by omega), if_pos h]
    · rw [if_neg (by omega), if_neg h]
  rw [e2]
  rfl
theorem seg_mid (a b c : List UInt8) : seg (a ++ (b ++ c)) a.length (a.length + b.length) = b := by
  unfold seg
  rw [<- List.append_assoc, List.take_append_of_le_length (by rw [List.length_append]; omega), List.take_of_length_le (by rw [List.length_append]; omega), List.drop_append_of_le_length (by omega), List.drop_of_length_le (by omega)]
  rfl
theorem low_let {b c : Int} (h : ZW b = c) (h1 : U1 c = true) (h2 : ZW c = c) : U1 b = true := by
  unfold ZW at h h2
  unfold U1 at h1 ⊢
  simp only [Bool.or_eq_true, Bool.and_eq_true, decide_eq_true_eq] at h1 ⊢
  split at h <;> split at h2 <;> omega
theorem raw_law {nm tx : List UInt8} (R : RawN nm) (htx : tx ≠ []) :
    (QW nm tx = false -> ∃ a b c, (T7 (W8 nm tx)).1 = [a, b, c] /\ b.text = tx) /\
    (QW nm tx = true -> (T7 (W8 nm tx)).1.length ≠ 3 \/ (nth (T7 (W8 nm tx)).1 1).text ≠ tx) := by
  obtain ⟨c, hc, hr⟩ := raw_read (tx := tx) R
  have hs := rawText_is nm tx
  obtain ⟨s, hse⟩ : ∃ s, W8 nm tx = s := ⟨_, rfl⟩
  rw [hse] at hs hr ⊢
  have cl := clT_len nm
  have sl : s.length = nm.length + 2 + (tx.length + (nm.length + 3)) := by rw [hs, List.length_append, TY, List.length_append, cl]
  have F := WQ (q := fun i => X8 (tx ++ clT nm) i nm) (n := (tx ++ clT nm).length) (a := 0) (Nat.zero_le _)
  rw [<- hc] at F
  have hB : (tx ++ clT nm).length = tx.length + (nm.length + 3) := by rw [List.length_append, cl]
  rw [hB] at F
  have hcl : X8 (tx ++ clT nm) tx.length nm = true := by
    have := close_app (a := tx) (b := clT nm) (nm := nm) (i := 0)
    rw [Nat.add_zero] at this
    rw [this]; exact clT_close R
  have hle : c <= tx.length := by
    by_cases h : c <= tx.length
    · exact h
    · have := F.no tx.length (Nat.zero_le _) (by omega)
      rw [hcl] at this; cases this
  have hpos : 0 < nm.length := List.length_pos_iff.2 R.ne
  have htl : 0 < tx.length := List.length_pos_iff.2 htx
  obtain ⟨f, hf⟩ : ∃ f, s.length = f + 1 := ⟨s.length - 1, by omega⟩
  have bk : ∀ i, bt s (nm.length + 2 + i) = bt (tx ++ clT nm) i := fun i => by rw [hs, <- TY, JT]
  refine ⟨fun he => ?_, fun he => ?_⟩
  · obtain rfl : c = tx.length := by
      by_cases h : c = tx.length
      · exact h
      · have h1 := F.hit (by omega)
        have h1 : X8 (tx ++ clT nm) c nm = true := h1
        rw [early_no he c (by omega)] at h1; cases h1
    have hseg : seg s (nm.length + 2) (nm.length + 2 + tx.length) = tx := by rw [hs, <- TY, seg_mid]
    have bT : ∀ i, bt s (nm.length + 2 + tx.length + i) = bt (clT nm) i := fun i => by rw [Nat.add_assoc, bk, JT]
    obtain ⟨E, hE⟩ : ∃ E, nm.length + 2 + tx.length = E := ⟨_, rfl⟩
    rw [hE] at hr hseg bT
    have b0 : bt s E = 60 := bT 0
    have b1 : bt s (E + 1) = 47 := bT 1
    have b2 : ∀ j, j < nm.length -> bt s (E + 2 + j) = bt nm j := fun j hj => by rw [Nat.add_assoc, bT, clT_nm hj]
    have b3 : bt s (E + 2 + nm.length) = 62 := by rw [Nat.add_assoc, bT, clT_end]
    have hk : Y1 s E = 47 := by
      unfold Y1
      rw [b0, b1, if_neg (by omega), if_neg (by decide), if_neg (by decide), if_pos ⟨rfl, by omega⟩]
    have hl2 : U1 (bt s (E + 2)) = true := by have := b2 0 hpos; rw [Nat.add_zero] at this; rw [this]; exact R.let0
    have hm : X5 s E = some (⟨2, nm, [], [], false, 0, 0⟩, true, s.length) := by
      unfold X5
      rw [hk, if_neg (by decide), if_neg (by decide), if_neg (by decide), if_neg (fun q => by rw [q] at hl2; cases hl2), if_pos hl2, tag_plain R (by omega) b2 b3, show E + 2 + nm.length + 1 = s.length by omega]; rfl
    have e1 : Z8 s s.length [] = s.length := by rw [Z8, if_pos rfl]; exact U5 (Nat.le_refl _)
    have e2 : Y7 s s.length [] = [] := by unfold Y7; rw [e1, if_neg (by omega)]
    have hro : W7 ⟨2, nm, [], [], false, 0, 0⟩ = [] := by unfold W7; rw [if_neg]; rintro ⟨q, _⟩; have q : (2 : Int) = 1 := q; omega
    have hr2 : (T7 s).1 = ([⟨1, nm, [], [], false, 0, (nm.length + 2 : Nat)⟩] ++ [⟨3, [], [], tx, false, (nm.length + 2 : Nat), (E : Nat)⟩]) ++ ([⟨2, nm, [], [], false, (E : Nat), (s.length : Nat)⟩] ++ []) := by
      have hu : ∀ X sf, V5 s s.length E X sf = V5 s (f + 1) E X sf := fun X sf => by rw [<- hf]
      rw [hr, if_pos htl, hseg, hu, V5, if_pos (by omega), hm]
      show (V5 s f (Z8 s s.length (W7 ⟨2, nm, [], [], false, 0, 0⟩)) _ _).1 = _
      have e3 : putT ⟨2, nm, [], [], false, 0, 0⟩ E s.length = [⟨2, nm, [], [], false, (E : Nat), (s.length : Nat)⟩] := if_neg (by show ¬ (2 : Int) = 0; decide)
      rw [hro, e1, e2, e3]
      cases f with
      | zero => omega
      | succ f => rw [V5, if_neg (by omega)]
    exact ⟨_, _, _, hr2, rfl⟩
  · obtain ⟨j, hj, hjc⟩ := early_yes he
    have hcj : c <= j := by
      by_cases h : c <= j
      · exact h
      · have := F.no j (Nat.zero_le _) (by omega)
        have this : X8 (tx ++ clT nm) j nm = false := this
        rw [hjc] at this; cases this
    by_cases hc0 : 0 < c
    · rw [if_pos hc0] at hr
      obtain ⟨rest, hp⟩ := readF_pre (s := s) s.length (nm.length + 2 + c) ([⟨1, nm, [], [], false, 0, (nm.length + 2 : Nat)⟩] ++ [⟨3, [], [], seg s (nm.length + 2) (nm.length + 2 + c), false, (nm.length + 2 : Nat), (nm.length + 2 + c : Nat)⟩]) (nm.length + 2)
      rw [hr, hp]
      right
      show seg s (nm.length + 2) (nm.length + 2 + c) ≠ tx
      intro q
      have := congrArg List.length q
      rw [TK (by omega)] at this
      omega
    · obtain rfl : c = 0 := by omega
      have h0 := F.hit (by omega)
      have h0 : X8 (tx ++ clT nm) 0 nm = true := h0
      unfold X8 at h0
      rw [Bool.and_eq_true, Bool.and_eq_true, decide_eq_true_eq, hB] at h0
      obtain ⟨h1, h2, _⟩ := h0
      obtain ⟨_, h2⟩ := stand_iff.1 h2
      have q0 := h2 0 (by simp)
      have q1 := h2 1 (by simp)
      have q2 := h2 2 (by simp only [List.length_cons]; omega)
      rw [show (0 : Nat) + 0 = 0 from rfl] at q0
      rw [show (0 : Nat) + 1 = 1 from rfl] at q1
      rw [show (0 : Nat) + 2 = 2 from rfl] at q2
      rw [<- bk] at q0 q1 q2
      have q0 : ZW (bt s (nm.length + 2 + 0)) = 60 := q0
      have q1 : ZW (bt s (nm.length + 2 + 1)) = 47 := q1
      have q2 : ZW (bt s (nm.length + 2 + 2)) = bt nm 0 := q2
      have b0 : bt s (nm.length + 2) = 60 := by rw [Nat.add_zero] at q0; unfold ZW at q0; split at q0 <;> omega
      have b1 : bt s (nm.length + 2 + 1) = 47 := by unfold ZW at q1; split at q1 <;> omega
      have b2 : U1 (bt s (nm.length + 2 + 2)) = true := low_let q2 R.let0 (R.low 0 hpos)
      have hk : Y1 s (nm.length + 2) = 47 := by
        unfold Y1
        rw [b0, b1, if_neg (by omega), if_neg (by decide), if_neg (by decide), if_pos ⟨rfl, by omega⟩]
      have hm : X5 s (nm.length + 2) = (UU s (nm.length + 2 + 2)).map fun q => (⟨2, q.1, [], [], false, 0, 0⟩, true, q.2.2.2) := by
        unfold X5
        rw [hk, if_neg (by decide), if_neg (by decide), if_neg (by decide), if_neg (fun q => by rw [q] at b2; cases b2), if_pos b2]
      rw [if_neg (by omega), List.append_nil, Nat.add_zero, hf, V5, if_pos (by omega), hm] at hr
      cases ht : UU s (nm.length + 2 + 2) with
      | none =>
        rw [ht] at hr
        have hr : T7 s = ([⟨1, nm, [], [], false, 0, (nm.length + 2 : Nat)⟩], nm.length + 2) := hr
        rw [hr]; left; simp
      | some q =>
        rw [ht] at hr
        have hr : T7 s = V5 s f _ ([⟨1, nm, [], [], false, 0, (nm.length + 2 : Nat)⟩] ++ ([⟨2, q.1, [], [], false, (nm.length + 2 : Nat), (q.2.2.2 : Nat)⟩] ++ Y7 s q.2.2.2 (W7 ⟨2, q.1, [], [], false, 0, 0⟩))) _ := hr
        obtain ⟨rest, hp⟩ := readF_pre (s := s) f _ ([⟨1, nm, [], [], false, 0, (nm.length + 2 : Nat)⟩] ++ ([⟨2, q.1, [], [], false, (nm.length + 2 : Nat), (q.2.2.2 : Nat)⟩] ++ Y7 s q.2.2.2 (W7 ⟨2, q.1, [], [], false, 0, 0⟩))) _
        rw [hr, hp]
        right
        exact fun q => htx q.symm
def escA (a : HAttr) : List UInt8 := 32 :: a.name ++ ([61, 34] ++ (YT true a.value ++ [34]))
def startM (t : HTok) : List UInt8 := 60 :: t.name ++ (t.attrs.flatMap escA ++ ((if t.self = true then [47] else []) ++ [62]))
theorem escC_len (attr : Bool) (c : UInt8) : (escC attr c).length <= 6 := by
  unfold escC
  (repeat' split) <;> first | decide | simp
theorem VT (attr : Bool) : ∀ (n : Nat) (s : List UInt8), s.length <= n -> (YT attr s).length <= 6 * s.length
  | 0, s, h => by
    have : s = [] := List.eq_nil_of_length_eq_zero (by omega)
    rw [this, escD_nil]; simp
  | n + 1, [], h => by rw [escD_nil]; simp
  | n + 1, c :: t, h => by
    simp only [List.length_cons] at h
    by_cases hc : c = 194 /\ t.head? = some 160
    · obtain ⟨rfl, ht⟩ := hc
      cases t with
      | nil => cases ht
      | cons d t =>
        have : d = 160 := by simpa using ht
        subst this
        rw [escD_nb, List.length_append]
        have := VT attr n t (by simp only [List.length_cons] at h; omega)
        have e : nbspS.length = 6 := rfl
        simp only [List.length_cons]; omega
    · rw [escD_c attr c t hc, List.length_append]
      have := VT attr n t (by omega)
      have := escC_len attr c
      simp only [List.length_cons]; omega
theorem flat_take {α : Type} [Inhabited α] (f : α -> List UInt8) {l : List α} {k : Nat} (h : k < l.length) : (l.take (k + 1)).flatMap f = (l.take k).flatMap f ++ f (nth l k) := by
  have e : l.take (k + 1) = l.take k ++ [nth l k] := by
    rw [List.take_add_one, V8 h]; rfl
  rw [e, List.flatMap_append]
  simp
theorem escA_len {a : HAttr} (h1 : a.name.length <= 1500000) (h2 : a.value.length <= 1500000) : (escA a).length <= 10600000 := by
  unfold escA
  have := VT true _ a.value (Nat.le_refl _)
  simp only [List.length_append, List.length_cons, List.length_nil]; omega
def c51 : SFun := ⟨.seq (.reg [o 1 (.boxF 43 7 (.t 0)), o 2 (.mv (.c (.str [])))]) (.seq (.reg [o 6 (.fldA 1 (.t 1)), o 7 (.ld 1 false (.t 6)), o 8 (.bin .add (.c (.str [60])) (.t 7)), o 3 (.mv (.t 8))]) (.seq (.seq (.reg [o 9 (.fldA 2 (.t 1)), o 10 (.ld 1 false (.t 9)), o 11 (.len (.t 10)), o 12 (.mv (.c (.int .i64 0)))]) (.block 0 (.loop (.seq (.reg [o 13 (.bin .lss (.t 12) (.t 11))]) (.seq (.cond (.t 13) .skip (.exit 0)) (.seq (.block 1 (.seq (.reg [o 14 (.idxA 2 (.t 10) (.t 12)), o 15 (.ld 2 true (.t 14)), o 5 (.new 45 2 [.str [], .str []]), ⟨none, .st 2 (.t 5) (.t 15), none⟩]) (.dreg [(o 16 (.mv (.t 3)), none), (o 17 (.fldA 0 (.t 5)), none), (o 18 (.ld 1 false (.t 17)), none), (o 19 (.bin .add (.c (.str [32])) (.t 18)), none), (o 20 (.bin .add (.t 19) (.c (.str [61, 34]))), none), (o 21 (.fldA 1 (.t 5)), none), (o 22 (.ld 1 false (.t 21)), none), (o 23 (.pcall 52 [.t 22, .c (.bool true)]), none), (o 24 (.bin .add (.t 20) (.t 23)), none), (o 25 (.bin .add (.t 24) (.c (.str [34]))), none), (o 26 (.bin .add (.t 16) (.t 25)), none), (o 3 (.mv (.t 26)), (some [18, 22]))]))) (.reg [o 27 (.bin .add (.t 12) (.c (.int .i64 1))), o 12 (.mv (.t 27))]))))))) (.seq (.seq (.reg [o 28 (.fldA 4 (.t 1)), o 29 (.ld 1 false (.t 28))]) (.cond (.t 29) (.reg [o 30 (.mv (.t 3)), o 31 (.bin .add (.t 30) (.c (.str [47]))), o 3 (.mv (.t 31))]) .skip)) (.seq (.reg [o 32 (.mv (.t 3)), o 33 (.bin .add (.t 32) (.c (.str [62]))), o 2 (.mv (.t 33))]) .ret)))), [.tmp 2]⟩
theorem hc51 : Y5 Tryz.prog {pure := [52]} Tryz.f51 = some c51 := by kernel_rfl
theorem tokStart_ok (hG : MaxOK G) (t : HTok) (sm : TokSm t) : PCalls (Pg G) 51 [.agg (J6 t)] (.str (startM t)) := fun h => by
  obtain ⟨kd, nm, L, tx, sf, fr, ti⟩ := t
  have hn := sm.name
  have hL := sm.attrs
  have hA := sm.att
  simp only at hn hL hA
  unfold startM J6 sl
  simp only
  have ll : (L.map Z6).length = L.length := List.length_map ..
  refine Q1 Tryz.func51 (by kernel_rfl) hc51 (by rw [Tryz.ntmps51]; simp) (by rw [Tryz.ntmps51]; decide) ?_
  simp -dsimp -implicitDefEqProofs (disch := omega) only [VCA, Nat.reduceEqDiff, Nat.reduceAdd, Nat.reduceLeDiff, ↓reduceIte, c51]
  repeat' (first | ((with_reducible refine brC (fun _ => ?_) fun _ => ?_) <;> try (exfalso; omega)) | (with_reducible refine And.intro ?_ ?_; · omega) | simp -dsimp -implicitDefEqProofs (disch := omega) only [VCA, pg_gl, ↓U9, Nat.reduceEqDiff, Nat.reduceBEq, Nat.reduceAdd, Nat.reduceSub, Nat.reduceMul, Nat.reduceLT, Nat.reduceLeDiff, ↓reduceIte, reduceCtorEq, Y8, Q7, SOp.rd, SI.rd, SX.rd, rdL, rdO, rdP, J4, X6, Y3, X7, Y6, Z3, implies_true, forall_const, forall_eq, ne_eq, exists_eq_right_right, exists_eq_right, exists_eq_left, exists_eq_left', J1, Z6, WJ, J8, ll])
  refine LoopVC.intro (fun m e h' => ∃ k : Nat, k <= L.length /\ m = L.length - k /\ e 1 = .pin [Q3 kd, .str nm, .slc (L.map Z6), .str tx, .bool sf, Q3 fr, Q3 ti] /\ e 3 = .str (60 :: nm ++ (L.take k).flatMap escA) /\ e 10 = .slc (L.map Z6) /\ e 11 = Q3 L.length /\ e 12 = Q3 k /\ ((L.take k).flatMap escA).length <= k * 10600000 /\ Sub h h') L.length
    (by exact ⟨0, by omega, by omega, rfl, by simp [upd], rfl, rfl, rfl, by simp, Sub.refl _⟩) ?_
  rintro m e h' ⟨k, hk, rfl, e1, e3, e10, e11, e12, hlen, S⟩
  by_cases hlt : k < L.length
  · have hd : decide ((k : Int) < (L.length : Int)) = true := decide_eq_true (by omega)
    have hft := flat_take escA hlt
    have hmem := W6 hlt
    obtain ⟨x, hx⟩ : ∃ x, nth L k = x := ⟨_, rfl⟩
    rw [hx] at hft hmem
    obtain ⟨q1, q2⟩ := hA x hmem
    have hal := escA_len q1 q2
    have cE := escape_ok (G := G) hG x.value true (by omega)
    have hel := VT true _ x.value (Nat.le_refl _)
    repeat' (first | ((with_reducible refine brC (fun _ => ?_) fun _ => ?_) <;> try (exfalso; omega)) | (with_reducible refine And.intro ?_ ?_; · omega) | simp -dsimp -implicitDefEqProofs (disch := omega) only [VCA, Nat.reduceEqDiff, Nat.reduceAdd, Nat.reduceLT, Nat.reduceLeDiff, ↓reduceIte, Y8, Q7, Z3, exists_eq_left', J1, Z6, e3, e10, e11, e12, hd, hx])
    intro r5 hr5
    repeat' (first | ((with_reducible refine brC (fun _ => ?_) fun _ => ?_) <;> try (exfalso; omega)) | (with_reducible apply pcallE.of; · exact cE) | (with_reducible refine And.intro ?_ ?_; · omega) | simp -dsimp -implicitDefEqProofs (disch := omega) only [VCA, Nat.reduceEqDiff, Nat.reduceBEq, Nat.reduceLeDiff, ↓reduceIte, Y8, Q7, SOp.rd, SI.rd, SX.rd, implies_true, J1, e1, e10, e11, e12])
    refine ⟨by simp only [List.length_append, List.length_cons, List.length_nil]; omega, by simp only [List.length_append, List.length_cons, List.length_nil]; omega, by simp only [List.length_append, List.length_cons, List.length_nil]; omega, _, by omega, k + 1, by omega, rfl, ?_, by omega, ?_, S.upd (S.none hr5)⟩
    · rw [hft]; simp [escA]
    · rw [hft, List.length_append]; omega
  · obtain rfl : k = L.length := by omega
    have hd : decide ((L.length : Int) < (L.length : Int)) = false := decide_eq_false (by omega)
    rw [List.take_length] at e3 hlen
    cases sf
    all_goals
      repeat' (first | ((with_reducible refine brC (fun _ => ?_) fun _ => ?_) <;> try (exfalso; omega)) | (with_reducible refine And.intro ?_ ?_; · omega) | simp -dsimp -implicitDefEqProofs (disch := omega) only [VCA, Nat.reduceEqDiff, Nat.reduceAdd, Nat.reduceLeDiff, ↓reduceIte, exists_eq_right_right, e1, e3, e11, e12, hd])
      refine ⟨?_, ?_⟩
      · simp only [List.length_append]; omega
      · first | exact ⟨S, by simp⟩ | (refine ⟨?_, S, by simp⟩; simp only [List.length_append, List.length_cons, List.length_nil]; omega)
abbrev Tsh : Nat := 57
def shO (raw : List UInt8) (st : Int) (tx : Bool) : AObj := ⟨Tsh, 3, [[.str raw, Q3 st, .bool tx]]⟩
def fitsS (raw : List UInt8) (st : Int) (tx : Bool) (t : HTok) : Bool :=
  if t.kind = 3 /\ tx = true then false else if st = 1 /\ t.kind = 3 then !(X2 raw == 1 && QW raw t.text) else if 0 < st then (t.kind == 2 && t.name == raw) else true
def c24 : SFun := ⟨.seq (.reg [o 3 (.boxF 43 7 (.t 1)), o 4 (.mv (.c (.bool false)))]) (.seq (.dreg [(o 8 (.fldA 0 (.t 3)), none), (o 9 (.ld 1 false (.t 8)), none), (o 10 (.bin .eql (.t 9) (.c (.int .i64 2))), none), (o 11 (.mv (.t 10)), none), (⟨some 12, .fldA 1 (.t 3), some (11, true)⟩, none), (⟨some 13, .ld 1 false (.t 12), some (11, true)⟩, none), (⟨some 14, .mv (.t 0), some (11, true)⟩, none), (⟨some 15, .fldA 0 (.t 14), some (11, true)⟩, none), (⟨some 16, .fldA 0 (.t 15), some (11, true)⟩, none), (⟨some 17, .ld 1 false (.t 16), some (11, true)⟩, none), (⟨some 18, .bin .eql (.t 13) (.t 17), some (11, true)⟩, none), (o 19 (.pick (.t 11) (.t 18) (.c (.bool false))), none), (o 5 (.mv (.t 19)), none)]) (.seq (.block 0 (.seq (.reg [o 21 (.fldA 0 (.t 3)), o 22 (.ld 1 false (.t 21)), o 23 (.bin .eql (.t 22) (.c (.int .i64 3))), o 24 (.mv (.t 23)), ⟨some 25, .mv (.t 0), some (24, true)⟩, ⟨some 26, .fldA 0 (.t 25), some (24, true)⟩, ⟨some 27, .fldA 2 (.t 26), some (24, true)⟩, ⟨some 28, .ld 1 false (.t 27), some (24, true)⟩, o 29 (.pick (.t 24) (.t 28) (.c (.bool false))), o 20 (.mv (.t 29))]) (.cond (.t 20) (.seq (.reg [o 4 (.mv (.c (.bool false)))]) .ret) (.seq (.reg [o 31 (.mv (.t 0)), o 32 (.fldA 0 (.t 31)), o 33 (.fldA 1 (.t 32)), o 34 (.ld 1 false (.t 33)), o 35 (.bin .eql (.t 34) (.c (.int .i64 1))), o 36 (.mv (.t 35)), ⟨some 37, .fldA 0 (.t 3), some (36, true)⟩, ⟨some 38, .ld 1 false (.t 37), some (36, true)⟩, ⟨some 39, .bin .eql (.t 38) (.c (.int .i64 3)), some (36, true)⟩, o 40 (.pick (.t 36) (.t 39) (.c (.bool false))), o 30 (.mv (.t 40))]) (.cond (.t 30) (.seq (.dreg [(o 41 (.fldA 3 (.t 3)), none), (o 42 (.ld 1 false (.t 41)), none), (o 43 (.bin .add (.t 42) (.c (.str [60, 47]))), none), (o 44 (.mv (.t 0)), none), (o 45 (.fldA 0 (.t 44)), none), (o 46 (.fldA 0 (.t 45)), none), (o 47 (.ld 1 false (.t 46)), none), (o 48 (.bin .add (.t 43) (.t 47)), none), (o 49 (.bin .add (.t 48) (.c (.str [62]))), none), (o 50 (.bld [.str [], .int .i64 0, .int .i64 0, .emp] [(0, (1, (.t 49)))]), none), (o 51 (.box 38 4 (.t 50)), (some [47, 42])), (o 6 (.mv (.t 51)), none)]) (.seq (.seq (.reg [o 52 (.fldA 3 (.t 3)), o 53 (.ld 1 false (.t 52)), o 54 (.lenS (.t 53)), o 55 (.mv (.c (.int .i64 0)))]) (.block 1 (.loop (.seq (.reg [o 56 (.bin .lss (.t 55) (.t 54))]) (.seq (.cond (.t 56) .skip (.exit 1)) (.seq (.block 2 (.seq (.reg [o 57 (.mv (.t 55)), o 7 (.mv (.t 57))]) (.seq (.reg [o 58 (.mv (.t 0)), o 59 (.fldA 0 (.t 58)), o 60 (.fldA 0 (.t 59)), o 61 (.ld 1 false (.t 60)), o 62 (.pcall 35 [.t 61]), o 63 (.bin .eql (.t 62) (.c (.int .i64 1))), o 64 (.mv (.t 63)), ⟨some 65, .mv (.t 6), some (64, true)⟩, ⟨some 66, .mv (.t 7), some (64, true)⟩, ⟨some 67, .mv (.t 0), some (64, true)⟩, ⟨some 68, .fldA 0 (.t 67), some (64, true)⟩, ⟨some 69, .fldA 0 (.t 68), some (64, true)⟩, ⟨some 70, .ld 1 false (.t 69), some (64, true)⟩, ⟨some 71, .call (.c (.fn 49 [] [])) [.t 65, .t 66, .t 70], some (64, true)⟩, o 72 (.pick (.t 64) (.t 71) (.c (.bool false)))]) (.cond (.t 72) (.seq (.reg [o 4 (.mv (.c (.bool false)))]) .ret) .skip)))) (.reg [o 73 (.bin .add (.t 55) (.c (.int .i64 1))), o 55 (.mv (.t 73))]))))))) (.seq (.reg [o 4 (.mv (.c (.bool true)))]) .ret))) (.seq (.reg [o 75 (.mv (.t 0)), o 76 (.fldA 0 (.t 75)), o 77 (.fldA 1 (.t 76)), o 78 (.ld 1 false (.t 77)), o 79 (.bin .gtr (.t 78) (.c (.int .i64 0))), o 74 (.mv (.t 79))]) (.cond (.t 74) (.seq (.reg [o 80 (.mv (.t 5)), o 4 (.mv (.t 80))]) .ret) .skip))))))) (.seq (.reg [o 4 (.mv (.c (.bool true)))]) .ret))), [.tmp 4]⟩
theorem hc24 : Y5 Tryz.prog {pure := [35], how := [(51, 6)]} Tryz.f24 = some c24 := by kernel_rfl
theorem hn24 : (Tryz.f24.name == "runtime.NumGoroutine") = false := by kernel_rfl
theorem tokFits_ok (hE : EqF G) {h : Q2} {rs : Nat} {raw : List UInt8} {st : Int} {tx : Bool} (t : HTok) (hr : h rs = some (shO raw st tx)) (sm : TokSm t) (hraw : st = 1 -> 0 < X2 raw) (hrl : raw.length <= 1500000) :
    DCalls (Pg G) 24 [.vp rs 0, .agg (J6 t)] h fun r h' => r = .bool (fitsS raw st tx t) /\ Sub h h' := by
  unfold shO at hr
  obtain ⟨kd, nm, L, tt, sf, fr, ti⟩ := t
  have hn := sm.name
  have ht := sm.text
  simp only at hn ht
  unfold fitsS J6
  simp only
  obtain ⟨cl, hcl⟩ : ∃ b, (kd == 2 && nm == raw) = b := ⟨_, rfl⟩
  obtain ⟨c2, hc2⟩ : ∃ b, (kd == 2) = b := ⟨_, rfl⟩
  obtain ⟨cn, hcn⟩ : ∃ b, (nm == raw) = b := ⟨_, rfl⟩
  rw [hc2, hcn] at hcl
  rw [hc2, hcn]
  obtain ⟨c3, hc3⟩ : ∃ b, (kd == 3) = b := ⟨_, rfl⟩
  cases c3
  · have hk3 : kd ≠ 3 := by simpa using hc3
    rw [if_neg (by rintro ⟨q, _⟩; exact hk3 q), if_neg (by rintro ⟨_, q⟩; exact hk3 q)]
    cases h1 : (st == 1) <;> cases c2 <;> cases cn
    all_goals
      refine Q1 Tryz.func24 hn24 hc24 (by rw [Tryz.ntmps24]; simp) (by rw [Tryz.ntmps24]; decide) ?_
      simp -dsimp -implicitDefEqProofs (disch := omega) only [↓Q5 11, ↓Q0 24, ↓Q0 36, VCA, Nat.reduceEqDiff, Nat.reduceAdd, Nat.reduceLT, Nat.reduceLeDiff, ↓reduceIte, reduceCtorEq, Y8, Q7, exists_eq_left', J1, J8, c24, hr, hc2, hcn, hc3, h1]
      repeat' (first | ((with_reducible refine brC (fun _ => ?_) fun _ => ?_) <;> try (exfalso; omega)) | (with_reducible refine And.intro ?_ ?_; · omega) | simp -dsimp -implicitDefEqProofs (disch := omega) only [VCA, Nat.reduceEqDiff, ↓reduceIte])
      all_goals
        refine ⟨_, Sub.refl _, ?_, Sub.refl _⟩
        first
          | (rw [if_pos (by assumption)]; done)
          | (rw [if_pos (by assumption)]; rfl)
          | (rw [if_neg (by assumption)]; done)
          | (rw [if_neg (by assumption)]; rfl)
          | (rw [if_pos (by omega)]; done)
          | (rw [if_pos (by omega)]; rfl)
          | (rw [if_neg (by omega)]; done)
          | (rw [if_neg (by omega)]; rfl)
          | trace_state
  · have hk3 : kd = 3 := by simpa using hc3
    obtain rfl : false = c2 := by rw [<- hc2, hk3]; rfl
    cases tx
    · rw [if_neg (by simp)]
      cases h1 : (st == 1)
      · have hst : st ≠ 1 := by simpa using h1
        rw [if_neg (by rintro ⟨q, _⟩; exact hst q)]
        cases cn
        all_goals
          refine Q1 Tryz.func24 hn24 hc24 (by rw [Tryz.ntmps24]; simp) (by rw [Tryz.ntmps24]; decide) ?_
          simp -dsimp -implicitDefEqProofs (disch := omega) only [↓Q5 11, ↓Q0 24, ↓Q0 36, VCA, Nat.reduceEqDiff, Nat.reduceAdd, Nat.reduceLT, Nat.reduceLeDiff, ↓reduceIte, reduceCtorEq, Y8, Q7, exists_eq_left', J1, J8, c24, hr, hc2, hc3, h1]
          repeat' (first | ((with_reducible refine brC (fun _ => ?_) fun _ => ?_) <;> try (exfalso; omega)) | (with_reducible refine And.intro ?_ ?_; · omega) | simp -dsimp -implicitDefEqProofs (disch := omega) only [VCA, Nat.reduceEqDiff, ↓reduceIte])
          all_goals
            refine ⟨_, Sub.refl _, ?_, Sub.refl _⟩
            first
              | (rw [if_pos (by assumption)]; done)
              | (rw [if_pos (by assumption)]; rfl)
              | (rw [if_neg (by assumption)]; done)
              | (rw [if_neg (by assumption)]; rfl)
              | (rw [if_pos (by omega)]; done)
              | (rw [if_pos (by omega)]; rfl)
              | (rw [if_neg (by omega)]; done)
              | (rw [if_neg (by omega)]; rfl)
              | trace_state
      · have hst : st = 1 := by simpa using h1
        have hrp := hraw hst
        obtain ⟨f1, f2, f3⟩ := rawM_fold hrp
        rw [if_pos ⟨hst, hk3⟩]
        have cW := tokRaw_ok (G := G) raw
        have hcat : ((tt ++ [60, 47]) ++ raw) ++ [62] = tt ++ clT raw := by unfold clT; simp
        obtain ⟨SS, hSS⟩ : ∃ S, tt ++ clT raw = S := ⟨_, rfl⟩
        have hSl : SS.length = tt.length + (raw.length + 3) := by rw [<- hSS, List.length_append, clT_len]
        rw [hSS] at hcat
        refine Q1 Tryz.func24 hn24 hc24 (by rw [Tryz.ntmps24]; simp) (by rw [Tryz.ntmps24]; decide) ?_
        simp -dsimp -implicitDefEqProofs (disch := omega) only [↓Q5 11, ↓Q0 24, ↓Q0 36, VCA, Nat.reduceEqDiff, Nat.reduceBEq, Nat.reduceAdd, Nat.reduceLT, Nat.reduceLeDiff, ↓reduceIte, reduceCtorEq, Y8, Q7, SOp.rd, SI.rd, SX.rd, X7, Y6, exists_eq_left', J1, J8, c24, hr, hc2, hc3, h1]
        repeat' (first | ((with_reducible refine brC (fun _ => ?_) fun _ => ?_) <;> try (exfalso; omega)) | (with_reducible refine And.intro ?_ ?_; · omega) | simp -dsimp -implicitDefEqProofs (disch := omega) only [hcat])
        refine ⟨by simp only [List.length_append, List.length_cons, List.length_nil]; omega, by simp only [List.length_append, List.length_cons, List.length_nil]; omega, fun r6 hr6 => ?_⟩
        have m6 : rs ≠ r6 := fun q => by rw [q, hr6] at hr; cases hr
        obtain ⟨hA, hhA⟩ : ∃ hA, upd h r6 (some (rdO SS 0 0 .emp)) = hA := ⟨_, rfl⟩
        have SA : Sub h hA := by rw [<- hhA]; exact (Sub.refl h).upd hr6
        have z6 : hA r6 = some (rdO SS 0 0 .emp) := by rw [<- hhA, Z1]
        have gA : hA rs = some ⟨Tsh, 3, [[.str raw, Q3 st, .bool false]]⟩ := SA _ _ hr
        refine LoopVC.intro (fun m e h' => ∃ j : Nat, j <= tt.length /\ m = tt.length - j /\ e 0 = .vp rs 0 /\ e 6 = .vp r6 0 /\ e 54 = Q3 tt.length /\ e 55 = Q3 j /\ h' = hA /\ (X2 raw = 1 -> ∀ i, i < j -> X8 SS i raw = false)) tt.length
          (by exact ⟨0, by omega, by omega, rfl, rfl, rfl, rfl, hhA, fun _ i hi => by omega⟩) ?_
        rintro m e h' ⟨j, hj, rfl, e0, e6, e54, e55, rfl, hall⟩
        have eE : QW raw tt = (List.range tt.length).any fun i => X8 SS i raw := by unfold QW; rw [hSS]
        by_cases hlt : j < tt.length
        · have hd : decide ((j : Int) < (tt.length : Int)) = true := decide_eq_true (by omega)
          by_cases hr1 : X2 raw = 1
          · have b1 : (X2 raw == 1) = true := by simpa using hr1
            have cC := tokCloses_ok (G := G) hE z6 (p := j) (nm := raw) (by omega) (by omega) f1 (by omega)
            cases hc : X8 SS j raw <;> rw [hc] at cC
            · repeat' (first | ((with_reducible refine brC (fun _ => ?_) fun _ => ?_) <;> try (exfalso; omega)) | (with_reducible apply pcallE.of; · exact cW) | ((refine DCalls.of cC ?_; rintro _ _ ⟨rfl, rfl⟩)) | (with_reducible refine And.intro ?_ ?_; · omega) | simp -dsimp -implicitDefEqProofs (disch := omega) only [↓Q0 64, VCA, Nat.reduceEqDiff, Nat.reduceAdd, Nat.reduceLT, Nat.reduceLeDiff, ↓reduceIte, reduceCtorEq, exists_eq_left', e0, e6, e54, e55, hd, gA, b1])
              exact ⟨_, by omega, j + 1, by omega, rfl, by omega, fun q i hi => by
                by_cases e : i = j
                · rw [e]; exact hc
                · exact hall q i (by omega)⟩
            · have hear : QW raw tt = true := by rw [eE]; exact List.any_eq_true.2 ⟨j, List.mem_range.2 hlt, hc⟩
              repeat' (first | ((with_reducible refine brC (fun _ => ?_) fun _ => ?_) <;> try (exfalso; omega)) | (with_reducible apply pcallE.of; · exact cW) | ((refine DCalls.of cC ?_; rintro _ _ ⟨rfl, rfl⟩)) | (with_reducible refine And.intro ?_ ?_; · omega) | simp -dsimp -implicitDefEqProofs (disch := omega) only [↓Q0 64, VCA, Nat.reduceEqDiff, Nat.reduceAdd, Nat.reduceLT, Nat.reduceLeDiff, ↓reduceIte, reduceCtorEq, exists_eq_left', e0, e6, e54, e55, hd, gA, b1])
              exact ⟨_, Sub.refl _, by rw [hear]; rfl, SA⟩
          · have b1 : (X2 raw == 1) = false := by simpa using hr1
            repeat' (first | ((with_reducible refine brC (fun _ => ?_) fun _ => ?_) <;> try (exfalso; omega)) | (with_reducible apply pcallE.of; · exact cW) | (with_reducible refine And.intro ?_ ?_; · omega) | simp -dsimp -implicitDefEqProofs (disch := omega) only [↓Q0 64, VCA, Nat.reduceEqDiff, Nat.reduceAdd, Nat.reduceLT, Nat.reduceLeDiff, ↓reduceIte, reduceCtorEq, exists_eq_left', e0, e6, e54, e55, hd, gA, b1])
            exact ⟨_, by omega, j + 1, by omega, rfl, by omega, fun q => absurd q hr1⟩
        · have hd : decide ((j : Int) < (tt.length : Int)) = false := decide_eq_false (by omega)
          have hres : (!(X2 raw == 1 && QW raw tt)) = true := by
            by_cases hr1 : X2 raw = 1
            · have hear : QW raw tt = false := by
                rw [eE, List.any_eq_false]
                intro i hi
                rw [List.mem_range] at hi
                rw [hall hr1 i (by omega)]; simp
              rw [hear, Bool.and_false]; rfl
            · have b1 : (X2 raw == 1) = false := by simpa using hr1
              rw [b1]; rfl
          repeat' (first | ((with_reducible refine brC (fun _ => ?_) fun _ => ?_) <;> try (exfalso; omega)) | (with_reducible refine And.intro ?_ ?_; · omega) | simp -dsimp -implicitDefEqProofs (disch := omega) only [VCA, ↓reduceIte, e54, e55, hd])
          exact ⟨_, Sub.refl _, by rw [hres], SA⟩
    · rw [if_pos ⟨hk3, rfl⟩]
      refine Q1 Tryz.func24 hn24 hc24 (by rw [Tryz.ntmps24]; simp) (by rw [Tryz.ntmps24]; decide) ?_
      simp -dsimp -implicitDefEqProofs (disch := omega) only [↓Q5 11, ↓Q0 24, VCA, Nat.reduceEqDiff, Nat.reduceAdd, Nat.reduceLT, Nat.reduceLeDiff, ↓reduceIte, reduceCtorEq, Y8, Q7, exists_eq_left', J1, J8, c24, hr, hc2, hc3]
      repeat' (first | ((with_reducible refine brC (fun _ => ?_) fun _ => ?_) <;> try (exfalso; omega)) | (with_reducible refine And.intro ?_ ?_; · omega) | simp -dsimp -implicitDefEqProofs (disch := omega) only [↓Q0 11, ↓Q5 11, ↓Q0 24, ↓Q5 24, ↓Q0 36, ↓Q5 36, ↓Q0 64, ↓Q5 64, VCA, pg_gl, ↓U9, Nat.reduceEqDiff, Nat.reduceBEq, Nat.reduceAdd, Nat.reduceSub, Nat.reduceMul, Nat.reduceLT, Nat.reduceLeDiff, ↓reduceIte, reduceCtorEq, Y8, Q7, SOp.rd, SI.rd, SX.rd, rdL, rdO, rdP, J4, X6, Y3, X7, Y6, Z3, implies_true, forall_const, forall_eq, ne_eq, exists_eq_right_right, exists_eq_right, exists_eq_left, exists_eq_left', J1, Z6, WJ, J8, hr, hc2, hc3])
      all_goals first | exact ⟨_, Sub.refl _, rfl, Sub.refl _⟩ | exact ⟨_, Sub.refl _, Sub.refl _⟩ | trace_state
def shownS (plain : Bool) (t : HTok) : List UInt8 :=
  if t.kind = 1 then startM t else if t.kind = 2 then 60 :: 47 :: t.name ++ [62] else if t.kind = 4 then [60, 33, 45, 45] ++ t.text ++ [45, 45, 62]
  else if t.kind = 5 then [60, 33, 68, 79, 67, 84, 89, 80, 69, 32] ++ t.name ++ [62] else if plain = true then t.text else YT false t.text
def UX (raw : List UInt8) (t : HTok) : List UInt8 := if t.kind = 1 /\ 0 < X2 t.name then t.name else raw
def nextSt (st : Int) (t : HTok) : Int := if t.kind = 1 /\ 0 < X2 t.name then 1 else if t.kind = 2 then 0 else if 0 < st then st + 1 else st
def c26 : SFun := ⟨.seq (.reg [o 3 (.boxF 43 7 (.t 1)), o 4 (.mv (.c (.str [])))]) (.seq (.reg [o 6 (.mv (.t 0)), o 7 (.fldA 0 (.t 6)), o 8 (.fldA 1 (.t 7)), o 9 (.ld 1 false (.t 8)), o 10 (.bin .eql (.t 9) (.c (.int .i64 1))), o 11 (.mv (.t 10)), ⟨some 12, .mv (.t 0), some (11, true)⟩, ⟨some 13, .fldA 0 (.t 12), some (11, true)⟩, ⟨some 14, .fldA 0 (.t 13), some (11, true)⟩, ⟨some 15, .ld 1 false (.t 14), some (11, true)⟩, ⟨some 16, .pcall 35 [.t 15], some (11, true)⟩, ⟨some 17, .bin .eql (.t 16) (.c (.int .i64 1)), some (11, true)⟩, o 18 (.pick (.t 11) (.t 17) (.c (.bool false))), o 5 (.mv (.t 18))]) (.seq (.reg [o 19 (.mv (.t 0)), o 20 (.fldA 0 (.t 3)), o 21 (.ld 1 false (.t 20)), o 22 (.bin .eql (.t 21) (.c (.int .i64 3))), o 23 (.fldA 0 (.t 19)), o 24 (.fldA 2 (.t 23)), ⟨none, .st 1 (.t 24) (.t 22), none⟩]) (.seq (.seq (.reg [o 25 (.mv (.t 0)), o 26 (.fldA 0 (.t 25)), o 27 (.fldA 1 (.t 26)), o 28 (.ld 1 false (.t 27)), o 29 (.bin .gtr (.t 28) (.c (.int .i64 0)))]) (.cond (.t 29) (.reg [o 30 (.mv (.t 0)), o 31 (.fldA 0 (.t 30)), o 32 (.fldA 1 (.t 31)), o 33 (.ld 1 false (.t 32)), o 34 (.bin .add (.t 33) (.c (.int .i64 1))), o 35 (.fldA 0 (.t 30)), o 36 (.fldA 1 (.t 35)), ⟨none, .st 1 (.t 36) (.t 34), none⟩]) .skip)) (.seq (.seq (.reg [o 37 (.fldA 0 (.t 3)), o 38 (.ld 1 false (.t 37))]) (.block 0 (.seq (.reg [o 46 (.bin .eql (.t 38) (.c (.int .i64 1))), o 45 (.mv (.t 46))]) (.cond (.t 45) (.seq (.reg [o 47 (.ld 7 true (.t 3)), o 48 (.pcall 51 [.t 47]), o 4 (.mv (.t 48))]) (.seq (.reg [o 49 (.fldA 1 (.t 3)), o 50 (.ld 1 false (.t 49)), o 51 (.pcall 35 [.t 50]), o 52 (.bin .gtr (.t 51) (.c (.int .i64 0)))]) (.cond (.t 52) (.reg [o 53 (.mv (.t 0)), o 54 (.mv (.t 0)), o 55 (.fldA 1 (.t 3)), o 56 (.ld 1 false (.t 55)), o 57 (.fldA 0 (.t 53)), o 58 (.fldA 0 (.t 57)), ⟨none, .st 1 (.t 58) (.t 56), none⟩, o 59 (.fldA 0 (.t 54)), o 60 (.fldA 1 (.t 59)), ⟨none, .st 1 (.t 60) (.c (.int .i64 1)), none⟩]) .skip))) (.seq (.reg [o 62 (.bin .eql (.t 38) (.c (.int .i64 2))), o 61 (.mv (.t 62))]) (.cond (.t 61) (.reg [o 63 (.mv (.t 0)), o 64 (.fldA 1 (.t 3)), o 65 (.ld 1 false (.t 64)), o 66 (.bin .add (.c (.str [60, 47])) (.t 65)), o 67 (.bin .add (.t 66) (.c (.str [62]))), o 4 (.mv (.t 67)), o 68 (.fldA 0 (.t 63)), o 69 (.fldA 1 (.t 68)), ⟨none, .st 1 (.t 69) (.c (.int .i64 0)), none⟩]) (.seq (.reg [o 71 (.bin .eql (.t 38) (.c (.int .i64 4))), o 70 (.mv (.t 71))]) (.cond (.t 70) (.reg [o 72 (.fldA 3 (.t 3)), o 73 (.ld 1 false (.t 72)), o 74 (.bin .add (.c (.str [60, 33, 45, 45])) (.t 73)), o 75 (.bin .add (.t 74) (.c (.str [45, 45, 62]))), o 4 (.mv (.t 75))]) (.seq (.reg [o 77 (.bin .eql (.t 38) (.c (.int .i64 5))), o 76 (.mv (.t 77))]) (.cond (.t 76) (.reg [o 78 (.fldA 1 (.t 3)), o 79 (.ld 1 false (.t 78)), o 80 (.bin .add (.c (.str [60, 33, 68, 79, 67, 84, 89, 80, 69, 32])) (.t 79)), o 81 (.bin .add (.t 80) (.c (.str [62]))), o 4 (.mv (.t 81))]) (.seq (.reg [o 39 (.fldA 3 (.t 3)), o 40 (.ld 1 false (.t 39)), o 4 (.mv (.t 40))]) (.seq (.reg [o 41 (.mv (.t 5)), o 42 (.un .not (.t 41))]) (.cond (.t 42) (.reg [o 43 (.mv (.t 4)), o 44 (.pcall 52 [.t 43, .c (.bool false)]), o 4 (.mv (.t 44))]) .skip))))))))))))) (.seq (.reg [o 82 (.mv (.t 4)), o 4 (.mv (.t 82))]) .ret))))), [.tmp 4]⟩
theorem hc26 : Y5 Tryz.prog {pure := [35, 51, 52]} Tryz.f26 = some c26 := by kernel_rfl
theorem hn26 : (Tryz.f26.name == "runtime.NumGoroutine") = false := by kernel_rfl
theorem tokShown_ok (hG : MaxOK G) {h : Q2} {rs : Nat} {raw : List UInt8} {st : Int} {tx : Bool} (t : HTok) (hr : h rs = some (shO raw st tx)) (sm : TokSm t) (h0 : 0 <= st) (h2 : st <= 2) :
    DCalls (Pg G) 26 [.vp rs 0, .agg (J6 t)] h fun r h' => r = .str (shownS (st == 1 && X2 raw == 1) t) /\ h' = upd h rs (some (shO (UX raw t) (nextSt st t) (t.kind == 3))) := by
  unfold shO at hr ⊢
  have cS := tokStart_ok (G := G) hG t sm
  have cR1 := tokRaw_ok (G := G) raw
  have cR2 := tokRaw_ok (G := G) t.name
  have cE := escape_ok (G := G) hG t.text false (by have := sm.text; omega)
  have hn := sm.name
  have ht := sm.text
  obtain ⟨kd, nm, L, tt, sf, fr, ti⟩ := t
  simp only at hn ht cR2 cE
  obtain ⟨SM, hSM⟩ : ∃ x, startM ⟨kd, nm, L, tt, sf, fr, ti⟩ = x := ⟨_, rfl⟩
  obtain ⟨ES, hES⟩ : ∃ x, YT false tt = x := ⟨_, rfl⟩
  rw [hSM] at cS
  rw [hES] at cE
  unfold shownS UX nextSt
  simp only
  rw [hSM, hES]
  unfold J6 at cS ⊢
  simp only at cS ⊢
  obtain ⟨b1, hb1⟩ : ∃ b, (X2 raw == 1) = b := ⟨_, rfl⟩
  rw [hb1]
  have hst : st = 0 \/ st = 1 \/ st = 2 := by omega
  by_cases hk1 : kd = 1
  · rw [if_pos hk1]
    obtain rfl := hk1
    by_cases hw : 0 < X2 nm
    · rw [if_pos ⟨rfl, hw⟩, if_pos ⟨rfl, hw⟩]
      have hw2 : decide (X2 nm > 0) = true := decide_eq_true hw
      rcases hst with rfl | rfl | rfl <;> cases b1
      all_goals
        refine Q1 Tryz.func26 hn26 hc26 (by rw [Tryz.ntmps26]; simp) (by rw [Tryz.ntmps26]; decide) ?_
        simp -dsimp -implicitDefEqProofs (disch := omega) only [↓Q0 11, VCA, Nat.reduceAdd, Nat.reduceLT, Nat.reduceLeDiff, ↓reduceIte, reduceCtorEq, exists_eq_left', c26, hr]
        repeat' (first | ((with_reducible refine brC (fun _ => ?_) fun _ => ?_) <;> try (exfalso; omega)) | (with_reducible apply pcallE.of; · exact cR1) | (with_reducible apply pcallE.of; · exact cR2) | (with_reducible apply pcallE.of; · exact cS) | (with_reducible refine And.intro ?_ ?_; · omega) | simp -dsimp -implicitDefEqProofs (disch := omega) only [VCA, Nat.reduceEqDiff, Nat.reduceAdd, Nat.reduceLT, Nat.reduceLeDiff, ↓reduceIte, reduceCtorEq, Z3, exists_eq_right, exists_eq_left', hr, hb1, hw2])
        all_goals first | exact Sub.refl _ | exact ⟨Sub.refl _, rfl⟩ | (refine ⟨?_, Sub.refl _⟩; simp only [List.length_append, List.length_cons, List.length_nil]; omega) | (refine ⟨?_, ?_, Sub.refl _⟩ <;> simp only [List.length_append, List.length_cons, List.length_nil] <;> omega) | trace_state
    · rw [if_neg (by rintro ⟨_, q⟩; exact hw q), if_neg (by rintro ⟨_, q⟩; exact hw q), if_neg (by decide)]
      have hw2 : decide (X2 nm > 0) = false := decide_eq_false hw
      rcases hst with rfl | rfl | rfl <;> cases b1
      all_goals
        refine Q1 Tryz.func26 hn26 hc26 (by rw [Tryz.ntmps26]; simp) (by rw [Tryz.ntmps26]; decide) ?_
        simp -dsimp -implicitDefEqProofs (disch := omega) only [↓Q0 11, VCA, Nat.reduceAdd, Nat.reduceLT, Nat.reduceLeDiff, ↓reduceIte, reduceCtorEq, exists_eq_left', c26, hr]
        repeat' (first | ((with_reducible refine brC (fun _ => ?_) fun _ => ?_) <;> try (exfalso; omega)) | (with_reducible apply pcallE.of; · exact cR1) | (with_reducible apply pcallE.of; · exact cR2) | (with_reducible apply pcallE.of; · exact cS) | (with_reducible refine And.intro ?_ ?_; · omega) | simp -dsimp -implicitDefEqProofs (disch := omega) only [VCA, Nat.reduceEqDiff, Nat.reduceAdd, Nat.reduceLT, Nat.reduceLeDiff, ↓reduceIte, reduceCtorEq, Z3, exists_eq_right, exists_eq_left', hr, hb1, hw2])
        all_goals first | exact Sub.refl _ | exact ⟨Sub.refl _, rfl⟩ | (refine ⟨?_, Sub.refl _⟩; simp only [List.length_append, List.length_cons, List.length_nil]; omega) | (refine ⟨?_, ?_, Sub.refl _⟩ <;> simp only [List.length_append, List.length_cons, List.length_nil] <;> omega) | trace_state
  · have k1 : (kd == 1) = false := by simpa using hk1
    have f1 : (kd = 1) = False := eq_false hk1
    by_cases hk2 : kd = 2
    · have f2 : (kd = 2) = True := eq_true hk2
      simp only [f1, f2, if_true, if_false, false_and]
      obtain rfl := hk2
      rcases hst with rfl | rfl | rfl <;> cases b1
      all_goals
        refine Q1 Tryz.func26 hn26 hc26 (by rw [Tryz.ntmps26]; simp) (by rw [Tryz.ntmps26]; decide) ?_
        simp -dsimp -implicitDefEqProofs (disch := omega) only [↓Q0 11, VCA, Nat.reduceAdd, Nat.reduceLT, Nat.reduceLeDiff, ↓reduceIte, reduceCtorEq, exists_eq_left', c26, hr]
        repeat' (first | ((with_reducible refine brC (fun _ => ?_) fun _ => ?_) <;> try (exfalso; omega)) | (with_reducible apply pcallE.of; · exact cR1) | (with_reducible refine And.intro ?_ ?_; · omega) | simp -dsimp -implicitDefEqProofs (disch := omega) only [VCA, Nat.reduceEqDiff, Nat.reduceAdd, Nat.reduceLT, Nat.reduceLeDiff, ↓reduceIte, reduceCtorEq, Z3, exists_eq_right, exists_eq_left', hr, hb1])
        all_goals first | exact Sub.refl _ | exact ⟨Sub.refl _, rfl⟩ | (refine ⟨?_, Sub.refl _⟩; simp only [List.length_append, List.length_cons, List.length_nil]; omega) | (refine ⟨?_, ?_, Sub.refl _⟩ <;> simp only [List.length_append, List.length_cons, List.length_nil] <;> omega) | trace_state
    · have f2 : (kd = 2) = False := eq_false hk2
      by_cases hk4 : kd = 4
      · have f4 : (kd = 4) = True := eq_true hk4
        simp only [f1, f2, f4, if_true, if_false, false_and]
        obtain rfl := hk4
        rcases hst with rfl | rfl | rfl <;> cases b1
        all_goals
          refine Q1 Tryz.func26 hn26 hc26 (by rw [Tryz.ntmps26]; simp) (by rw [Tryz.ntmps26]; decide) ?_
          simp -dsimp -implicitDefEqProofs (disch := omega) only [↓Q0 11, VCA, Nat.reduceAdd, Nat.reduceLT, Nat.reduceLeDiff, ↓reduceIte, reduceCtorEq, exists_eq_left', c26, hr]
          repeat' (first | ((with_reducible refine brC (fun _ => ?_) fun _ => ?_) <;> try (exfalso; omega)) | (with_reducible apply pcallE.of; · exact cR1) | (with_reducible refine And.intro ?_ ?_; · omega) | simp -dsimp -implicitDefEqProofs (disch := omega) only [VCA, Nat.reduceEqDiff, Nat.reduceAdd, Nat.reduceLT, Nat.reduceLeDiff, ↓reduceIte, reduceCtorEq, Z3, exists_eq_right, exists_eq_left', hr, hb1])
          all_goals first | exact Sub.refl _ | exact ⟨Sub.refl _, rfl⟩ | (refine ⟨?_, Sub.refl _⟩; simp only [List.length_append, List.length_cons, List.length_nil]; omega) | (refine ⟨?_, ?_, Sub.refl _⟩ <;> simp only [List.length_append, List.length_cons, List.length_nil] <;> omega) | trace_state
      · have f4 : (kd = 4) = False := eq_false hk4
        by_cases hk5 : kd = 5
        · have f5 : (kd = 5) = True := eq_true hk5
          simp only [f1, f2, f4, f5, if_true, if_false, false_and]
          obtain rfl := hk5
          rcases hst with rfl | rfl | rfl <;> cases b1
          all_goals
            refine Q1 Tryz.func26 hn26 hc26 (by rw [Tryz.ntmps26]; simp) (by rw [Tryz.ntmps26]; decide) ?_
            simp -dsimp -implicitDefEqProofs (disch := omega) only [↓Q0 11, VCA, Nat.reduceAdd, Nat.reduceLT, Nat.reduceLeDiff, ↓reduceIte, reduceCtorEq, exists_eq_left', c26, hr]
            repeat' (first | ((with_reducible refine brC (fun _ => ?_) fun _ => ?_) <;> try (exfalso; omega)) | (with_reducible apply pcallE.of; · exact cR1) | (with_reducible refine And.intro ?_ ?_; · omega) | simp -dsimp -implicitDefEqProofs (disch := omega) only [VCA, Nat.reduceEqDiff, Nat.reduceAdd, Nat.reduceLT, Nat.reduceLeDiff, ↓reduceIte, reduceCtorEq, Z3, exists_eq_right, exists_eq_left', hr, hb1])
            all_goals first | exact Sub.refl _ | exact ⟨Sub.refl _, rfl⟩ | (refine ⟨?_, Sub.refl _⟩; simp only [List.length_append, List.length_cons, List.length_nil]; omega) | (refine ⟨?_, ?_, Sub.refl _⟩ <;> simp only [List.length_append, List.length_cons, List.length_nil] <;> omega) | trace_state
        · have f5 : (kd = 5) = False := eq_false hk5
          simp only [f1, f2, f4, f5, if_false, false_and]
          rcases hst with rfl | rfl | rfl <;> cases b1
          all_goals
            refine Q1 Tryz.func26 hn26 hc26 (by rw [Tryz.ntmps26]; simp) (by rw [Tryz.ntmps26]; decide) ?_
            simp -dsimp -implicitDefEqProofs (disch := omega) only [↓Q0 11, VCA, Nat.reduceAdd, Nat.reduceLT, Nat.reduceLeDiff, ↓reduceIte, reduceCtorEq, exists_eq_left', c26, hr]
            repeat' (first | ((with_reducible refine brC (fun _ => ?_) fun _ => ?_) <;> try (exfalso; omega)) | (with_reducible apply pcallE.of; · exact cR1) | (with_reducible apply pcallE.of; · exact cE) | (with_reducible refine And.intro ?_ ?_; · omega) | simp -dsimp -implicitDefEqProofs (disch := omega) only [VCA, Nat.reduceEqDiff, Nat.reduceAdd, Nat.reduceLT, Nat.reduceLeDiff, ↓reduceIte, reduceCtorEq, Z3, exists_eq_right_right, exists_eq_left', hr, hb1])
            all_goals first | exact Sub.refl _ | exact ⟨Sub.refl _, rfl⟩ | (refine ⟨?_, Sub.refl _⟩; simp only [List.length_append, List.length_cons, List.length_nil]; omega) | (refine ⟨?_, ?_, Sub.refl _⟩ <;> simp only [List.length_append, List.length_cons, List.length_nil] <;> omega) | trace_state
def KW (l : List HTok) (i : Nat) : List UInt8 := if 0 < i /\ (nth l (i - 1)).kind = 1 /\ 0 < X2 (nth l (i - 1)).name then (nth l (i - 1)).name else []
def txtM (l : List HTok) (i : Nat) : List UInt8 := if 1 < i /\ (nth l (i - 1)).kind = 3 /\ (nth l (i - 2)).kind = 1 /\ 0 < X2 (nth l (i - 2)).name then (nth l (i - 2)).name else []
def wasT (l : List HTok) (i : Nat) : Bool := decide (0 < i) && (nth l (i - 1)).kind == 3
def clsM (b x : List UInt8) (t : HTok) : Bool := t.kind == 2 && (t.name == b || t.name == x)
def badM (w : Bool) (b x : List UInt8) (t : HTok) : Bool :=
  (t.kind == 3 && w) || ((x != [] && !clsM b x t) || ((b != [] && (!clsM b x t && t.kind != 3)) || (b != [] && (t.kind == 3 && (X2 b == 1 && QW b t.text)))))
def shErr (l : List HTok) (i : Nat) : Int := if UZ (nth l i) ≠ 0 then UZ (nth l i) else if badM (wasT l i) (KW l i) (txtM l i) (nth l i) = true then 9 else 0
def shOne (l : List HTok) (i : Nat) : List UInt8 := shownS (X2 (KW l i) == 1) (nth l i)
def KJ (l : List HTok) : Nat -> Nat -> List UInt8 -> List UInt8 × Int
  | 0, _, out => (out, 0)
  | f + 1, i, out =>
    if i < l.length then
      if shErr l i ≠ 0 then ([], shErr l i) else if 4000 < (out ++ shOne l i).length then ([], 2) else KJ l f (i + 1) (out ++ shOne l i)
    else (out, 0)
structure ShI (l : List HTok) (i : Nat) (raw : List UInt8) (st : Int) (tx : Bool) : Prop where
  was : tx = wasT l i
  cs : (st = 0 /\ KW l i = [] /\ txtM l i = []) \/ (st = 1 /\ KW l i = raw /\ 0 < X2 raw /\ txtM l i = [] /\ wasT l i = false) \/ (st = 2 /\ txtM l i = raw /\ 0 < X2 raw /\ KW l i = [] /\ wasT l i = true)
theorem ShI.begin (l : List HTok) : ShI l 0 [] 0 false := ⟨rfl, .inl ⟨rfl, if_neg (by omega), if_neg (by omega)⟩⟩
theorem rawM_ne {nm : List UInt8} (h : 0 < X2 nm) : nm ≠ [] := fun q => by rw [q] at h; exact absurd h (by decide)
theorem fit_name {t : HTok} (h : UZ t = 0) (hk : t.kind = 1 \/ t.kind = 2) : t.name ≠ [] := fun q => by
  unfold UZ at h
  split at h
  · cases h
  · split at h
    · rename_i hf
      unfold formOK at hf
      have hn : KU t.name = false := by rw [q]; rfl
      rcases hk with hk | hk
      · rw [if_pos hk, hn, Bool.false_and, Bool.and_false] at hf; cases hf
      · rw [if_neg (by omega), if_pos hk, hn, Bool.false_and, Bool.and_false] at hf; cases hf
    · cases h
theorem fit_kind {t : HTok} (h : UZ t = 0) : 1 <= t.kind /\ t.kind <= 5 := by
  unfold UZ at h
  split at h
  · cases h
  · omega
theorem ShI.fits {l : List HTok} {i : Nat} {raw : List UInt8} {st : Int} {tx : Bool} (I : ShI l i raw st tx) (hf : UZ (nth l i) = 0) : fitsS raw st tx (nth l i) = !badM (wasT l i) (KW l i) (txtM l i) (nth l i) := by
  obtain ⟨rfl, hc⟩ := I
  obtain ⟨t, ht⟩ : ∃ t, nth l i = t := ⟨_, rfl⟩
  rw [ht] at hf ⊢
  have hn := fit_name hf
  unfold fitsS badM clsM
  rcases hc with ⟨rfl, h1, h2⟩ | ⟨rfl, h1, h2, h3, h4⟩ | ⟨rfl, h1, h2, h3, h4⟩
  · rw [h1, h2]
    by_cases hk : t.kind = 3
    · cases wasT l i <;> simp [hk]
    · simp [hk]
  · have hne := rawM_ne h2
    rw [h1, h3, h4]
    by_cases hk : t.kind = 3
    · simp [hk, hne]
    · have b3 : (t.kind == 3) = false := by simpa using hk
      have b3' : (t.kind != 3) = true := by simpa using hk
      have br : (raw != []) = true := by simpa using hne
      have b0 : (([] : List UInt8) != []) = false := rfl
      rw [if_neg (fun q => hk q.1), if_neg (fun q => hk q.2), if_pos (by omega), b3, b3', br, b0]
      by_cases hk2 : t.kind = 2
      · have b2 : (t.kind == 2) = true := by simpa using hk2
        have bn : (t.name == []) = false := by simpa using hn (.inr hk2)
        rw [b2, bn]
        cases (t.name == raw) <;> rfl
      · have b2 : (t.kind == 2) = false := by simpa using hk2
        rw [b2]
        cases (t.name == raw) <;> rfl
  · have hne := rawM_ne h2
    rw [h1, h3, h4]
    by_cases hk : t.kind = 3
    · simp [hk]
    · have b3 : (t.kind == 3) = false := by simpa using hk
      have b3' : (t.kind != 3) = true := by simpa using hk
      have br : (raw != []) = true := by simpa using hne
      have b0 : (([] : List UInt8) != []) = false := rfl
      rw [if_neg (fun q => hk q.1), if_neg (fun q => hk q.2), if_pos (by omega), b3, b3', br, b0]
      by_cases hk2 : t.kind = 2
      · have b2 : (t.kind == 2) = true := by simpa using hk2
        have bn : (t.name == []) = false := by simpa using hn (.inr hk2)
        rw [b2, bn]
        cases (t.name == raw) <;> rfl
      · have b2 : (t.kind == 2) = false := by simpa using hk2
        rw [b2]
        cases (t.name == raw) <;> rfl
theorem ShI.next {l : List HTok} {i : Nat} {raw : List UInt8} {st : Int} {tx : Bool} (I : ShI l i raw st tx) (hf : UZ (nth l i) = 0) (hb : badM (wasT l i) (KW l i) (txtM l i) (nth l i) = false) :
    ShI l (i + 1) (UX raw (nth l i)) (nextSt st (nth l i)) ((nth l i).kind == 3) := by
  have hfit := I.fits hf
  rw [hb] at hfit
  obtain ⟨rfl, hc⟩ := I
  have e1 : KW l (i + 1) = if (nth l i).kind = 1 /\ 0 < X2 (nth l i).name then (nth l i).name else [] := by
    unfold KW
    by_cases h : (nth l i).kind = 1 /\ 0 < X2 (nth l i).name
    · rw [if_pos ⟨by omega, h⟩, if_pos h]; rfl
    · rw [if_neg (fun q => h q.2), if_neg h]
  have e2 : txtM l (i + 1) = if (nth l i).kind = 3 then KW l i else [] := by
    unfold txtM KW
    by_cases h : (nth l i).kind = 3
    · rw [if_pos h]
      by_cases h2 : 0 < i /\ (nth l (i - 1)).kind = 1 /\ 0 < X2 (nth l (i - 1)).name
      · rw [if_pos ⟨by omega, h, h2.2⟩, if_pos h2]; rfl
      · rw [if_neg (fun q => h2 ⟨by omega, q.2.2⟩), if_neg h2]
    · rw [if_neg h, if_neg (fun q => h q.2.1)]
  have e3 : wasT l (i + 1) = ((nth l i).kind == 3) := by
    unfold wasT; rw [decide_eq_true (by omega), Bool.true_and]; rfl
  obtain ⟨t, ht⟩ : ∃ t, nth l i = t := ⟨_, rfl⟩
  rw [ht] at hf hfit e1 e2 e3 ⊢
  refine ⟨e3.symm, ?_⟩
  rw [e1, e2, e3]
  unfold fitsS at hfit
  unfold UX nextSt
  by_cases hk1 : t.kind = 1
  · have n3 : ¬ t.kind = 3 := by omega
    have n2 : ¬ t.kind = 2 := by omega
    have hst : st = 0 := by
      rcases hc with ⟨h, _⟩ | ⟨h, _⟩ | ⟨h, _⟩
      · exact h
      · rw [if_neg (fun q => n3 q.1), if_neg (fun q => n3 q.2), if_pos (by omega)] at hfit
        have : (t.kind == 2) = false := by simpa using n2
        rw [this] at hfit; cases hfit
      · rw [if_neg (fun q => n3 q.1), if_neg (fun q => n3 q.2), if_pos (by omega)] at hfit
        have : (t.kind == 2) = false := by simpa using n2
        rw [this] at hfit; cases hfit
    have f3 : (t.kind = 3) = False := eq_false n3
    have f2 : (t.kind = 2) = False := eq_false n2
    by_cases hr : 0 < X2 t.name
    · have fc : (t.kind = 1 /\ 0 < X2 t.name) = True := eq_true ⟨hk1, hr⟩
      simp only [fc, f3, if_true, if_false]
      refine .inr (.inl ⟨?_, ?_, hr, ?_, ?_⟩) <;> first | rfl | trivial | simpa using n3
    · have fc : (t.kind = 1 /\ 0 < X2 t.name) = False := eq_false fun q => hr q.2
      simp only [fc, f3, f2, if_false, hst]
      refine .inl ⟨?_, ?_, ?_⟩ <;> first | rfl | trivial
  · have fc : (t.kind = 1 /\ 0 < X2 t.name) = False := eq_false fun q => hk1 q.1
    by_cases hk2 : t.kind = 2
    · have f2 : (t.kind = 2) = True := eq_true hk2
      have f3 : (t.kind = 3) = False := eq_false (by omega)
      simp only [fc, f3, f2, if_true, if_false]
      refine .inl ⟨?_, ?_, ?_⟩ <;> first | rfl | trivial
    · have f2 : (t.kind = 2) = False := eq_false hk2
      have b2 : (t.kind == 2) = false := by simpa using hk2
      by_cases hk3 : t.kind = 3
      · have f3 : (t.kind = 3) = True := eq_true hk3
        have b3 : (t.kind == 3) = true := by simpa using hk3
        simp only [fc, f3, f2, if_true, if_false]
        rcases hc with ⟨h, h1, h2⟩ | ⟨h, h1, h2, h3, h4⟩ | ⟨h, h1, h2, h3, h4⟩
        · rw [h, h1]; exact .inl ⟨rfl, trivial, rfl⟩
        · rw [h, h1]; exact .inr (.inr ⟨rfl, rfl, h2, trivial, b3⟩)
        · rw [if_pos ⟨hk3, h4⟩] at hfit; cases hfit
      · have f3 : (t.kind = 3) = False := eq_false hk3
        have hst : st = 0 := by
          rcases hc with ⟨h, _⟩ | ⟨h, _⟩ | ⟨h, _⟩
          · exact h
          · rw [if_neg (fun q => hk3 q.1), if_neg (fun q => hk3 q.2), if_pos (by omega), b2] at hfit; cases hfit
          · rw [if_neg (fun q => hk3 q.1), if_neg (fun q => hk3 q.2), if_pos (by omega), b2] at hfit; cases hfit
        simp only [fc, f3, f2, if_false, hst]
        refine .inl ⟨?_, ?_, ?_⟩ <;> first | rfl | trivial
end Go.Proofs.K
end
