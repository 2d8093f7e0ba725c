/- Texts of this claim, one behind the other. -/
import Derived.Test.YtbgdedopafgbeaaGreatDoorM5
import Derived.Shelf.Strings.SlTrimAscii
set_option maxHeartbeats 4000000
set_option maxRecDepth 100000
section
set_option linter.unusedSimpArgs false
set_option linter.unusedVariables false
namespace Go.Proofs.K
open Go Go.Sim Go.Proofs
variable {G : JU}
def c35 : SFun := ⟨.seq (.reg [o 2 (.mv (.c (.int .i64 0)))]) (.seq (.seq (.reg [o 3 (.mv (.t 0))]) (.block 0 (.seq (.seq (.reg [o 5 (.bin .eql (.t 3) (.c (.str [115, 99, 114, 105, 112, 116]))), o 4 (.mv (.t 5))]) (.cond (.t 4) .skip (.reg [o 6 (.bin .eql (.t 3) (.c (.str [115, 116, 121, 108, 101]))), o 4 (.mv (.t 6))]))) (.cond (.t 4) (.seq (.reg [o 2 (.mv (.c (.int .i64 1)))]) .ret) (.seq (.seq (.reg [o 8 (.bin .eql (.t 3) (.c (.str [116, 101, 120, 116, 97, 114, 101, 97]))), o 7 (.mv (.t 8))]) (.cond (.t 7) .skip (.reg [o 9 (.bin .eql (.t 3) (.c (.str [116, 105, 116, 108, 101]))), o 7 (.mv (.t 9))]))) (.cond (.t 7) (.seq (.reg [o 2 (.mv (.c (.int .i64 2)))]) .ret) .skip)))))) (.seq (.reg [o 2 (.mv (.c (.int .i64 0)))]) .ret)), [.tmp 2]⟩
theorem hc35 : Y5 Tryz.prog {} Tryz.f35 = some c35 := by kernel_rfl
theorem tokRaw_ok (nm : List UInt8) : PCalls (Pg G) 35 [.str nm] (Q3 (X2 nm)) := fun h => by
  unfold X2
  refine Q1 Tryz.func35 (by kernel_rfl) hc35 (by rw [Tryz.ntmps35]; simp) (by rw [Tryz.ntmps35]; decide) ?_
  simp -dsimp -implicitDefEqProofs (disch := omega) only [VCA, ↓reduceIte, reduceCtorEq, c35]
  repeat' (first | ((with_reducible refine brC (fun _ => ?_) fun _ => ?_) <;> try (exfalso; omega)) | (with_reducible refine And.intro ?_ ?_; · omega) | simp -dsimp -implicitDefEqProofs (disch := omega) only [VCA, Nat.reduceEqDiff, ↓reduceIte, exists_eq_right_right])
  all_goals first | (refine ⟨Sub.refl _, ?_⟩; simp_all; done) | (exact Sub.refl _) | trace_state
theorem rawM_two (nm : List UInt8) : X2 nm = 0 \/ X2 nm = 1 \/ X2 nm = 2 := by
  unfold X2
  split
  · exact .inr (.inl rfl)
  · split
    · exact .inr (.inr rfl)
    · exact .inl rfl
theorem rawM_fold {nm : List UInt8} (h : 0 < X2 nm) : foldW nm = true /\ nm ≠ [] /\ nm.length <= 4000000 := by
  unfold X2 at h
  split at h
  · rename_i q; rcases q with rfl | rfl <;> exact ⟨by decide, by decide, by decide⟩
  · split at h
    · rename_i q; rcases q with rfl | rfl <;> exact ⟨by decide, by decide, by decide⟩
    · omega
def c36 : SFun := ⟨.seq (.reg [o 6 (.mv (.t 0)), o 7 (.fldA 0 (.t 6)), o 8 (.fldA 1 (.t 7)), o 9 (.ld 1 false (.t 8)), o 4 (.mv (.t 9))]) (.seq (.block 0 (.loop (.seq (.seq (.dreg [(o 10 (.mv (.t 0)), none), (o 11 (.fldA 0 (.t 10)), none), (o 12 (.fldA 1 (.t 11)), none), (o 13 (.ld 1 false (.t 12)), none), (o 14 (.mv (.t 0)), none), (o 15 (.fldA 0 (.t 14)), none), (o 16 (.fldA 0 (.t 15)), none), (o 17 (.ld 1 false (.t 16)), none), (o 18 (.lenS (.t 17)), none), (o 19 (.bin .lss (.t 13) (.t 18)), none), (o 20 (.mv (.t 19)), none), (⟨some 21, .mv (.t 0), some (20, true)⟩, none), (⟨some 22, .mv (.t 0), some (20, true)⟩, none), (⟨some 23, .fldA 0 (.t 22), some (20, true)⟩, none), (⟨some 24, .fldA 1 (.t 23), some (20, true)⟩, none), (⟨some 25, .ld 1 false (.t 24), some (20, true)⟩, none), (⟨some 26, .mv (.t 1), some (20, true)⟩, none), (⟨some 27, .call (.c (.fn 49 [] [])) [.t 21, .t 25, .t 26], some (20, true)⟩, (some [25, 13, 17])), (⟨some 28, .un .not (.t 27), some (20, true)⟩, none), (o 29 (.pick (.t 20) (.t 28) (.c (.bool false))), none)]) (.cond (.t 29) .skip (.exit 0))) (.block 1 (.reg [o 30 (.mv (.t 0)), o 31 (.fldA 0 (.t 30)), o 32 (.fldA 1 (.t 31)), o 33 (.ld 1 false (.t 32)), o 34 (.bin .add (.t 33) (.c (.int .i64 1))), o 35 (.fldA 0 (.t 30)), o 36 (.fldA 1 (.t 35)), ⟨none, .st 1 (.t 36) (.t 34), none⟩]))))) (.seq (.seq (.reg [o 37 (.mv (.t 0)), o 38 (.fldA 0 (.t 37)), o 39 (.fldA 1 (.t 38)), o 40 (.ld 1 false (.t 39)), o 41 (.mv (.t 4)), o 42 (.bin .eql (.t 40) (.t 41))]) (.cond (.t 42) .ret .skip)) (.seq (.dreg [(o 43 (.mv (.t 0)), none), (o 44 (.fldA 0 (.t 43)), none), (o 45 (.fldA 0 (.t 44)), none), (o 46 (.ld 1 false (.t 45)), none), (o 47 (.mv (.t 4)), none), (o 48 (.mv (.t 0)), none), (o 49 (.fldA 0 (.t 48)), none), (o 50 (.fldA 1 (.t 49)), none), (o 51 (.ld 1 false (.t 50)), none), (o 52 (.slS (.t 46) (some (.t 47)) (some (.t 51))), none), (o 5 (.mv (.t 52)), none)]) (.seq (.seq (.reg [o 53 (.mv (.t 1)), o 54 (.pcall 35 [.t 53]), o 55 (.bin .eql (.t 54) (.c (.int .i64 2)))]) (.cond (.t 55) (.reg [o 56 (.mv (.t 5)), o 57 (.pcall 55 [.t 56]), o 5 (.mv (.t 57))]) .skip)) (.reg [o 58 (.mv (.t 0)), o 59 (.mv (.t 5)), o 60 (.bld [.int .i64 0, .str [], .emp, .str [], .bool false, .int .i64 0, .int .i64 0] [(0, (1, (.c (.int .i64 3)))), (3, (1, (.t 59)))]), o 61 (.mv (.t 4)), o 62 (.call (.c (.fn 34 [] [])) [.t 58, .t 60, .t 61])]))))), []⟩
theorem hc36 : Y5 Tryz.prog {pure := [35, 55]} Tryz.f36 = some c36 := by kernel_rfl
theorem tokRawText_ok (hE : EqF G) {h0 h : Q2} {rb : Nat} {s nm : List UInt8} {a en : Nat} {T : List HTok} (R : RS h0 rb s a en T h) (ha : a <= s.length) (hs : s.length <= 4000000) (hT : T.length <= 4000000) (hn : 0 < X2 nm) :
    DCalls (Pg G) 36 [.vp rb 0, .str nm] h fun _ h' => RS h0 rb s (Z8 s a nm) en (T ++ Y7 s a nm) h' := by
  obtain ⟨out, hr⟩ := R.none_rb
  have hr' := hr
  unfold rdO at hr'
  obtain ⟨f1, f2, f3⟩ := rawM_fold hn
  obtain ⟨q, hq⟩ : ∃ q : Nat -> Bool, (fun i => X8 s i nm) = q := ⟨_, rfl⟩
  have ht : Z8 s a nm = Y0 q s.length a := by unfold Z8; rw [if_neg f2, hq]
  have hu := WQ (q := q) ha
  obtain ⟨u, hue⟩ : ∃ u, Y0 q s.length a = u := ⟨_, rfl⟩
  rw [hue] at hu ht
  rw [ht]
  obtain ⟨x, hx⟩ : ∃ x, (if X2 nm = 1 then seg s a u else K4 (seg s a u) false) = x := ⟨_, rfl⟩
  have tx : Y7 s a nm = if a < u then [⟨3, [], [], x, false, a, u⟩] else [] := by unfold Y7; rw [ht, hx]
  have cX := text_ok (G := G) (seg s a u) (by have := YY s a u; omega)
  have Put : ∀ h1, RS h0 rb s u en T h1 -> DCalls (Pg G) 34 [.vp rb 0, .agg [.int .i64 3, .str [], .emp, .str x, .bool false, .int .i64 0, .int .i64 0], .int .i64 a] h1 fun _ h' => RS h0 rb s u en (T ++ [⟨3, [], [], x, false, a, u⟩]) h' :=
    fun h1 R1 => (tokPut_ok (G := G) (t := ⟨3, [], [], x, false, 0, 0⟩) a R1 hT).weak rfl (F2.get (.cons (.refl _) (.cons (tokR_wk (t := ⟨3, [], [], x, false, 0, 0⟩) rfl) (.cons (.refl _) .nil))))
  have cR := tokRaw_ok (G := G) nm
  have hu1 := hu.ge
  have hu2 := hu.le
  refine Q1 Tryz.func36 (by kernel_rfl) hc36 (by rw [Tryz.ntmps36]; simp) (by rw [Tryz.ntmps36]; decide) ?_
  simp -dsimp -implicitDefEqProofs (disch := omega) only [VCA, Nat.reduceAdd, Nat.reduceLT, Nat.reduceLeDiff, ↓reduceIte, exists_eq_left', c36, hr']
  refine LoopVC.intro (fun m e h' => ∃ j : Nat, a <= j /\ j <= s.length /\ m = s.length - j /\ e 0 = .vp rb 0 /\ e 1 = .str nm /\ e 4 = Q3 a /\ h' = upd h rb (some (rdO s j en out)) /\ Y0 q s.length j = u) (s.length - a)
    (by exact ⟨a, by omega, by omega, by omega, rfl, rfl, rfl, (XK hr).symm, hue⟩) ?_
  rintro m e h' ⟨j, hj0, hj, rfl, e0, e1, e4, hh, hsk⟩
  have hr2 : h' rb = some (rdO s j en out) := by rw [hh, Z1]
  have hr3 := hr2
  unfold rdO at hr3
  have Rj : RS h0 rb s j en T h' := R.next fun o ho => by rw [hr] at ho; cases ho; rw [hh]; exact Sub.refl _
  by_cases hlt : j < s.length /\ q j = false
  · have cM := tokCloses_ok (G := G) hE (nm := nm) hr2 hlt.1 hs f1 f3
    rw [show X8 s j nm = q j by rw [<- hq], hlt.2] at cM
    have hj2 := W4 (q := q) hlt.1 hlt.2
    have l1 := hlt.1
    repeat' (first | ((with_reducible refine brC (fun _ => ?_) fun _ => ?_) <;> try (exfalso; omega)) | ((refine DCalls.of cM ?_; rintro _ _ ⟨rfl, rfl⟩)) | (with_reducible refine And.intro ?_ ?_; · omega) | simp -dsimp -implicitDefEqProofs (disch := omega) only [↓Q5 20, VCA, Nat.reduceEqDiff, Nat.reduceBEq, Nat.reduceAdd, Nat.reduceLT, Nat.reduceLeDiff, ↓reduceIte, reduceCtorEq, Y8, Q7, SOp.rd, SI.rd, SX.rd, rdL, rdO, Z3, implies_true, exists_eq_left', J1, e0, e1, e4, hr3])
    exact ⟨_, by omega, j + 1, by omega, by omega, rfl, by rw [hh, YV]; rfl, hj2.symm.trans hsk⟩
  · have hju : u = j := by
      by_cases l1 : j < s.length
      · have : q j = true := by cases hqj : q j with
          | true => rfl
          | false => exact absurd ⟨l1, hqj⟩ hlt
        rw [<- hsk]; exact Y9 this l1
      · rw [<- hsk]; exact U5 (by omega)
    subst hju
    have cM : u < s.length -> DCalls (Pg G) 49 [.vp rb 0, Q3 u, .str nm] h' fun r h'' => r = .bool true /\ h'' = h' := fun l1 => by
      have g := tokCloses_ok (G := G) hE (nm := nm) hr2 l1 hs f1 f3
      rw [show X8 s u nm = true by rw [show X8 s u nm = q u by rw [<- hq]]; exact hu.hit l1] at g
      exact g
    have t0 : List.drop a (List.take u s) = seg s a u := rfl
    have t1 : ((u : Int) == (a : Int)) = decide (¬ a < u) := by rw [Bool.eq_iff_iff, beq_iff_eq, decide_eq_true_iff]; omega
    have t2 : (X2 nm == 2) = decide (X2 nm ≠ 1) := by
      rcases rawM_two nm with q | q | q
      · omega
      · rw [q]; rfl
      · rw [q]; rfl
    by_cases hau : a < u
    · rw [decide_eq_false (by omega)] at t1
      by_cases h1 : X2 nm = 1
      · rw [decide_eq_false (by omega)] at t2
        rw [if_pos h1] at hx
        by_cases l1 : u < s.length
        · repeat' (first | ((with_reducible refine brC (fun _ => ?_) fun _ => ?_) <;> try (exfalso; omega)) | ((refine DCalls.of (cM l1) ?_; rintro _ _ ⟨rfl, rfl⟩)) | (with_reducible apply pcallE.of; · exact cR) | (with_reducible apply pcallE.of; · exact cX) | ((refine DCalls.of (Put _ Rj) ?_; rintro _ _ R2)) | (with_reducible refine And.intro ?_ ?_; · omega) | simp -dsimp -implicitDefEqProofs (disch := omega) only [↓Q5 20, VCA, Nat.reduceEqDiff, Nat.reduceBEq, Nat.reduceAdd, Nat.reduceLT, Nat.reduceLeDiff, ↓reduceIte, reduceCtorEq, Y8, Q7, SOp.rd, SI.rd, SX.rd, rdL, rdO, X7, Y6, implies_true, exists_eq_left', J1, e0, e1, e4, hr3, t0, t1, t2, hx])
          all_goals first
            | exact ⟨_, Sub.refl _, by rw [tx, if_pos (by omega)]; exact R2⟩
            | trace_state
        · have t3 : List.drop a s = seg s a u := by unfold seg; rw [List.take_of_length_le (by omega)]
          repeat' (first | ((with_reducible refine brC (fun _ => ?_) fun _ => ?_) <;> try (exfalso; omega)) | (with_reducible apply pcallE.of; · exact cR) | (with_reducible apply pcallE.of; · exact cX) | ((refine DCalls.of (Put _ Rj) ?_; rintro _ _ R2)) | (with_reducible refine And.intro ?_ ?_; · omega) | simp -dsimp -implicitDefEqProofs (disch := omega) only [↓Q5 20, VCA, Nat.reduceEqDiff, Nat.reduceBEq, Nat.reduceAdd, Nat.reduceLT, Nat.reduceLeDiff, ↓reduceIte, reduceCtorEq, Y8, Q7, SOp.rd, SI.rd, SX.rd, rdL, rdO, X7, Y6, implies_true, exists_eq_left', J1, J8, e0, e1, e4, hr3, t0, t1, t2, hx])
          all_goals first
            | exact ⟨_, Sub.refl _, by rw [tx, if_pos (by omega)]; exact R2⟩
            | trace_state
      · rw [decide_eq_true (by omega)] at t2
        rw [if_neg h1] at hx
        rw [hx] at cX
        by_cases l1 : u < s.length
        · repeat' (first | ((with_reducible refine brC (fun _ => ?_) fun _ => ?_) <;> try (exfalso; omega)) | ((refine DCalls.of (cM l1) ?_; rintro _ _ ⟨rfl, rfl⟩)) | (with_reducible apply pcallE.of; · exact cR) | (with_reducible apply pcallE.of; · exact cX) | ((refine DCalls.of (Put _ Rj) ?_; rintro _ _ R2)) | (with_reducible refine And.intro ?_ ?_; · omega) | simp -dsimp -implicitDefEqProofs (disch := omega) only [↓Q5 20, VCA, Nat.reduceEqDiff, Nat.reduceBEq, Nat.reduceAdd, Nat.reduceLT, Nat.reduceLeDiff, ↓reduceIte, reduceCtorEq, Y8, Q7, SOp.rd, SI.rd, SX.rd, rdL, rdO, X7, Y6, implies_true, exists_eq_left', J1, e0, e1, e4, hr3, t0, t1, t2])
          all_goals first
            | exact ⟨_, Sub.refl _, by rw [tx, if_pos (by omega)]; exact R2⟩
            | trace_state
        · have t3 : List.drop a s = seg s a u := by unfold seg; rw [List.take_of_length_le (by omega)]
          repeat' (first | ((with_reducible refine brC (fun _ => ?_) fun _ => ?_) <;> try (exfalso; omega)) | (with_reducible apply pcallE.of; · exact cR) | (with_reducible apply pcallE.of; · exact cX) | ((refine DCalls.of (Put _ Rj) ?_; rintro _ _ R2)) | (with_reducible refine And.intro ?_ ?_; · omega) | simp -dsimp -implicitDefEqProofs (disch := omega) only [↓Q5 20, VCA, Nat.reduceEqDiff, Nat.reduceBEq, Nat.reduceAdd, Nat.reduceLT, Nat.reduceLeDiff, ↓reduceIte, reduceCtorEq, Y8, Q7, SOp.rd, SI.rd, SX.rd, rdL, rdO, X7, Y6, implies_true, exists_eq_left', J1, J8, e0, e1, e4, hr3, t0, t1, t2])
          all_goals first
            | exact ⟨_, Sub.refl _, by rw [tx, if_pos (by omega)]; exact R2⟩
            | trace_state
    · rw [decide_eq_true (by omega)] at t1
      by_cases l1 : u < s.length
      · repeat' (first | ((with_reducible refine brC (fun _ => ?_) fun _ => ?_) <;> try (exfalso; omega)) | ((refine DCalls.of (cM l1) ?_; rintro _ _ ⟨rfl, rfl⟩)) | (with_reducible refine And.intro ?_ ?_; · omega) | simp -dsimp -implicitDefEqProofs (disch := omega) only [↓Q5 20, VCA, Nat.reduceEqDiff, Nat.reduceBEq, Nat.reduceAdd, Nat.reduceLT, Nat.reduceLeDiff, ↓reduceIte, reduceCtorEq, Y8, Q7, SOp.rd, SI.rd, SX.rd, rdL, rdO, implies_true, exists_eq_left', J1, e0, e1, e4, hr3, t1])
        exact ⟨_, Sub.refl _, by rw [tx, if_neg (by omega), List.append_nil]; exact Rj⟩
      · repeat' (first | ((with_reducible refine brC (fun _ => ?_) fun _ => ?_) <;> try (exfalso; omega)) | (with_reducible refine And.intro ?_ ?_; · omega) | simp -dsimp -implicitDefEqProofs (disch := omega) only [↓Q5 20, VCA, Nat.reduceEqDiff, Nat.reduceBEq, Nat.reduceAdd, Nat.reduceLT, Nat.reduceLeDiff, ↓reduceIte, reduceCtorEq, Y8, Q7, SOp.rd, SI.rd, SX.rd, rdL, rdO, implies_true, exists_eq_left', J1, J8, e0, e4, hr3, t1])
        exact ⟨_, Sub.refl _, by rw [tx, if_neg (by omega), List.append_nil]; exact Rj⟩
theorem kind_is {s : List UInt8} {a : Nat} (h : Y1 s a ≠ 0) : bt s a = 60 /\ a + 1 < s.length /\ (Y1 s a = 97 \/ Y1 s a = 33 \/ Y1 s a = 63 \/ (Y1 s a = 47 /\ a + 2 < s.length)) := by
  unfold Y1 at h ⊢
  by_cases h1 : bt s a ≠ 60 \/ ¬ a + 1 < s.length
  · rw [if_pos h1] at h; exact absurd rfl h
  · rw [if_neg h1] at h ⊢
    refine ⟨by omega, by omega, ?_⟩
    split
    · exact .inl rfl
    · rename_i h2
      rw [if_neg h2] at h
      split
      · rename_i h3; omega
      · rename_i h3
        rw [if_neg h3] at h
        split
        · rename_i h4; exact .inr (.inr (.inr ⟨rfl, h4.2⟩))
        · rename_i h4; rw [if_neg h4] at h; exact absurd rfl h
theorem rdO_is {s : List UInt8} {v : Int} {b en : Nat} {out : AVal} (hv : v = b) : (⟨Tr, 4, [[.str s, .int .i64 v, Q3 en, out]]⟩ : AObj) = rdO s b en out := by subst hv; rfl
def DeclC (G : JU) (s : List UInt8) : Prop := ∀ (h : Q2) (rb a en : Nat) (out : AVal), h rb = some (rdO s a en out) -> Y1 s a = 33 -> a < s.length -> s.length <= 4000000 ->
  DCalls (Pg G) 57 [.vp rb 0] h fun r h' => r = .tup [.agg (J6 (ZU s a).1), .bool (ZU s a).2.1] /\ Sub (upd h rb (some (rdO s (ZU s a).2.2 en out))) h' /\ (ZU s a).2.2 <= s.length
def NextK (h : Q2) (rb : Nat) (s : List UInt8) (a en : Nat) (out r : AVal) (h' : Q2) : Prop :=
  ∃ b, Sub (upd h rb (some (rdO s b en out))) h' /\ b <= s.length /\
    match X5 s a with
    | some q => r = .tup [.agg (J6 q.1), .bool q.2.1] /\ b = q.2.2
    | none => ∃ t : HTok, (t.kind = 1 \/ t.kind = 2) /\ r = .tup [.agg (J6 t), .bool false]
theorem com_le {s w : List UInt8} {a : Nat} (ha : a <= s.length) : (UQ s a w).2.2 <= s.length := by
  have := up_le (w := w) ha
  unfold UQ
  simp only
  split
  · rename_i h; exact this.2.2 h
  · exact Nat.le_refl _
def c33 : SFun := ⟨.seq (.reg [o 4 (.new 43 7 [.int .i64 0, .str [], .emp, .str [], .bool false, .int .i64 0, .int .i64 0]), o 5 (.mv (.c (.bool false)))]) (.seq (.block 0 (.seq (.reg [o 8 (.mv (.t 1)), o 9 (.bin .eql (.t 8) (.c (.int .u8 33))), o 7 (.mv (.t 9))]) (.cond (.t 7) (.seq (.reg [o 10 (.mv (.t 0)), o 11 (.call (.c (.fn 57 [] [])) [.t 10]), o 12 (.ext (.t 11) 0), o 13 (.ext (.t 11) 1), ⟨none, .st 7 (.t 4) (.t 12), none⟩, o 5 (.mv (.t 13))]) .ret) (.seq (.reg [o 15 (.mv (.t 1)), o 16 (.bin .eql (.t 15) (.c (.int .u8 63))), o 14 (.mv (.t 16))]) (.cond (.t 14) (.seq (.reg [o 17 (.mv (.t 0)), o 18 (.fldA 0 (.t 17)), o 19 (.fldA 1 (.t 18)), o 20 (.ld 1 false (.t 19)), o 21 (.bin .add (.t 20) (.c (.int .i64 1))), o 22 (.fldA 0 (.t 17)), o 23 (.fldA 1 (.t 22)), ⟨none, .st 1 (.t 23) (.t 21), none⟩]) (.seq (.reg [o 24 (.mv (.t 0)), o 25 (.call (.c (.fn 58 [] [])) [.t 24, .c (.str [62])]), o 26 (.ext (.t 25) 0), o 27 (.ext (.t 25) 1), ⟨none, .st 7 (.t 4) (.t 26), none⟩, o 5 (.mv (.t 27))]) .ret)) (.seq (.reg [o 29 (.mv (.t 1)), o 30 (.bin .eql (.t 29) (.c (.int .u8 97))), o 28 (.mv (.t 30))]) (.cond (.t 28) (.seq (.reg [o 31 (.mv (.t 0)), o 32 (.fldA 0 (.t 31)), o 33 (.fldA 1 (.t 32)), o 34 (.ld 1 false (.t 33)), o 35 (.bin .add (.t 34) (.c (.int .i64 1))), o 36 (.fldA 0 (.t 31)), o 37 (.fldA 1 (.t 36)), ⟨none, .st 1 (.t 37) (.t 35), none⟩]) (.seq (.reg [o 38 (.mv (.t 0)), o 39 (.bld [.int .i64 0, .str [], .emp, .str [], .bool false, .int .i64 0, .int .i64 0] [(0, (1, (.c (.int .i64 1))))]), o 40 (.call (.c (.fn 59 [] [])) [.t 38, .t 39]), o 41 (.ext (.t 40) 0), o 42 (.ext (.t 40) 1), ⟨none, .st 7 (.t 4) (.t 41), none⟩, o 5 (.mv (.t 42))]) .ret)) .skip))))))) (.seq (.reg [o 43 (.mv (.t 0)), o 44 (.fldA 0 (.t 43)), o 45 (.fldA 1 (.t 44)), o 46 (.ld 1 false (.t 45)), o 47 (.bin .add (.t 46) (.c (.int .i64 2))), o 48 (.fldA 0 (.t 43)), o 49 (.fldA 1 (.t 48)), ⟨none, .st 1 (.t 49) (.t 47), none⟩]) (.seq (.seq (.dreg [(o 50 (.mv (.t 0)), none), (o 51 (.fldA 0 (.t 50)), none), (o 52 (.fldA 0 (.t 51)), none), (o 53 (.ld 1 false (.t 52)), none), (o 54 (.mv (.t 0)), none), (o 55 (.fldA 0 (.t 54)), none), (o 56 (.fldA 1 (.t 55)), none), (o 57 (.ld 1 false (.t 56)), none), (o 58 (.idxS (.t 53) (.t 57)), none), (o 6 (.mv (.t 58)), none)]) (.block 1 (.seq (.reg [o 60 (.mv (.t 6)), o 61 (.bin .eql (.t 60) (.c (.int .u8 62))), o 59 (.mv (.t 61))]) (.cond (.t 59) (.seq (.reg [o 62 (.mv (.t 0)), o 63 (.fldA 0 (.t 62)), o 64 (.fldA 1 (.t 63)), o 65 (.ld 1 false (.t 64)), o 66 (.bin .add (.t 65) (.c (.int .i64 1))), o 67 (.fldA 0 (.t 62)), o 68 (.fldA 1 (.t 67)), ⟨none, .st 1 (.t 68) (.t 66), none⟩]) (.seq (.reg [o 69 (.ld 7 true (.t 4)), ⟨none, .st 7 (.t 4) (.t 69), none⟩, o 5 (.mv (.c (.bool true)))]) .ret)) (.seq (.reg [o 71 (.mv (.t 6)), o 72 (.pcall 56 [.t 71]), o 73 (.un .not (.t 72)), o 70 (.mv (.t 73))]) (.cond (.t 70) (.seq (.reg [o 74 (.mv (.t 0)), o 75 (.call (.c (.fn 58 [] [])) [.t 74, .c (.str [62])]), o 76 (.ext (.t 75) 0), o 77 (.ext (.t 75) 1), ⟨none, .st 7 (.t 4) (.t 76), none⟩, o 5 (.mv (.t 77))]) .ret) .skip)))))) (.seq (.reg [o 79 (.mv (.t 0)), o 80 (.bld [.int .i64 0, .str [], .emp, .str [], .bool false, .int .i64 0, .int .i64 0] [(0, (1, (.c (.int .i64 2))))]), o 81 (.call (.c (.fn 59 [] [])) [.t 79, .t 80]), o 78 (.mv (.t 81)), o 82 (.ext (.t 78) 0), o 83 (.ext (.t 78) 1), ⟨none, .st 7 (.t 4) (.t 82), none⟩, o 5 (.mv (.t 83))]) (.seq (.reg [o 84 (.fldA 2 (.t 4)), ⟨none, .st 1 (.t 84) (.c .emp), none⟩, o 85 (.fldA 4 (.t 4)), ⟨none, .st 1 (.t 85) (.c (.bool false)), none⟩]) (.seq (.reg [o 86 (.ld 7 true (.t 4)), o 87 (.mv (.t 5)), ⟨none, .st 7 (.t 4) (.t 86), none⟩, o 5 (.mv (.t 87))]) .ret)))))), [.cell 4 7 true, .tmp 5]⟩
theorem hc33 : Y5 Tryz.prog {pure := [56]} Tryz.f33 = some c33 := by kernel_rfl
theorem hn33 : (Tryz.f33.name == "runtime.NumGoroutine") = false := by kernel_rfl
theorem tokNext_ok (hG : U8 G) {h : Q2} {rb : Nat} {s : List UInt8} {a en : Nat} {out : AVal} (hr : h rb = some (rdO s a en out)) (hD : DeclC G s) (hk : Y1 s a ≠ 0) (ha : a < s.length) (hs : s.length <= 4000000) :
    DCalls (Pg G) 33 [.vp rb 0, .int .u8 (Y1 s a)] h (NextK h rb s a en out) := by
  refine DCalls.wkRes (K0 := fun r h' => ∃ r', Wk r r' /\ NextK h rb s a en out r' h') ?_ (fun a h' ⟨b, w, k⟩ => ⟨b, w, k⟩)
  have hr' := hr
  unfold rdO at hr'
  obtain ⟨_, ha1, hc⟩ := kind_is hk
  unfold NextK X5
  rcases hc with hc | hc | hc | ⟨hc, ha2⟩
  · rw [hc, if_pos rfl]
    refine Q1 Tryz.func33 hn33 hc33 (by rw [Tryz.ntmps33]; simp) (by rw [Tryz.ntmps33]; decide) ?_
    simp -dsimp -implicitDefEqProofs (disch := omega) only [VCA, Nat.reduceEqDiff, ↓reduceIte, rdO, c33]
    intro r4 hr4
    have m1 : ¬ rb = r4 := fun q => by rw [<- q, hr] at hr4; cases hr4
    have m2 : ¬ r4 = rb := fun q => m1 q.symm
    obtain ⟨hA, hhA⟩ : ∃ hA, upd (upd h r4 (some ⟨Tt, 7, [[Q3 0, .str [], .emp, .str [], .bool false, Q3 0, Q3 0]]⟩)) rb (some (rdO s (a + 1) en out)) = hA := ⟨_, rfl⟩
    have SA : Sub (upd h rb (some (rdO s (a + 1) en out))) hA := by
      rw [<- hhA]; exact S_put (x := rdO s a en out) (by rw [XK hr]; exact (Sub.refl h).upd hr4)
    have gA := T0 SA
    have gA' := gA
    unfold rdO at gA'
    have zA : hA r4 = some ⟨Tt, 7, [[Q3 0, .str [], .emp, .str [], .bool false, Q3 0, Q3 0]]⟩ := by rw [<- hhA, Q9 _ _ m2, Z1]
    repeat' (first | ((with_reducible refine brC (fun _ => ?_) fun _ => ?_) <;> try (exfalso; omega)) | (with_reducible refine And.intro ?_ ?_; · omega) | simp -dsimp -implicitDefEqProofs (disch := omega) only [VCA, Nat.reduceEqDiff, Nat.reduceAdd, Nat.reduceLT, Nat.reduceLeDiff, ↓reduceIte, reduceCtorEq, X7, Y6, Z3, exists_eq_left', m1, hr'])
    rw [rdO_one, hhA]
    refine DCalls.of (tokTag_ok (G := G) hG 1 gA (by omega) hs) ?_
    rintro _ hB ⟨b, SB, hb, hT⟩
    have zB : hB r4 = some ⟨Tt, 7, [[Q3 0, .str [], .emp, .str [], .bool false, Q3 0, Q3 0]]⟩ := SB _ _ (by rw [Q9 _ _ m2]; exact zA)
    cases hq : UU s (a + 1) with
    | some q =>
      rw [hq] at hT
      obtain ⟨rfl, rfl, _⟩ := hT
      obtain ⟨t, ht⟩ : ∃ t : HTok, ⟨1, q.1, q.2.1, [], q.2.2.1, 0, 0⟩ = t := ⟨_, rfl⟩
      rw [ht]
      unfold J6
      repeat' (first | ((with_reducible refine brC (fun _ => ?_) fun _ => ?_) <;> try (exfalso; omega)) | (with_reducible refine And.intro ?_ ?_; · omega) | simp -dsimp -implicitDefEqProofs (disch := omega) only [VCA, Nat.reduceEqDiff, Nat.reduceAdd, Nat.reduceLT, ↓reduceIte, Z3, exists_eq_left', zB])
      exact ⟨_, Sub.refl _, _, .refl _, q.2.2.2, T9 (JZ SA SB) hr4 m2, hb, by rw [<- ht]; exact ⟨rfl, rfl⟩⟩
    | none =>
      rw [hq] at hT
      obtain ⟨⟨t, ht, rfl⟩, rfl⟩ := hT
      unfold J6
      repeat' (first | ((with_reducible refine brC (fun _ => ?_) fun _ => ?_) <;> try (exfalso; omega)) | (with_reducible refine And.intro ?_ ?_; · omega) | simp -dsimp -implicitDefEqProofs (disch := omega) only [VCA, Nat.reduceEqDiff, Nat.reduceAdd, Nat.reduceLT, ↓reduceIte, Z3, exists_eq_left', zB])
      exact ⟨_, Sub.refl _, _, .refl _, _, T9 (JZ SA SB) hr4 m2, hb, t, .inl ht, rfl⟩
  · rw [hc, if_neg (by decide), if_pos rfl]
    have cD := fun h hr => hD h rb a en out hr hc ha hs
    obtain ⟨⟨t, b, c⟩, ht⟩ : ∃ t, ZU s a = t := ⟨_, rfl⟩
    rw [ht]
    refine Q1 Tryz.func33 hn33 hc33 (by rw [Tryz.ntmps33]; simp) (by rw [Tryz.ntmps33]; decide) ?_
    simp -dsimp -implicitDefEqProofs (disch := omega) only [VCA, Nat.reduceEqDiff, ↓reduceIte, rdO, c33]
    intro r4 hr4
    have m1 : ¬ rb = r4 := fun q => by rw [<- q, hr] at hr4; cases hr4
    have m2 : ¬ r4 = rb := fun q => m1 q.symm
    have zA : upd h r4 (some ⟨Tt, 7, [[Q3 0, .str [], .emp, .str [], .bool false, Q3 0, Q3 0]]⟩) r4 = some ⟨Tt, 7, [[Q3 0, .str [], .emp, .str [], .bool false, Q3 0, Q3 0]]⟩ := Z1 _ _ _
    have cD := cD (upd h r4 (some ⟨Tt, 7, [[Q3 0, .str [], .emp, .str [], .bool false, Q3 0, Q3 0]]⟩)) (by rw [Q9 _ _ m1]; exact hr)
    repeat' (first | ((with_reducible refine brC (fun _ => ?_) fun _ => ?_) <;> try (exfalso; omega)) | (with_reducible refine And.intro ?_ ?_; · omega) | simp -dsimp -implicitDefEqProofs (disch := omega) only [VCA, ↓reduceIte, reduceCtorEq])
    refine DCalls.of cD ?_
    rintro _ hB ⟨rfl, SB, hb⟩
    rw [ht] at SB hb ⊢
    have zB : hB r4 = some ⟨Tt, 7, [[Q3 0, .str [], .emp, .str [], .bool false, Q3 0, Q3 0]]⟩ := SB _ _ (by rw [Q9 _ _ m2]; exact zA)
    have SA : Sub (upd h rb (some (rdO s a en out))) (upd h r4 (some ⟨Tt, 7, [[Q3 0, .str [], .emp, .str [], .bool false, Q3 0, Q3 0]]⟩)) := by rw [XK hr]; exact (Sub.refl h).upd hr4
    unfold J6
    repeat' (first | ((with_reducible refine brC (fun _ => ?_) fun _ => ?_) <;> try (exfalso; omega)) | (with_reducible refine And.intro ?_ ?_; · omega) | simp -dsimp -implicitDefEqProofs (disch := omega) only [VCA, Nat.reduceEqDiff, Nat.reduceAdd, Nat.reduceLT, ↓reduceIte, Z3, exists_eq_left', zB])
    exact ⟨_, Sub.refl _, _, .refl _, c, T9 (JZ SA SB) hr4 m2, hb, rfl, rfl⟩
  · rw [hc, if_neg (by decide), if_neg (by decide), if_pos rfl]
    have hb := com_le (s := s) (w := [62]) (a := a + 1) (by omega)
    refine Q1 Tryz.func33 hn33 hc33 (by rw [Tryz.ntmps33]; simp) (by rw [Tryz.ntmps33]; decide) ?_
    simp -dsimp -implicitDefEqProofs (disch := omega) only [VCA, Nat.reduceEqDiff, ↓reduceIte, rdO, c33]
    intro r4 hr4
    have m1 : ¬ rb = r4 := fun q => by rw [<- q, hr] at hr4; cases hr4
    have m2 : ¬ r4 = rb := fun q => m1 q.symm
    obtain ⟨hA, hhA⟩ : ∃ hA, upd (upd h r4 (some ⟨Tt, 7, [[Q3 0, .str [], .emp, .str [], .bool false, Q3 0, Q3 0]]⟩)) rb (some (rdO s (a + 1) en out)) = hA := ⟨_, rfl⟩
    have SA : Sub (upd h rb (some (rdO s (a + 1) en out))) hA := by
      rw [<- hhA]; exact S_put (x := rdO s a en out) (by rw [XK hr]; exact (Sub.refl h).upd hr4)
    have gA := T0 SA
    have gA' := gA
    unfold rdO at gA'
    have zA : hA r4 = some ⟨Tt, 7, [[Q3 0, .str [], .emp, .str [], .bool false, Q3 0, Q3 0]]⟩ := by rw [<- hhA, Q9 _ _ m2, Z1]
    repeat' (first | ((with_reducible refine brC (fun _ => ?_) fun _ => ?_) <;> try (exfalso; omega)) | (with_reducible refine And.intro ?_ ?_; · omega) | simp -dsimp -implicitDefEqProofs (disch := omega) only [VCA, Nat.reduceEqDiff, Nat.reduceAdd, Nat.reduceLT, Nat.reduceLeDiff, ↓reduceIte, reduceCtorEq, Z3, exists_eq_left', m1, hr'])
    rw [rdO_one, hhA]
    refine DCalls.of (tokComment_ok (G := G) hG gA (by omega) hs (by decide) (by simp)) ?_
    rintro _ hB ⟨rfl, SB⟩
    have zB : hB r4 = some ⟨Tt, 7, [[Q3 0, .str [], .emp, .str [], .bool false, Q3 0, Q3 0]]⟩ := SB _ _ (by rw [Q9 _ _ m2]; exact zA)
    obtain ⟨⟨t, b, c⟩, ht⟩ : ∃ t, UQ s (a + 1) [62] = t := ⟨_, rfl⟩
    rw [ht] at SB hb ⊢
    unfold J6
    repeat' (first | ((with_reducible refine brC (fun _ => ?_) fun _ => ?_) <;> try (exfalso; omega)) | (with_reducible refine And.intro ?_ ?_; · omega) | simp -dsimp -implicitDefEqProofs (disch := omega) only [VCA, Nat.reduceEqDiff, Nat.reduceAdd, Nat.reduceLT, ↓reduceIte, Z3, exists_eq_left', zB])
    exact ⟨_, Sub.refl _, _, .refl _, c, T9 (JZ SA SB) hr4 m2, hb, rfl, rfl⟩
  · rw [hc, if_neg (by decide), if_neg (by decide), if_neg (by decide)]
    obtain ⟨c, hcc⟩ : ∃ c, s.getD (a + 2) 0 = c := ⟨_, rfl⟩
    have ec : bt s (a + 2) = c.toNat := by unfold bt; rw [hcc]
    rw [ec]
    have cL := UW (G := G) c
    have t2 : ((a : Int) + 2).toNat = a + 2 := by omega
    have tB : (((a + 2 : Nat) : Int)) = (a : Int) + 2 := by omega
    cases h62 : ((c.toNat : Int) == 62) with
    | true =>
      rw [if_pos (by simpa using h62)]
      refine Q1 Tryz.func33 hn33 hc33 (by rw [Tryz.ntmps33]; simp) (by rw [Tryz.ntmps33]; decide) ?_
      simp -dsimp -implicitDefEqProofs (disch := omega) only [VCA, Nat.reduceEqDiff, ↓reduceIte, rdO, c33]
      intro r4 hr4
      have m1 : ¬ rb = r4 := fun q => by rw [<- q, hr] at hr4; cases hr4
      have m2 : ¬ r4 = rb := fun q => m1 q.symm
      obtain ⟨hA, hhA⟩ : ∃ hA, upd (upd h r4 (some ⟨Tt, 7, [[Q3 0, .str [], .emp, .str [], .bool false, Q3 0, Q3 0]]⟩)) rb (some (rdO s (a + 2) en out)) = hA := ⟨_, rfl⟩
      have SA : Sub (upd h rb (some (rdO s (a + 2) en out))) hA := by
        rw [<- hhA]; exact S_put (x := rdO s a en out) (by rw [XK hr]; exact (Sub.refl h).upd hr4)
      have gA := T0 SA
      have gA' := gA
      unfold rdO at gA'
      have zA : hA r4 = some ⟨Tt, 7, [[Q3 0, .str [], .emp, .str [], .bool false, Q3 0, Q3 0]]⟩ := by rw [<- hhA, Q9 _ _ m2, Z1]
      repeat' (first | ((with_reducible refine brC (fun _ => ?_) fun _ => ?_) <;> try (exfalso; omega)) | (with_reducible refine And.intro ?_ ?_; · omega) | simp -dsimp -implicitDefEqProofs (disch := omega) only [VCA, Nat.reduceEqDiff, Nat.reduceAdd, Nat.reduceLT, Nat.reduceLeDiff, ↓reduceIte, reduceCtorEq, Y8, Q7, Z3, exists_eq_left', J1, m1, m2, hr', hcc, h62, t2])
      refine ⟨_, Sub.refl _, _, tokR_wk2 (t := tok0) rfl, a + 3, ?_, by omega, rfl, rfl⟩
      rw [rdO_is (v := (a : Int) + 2 + 1) (b := a + 3) (by omega)]
      exact T9 (S_put (x := rdO s a en out) (by rw [XK hr]; exact (Sub.refl h).upd hr4)) hr4 m2
    | false =>
      rw [if_neg (by simpa using h62)]
      refine Q1 Tryz.func33 hn33 hc33 (by rw [Tryz.ntmps33]; simp) (by rw [Tryz.ntmps33]; decide) ?_
      simp -dsimp -implicitDefEqProofs (disch := omega) only [VCA, Nat.reduceEqDiff, ↓reduceIte, rdO, c33]
      intro r4 hr4
      have m1 : ¬ rb = r4 := fun q => by rw [<- q, hr] at hr4; cases hr4
      have m2 : ¬ r4 = rb := fun q => m1 q.symm
      obtain ⟨hA, hhA⟩ : ∃ hA, upd (upd h r4 (some ⟨Tt, 7, [[Q3 0, .str [], .emp, .str [], .bool false, Q3 0, Q3 0]]⟩)) rb (some (rdO s (a + 2) en out)) = hA := ⟨_, rfl⟩
      have SA : Sub (upd h rb (some (rdO s (a + 2) en out))) hA := by
        rw [<- hhA]; exact S_put (x := rdO s a en out) (by rw [XK hr]; exact (Sub.refl h).upd hr4)
      have gA := T0 SA
      have zA : hA r4 = some ⟨Tt, 7, [[Q3 0, .str [], .emp, .str [], .bool false, Q3 0, Q3 0]]⟩ := by rw [<- hhA, Q9 _ _ m2, Z1]
      cases hl : U1 (c.toNat : Int) with
      | false =>
        rw [hl] at cL
        rw [if_neg (by simp)]
        have hb := com_le (s := s) (w := [62]) (a := a + 2) (by omega)
        repeat' (first | ((with_reducible refine brC (fun _ => ?_) fun _ => ?_) <;> try (exfalso; omega)) | (with_reducible apply pcallE.of; · exact cL) | (with_reducible refine And.intro ?_ ?_; · omega) | simp -dsimp -implicitDefEqProofs (disch := omega) only [VCA, Nat.reduceEqDiff, Nat.reduceAdd, Nat.reduceLT, Nat.reduceLeDiff, ↓reduceIte, reduceCtorEq, Y8, Q7, Z3, exists_eq_left', J1, m1, hr', hcc, h62, t2])
        rw [rdO_is (v := (a : Int) + 2) (b := a + 2) (by omega), hhA]
        refine DCalls.of (tokComment_ok (G := G) hG gA (by omega) hs (by decide) (by simp)) ?_
        rintro _ hB ⟨rfl, SB⟩
        have zB : hB r4 = some ⟨Tt, 7, [[Q3 0, .str [], .emp, .str [], .bool false, Q3 0, Q3 0]]⟩ := SB _ _ (by rw [Q9 _ _ m2]; exact zA)
        obtain ⟨⟨t, b, c⟩, ht⟩ : ∃ t, UQ s (a + 2) [62] = t := ⟨_, rfl⟩
        rw [ht] at SB hb ⊢
        unfold J6
        repeat' (first | ((with_reducible refine brC (fun _ => ?_) fun _ => ?_) <;> try (exfalso; omega)) | (with_reducible refine And.intro ?_ ?_; · omega) | simp -dsimp -implicitDefEqProofs (disch := omega) only [VCA, Nat.reduceEqDiff, Nat.reduceAdd, Nat.reduceLT, ↓reduceIte, Z3, exists_eq_left', zB])
        exact ⟨_, Sub.refl _, _, .refl _, c, T9 (JZ SA SB) hr4 m2, hb, rfl, rfl⟩
      | true =>
        rw [hl] at cL
        rw [if_pos rfl]
        repeat' (first | ((with_reducible refine brC (fun _ => ?_) fun _ => ?_) <;> try (exfalso; omega)) | (with_reducible apply pcallE.of; · exact cL) | (with_reducible refine And.intro ?_ ?_; · omega) | simp -dsimp -implicitDefEqProofs (disch := omega) only [VCA, Nat.reduceEqDiff, Nat.reduceAdd, Nat.reduceLT, Nat.reduceLeDiff, ↓reduceIte, reduceCtorEq, Y8, Q7, X7, Y6, Z3, exists_eq_left', J1, m1, hr', hcc, h62, t2])
        rw [rdO_is (v := (a : Int) + 2) (b := a + 2) (by omega), hhA]
        refine DCalls.of (tokTag_ok (G := G) hG 2 gA (by omega) hs) ?_
        rintro _ hB ⟨b, SB, hb, hT⟩
        have zB : hB r4 = some ⟨Tt, 7, [[Q3 0, .str [], .emp, .str [], .bool false, Q3 0, Q3 0]]⟩ := SB _ _ (by rw [Q9 _ _ m2]; exact zA)
        cases hq : UU s (a + 2) with
        | some q =>
          rw [hq] at hT
          obtain ⟨rfl, rfl, _⟩ := hT
          unfold J6
          repeat' (first | ((with_reducible refine brC (fun _ => ?_) fun _ => ?_) <;> try (exfalso; omega)) | (with_reducible refine And.intro ?_ ?_; · omega) | simp -dsimp -implicitDefEqProofs (disch := omega) only [VCA, Nat.reduceEqDiff, Nat.reduceAdd, Nat.reduceLT, Nat.reduceLeDiff, ↓reduceIte, Z3, exists_eq_left', zB])
          exact ⟨_, Sub.refl _, _, tokR_wk2 (t := ⟨2, q.1, [], [], false, 0, 0⟩) rfl, q.2.2.2, T9 (JZ SA SB) hr4 m2, hb, rfl, rfl⟩
        | none =>
          rw [hq] at hT
          obtain ⟨⟨t, ht, rfl⟩, rfl⟩ := hT
          unfold J6
          repeat' (first | ((with_reducible refine brC (fun _ => ?_) fun _ => ?_) <;> try (exfalso; omega)) | (with_reducible refine And.intro ?_ ?_; · omega) | simp -dsimp -implicitDefEqProofs (disch := omega) only [VCA, Nat.reduceEqDiff, Nat.reduceAdd, Nat.reduceLT, Nat.reduceLeDiff, ↓reduceIte, Z3, exists_eq_left', zB])
          exact ⟨_, Sub.refl _, _, tokR_wk2 (t := ⟨t.kind, t.name, [], t.text, false, t.frm, t.til⟩) rfl, _, T9 (JZ SA SB) hr4 m2, hb, ⟨t.kind, t.name, [], t.text, false, t.frm, t.til⟩, .inr ht, rfl⟩
theorem tagF_gt {s : List UInt8} : ∀ (f c : Nat) (l : List HAttr) {q : List HAttr × Bool × Nat}, c <= s.length -> WV s f c l = some q -> c < q.2.2
  | 0, c, l, q, _, h => by cases h
  | f + 1, c, l, q, hc, h => by
    rw [WV] at h
    have hu := T8 (q := X3) hc
    split at h
    · rename_i hl
      split at h
      · cases h; simp only; omega
      · have hn := attr_next hl
        have := tagF_gt f _ _ hn.2 h
        omega
    · cases h
theorem tagM_gt {s : List UInt8} {c : Nat} {q : List UInt8 × List HAttr × Bool × Nat} (hc : c <= s.length) (h : UU s c = some q) : c < q.2.2.2 := by
  unfold UU at h
  have hu := T8 (q := Z9) hc
  cases hh : WV s (s.length + 1) (Z4 Z9 s c) [] with
  | none => rw [hh] at h; cases h
  | some x =>
    rw [hh] at h; cases h
    have := tagF_gt _ _ _ hu.2 hh
    simp only; omega
theorem com_ge {s w : List UInt8} {a : Nat} (ha : a <= s.length) : a <= (UQ s a w).2.2 := by
  have := up_le (w := w) ha
  unfold UQ
  simp only
  split <;> omega
theorem decl_gt {s : List UInt8} {a : Nat} (ha : a + 1 < s.length) : a < (ZU s a).2.2 := by
  unfold ZU
  split
  · rename_i h
    have h4 : a + 4 <= s.length := by unfold Z7 at h; rw [Bool.and_eq_true, decide_eq_true_eq] at h; exact h.1
    split
    · simp only; omega
    · split
      · simp only; omega
      · have := com_ge (w := [45, 45, 62]) h4; omega
  · split
    · have := up_le (s := s) (w := [62]) (a := a) (by omega)
      simp only
      split <;> omega
    · have := com_ge (s := s) (w := [62]) (a := a + 2) (by omega); omega
theorem mark_is {s : List UInt8} {a : Nat} {q : HTok × Bool × Nat} (hk : Y1 s a ≠ 0) (h : X5 s a = some q) : a < q.2.2 /\ (q.1.kind = 0 /\ q.2.1 = true \/ q.1.kind = 1 /\ q.2.1 = true \/ q.1.kind = 2 /\ q.2.1 = true \/ q.1.kind = 4 \/ q.1.kind = 5) := by
  obtain ⟨_, h1, hc⟩ := kind_is hk
  unfold X5 at h
  rcases hc with hc | hc | hc | ⟨hc, h2⟩
  · rw [hc, if_pos rfl] at h
    cases ht : UU s (a + 1) with
    | none => rw [ht] at h; cases h
    | some x =>
      rw [ht] at h; cases h
      have := tagM_gt (by omega) ht
      exact ⟨by simp only; omega, .inr (.inl ⟨rfl, rfl⟩)⟩
  · rw [hc, if_neg (by decide), if_pos rfl] at h
    cases h
    refine ⟨decl_gt h1, ?_⟩
    unfold ZU
    split
    · split
      · exact .inr (.inr (.inr (.inl rfl)))
      · split <;> exact .inr (.inr (.inr (.inl rfl)))
    · split
      · exact .inr (.inr (.inr (.inr rfl)))
      · exact .inr (.inr (.inr (.inl rfl)))
  · rw [hc, if_neg (by decide), if_neg (by decide), if_pos rfl] at h
    cases h
    have := com_ge (s := s) (w := [62]) (a := a + 1) (by omega)
    exact ⟨by omega, .inr (.inr (.inr (.inl rfl)))⟩
  · rw [hc, if_neg (by decide), if_neg (by decide), if_neg (by decide)] at h
    split at h
    · cases h; exact ⟨by simp only; omega, .inl ⟨rfl, rfl⟩⟩
    · split at h
      · cases ht : UU s (a + 2) with
        | none => rw [ht] at h; cases h
        | some x =>
          rw [ht] at h; cases h
          have := tagM_gt (by omega) ht
          exact ⟨by simp only; omega, .inr (.inr (.inl ⟨rfl, rfl⟩))⟩
      · cases h
        have := com_ge (s := s) (w := [62]) (a := a + 2) (by omega)
        exact ⟨by omega, .inr (.inr (.inr (.inl rfl)))⟩
theorem closeM_kind {s nm : List UInt8} {a : Nat} (hn : nm ≠ []) (h : X8 s a nm = true) : Y1 s a ≠ 0 := by
  unfold X8 at h
  rw [Bool.and_eq_true, Bool.and_eq_true, decide_eq_true_eq] at h
  obtain ⟨h1, h2, _⟩ := h
  have hl : 0 < nm.length := List.length_pos_iff.2 hn
  rw [stand_cons (by decide) (by rw [List.length_cons]; omega), stand_cons (by decide) (by omega), Bool.and_eq_true, Bool.and_eq_true, beq_iff_eq, beq_iff_eq] at h2
  have e1 : bt s a = 60 := h2.1
  have e2 : bt s (a + 1) = 47 := h2.2.1
  unfold Y1
  rw [e1, e2, if_neg (by omega), if_neg (by decide), if_neg (by decide), if_pos ⟨rfl, by omega⟩]
  decide
theorem XX {s nm : List UInt8} {a : Nat} (ha : a <= s.length) : a <= Z8 s a nm /\ Z8 s a nm <= s.length := by
  unfold Z8
  split
  · exact ⟨(WQ ha).ge, (WQ ha).le⟩
  · exact ⟨(WQ ha).ge, (WQ ha).le⟩
theorem UV {s nm : List UInt8} {a : Nat} (ha : a <= s.length) (h : Z8 s a nm < s.length) : Y1 s (Z8 s a nm) ≠ 0 := by
  by_cases hn : nm = []
  · have e : Z8 s a nm = Y0 (fun i => Y1 s i != 0) s.length a := by unfold Z8; rw [if_pos hn]
    rw [e] at h ⊢
    have := (WQ ha).hit h
    simpa using this
  · have e : Z8 s a nm = Y0 (fun i => X8 s i nm) s.length a := by unfold Z8; rw [if_neg hn]
    rw [e] at h ⊢
    exact closeM_kind hn ((WQ ha).hit h)
theorem textEnd_again {s nm : List UInt8} {a : Nat} (ha : a <= s.length) : Z8 s (Z8 s a nm) [] = Z8 s a nm /\ Y7 s (Z8 s a nm) [] = [] := by
  have h := XX (nm := nm) ha
  have e : Z8 s (Z8 s a nm) [] = Z8 s a nm := by
    have hk := UV (nm := nm) ha
    generalize Z8 s a nm = u at *
    unfold Z8
    rw [if_pos rfl]
    by_cases hl : u < s.length
    · exact Y9 (by simpa using hk hl) hl
    · exact U5 (by omega)
  exact ⟨e, by unfold Y7; rw [e, if_neg (Nat.lt_irrefl _)]⟩
theorem TU (s nm : List UInt8) (a : Nat) : (Y7 s a nm).length <= 1 := by unfold Y7; split <;> simp
theorem RS.add {h0 h : Q2} {rb r : Nat} {s : List UInt8} {a en : Nat} {T : List HTok} (R : RS h0 rb s a en T h) (hr : h r = none) (o : Option AObj) : RS (upd h0 r o) rb s a en T (upd h r o) := by
  obtain ⟨out, A, S⟩ := R
  obtain ⟨n1, n2⟩ := none_off S hr
  refine ⟨out, ?_, ?_⟩
  · refine A.re fun x ob q0 q1 => ?_
    have hx : x ≠ r := fun e => by rw [e, hr] at q1; cases q1
    rw [Q9 _ _ hx]
    refine ⟨?_, q1⟩
    by_cases e : x = rb
    · subst e; rw [Z1] at q0; cases q0
    · rw [Q9 _ _ e] at q0 ⊢; rw [Q9 _ _ hx]; exact q0
  · intro x ob hx
    by_cases e : x = rb
    · subst e
      rw [Z1] at hx; cases hx
      rw [Q9 _ _ n2.symm]; exact T0 S
    · rw [Q9 _ _ e] at hx
      by_cases e2 : x = r
      · subst e2; rw [Z1] at hx ⊢; exact hx
      · rw [Q9 _ _ e2] at hx ⊢
        exact S x ob (by rw [Q9 _ _ e]; exact hx)
theorem RS.base {h0 h : Q2} {rb r : Nat} {s : List UInt8} {a en : Nat} {T : List HTok} {o : Option AObj} (R : RS (upd h0 r o) rb s a en T h) (n1 : h0 r = none) (n2 : r ≠ rb) : RS h0 rb s a en T h := by
  obtain ⟨out, A, S⟩ := R
  have Sb : ∀ x, Sub (upd h0 rb (some x)) (upd (upd h0 r o) rb (some x)) := fun x t ob ht => by
    by_cases e : t = rb
    · subst e; rw [Z1] at ht ⊢; exact ht
    · rw [Q9 _ _ e] at ht ⊢
      have : t ≠ r := fun q => by rw [q, n1] at ht; cases ht
      rw [Q9 _ _ this]; exact ht
  refine ⟨out, A.re fun x ob q0 q1 => ⟨?_, q1⟩, fun t ob ht => S t ob (Sb _ t ob ht)⟩
  exact (Sb _).none q0
theorem RS.keep {h0 h : Q2} {rb r : Nat} {s : List UInt8} {a en : Nat} {T : List HTok} {o : AObj} (R : RS (upd h0 r (some o)) rb s a en T h) (n2 : r ≠ rb) : h r = some o := by
  obtain ⟨out, A, S⟩ := R
  exact S r o (by rw [Q9 _ _ n2, Z1])
theorem RS.setEn {h0 h : Q2} {rb : Nat} {s : List UInt8} {a en : Nat} {T : List HTok} {out : AVal} (R : RS h0 rb s a en T h) (hr : h rb = some (rdO s a en out)) (b : Nat) : RS h0 rb s a b T (upd h rb (some (rdO s a b out))) := by
  obtain ⟨o2, A, S⟩ := R
  have e := T0 S
  rw [hr] at e
  have : out = o2 := by unfold rdO at e; cases e; rfl
  subst this
  exact ⟨out, acc_next A (Sub.refl _), S_put S⟩
theorem RS.upd {h0 h : Q2} {rb r : Nat} {s : List UInt8} {a en : Nat} {T : List HTok} (R : RS h0 rb s a en T h) (hr : h r = none) (o : Option AObj) : RS h0 rb s a en T (upd h r o) := by
  obtain ⟨out, A, S⟩ := R
  obtain ⟨n1, n2⟩ := none_off S hr
  exact ⟨out, acc_new A hr o, T9 S n1 n2⟩
theorem RS.off {h0 h : Q2} {rb r : Nat} {s : List UInt8} {a en : Nat} {T : List HTok} (R : RS h0 rb s a en T h) (hr : h r = none) : h0 r = none /\ r ≠ rb := by
  obtain ⟨out, A, S⟩ := R; exact none_off S hr
def RawC (G : JU) (s : List UInt8) : Prop := ∀ (a : Nat) (q : HTok × Bool × Nat), a < s.length -> Y1 s a ≠ 0 -> X5 s a = some q -> 0 < X2 q.1.name -> EqF G
def c13 : SFun := ⟨.seq (.reg [o 2 (.mv (.c (.prim (Value.pointer none))))]) (.seq (.reg [o 8 (.mv (.t 0)), o 9 (.bld [.str [], .int .i64 0, .int .i64 0, .emp] [(0, (1, (.t 8)))]), o 10 (.box 38 4 (.t 9)), o 3 (.mv (.t 10))]) (.seq (.seq (.reg [o 11 (.mv (.t 3)), o 12 (.call (.c (.fn 31 [] [])) [.t 11])]) (.block 0 (.loop (.seq (.seq (.reg [o 13 (.mv (.t 3)), o 14 (.fldA 0 (.t 13)), o 15 (.fldA 1 (.t 14)), o 16 (.ld 1 false (.t 15)), o 17 (.mv (.t 0)), o 18 (.lenS (.t 17)), o 19 (.bin .lss (.t 16) (.t 18))]) (.cond (.t 19) .skip (.exit 0))) (.seq (.block 1 (.seq (.reg [o 22 (.mv (.t 3)), o 23 (.fldA 0 (.t 22)), o 24 (.fldA 1 (.t 23)), o 25 (.ld 1 false (.t 24)), o 4 (.mv (.t 25))]) (.seq (.reg [o 26 (.mv (.t 3)), o 27 (.mv (.t 4)), o 28 (.call (.c (.fn 32 [] [])) [.t 26, .t 27]), o 5 (.mv (.t 28))]) (.seq (.reg [o 30 (.mv (.t 3)), o 31 (.mv (.t 5)), o 32 (.call (.c (.fn 33 [] [])) [.t 30, .t 31]), o 29 (.mv (.t 32)), o 33 (.ext (.t 29) 0), o 34 (.ext (.t 29) 1), o 6 (.new 43 7 [.int .i64 0, .str [], .emp, .str [], .bool false, .int .i64 0, .int .i64 0]), ⟨none, .st 7 (.t 6) (.t 33), none⟩, o 7 (.mv (.t 34))]) (.seq (.seq (.reg [o 35 (.mv (.t 7)), o 36 (.un .not (.t 35)), o 37 (.mv (.t 36)), ⟨some 38, .fldA 0 (.t 6), some (37, true)⟩, ⟨some 39, .ld 1 false (.t 38), some (37, true)⟩, ⟨some 40, .bin .eql (.t 39) (.c (.int .i64 1)), some (37, true)⟩, ⟨some 41, .mv (.t 40), some (37, true)⟩, ⟨some 42, .fldA 0 (.t 6), some (41, false)⟩, ⟨some 43, .ld 1 false (.t 42), some (41, false)⟩, ⟨some 44, .bin .eql (.t 43) (.c (.int .i64 2)), some (41, false)⟩, ⟨some 45, .pick (.t 41) (.c (.bool true)) (.t 44), some (37, true)⟩, o 46 (.pick (.t 37) (.t 45) (.c (.bool false)))]) (.cond (.t 46) (.exit 0) .skip)) (.seq (.seq (.reg [o 47 (.fldA 0 (.t 6)), o 48 (.ld 1 false (.t 47)), o 49 (.bin .neq (.t 48) (.c (.int .i64 0)))]) (.cond (.t 49) (.seq (.reg [o 50 (.mv (.t 3)), o 51 (.ld 7 true (.t 6)), o 52 (.mv (.t 4)), o 53 (.call (.c (.fn 34 [] [])) [.t 50, .t 51, .t 52])]) (.seq (.reg [o 54 (.mv (.t 7))]) (.cond (.t 54) (.reg [o 55 (.mv (.t 3)), o 56 (.mv (.t 3)), o 57 (.fldA 0 (.t 56)), o 58 (.fldA 1 (.t 57)), o 59 (.ld 1 false (.t 58)), o 60 (.fldA 0 (.t 55)), o 61 (.fldA 2 (.t 60)), ⟨none, .st 1 (.t 61) (.t 59), none⟩]) .skip))) .skip)) (.seq (.reg [o 62 (.fldA 0 (.t 6)), o 63 (.ld 1 false (.t 62)), o 64 (.bin .eql (.t 63) (.c (.int .i64 1))), o 65 (.mv (.t 64)), ⟨some 66, .fldA 1 (.t 6), some (65, true)⟩, ⟨some 67, .ld 1 false (.t 66), some (65, true)⟩, ⟨some 68, .pcall 35 [.t 67], some (65, true)⟩, ⟨some 69, .bin .gtr (.t 68) (.c (.int .i64 0)), some (65, true)⟩, o 70 (.pick (.t 65) (.t 69) (.c (.bool false)))]) (.cond (.t 70) (.reg [o 71 (.mv (.t 3)), o 72 (.fldA 1 (.t 6)), o 73 (.ld 1 false (.t 72)), o 74 (.call (.c (.fn 36 [] [])) [.t 71, .t 73])]) .skip)))))))) (.reg [o 20 (.mv (.t 3)), o 21 (.call (.c (.fn 31 [] [])) [.t 20])])))))) (.seq (.reg [o 75 (.mv (.t 3)), o 2 (.mv (.t 75))]) .ret))), [.tmp 2]⟩
theorem hc13 : Y5 Tryz.prog {pure := [35], how := [(10, 6)]} Tryz.f13 = some c13 := by kernel_rfl
theorem tokRead_ok (hG : U8 G) {s : List UInt8} (hs : s.length <= 4000) (hD : DeclC G s) (hE : RawC G s) (h : Q2) :
    DCalls (Pg G) 13 [.str s] h fun r h' => ∃ rb a, r = .vp rb 0 /\ h rb = none /\ RS h rb s a (T7 s).2 (T7 s).1 h' := by
  refine Q1 Tryz.func13 (by kernel_rfl) hc13 (by rw [Tryz.ntmps13]; simp) (by rw [Tryz.ntmps13]; decide) ?_
  simp -dsimp -implicitDefEqProofs (disch := omega) only [VCA, Nat.reduceAdd, Nat.reduceLeDiff, ↓reduceIte, reduceCtorEq, X7, Y6, c13]
  intro rb hrb
  have R0 : RS h rb s 0 0 [] (upd h rb (some (rdO s 0 0 .emp))) := ⟨.emp, .nil, Sub.refl _⟩
  have CT := fun {h' : Q2} {a en : Nat} {T : List HTok} (R : RS h rb s a en T h') (ha : a <= s.length) (hT : T.length <= 4000000) => tokText_ok (G := G) R ha (by omega) hT
  refine DCalls.of (CT R0 (by omega) (by simp)) ?_
  rintro _ h1 R1
  repeat' (first | ((with_reducible refine brC (fun _ => ?_) fun _ => ?_) <;> try (exfalso; omega)) | (with_reducible refine And.intro ?_ ?_; · omega) | simp -dsimp -implicitDefEqProofs (disch := omega) only [VCA])
  have l0 := XX (s := s) (nm := []) (a := 0) (by omega)
  refine LoopVC.intro (fun m e h' => ∃ (a en : Nat) (T : List HTok) (f : Nat), a <= s.length /\ m = s.length - a /\ e 0 = .str s /\ e 3 = .vp rb 0 /\ RS h rb s a en T h' /\ T.length <= 2 * a + 1 /\ (a < s.length -> Y1 s a ≠ 0) /\ s.length < f + a /\ V5 s f a T en = T7 s) (s.length - Z8 s 0 [])
    (by exact ⟨Z8 s 0 [], 0, Y7 s 0 [], s.length + 1, l0.2, by omega, rfl, rfl, by simpa using R1, by have := TU s [] 0; omega, UV (by omega), by omega, rfl⟩) ?_
  rintro m e h' ⟨a, en, T, f, ha, rfl, e0, e3, R, hT, hk, hf, hrd⟩
  obtain ⟨f, rfl⟩ : ∃ g, f = g + 1 := ⟨f - 1, by omega⟩
  obtain ⟨out, hr⟩ := R.none_rb
  have hr' := hr
  unfold rdO at hr'
  rw [V5] at hrd
  by_cases hlt : a < s.length
  · rw [if_pos hlt] at hrd
    have cM := tokMark_ok (G := G) hr hlt (by omega)
    have cN := tokNext_ok (G := G) hG hr hD (hk hlt) hlt (by omega)
    obtain ⟨k, hkk⟩ : ∃ k, Y1 s a = k := ⟨_, rfl⟩
    rw [hkk] at cM cN
    repeat' (first | ((with_reducible refine brC (fun _ => ?_) fun _ => ?_) <;> try (exfalso; omega)) | ((refine DCalls.of cM ?_; rintro _ _ ⟨rfl, rfl⟩)) | ((refine DCalls.of cN ?_; rintro _ h2 ⟨b, S2, hb, hN⟩)) | (with_reducible refine And.intro ?_ ?_; · omega) | simp -dsimp -implicitDefEqProofs (disch := omega) only [↓Q0 37, VCA, Nat.reduceEqDiff, Nat.reduceAdd, Nat.reduceLT, Nat.reduceLeDiff, ↓reduceIte, reduceCtorEq, Z3, ne_eq, exists_eq_left', e0, e3, hr'])
    cases hq : X5 s a with
    | none =>
      rw [hq] at hN hrd
      obtain ⟨t, ht, rfl⟩ := hN
      obtain ⟨kd, nm, at', tx, sf, fr, ti⟩ := t
      have Rn : RS h rb s b en T h2 := R.next fun o ho => by rw [hr] at ho; cases ho; exact S2
      unfold J6
      rcases ht with rfl | rfl
      · repeat' (first | ((with_reducible refine brC (fun _ => ?_) fun _ => ?_) <;> try (exfalso; omega)) | (with_reducible refine And.intro ?_ ?_; · omega) | simp -dsimp -implicitDefEqProofs (disch := omega) only [↓Q0 41, VCA, Nat.reduceEqDiff, Nat.reduceAdd, Nat.reduceLT, Nat.reduceLeDiff, ↓reduceIte, exists_eq_left'])
        intro r6 hr6
        repeat' (first | ((with_reducible refine brC (fun _ => ?_) fun _ => ?_) <;> try (exfalso; omega)) | (with_reducible refine And.intro ?_ ?_; · omega) | simp -dsimp -implicitDefEqProofs (disch := omega) only [VCA, Nat.reduceEqDiff, ↓reduceIte, reduceCtorEq, e3])
        exact ⟨_, Sub.refl _, rb, b, rfl, hrb, by rw [<- hrd]; exact Rn.upd hr6 _⟩
      · repeat' (first | ((with_reducible refine brC (fun _ => ?_) fun _ => ?_) <;> try (exfalso; omega)) | (with_reducible refine And.intro ?_ ?_; · omega) | simp -dsimp -implicitDefEqProofs (disch := omega) only [↓Q0 41, VCA, Nat.reduceEqDiff, Nat.reduceAdd, Nat.reduceLT, Nat.reduceLeDiff, ↓reduceIte, exists_eq_left'])
        intro r6 hr6
        repeat' (first | ((with_reducible refine brC (fun _ => ?_) fun _ => ?_) <;> try (exfalso; omega)) | (with_reducible refine And.intro ?_ ?_; · omega) | simp -dsimp -implicitDefEqProofs (disch := omega) only [VCA, Nat.reduceEqDiff, Nat.reduceAdd, Nat.reduceLT, Nat.reduceLeDiff, ↓reduceIte, reduceCtorEq, exists_eq_left', e3])
        exact ⟨_, Sub.refl _, rb, b, rfl, hrb, by rw [<- hrd]; exact Rn.upd hr6 _⟩
    | some q =>
      rw [hq] at hN hrd
      obtain ⟨⟨kd, nm, at', tx, sf, fr, ti⟩, e2, b2⟩ := q
      obtain ⟨hN1, hb2⟩ := hN
      have hN1 : _ = AVal.tup [.agg [Q3 kd, .str nm, sl Z6 at', .str tx, .bool sf, Q3 fr, Q3 ti], .bool e2] := hN1
      have hb2 : b = b2 := hb2
      subst hN1 hb2
      have hmk := mark_is (hkk ▸ hk hlt) hq
      have hRw : 0 < X2 nm -> EqF G := hE a _ hlt (hkk ▸ hk hlt) hq
      have hab : a < b := hmk.1
      have hmk2 : kd = 0 /\ e2 = true \/ kd = 1 /\ e2 = true \/ kd = 2 /\ e2 = true \/ kd = 4 \/ kd = 5 := hmk.2
      clear hmk
      have Rn : RS h rb s b en T h2 := R.next fun o ho => by rw [hr] at ho; cases ho; exact S2
      have hrd : V5 s f (Z8 s b (W7 ⟨kd, nm, at', tx, sf, fr, ti⟩)) (T ++ (putT ⟨kd, nm, at', tx, sf, fr, ti⟩ a b ++ Y7 s b (W7 ⟨kd, nm, at', tx, sf, fr, ti⟩))) (if e2 = true /\ kd ≠ 0 then b else en) = T7 s := hrd
      obtain ⟨RW, hRW⟩ : ∃ w, W7 ⟨kd, nm, at', tx, sf, fr, ti⟩ = w := ⟨_, rfl⟩
      obtain ⟨PT, hPT⟩ : ∃ w, putT ⟨kd, nm, at', tx, sf, fr, ti⟩ a b = w := ⟨_, rfl⟩
      rw [hRW, hPT] at hrd
      have hx := XX (nm := RW) hb
      have l1 := TU s RW b
      have kx : Z8 s b RW < s.length -> ¬ Y1 s (Z8 s b RW) = 0 := UV hb
      have CP := fun {h0 h' : Q2} (R : RS h0 rb s b en T h') => tokPut_ok (G := G) (t := ⟨kd, nm, at', tx, sf, fr, ti⟩) a R (by omega)
      have CP : ∀ {h0 h' : Q2}, RS h0 rb s b en T h' -> DCalls (Pg G) 34 [.vp rb 0, .agg [Q3 kd, .str nm, sl Z6 at', .str tx, .bool sf, Q3 fr, Q3 ti], .int .i64 a] h' fun _ h' => RS h0 rb s b en (T ++ [⟨kd, nm, at', tx, sf, a, b⟩]) h' := CP
      rcases hmk2 with ⟨rfl, rfl⟩ | ⟨rfl, rfl⟩ | ⟨rfl, rfl⟩ | rfl | rfl
      · subst hRW hPT
        repeat' (first | ((with_reducible refine brC (fun _ => ?_) fun _ => ?_) <;> try (exfalso; omega)) | (with_reducible refine And.intro ?_ ?_; · omega) | simp -dsimp -implicitDefEqProofs (disch := omega) only [↓Q0 41, VCA, Nat.reduceEqDiff, Nat.reduceAdd, Nat.reduceLT, Nat.reduceLeDiff, ↓reduceIte, exists_eq_left'])
        intro r6 hr6
        have Rq := Rn.upd hr6
        repeat' (first | ((with_reducible refine brC (fun _ => ?_) fun _ => ?_) <;> try (exfalso; omega)) | ((refine DCalls.of (CT (Rq _) hb (by omega)) ?_; rintro _ h3 R3)) | (with_reducible refine And.intro ?_ ?_; · omega) | simp -dsimp -implicitDefEqProofs (disch := omega) only [↓Q0 65, VCA, Nat.reduceEqDiff, Nat.reduceAdd, Nat.reduceLT, Nat.reduceLeDiff, ↓reduceIte, reduceCtorEq, exists_eq_left', e0, e3])
        refine ⟨_, ?_, _, en, _, f, hx.2, rfl, R3, ?_, kx, ?_, ?_⟩
        · have := hx.1; omega
        · rw [List.length_append]; have := hx.1; have := TU s [] b; omega
        · have := hx.1; omega
        · rw [<- hrd]; rfl
      · have hPT : [⟨1, nm, at', tx, sf, a, b⟩] = PT := by rw [<- hPT]; rfl
        subst hPT
        have cR := tokRaw_ok (G := G) nm
        by_cases hw : 0 < X2 nm
        · have eR : W7 ⟨1, nm, at', tx, sf, fr, ti⟩ = nm := if_pos ⟨rfl, hw⟩
          obtain rfl : nm = RW := by rw [<- hRW, eR]
          have cRw := fun {h0 h' : Q2} {T : List HTok} (R : RS h0 rb s b b T h') (hT : T.length <= 4000000) => tokRawText_ok (G := G) (nm := nm) (hRw hw) R hb (by omega) hT hw
          have hag := textEnd_again (nm := nm) hb
          repeat' (first | ((with_reducible refine brC (fun _ => ?_) fun _ => ?_) <;> try (exfalso; omega)) | (with_reducible refine And.intro ?_ ?_; · omega) | simp -dsimp -implicitDefEqProofs (disch := omega) only [↓Q0 41, VCA, Nat.reduceEqDiff, Nat.reduceAdd, Nat.reduceLT, Nat.reduceLeDiff, ↓reduceIte, exists_eq_left'])
          intro r6 hr6
          have Rq := Rn.add hr6
          obtain ⟨n61, n62⟩ := Rn.off hr6
          repeat' (first | ((with_reducible refine brC (fun _ => ?_) fun _ => ?_) <;> try (exfalso; omega)) | ((refine DCalls.of (CP (Rq _)) ?_; rintro _ h3 R3)) | (with_reducible refine And.intro ?_ ?_; · omega) | simp -dsimp -implicitDefEqProofs (disch := omega) only [↓Q0 65, VCA, Nat.reduceEqDiff, Nat.reduceAdd, Nat.reduceLT, ↓reduceIte, Z3, exists_eq_left', e3])
          obtain ⟨out3, g3⟩ := R3.none_rb
          have z6 := R3.keep n62
          have R4 := R3.setEn g3 b
          unfold rdO at g3
          have m1 : ¬ rb = r6 := fun q => n62 q.symm
          have z6' : upd h3 rb (some (rdO s b b out3)) r6 = _ := (Q9 _ _ n62).trans z6
          repeat' (first | ((with_reducible refine brC (fun _ => ?_) fun _ => ?_) <;> try (exfalso; omega)) | (with_reducible apply pcallE.of; · exact cR) | ((refine DCalls.of (cRw R4 (by simp only [List.length_append, List.length_cons, List.length_nil]; omega)) ?_; rintro _ h5 R5)) | ((refine DCalls.of (CT (R5.base n61 n62) hx.2 (by simp only [List.length_append, List.length_cons, List.length_nil]; omega)) ?_; rintro _ h6 R6)) | (with_reducible refine And.intro ?_ ?_; · omega) | simp -dsimp -implicitDefEqProofs (disch := omega) only [VCA, Nat.reduceEqDiff, Nat.reduceAdd, Nat.reduceLT, Nat.reduceLeDiff, ↓reduceIte, reduceCtorEq, exists_eq_left', e0, e3, g3, z6, n62])
          rw [hag.1, hag.2, List.append_nil] at R6
          refine ⟨_, ?_, _, b, _, f, hx.2, rfl, R6, ?_, kx, ?_, ?_⟩
          · have := hx.1; omega
          · simp only [List.length_append, List.length_cons, List.length_nil]; have := hx.1; omega
          · have := hx.1; omega
          · rw [if_pos ⟨rfl, by decide⟩, <- List.append_assoc] at hrd; exact hrd
        · obtain rfl : [] = RW := by rw [<- hRW]; exact (if_neg (by rintro ⟨q1, q2⟩; exact hw q2)).symm
          repeat' (first | ((with_reducible refine brC (fun _ => ?_) fun _ => ?_) <;> try (exfalso; omega)) | (with_reducible refine And.intro ?_ ?_; · omega) | simp -dsimp -implicitDefEqProofs (disch := omega) only [↓Q0 41, VCA, Nat.reduceEqDiff, Nat.reduceAdd, Nat.reduceLT, Nat.reduceLeDiff, ↓reduceIte, exists_eq_left'])
          intro r6 hr6
          have Rq := Rn.add hr6
          obtain ⟨n61, n62⟩ := Rn.off hr6
          repeat' (first | ((with_reducible refine brC (fun _ => ?_) fun _ => ?_) <;> try (exfalso; omega)) | ((refine DCalls.of (CP (Rq _)) ?_; rintro _ h3 R3)) | (with_reducible refine And.intro ?_ ?_; · omega) | simp -dsimp -implicitDefEqProofs (disch := omega) only [↓Q0 65, VCA, Nat.reduceEqDiff, Nat.reduceAdd, Nat.reduceLT, ↓reduceIte, Z3, exists_eq_left', e3])
          obtain ⟨out3, g3⟩ := R3.none_rb
          have z6 := R3.keep n62
          have m1 : ¬ rb = r6 := fun q => n62 q.symm
          have R4 := R3.setEn g3 b
          unfold rdO at g3
          have z6' : upd h3 rb (some (rdO s b b out3)) r6 = _ := (Q9 _ _ n62).trans z6
          repeat' (first | ((with_reducible refine brC (fun _ => ?_) fun _ => ?_) <;> try (exfalso; omega)) | (with_reducible apply pcallE.of; · exact cR) | ((refine DCalls.of (CT (R4.base n61 n62) hb (by simp only [List.length_append, List.length_cons, List.length_nil]; omega)) ?_; rintro _ h6 R6)) | (with_reducible refine And.intro ?_ ?_; · omega) | simp -dsimp -implicitDefEqProofs (disch := omega) only [VCA, Nat.reduceEqDiff, Nat.reduceAdd, Nat.reduceLT, Nat.reduceLeDiff, ↓reduceIte, reduceCtorEq, exists_eq_left', e0, e3, g3, z6, n62])
          refine ⟨_, ?_, _, b, _, f, hx.2, rfl, R6, ?_, kx, ?_, ?_⟩
          · have := hx.1; omega
          · simp only [List.length_append, List.length_cons, List.length_nil]; have := hx.1; omega
          · have := hx.1; omega
          · rw [if_pos ⟨rfl, by decide⟩, <- List.append_assoc] at hrd; exact hrd
      · obtain rfl : [] = RW := by rw [<- hRW]; exact (if_neg (by rintro ⟨q1, q2⟩; have q1 : (2 : Int) = 1 := q1; omega)).symm
        have hPT : [⟨2, nm, at', tx, sf, a, b⟩] = PT := by rw [<- hPT]; rfl
        subst hPT
        repeat' (first | ((with_reducible refine brC (fun _ => ?_) fun _ => ?_) <;> try (exfalso; omega)) | (with_reducible refine And.intro ?_ ?_; · omega) | simp -dsimp -implicitDefEqProofs (disch := omega) only [↓Q0 41, VCA, Nat.reduceEqDiff, Nat.reduceAdd, Nat.reduceLT, Nat.reduceLeDiff, ↓reduceIte, exists_eq_left'])
        intro r6 hr6
        have Rq := Rn.add hr6
        obtain ⟨n61, n62⟩ := Rn.off hr6
        repeat' (first | ((with_reducible refine brC (fun _ => ?_) fun _ => ?_) <;> try (exfalso; omega)) | ((refine DCalls.of (CP (Rq _)) ?_; rintro _ h3 R3)) | (with_reducible refine And.intro ?_ ?_; · omega) | simp -dsimp -implicitDefEqProofs (disch := omega) only [↓Q0 65, VCA, Nat.reduceEqDiff, Nat.reduceAdd, Nat.reduceLT, ↓reduceIte, Z3, exists_eq_left', e3])
        obtain ⟨out3, g3⟩ := R3.none_rb
        have z6 := R3.keep n62
        have m1 : ¬ rb = r6 := fun q => n62 q.symm
        have R4 := R3.setEn g3 b
        unfold rdO at g3
        have z6' : upd h3 rb (some (rdO s b b out3)) r6 = _ := (Q9 _ _ n62).trans z6
        repeat' (first | ((with_reducible refine brC (fun _ => ?_) fun _ => ?_) <;> try (exfalso; omega)) | ((refine DCalls.of (CT (R4.base n61 n62) hb (by simp only [List.length_append, List.length_cons, List.length_nil]; omega)) ?_; rintro _ h6 R6)) | (with_reducible refine And.intro ?_ ?_; · omega) | simp -dsimp -implicitDefEqProofs (disch := omega) only [VCA, Nat.reduceEqDiff, Nat.reduceAdd, Nat.reduceLT, Nat.reduceLeDiff, ↓reduceIte, reduceCtorEq, exists_eq_left', e0, e3, g3, z6, n62])
        refine ⟨_, ?_, _, b, _, f, hx.2, rfl, R6, ?_, kx, ?_, ?_⟩
        · have := hx.1; omega
        · simp only [List.length_append, List.length_cons, List.length_nil]; have := hx.1; omega
        · have := hx.1; omega
        · rw [if_pos ⟨rfl, by decide⟩, <- List.append_assoc] at hrd; exact hrd
      · cases e2 with
        | true =>
          obtain rfl : [] = RW := by rw [<- hRW]; exact (if_neg (by rintro ⟨q1, q2⟩; have q1 : (4 : Int) = 1 := q1; omega)).symm
          have hPT : [⟨4, nm, at', tx, sf, a, b⟩] = PT := by rw [<- hPT]; rfl
          subst hPT
          repeat' (first | ((with_reducible refine brC (fun _ => ?_) fun _ => ?_) <;> try (exfalso; omega)) | (with_reducible refine And.intro ?_ ?_; · omega) | simp -dsimp -implicitDefEqProofs (disch := omega) only [↓Q0 41, VCA, Nat.reduceEqDiff, Nat.reduceAdd, Nat.reduceLT, Nat.reduceLeDiff, ↓reduceIte, exists_eq_left'])
          intro r6 hr6
          have Rq := Rn.add hr6
          obtain ⟨n61, n62⟩ := Rn.off hr6
          repeat' (first | ((with_reducible refine brC (fun _ => ?_) fun _ => ?_) <;> try (exfalso; omega)) | ((refine DCalls.of (CP (Rq _)) ?_; rintro _ h3 R3)) | (with_reducible refine And.intro ?_ ?_; · omega) | simp -dsimp -implicitDefEqProofs (disch := omega) only [↓Q0 65, VCA, Nat.reduceEqDiff, Nat.reduceAdd, Nat.reduceLT, ↓reduceIte, Z3, exists_eq_left', e3])
          obtain ⟨out3, g3⟩ := R3.none_rb
          have z6 := R3.keep n62
          have m1 : ¬ rb = r6 := fun q => n62 q.symm
          have R4 := R3.setEn g3 b
          unfold rdO at g3
          have z6' : upd h3 rb (some (rdO s b b out3)) r6 = _ := (Q9 _ _ n62).trans z6
          repeat' (first | ((with_reducible refine brC (fun _ => ?_) fun _ => ?_) <;> try (exfalso; omega)) | ((refine DCalls.of (CT (R4.base n61 n62) hb (by simp only [List.length_append, List.length_cons, List.length_nil]; omega)) ?_; rintro _ h6 R6)) | (with_reducible refine And.intro ?_ ?_; · omega) | simp -dsimp -implicitDefEqProofs (disch := omega) only [VCA, Nat.reduceEqDiff, Nat.reduceAdd, Nat.reduceLT, Nat.reduceLeDiff, ↓reduceIte, reduceCtorEq, exists_eq_left', e0, e3, g3, z6, n62])
          refine ⟨_, ?_, _, b, _, f, hx.2, rfl, R6, ?_, kx, ?_, ?_⟩
          · have := hx.1; omega
          · simp only [List.length_append, List.length_cons, List.length_nil]; have := hx.1; omega
          · have := hx.1; omega
          · rw [if_pos ⟨rfl, by decide⟩, <- List.append_assoc] at hrd; exact hrd
        | false =>
          obtain rfl : [] = RW := by rw [<- hRW]; exact (if_neg (by rintro ⟨q1, q2⟩; have q1 : (4 : Int) = 1 := q1; omega)).symm
          have hPT : [⟨4, nm, at', tx, sf, a, b⟩] = PT := by rw [<- hPT]; rfl
          subst hPT
          repeat' (first | ((with_reducible refine brC (fun _ => ?_) fun _ => ?_) <;> try (exfalso; omega)) | (with_reducible refine And.intro ?_ ?_; · omega) | simp -dsimp -implicitDefEqProofs (disch := omega) only [↓Q0 41, VCA, Nat.reduceEqDiff, Nat.reduceAdd, Nat.reduceLT, Nat.reduceLeDiff, ↓reduceIte, exists_eq_left'])
          intro r6 hr6
          have Rq := Rn.add hr6
          obtain ⟨n61, n62⟩ := Rn.off hr6
          repeat' (first | ((with_reducible refine brC (fun _ => ?_) fun _ => ?_) <;> try (exfalso; omega)) | ((refine DCalls.of (CP (Rq _)) ?_; rintro _ h3 R3)) | (with_reducible refine And.intro ?_ ?_; · omega) | simp -dsimp -implicitDefEqProofs (disch := omega) only [↓Q0 65, VCA, Nat.reduceEqDiff, Nat.reduceAdd, Nat.reduceLT, Nat.reduceLeDiff, ↓reduceIte, exists_eq_left', e3])
          obtain ⟨out3, g3⟩ := R3.none_rb
          have z6 := R3.keep n62
          have m1 : ¬ rb = r6 := fun q => n62 q.symm
          have R4 := R3
          unfold rdO at g3
          repeat' (first | ((with_reducible refine brC (fun _ => ?_) fun _ => ?_) <;> try (exfalso; omega)) | ((refine DCalls.of (CT (R4.base n61 n62) hb (by simp only [List.length_append, List.length_cons, List.length_nil]; omega)) ?_; rintro _ h6 R6)) | (with_reducible refine And.intro ?_ ?_; · omega) | simp -dsimp -implicitDefEqProofs (disch := omega) only [VCA, Nat.reduceEqDiff, Nat.reduceAdd, Nat.reduceLT, Nat.reduceLeDiff, ↓reduceIte, reduceCtorEq, exists_eq_left', e0, e3, z6])
          refine ⟨_, ?_, _, en, _, f, hx.2, rfl, R6, ?_, kx, ?_, ?_⟩
          · have := hx.1; omega
          · simp only [List.length_append, List.length_cons, List.length_nil]; have := hx.1; omega
          · have := hx.1; omega
          · rw [if_neg (by simp), <- List.append_assoc] at hrd; exact hrd
      · cases e2 with
        | true =>
          obtain rfl : [] = RW := by rw [<- hRW]; exact (if_neg (by rintro ⟨q1, q2⟩; have q1 : (5 : Int) = 1 := q1; omega)).symm
          have hPT : [⟨5, nm, at', tx, sf, a, b⟩] = PT := by rw [<- hPT]; rfl
          subst hPT
          repeat' (first | ((with_reducible refine brC (fun _ => ?_) fun _ => ?_) <;> try (exfalso; omega)) | (with_reducible refine And.intro ?_ ?_; · omega) | simp -dsimp -implicitDefEqProofs (disch := omega) only [↓Q0 41, VCA, Nat.reduceEqDiff, Nat.reduceAdd, Nat.reduceLT, Nat.reduceLeDiff, ↓reduceIte, exists_eq_left'])
          intro r6 hr6
          have Rq := Rn.add hr6
          obtain ⟨n61, n62⟩ := Rn.off hr6
          repeat' (first | ((with_reducible refine brC (fun _ => ?_) fun _ => ?_) <;> try (exfalso; omega)) | ((refine DCalls.of (CP (Rq _)) ?_; rintro _ h3 R3)) | (with_reducible refine And.intro ?_ ?_; · omega) | simp -dsimp -implicitDefEqProofs (disch := omega) only [↓Q0 65, VCA, Nat.reduceEqDiff, Nat.reduceAdd, Nat.reduceLT, ↓reduceIte, Z3, exists_eq_left', e3])
          obtain ⟨out3, g3⟩ := R3.none_rb
          have z6 := R3.keep n62
          have m1 : ¬ rb = r6 := fun q => n62 q.symm
          have R4 := R3.setEn g3 b
          unfold rdO at g3
          have z6' : upd h3 rb (some (rdO s b b out3)) r6 = _ := (Q9 _ _ n62).trans z6
          repeat' (first | ((with_reducible refine brC (fun _ => ?_) fun _ => ?_) <;> try (exfalso; omega)) | ((refine DCalls.of (CT (R4.base n61 n62) hb (by simp only [List.length_append, List.length_cons, List.length_nil]; omega)) ?_; rintro _ h6 R6)) | (with_reducible refine And.intro ?_ ?_; · omega) | simp -dsimp -implicitDefEqProofs (disch := omega) only [VCA, Nat.reduceEqDiff, Nat.reduceAdd, Nat.reduceLT, Nat.reduceLeDiff, ↓reduceIte, reduceCtorEq, exists_eq_left', e0, e3, g3, z6, n62])
          refine ⟨_, ?_, _, b, _, f, hx.2, rfl, R6, ?_, kx, ?_, ?_⟩
          · have := hx.1; omega
          · simp only [List.length_append, List.length_cons, List.length_nil]; have := hx.1; omega
          · have := hx.1; omega
          · rw [if_pos ⟨rfl, by decide⟩, <- List.append_assoc] at hrd; exact hrd
        | false =>
          obtain rfl : [] = RW := by rw [<- hRW]; exact (if_neg (by rintro ⟨q1, q2⟩; have q1 : (5 : Int) = 1 := q1; omega)).symm
          have hPT : [⟨5, nm, at', tx, sf, a, b⟩] = PT := by rw [<- hPT]; rfl
          subst hPT
          repeat' (first | ((with_reducible refine brC (fun _ => ?_) fun _ => ?_) <;> try (exfalso; omega)) | (with_reducible refine And.intro ?_ ?_; · omega) | simp -dsimp -implicitDefEqProofs (disch := omega) only [↓Q0 41, VCA, Nat.reduceEqDiff, Nat.reduceAdd, Nat.reduceLT, Nat.reduceLeDiff, ↓reduceIte, exists_eq_left'])
          intro r6 hr6
          have Rq := Rn.add hr6
          obtain ⟨n61, n62⟩ := Rn.off hr6
          repeat' (first | ((with_reducible refine brC (fun _ => ?_) fun _ => ?_) <;> try (exfalso; omega)) | ((refine DCalls.of (CP (Rq _)) ?_; rintro _ h3 R3)) | (with_reducible refine And.intro ?_ ?_; · omega) | simp -dsimp -implicitDefEqProofs (disch := omega) only [↓Q0 65, VCA, Nat.reduceEqDiff, Nat.reduceAdd, Nat.reduceLT, Nat.reduceLeDiff, ↓reduceIte, exists_eq_left', e3])
          obtain ⟨out3, g3⟩ := R3.none_rb
          have z6 := R3.keep n62
          have m1 : ¬ rb = r6 := fun q => n62 q.symm
          have R4 := R3
          unfold rdO at g3
          repeat' (first | ((with_reducible refine brC (fun _ => ?_) fun _ => ?_) <;> try (exfalso; omega)) | ((refine DCalls.of (CT (R4.base n61 n62) hb (by simp only [List.length_append, List.length_cons, List.length_nil]; omega)) ?_; rintro _ h6 R6)) | (with_reducible refine And.intro ?_ ?_; · omega) | simp -dsimp -implicitDefEqProofs (disch := omega) only [VCA, Nat.reduceEqDiff, Nat.reduceAdd, Nat.reduceLT, Nat.reduceLeDiff, ↓reduceIte, reduceCtorEq, exists_eq_left', e0, e3, z6])
          refine ⟨_, ?_, _, en, _, f, hx.2, rfl, R6, ?_, kx, ?_, ?_⟩
          · have := hx.1; omega
          · simp only [List.length_append, List.length_cons, List.length_nil]; have := hx.1; omega
          · have := hx.1; omega
          · rw [if_neg (by simp), <- List.append_assoc] at hrd; exact hrd
  · rw [if_neg hlt] at hrd
    repeat' (first | ((with_reducible refine brC (fun _ => ?_) fun _ => ?_) <;> try (exfalso; omega)) | (with_reducible refine And.intro ?_ ?_; · omega) | simp -dsimp -implicitDefEqProofs (disch := omega) only [VCA, Nat.reduceEqDiff, Nat.reduceAdd, Nat.reduceLT, Nat.reduceLeDiff, ↓reduceIte, reduceCtorEq, ne_eq, exists_eq_left', e0, e3, hr'])
    exact ⟨_, Sub.refl _, rb, a, rfl, hrb, by rw [<- hrd]; exact R⟩
def c5 : SFun := ⟨.seq (.reg [o 2 (.mv (.c .emp)), o 3 (.mv (.c (.int .i64 0)))]) (.seq (.seq (.reg [o 4 (.mv (.t 0)), o 5 (.lenS (.t 4)), o 6 (.bin .gtr (.t 5) (.c (.int .i64 4000)))]) (.cond (.t 6) (.seq (.reg [o 2 (.mv (.c .emp)), o 3 (.mv (.c (.int .i64 2)))]) .ret) .skip)) (.seq (.reg [o 7 (.mv (.t 0)), o 8 (.call (.c (.fn 13 [] [])) [.t 7]), o 9 (.fldA 0 (.t 8)), o 10 (.fldA 3 (.t 9)), o 11 (.ld 1 false (.t 10)), o 2 (.mv (.t 11)), o 3 (.mv (.c (.int .i64 0)))]) .ret)), [.tmp 2, .tmp 3]⟩
theorem hc5 : Y5 Tryz.prog {} Tryz.f5 = some c5 := by kernel_rfl
theorem tokReadAll_ok (hG : U8 G) {s : List UInt8} (hs : s.length <= 4000) (hD : DeclC G s) (hE : RawC G s) : PCalls (Pg G) 5 [.str s] (.tup [sl J6 (T7 s).1, Q3 0]) := by
  refine PCalls.outV fun h => ?_
  refine Q1 Tryz.func5 (by kernel_rfl) hc5 (by rw [Tryz.ntmps5]; simp) (by rw [Tryz.ntmps5]; decide) ?_
  simp -dsimp -implicitDefEqProofs (disch := omega) only [VCA, ↓reduceIte, reduceCtorEq, c5]
  repeat' (first | ((with_reducible refine brC (fun _ => ?_) fun _ => ?_) <;> try (exfalso; omega)) | ((refine DCalls.of (tokRead_ok (G := G) hG hs hD hE h) ?_; rintro _ h1 ⟨rb, a, rfl, hrb, R⟩)) | (with_reducible refine And.intro ?_ ?_; · omega) | simp -dsimp -implicitDefEqProofs (disch := omega) only [VCA, Nat.reduceEqDiff, Nat.reduceAdd, ↓reduceIte, reduceCtorEq])
  obtain ⟨out, A, S⟩ := R
  have g := T0 S
  unfold rdO at g
  have iv := Acc.isv A
  have S0 : Sub h (upd h rb (some (rdO s a (T7 s).2 out))) := (Sub.refl h).upd hrb
  have A0 : Acc h Tt 7 ((T7 s).1.map J6) out h1 := A.re fun r o q0 q1 => ⟨S0.none q0, q1⟩
  repeat' (first | ((with_reducible refine brC (fun _ => ?_) fun _ => ?_) <;> try (exfalso; omega)) | (with_reducible refine And.intro ?_ ?_; · omega) | simp -dsimp -implicitDefEqProofs (disch := omega) only [VCA, Nat.reduceAdd, Nat.reduceLT, exists_eq_left', g])
  exact ⟨h1, Sub.refl _, fun r o hr => S r o (S0 r o hr), .tup' (.cons (A0.vw fun f hf => by obtain ⟨x, _, rfl⟩ := List.mem_map.1 hf; rfl) (.cons (.refl _) .nil))⟩
def lowB (b : UInt8) : UInt8 := if 65 <= b.toNat /\ b.toNat <= 90 then b + 32 else b
def nameC (b : UInt8) : Bool := (decide (97 <= b.toNat) && decide (b.toNat <= 122)) || ((decide (48 <= b.toNat) && decide (b.toNat <= 57)) || (b.toNat == 45 || (b.toNat == 95 || b.toNat == 58)))
theorem lowB_name (b : UInt8) : nmB b = if nameC (lowB b) = true then lowB b else 95 :=
  of_decide_eq_true (u8_all (p := fun b => decide (nmB b = if nameC (lowB b) = true then lowB b else 95)) (by decide +kernel) b)
theorem lowB_I (b : UInt8) : ((lowB b).toNat : Int) = ZW b.toNat :=
  of_decide_eq_true (u8_all (p := fun b => decide (((lowB b).toNat : Int) = ZW b.toNat)) (by decide +kernel) b)
def c37 : SFun := ⟨.seq (.reg [o 2 (.mv (.c (.int .u8 0)))]) (.seq (.seq (.reg [o 3 (.mv (.t 0)), o 4 (.bin .geq (.t 3) (.c (.int .u8 65))), o 5 (.mv (.t 4)), ⟨some 6, .mv (.t 0), some (5, true)⟩, ⟨some 7, .bin .leq (.t 6) (.c (.int .u8 90)), some (5, true)⟩, o 8 (.pick (.t 5) (.t 7) (.c (.bool false)))]) (.cond (.t 8) (.seq (.reg [o 9 (.mv (.t 0)), o 10 (.bin .sub (.t 9) (.c (.int .u8 65))), o 11 (.bin .add (.t 10) (.c (.int .u8 97))), o 2 (.mv (.t 11))]) .ret) .skip)) (.seq (.reg [o 12 (.mv (.t 0)), o 2 (.mv (.t 12))]) .ret)), [.tmp 2]⟩
theorem hc37 : Y5 Tryz.prog {} Tryz.f37 = some c37 := by kernel_rfl
theorem refLow_ok (b : UInt8) : PCalls (Pg G) 37 [.int .u8 b.toNat] (.int .u8 (lowB b).toNat) := fun h => by
  rw [lowB_I]
  unfold ZW
  have hb := b.toNat_lt
  refine Q1 Tryz.func37 (by kernel_rfl) hc37 (by rw [Tryz.ntmps37]; simp) (by rw [Tryz.ntmps37]; decide) ?_
  simp -dsimp -implicitDefEqProofs (disch := omega) only [↓Q0 5, VCA, ↓reduceIte, reduceCtorEq, c37]
  repeat' (first | ((with_reducible refine brC (fun _ => ?_) fun _ => ?_) <;> try (exfalso; omega)) | (with_reducible refine And.intro ?_ ?_; · omega) | simp -dsimp -implicitDefEqProofs (disch := omega) only [VCA, Nat.reduceEqDiff, ↓reduceIte, reduceCtorEq, exists_eq_right_right])
  all_goals first | (refine ⟨Sub.refl _, ?_⟩; (first | (rw [if_pos (by omega)]; (try simp only [IntKind.wrap_u8]); omega) | rw [if_neg (by omega)]); done) | trace_state
def c17 : SFun := ⟨.seq (.reg [o 2 (.mv (.c (.int .i64 0)))]) (.seq (.seq (.reg [o 3 (.mv (.t 0)), o 4 (.bin .eql (.t 3) (.c (.str [115, 99, 114, 105, 112, 116]))), o 5 (.mv (.t 4)), ⟨some 6, .mv (.t 0), some (5, false)⟩, ⟨some 7, .bin .eql (.t 6) (.c (.str [115, 116, 121, 108, 101])), some (5, false)⟩, o 8 (.pick (.t 5) (.c (.bool true)) (.t 7))]) (.cond (.t 8) (.seq (.reg [o 2 (.mv (.c (.int .i64 1)))]) .ret) .skip)) (.seq (.seq (.reg [o 9 (.mv (.t 0)), o 10 (.bin .eql (.t 9) (.c (.str [116, 101, 120, 116, 97, 114, 101, 97]))), o 11 (.mv (.t 10)), ⟨some 12, .mv (.t 0), some (11, false)⟩, ⟨some 13, .bin .eql (.t 12) (.c (.str [116, 105, 116, 108, 101])), some (11, false)⟩, o 14 (.pick (.t 11) (.c (.bool true)) (.t 13))]) (.cond (.t 14) (.seq (.reg [o 2 (.mv (.c (.int .i64 2)))]) .ret) .skip)) (.seq (.reg [o 2 (.mv (.c (.int .i64 0)))]) .ret))), [.tmp 2]⟩
theorem hc17 : Y5 Tryz.prog {} Tryz.f17 = some c17 := by kernel_rfl
theorem ZX (nm : List UInt8) : PCalls (Pg G) 17 [.str nm] (Q3 (X2 nm)) := fun h => by
  unfold X2
  refine Q1 Tryz.func17 (by kernel_rfl) hc17 (by rw [Tryz.ntmps17]; simp) (by rw [Tryz.ntmps17]; decide) ?_
  simp -dsimp -implicitDefEqProofs (disch := omega) only [↓Q0 5, VCA, ↓reduceIte, reduceCtorEq, c17]
  repeat' (first | ((with_reducible refine brC (fun _ => ?_) fun _ => ?_) <;> try (exfalso; omega)) | (with_reducible refine And.intro ?_ ?_; · omega) | simp -dsimp -implicitDefEqProofs (disch := omega) only [↓Q0 11, VCA, Nat.reduceEqDiff, ↓reduceIte, reduceCtorEq, exists_eq_right_right])
  all_goals first | (refine ⟨Sub.refl _, ?_⟩; simp_all; done) | (exact Sub.refl _) | trace_state
def c39 : SFun := ⟨.seq (.reg [o 2 (.mv (.c (.str [])))]) (.seq (.reg [o 3 (.mv (.c (.str [])))]) (.seq (.seq (.reg [o 4 (.mv (.c (.int .i64 0)))]) (.block 0 (.loop (.seq (.seq (.reg [o 6 (.mv (.t 4)), o 7 (.mv (.t 0)), o 8 (.lenS (.t 7)), o 9 (.bin .lss (.t 6) (.t 8)), o 10 (.mv (.t 9)), ⟨some 11, .mv (.t 4), some (10, true)⟩, ⟨some 12, .bin .lss (.t 11) (.c (.int .i64 40)), some (10, true)⟩, o 13 (.pick (.t 10) (.t 12) (.c (.bool false)))]) (.cond (.t 13) .skip (.exit 0))) (.seq (.block 1 (.seq (.reg [o 16 (.mv (.t 0)), o 17 (.mv (.t 4)), o 18 (.idxS (.t 16) (.t 17)), o 19 (.pcall 37 [.t 18]), o 5 (.mv (.t 19))]) (.seq (.reg [o 20 (.mv (.t 5)), o 21 (.bin .geq (.t 20) (.c (.int .u8 97))), o 22 (.mv (.t 21)), ⟨some 23, .mv (.t 5), some (22, true)⟩, ⟨some 24, .bin .leq (.t 23) (.c (.int .u8 122)), some (22, true)⟩, o 25 (.pick (.t 22) (.t 24) (.c (.bool false))), o 26 (.mv (.t 25)), ⟨some 27, .mv (.t 5), some (26, false)⟩, ⟨some 28, .bin .geq (.t 27) (.c (.int .u8 48)), some (26, false)⟩, ⟨some 29, .mv (.t 28), some (26, false)⟩, ⟨some 30, .mv (.t 5), some (29, true)⟩, ⟨some 31, .bin .leq (.t 30) (.c (.int .u8 57)), some (29, true)⟩, ⟨some 32, .pick (.t 29) (.t 31) (.c (.bool false)), some (26, false)⟩, o 33 (.pick (.t 26) (.c (.bool true)) (.t 32)), o 34 (.mv (.t 33)), ⟨some 35, .mv (.t 5), some (34, false)⟩, ⟨some 36, .bin .eql (.t 35) (.c (.int .u8 45)), some (34, false)⟩, o 37 (.pick (.t 34) (.c (.bool true)) (.t 36)), o 38 (.mv (.t 37)), ⟨some 39, .mv (.t 5), some (38, false)⟩, ⟨some 40, .bin .eql (.t 39) (.c (.int .u8 95)), some (38, false)⟩, o 41 (.pick (.t 38) (.c (.bool true)) (.t 40)), o 42 (.mv (.t 41)), ⟨some 43, .mv (.t 5), some (42, false)⟩, ⟨some 44, .bin .eql (.t 43) (.c (.int .u8 58)), some (42, false)⟩, o 45 (.pick (.t 42) (.c (.bool true)) (.t 44))]) (.cond (.t 45) (.reg [o 46 (.mv (.t 3)), o 47 (.mv (.t 5)), o 48 (.bldF 5 1 [.t 47]), o 49 (.b2s (.t 48)), o 50 (.bin .add (.t 46) (.t 49)), o 3 (.mv (.t 50))]) (.reg [o 51 (.mv (.t 3)), o 52 (.bin .add (.t 51) (.c (.str [95]))), o 3 (.mv (.t 52))]))))) (.reg [o 14 (.mv (.t 4)), o 15 (.bin .add (.t 14) (.c (.int .i64 1))), o 4 (.mv (.t 15))])))))) (.seq (.reg [o 53 (.mv (.t 3)), o 2 (.mv (.t 53))]) .ret))), [.tmp 2]⟩
theorem hc39 : Y5 Tryz.prog {pure := [37]} Tryz.f39 = some c39 := by kernel_rfl
theorem WK (s : List UInt8) (hs : s.length <= 1073741824) : PCalls (Pg G) 39 [.str s] (.str (K3 s)) := fun h => by
  refine Q1 Tryz.func39 (by kernel_rfl) hc39 (by rw [Tryz.ntmps39]; simp) (by rw [Tryz.ntmps39]; decide) ?_
  simp -dsimp -implicitDefEqProofs (disch := omega) only [VCA, c39]
  refine LoopVC.intro (fun m e h' => ∃ j : Nat, j <= s.length /\ j <= 40 /\ m = 40 - j /\ e 0 = .str s /\ e 3 = .str ((s.take j).map nmB) /\ e 4 = Q3 j /\ h' = h) 40
    (by exact ⟨0, by omega, by omega, by omega, rfl, rfl, rfl, rfl⟩) ?_
  rintro m e h' ⟨j, hj, hj4, rfl, e0, e3, e4, hh⟩
  by_cases hlt : j < s.length /\ j < 40
  · obtain ⟨hl, hl4⟩ := hlt
    obtain ⟨b, hb⟩ : ∃ b, s.getD j 0 = b := ⟨_, rfl⟩
    have cL := refLow_ok (G := G) b
    have ht : (s.take (j + 1)).map nmB = (s.take j).map nmB ++ [nmB b] := by rw [VY hl, List.map_append, show nth s j = b from hb]; rfl
    have hn := lowB_name b
    have hlb := (lowB b).toNat_lt
    generalize lowB b = l at *
    have hc : nameC l = nameC l := rfl
    unfold nameC at hn
    repeat' (first | ((with_reducible refine brC (fun _ => ?_) fun _ => ?_) <;> try (exfalso; omega)) | (with_reducible apply pcallE.of; · exact cL) | (with_reducible refine And.intro ?_ ?_; · omega) | simp -dsimp -implicitDefEqProofs (disch := omega) only [↓Q0 10, ↓Q0 22, ↓Q0 26, ↓Q0 29, ↓Q0 34, ↓Q0 38, ↓Q0 42, VCA, Nat.reduceEqDiff, Nat.reduceLeDiff, ↓reduceIte, reduceCtorEq, J4, forall_eq, e0, e3, e4, hb])
    all_goals first
      | exact ⟨[l], rfl, by rw [List.length_take]; simp only [List.length_cons, List.length_nil]; omega, _, by omega, j + 1, by omega, by omega, rfl, by rw [ht, hn, if_pos (by simp only [Bool.or_eq_true, Bool.and_eq_true, decide_eq_true_eq, beq_iff_eq]; omega)], by omega, hh⟩
      | exact ⟨by rw [List.length_take]; omega, _, by omega, j + 1, by omega, by omega, rfl, by rw [ht, hn, if_neg (by simp only [Bool.or_eq_true, Bool.and_eq_true, decide_eq_true_eq, beq_iff_eq]; omega)], by omega, hh⟩
      | trace_state
  · have e : (s.take j).map nmB = K3 s := by
      unfold K3
      by_cases h4 : j = 40
      · rw [h4]
      · have : j = s.length := by omega
        rw [this, List.take_length, List.take_of_length_le (by omega)]
    repeat' (first | ((with_reducible refine brC (fun _ => ?_) fun _ => ?_) <;> try (exfalso; omega)) | (with_reducible refine And.intro ?_ ?_; · omega) | simp -dsimp -implicitDefEqProofs (disch := omega) only [↓Q0 10, VCA, Nat.reduceEqDiff, ↓reduceIte, reduceCtorEq, exists_eq_right, e0, e3, e4, e])
    all_goals first | exact ⟨by rw [hh]; exact Sub.refl _, rfl⟩ | (rw [hh]; exact Sub.refl _) | (exfalso; omega) | trace_state
def bg : List UInt8 := [97, 60, 80, 32, 120, 61, 49, 62, 38, 108, 116, 59, 60, 47, 112, 32, 62]
theorem rd_1 : K4 [97] false = [97] := by
  rw [WX (by simp), show tE [97] false = [97] by decide +kernel, show nE [97] false = 1 by decide +kernel]
  show [97] ++ K4 [] false = _
  rw [XY]; rfl
theorem rd_2 : K4 [49] true = [49] := by
  rw [WX (by simp), show tE [49] true = [49] by decide +kernel, show nE [49] true = 1 by decide +kernel]
  show [49] ++ K4 [] true = _
  rw [XY]; rfl
theorem rd_3 : K4 [38, 108, 116, 59] false = [60] := by
  rw [WX (by simp), show tE [38, 108, 116, 59] false = [60] by decide +kernel, show nE [38, 108, 116, 59] false = 4 by decide +kernel]
  show [60] ++ K4 [] false = _
  rw [XY]; rfl
theorem bg_1 : X5 bg 1 = some (⟨1, [112], [⟨[120], K4 [49] true⟩], [], false, 0, 0⟩, true, 8) := by kernel_rfl
theorem bg_2 : X5 bg 12 = some (⟨2, [112], [], [], false, 0, 0⟩, true, 17) := by kernel_rfl
theorem bg_all : T7 bg = ([⟨3, [], [], K4 [97] false, false, 0, 1⟩, ⟨1, [112], [⟨[120], K4 [49] true⟩], [], false, 1, 8⟩, ⟨3, [], [], K4 [38, 108, 116, 59] false, false, 8, 12⟩, ⟨2, [112], [], [], false, 12, 17⟩], 17) := by kernel_rfl
theorem bg_k : ∀ a, a < 17 -> Y1 bg a = 0 \/ a = 1 /\ Y1 bg a = 97 \/ a = 12 /\ Y1 bg a = 47 := by decide +kernel
theorem bg_D : DeclC G bg := fun h rb a en out hr hk ha hs => by
  rcases bg_k a ha with q | ⟨_, q⟩ | ⟨_, q⟩ <;> omega
theorem bg_R : RawC G bg := fun a q ha hk hq hw => by
  rcases bg_k a ha with h | ⟨rfl, h⟩ | ⟨rfl, h⟩
  · exact absurd h hk
  · rw [bg_1] at hq; cases hq
    exact absurd hw (by decide)
  · rw [bg_2] at hq; cases hq
    exact absurd hw (by decide)
def c7 : SFun := ⟨.seq (.reg [o 0 (.mv (.c (.bool false)))]) (.seq (.reg [o 4 (.pcall 5 [.c (.str [97, 60, 80, 32, 120, 61, 49, 62, 38, 108, 116, 59, 60, 47, 112, 32, 62])]), o 3 (.mv (.t 4)), o 5 (.ext (.t 3) 0), o 6 (.ext (.t 3) 1), o 1 (.mv (.t 5)), o 2 (.mv (.t 6))]) (.seq (.reg [o 7 (.mv (.t 2)), o 8 (.bin .eql (.t 7) (.c (.int .i64 0))), o 9 (.mv (.t 8)), ⟨some 10, .mv (.t 1), some (9, true)⟩, ⟨some 11, .len (.t 10), some (9, true)⟩, ⟨some 12, .bin .eql (.t 11) (.c (.int .i64 4)), some (9, true)⟩, o 13 (.pick (.t 9) (.t 12) (.c (.bool false))), o 14 (.mv (.t 13)), ⟨some 15, .mv (.t 1), some (14, true)⟩, ⟨some 16, .idxA 7 (.t 15) (.c (.int .i64 1)), some (14, true)⟩, ⟨some 17, .fldA 1 (.t 16), some (14, true)⟩, ⟨some 18, .ld 1 false (.t 17), some (14, true)⟩, ⟨some 19, .bin .eql (.t 18) (.c (.str [112])), some (14, true)⟩, o 20 (.pick (.t 14) (.t 19) (.c (.bool false))), o 21 (.mv (.t 20)), ⟨some 22, .mv (.t 1), some (21, true)⟩, ⟨some 23, .idxA 7 (.t 22) (.c (.int .i64 1)), some (21, true)⟩, ⟨some 24, .fldA 2 (.t 23), some (21, true)⟩, ⟨some 25, .ld 1 false (.t 24), some (21, true)⟩, ⟨some 26, .len (.t 25), some (21, true)⟩, ⟨some 27, .bin .eql (.t 26) (.c (.int .i64 1)), some (21, true)⟩, o 28 (.pick (.t 21) (.t 27) (.c (.bool false))), o 29 (.mv (.t 28)), ⟨some 30, .mv (.t 1), some (29, true)⟩, ⟨some 31, .idxA 7 (.t 30) (.c (.int .i64 1)), some (29, true)⟩, ⟨some 32, .fldA 2 (.t 31), some (29, true)⟩, ⟨some 33, .ld 1 false (.t 32), some (29, true)⟩, ⟨some 34, .idxA 2 (.t 33) (.c (.int .i64 0)), some (29, true)⟩, ⟨some 35, .fldA 1 (.t 34), some (29, true)⟩, ⟨some 36, .ld 1 false (.t 35), some (29, true)⟩, ⟨some 37, .bin .eql (.t 36) (.c (.str [49])), some (29, true)⟩, o 38 (.pick (.t 29) (.t 37) (.c (.bool false))), o 39 (.mv (.t 38)), ⟨some 40, .mv (.t 1), some (39, true)⟩, ⟨some 41, .idxA 7 (.t 40) (.c (.int .i64 2)), some (39, true)⟩, ⟨some 42, .fldA 3 (.t 41), some (39, true)⟩, ⟨some 43, .ld 1 false (.t 42), some (39, true)⟩, ⟨some 44, .bin .eql (.t 43) (.c (.str [60])), some (39, true)⟩, o 45 (.pick (.t 39) (.t 44) (.c (.bool false))), o 46 (.mv (.t 45)), ⟨some 47, .mv (.t 1), some (46, true)⟩, ⟨some 48, .idxA 7 (.t 47) (.c (.int .i64 3)), some (46, true)⟩, ⟨some 49, .fldA 0 (.t 48), some (46, true)⟩, ⟨some 50, .ld 1 false (.t 49), some (46, true)⟩, ⟨some 51, .bin .eql (.t 50) (.c (.int .i64 2)), some (46, true)⟩, o 52 (.pick (.t 46) (.t 51) (.c (.bool false))), o 53 (.mv (.t 52)), ⟨some 54, .mv (.t 1), some (53, true)⟩, ⟨some 55, .idxA 7 (.t 54) (.c (.int .i64 3)), some (53, true)⟩, ⟨some 56, .fldA 6 (.t 55), some (53, true)⟩, ⟨some 57, .ld 1 false (.t 56), some (53, true)⟩, ⟨some 58, .bin .eql (.t 57) (.c (.int .i64 17)), some (53, true)⟩, o 59 (.pick (.t 53) (.t 58) (.c (.bool false))), o 0 (.mv (.t 59))]) .ret)), [.tmp 0]⟩
theorem hc7 : Y5 Tryz.prog {pure := [5]} Tryz.f7 = some c7 := by kernel_rfl
theorem tokenBegun_ok (hG : U8 G) : PCalls (Pg G) 7 [] (.bool true) := fun h => by
  have cR := tokReadAll_ok (G := G) hG (s := bg) (by decide) bg_D bg_R
  rw [bg_all, rd_1, rd_2, rd_3] at cR
  unfold bg sl at cR
  simp only [List.map_cons, List.map_nil, J6, Z6, sl] at cR
  obtain ⟨A, hA⟩ : ∃ A, [[AVal.str [120], AVal.str [49]]] = A := ⟨_, rfl⟩
  rw [hA] at cR
  obtain ⟨T, hT⟩ : ∃ T, [[Q3 3, .str [], .slc [], .str [97], .bool false, Q3 0, Q3 1], [Q3 1, .str [112], .slc A, .str [], .bool false, Q3 1, Q3 8], [Q3 3, .str [], .slc [], .str [60], .bool false, Q3 8, Q3 12], [Q3 2, .str [112], .slc [], .str [], .bool false, Q3 12, Q3 17]] = T := ⟨_, rfl⟩
  have cR : PCalls (Pg G) 5 [.str [97, 60, 80, 32, 120, 61, 49, 62, 38, 108, 116, 59, 60, 47, 112, 32, 62]] (.tup [.slc T, Q3 0]) := by rw [<- hT]; exact cR
  have l4 : T.length = 4 := by rw [<- hT]; rfl
  have g1 : T.getD 1 [] = [.int .i64 1, .str [112], .slc A, .str [], .bool false, .int .i64 1, .int .i64 8] := by rw [<- hT]; rfl
  have g2 : T.getD 2 [] = [.int .i64 3, .str [], .slc [], .str [60], .bool false, .int .i64 8, .int .i64 12] := by rw [<- hT]; rfl
  have g3 : T.getD 3 [] = [.int .i64 2, .str [112], .slc [], .str [], .bool false, .int .i64 12, .int .i64 17] := by rw [<- hT]; rfl
  have lA : A.length = 1 := by rw [<- hA]; rfl
  have gA : A.getD 0 [] = [.str [120], .str [49]] := by rw [<- hA]; rfl
  have k1 : Int.toNat 1 = 1 := rfl
  have k2 : Int.toNat 2 = 2 := rfl
  have k3 : Int.toNat 3 = 3 := rfl
  have k0 : Int.toNat 0 = 0 := rfl
  clear hT hA
  refine Q1 Tryz.func7 (by kernel_rfl) hc7 (by rw [Tryz.ntmps7]; simp) (by rw [Tryz.ntmps7]; decide) ?_
  simp -dsimp -implicitDefEqProofs (disch := omega) only [VCA, c7]
  repeat' (first | ((with_reducible refine brC (fun _ => ?_) fun _ => ?_) <;> try (exfalso; omega)) | (with_reducible apply pcallE.of; · exact cR) | (with_reducible refine And.intro ?_ ?_; · omega) | simp -dsimp -implicitDefEqProofs (disch := omega) only [↓Q0 9, ↓Q0 14, ↓Q0 21, ↓Q0 29, ↓Q0 39, ↓Q0 46, ↓Q0 53, VCA, Nat.reduceEqDiff, Nat.reduceAdd, Nat.reduceLT, Nat.reduceLeDiff, ↓reduceIte, exists_eq_right_right, l4, g1, g2, g3, lA, gA, k0, k1, k2, k3])
  all_goals first | exact ⟨Sub.refl _, rfl⟩ | exact Sub.refl _ | exact absurd rfl (by assumption) | trace_state
def c20 : SFun := ⟨.seq (.reg [o 2 (.mv (.c (.bool false)))]) (.seq (.reg [o 3 (.mv (.t 0)), o 4 (.bin .geq (.t 3) (.c (.int .u8 97))), o 5 (.mv (.t 4)), ⟨some 6, .mv (.t 0), some (5, true)⟩, ⟨some 7, .bin .leq (.t 6) (.c (.int .u8 122)), some (5, true)⟩, o 8 (.pick (.t 5) (.t 7) (.c (.bool false))), o 9 (.mv (.t 8)), ⟨some 10, .mv (.t 0), some (9, false)⟩, ⟨some 11, .bin .geq (.t 10) (.c (.int .u8 65)), some (9, false)⟩, ⟨some 12, .mv (.t 11), some (9, false)⟩, ⟨some 13, .mv (.t 0), some (12, true)⟩, ⟨some 14, .bin .leq (.t 13) (.c (.int .u8 90)), some (12, true)⟩, ⟨some 15, .pick (.t 12) (.t 14) (.c (.bool false)), some (9, false)⟩, o 16 (.pick (.t 9) (.c (.bool true)) (.t 15)), o 2 (.mv (.t 16))]) .ret), [.tmp 2]⟩
theorem hc20 : Y5 Tryz.prog {} Tryz.f20 = some c20 := by kernel_rfl
theorem UK (b : UInt8) : PCalls (Pg G) 20 [.int .u8 b.toNat] (.bool (U1 b.toNat)) := fun h => by
  unfold U1
  refine Q1 Tryz.func20 (by kernel_rfl) hc20 (by rw [Tryz.ntmps20]; simp) (by rw [Tryz.ntmps20]; decide) ?_
  simp -dsimp -implicitDefEqProofs (disch := omega) only [↓Q0 5, VCA, ↓reduceIte, reduceCtorEq, c20]
  repeat' (first | ((with_reducible refine brC (fun _ => ?_) fun _ => ?_) <;> try (exfalso; omega)) | (with_reducible refine And.intro ?_ ?_; · omega) | simp -dsimp -implicitDefEqProofs (disch := omega) only [↓Q0 9, ↓Q0 12, VCA, Nat.reduceEqDiff, ↓reduceIte, reduceCtorEq, exists_eq_right_right])
  all_goals first
    | (refine ⟨Sub.refl _, ?_⟩; rw [Bool.eq_iff_iff]; simp only [Bool.or_eq_true, Bool.and_eq_true, decide_eq_true_eq, Bool.false_eq_true, true_iff, false_iff]; omega)
    | (refine ⟨Sub.refl _, ?_⟩; simp_all; done)
    | exact Sub.refl _
    | trace_state
def c15 : SFun := ⟨.seq (.reg [o 2 (.mv (.c (.bool false)))]) (.seq (.reg [o 3 (.mv (.t 0)), o 4 (.bin .eql (.t 3) (.c (.int .u8 9))), o 5 (.mv (.t 4)), ⟨some 6, .mv (.t 0), some (5, false)⟩, ⟨some 7, .bin .eql (.t 6) (.c (.int .u8 10)), some (5, false)⟩, o 8 (.pick (.t 5) (.c (.bool true)) (.t 7)), o 9 (.mv (.t 8)), ⟨some 10, .mv (.t 0), some (9, false)⟩, ⟨some 11, .bin .eql (.t 10) (.c (.int .u8 12)), some (9, false)⟩, o 12 (.pick (.t 9) (.c (.bool true)) (.t 11)), o 13 (.mv (.t 12)), ⟨some 14, .mv (.t 0), some (13, false)⟩, ⟨some 15, .bin .eql (.t 14) (.c (.int .u8 13)), some (13, false)⟩, o 16 (.pick (.t 13) (.c (.bool true)) (.t 15)), o 17 (.mv (.t 16)), ⟨some 18, .mv (.t 0), some (17, false)⟩, ⟨some 19, .bin .eql (.t 18) (.c (.int .u8 32)), some (17, false)⟩, o 20 (.pick (.t 17) (.c (.bool true)) (.t 19)), o 2 (.mv (.t 20))]) .ret), [.tmp 2]⟩
theorem hc15 : Y5 Tryz.prog {} Tryz.f15 = some c15 := by kernel_rfl
theorem U2 (b : UInt8) : PCalls (Pg G) 15 [.int .u8 b.toNat] (.bool (U6 b.toNat)) := fun h => by
  unfold U6
  refine Q1 Tryz.func15 (by kernel_rfl) hc15 (by rw [Tryz.ntmps15]; simp) (by rw [Tryz.ntmps15]; decide) ?_
  simp -dsimp -implicitDefEqProofs (disch := omega) only [↓Q0 5, VCA, ↓reduceIte, reduceCtorEq, c15]
  repeat' (first | ((with_reducible refine brC (fun _ => ?_) fun _ => ?_) <;> try (exfalso; omega)) | (with_reducible refine And.intro ?_ ?_; · omega) | simp -dsimp -implicitDefEqProofs (disch := omega) only [↓Q0 9, ↓Q0 13, ↓Q0 17, VCA, Nat.reduceEqDiff, ↓reduceIte, reduceCtorEq, exists_eq_right_right])
  all_goals first
    | (refine ⟨Sub.refl _, ?_⟩; rw [Bool.eq_iff_iff]; simp only [Bool.or_eq_true, beq_iff_eq, true_iff]; omega)
    | (refine ⟨Sub.refl _, ?_⟩; simp_all; done)
    | exact Sub.refl _
    | trace_state
def c14 : SFun := ⟨.seq (.reg [o 6 (.mv (.c (.bool false)))]) (.seq (.seq (.reg [o 8 (.mv (.t 1)), o 9 (.mv (.t 2)), o 10 (.lenS (.t 9)), o 11 (.bin .add (.t 8) (.t 10)), o 12 (.mv (.t 0)), o 13 (.lenS (.t 12)), o 14 (.bin .gtr (.t 11) (.t 13))]) (.cond (.t 14) (.seq (.reg [o 6 (.mv (.c (.bool false)))]) .ret) .skip)) (.seq (.seq (.reg [o 7 (.mv (.c (.int .i64 0)))]) (.block 0 (.loop (.seq (.seq (.reg [o 15 (.mv (.t 7)), o 16 (.mv (.t 2)), o 17 (.lenS (.t 16)), o 18 (.bin .lss (.t 15) (.t 17))]) (.cond (.t 18) .skip (.exit 0))) (.seq (.block 1 (.seq (.dreg [(o 21 (.mv (.t 0)), none), (o 22 (.mv (.t 1)), none), (o 23 (.mv (.t 7)), none), (o 24 (.bin .add (.t 22) (.t 23)), none), (o 25 (.idxS (.t 21) (.t 24)), none), (o 26 (.pcall 37 [.t 25]), none), (o 27 (.mv (.t 2)), none), (o 28 (.mv (.t 7)), none), (o 29 (.idxS (.t 27) (.t 28)), none), (o 30 (.bin .neq (.t 26) (.t 29)), none)]) (.cond (.t 30) (.seq (.reg [o 6 (.mv (.c (.bool false)))]) .ret) .skip))) (.reg [o 19 (.mv (.t 7)), o 20 (.bin .add (.t 19) (.c (.int .i64 1))), o 7 (.mv (.t 20))])))))) (.seq (.reg [o 6 (.mv (.c (.bool true)))]) .ret))), [.tmp 6]⟩
theorem hc14 : Y5 Tryz.prog {pure := [37]} Tryz.f14 = some c14 := by kernel_rfl
theorem K6 (s w : List UInt8) (a : Nat) (ha : a <= 9000000) (hs : s.length <= 4000000) (hw : w.length <= 4000000) : PCalls (Pg G) 14 [.str s, Q3 a, .str w] (.bool (Z7 s a w)) := fun h => by
  by_cases hl : a + w.length <= s.length
  · refine Q1 Tryz.func14 (by kernel_rfl) hc14 (by rw [Tryz.ntmps14]; simp) (by rw [Tryz.ntmps14]; decide) ?_
    simp -dsimp -implicitDefEqProofs (disch := omega) only [VCA, Nat.reduceEqDiff, ↓reduceIte, reduceCtorEq, c14]
    repeat' (first | ((with_reducible refine brC (fun _ => ?_) fun _ => ?_) <;> try (exfalso; omega)) | (with_reducible refine And.intro ?_ ?_; · omega) | simp -dsimp -implicitDefEqProofs (disch := omega) only [VCA])
    refine LoopVC.intro (fun m e h' => ∃ j : Nat, j <= w.length /\ m = w.length - j /\ e 0 = .str s /\ e 1 = Q3 a /\ e 2 = .str w /\ e 7 = Q3 j /\ h' = h /\ ∀ i, i < j -> ZW (bt s (a + i)) = bt w i) w.length
      (by exact ⟨0, by omega, by omega, rfl, rfl, rfl, rfl, rfl, fun i hi => by omega⟩) ?_
    rintro m e h' ⟨j, hj, rfl, e0, e1, e2, e7, hh, hall⟩
    by_cases hlt : j < w.length
    · obtain ⟨b, hb⟩ : ∃ b, s.getD (a + j) 0 = b := ⟨_, rfl⟩
      obtain ⟨c, hc⟩ : ∃ c, w.getD j 0 = c := ⟨_, rfl⟩
      have cL := refLow_ok (G := G) b
      have eb : ZW (bt s (a + j)) = (lowB b).toNat := by rw [lowB_I]; unfold bt; rw [hb]
      have ec : bt w j = c.toNat := by unfold bt; rw [hc]
      have taj : ((a : Int) + (j : Int)).toNat = a + j := by omega
      repeat' (first | ((with_reducible refine brC (fun _ => ?_) fun _ => ?_) <;> try (exfalso; omega)) | (with_reducible apply pcallE.of; · exact cL) | (with_reducible refine And.intro ?_ ?_; · omega) | simp -dsimp -implicitDefEqProofs (disch := omega) only [VCA, Nat.reduceEqDiff, ↓reduceIte, reduceCtorEq, Y8, Q7, exists_eq_right_right, J1, e0, e1, e2, e7, taj, hb, hc])
      all_goals first
        | exact ⟨_, by omega, j + 1, by omega, rfl, by omega, hh, fun i hi => by
            by_cases e : i = j
            · rw [e, eb, ec]; omega
            · exact hall i (by omega)⟩
        | (refine ⟨by rw [hh]; exact Sub.refl _, ?_⟩
           cases hst : Z7 s a w with
           | false => rfl
           | true => exact absurd ((stand_iff.1 hst).2 j hlt) (by rw [eb, ec]; omega))
        | trace_state
    · have hy : Z7 s a w = true := stand_iff.2 ⟨hl, fun i hi => hall i (by omega)⟩
      rw [hy]
      repeat' (first | ((with_reducible refine brC (fun _ => ?_) fun _ => ?_) <;> try (exfalso; omega)) | (with_reducible refine And.intro ?_ ?_; · omega) | simp -dsimp -implicitDefEqProofs (disch := omega) only [VCA, Nat.reduceEqDiff, ↓reduceIte, exists_eq_right, e2, e7])
      all_goals first | exact ⟨by rw [hh]; exact Sub.refl _, rfl⟩ | (rw [hh]; exact Sub.refl _) | trace_state
  · have hn : Z7 s a w = false := by unfold Z7; rw [decide_eq_false hl]; rfl
    rw [hn]
    refine Q1 Tryz.func14 (by kernel_rfl) hc14 (by rw [Tryz.ntmps14]; simp) (by rw [Tryz.ntmps14]; decide) ?_
    simp -dsimp -implicitDefEqProofs (disch := omega) only [VCA, Nat.reduceEqDiff, ↓reduceIte, reduceCtorEq, c14]
    repeat' (first | ((with_reducible refine brC (fun _ => ?_) fun _ => ?_) <;> try (exfalso; omega)) | (with_reducible refine And.intro ?_ ?_; · omega) | simp -dsimp -implicitDefEqProofs (disch := omega) only [VCA, ↓reduceIte, exists_eq_right])
    all_goals first | exact Sub.refl _ | exact ⟨Sub.refl _, rfl⟩ | (exfalso; omega) | trace_state
def c41 : SFun := ⟨.seq (.reg [o 6 (.mv (.c (.int .i64 0))), o 7 (.mv (.c (.bool false)))]) (.seq (.seq (.reg [o 9 (.mv (.t 1)), o 8 (.mv (.t 9))]) (.block 0 (.loop (.seq (.seq (.reg [o 10 (.mv (.t 8)), o 11 (.mv (.t 0)), o 12 (.lenS (.t 11)), o 13 (.bin .lss (.t 10) (.t 12))]) (.cond (.t 13) .skip (.exit 0))) (.seq (.block 1 (.seq (.reg [o 16 (.mv (.t 0)), o 17 (.mv (.t 8)), o 18 (.mv (.t 2)), o 19 (.pcall 14 [.t 16, .t 17, .t 18])]) (.cond (.t 19) (.seq (.reg [o 20 (.mv (.t 8)), o 6 (.mv (.t 20)), o 7 (.mv (.c (.bool true)))]) .ret) .skip))) (.reg [o 14 (.mv (.t 8)), o 15 (.bin .add (.t 14) (.c (.int .i64 1))), o 8 (.mv (.t 15))])))))) (.seq (.reg [o 21 (.mv (.t 0)), o 22 (.lenS (.t 21)), o 6 (.mv (.t 22)), o 7 (.mv (.c (.bool false)))]) .ret)), [.tmp 6, .tmp 7]⟩
theorem hc41 : Y5 Tryz.prog {pure := [14]} Tryz.f41 = some c41 := by kernel_rfl
theorem refUp_ok (s w : List UInt8) (a : Nat) (ha : a <= s.length) (hs : s.length <= 4000000) (hw : w.length <= 4000000) : PCalls (Pg G) 41 [.str s, Q3 a, .str w] (.tup [Q3 (upM s a w), .bool (decide (upM s a w < s.length))]) := fun h => by
  obtain ⟨u, hu⟩ : ∃ u, upM s a w = u := ⟨_, rfl⟩
  have g := WQ (q := fun i => Z7 s i w) ha
  have hg : Y0 (fun i => Z7 s i w) s.length a = u := hu
  rw [hg] at g
  rw [hu]
  refine Q1 Tryz.func41 (by kernel_rfl) hc41 (by rw [Tryz.ntmps41]; simp) (by rw [Tryz.ntmps41]; decide) ?_
  simp -dsimp -implicitDefEqProofs (disch := omega) only [VCA, Nat.reduceEqDiff, ↓reduceIte, c41]
  refine LoopVC.intro (fun m e h' => ∃ j : Nat, a <= j /\ j <= u /\ m = s.length - j /\ e 0 = .str s /\ e 2 = .str w /\ e 8 = Q3 j /\ h' = h) (s.length - a)
    (by exact ⟨a, by omega, g.ge, by omega, rfl, rfl, rfl, rfl⟩) ?_
  rintro m e h' ⟨j, hj0, hj, rfl, e0, e2, e8, hh⟩
  have hul := g.le
  by_cases hlt : j < s.length
  · have cS := K6 (G := G) s w j (by omega) hs hw
    by_cases hju : j < u
    · have := g.no j hj0 hju
      rw [show Z7 s j w = false from this] at cS
      repeat' (first | ((with_reducible refine brC (fun _ => ?_) fun _ => ?_) <;> try (exfalso; omega)) | (with_reducible apply pcallE.of; · exact cS) | (with_reducible refine And.intro ?_ ?_; · omega) | simp -dsimp -implicitDefEqProofs (disch := omega) only [VCA, Nat.reduceEqDiff, ↓reduceIte, reduceCtorEq, e0, e2, e8])
      exact ⟨_, by omega, j + 1, by omega, by omega, rfl, by omega, hh⟩
    · obtain rfl : j = u := by omega
      have := g.hit hlt
      rw [show Z7 s j w = true from this] at cS
      repeat' (first | ((with_reducible refine brC (fun _ => ?_) fun _ => ?_) <;> try (exfalso; omega)) | (with_reducible apply pcallE.of; · exact cS) | (with_reducible refine And.intro ?_ ?_; · omega) | simp -dsimp -implicitDefEqProofs (disch := omega) only [VCA, Nat.reduceEqDiff, ↓reduceIte, reduceCtorEq, exists_eq_right_right, e0, e2, e8])
      all_goals first | exact ⟨by rw [hh]; exact Sub.refl _, by simp; omega⟩ | (rw [hh]; exact Sub.refl _) | trace_state
  · obtain rfl : j = u := by omega
    repeat' (first | ((with_reducible refine brC (fun _ => ?_) fun _ => ?_) <;> try (exfalso; omega)) | (with_reducible refine And.intro ?_ ?_; · omega) | simp -dsimp -implicitDefEqProofs (disch := omega) only [VCA, Nat.reduceEqDiff, ↓reduceIte, reduceCtorEq, exists_eq_right_right, e0, e8])
    all_goals first | exact ⟨by rw [hh]; exact Sub.refl _, by omega, by simp; omega⟩ | exact ⟨by rw [hh]; exact Sub.refl _, by simp; omega⟩ | trace_state
def kindR (s : List UInt8) (a : Nat) : Int :=
  if bt s a ≠ 60 \/ ¬ a + 1 < s.length then 0
  else if U1 (bt s (a + 1)) = true then 1
  else if bt s (a + 1) = 47 /\ a + 2 < s.length then 2
  else if bt s (a + 1) = 33 \/ bt s (a + 1) = 63 then 3 else 0
theorem kindR_eq (s : List UInt8) (a : Nat) : kindR s a = if Y1 s a = 97 then 1 else if Y1 s a = 47 then 2 else if Y1 s a = 0 then 0 else 3 := by
  unfold kindR Y1
  cases hl : U1 (bt s (a + 1)) <;> simp only [Bool.false_eq_true, if_false, if_true] <;> (repeat' split) <;> first | rfl | omega
def c16 : SFun := ⟨.seq (.reg [o 4 (.mv (.c (.int .i64 0)))]) (.seq (.seq (.reg [o 6 (.mv (.t 0)), o 7 (.mv (.t 1)), o 8 (.idxS (.t 6) (.t 7)), o 9 (.bin .neq (.t 8) (.c (.int .u8 60))), o 10 (.mv (.t 9)), ⟨some 11, .mv (.t 1), some (10, false)⟩, ⟨some 12, .bin .add (.t 11) (.c (.int .i64 1)), some (10, false)⟩, ⟨some 13, .mv (.t 0), some (10, false)⟩, ⟨some 14, .lenS (.t 13), some (10, false)⟩, ⟨some 15, .bin .geq (.t 12) (.t 14), some (10, false)⟩, o 16 (.pick (.t 10) (.c (.bool true)) (.t 15))]) (.cond (.t 16) (.seq (.reg [o 4 (.mv (.c (.int .i64 0)))]) .ret) .skip)) (.seq (.reg [o 17 (.mv (.t 0)), o 18 (.mv (.t 1)), o 19 (.bin .add (.t 18) (.c (.int .i64 1))), o 20 (.idxS (.t 17) (.t 19)), o 5 (.mv (.t 20))]) (.seq (.seq (.reg [o 21 (.mv (.t 5)), o 22 (.pcall 20 [.t 21])]) (.cond (.t 22) (.seq (.reg [o 4 (.mv (.c (.int .i64 1)))]) .ret) .skip)) (.seq (.seq (.reg [o 23 (.mv (.t 5)), o 24 (.bin .eql (.t 23) (.c (.int .u8 47))), o 25 (.mv (.t 24)), ⟨some 26, .mv (.t 1), some (25, true)⟩, ⟨some 27, .bin .add (.t 26) (.c (.int .i64 2)), some (25, true)⟩, ⟨some 28, .mv (.t 0), some (25, true)⟩, ⟨some 29, .lenS (.t 28), some (25, true)⟩, ⟨some 30, .bin .lss (.t 27) (.t 29), some (25, true)⟩, o 31 (.pick (.t 25) (.t 30) (.c (.bool false)))]) (.cond (.t 31) (.seq (.reg [o 4 (.mv (.c (.int .i64 2)))]) .ret) .skip)) (.seq (.seq (.reg [o 32 (.mv (.t 5)), o 33 (.bin .eql (.t 32) (.c (.int .u8 33))), o 34 (.mv (.t 33)), ⟨some 35, .mv (.t 5), some (34, false)⟩, ⟨some 36, .bin .eql (.t 35) (.c (.int .u8 63)), some (34, false)⟩, o 37 (.pick (.t 34) (.c (.bool true)) (.t 36))]) (.cond (.t 37) (.seq (.reg [o 4 (.mv (.c (.int .i64 3)))]) .ret) .skip)) (.seq (.reg [o 4 (.mv (.c (.int .i64 0)))]) .ret)))))), [.tmp 4]⟩
theorem hc16 : Y5 Tryz.prog {pure := [20]} Tryz.f16 = some c16 := by kernel_rfl
theorem refKind_ok (s : List UInt8) (p : Nat) (hp : p < s.length) (hs : s.length <= 4000000) : PCalls (Pg G) 16 [.str s, Q3 p] (Q3 (kindR s p)) := fun h => by
  unfold kindR
  obtain ⟨b, hb⟩ : ∃ b, s.getD p 0 = b := ⟨_, rfl⟩
  obtain ⟨c, hc⟩ : ∃ c, s.getD (p + 1) 0 = c := ⟨_, rfl⟩
  have eb : bt s p = b.toNat := by unfold bt; rw [hb]
  have ec : bt s (p + 1) = c.toNat := by unfold bt; rw [hc]
  have cL := UK (G := G) c
  rw [eb, ec]
  have hcl := c.toNat_lt
  cases hl : U1 (c.toNat : Int) <;> rw [hl] at cL <;> simp only [Bool.false_eq_true, if_false, if_true]
  · refine Q1 Tryz.func16 (by kernel_rfl) hc16 (by rw [Tryz.ntmps16]; simp) (by rw [Tryz.ntmps16]; decide) ?_
    simp -dsimp -implicitDefEqProofs (disch := omega) only [↓Q0 10, VCA, Nat.reduceEqDiff, ↓reduceIte, reduceCtorEq, ne_eq, c16, hb]
    repeat' (first | ((with_reducible refine brC (fun _ => ?_) fun _ => ?_) <;> try (exfalso; omega)) | (with_reducible apply pcallE.of; · exact cL) | (with_reducible refine And.intro ?_ ?_; · omega) | simp -dsimp -implicitDefEqProofs (disch := omega) only [↓Q0 25, ↓Q0 34, VCA, Nat.reduceEqDiff, ↓reduceIte, reduceCtorEq, exists_eq_right_right, hc])
    all_goals refine ⟨Sub.refl _, ?_⟩
    all_goals (repeat' split) <;> first | rfl | omega | trace_state
  · refine Q1 Tryz.func16 (by kernel_rfl) hc16 (by rw [Tryz.ntmps16]; simp) (by rw [Tryz.ntmps16]; decide) ?_
    simp -dsimp -implicitDefEqProofs (disch := omega) only [↓Q0 10, VCA, Nat.reduceEqDiff, ↓reduceIte, reduceCtorEq, ne_eq, c16, hb]
    repeat' (first | ((with_reducible refine brC (fun _ => ?_) fun _ => ?_) <;> try (exfalso; omega)) | (with_reducible apply pcallE.of; · exact cL) | (with_reducible refine And.intro ?_ ?_; · omega) | simp -dsimp -implicitDefEqProofs (disch := omega) only [VCA, Nat.reduceEqDiff, ↓reduceIte, reduceCtorEq, exists_eq_right_right, hc])
    all_goals refine ⟨Sub.refl _, ?_⟩
    all_goals (repeat' split) <;> first | rfl | omega | trace_state
theorem attrOwn_ok {h0 h : Q2} {a : AVal} (L : List HAttr) (A : Acc h0 Ta 2 (L.map Z6) a h) (name : List UInt8) (hl : L.length <= 1073741824) :
    DCalls (Pg G) 42 [a, .str name] h fun r h' => (∃ v, r = .tup [.str v, .bool (L.any fun y => y.name == name)]) /\ h' = h := by
  rcases A with ⟨h1, rfl⟩ | ⟨r, _, hr, rfl⟩
  · have hL : L = [] := by simpa using h1
    subst hL
    refine Q1 Tryz.func42 hn42 hc42 (by rw [Tryz.ntmps42]; simp) (by rw [Tryz.ntmps42]; decide) ?_
    simp -dsimp -implicitDefEqProofs (disch := omega) only [VCA, c42]
    refine LoopVC.intro (fun m e h' => e 0 = .emp /\ e 6 = Q3 0 /\ h' = h) 0 ⟨rfl, rfl, rfl⟩ ?_
    rintro m e h' ⟨e0, e6, rfl⟩
    repeat' (first | ((with_reducible refine brC (fun _ => ?_) fun _ => ?_) <;> try (exfalso; omega)) | (with_reducible refine And.intro ?_ ?_; · omega) | simp -dsimp -implicitDefEqProofs (disch := omega) only [VCA, Nat.reduceEqDiff, ↓reduceIte, reduceCtorEq, exists_eq_right_right, e0, e6])
    all_goals first | (exfalso; omega) | exact ⟨Sub.refl _, _, rfl⟩ | exact ⟨_, Sub.refl _, ⟨_, rfl⟩, rfl⟩ | trace_state
  · rw [List.length_map]
    refine Q1 Tryz.func42 hn42 hc42 (by rw [Tryz.ntmps42]; simp) (by rw [Tryz.ntmps42]; decide) ?_
    simp -dsimp -implicitDefEqProofs (disch := omega) only [VCA, c42]
    refine LoopVC.intro (fun m e h' => ∃ k : Nat, k <= L.length /\ m = L.length - k /\ e 0 = .osl r 2 0 L.length /\ e 1 = .str name /\ e 6 = Q3 k /\ h' = h /\ ∀ j, j < k -> ((nth L j).name == name) = false) L.length ⟨0, by omega, by omega, rfl, rfl, rfl, rfl, fun j hj => by omega⟩ ?_
    rintro m e h' ⟨k, hk, rfl, e0, e1, e6, rfl, hj⟩
    by_cases hlt : k < L.length
    · have hat : (L.map Z6).getD k [] = Z6 (nth L k) := ZY hlt
      obtain ⟨x, hx⟩ : ∃ x, nth L k = x := ⟨_, rfl⟩
      rw [hx] at hat
      cases hb : (x.name == name) with
      | true =>
        have hany : (L.any fun y => y.name == name) = true := List.any_eq_true.2 ⟨x, by rw [<- hx]; exact W6 hlt, hb⟩
        rw [hany]
        repeat' (first | ((with_reducible refine brC (fun _ => ?_) fun _ => ?_) <;> try (exfalso; omega)) | (with_reducible refine And.intro ?_ ?_; · omega) | simp -dsimp -implicitDefEqProofs (disch := omega) only [VCA, Nat.reduceEqDiff, Nat.reduceAdd, Nat.reduceLeDiff, ↓reduceIte, reduceCtorEq, exists_eq_right_right, exists_eq_left', Z6, e0, e1, e6, hr, hat, hb])
        all_goals first | exact ⟨Sub.refl _, _, rfl⟩ | exact ⟨_, Sub.refl _, ⟨_, rfl⟩, rfl⟩ | trace_state
      | false =>
        repeat' (first | ((with_reducible refine brC (fun _ => ?_) fun _ => ?_) <;> try (exfalso; omega)) | (with_reducible refine And.intro ?_ ?_; · omega) | simp -dsimp -implicitDefEqProofs (disch := omega) only [VCA, Nat.reduceEqDiff, Nat.reduceAdd, Nat.reduceLeDiff, ↓reduceIte, reduceCtorEq, exists_eq_left', Z6, e0, e1, e6, hr, hat, hb])
        refine ⟨_, by omega, k + 1, by omega, rfl, by omega, fun j hj' => ?_⟩
        by_cases h1 : j = k
        · subst h1; rw [hx]; exact hb
        · exact hj j (by omega)
    · obtain rfl : k = L.length := by omega
      have hany : (L.any fun y => y.name == name) = false := by
        rw [List.any_eq_false]
        intro y hy
        obtain ⟨j, hjl, e⟩ := List.getElem_of_mem hy
        have := hj j hjl
        have hn : nth L j = y := by have := V8 hjl; rw [List.getElem?_eq_getElem hjl, e] at this; exact (Option.some.inj this).symm
        rw [hn] at this
        simpa using this
      rw [hany]
      repeat' (first | ((with_reducible refine brC (fun _ => ?_) fun _ => ?_) <;> try (exfalso; omega)) | (with_reducible refine And.intro ?_ ?_; · omega) | simp -dsimp -implicitDefEqProofs (disch := omega) only [VCA, Nat.reduceEqDiff, ↓reduceIte, reduceCtorEq, exists_eq_right_right, e0, e6])
      all_goals first | exact ⟨Sub.refl _, _, rfl⟩ | exact ⟨_, Sub.refl _, ⟨_, rfl⟩, rfl⟩ | trace_state
def c40 : SFun := ⟨.seq (.reg [o 2 (.mv (.c (.str [])))]) (.seq (.reg [o 4 (.mv (.t 0)), o 5 (.pcall 39 [.t 4]), o 3 (.mv (.t 5))]) (.seq (.seq (.reg [o 6 (.mv (.t 3)), o 7 (.bin .neq (.t 6) (.c (.str []))), o 8 (.mv (.t 7)), ⟨some 9, .mv (.t 3), some (8, true)⟩, ⟨some 10, .idxS (.t 9) (.c (.int .i64 0)), some (8, true)⟩, ⟨some 11, .pcall 20 [.t 10], some (8, true)⟩, ⟨some 12, .un .not (.t 11), some (8, true)⟩, o 13 (.pick (.t 8) (.t 12) (.c (.bool false))), o 14 (.mv (.t 13)), ⟨some 15, .mv (.t 3), some (14, true)⟩, ⟨some 16, .idxS (.t 15) (.c (.int .i64 0)), some (14, true)⟩, ⟨some 17, .bin .neq (.t 16) (.c (.int .u8 45)), some (14, true)⟩, o 18 (.pick (.t 14) (.t 17) (.c (.bool false))), o 19 (.mv (.t 18)), ⟨some 20, .mv (.t 3), some (19, true)⟩, ⟨some 21, .idxS (.t 20) (.c (.int .i64 0)), some (19, true)⟩, ⟨some 22, .bin .neq (.t 21) (.c (.int .u8 95)), some (19, true)⟩, o 23 (.pick (.t 19) (.t 22) (.c (.bool false)))]) (.cond (.t 23) (.reg [o 24 (.mv (.t 3)), o 25 (.slS (.t 24) (some (.c (.int .i64 1))) none), o 26 (.bin .add (.c (.str [95])) (.t 25)), o 3 (.mv (.t 26))]) .skip)) (.seq (.reg [o 27 (.mv (.t 3)), o 2 (.mv (.t 27))]) .ret))), [.tmp 2]⟩
theorem hc40 : Y5 Tryz.prog {pure := [39, 20]} Tryz.f40 = some c40 := by kernel_rfl
theorem hn40 : (Tryz.f40.name == "runtime.NumGoroutine") = false := by kernel_rfl
theorem refAttrName_ok (s : List UInt8) (hs : s.length <= 1073741824) : PCalls (Pg G) 40 [.str s] (.str (K8 s)) := fun h => by
  have cN := WK (G := G) s hs
  obtain ⟨n, hn⟩ : ∃ n, K3 s = n := ⟨_, rfl⟩
  have hl : n.length <= 40 := by rw [<- hn]; unfold K3; rw [List.length_map, List.length_take]; omega
  unfold K8
  rw [hn] at cN ⊢
  cases n with
  | nil =>
    refine Q1 Tryz.func40 hn40 hc40 (by rw [Tryz.ntmps40]; simp) (by rw [Tryz.ntmps40]; decide) ?_
    simp -dsimp -implicitDefEqProofs (disch := omega) only [VCA, ↓reduceIte, reduceCtorEq, ne_eq, c40]
    repeat' (first | ((with_reducible refine brC (fun _ => ?_) fun _ => ?_) <;> try (exfalso; omega)) | (with_reducible apply pcallE.of; · exact cN) | (with_reducible refine And.intro ?_ ?_; · omega) | simp -dsimp -implicitDefEqProofs (disch := omega) only [↓Q0 8, ↓Q0 14, ↓Q0 19, VCA, Nat.reduceEqDiff, ↓reduceIte, exists_eq_right_right])
    all_goals first | exact Sub.refl _ | exact ⟨Sub.refl _, by simp⟩ | (exfalso; simp_all; done) | trace_state
  | cons b t =>
    have cL := UK (G := G) b
    have e0 : bt (b :: t) 0 = b.toNat := rfl
    have g0 : (b :: t).getD 0 0 = b := rfl
    rw [e0]
    cases hlb : U1 (b.toNat : Int) <;> rw [hlb] at cL
    · refine Q1 Tryz.func40 hn40 hc40 (by rw [Tryz.ntmps40]; simp) (by rw [Tryz.ntmps40]; decide) ?_
      simp -dsimp -implicitDefEqProofs (disch := omega) only [VCA, ↓reduceIte, reduceCtorEq, ne_eq, c40]
      repeat' (first | ((with_reducible refine brC (fun _ => ?_) fun _ => ?_) <;> try (exfalso; omega)) | (with_reducible apply pcallE.of; · exact cN) | (with_reducible apply pcallE.of; · exact cL) | (with_reducible refine And.intro ?_ ?_; · omega) | simp -dsimp -implicitDefEqProofs (disch := omega) only [↓Q0 8, ↓Q0 14, ↓Q0 19, VCA, Nat.reduceEqDiff, ↓reduceIte, exists_eq_right_right, g0])
      all_goals first
        | exact ⟨by rw [List.length_drop]; simp only [List.length_cons] at hl ⊢; omega, Sub.refl _, by rw [if_pos (by omega)]; rfl⟩
        | exact ⟨Sub.refl _, by rw [if_neg (by omega)]⟩
        | exact ⟨Sub.refl _, by rw [if_pos (by omega)]; rw [show b = 95 from VV (by simp; omega)]⟩
        | (exfalso; simp_all; done)
        | trace_state
    · refine Q1 Tryz.func40 hn40 hc40 (by rw [Tryz.ntmps40]; simp) (by rw [Tryz.ntmps40]; decide) ?_
      simp -dsimp -implicitDefEqProofs (disch := omega) only [VCA, ↓reduceIte, reduceCtorEq, ne_eq, c40]
      repeat' (first | ((with_reducible refine brC (fun _ => ?_) fun _ => ?_) <;> try (exfalso; omega)) | (with_reducible apply pcallE.of; · exact cN) | (with_reducible apply pcallE.of; · exact cL) | (with_reducible refine And.intro ?_ ?_; · omega) | simp -dsimp -implicitDefEqProofs (disch := omega) only [↓Q0 8, ↓Q0 14, ↓Q0 19, VCA, Nat.reduceEqDiff, ↓reduceIte, exists_eq_right_right, g0])
      all_goals first | exact Sub.refl _ | exact ⟨Sub.refl _, by simp⟩ | (exfalso; simp_all; done) | trace_state
def c19 : SFun := ⟨.seq (.reg [o 6 (.new 43 7 [.int .i64 0, .str [], .emp, .str [], .bool false, .int .i64 0, .int .i64 0]), o 7 (.mv (.c (.int .i64 0)))]) (.seq (.reg [o 17 (.mv (.t 2)), o 18 (.bld [.int .i64 0, .str [], .emp, .str [], .bool false, .int .i64 0, .int .i64 0] [(0, (1, (.t 17)))]), o 8 (.new 43 7 [.int .i64 0, .str [], .emp, .str [], .bool false, .int .i64 0, .int .i64 0]), ⟨none, .st 7 (.t 8) (.t 18), none⟩]) (.seq (.reg [o 19 (.mv (.t 1)), o 9 (.mv (.t 19))]) (.seq (.block 0 (.loop (.seq (.seq (.reg [o 20 (.mv (.t 1)), o 21 (.mv (.t 0)), o 22 (.lenS (.t 21)), o 23 (.bin .lss (.t 20) (.t 22)), o 24 (.mv (.t 23)), ⟨some 25, .mv (.t 0), some (24, true)⟩, ⟨some 26, .mv (.t 1), some (24, true)⟩, ⟨some 27, .idxS (.t 25) (.t 26), some (24, true)⟩, ⟨some 28, .pcall 15 [.t 27], some (24, true)⟩, ⟨some 29, .un .not (.t 28), some (24, true)⟩, o 30 (.pick (.t 24) (.t 29) (.c (.bool false))), o 31 (.mv (.t 30)), ⟨some 32, .mv (.t 0), some (31, true)⟩, ⟨some 33, .mv (.t 1), some (31, true)⟩, ⟨some 34, .idxS (.t 32) (.t 33), some (31, true)⟩, ⟨some 35, .bin .neq (.t 34) (.c (.int .u8 47)), some (31, true)⟩, o 36 (.pick (.t 31) (.t 35) (.c (.bool false))), o 37 (.mv (.t 36)), ⟨some 38, .mv (.t 0), some (37, true)⟩, ⟨some 39, .mv (.t 1), some (37, true)⟩, ⟨some 40, .idxS (.t 38) (.t 39), some (37, true)⟩, ⟨some 41, .bin .neq (.t 40) (.c (.int .u8 62)), some (37, true)⟩, o 42 (.pick (.t 37) (.t 41) (.c (.bool false)))]) (.cond (.t 42) .skip (.exit 0))) (.block 1 (.reg [o 43 (.mv (.t 1)), o 44 (.bin .add (.t 43) (.c (.int .i64 1))), o 1 (.mv (.t 44))]))))) (.seq (.reg [o 45 (.mv (.t 0)), o 46 (.mv (.t 9)), o 47 (.mv (.t 1)), o 48 (.slS (.t 45) (some (.t 46)) (some (.t 47))), o 49 (.pcall 39 [.t 48]), o 50 (.fldA 1 (.t 8)), ⟨none, .st 1 (.t 50) (.t 49), none⟩]) (.seq (.reg [o 10 (.mv (.c (.bool false)))]) (.seq (.block 2 (.loop (.seq (.seq (.reg [o 51 (.mv (.t 1)), o 52 (.mv (.t 0)), o 53 (.lenS (.t 52)), o 54 (.bin .lss (.t 51) (.t 53))]) (.cond (.t 54) .skip (.exit 2))) (.block 3 (.seq (.seq (.reg [o 55 (.mv (.t 0)), o 56 (.mv (.t 1)), o 57 (.idxS (.t 55) (.t 56)), o 58 (.pcall 15 [.t 57]), o 59 (.mv (.t 58)), ⟨some 60, .mv (.t 0), some (59, false)⟩, ⟨some 61, .mv (.t 1), some (59, false)⟩, ⟨some 62, .idxS (.t 60) (.t 61), some (59, false)⟩, ⟨some 63, .bin .eql (.t 62) (.c (.int .u8 47)), some (59, false)⟩, o 64 (.pick (.t 59) (.c (.bool true)) (.t 63))]) (.cond (.t 64) (.seq (.reg [o 65 (.mv (.t 0)), o 66 (.mv (.t 1)), o 67 (.idxS (.t 65) (.t 66)), o 68 (.bin .eql (.t 67) (.c (.int .u8 47))), o 10 (.mv (.t 68))]) (.seq (.reg [o 69 (.mv (.t 1)), o 70 (.bin .add (.t 69) (.c (.int .i64 1))), o 1 (.mv (.t 70))]) (.exit 3))) .skip)) (.seq (.seq (.reg [o 71 (.mv (.t 0)), o 72 (.mv (.t 1)), o 73 (.idxS (.t 71) (.t 72)), o 74 (.bin .eql (.t 73) (.c (.int .u8 62)))]) (.cond (.t 74) (.seq (.reg [o 75 (.mv (.t 10)), o 76 (.fldA 4 (.t 8)), ⟨none, .st 1 (.t 76) (.t 75), none⟩]) (.seq (.reg [o 77 (.ld 7 true (.t 8)), o 78 (.mv (.t 1)), o 79 (.bin .add (.t 78) (.c (.int .i64 1))), ⟨none, .st 7 (.t 6) (.t 77), none⟩, o 7 (.mv (.t 79))]) .ret)) .skip)) (.seq (.reg [o 10 (.mv (.c (.bool false)))]) (.seq (.reg [o 80 (.mv (.t 1)), o 9 (.mv (.t 80))]) (.seq (.reg [o 81 (.mv (.t 1)), o 82 (.bin .add (.t 81) (.c (.int .i64 1))), o 1 (.mv (.t 82))]) (.seq (.block 4 (.loop (.seq (.seq (.reg [o 83 (.mv (.t 1)), o 84 (.mv (.t 0)), o 85 (.lenS (.t 84)), o 86 (.bin .lss (.t 83) (.t 85)), o 87 (.mv (.t 86)), ⟨some 88, .mv (.t 0), some (87, true)⟩, ⟨some 89, .mv (.t 1), some (87, true)⟩, ⟨some 90, .idxS (.t 88) (.t 89), some (87, true)⟩, ⟨some 91, .pcall 15 [.t 90], some (87, true)⟩, ⟨some 92, .un .not (.t 91), some (87, true)⟩, o 93 (.pick (.t 87) (.t 92) (.c (.bool false))), o 94 (.mv (.t 93)), ⟨some 95, .mv (.t 0), some (94, true)⟩, ⟨some 96, .mv (.t 1), some (94, true)⟩, ⟨some 97, .idxS (.t 95) (.t 96), some (94, true)⟩, ⟨some 98, .bin .neq (.t 97) (.c (.int .u8 47)), some (94, true)⟩, o 99 (.pick (.t 94) (.t 98) (.c (.bool false))), o 100 (.mv (.t 99)), ⟨some 101, .mv (.t 0), some (100, true)⟩, ⟨some 102, .mv (.t 1), some (100, true)⟩, ⟨some 103, .idxS (.t 101) (.t 102), some (100, true)⟩, ⟨some 104, .bin .neq (.t 103) (.c (.int .u8 62)), some (100, true)⟩, o 105 (.pick (.t 100) (.t 104) (.c (.bool false))), o 106 (.mv (.t 105)), ⟨some 107, .mv (.t 0), some (106, true)⟩, ⟨some 108, .mv (.t 1), some (106, true)⟩, ⟨some 109, .idxS (.t 107) (.t 108), some (106, true)⟩, ⟨some 110, .bin .neq (.t 109) (.c (.int .u8 61)), some (106, true)⟩, o 111 (.pick (.t 106) (.t 110) (.c (.bool false)))]) (.cond (.t 111) .skip (.exit 4))) (.block 5 (.reg [o 112 (.mv (.t 1)), o 113 (.bin .add (.t 112) (.c (.int .i64 1))), o 1 (.mv (.t 113))]))))) (.seq (.reg [o 114 (.mv (.t 0)), o 115 (.mv (.t 9)), o 116 (.mv (.t 1)), o 117 (.slS (.t 114) (some (.t 115)) (some (.t 116))), o 118 (.pcall 40 [.t 117]), o 11 (.mv (.t 118)), o 12 (.mv (.c (.str [])))]) (.seq (.block 6 (.loop (.seq (.seq (.reg [o 119 (.mv (.t 1)), o 120 (.mv (.t 0)), o 121 (.lenS (.t 120)), o 122 (.bin .lss (.t 119) (.t 121)), o 123 (.mv (.t 122)), ⟨some 124, .mv (.t 0), some (123, true)⟩, ⟨some 125, .mv (.t 1), some (123, true)⟩, ⟨some 126, .idxS (.t 124) (.t 125), some (123, true)⟩, ⟨some 127, .pcall 15 [.t 126], some (123, true)⟩, o 128 (.pick (.t 123) (.t 127) (.c (.bool false)))]) (.cond (.t 128) .skip (.exit 6))) (.block 7 (.reg [o 129 (.mv (.t 1)), o 130 (.bin .add (.t 129) (.c (.int .i64 1))), o 1 (.mv (.t 130))]))))) (.seq (.seq (.reg [o 131 (.mv (.t 1)), o 132 (.mv (.t 0)), o 133 (.lenS (.t 132)), o 134 (.bin .lss (.t 131) (.t 133)), o 135 (.mv (.t 134)), ⟨some 136, .mv (.t 0), some (135, true)⟩, ⟨some 137, .mv (.t 1), some (135, true)⟩, ⟨some 138, .idxS (.t 136) (.t 137), some (135, true)⟩, ⟨some 139, .bin .eql (.t 138) (.c (.int .u8 61)), some (135, true)⟩, o 140 (.pick (.t 135) (.t 139) (.c (.bool false)))]) (.cond (.t 140) (.seq (.reg [o 141 (.mv (.t 1)), o 142 (.bin .add (.t 141) (.c (.int .i64 1))), o 1 (.mv (.t 142))]) (.seq (.block 8 (.loop (.seq (.seq (.reg [o 143 (.mv (.t 1)), o 144 (.mv (.t 0)), o 145 (.lenS (.t 144)), o 146 (.bin .lss (.t 143) (.t 145)), o 147 (.mv (.t 146)), ⟨some 148, .mv (.t 0), some (147, true)⟩, ⟨some 149, .mv (.t 1), some (147, true)⟩, ⟨some 150, .idxS (.t 148) (.t 149), some (147, true)⟩, ⟨some 151, .pcall 15 [.t 150], some (147, true)⟩, o 152 (.pick (.t 147) (.t 151) (.c (.bool false)))]) (.cond (.t 152) .skip (.exit 8))) (.block 9 (.reg [o 153 (.mv (.t 1)), o 154 (.bin .add (.t 153) (.c (.int .i64 1))), o 1 (.mv (.t 154))]))))) (.seq (.reg [o 155 (.mv (.t 1)), o 156 (.mv (.t 0)), o 157 (.lenS (.t 156)), o 158 (.bin .lss (.t 155) (.t 157)), o 159 (.mv (.t 158)), ⟨some 160, .mv (.t 0), some (159, true)⟩, ⟨some 161, .mv (.t 1), some (159, true)⟩, ⟨some 162, .idxS (.t 160) (.t 161), some (159, true)⟩, ⟨some 163, .bin .eql (.t 162) (.c (.int .u8 34)), some (159, true)⟩, ⟨some 164, .mv (.t 163), some (159, true)⟩, ⟨some 165, .mv (.t 0), some (164, false)⟩, ⟨some 166, .mv (.t 1), some (164, false)⟩, ⟨some 167, .idxS (.t 165) (.t 166), some (164, false)⟩, ⟨some 168, .bin .eql (.t 167) (.c (.int .u8 39)), some (164, false)⟩, ⟨some 169, .pick (.t 164) (.c (.bool true)) (.t 168), some (159, true)⟩, o 170 (.pick (.t 159) (.t 169) (.c (.bool false)))]) (.cond (.t 170) (.seq (.reg [o 172 (.mv (.t 0)), o 173 (.mv (.t 1)), o 174 (.bin .add (.t 173) (.c (.int .i64 1))), o 175 (.mv (.t 0)), o 176 (.mv (.t 1)), o 177 (.mv (.t 1)), o 178 (.bin .add (.t 177) (.c (.int .i64 1))), o 179 (.slS (.t 175) (some (.t 176)) (some (.t 178))), o 180 (.pcall 41 [.t 172, .t 174, .t 179]), o 171 (.mv (.t 180)), o 181 (.ext (.t 171) 0), o 182 (.ext (.t 171) 1), o 13 (.mv (.t 181)), o 14 (.mv (.t 182))]) (.seq (.seq (.reg [o 183 (.mv (.t 14)), o 184 (.un .not (.t 183))]) (.cond (.t 184) (.seq (.reg [o 185 (.ld 7 true (.t 8)), ⟨none, .st 7 (.t 6) (.t 185), none⟩, o 7 (.mv (.c (.int .i64 (-1))))]) .ret) .skip)) (.seq (.reg [o 186 (.mv (.t 0)), o 187 (.mv (.t 1)), o 188 (.bin .add (.t 187) (.c (.int .i64 1))), o 189 (.mv (.t 13)), o 190 (.slS (.t 186) (some (.t 188)) (some (.t 189))), o 12 (.mv (.t 190))]) (.reg [o 191 (.mv (.t 13)), o 192 (.bin .add (.t 191) (.c (.int .i64 1))), o 1 (.mv (.t 192))])))) (.seq (.reg [o 193 (.mv (.t 1)), o 9 (.mv (.t 193))]) (.seq (.block 10 (.loop (.seq (.seq (.reg [o 194 (.mv (.t 1)), o 195 (.mv (.t 0)), o 196 (.lenS (.t 195)), o 197 (.bin .lss (.t 194) (.t 196)), o 198 (.mv (.t 197)), ⟨some 199, .mv (.t 0), some (198, true)⟩, ⟨some 200, .mv (.t 1), some (198, true)⟩, ⟨some 201, .idxS (.t 199) (.t 200), some (198, true)⟩, ⟨some 202, .pcall 15 [.t 201], some (198, true)⟩, ⟨some 203, .un .not (.t 202), some (198, true)⟩, o 204 (.pick (.t 198) (.t 203) (.c (.bool false))), o 205 (.mv (.t 204)), ⟨some 206, .mv (.t 0), some (205, true)⟩, ⟨some 207, .mv (.t 1), some (205, true)⟩, ⟨some 208, .idxS (.t 206) (.t 207), some (205, true)⟩, ⟨some 209, .bin .neq (.t 208) (.c (.int .u8 62)), some (205, true)⟩, o 210 (.pick (.t 205) (.t 209) (.c (.bool false)))]) (.cond (.t 210) .skip (.exit 10))) (.block 11 (.reg [o 211 (.mv (.t 1)), o 212 (.bin .add (.t 211) (.c (.int .i64 1))), o 1 (.mv (.t 212))]))))) (.reg [o 213 (.mv (.t 0)), o 214 (.mv (.t 9)), o 215 (.mv (.t 1)), o 216 (.slS (.t 213) (some (.t 214)) (some (.t 215))), o 12 (.mv (.t 216))]))))))) .skip)) (.seq (.reg [o 218 (.fldA 2 (.t 8)), o 219 (.ld 1 false (.t 218)), o 220 (.mv (.t 11)), o 221 (.call (.c (.fn 42 [] [])) [.t 219, .t 220]), o 217 (.mv (.t 221)), o 222 (.ext (.t 217) 0), o 223 (.ext (.t 217) 1), o 15 (.mv (.t 222)), o 16 (.mv (.t 223))]) (.seq (.reg [o 224 (.mv (.t 16)), o 225 (.un .not (.t 224))]) (.cond (.t 225) (.dreg [(o 226 (.fldA 2 (.t 8)), none), (o 227 (.ld 1 false (.t 226)), none), (o 228 (.mv (.t 11)), none), (o 229 (.mv (.t 12)), none), (o 230 (.pcall 18 [.t 229, .c (.bool true)]), none), (o 231 (.bld [.str [], .str []] [(0, (1, (.t 228))), (1, (1, (.t 230)))]), none), (o 232 (.bldF 45 2 [.t 231]), none), (o 233 (.app 45 2 32 (.t 227) (.t 232)), (some [227])), (o 234 (.fldA 2 (.t 8)), none), (⟨none, .st 1 (.t 234) (.t 233), none⟩, (some [227]))]) .skip)))))))))))))))) (.seq (.reg [o 235 (.ld 7 true (.t 8)), ⟨none, .st 7 (.t 6) (.t 235), none⟩, o 7 (.mv (.c (.int .i64 (-1))))]) .ret))))))), [.cell 6 7 true, .tmp 7]⟩
theorem hc19 : Y5 Tryz.prog {pure := [15, 39, 40, 41, 18]} Tryz.f19 = some c19 := by kernel_rfl
def cL : SCode -> SCode
  | .seq a _ => a
  | c => c
def cR : SCode -> SCode
  | .seq _ b => b
  | c => c
def cB : SCode -> SCode
  | .block _ c => c
  | .loop c => c
  | c => c
def cT : SCode -> SCode
  | .cond _ a _ => a
  | c => c
def cE : SCode -> SCode
  | .cond _ _ b => b
  | c => c
def inT : SCode := cR (cR (cB (cR (cB (cB (cL (cR (cR (cR (cR (cR (cR c19.code))))))))))))
def inV : SCode := cT (cR (cL (cR (cR (cR (cR (cR (cR inT))))))))
def Fr (lo hi : Nat) (e0 e : Env) : Prop := ∀ t, t < lo \/ hi < t -> t ≠ 1 -> e t = e0 t
theorem Fr.refl (lo hi : Nat) (e : Env) : Fr lo hi e e := fun _ _ _ => rfl
theorem Fr.put {lo hi : Nat} {e0 e : Env} (F : Fr lo hi e0 e) {k : Nat} (hk : (lo <= k /\ k <= hi) \/ k = 1) (v : AVal) : Fr lo hi e0 (upd e k v) := fun t h1 h2 => by
  rw [Q9 _ _ (by omega)]; exact F t h1 h2
abbrev RunOK (G : JU) (code : SCode) (q : Int -> Bool) (lo hi : Nat) : Prop := ∀ {s : List UInt8} {e : Env} {h : Q2} {K : SExit -> Env -> Q2 -> Prop} {j : Nat}, e 0 = .str s -> e 1 = Q3 j -> j <= s.length -> s.length <= 4000000 ->
  (∀ e' : Env, Fr lo hi e e' -> e' 1 = Q3 (Z4 q s j) -> K .normal e' h) -> vc (Pg G) code K e h
def run1 : SCode := cL (cR (cR (cR c19.code)))
theorem run1_ok : RunOK G run1 Z9 20 44 := by
  intro s e h K j e0 e1 hj hs hK
  skip
  simp -dsimp -implicitDefEqProofs (disch := omega) only [VCA, run1, cL, cR, c19]
  refine LoopVC.intro (fun m e' h' => ∃ i : Nat, i <= s.length /\ m = s.length - i /\ Fr 20 44 e e' /\ e' 1 = Q3 i /\ h' = h /\ Z4 Z9 s i = Z4 Z9 s j) (s.length - j)
    (by exact ⟨j, hj, rfl, .refl _ _ _, e1, rfl, rfl⟩) ?_
  rintro m e' h' ⟨i, hi, rfl, hp, e1', rfl, hsk⟩
  have e0' : e' 0 = .str s := (hp 0 (by omega) (by omega)).trans e0
  by_cases hl : i < s.length
  · obtain ⟨b, hb⟩ : ∃ b, s.getD i 0 = b := ⟨_, rfl⟩
    have eb : bt s i = b.toNat := by unfold bt; rw [hb]
    have cB' := U2 (G := G) b
    have hd : decide ((i : Int) < (s.length : Int)) = true := decide_eq_true (by omega)
    cases hb1 : U6 b.toNat <;> rw [hb1] at cB'
    · by_cases h47 : (b.toNat : Int) = 47
      · have n47 : ((b.toNat : Int) != 47) = false := by simpa using h47
        have hst : Z9 (bt s i) = true := by rw [eb]; unfold Z9; simp [h47]
        have hx : Z4 Z9 s i = i := Y9 (q := fun i => Z9 (bt s i)) hst hl
        repeat' (first | ((with_reducible refine brC (fun _ => ?_) fun _ => ?_) <;> try (exfalso; omega)) | (with_reducible apply pcallE.of; · exact cB') | (with_reducible refine And.intro ?_ ?_; · omega) | simp -dsimp -implicitDefEqProofs (disch := omega) only [↓Q0 24, ↓Q0 31, ↓Q0 37, VCA, Nat.reduceEqDiff, ↓reduceIte, reduceCtorEq, e0', e1', hb, hd, n47])
        exact hK _ (by repeat' (first | exact hp | refine Fr.put ?_ (by omega) _)) (by rw [<- hsk, hx]; exact e1')
      · have n47 : ((b.toNat : Int) != 47) = true := by simpa using h47
        by_cases h62 : (b.toNat : Int) = 62
        · have n62 : ((b.toNat : Int) != 62) = false := by simpa using h62
          have hst : Z9 (bt s i) = true := by rw [eb]; unfold Z9; simp [h62]
          have hx : Z4 Z9 s i = i := Y9 (q := fun i => Z9 (bt s i)) hst hl
          repeat' (first | ((with_reducible refine brC (fun _ => ?_) fun _ => ?_) <;> try (exfalso; omega)) | (with_reducible apply pcallE.of; · exact cB') | (with_reducible refine And.intro ?_ ?_; · omega) | simp -dsimp -implicitDefEqProofs (disch := omega) only [↓Q0 24, ↓Q0 31, ↓Q0 37, VCA, Nat.reduceEqDiff, ↓reduceIte, reduceCtorEq, e0', e1', hb, hd, n47, n62])
          exact hK _ (by repeat' (first | exact hp | refine Fr.put ?_ (by omega) _)) (by rw [<- hsk, hx]; exact e1')
        · have n62 : ((b.toNat : Int) != 62) = true := by simpa using h62
          have hst : Z9 (bt s i) = false := by rw [eb]; unfold Z9; simp [hb1, h47, h62]
          have hx : Z4 Z9 s i = Z4 Z9 s (i + 1) := W4 (q := fun i => Z9 (bt s i)) hl hst
          repeat' (first | ((with_reducible refine brC (fun _ => ?_) fun _ => ?_) <;> try (exfalso; omega)) | (with_reducible apply pcallE.of; · exact cB') | (with_reducible refine And.intro ?_ ?_; · omega) | simp -dsimp -implicitDefEqProofs (disch := omega) only [↓Q0 24, ↓Q0 31, ↓Q0 37, VCA, Nat.reduceEqDiff, ↓reduceIte, reduceCtorEq, e0', e1', hb, hd, n47, n62])
          exact ⟨_, by omega, i + 1, by omega, rfl, by repeat' (first | exact hp | refine Fr.put ?_ (by omega) _), by omega, hx.symm.trans hsk⟩
    · have hst : Z9 (bt s i) = true := by rw [eb]; unfold Z9; simp [hb1]
      have hx : Z4 Z9 s i = i := Y9 (q := fun i => Z9 (bt s i)) hst hl
      repeat' (first | ((with_reducible refine brC (fun _ => ?_) fun _ => ?_) <;> try (exfalso; omega)) | (with_reducible apply pcallE.of; · exact cB') | (with_reducible refine And.intro ?_ ?_; · omega) | simp -dsimp -implicitDefEqProofs (disch := omega) only [↓Q0 24, ↓Q0 31, ↓Q0 37, VCA, Nat.reduceEqDiff, ↓reduceIte, reduceCtorEq, e0', e1', hb, hd])
      exact hK _ (by repeat' (first | exact hp | refine Fr.put ?_ (by omega) _)) (by rw [<- hsk, hx]; exact e1')
  · have hx : Z4 Z9 s i = i := U5 (q := fun i => Z9 (bt s i)) (by omega)
    have hd : decide ((i : Int) < (s.length : Int)) = false := decide_eq_false (by omega)
    repeat' (first | ((with_reducible refine brC (fun _ => ?_) fun _ => ?_) <;> try (exfalso; omega)) | (with_reducible refine And.intro ?_ ?_; · omega) | simp -dsimp -implicitDefEqProofs (disch := omega) only [↓Q0 24, ↓Q0 31, ↓Q0 37, VCA, Nat.reduceEqDiff, ↓reduceIte, reduceCtorEq, e0', e1', hd])
    all_goals first | (exfalso; omega) | exact hK _ (by repeat' (first | exact hp | refine Fr.put ?_ (by omega) _)) (by rw [<- hsk, hx]; exact e1')
def run2 : SCode := cL (cR (cR (cR inT)))
theorem run2_ok : RunOK G run2 Y2 83 113 := by
  intro s e h K j e0 e1 hj hs hK
  skip
  simp -dsimp -implicitDefEqProofs (disch := omega) only [VCA, run2, inT, cL, cR, cB, c19]
  refine LoopVC.intro (fun m e' h' => ∃ i : Nat, i <= s.length /\ m = s.length - i /\ Fr 83 113 e e' /\ e' 1 = Q3 i /\ h' = h /\ Z4 Y2 s i = Z4 Y2 s j) (s.length - j)
    (by exact ⟨j, hj, rfl, .refl _ _ _, e1, rfl, rfl⟩) ?_
  rintro m e' h' ⟨i, hi, rfl, hp, e1', rfl, hsk⟩
  have e0' : e' 0 = .str s := (hp 0 (by omega) (by omega)).trans e0
  by_cases hl : i < s.length
  · obtain ⟨b, hb⟩ : ∃ b, s.getD i 0 = b := ⟨_, rfl⟩
    have eb : bt s i = b.toNat := by unfold bt; rw [hb]
    have cB' := U2 (G := G) b
    have hd : decide ((i : Int) < (s.length : Int)) = true := decide_eq_true (by omega)
    cases hb1 : U6 b.toNat <;> rw [hb1] at cB'
    · by_cases h47 : (b.toNat : Int) = 47
      · have n47 : ((b.toNat : Int) != 47) = false := by simpa using h47
        have hst : Y2 (bt s i) = true := by rw [eb]; unfold Y2; simp [h47]
        have hx : Z4 Y2 s i = i := Y9 (q := fun i => Y2 (bt s i)) hst hl
        repeat' (first | ((with_reducible refine brC (fun _ => ?_) fun _ => ?_) <;> try (exfalso; omega)) | (with_reducible apply pcallE.of; · exact cB') | (with_reducible refine And.intro ?_ ?_; · omega) | simp -dsimp -implicitDefEqProofs (disch := omega) only [↓Q0 87, ↓Q0 94, ↓Q0 100, ↓Q0 106, VCA, Nat.reduceEqDiff, ↓reduceIte, reduceCtorEq, e0', e1', hb, hd, n47])
        exact hK _ (by repeat' (first | exact hp | refine Fr.put ?_ (by omega) _)) (by rw [<- hsk, hx]; exact e1')
      · have n47 : ((b.toNat : Int) != 47) = true := by simpa using h47
        by_cases h62 : (b.toNat : Int) = 62
        · have n62 : ((b.toNat : Int) != 62) = false := by simpa using h62
          have hst : Y2 (bt s i) = true := by rw [eb]; unfold Y2; simp [h62]
          have hx : Z4 Y2 s i = i := Y9 (q := fun i => Y2 (bt s i)) hst hl
          repeat' (first | ((with_reducible refine brC (fun _ => ?_) fun _ => ?_) <;> try (exfalso; omega)) | (with_reducible apply pcallE.of; · exact cB') | (with_reducible refine And.intro ?_ ?_; · omega) | simp -dsimp -implicitDefEqProofs (disch := omega) only [↓Q0 87, ↓Q0 94, ↓Q0 100, ↓Q0 106, VCA, Nat.reduceEqDiff, ↓reduceIte, reduceCtorEq, e0', e1', hb, hd, n47, n62])
          exact hK _ (by repeat' (first | exact hp | refine Fr.put ?_ (by omega) _)) (by rw [<- hsk, hx]; exact e1')
        · have n62 : ((b.toNat : Int) != 62) = true := by simpa using h62
          by_cases h61 : (b.toNat : Int) = 61
          · have n61 : ((b.toNat : Int) != 61) = false := by simpa using h61
            have hst : Y2 (bt s i) = true := by rw [eb]; unfold Y2; simp [h61]
            have hx : Z4 Y2 s i = i := Y9 (q := fun i => Y2 (bt s i)) hst hl
            repeat' (first | ((with_reducible refine brC (fun _ => ?_) fun _ => ?_) <;> try (exfalso; omega)) | (with_reducible apply pcallE.of; · exact cB') | (with_reducible refine And.intro ?_ ?_; · omega) | simp -dsimp -implicitDefEqProofs (disch := omega) only [↓Q0 87, ↓Q0 94, ↓Q0 100, ↓Q0 106, VCA, Nat.reduceEqDiff, ↓reduceIte, reduceCtorEq, e0', e1', hb, hd, n47, n62, n61])
            exact hK _ (by repeat' (first | exact hp | refine Fr.put ?_ (by omega) _)) (by rw [<- hsk, hx]; exact e1')
          · have n61 : ((b.toNat : Int) != 61) = true := by simpa using h61
            have hst : Y2 (bt s i) = false := by rw [eb]; unfold Y2; simp [hb1, h47, h62, h61]
            have hx : Z4 Y2 s i = Z4 Y2 s (i + 1) := W4 (q := fun i => Y2 (bt s i)) hl hst
            repeat' (first | ((with_reducible refine brC (fun _ => ?_) fun _ => ?_) <;> try (exfalso; omega)) | (with_reducible apply pcallE.of; · exact cB') | (with_reducible refine And.intro ?_ ?_; · omega) | simp -dsimp -implicitDefEqProofs (disch := omega) only [↓Q0 87, ↓Q0 94, ↓Q0 100, ↓Q0 106, VCA, Nat.reduceEqDiff, ↓reduceIte, reduceCtorEq, e0', e1', hb, hd, n47, n62, n61])
            exact ⟨_, by omega, i + 1, by omega, rfl, by repeat' (first | exact hp | refine Fr.put ?_ (by omega) _), by omega, hx.symm.trans hsk⟩
    · have hst : Y2 (bt s i) = true := by rw [eb]; unfold Y2; simp [hb1]
      have hx : Z4 Y2 s i = i := Y9 (q := fun i => Y2 (bt s i)) hst hl
      repeat' (first | ((with_reducible refine brC (fun _ => ?_) fun _ => ?_) <;> try (exfalso; omega)) | (with_reducible apply pcallE.of; · exact cB') | (with_reducible refine And.intro ?_ ?_; · omega) | simp -dsimp -implicitDefEqProofs (disch := omega) only [↓Q0 87, ↓Q0 94, ↓Q0 100, ↓Q0 106, VCA, Nat.reduceEqDiff, ↓reduceIte, reduceCtorEq, e0', e1', hb, hd])
      exact hK _ (by repeat' (first | exact hp | refine Fr.put ?_ (by omega) _)) (by rw [<- hsk, hx]; exact e1')
  · have hx : Z4 Y2 s i = i := U5 (q := fun i => Y2 (bt s i)) (by omega)
    have hd : decide ((i : Int) < (s.length : Int)) = false := decide_eq_false (by omega)
    repeat' (first | ((with_reducible refine brC (fun _ => ?_) fun _ => ?_) <;> try (exfalso; omega)) | (with_reducible refine And.intro ?_ ?_; · omega) | simp -dsimp -implicitDefEqProofs (disch := omega) only [↓Q0 87, ↓Q0 94, ↓Q0 100, ↓Q0 106, VCA, Nat.reduceEqDiff, ↓reduceIte, reduceCtorEq, e0', e1', hd])
    all_goals first | (exfalso; omega) | exact hK _ (by repeat' (first | exact hp | refine Fr.put ?_ (by omega) _)) (by rw [<- hsk, hx]; exact e1')
def run3 : SCode := cL (cR (cR (cR (cR (cR inT)))))
theorem run3_ok : RunOK G run3 Z0 119 130 := by
  intro s e h K j e0 e1 hj hs hK
  skip
  simp -dsimp -implicitDefEqProofs (disch := omega) only [VCA, run3, inT, cL, cR, cB, c19]
  refine LoopVC.intro (fun m e' h' => ∃ i : Nat, i <= s.length /\ m = s.length - i /\ Fr 119 130 e e' /\ e' 1 = Q3 i /\ h' = h /\ Z4 Z0 s i = Z4 Z0 s j) (s.length - j)
    (by exact ⟨j, hj, rfl, .refl _ _ _, e1, rfl, rfl⟩) ?_
  rintro m e' h' ⟨i, hi, rfl, hp, e1', rfl, hsk⟩
  have e0' : e' 0 = .str s := (hp 0 (by omega) (by omega)).trans e0
  by_cases hl : i < s.length
  · obtain ⟨b, hb⟩ : ∃ b, s.getD i 0 = b := ⟨_, rfl⟩
    have eb : bt s i = b.toNat := by unfold bt; rw [hb]
    have cB' := U2 (G := G) b
    have hd : decide ((i : Int) < (s.length : Int)) = true := decide_eq_true (by omega)
    cases hb1 : U6 b.toNat <;> rw [hb1] at cB'
    · have hst : Z0 (bt s i) = true := by rw [eb]; unfold Z0; simp [hb1]
      have hx : Z4 Z0 s i = i := Y9 (q := fun i => Z0 (bt s i)) hst hl
      repeat' (first | ((with_reducible refine brC (fun _ => ?_) fun _ => ?_) <;> try (exfalso; omega)) | (with_reducible apply pcallE.of; · exact cB') | (with_reducible refine And.intro ?_ ?_; · omega) | simp -dsimp -implicitDefEqProofs (disch := omega) only [↓Q0 123, VCA, Nat.reduceEqDiff, ↓reduceIte, reduceCtorEq, e0', e1', hb, hd])
      exact hK _ (by repeat' (first | exact hp | refine Fr.put ?_ (by omega) _)) (by rw [<- hsk, hx]; exact e1')
    · have hst : Z0 (bt s i) = false := by rw [eb]; unfold Z0; simp [hb1]
      have hx : Z4 Z0 s i = Z4 Z0 s (i + 1) := W4 (q := fun i => Z0 (bt s i)) hl hst
      repeat' (first | ((with_reducible refine brC (fun _ => ?_) fun _ => ?_) <;> try (exfalso; omega)) | (with_reducible apply pcallE.of; · exact cB') | (with_reducible refine And.intro ?_ ?_; · omega) | simp -dsimp -implicitDefEqProofs (disch := omega) only [↓Q0 123, VCA, Nat.reduceEqDiff, ↓reduceIte, reduceCtorEq, e0', e1', hb, hd])
      exact ⟨_, by omega, i + 1, by omega, rfl, by repeat' (first | exact hp | refine Fr.put ?_ (by omega) _), by omega, hx.symm.trans hsk⟩
  · have hx : Z4 Z0 s i = i := U5 (q := fun i => Z0 (bt s i)) (by omega)
    have hd : decide ((i : Int) < (s.length : Int)) = false := decide_eq_false (by omega)
    repeat' (first | ((with_reducible refine brC (fun _ => ?_) fun _ => ?_) <;> try (exfalso; omega)) | (with_reducible refine And.intro ?_ ?_; · omega) | simp -dsimp -implicitDefEqProofs (disch := omega) only [↓Q0 123, VCA, Nat.reduceEqDiff, ↓reduceIte, reduceCtorEq, e0', e1', hd])
    all_goals first | (exfalso; omega) | exact hK _ (by repeat' (first | exact hp | refine Fr.put ?_ (by omega) _)) (by rw [<- hsk, hx]; exact e1')
def run4 : SCode := cL (cR inV)
theorem run4_ok : RunOK G run4 Z0 143 154 := by
  intro s e h K j e0 e1 hj hs hK
  skip
  simp -dsimp -implicitDefEqProofs (disch := omega) only [VCA, run4, inT, inV, cL, cR, cB, cT, c19]
  refine LoopVC.intro (fun m e' h' => ∃ i : Nat, i <= s.length /\ m = s.length - i /\ Fr 143 154 e e' /\ e' 1 = Q3 i /\ h' = h /\ Z4 Z0 s i = Z4 Z0 s j) (s.length - j)
    (by exact ⟨j, hj, rfl, .refl _ _ _, e1, rfl, rfl⟩) ?_
  rintro m e' h' ⟨i, hi, rfl, hp, e1', rfl, hsk⟩
  have e0' : e' 0 = .str s := (hp 0 (by omega) (by omega)).trans e0
  by_cases hl : i < s.length
  · obtain ⟨b, hb⟩ : ∃ b, s.getD i 0 = b := ⟨_, rfl⟩
    have eb : bt s i = b.toNat := by unfold bt; rw [hb]
    have cB' := U2 (G := G) b
    have hd : decide ((i : Int) < (s.length : Int)) = true := decide_eq_true (by omega)
    cases hb1 : U6 b.toNat <;> rw [hb1] at cB'
    · have hst : Z0 (bt s i) = true := by rw [eb]; unfold Z0; simp [hb1]
      have hx : Z4 Z0 s i = i := Y9 (q := fun i => Z0 (bt s i)) hst hl
      repeat' (first | ((with_reducible refine brC (fun _ => ?_) fun _ => ?_) <;> try (exfalso; omega)) | (with_reducible apply pcallE.of; · exact cB') | (with_reducible refine And.intro ?_ ?_; · omega) | simp -dsimp -implicitDefEqProofs (disch := omega) only [↓Q0 147, VCA, Nat.reduceEqDiff, ↓reduceIte, reduceCtorEq, e0', e1', hb, hd])
      exact hK _ (by repeat' (first | exact hp | refine Fr.put ?_ (by omega) _)) (by rw [<- hsk, hx]; exact e1')
    · have hst : Z0 (bt s i) = false := by rw [eb]; unfold Z0; simp [hb1]
      have hx : Z4 Z0 s i = Z4 Z0 s (i + 1) := W4 (q := fun i => Z0 (bt s i)) hl hst
      repeat' (first | ((with_reducible refine brC (fun _ => ?_) fun _ => ?_) <;> try (exfalso; omega)) | (with_reducible apply pcallE.of; · exact cB') | (with_reducible refine And.intro ?_ ?_; · omega) | simp -dsimp -implicitDefEqProofs (disch := omega) only [↓Q0 147, VCA, Nat.reduceEqDiff, ↓reduceIte, reduceCtorEq, e0', e1', hb, hd])
      exact ⟨_, by omega, i + 1, by omega, rfl, by repeat' (first | exact hp | refine Fr.put ?_ (by omega) _), by omega, hx.symm.trans hsk⟩
  · have hx : Z4 Z0 s i = i := U5 (q := fun i => Z0 (bt s i)) (by omega)
    have hd : decide ((i : Int) < (s.length : Int)) = false := decide_eq_false (by omega)
    repeat' (first | ((with_reducible refine brC (fun _ => ?_) fun _ => ?_) <;> try (exfalso; omega)) | (with_reducible refine And.intro ?_ ?_; · omega) | simp -dsimp -implicitDefEqProofs (disch := omega) only [↓Q0 147, VCA, Nat.reduceEqDiff, ↓reduceIte, reduceCtorEq, e0', e1', hd])
    all_goals first | (exfalso; omega) | exact hK _ (by repeat' (first | exact hp | refine Fr.put ?_ (by omega) _)) (by rw [<- hsk, hx]; exact e1')
def run5 : SCode := cL (cR (cE (cR (cR (cR inV)))))
theorem run5_ok : RunOK G run5 X0 194 212 := by
  intro s e h K j e0 e1 hj hs hK
  skip
  simp -dsimp -implicitDefEqProofs (disch := omega) only [VCA, run5, inT, inV, cL, cR, cB, cT, cE, c19]
  refine LoopVC.intro (fun m e' h' => ∃ i : Nat, i <= s.length /\ m = s.length - i /\ Fr 194 212 e e' /\ e' 1 = Q3 i /\ h' = h /\ Z4 X0 s i = Z4 X0 s j) (s.length - j)
    (by exact ⟨j, hj, rfl, .refl _ _ _, e1, rfl, rfl⟩) ?_
  rintro m e' h' ⟨i, hi, rfl, hp, e1', rfl, hsk⟩
  have e0' : e' 0 = .str s := (hp 0 (by omega) (by omega)).trans e0
  by_cases hl : i < s.length
  · obtain ⟨b, hb⟩ : ∃ b, s.getD i 0 = b := ⟨_, rfl⟩
    have eb : bt s i = b.toNat := by unfold bt; rw [hb]
    have cB' := U2 (G := G) b
    have hd : decide ((i : Int) < (s.length : Int)) = true := decide_eq_true (by omega)
    cases hb1 : U6 b.toNat <;> rw [hb1] at cB'
    · by_cases h62 : (b.toNat : Int) = 62
      · have n62 : ((b.toNat : Int) != 62) = false := by simpa using h62
        have hst : X0 (bt s i) = true := by rw [eb]; unfold X0; simp [h62]
        have hx : Z4 X0 s i = i := Y9 (q := fun i => X0 (bt s i)) hst hl
        repeat' (first | ((with_reducible refine brC (fun _ => ?_) fun _ => ?_) <;> try (exfalso; omega)) | (with_reducible apply pcallE.of; · exact cB') | (with_reducible refine And.intro ?_ ?_; · omega) | simp -dsimp -implicitDefEqProofs (disch := omega) only [↓Q0 198, ↓Q0 205, VCA, Nat.reduceEqDiff, ↓reduceIte, reduceCtorEq, e0', e1', hb, hd, n62])
        exact hK _ (by repeat' (first | exact hp | refine Fr.put ?_ (by omega) _)) (by rw [<- hsk, hx]; exact e1')
      · have n62 : ((b.toNat : Int) != 62) = true := by simpa using h62
        have hst : X0 (bt s i) = false := by rw [eb]; unfold X0; simp [hb1, h62]
        have hx : Z4 X0 s i = Z4 X0 s (i + 1) := W4 (q := fun i => X0 (bt s i)) hl hst
        repeat' (first | ((with_reducible refine brC (fun _ => ?_) fun _ => ?_) <;> try (exfalso; omega)) | (with_reducible apply pcallE.of; · exact cB') | (with_reducible refine And.intro ?_ ?_; · omega) | simp -dsimp -implicitDefEqProofs (disch := omega) only [↓Q0 198, ↓Q0 205, VCA, Nat.reduceEqDiff, ↓reduceIte, reduceCtorEq, e0', e1', hb, hd, n62])
        exact ⟨_, by omega, i + 1, by omega, rfl, by repeat' (first | exact hp | refine Fr.put ?_ (by omega) _), by omega, hx.symm.trans hsk⟩
    · have hst : X0 (bt s i) = true := by rw [eb]; unfold X0; simp [hb1]
      have hx : Z4 X0 s i = i := Y9 (q := fun i => X0 (bt s i)) hst hl
      repeat' (first | ((with_reducible refine brC (fun _ => ?_) fun _ => ?_) <;> try (exfalso; omega)) | (with_reducible apply pcallE.of; · exact cB') | (with_reducible refine And.intro ?_ ?_; · omega) | simp -dsimp -implicitDefEqProofs (disch := omega) only [↓Q0 198, ↓Q0 205, VCA, Nat.reduceEqDiff, ↓reduceIte, reduceCtorEq, e0', e1', hb, hd])
      exact hK _ (by repeat' (first | exact hp | refine Fr.put ?_ (by omega) _)) (by rw [<- hsk, hx]; exact e1')
  · have hx : Z4 X0 s i = i := U5 (q := fun i => X0 (bt s i)) (by omega)
    have hd : decide ((i : Int) < (s.length : Int)) = false := decide_eq_false (by omega)
    repeat' (first | ((with_reducible refine brC (fun _ => ?_) fun _ => ?_) <;> try (exfalso; omega)) | (with_reducible refine And.intro ?_ ?_; · omega) | simp -dsimp -implicitDefEqProofs (disch := omega) only [↓Q0 198, ↓Q0 205, VCA, Nat.reduceEqDiff, ↓reduceIte, reduceCtorEq, e0', e1', hd])
    all_goals first | (exfalso; omega) | exact hK _ (by repeat' (first | exact hp | refine Fr.put ?_ (by omega) _)) (by rw [<- hsk, hx]; exact e1')
def Fl (e0 e : Env) : Prop := ∀ t, t <= 12 -> e t = e0 t
theorem Fl.refl (e : Env) : Fl e e := fun _ _ => rfl
theorem Fl.put {e0 e : Env} (F : Fl e0 e) {k : Nat} (hk : 12 < k) (v : AVal) : Fl e0 (upd e k v) := fun t h1 => by
  rw [Q9 _ _ (by omega)]; exact F t h1
def restC : SCode := cR (cR (cR (cR (cR (cR (cR inT))))))
theorem rest_ok {h0 h : Q2} {s : List UInt8} {e : Env} {K : SExit -> Env -> Q2 -> Prop} {r8 : Nat} {k : Int} {nm name value : List UInt8} {L : List HAttr} {l : AVal}
    (e8 : e 8 = .vp r8 0) (e11 : e 11 = .str name) (e12 : e 12 = .str value) (hv : value.length <= 4000000) (hL : L.length <= 4000000)
    (A : Acc h0 Ta 2 (L.map Z6) l h) (S : Sub h0 h) (n8 : h0 r8 = none) (z8 : h r8 = some ⟨Tt, 7, [QX k nm l false]⟩)
    (hK : ∀ (e' : Env) (h' : Q2) (l' : AVal), Fl e e' -> Acc h0 Ta 2 ((addA L ⟨name, K4 value true⟩).map Z6) l' h' -> Sub h0 h' -> h' r8 = some ⟨Tt, 7, [QX k nm l' false]⟩ ->
      (∀ r o, r ≠ r8 -> rootOf l ≠ some r -> h r = some o -> h' r = some o /\ rootOf l' ≠ some r) -> K .normal e' h') : vc (Pg G) restC K e h := by
  have cRd := refRead_ok (G := G) value true (by omega)
  obtain ⟨w, hw⟩ : ∃ w, K4 value true = w := ⟨_, rfl⟩
  rw [hw] at cRd hK
  have z8' := z8
  unfold QX at z8'
  have iv := Acc.isv A
  skip
  cases hany : L.any (fun y => y.name == name) with
  | true =>
    have e1 : addA L ⟨name, w⟩ = L := if_pos hany
    rw [e1] at hK
    simp -dsimp -implicitDefEqProofs (disch := omega) only [VCA, Nat.reduceEqDiff, Nat.reduceAdd, Nat.reduceLT, Nat.reduceLeDiff, ↓reduceIte, exists_eq_left', restC, inT, cL, cR, cB, c19, e8, e11, z8']
    refine DCalls.of (attrOwn_ok (G := G) L A name (by omega)) ?_
    rintro _ _ ⟨⟨v, rfl⟩, rfl⟩
    rw [hany]
    repeat' (first | ((with_reducible refine brC (fun _ => ?_) fun _ => ?_) <;> try (exfalso; omega)) | (with_reducible refine And.intro ?_ ?_; · omega) | simp -dsimp -implicitDefEqProofs (disch := omega) only [VCA, Nat.reduceEqDiff, Nat.reduceAdd, Nat.reduceLT, ↓reduceIte])
    refine hK _ _ l (by repeat' (first | exact .refl _ | refine Fl.put ?_ (by omega) _)) A S z8 ?_
    exact fun r o h1 h2 h3 => ⟨h3, h2⟩
  | false =>
    have e1 : addA L ⟨name, w⟩ = L ++ [⟨name, w⟩] := if_neg (by rw [hany]; simp)
    rw [e1] at hK
    simp -dsimp -implicitDefEqProofs (disch := omega) only [VCA, Nat.reduceEqDiff, Nat.reduceAdd, Nat.reduceLT, Nat.reduceLeDiff, ↓reduceIte, exists_eq_left', restC, inT, cL, cR, cB, c19, e8, e11, z8']
    refine DCalls.of (attrOwn_ok (G := G) L A name (by omega)) ?_
    rintro _ _ ⟨⟨v, rfl⟩, rfl⟩
    rw [hany]
    repeat' (first | ((with_reducible refine brC (fun _ => ?_) fun _ => ?_) <;> try (exfalso; omega)) | (with_reducible apply pcallE.of; · exact cRd) | (with_reducible refine And.intro ?_ ?_; · omega) | simp -dsimp -implicitDefEqProofs (disch := omega) only [VCA, Nat.reduceEqDiff, Nat.reduceAdd, Nat.reduceLT, Nat.reduceLeDiff, ↓reduceIte, Y8, Q7, J4, X7, Y6, forall_eq, exists_eq_left, exists_eq_left', J1, e8, e11, e12, z8'])
    have el : (L.map Z6).length = L.length := List.length_map ..
    refine A.appW S (by rw [el]; simp only [List.length_cons, List.length_nil]; omega) (by rw [el]; simp only [List.length_cons, List.length_nil]; omega) fun a' hD AD SD kD => ?_
    have kD8 := kD r8 _ z8 (JV A z8 (by decide))
    have d8 := kD8.1
    unfold QX at d8
    have iw := Acc.isv AD
    have em : L.map Z6 ++ [[.str name, .str w]] = (L ++ [(⟨name, w⟩ : HAttr)]).map Z6 := by rw [List.map_append]; rfl
    rw [em] at AD
    repeat' (first | ((with_reducible refine brC (fun _ => ?_) fun _ => ?_) <;> try (exfalso; omega)) | (with_reducible refine And.intro ?_ ?_; · omega) | simp -dsimp -implicitDefEqProofs (disch := omega) only [VCA, Nat.reduceEqDiff, Nat.reduceBEq, Nat.reduceAdd, Nat.reduceLT, Nat.reduceLeDiff, ↓reduceIte, Y8, Q7, SOp.rd, SI.rd, SX.rd, Z3, exists_eq_left', J1, e8, d8, iw.1, iw.2])
    exact hK _ _ a' (by repeat' (first | exact .refl _ | refine Fl.put ?_ (by omega) _)) (AD.keepA kD8.2 _) (SD.upd n8) (by rw [Z1]; rfl)
      (by exact fun r o h1 h2 h3 => ⟨by rw [Q9 _ _ h1]; exact (kD r o h3 h2).1, (kD r o h3 h2).2⟩)
def Fq (e0 e : Env) : Prop := ∀ t, t <= 11 -> t ≠ 1 -> t ≠ 9 -> e t = e0 t
theorem Fq.refl (e : Env) : Fq e e := fun _ _ _ _ => rfl
theorem Fq.put {e0 e : Env} (F : Fq e0 e) {k : Nat} (hk : 12 <= k \/ k = 1 \/ k = 9) (v : AVal) : Fq e0 (upd e k v) := fun t h1 h2 h3 => by
  rw [Q9 _ _ (by omega)]; exact F t h1 h2 h3
theorem Fq.run {lo hi : Nat} {e0 e e' : Env} (F : Fq e0 e) (R : Fr lo hi e e') (hl : 12 <= lo) : Fq e0 e' := fun t h1 h2 h3 => (R t (by omega) h2).trans (F t h1 h2 h3)
def valC : SCode := cL (cR (cR (cR (cR (cR (cR inT))))))
theorem val_ok {h : Q2} {s : List UInt8} {e : Env} {K : SExit -> Env -> Q2 -> Prop} {r6 r8 a b : Nat} {k : Int} {nm : List UInt8} {l : AVal}
    (hs : s.length <= 4000000) (e0 : e 0 = .str s) (e1 : e 1 = Q3 b) (e6 : e 6 = .vp r6 0) (e8 : e 8 = .vp r8 0) (e12 : e 12 = .str []) (hb : b <= s.length) (hab : atB s a = b)
    (m68 : r6 ≠ r8) (z6 : h r6 = some ⟨Tt, 7, [[Q3 0, .str [], .emp, .str [], .bool false, Q3 0, Q3 0]]⟩) (z8 : h r8 = some ⟨Tt, 7, [QX k nm l false]⟩)
    (lv : isV l = true /\ cellsOf l = [l])
    (hN : ∀ (e' : Env) (v : List UInt8), Fq e e' -> e' 1 = Q3 (ZK s a).2 -> e' 12 = .str v -> v.length <= 4000000 -> (ZK s a).1 = ⟨K8 (seg s a (atE s a)), K4 v true⟩ -> K .normal e' h)
    (hR : (ZK s a).2 = s.length -> ∀ (e' : Env), e' 6 = .vp r6 0 -> e' 7 = .int .i64 (-1) -> K .ret e' (upd h r6 (some ⟨Tt, 7, [QX k nm l false]⟩))) : vc (Pg G) valC K e h := by
  have z8' := z8
  unfold QX at z8'
  obtain ⟨A, hA⟩ : ∃ A, ZK s a = A := ⟨_, rfl⟩
  have hA' := hA
  unfold ZK at hA'
  rw [hab] at hA'
  rw [hA] at hN hR
  skip
  by_cases hbl : b < s.length
  · obtain ⟨q, hq⟩ : ∃ q, s.getD b 0 = q := ⟨_, rfl⟩
    have hbt : bt s b = q.toNat := by unfold bt; rw [hq]
    have hd : decide ((b : Int) < (s.length : Int)) = true := decide_eq_true (by omega)
    cases h61 : ((q.toNat : Int) == 61) with
    | false =>
      have he : TJ s b = false := by unfold TJ; rw [hbt, h61, Bool.and_false]
      rw [he, if_neg (by simp)] at hA'
      repeat' (first | ((with_reducible refine brC (fun _ => ?_) fun _ => ?_) <;> try (exfalso; omega)) | (with_reducible refine And.intro ?_ ?_; · omega) | simp -dsimp -implicitDefEqProofs (disch := omega) only [↓Q0 135, VCA, Nat.reduceEqDiff, ↓reduceIte, reduceCtorEq, valC, inT, cL, cR, cB, c19, e0, e1, hd, hq, h61])
      exact hN _ [] (by repeat' (first | exact .refl _ | refine Fq.put ?_ (by omega) _)) (by rw [<- hA']; simp [upd, e1]) (by simp [upd, e12]) (by simp) (by rw [<- hA', XY])
    | true =>
      have he : TJ s b = true := by unfold TJ; rw [hbt, h61, decide_eq_true hbl]; rfl
      rw [he, if_pos rfl] at hA'
      obtain ⟨c, hc⟩ : ∃ c, Z4 Z0 s (b + 1) = c := ⟨_, rfl⟩
      have hcl := T8 (q := Z0) (s := s) (a := b + 1) (by omega)
      rw [hc] at hA' hcl
      repeat' (first | ((with_reducible refine brC (fun _ => ?_) fun _ => ?_) <;> try (exfalso; omega)) | (with_reducible refine And.intro ?_ ?_; · omega) | simp -dsimp -implicitDefEqProofs (disch := omega) only [↓Q0 135, VCA, Nat.reduceEqDiff, ↓reduceIte, reduceCtorEq, valC, inT, cL, cR, cB, c19, e0, e1, hd, hq, h61])
      refine run4_ok (G := G) (j := b + 1) (s := s) ?_ ?_ (by omega) hs ?_
      · simp [upd, e0]
      · simp [upd]
      · intro e' F f1
        rw [hc] at f1
        have f0 : e' 0 = .str s := (F 0 (by omega) (by omega)).trans (by simp [upd, e0])
        have f6 : e' 6 = .vp r6 0 := (F 6 (by omega) (by omega)).trans (by simp [upd, e6])
        have f8 : e' 8 = .vp r8 0 := (F 8 (by omega) (by omega)).trans (by simp [upd, e8])
        have FQ : Fq e e' := Fq.run (by repeat' (first | exact .refl _ | refine Fq.put ?_ (by omega) _)) F (by omega)
        have plain : JQ s c = false -> A = (⟨K8 (seg s a (atE s a)), K4 (seg s c (Z4 X0 s c)) true⟩, Z4 X0 s c) := fun q => by
          rw [<- hA']; unfold valT; rw [if_neg (by rw [q]; simp)]
        by_cases hcl2 : c < s.length
        · obtain ⟨q2, hq2⟩ : ∃ q, s.getD c 0 = q := ⟨_, rfl⟩
          have hb2 : bt s c = q2.toNat := by unfold bt; rw [hq2]
          have hd2 : decide ((c : Int) < (s.length : Int)) = true := decide_eq_true (by omega)
          have h1 := one_at hcl2
          rw [hq2] at h1
          by_cases hqq : q2 = 34 \/ q2 = 39
          · have b1 : (((q2.toNat : Int) == 34) || ((q2.toNat : Int) == 39)) = true := by rcases hqq with rfl | rfl <;> rfl
            have hl : U1 q2.toNat = false := by rcases hqq with rfl | rfl <;> decide
            have hqa : JQ s c = true := by unfold JQ; rw [hb2, decide_eq_true hcl2]; simpa using b1
            obtain ⟨u, hu⟩ : ∃ u, upM s (c + 1) [q2] = u := ⟨_, rfl⟩
            have ul := up_le (s := s) (w := [q2]) (a := c + 1) (by omega)
            have cU : PCalls (Pg G) 41 [.str s, .int .i64 ((c : Int) + 1), .str [q2]] (.tup [Q3 (upM s (c + 1) [q2]), .bool (decide (upM s (c + 1) [q2] < s.length))]) := refUp_ok (G := G) s [q2] (c + 1) (by omega) hs (by simp)
            rw [hu] at cU ul
            have e1 : valT s c = (c + 1, u, if u < s.length then u + 1 else s.length) := by
              rw [up_quote hl (by omega)] at hu
              unfold valT; rw [if_pos hqa, hb2, hu]
            rw [e1] at hA'
            by_cases hul : u < s.length
            · rw [if_pos hul] at hA'
              rw [decide_eq_true hul] at cU
              rcases hqq with rfl | rfl
              · have b34 : (((34 : UInt8).toNat : Int) == 34) = true := rfl
                repeat' (first | ((with_reducible refine brC (fun _ => ?_) fun _ => ?_) <;> try (exfalso; omega)) | (with_reducible apply pcallE.of; · exact cU) | (with_reducible refine And.intro ?_ ?_; · omega) | simp -dsimp -implicitDefEqProofs (disch := omega) only [↓Q0 159, ↓Q0 164, VCA, Nat.reduceEqDiff, Nat.reduceAdd, Nat.reduceLT, ↓reduceIte, reduceCtorEq, f0, f1, hd2, hq2, h1, b34])
                exact hN _ (seg s (c + 1) u) (by repeat' (first | exact FQ | refine Fq.put ?_ (by omega) _)) (by rw [<- hA']; simp [upd]) (by simp [upd]; rfl) (by have := YY s (c + 1) u; omega) (by rw [<- hA'])
              · have b34 : (((39 : UInt8).toNat : Int) == 34) = false := rfl
                have b39 : (((39 : UInt8).toNat : Int) == 39) = true := rfl
                repeat' (first | ((with_reducible refine brC (fun _ => ?_) fun _ => ?_) <;> try (exfalso; omega)) | (with_reducible apply pcallE.of; · exact cU) | (with_reducible refine And.intro ?_ ?_; · omega) | simp -dsimp -implicitDefEqProofs (disch := omega) only [↓Q0 159, ↓Q0 164, VCA, Nat.reduceEqDiff, Nat.reduceAdd, Nat.reduceLT, ↓reduceIte, reduceCtorEq, f0, f1, hd2, hq2, h1, b34, b39])
                exact hN _ (seg s (c + 1) u) (by repeat' (first | exact FQ | refine Fq.put ?_ (by omega) _)) (by rw [<- hA']; simp [upd]) (by simp [upd]; rfl) (by have := YY s (c + 1) u; omega) (by rw [<- hA'])
            · rw [if_neg hul] at hA'
              rw [decide_eq_false hul] at cU
              rcases hqq with rfl | rfl
              · have b34 : (((34 : UInt8).toNat : Int) == 34) = true := rfl
                repeat' (first | ((with_reducible refine brC (fun _ => ?_) fun _ => ?_) <;> try (exfalso; omega)) | (with_reducible apply pcallE.of; · exact cU) | (with_reducible refine And.intro ?_ ?_; · omega) | simp -dsimp -implicitDefEqProofs (disch := omega) only [↓Q0 159, ↓Q0 164, VCA, Nat.reduceEqDiff, Nat.reduceAdd, Nat.reduceLT, ↓reduceIte, reduceCtorEq, Z3, exists_eq_left', f0, f1, f6, f8, hd2, hq2, h1, b34, z6, z8'])
                exact hR (by rw [<- hA']) _ (by simp [upd, f6]) (by simp [upd])
              · have b34 : (((39 : UInt8).toNat : Int) == 34) = false := rfl
                have b39 : (((39 : UInt8).toNat : Int) == 39) = true := rfl
                repeat' (first | ((with_reducible refine brC (fun _ => ?_) fun _ => ?_) <;> try (exfalso; omega)) | (with_reducible apply pcallE.of; · exact cU) | (with_reducible refine And.intro ?_ ?_; · omega) | simp -dsimp -implicitDefEqProofs (disch := omega) only [↓Q0 159, ↓Q0 164, VCA, Nat.reduceEqDiff, Nat.reduceAdd, Nat.reduceLT, ↓reduceIte, reduceCtorEq, Z3, exists_eq_left', f0, f1, f6, f8, hd2, hq2, h1, b34, b39, z6, z8'])
                exact hR (by rw [<- hA']) _ (by simp [upd, f6]) (by simp [upd])
          · have b34 : ((q2.toNat : Int) == 34) = false := by
              rw [beq_eq_false_iff_ne]; intro hh; exact hqq (.inl (VV (by simpa using hh)))
            have b39 : ((q2.toNat : Int) == 39) = false := by
              rw [beq_eq_false_iff_ne]; intro hh; exact hqq (.inr (VV (by simpa using hh)))
            have pl := plain (by unfold JQ; rw [hb2, b34, b39]; simp)
            repeat' (first | ((with_reducible refine brC (fun _ => ?_) fun _ => ?_) <;> try (exfalso; omega)) | (with_reducible refine And.intro ?_ ?_; · omega) | simp -dsimp -implicitDefEqProofs (disch := omega) only [↓Q0 159, ↓Q0 164, VCA, Nat.reduceEqDiff, ↓reduceIte, reduceCtorEq, f0, f1, hd2, hq2, b34, b39])
            refine run5_ok (G := G) (j := c) (s := s) ?_ ?_ (by omega) hs ?_
            · simp [upd, f0]
            · simp [upd, f1]
            · intro e'' F2 g1
              have g0 : e'' 0 = .str s := (F2 0 (by omega) (by omega)).trans (by simp [upd, f0])
              have g9 : e'' 9 = Q3 c := (F2 9 (by omega) (by omega)).trans (by simp [upd])
              have FQ2 : Fq e e'' := Fq.run (by repeat' (first | exact FQ | refine Fq.put ?_ (by omega) _)) F2 (by omega)
              have kl := T8 (q := X0) hcl.2
              obtain ⟨v, hv⟩ : ∃ v, Z4 X0 s c = v := ⟨_, rfl⟩
              rw [hv] at g1 kl pl
              repeat' (first | ((with_reducible refine brC (fun _ => ?_) fun _ => ?_) <;> try (exfalso; omega)) | (with_reducible refine And.intro ?_ ?_; · omega) | simp -dsimp -implicitDefEqProofs (disch := omega) only [VCA, Nat.reduceEqDiff, ↓reduceIte, g0, g1, g9])
              exact hN _ (seg s c v) (by repeat' (first | exact FQ2 | refine Fq.put ?_ (by omega) _)) (by rw [pl]; simp [upd, g1]) (by simp [upd]; rfl) (by have := YY s c v; omega) (by rw [pl])
        · have hd2 : decide ((c : Int) < (s.length : Int)) = false := decide_eq_false (by omega)
          have pl := plain (by unfold JQ; rw [decide_eq_false hcl2]; rfl)
          repeat' (first | ((with_reducible refine brC (fun _ => ?_) fun _ => ?_) <;> try (exfalso; omega)) | (with_reducible refine And.intro ?_ ?_; · omega) | simp -dsimp -implicitDefEqProofs (disch := omega) only [↓Q0 159, ↓Q0 164, VCA, Nat.reduceEqDiff, ↓reduceIte, reduceCtorEq, f0, f1, hd2])
          refine run5_ok (G := G) (j := c) (s := s) ?_ ?_ (by omega) hs ?_
          · simp [upd, f0]
          · simp [upd, f1]
          · intro e'' F2 g1
            have g0 : e'' 0 = .str s := (F2 0 (by omega) (by omega)).trans (by simp [upd, f0])
            have g9 : e'' 9 = Q3 c := (F2 9 (by omega) (by omega)).trans (by simp [upd])
            have FQ2 : Fq e e'' := Fq.run (by repeat' (first | exact FQ | refine Fq.put ?_ (by omega) _)) F2 (by omega)
            have kl := T8 (q := X0) hcl.2
            obtain ⟨v, hv⟩ : ∃ v, Z4 X0 s c = v := ⟨_, rfl⟩
            rw [hv] at g1 kl pl
            repeat' (first | ((with_reducible refine brC (fun _ => ?_) fun _ => ?_) <;> try (exfalso; omega)) | (with_reducible refine And.intro ?_ ?_; · omega) | simp -dsimp -implicitDefEqProofs (disch := omega) only [VCA, Nat.reduceEqDiff, ↓reduceIte, g0, g1, g9])
            exact hN _ (seg s c v) (by repeat' (first | exact FQ2 | refine Fq.put ?_ (by omega) _)) (by rw [pl]; simp [upd, g1]) (by simp [upd]; rfl) (by have := YY s c v; omega) (by rw [pl])
  · have hd : decide ((b : Int) < (s.length : Int)) = false := decide_eq_false (by omega)
    have he : TJ s b = false := by unfold TJ; rw [decide_eq_false hbl]; rfl
    rw [he, if_neg (by simp)] at hA'
    repeat' (first | ((with_reducible refine brC (fun _ => ?_) fun _ => ?_) <;> try (exfalso; omega)) | (with_reducible refine And.intro ?_ ?_; · omega) | simp -dsimp -implicitDefEqProofs (disch := omega) only [↓Q0 135, VCA, Nat.reduceEqDiff, ↓reduceIte, reduceCtorEq, valC, inT, cL, cR, cB, c19, e0, e1, hd])
    exact hN _ [] (by repeat' (first | exact .refl _ | refine Fq.put ?_ (by omega) _)) (by rw [<- hA']; simp [upd, e1]) (by simp [upd, e12]) (by simp) (by rw [<- hA', XY])
def tz : List AVal := [Q3 0, .str [], .emp, .str [], .bool false, Q3 0, Q3 0]
def RTagK (h : Q2) (k : Int) (nm : List UInt8) (N : Nat) (T : Option (List HAttr × Bool × Nat)) (r : AVal) (h' : Q2) : Prop :=
  ∃ L l sf, Acc h Ta 2 (L.map Z6) l h' /\ Sub h h' /\
    match T with
    | some q => r = .tup [.agg (QX k nm l sf), Q3 q.2.2] /\ q.1 = L /\ q.2.1 = sf
    | none => r = .tup [.agg (QX k nm l sf), .int .i64 (-1)]
def tagS : SCode := cR (cR (cR (cR (cR c19.code))))
theorem gap_on {s : List UInt8} {g j : Nat} (hj : g <= j) (hl : j <= s.length) (hg : ∀ i, g <= i -> i < j -> X3 (bt s i) = false) : Z4 X3 s g = Z4 X3 s j := by
  have F := WQ (q := fun i => X3 (bt s i)) (n := s.length) (a := j) hl
  exact FirstIs.eq ⟨by have : j <= Z4 X3 s j := F.ge; omega, F.le, F.hit, fun i h1 h2 => by
    by_cases h3 : i < j
    · exact hg i h1 h3
    · exact F.no i (by omega) h2⟩
theorem refTag_loop {h : Q2} {r6 r8 : Nat} {s : List UInt8} {c : Nat} (k : Int) (nm : List UInt8) (hs : s.length <= 4000000) (hc : c <= s.length)
    {h1 : Q2} (S1 : Sub h h1) (n6 : h r6 = none) (n8 : h r8 = none) (m68 : r6 ≠ r8) (z6 : h1 r6 = some ⟨Tt, 7, [tz]⟩) (z8 : h1 r8 = some ⟨Tt, 7, [QX k nm .emp false]⟩)
    {e : Env} (e0 : e 0 = .str s) (e1 : e 1 = Q3 c) (e6 : e 6 = .vp r6 0) (e8 : e 8 = .vp r8 0) :
    vc (Pg G) tagS (retK [.cell 6 7 true, .tmp 7] (RTagK h k nm s.length (WV s (s.length + 1) c []))) e h1 := by
  skip
  repeat' (first | ((with_reducible refine brC (fun _ => ?_) fun _ => ?_) <;> try (exfalso; omega)) | (with_reducible refine And.intro ?_ ?_; · omega) | simp -dsimp -implicitDefEqProofs (disch := omega) only [VCA, tagS, cR, c19])
  refine LoopVC.intro (fun m e h' => ∃ (g j f : Nat) (L : List HAttr) (l : AVal), g <= j /\ j <= s.length /\ m = s.length - j /\ e 0 = .str s /\ e 1 = Q3 j /\ e 6 = .vp r6 0 /\ e 8 = .vp r8 0 /\ e 10 = .bool (decide (g < j) && bt s (j - 1) == 47) /\
      (∀ i, g <= i -> i < j -> X3 (bt s i) = false) /\ Sub h h' /\ h' r6 = some ⟨Tt, 7, [tz]⟩ /\ h' r8 = some ⟨Tt, 7, [QX k nm l false]⟩ /\ Acc h Ta 2 (L.map Z6) l h' /\ L.length <= j /\ s.length < f + g /\ WV s f g L = WV s (s.length + 1) c []) (s.length - c)
    (by exact ⟨c, c, s.length + 1, [], .emp, by omega, hc, by omega, by simp [upd, e0], by simp [upd, e1], by simp [upd, e6], by simp [upd, e8], by simp [upd], fun i h1 h2 => by omega, S1, z6, z8, .nil, by simp, by omega, rfl⟩) ?_
  rintro m e h' ⟨g, j, f, L, l, hgj, hj, rfl, e0, e1, e6, e8, e10, hgap, S, z6, z8, A, hL, hf, hT⟩
  obtain ⟨f, rfl⟩ : ∃ g, f = g + 1 := ⟨f - 1, by omega⟩
  have hgo := gap_on hgj hj hgap
  have hT0 := hT
  rw [WV, hgo] at hT
  have lv := Acc.isv A
  have z6' := z6
  unfold tz at z6'
  have z8' := z8
  unfold QX at z8'
  by_cases hlt : j < s.length
  · obtain ⟨b, hb⟩ : ∃ b, s.getD j 0 = b := ⟨_, rfl⟩
    have eb : bt s j = b.toNat := by unfold bt; rw [hb]
    have cB' := U2 (G := G) b
    have hd : decide ((j : Int) < (s.length : Int)) = true := decide_eq_true (by omega)
    by_cases hgp : X3 (bt s j) = true
    · have hsk : Z4 X3 s j = j := Y9 (q := fun i => X3 (bt s i)) hgp hlt
      have hg2 : (!U6 b.toNat && (b.toNat : Int) != 47) = true := by rw [<- eb]; exact hgp
      rw [Bool.and_eq_true, Bool.not_eq_true'] at hg2
      obtain ⟨hb1, hn47⟩ := hg2
      have n47 : ((b.toNat : Int) == 47) = false := by simpa using hn47
      rw [hb1] at cB'
      rw [hsk, if_pos hlt, eb] at hT
      by_cases h62 : (b.toNat : Int) = 62
      · have n62 : ((b.toNat : Int) == 62) = true := by simpa using h62
        rw [if_pos h62] at hT
        obtain ⟨sf, hsf⟩ : ∃ sf, (decide (g < j) && bt s (j - 1) == 47) = sf := ⟨_, rfl⟩
        rw [hsf] at hT e10
        have m86 : ¬ r8 = r6 := fun q => m68 q.symm
        repeat' (first | ((with_reducible refine brC (fun _ => ?_) fun _ => ?_) <;> try (exfalso; omega)) | (with_reducible apply pcallE.of; · exact cB') | (with_reducible refine And.intro ?_ ?_; · omega) | simp -dsimp -implicitDefEqProofs (disch := omega) only [↓Q0 59, VCA, Nat.reduceEqDiff, Nat.reduceAdd, Nat.reduceLT, Nat.reduceLeDiff, ↓reduceIte, reduceCtorEq, Z3, exists_eq_left', e0, e1, e6, e8, e10, z6', z8', hd, hb, n47, n62, m68])
        refine ⟨_, Sub.refl _, ?_⟩
        rw [<- hT]
        exact ⟨L, l, sf, (A.keepA (JV A z8 (by decide)) _).keepA (JV A z6 (by decide)) _, (S.upd n8).upd n6, rfl, rfl, rfl⟩
      · have n62 : ((b.toNat : Int) == 62) = false := by simpa using h62
        rw [if_neg h62] at hT
        repeat' (first | ((with_reducible refine brC (fun _ => ?_) fun _ => ?_) <;> try (exfalso; omega)) | (with_reducible apply pcallE.of; · exact cB') | (with_reducible refine And.intro ?_ ?_; · omega) | simp -dsimp -implicitDefEqProofs (disch := omega) only [↓Q0 59, VCA, Nat.reduceEqDiff, ↓reduceIte, reduceCtorEq, e0, e1, hd, hb, n47, n62])
        obtain ⟨t1, t2, t3⟩ := att_next hlt
        have hn := attr_next hlt
        refine run2_ok (G := G) (j := j + 1) (s := s) ?_ ?_ (by omega) hs ?_
        · simp [upd, e0]
        · simp [upd]
        · intro e' F f1
          have f0 : e' 0 = .str s := (F 0 (by omega) (by omega)).trans (by simp [upd, e0])
          have f6 : e' 6 = .vp r6 0 := (F 6 (by omega) (by omega)).trans (by simp [upd, e6])
          have f8 : e' 8 = .vp r8 0 := (F 8 (by omega) (by omega)).trans (by simp [upd, e8])
          have f9 : e' 9 = Q3 j := (F 9 (by omega) (by omega)).trans (by simp [upd])
          have f10 : e' 10 = .bool false := (F 10 (by omega) (by omega)).trans (by simp [upd])
          have f1 : e' 1 = Q3 (atE s j) := f1
          obtain ⟨nE, hnE⟩ : ∃ n, atE s j = n := ⟨_, rfl⟩
          have cA : PCalls (Pg G) 40 [.str ((s.take nE).drop j)] (.str (K8 (seg s j nE))) := refAttrName_ok (G := G) (seg s j nE) (by have := YY s j nE; omega)
          rw [hnE] at f1 t1 t2
          repeat' (first | ((with_reducible refine brC (fun _ => ?_) fun _ => ?_) <;> try (exfalso; omega)) | (with_reducible apply pcallE.of; · exact cA) | (with_reducible refine And.intro ?_ ?_; · omega) | simp -dsimp -implicitDefEqProofs (disch := omega) only [VCA, Nat.reduceEqDiff, ↓reduceIte, f0, f1, f9])
          refine run3_ok (G := G) (j := nE) (s := s) ?_ ?_ (by omega) hs ?_
          · simp [upd, f0]
          · simp [upd, f1]
          · intro e2 F2 g1
            have g0 : e2 0 = .str s := (F2 0 (by omega) (by omega)).trans (by simp [upd, f0])
            have g6 : e2 6 = .vp r6 0 := (F2 6 (by omega) (by omega)).trans (by simp [upd, f6])
            have g8 : e2 8 = .vp r8 0 := (F2 8 (by omega) (by omega)).trans (by simp [upd, f8])
            have g10 : e2 10 = .bool false := (F2 10 (by omega) (by omega)).trans (by simp [upd, f10])
            have g11 : e2 11 = .str (K8 (seg s j nE)) := (F2 11 (by omega) (by omega)).trans (by simp [upd])
            have g12 : e2 12 = .str [] := (F2 12 (by omega) (by omega)).trans (by simp [upd])
            have g1 : e2 1 = Q3 (atB s j) := by rw [g1]; unfold atB; rw [hnE]
            refine val_ok (G := G) (a := j) (b := atB s j) (k := k) (nm := nm) (l := l) hs g0 g1 g6 g8 g12 t3 rfl m68 z6 z8 lv ?_ ?_
            · intro e3 v FQ k1 k12 hv hX
              rw [hnE] at hX
              have k8 : e3 8 = .vp r8 0 := (FQ 8 (by omega) (by omega) (by omega)).trans g8
              have k11 : e3 11 = .str (K8 (seg s j nE)) := (FQ 11 (by omega) (by omega) (by omega)).trans g11
              refine rest_ok (G := G) (s := s) (k := k) (nm := nm) (L := L) (l := l) k8 k11 k12 hv (by omega) A S n8 z8 ?_
              intro e4 h4 l4 FL A4 S4 y8 kp
              rw [<- hX] at A4
              have q0 : e4 0 = .str s := (FL 0 (by omega)).trans ((FQ 0 (by omega) (by omega) (by omega)).trans g0)
              have q1 : e4 1 = Q3 (ZK s j).2 := (FL 1 (by omega)).trans k1
              have q6 : e4 6 = .vp r6 0 := (FL 6 (by omega)).trans ((FQ 6 (by omega) (by omega) (by omega)).trans g6)
              have q8 : e4 8 = .vp r8 0 := (FL 8 (by omega)).trans k8
              have q10 : e4 10 = .bool false := (FL 10 (by omega)).trans ((FQ 10 (by omega) (by omega) (by omega)).trans g10)
              have hal := addA_len L (ZK s j).1
              have y6 := (kp r6 _ m68 (JV A z6 (by decide)) z6).1
              exact ⟨_, by omega, (ZK s j).2, (ZK s j).2, f, addA L (ZK s j).1, l4, by omega, hn.2, rfl, q0, q1, q6, q8, by rw [q10, decide_eq_false (by omega)]; rfl, fun i h1 h2 => by omega, S4, y6, y8, A4, by omega, by omega, hT⟩
            · intro hend e3 k6 k7
              have hnone : WV s f (ZK s j).2 (addA L (ZK s j).1) = none := by
                cases f with
                | zero => rfl
                | succ f => rw [WV, hend, show Z4 X3 s s.length = s.length from U5 (Nat.le_refl _), if_neg (by omega)]
              rw [hnone] at hT
              repeat' (first | ((with_reducible refine brC (fun _ => ?_) fun _ => ?_) <;> try (exfalso; omega)) | (with_reducible refine And.intro ?_ ?_; · omega) | simp -dsimp -implicitDefEqProofs (disch := omega) only [VCA, Nat.reduceEqDiff, Nat.reduceLT, ↓reduceIte, exists_eq_left', k6, k7])
              exact ⟨Nat.le_refl 7, _, Sub.refl _, by rw [<- hT]; exact ⟨L, l, false, A.keepA (JV A z6 (by decide)) _, S.upd n6, rfl⟩⟩
    · have hgp' : X3 (bt s j) = false := by cases h : X3 (bt s j) with | true => exact absurd h hgp | false => rfl
      have hg2 : (!U6 b.toNat && (b.toNat : Int) != 47) = false := by rw [<- eb]; exact hgp'
      have hon : ∀ i, g <= i -> i < j + 1 -> X3 (bt s i) = false := fun i h1 h2 => by
        by_cases h3 : i < j
        · exact hgap i h1 h3
        · rw [show i = j by omega]; exact hgp'
      cases hb1 : U6 b.toNat <;> rw [hb1] at cB' hg2
      · have n47 : ((b.toNat : Int) == 47) = true := by simpa using hg2
        repeat' (first | ((with_reducible refine brC (fun _ => ?_) fun _ => ?_) <;> try (exfalso; omega)) | (with_reducible apply pcallE.of; · exact cB') | (with_reducible refine And.intro ?_ ?_; · omega) | simp -dsimp -implicitDefEqProofs (disch := omega) only [↓Q0 59, VCA, Nat.reduceEqDiff, ↓reduceIte, reduceCtorEq, e0, e1, e6, e8, hd, hb, n47])
        exact ⟨_, by omega, g, j + 1, f + 1, L, l, by omega, by omega, rfl, by omega, by rw [decide_eq_true (by omega), show j + 1 - 1 = j from rfl, eb, n47]; rfl, hon, S, z6, z8, A, by omega, hf, hT0⟩
      · have n47 : ((b.toNat : Int) == 47) = false := by
          rw [beq_eq_false_iff_ne]; intro hh; rw [hh] at hb1; exact absurd hb1 (by decide)
        repeat' (first | ((with_reducible refine brC (fun _ => ?_) fun _ => ?_) <;> try (exfalso; omega)) | (with_reducible apply pcallE.of; · exact cB') | (with_reducible refine And.intro ?_ ?_; · omega) | simp -dsimp -implicitDefEqProofs (disch := omega) only [↓Q0 59, VCA, Nat.reduceEqDiff, ↓reduceIte, reduceCtorEq, e0, e1, e6, e8, hd, hb, n47])
        exact ⟨_, by omega, g, j + 1, f + 1, L, l, by omega, by omega, rfl, by omega, by rw [show j + 1 - 1 = j from rfl, eb, n47, Bool.and_false], hon, S, z6, z8, A, by omega, hf, hT0⟩
  · obtain rfl : j = s.length := by omega
    have hd : decide (((s.length : Nat) : Int) < (s.length : Int)) = false := decide_eq_false (by omega)
    rw [show Z4 X3 s s.length = s.length from U5 (Nat.le_refl _), if_neg (by omega)] at hT
    rw [<- hT]
    repeat' (first | ((with_reducible refine brC (fun _ => ?_) fun _ => ?_) <;> try (exfalso; omega)) | (with_reducible refine And.intro ?_ ?_; · omega) | simp -dsimp -implicitDefEqProofs (disch := omega) only [VCA, Nat.reduceEqDiff, Nat.reduceAdd, Nat.reduceLT, ↓reduceIte, reduceCtorEq, Z3, exists_eq_left', e0, e1, e6, e8, z6', z8', hd])
    exact ⟨_, Sub.refl _, L, l, false, A.keepA (JV A z6 (by decide)) _, S.upd n6, rfl⟩
theorem refTag_raw (h : Q2) {s : List UInt8} {a : Nat} (k : Int) (ha : a <= s.length) (hs : s.length <= 4000000) :
    DCalls (Pg G) 19 [.str s, Q3 a, Q3 k] h (RTagK h k (K3 (seg s a (Z4 Z9 s a))) s.length (WV s (s.length + 1) (Z4 Z9 s a) [])) := by
  have hc := T8 (q := Z9) ha
  obtain ⟨c, hce⟩ : ∃ c, Z4 Z9 s a = c := ⟨_, rfl⟩
  rw [hce] at hc ⊢
  have cN : PCalls (Pg G) 39 [.str ((s.take c).drop a)] (.str (K3 (seg s a c))) := WK (G := G) (seg s a c) (by have := YY s a c; omega)
  refine Q1 Tryz.func19 (by kernel_rfl) hc19 (by rw [Tryz.ntmps19]; simp) (by rw [Tryz.ntmps19]; decide) ?_
  simp -dsimp -implicitDefEqProofs (disch := omega) only [VCA, ↓U9, Nat.reduceEqDiff, Nat.reduceAdd, Nat.reduceLT, Nat.reduceLeDiff, ↓reduceIte, X7, Y6, Z3, ne_eq, exists_eq_left', c19]
  intro r6 hr6 r8 hr8
  have n8 : h r8 = none := hr8.2
  have m86 : r8 ≠ r6 := hr8.1
  have m68 : r6 ≠ r8 := fun q => m86 q.symm
  obtain ⟨hA, hhA⟩ : ∃ hA, upd (upd h r6 (some ⟨Tt, 7, [tz]⟩)) r8 (some ⟨Tt, 7, [QX k [] .emp false]⟩) = hA := ⟨_, rfl⟩
  have SA : Sub h hA := by rw [<- hhA]; exact ((Sub.refl h).upd hr6).upd n8
  have zA : hA r6 = some ⟨Tt, 7, [tz]⟩ := by rw [<- hhA, Q9 _ _ m68, Z1]
  have yA : hA r8 = some ⟨Tt, 7, [QX k [] .emp false]⟩ := by rw [<- hhA, Z1]
  have yA' := yA
  unfold QX at yA'
  unfold tz QX at hhA
  refine run1_ok (G := G) (j := a) (s := s) ?_ ?_ ha hs ?_
  · first | (simp [upd]; done) | (simp [upd]; rfl)
  · first | (simp [upd]; done) | (simp [upd]; rfl)
  · intro e' F f1
    rw [hce] at f1
    have f0 : e' 0 = .str s := (F 0 (by omega) (by omega)).trans (by first | (simp [upd]; done) | (simp [upd]; rfl))
    have f6 : e' 6 = .vp r6 0 := (F 6 (by omega) (by omega)).trans (by first | (simp [upd]; done) | (simp [upd]; rfl))
    have f8 : e' 8 = .vp r8 0 := (F 8 (by omega) (by omega)).trans (by first | (simp [upd]; done) | (simp [upd]; rfl))
    have f9 : e' 9 = Q3 a := (F 9 (by omega) (by omega)).trans (by first | (simp [upd]; done) | (simp [upd]; rfl))
    refine (?_ : vc (Pg G) (.seq (cL (cR (cR (cR (cR c19.code))))) tagS) _ e' _)
    repeat' (first | ((with_reducible refine brC (fun _ => ?_) fun _ => ?_) <;> try (exfalso; omega)) | (with_reducible apply pcallE.of; · exact cN) | (with_reducible refine And.intro ?_ ?_; · omega) | simp -dsimp -implicitDefEqProofs (disch := omega) only [VCA, Nat.reduceEqDiff, Nat.reduceAdd, Nat.reduceLT, Nat.reduceLeDiff, ↓reduceIte, Z3, exists_eq_left', cL, cR, c19, f0, f1, f8, f9, hhA, yA'])
    exact refTag_loop (G := G) k _ hs hc.2 (SA.upd n8) hr6 n8 m68 (by rw [Q9 _ _ m68]; exact zA) (by rw [Z1]; rfl) (by simp [upd, f0]) (by simp [upd, f1]) (by simp [upd, f6]) (by simp [upd, f8])
theorem refTag_ok (h : Q2) {s : List UInt8} {a : Nat} (k : Int) (ha : a <= s.length) (hs : s.length <= 4000000) :
    DCalls (Pg G) 19 [.str s, Q3 a, Q3 k] h fun r h' => h' = h /\
      match UU s a with
      | some q => r = .tup [.agg (J6 ⟨k, q.1, q.2.1, [], q.2.2.1, 0, 0⟩), Q3 q.2.2.2]
      | none => ∃ t : HTok, r = .tup [.agg (J6 t), .int .i64 (-1)] := by
  refine (refTag_raw h k ha hs).outV fun r h' ⟨L, l, sf, A, S, hT⟩ => ?_
  have hv := A.vw (fun f hf => by obtain ⟨x, _, rfl⟩ := List.mem_map.1 hf; rfl)
  have vt : ∀ b : AVal, VwT (newH h h') (.tup [.agg (QX k (K3 (seg s a (Z4 Z9 s a))) l sf), b]) (.tup [.agg (J6 ⟨k, K3 (seg s a (Z4 Z9 s a)), L, [], sf, 0, 0⟩), b]) := fun b =>
    .tup' (.cons (.agg' (.cons (.refl _) (.cons (.refl _) (.cons hv (.cons (.refl _) (.cons (.refl _) (.cons (.refl _) (.cons (.refl _) .nil)))))))) (.cons (.refl _) .nil))
  unfold UU
  cases hq : WV s (s.length + 1) (Z4 Z9 s a) [] with
  | some q =>
    rw [hq] at hT
    obtain ⟨rfl, rfl, rfl⟩ := hT
    exact ⟨h, newH _ h', _, S, newH_sub _ _, VJ _ _, vt _, rfl, rfl⟩
  | none =>
    rw [hq] at hT
    obtain rfl := hT
    exact ⟨h, newH _ h', _, S, newH_sub _ _, VJ _ _, vt _, rfl, _, rfl⟩
theorem hasPre_iff {s p : List UInt8} : XJ s p = true ↔ p.length <= s.length /\ ∀ j, j < p.length -> bt s j = bt p j := by
  unfold XJ
  rw [Bool.and_eq_true, decide_eq_true_eq, beq_iff_eq]
  refine and_congr_right fun hl => ⟨fun h j hj => ?_, fun h => ?_⟩
  · unfold bt
    rw [List.getD_eq_getElem?_getD, List.getD_eq_getElem?_getD]
    conv => rhs; rw [<- h]
    rw [List.getElem?_take, if_pos hj]
  · apply List.ext_getElem
    · rw [List.length_take]; omega
    · intro j h1 h2
      have := h j h2
      unfold bt at this
      rw [List.getD_eq_getElem?_getD, List.getD_eq_getElem?_getD, List.getElem?_eq_getElem (by omega), List.getElem?_eq_getElem h2] at this
      rw [List.getElem_take]
      exact VV this
theorem pre_stand {s w : List UInt8} (hw : noLet w = true) {a : Nat} (ha : a <= s.length) : XJ (s.drop a) w = Z7 s a w := by
  rw [Bool.eq_iff_iff, stand_iff, hasPre_iff, List.length_drop]
  constructor
  · rintro ⟨h1, h2⟩
    refine ⟨by omega, fun j hj => ?_⟩
    have := h2 j hj
    rw [bt_drop] at this
    have e := VZ (b := bt s (a + j)) (noLet_at hw hj)
    rw [Bool.eq_iff_iff, beq_iff_eq, beq_iff_eq] at e
    exact e.2 this
  · rintro ⟨h1, h2⟩
    refine ⟨by omega, fun j hj => ?_⟩
    rw [bt_drop]
    have e := VZ (b := bt s (a + j)) (noLet_at hw hj)
    rw [Bool.eq_iff_iff, beq_iff_eq, beq_iff_eq] at e
    exact e.1 (h2 j hj)
theorem first_shift {q : Nat -> Bool} {b n : Nat} : Y0 q (b + n) b = b + Y0 (fun i => q (b + i)) n 0 := by
  have g := WQ (q := fun i => q (b + i)) (n := n) (a := 0) (Nat.zero_le _)
  refine FirstIs.eq ⟨by omega, by have := g.le; omega, fun hl => g.hit (by omega), fun j h1 h2 => ?_⟩
  have := g.no (j - b) (by omega) (by omega)
  rwa [show b + (j - b) = j by omega] at this
theorem up_far {s : List UInt8} {a : Nat} (h : Z7 s a [60, 33, 100, 111, 99, 116, 121, 112, 101] = true) : upM s a [62] = upM s (a + 9) [62] := by
  obtain ⟨h1, h2⟩ := stand_iff.1 h
  have hl : a + 9 <= s.length := h1
  unfold upM
  have g := WQ (q := fun i => Z7 s i [62]) (n := s.length) (a := a + 9) hl
  refine FirstIs.eq ⟨by have := g.ge; omega, g.le, g.hit, fun j h3 h4 => ?_⟩
  by_cases h5 : a + 9 <= j
  · exact g.no j h5 h4
  · have := h2 (j - a) (by show j - a < 9; omega)
    rw [show a + (j - a) = j by omega] at this
    rw [stand_one s 62 (by decide) j (by omega)]
    rw [beq_eq_false_iff_ne]
    intro hq
    rw [hq] at this
    have hw : ∀ i, i < 9 -> bt [60, 33, 100, 111, 99, 116, 121, 112, 101] i ≠ 62 := by decide
    exact hw (j - a) (by omega) this.symm
end Go.Proofs.K
end
