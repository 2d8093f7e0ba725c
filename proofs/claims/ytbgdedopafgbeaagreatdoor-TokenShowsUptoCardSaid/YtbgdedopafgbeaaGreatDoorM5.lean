/- Texts of this claim, one behind the other. -/
import Derived.Test.YtbgdedopafgbeaaGreatDoorM4
import Derived.Shelf.Strings.Replace
import Derived.Shelf.Strings.SlTrimAscii
import Derived.Lib.IndexAny
import Derived.Lib.Repeat
import Derived.Lib.TrimByte
import Derived.Test.YtbgdedopafgbeaaGreatDoorM3
import Derived.Lib.LaidTab
set_option maxHeartbeats 4000000
set_option maxRecDepth 100000
section
set_option linter.unusedSimpArgs false
set_option linter.unusedVariables false
namespace Go.Proofs.K
open Go Go.Sim Go.Proofs
variable {G : JU}
def MaxOK (G : JU) : Prop := ∃ m, G 0 = .pin [Q3 m]
theorem ZT (hG : MaxOK G) (s old new : List UInt8) (hs : s.length <= 1073741823) (h1 : 1 <= old.length) (h2 : new.length <= 100) : PCalls (Pg G) 70 [.str s, .str old, .str new] (.str (Lib.replaceAll s old new)) := by
  obtain ⟨m, hG⟩ := hG
  refine ofBelow ⟨_, Tryz.func70, by kernel_rfl, by kernel_rfl⟩ fun g w vs GR V => ?_
  obtain ⟨u, v, x, rfl, hu, hv, hx⟩ : ∃ u v x, vs = #[u, v, x] /\ VRel g w u (.str s) /\ VRel g w v (.str old) /\ VRel g w x (.str new) := by
    obtain ⟨hs, hv⟩ := V
    obtain ⟨l⟩ := vs
    match l, hs with
    | [u, v, x], _ => exact ⟨u, v, x, rfl, hv 0 u _ rfl rfl, hv 1 v _ rfl rfl, hv 2 x _ rfl rfl⟩
  rw [hu.str_inv', hv.str_inv', hx.str_inv']
  have hc : Lib.countB ⟨⟨s⟩⟩ ⟨⟨old⟩⟩ <= s.length + 1 := Lib.count_le s old
  have hb : s.length + Lib.countB ⟨⟨s⟩⟩ ⟨⟨old⟩⟩ * new.length <= 140737488355328 := by
    have := Nat.mul_le_mul hc h2
    omega
  exact (Tryz.strings_ReplaceAll ⟨⟨s⟩⟩ ⟨⟨old⟩⟩ ⟨⟨new⟩⟩ m w (by show s.length < _; omega) (GR.int hG) h1 hb).mono fun e w' ⟨he, hw⟩ => ⟨_, he, hw, fun g w => VRel.str_mk g w _⟩
section
variable {old new : List UInt8}
def ra (old new s : List UInt8) : List UInt8 := Lib.replaceK old new (Lib.count s old) s
theorem ra_all (hne : old ≠ new) (s : List UInt8) : Lib.replaceAll s old new = ra old new s := by
  unfold Lib.replaceAll Lib.replace ra Lib.replaceNum
  rw [if_neg (by simpa using hne), if_pos (.inl (by decide))]
theorem ra_nil (ho : old ≠ []) : ra old new [] = [] := by
  have : Lib.index [] old = -1 := by unfold Lib.index; rw [if_neg (by cases old <;> simp_all)]
  unfold ra
  rw [Lib.count_miss this]
  rfl
theorem ra_pre (ho : old ≠ []) (t : List UInt8) : ra old new (old ++ t) = new ++ ra old new t := by
  have hi : Lib.index (old ++ t) old = ((0 : Nat) : Int) := by
    obtain ⟨c, r, rfl⟩ := List.exists_cons_of_ne_nil ho
    rw [List.cons_append]; unfold Lib.index
    rw [if_pos (by rw [List.isPrefixOf_iff_prefix]; exact ⟨t, rfl⟩)]; simp
  unfold ra
  rw [Lib.count_hit ho hi, Nat.add_comm 1, Lib.replaceK_hit _ _ _ _ 0 hi]
  simp
theorem TX (ho : old ≠ []) (c : UInt8) (t : List UInt8) (h : old.isPrefixOf (c :: t) = false) : ra old new (c :: t) = c :: ra old new t := by
  have hx : Lib.index (c :: t) old = if Lib.index t old == -1 then -1 else Lib.index t old + 1 := by
    conv => lhs; unfold Lib.index
    rw [if_neg (by rw [h]; simp)]
  have hge := Lib.index_ge t old
  unfold ra
  by_cases hm : Lib.index t old = -1
  · rw [hm] at hx
    rw [Lib.count_miss hx, Lib.count_miss hm]
    rfl
  · obtain ⟨i, hi⟩ : ∃ i : Nat, Lib.index t old = i := ⟨(Lib.index t old).toNat, by omega⟩
    have hj : Lib.index (c :: t) old = ((i + 1 : Nat) : Int) := by rw [hx, hi, if_neg (by simp)]; rfl
    have e : i + 1 + old.length = (i + old.length) + 1 := by omega
    rw [Lib.count_hit ho hj, Lib.count_hit ho hi, Nat.add_comm 1, e, List.drop_succ_cons, Nat.add_comm 1, Lib.replaceK_hit _ _ _ _ _ hj, Lib.replaceK_hit _ _ _ _ _ hi, e, List.drop_succ_cons]
    simp
theorem ra_one (b : UInt8) (new s : List UInt8) : ra [b] new s = s.flatMap fun c => if c = b then new else [c] := by
  induction s with
  | nil => exact ra_nil (by simp)
  | cons c t ih =>
    by_cases h : c = b
    · subst h
      have := ra_pre (old := [c]) (new := new) (by simp) t
      rw [List.singleton_append] at this
      rw [this, List.flatMap_cons, if_pos rfl, ih]
    · have hp : ([b] : List UInt8).isPrefixOf (c :: t) = false := by simp [List.isPrefixOf]; exact fun e => h e.symm
      rw [TX (by simp) c t hp, List.flatMap_cons, if_neg h, ih]; rfl
end
def ampS : List UInt8 := [38, 97, 109, 112, 59]
def nbspS : List UInt8 := [38, 110, 98, 115, 112, 59]
def quotS : List UInt8 := [38, 113, 117, 111, 116, 59]
def ltS : List UInt8 := [38, 108, 116, 59]
def gtS : List UInt8 := [38, 103, 116, 59]
def escC (attr : Bool) (c : UInt8) : List UInt8 := if c = 38 then ampS else if attr = true /\ c = 34 then quotS else if attr = false /\ c = 60 then ltS else if attr = false /\ c = 62 then gtS else [c]
def YT (attr : Bool) (s : List UInt8) : List UInt8 :=
  match s with
  | [] => []
  | c :: t => if c = 194 /\ t.head? = some 160 then nbspS ++ YT attr t.tail else escC attr c ++ YT attr t
termination_by s.length
decreasing_by
  · simp only [List.length_tail, List.length_cons]; omega
  · simp
theorem escD_nil (attr : Bool) : YT attr [] = [] := by unfold YT; rfl
theorem escD_nb (attr : Bool) (t : List UInt8) : YT attr (194 :: 160 :: t) = nbspS ++ YT attr t := by
  rw [YT]; rw [if_pos ⟨rfl, rfl⟩]; rfl
theorem escD_c (attr : Bool) (c : UInt8) (t : List UInt8) (h : ¬ (c = 194 /\ t.head? = some 160)) : YT attr (c :: t) = escC attr c ++ YT attr t := by
  rw [YT]; rw [if_neg h]
def JW (s : List UInt8) : List UInt8 := ra [38] ampS s
def JJ (attr : Bool) (s : List UInt8) : List UInt8 := if attr = true then ra [34] quotS s else ra [62] gtS (ra [60] ltS s)
theorem last_app (attr : Bool) (a b : List UInt8) : JJ attr (a ++ b) = JJ attr a ++ JJ attr b := by
  unfold JJ; split <;> simp [ra_one]
theorem last_amp (attr : Bool) : JJ attr ampS = ampS := by cases attr <;> (simp only [JJ, ra_one]; decide)
theorem last_nbsp (attr : Bool) : JJ attr nbspS = nbspS := by cases attr <;> (simp only [JJ, ra_one]; decide)
theorem last_nil (attr : Bool) : JJ attr [] = [] := by cases attr <;> (simp only [JJ, ra_one]; rfl)
theorem last_c (attr : Bool) (c : UInt8) (h : c ≠ 38) : JJ attr [c] = escC attr c := by
  unfold escC
  rw [if_neg h]
  cases attr
  · simp only [JJ, ra_one, Bool.false_eq_true, if_false, false_and, true_and]
    by_cases h1 : c = 60
    · subst h1; decide
    · by_cases h2 : c = 62
      · subst h2; decide
      · simp [h1, h2]
  · simp only [JJ, ra_one, if_true, true_and]
    by_cases h1 : c = 34
    · subst h1; decide
    · simp [h1]
theorem amp_c (c : UInt8) (t : List UInt8) (h : c ≠ 38) : JW (c :: t) = c :: JW t := by simp [JW, ra_one, h]
theorem amp_a (t : List UInt8) : JW (38 :: t) = ampS ++ JW t := by simp [JW, ra_one]
theorem no194 (c : UInt8) (t : List UInt8) (h : c ≠ 194) : ([194, 160] : List UInt8).isPrefixOf (c :: t) = false := by
  simp only [List.isPrefixOf, Bool.and_eq_false_imp, beq_iff_eq]
  intro e; exact absurd e.symm h
theorem esc_eq (attr : Bool) : ∀ (n : Nat) (s : List UInt8), s.length <= n -> JJ attr (ra [194, 160] nbspS (JW s)) = YT attr s := by
  intro n
  induction n with
  | zero =>
    intro s hs
    have : s = [] := List.eq_nil_of_length_eq_zero (by omega)
    subst this
    rw [escD_nil, show JW [] = [] from rfl, ra_nil (by simp), last_nil]
  | succ n ih =>
    intro s hs
    cases s with
    | nil => rw [escD_nil, show JW [] = [] from rfl, ra_nil (by simp), last_nil]
    | cons c t =>
      simp only [List.length_cons] at hs
      by_cases h0 : c = 194 /\ t.head? = some 160
      · obtain ⟨rfl, h0⟩ := h0
        obtain ⟨u, rfl⟩ : ∃ u, t = 160 :: u := by
          cases t with
          | nil => simp at h0
          | cons x u => simp at h0; subst h0; exact ⟨u, rfl⟩
        simp only [List.length_cons] at hs
        rw [escD_nb, amp_c _ _ (by decide), amp_c _ _ (by decide)]
        have := ra_pre (old := [194, 160]) (new := nbspS) (by simp) (JW u)
        rw [List.cons_append, List.singleton_append] at this
        rw [this, last_app, last_nbsp, ih u (by omega)]
      · rw [escD_c _ _ _ h0]
        by_cases h1 : c = 38
        · subst h1
          have e : escC attr 38 = ampS := if_pos rfl
          rw [amp_a, e, <- ih t (by omega)]
          have : ra [194, 160] nbspS (ampS ++ JW t) = ampS ++ ra [194, 160] nbspS (JW t) := by
            unfold ampS
            simp only [List.cons_append, List.nil_append]
            rw [TX (by simp) _ _ (no194 _ _ (by decide)), TX (by simp) _ _ (no194 _ _ (by decide)), TX (by simp) _ _ (no194 _ _ (by decide)), TX (by simp) _ _ (no194 _ _ (by decide)), TX (by simp) _ _ (no194 _ _ (by decide))]
          rw [this, last_app, last_amp]
        · have hp : ([194, 160] : List UInt8).isPrefixOf (c :: JW t) = false := by
            by_cases h2 : c = 194
            · subst h2
              cases t with
              | nil => rfl
              | cons x u =>
                have hx : x ≠ 160 := fun e => h0 ⟨rfl, by rw [e]; rfl⟩
                by_cases h3 : x = 38
                · subst h3; rw [amp_a]; rfl
                · rw [amp_c _ _ h3]
                  simp only [List.isPrefixOf, beq_self_eq_true, Bool.true_and, Bool.and_true]
                  rw [beq_eq_false_iff_ne]; exact fun e => hx e.symm
            · exact no194 _ _ h2
          rw [amp_c _ _ h1, TX (by simp) _ _ hp, <- last_c attr c h1, <- ih t (by omega), <- last_app]
          rfl
theorem flat_len {f : UInt8 -> List UInt8} {k : Nat} (h : ∀ c, (f c).length <= k) (s : List UInt8) : (s.flatMap f).length <= k * s.length := by
  induction s with
  | nil => simp
  | cons c t ih => have := h c; simp only [List.flatMap_cons, List.length_append, List.length_cons, Nat.mul_add]; omega
theorem ra_one_len (b : UInt8) (new s : List UInt8) (hn : 1 <= new.length) : (ra [b] new s).length <= new.length * s.length := by
  rw [ra_one]
  refine flat_len (fun c => ?_) s
  split
  · omega
  · simpa using hn
theorem ra_two_len (s : List UInt8) : ∀ n, s.length <= n -> (ra [194, 160] nbspS s).length <= 6 * s.length := by
  intro n
  induction n generalizing s with
  | zero => intro hs; have : s = [] := List.eq_nil_of_length_eq_zero (by omega); subst this; rw [ra_nil (by simp)]; simp
  | succ n ih =>
    intro hs
    cases s with
    | nil => rw [ra_nil (by simp)]; simp
    | cons c t =>
      simp only [List.length_cons] at hs ⊢
      cases hp : ([194, 160] : List UInt8).isPrefixOf (c :: t) with
      | false =>
        rw [TX (by simp) _ _ hp]
        have := ih t (by omega)
        simp only [List.length_cons]; omega
      | true =>
        rw [List.isPrefixOf_iff_prefix] at hp
        obtain ⟨u, hu⟩ := hp
        rw [<- hu, ra_pre (by simp)]
        have hl := congrArg List.length hu
        simp only [List.length_append, List.length_cons, List.length_nil] at hl
        have := ih u (by omega)
        have e : nbspS.length = 6 := rfl
        simp only [List.length_append, e]; omega
def c52 : SFun := ⟨.seq (.reg [o 4 (.mv (.c (.str [])))]) (.seq (.reg [o 5 (.mv (.t 0)), o 6 (.pcall 70 [.t 5, .c (.str [38]), .c (.str [38, 97, 109, 112, 59])]), o 0 (.mv (.t 6))]) (.seq (.reg [o 7 (.mv (.t 0)), o 8 (.pcall 70 [.t 7, .c (.str [194, 160]), .c (.str [38, 110, 98, 115, 112, 59])]), o 0 (.mv (.t 8))]) (.seq (.seq (.reg [o 9 (.mv (.t 1))]) (.cond (.t 9) (.seq (.reg [o 10 (.mv (.t 0)), o 11 (.pcall 70 [.t 10, .c (.str [34]), .c (.str [38, 113, 117, 111, 116, 59])]), o 4 (.mv (.t 11))]) .ret) .skip)) (.seq (.reg [o 12 (.mv (.t 0)), o 13 (.pcall 70 [.t 12, .c (.str [60]), .c (.str [38, 108, 116, 59])]), o 14 (.pcall 70 [.t 13, .c (.str [62]), .c (.str [38, 103, 116, 59])]), o 4 (.mv (.t 14))]) .ret)))), [.tmp 4]⟩
theorem hc52 : Y5 Tryz.prog {pure := [70]} Tryz.f52 = some c52 := by kernel_rfl
theorem escape_ok (hG : MaxOK G) (s : List UInt8) (attr : Bool) (hs : s.length <= 4000000) : PCalls (Pg G) 52 [.str s, .bool attr] (.str (YT attr s)) := fun h => by
  have E := esc_eq attr s.length s (Nat.le_refl _)
  have l1 : (JW s).length <= 5 * s.length := ra_one_len 38 ampS s (by decide)
  have l2 := ra_two_len (JW s) _ (Nat.le_refl _)
  have c1 := ZT hG s [38] ampS (by omega) (by decide) (by decide)
  have c2 := ZT hG (JW s) [194, 160] nbspS (by omega) (by decide) (by decide)
  rw [ra_all (by decide)] at c1 c2
  have hq := ZT hG (ra [194, 160] nbspS (JW s)) [34] quotS (by omega) (by decide) (by decide)
  have hl := ZT hG (ra [194, 160] nbspS (JW s)) [60] ltS (by omega) (by decide) (by decide)
  have l3 := ra_one_len 60 ltS (ra [194, 160] nbspS (JW s)) (by decide)
  have e4 : ltS.length = 4 := rfl
  rw [e4] at l3
  have hg := ZT hG (ra [60] ltS (ra [194, 160] nbspS (JW s))) [62] gtS (by omega) (by decide) (by decide)
  rw [ra_all (by decide)] at hq hl hg
  unfold JJ at E
  have c1 : PCalls (Pg G) 70 [.str s, .str [38], .str [38, 97, 109, 112, 59]] (.str (JW s)) := c1
  have c2 : PCalls (Pg G) 70 [.str (JW s), .str [194, 160], .str [38, 110, 98, 115, 112, 59]] (.str (ra [194, 160] nbspS (JW s))) := c2
  have hq : PCalls (Pg G) 70 [.str (ra [194, 160] nbspS (JW s)), .str [34], .str [38, 113, 117, 111, 116, 59]] (.str (ra [34] quotS (ra [194, 160] nbspS (JW s)))) := hq
  have hl : PCalls (Pg G) 70 [.str (ra [194, 160] nbspS (JW s)), .str [60], .str [38, 108, 116, 59]] (.str (ra [60] ltS (ra [194, 160] nbspS (JW s)))) := hl
  have hg : PCalls (Pg G) 70 [.str (ra [60] ltS (ra [194, 160] nbspS (JW s))), .str [62], .str [38, 103, 116, 59]] (.str (ra [62] gtS (ra [60] ltS (ra [194, 160] nbspS (JW s))))) := hg
  refine Q1 Tryz.func52 (by kernel_rfl) hc52 (by rw [Tryz.ntmps52]; simp) (by rw [Tryz.ntmps52]; decide) ?_
  cases attr
  · rw [if_neg (by simp)] at E
    simp -dsimp -implicitDefEqProofs (disch := omega) only [VCA, ↓reduceIte, reduceCtorEq, c52]
    repeat' (first | ((with_reducible refine brC (fun _ => ?_) fun _ => ?_) <;> try (exfalso; omega)) | (with_reducible apply pcallE.of; · exact c1) | (with_reducible apply pcallE.of; · exact c2) | (with_reducible apply pcallE.of; · exact hl) | (with_reducible apply pcallE.of; · exact hg) | (with_reducible refine And.intro ?_ ?_; · omega) | simp -dsimp -implicitDefEqProofs (disch := omega) only [VCA, Nat.reduceEqDiff, ↓reduceIte, reduceCtorEq, exists_eq_right_right])
    exact ⟨Sub.refl _, by rw [E]⟩
  · rw [if_pos rfl] at E
    simp -dsimp -implicitDefEqProofs (disch := omega) only [VCA, ↓reduceIte, reduceCtorEq, c52]
    repeat' (first | ((with_reducible refine brC (fun _ => ?_) fun _ => ?_) <;> try (exfalso; omega)) | (with_reducible apply pcallE.of; · exact c1) | (with_reducible apply pcallE.of; · exact c2) | (with_reducible apply pcallE.of; · exact hq) | (with_reducible refine And.intro ?_ ?_; · omega) | simp -dsimp -implicitDefEqProofs (disch := omega) only [VCA, Nat.reduceEqDiff, ↓reduceIte, reduceCtorEq, exists_eq_right_right])
    exact ⟨Sub.refl _, by rw [E]⟩
def c18 : SFun := ⟨.seq (.reg [o 4 (.mv (.c (.str [])))]) (.seq (.reg [o 5 (.mv (.c (.str [])))]) (.seq (.seq (.reg [o 6 (.mv (.c (.int .i64 0)))]) (.block 0 (.loop (.seq (.seq (.reg [o 9 (.mv (.t 6)), o 10 (.mv (.t 0)), o 11 (.lenS (.t 10)), o 12 (.bin .lss (.t 9) (.t 11))]) (.cond (.t 12) .skip (.exit 0))) (.block 1 (.seq (.reg [o 14 (.mv (.t 0)), o 15 (.mv (.t 6)), o 16 (.slS (.t 14) (some (.t 15)) none), o 17 (.mv (.t 1)), o 18 (.pcall 38 [.t 16, .t 17]), o 13 (.mv (.t 18)), o 19 (.ext (.t 13) 0), o 20 (.ext (.t 13) 1), o 7 (.mv (.t 19)), o 8 (.mv (.t 20))]) (.seq (.seq (.reg [o 21 (.mv (.t 8)), o 22 (.bin .eql (.t 21) (.c (.int .i64 0)))]) (.cond (.t 22) (.reg [o 23 (.mv (.t 0)), o 24 (.mv (.t 6)), o 25 (.mv (.t 6)), o 26 (.bin .add (.t 25) (.c (.int .i64 1))), o 27 (.slS (.t 23) (some (.t 24)) (some (.t 26))), o 7 (.mv (.t 27)), o 8 (.mv (.c (.int .i64 1)))]) .skip)) (.seq (.reg [o 28 (.mv (.t 5)), o 29 (.mv (.t 7)), o 30 (.bin .add (.t 28) (.t 29)), o 5 (.mv (.t 30))]) (.reg [o 31 (.mv (.t 6)), o 32 (.mv (.t 8)), o 33 (.bin .add (.t 31) (.t 32)), o 6 (.mv (.t 33))]))))))))) (.seq (.reg [o 34 (.mv (.t 5)), o 4 (.mv (.t 34))]) .ret))), [.tmp 4]⟩
theorem hc18 : Y5 Tryz.prog {pure := [38]} Tryz.f18 = some c18 := by kernel_rfl
theorem refRead_ok (s : List UInt8) (attr : Bool) (hs : s.length <= 1073741823) : PCalls (Pg G) 18 [.str s, .bool attr] (.str (K4 s attr)) := fun h => by
  refine Q1 Tryz.func18 (by kernel_rfl) hc18 (by rw [Tryz.ntmps18]; simp) (by rw [Tryz.ntmps18]; decide) ?_
  simp -dsimp -implicitDefEqProofs (disch := omega) only [VCA, c18]
  refine LoopVC.intro (fun m e h' => ∃ (i : Nat) (o : List UInt8), m = s.length - i /\ i <= s.length /\ e 0 = .str s /\ e 1 = .bool attr /\ e 5 = .str o /\ e 6 = Q3 i /\ h' = h /\ o.length <= 4 * i /\ o ++ K4 (s.drop i) attr = K4 s attr) s.length ⟨0, [], rfl, by omega, rfl, rfl, rfl, rfl, rfl, by simp, rfl⟩ ?_
  rintro m e h' ⟨i, o, rfl, hi, he0, he1, he5, he6, rfl, ho, hR⟩
  simp -dsimp -implicitDefEqProofs (disch := omega) only [VCA, Nat.reduceEqDiff, ↓reduceIte, reduceCtorEq, he0, he6]
  refine Br.dec (fun hlt => ?_) (fun hge => ?_)
  · have hne : s.drop i ≠ [] := by intro h2; have := congrArg List.length h2; simp at this; omega
    have hF := refFind_ok (G := G) (s.drop i) attr (by rw [List.length_drop]; omega)
    have hn := nE_is attr hne
    rw [WX hne] at hR
    rw [List.length_drop] at hn
    have hfi := (findM_is (s.drop i) attr).1
    rw [List.length_drop] at hfi
    simp -dsimp -implicitDefEqProofs (disch := omega) only [VCA, Nat.reduceEqDiff, ↓reduceIte, reduceCtorEq, he0, he1, he6]
    repeat' (first | ((with_reducible refine brC (fun _ => ?_) fun _ => ?_) <;> try (exfalso; omega)) | (with_reducible apply pcallE.of; · exact hF) | (with_reducible refine And.intro ?_ ?_; · omega) | simp -dsimp -implicitDefEqProofs (disch := omega) only [VCA, Nat.reduceEqDiff, Nat.reduceAdd, Nat.reduceLT, ↓reduceIte, reduceCtorEq, he0, he1, he5, he6])
    · rename_i hz
      have e1 : tE (s.drop i) attr = (s.drop i).take 1 := if_pos (by omega)
      have e2 : nE (s.drop i) attr = 1 := if_pos (by omega)
      rw [e1, e2, List.drop_drop] at hR
      have e3 : (s.take (i + 1)).drop i = (s.drop i).take 1 := by rw [List.drop_take]; congr 1; omega
      have hl : ((s.drop i).take 1).length <= 1 := by rw [List.length_take]; omega
      rw [e3]
      exact ⟨by omega, _, by omega, i + 1, o ++ (s.drop i).take 1, rfl, by omega, rfl, by omega, by rw [List.length_append]; omega, by rw [List.append_assoc]; exact hR⟩
    · rename_i hz
      have e1 : tE (s.drop i) attr = (U4 (s.drop i) attr).1 := if_neg (by omega)
      have e2 : nE (s.drop i) attr = (U4 (s.drop i) attr).2 := if_neg (by omega)
      rw [e1, e2] at hn hR
      rw [List.drop_drop] at hR
      exact ⟨by omega, _, by omega, i + (U4 (s.drop i) attr).2, o ++ (U4 (s.drop i) attr).1, rfl, by omega, rfl, by omega, by rw [List.length_append]; omega, by rw [List.append_assoc]; exact hR⟩
  · simp -dsimp -implicitDefEqProofs (disch := omega) only [VCA, Nat.reduceEqDiff, ↓reduceIte, exists_eq_right_right, he5]
    have : s.drop i = [] := List.drop_eq_nil_of_le (by omega)
    rw [this, XY, List.append_nil] at hR
    exact ⟨Sub.refl _, by rw [hR]⟩
def c30 : SFun := ⟨.seq (.reg [o 4 (.mv (.c (.str [])))]) (.seq (.reg [o 5 (.mv (.c (.str [])))]) (.seq (.seq (.reg [o 6 (.mv (.c (.int .i64 0)))]) (.block 0 (.loop (.seq (.seq (.reg [o 7 (.mv (.t 6)), o 8 (.mv (.t 0)), o 9 (.lenS (.t 8)), o 10 (.bin .lss (.t 7) (.t 9))]) (.cond (.t 10) .skip (.exit 0))) (.seq (.block 1 (.block 2 (.seq (.reg [o 21 (.mv (.t 0)), o 22 (.mv (.t 6)), o 23 (.idxS (.t 21) (.t 22)), o 24 (.bin .eql (.t 23) (.c (.int .u8 38))), o 20 (.mv (.t 24))]) (.cond (.t 20) (.reg [o 25 (.mv (.t 5)), o 26 (.bin .add (.t 25) (.c (.str [38, 97, 109, 112, 59]))), o 5 (.mv (.t 26))]) (.seq (.reg [o 28 (.mv (.t 0)), o 29 (.mv (.t 6)), o 30 (.idxS (.t 28) (.t 29)), o 31 (.bin .eql (.t 30) (.c (.int .u8 194))), o 32 (.mv (.t 31)), ⟨some 33, .mv (.t 6), some (32, true)⟩, ⟨some 34, .bin .add (.t 33) (.c (.int .i64 1)), some (32, true)⟩, ⟨some 35, .mv (.t 0), some (32, true)⟩, ⟨some 36, .lenS (.t 35), some (32, true)⟩, ⟨some 37, .bin .lss (.t 34) (.t 36), some (32, true)⟩, o 38 (.pick (.t 32) (.t 37) (.c (.bool false))), o 39 (.mv (.t 38)), ⟨some 40, .mv (.t 0), some (39, true)⟩, ⟨some 41, .mv (.t 6), some (39, true)⟩, ⟨some 42, .bin .add (.t 41) (.c (.int .i64 1)), some (39, true)⟩, ⟨some 43, .idxS (.t 40) (.t 42), some (39, true)⟩, ⟨some 44, .bin .eql (.t 43) (.c (.int .u8 160)), some (39, true)⟩, o 45 (.pick (.t 39) (.t 44) (.c (.bool false))), o 27 (.mv (.t 45))]) (.cond (.t 27) (.seq (.reg [o 46 (.mv (.t 5)), o 47 (.bin .add (.t 46) (.c (.str [38, 110, 98, 115, 112, 59]))), o 5 (.mv (.t 47))]) (.reg [o 48 (.mv (.t 6)), o 49 (.bin .add (.t 48) (.c (.int .i64 1))), o 6 (.mv (.t 49))])) (.seq (.reg [o 51 (.mv (.t 1)), o 52 (.mv (.t 51)), ⟨some 53, .mv (.t 0), some (52, true)⟩, ⟨some 54, .mv (.t 6), some (52, true)⟩, ⟨some 55, .idxS (.t 53) (.t 54), some (52, true)⟩, ⟨some 56, .bin .eql (.t 55) (.c (.int .u8 34)), some (52, true)⟩, o 57 (.pick (.t 52) (.t 56) (.c (.bool false))), o 50 (.mv (.t 57))]) (.cond (.t 50) (.reg [o 58 (.mv (.t 5)), o 59 (.bin .add (.t 58) (.c (.str [38, 113, 117, 111, 116, 59]))), o 5 (.mv (.t 59))]) (.seq (.reg [o 61 (.mv (.t 1)), o 62 (.un .not (.t 61)), o 63 (.mv (.t 62)), ⟨some 64, .mv (.t 0), some (63, true)⟩, ⟨some 65, .mv (.t 6), some (63, true)⟩, ⟨some 66, .idxS (.t 64) (.t 65), some (63, true)⟩, ⟨some 67, .bin .eql (.t 66) (.c (.int .u8 60)), some (63, true)⟩, o 68 (.pick (.t 63) (.t 67) (.c (.bool false))), o 60 (.mv (.t 68))]) (.cond (.t 60) (.reg [o 69 (.mv (.t 5)), o 70 (.bin .add (.t 69) (.c (.str [38, 108, 116, 59]))), o 5 (.mv (.t 70))]) (.seq (.reg [o 72 (.mv (.t 1)), o 73 (.un .not (.t 72)), o 74 (.mv (.t 73)), ⟨some 75, .mv (.t 0), some (74, true)⟩, ⟨some 76, .mv (.t 6), some (74, true)⟩, ⟨some 77, .idxS (.t 75) (.t 76), some (74, true)⟩, ⟨some 78, .bin .eql (.t 77) (.c (.int .u8 62)), some (74, true)⟩, o 79 (.pick (.t 74) (.t 78) (.c (.bool false))), o 71 (.mv (.t 79))]) (.cond (.t 71) (.reg [o 80 (.mv (.t 5)), o 81 (.bin .add (.t 80) (.c (.str [38, 103, 116, 59]))), o 5 (.mv (.t 81))]) (.reg [o 13 (.mv (.t 5)), o 14 (.mv (.t 0)), o 15 (.mv (.t 6)), o 16 (.mv (.t 6)), o 17 (.bin .add (.t 16) (.c (.int .i64 1))), o 18 (.slS (.t 14) (some (.t 15)) (some (.t 17))), o 19 (.bin .add (.t 13) (.t 18)), o 5 (.mv (.t 19))]))))))))))))) (.reg [o 11 (.mv (.t 6)), o 12 (.bin .add (.t 11) (.c (.int .i64 1))), o 6 (.mv (.t 12))])))))) (.seq (.reg [o 82 (.mv (.t 5)), o 4 (.mv (.t 82))]) .ret))), [.tmp 4]⟩
theorem hc30 : Y5 Tryz.prog {} Tryz.f30 = some c30 := by kernel_rfl
theorem refEscape_ok (s : List UInt8) (attr : Bool) (hs : s.length <= 4000000) : PCalls (Pg G) 30 [.str s, .bool attr] (.str (YT attr s)) := fun h => by
  refine Q1 Tryz.func30 (by kernel_rfl) hc30 (by rw [Tryz.ntmps30]; simp) (by rw [Tryz.ntmps30]; decide) ?_
  simp -dsimp -implicitDefEqProofs (disch := omega) only [VCA, c30]
  refine LoopVC.intro (fun m e h' => ∃ (i : Nat) (o : List UInt8), m = s.length - i /\ i <= s.length /\ e 0 = .str s /\ e 1 = .bool attr /\ e 5 = .str o /\ e 6 = Q3 i /\ h' = h /\ o.length <= 6 * i /\ o ++ YT attr (s.drop i) = YT attr s) s.length ⟨0, [], rfl, by omega, rfl, rfl, rfl, rfl, rfl, by simp, rfl⟩ ?_
  rintro m e h' ⟨i, o, rfl, hi, he0, he1, he5, he6, rfl, ho, hR⟩
  simp -dsimp -implicitDefEqProofs (disch := omega) only [VCA, Nat.reduceEqDiff, ↓reduceIte, reduceCtorEq, he0, he6]
  refine Br.dec (fun hlt => ?_) (fun hge => ?_)
  · have hd : s.drop i = s.getD i 0 :: s.drop (i + 1) := by
      rw [List.drop_eq_getElem_cons (by omega), List.getD_eq_getElem?_getD, List.getElem?_eq_getElem (by omega)]; rfl
    have hi1 : i + 1 <= s.length := by omega
    have bq : ∀ (c : UInt8) (n : Nat), n < 256 -> (c = UInt8.ofNat n ↔ ((c.toNat : Int) = n)) := fun c n hn => by
      constructor
      · rintro rfl; simp; omega
      · intro e
        have e : c.toNat = n := by omega
        rw [<- e]; simp
    have hh : (s.drop (i + 1)).head? = some 160 ↔ i + 1 < s.length /\ ((s.getD (i + 1) 0).toNat : Int) = 160 := by
      rw [List.head?_drop]
      by_cases hl : i + 1 < s.length
      · rw [List.getElem?_eq_getElem hl, List.getD_eq_getElem?_getD, List.getElem?_eq_getElem hl]
        simp only [Option.some.injEq, Option.getD_some]
        rw [show (160 : UInt8) = UInt8.ofNat 160 from rfl, bq _ 160 (by decide)]
        exact ⟨fun h => ⟨hl, h⟩, fun h => h.2⟩
      · rw [List.getElem?_eq_none (by omega)]
        constructor
        · intro h; cases h
        · rintro ⟨h, _⟩; omega
    have b38 : s.getD i 0 = 38 ↔ ((s.getD i 0).toNat : Int) = 38 := bq (s.getD i 0) 38 (by decide)
    have b194 : s.getD i 0 = 194 ↔ ((s.getD i 0).toNat : Int) = 194 := bq (s.getD i 0) 194 (by decide)
    have b34 : s.getD i 0 = 34 ↔ ((s.getD i 0).toNat : Int) = 34 := bq (s.getD i 0) 34 (by decide)
    have b60 : s.getD i 0 = 60 ↔ ((s.getD i 0).toNat : Int) = 60 := bq (s.getD i 0) 60 (by decide)
    have b62 : s.getD i 0 = 62 ↔ ((s.getD i 0).toNat : Int) = 62 := bq (s.getD i 0) 62 (by decide)
    have go : ∀ (x : List UInt8) (k : Nat) (z : Int), 1 <= k -> i + k <= s.length -> z = (i : Int) + k -> YT attr (s.drop i) = x ++ YT attr (s.drop (i + k)) -> x.length <= 6 ->
        (o.length + x.length <= 9223372036854775807 /\ ∃ m', m' < s.length - i /\ ∃ (i1 : Nat) (o1 : List UInt8), m' = s.length - i1 /\ i1 <= s.length /\ o ++ x = o1 /\ z = i1 /\ o1.length <= 6 * i1 /\ o1 ++ YT attr (s.drop i1) = YT attr s) :=
      fun x k z h1 h2 h3 h4 h5 => ⟨by omega, s.length - (i + k), by omega, i + k, o ++ x, rfl, h2, rfl, by omega, by rw [List.length_append]; omega, by rw [List.append_assoc, <- h4]; exact hR⟩
    by_cases hB : ((s.getD i 0).toNat : Int) = 194 /\ i + 1 < s.length /\ ((s.getD (i + 1) 0).toNat : Int) = 160
    · obtain ⟨h1, h2, h3⟩ := hB
      have hE : YT attr (s.drop i) = nbspS ++ YT attr (s.drop (i + 2)) := by
        have e1 : s.getD i 0 = 194 := b194.2 h1
        have hd2 : s.drop (i + 1) = s.getD (i + 1) 0 :: s.drop (i + 2) := by
          rw [List.drop_eq_getElem_cons (by omega), List.getD_eq_getElem?_getD, List.getElem?_eq_getElem (by omega)]; rfl
        have e2 : s.getD (i + 1) 0 = 160 := (bq _ 160 (by decide)).2 h3
        rw [hd, hd2, e1, e2, escD_nb]
      simp -dsimp -implicitDefEqProofs (disch := omega) only [VCA, Nat.reduceEqDiff, ↓reduceIte, reduceCtorEq, he0, he6]
      repeat' (first | ((with_reducible refine brC (fun _ => ?_) fun _ => ?_) <;> try (exfalso; omega)) | (with_reducible refine And.intro ?_ ?_; · omega) | simp -dsimp -implicitDefEqProofs (disch := omega) only [↓Q0 32, ↓Q0 39, VCA, Nat.reduceEqDiff, Nat.reduceAdd, Nat.reduceLeDiff, ↓reduceIte, reduceCtorEq, he0, he1, he5, he6])
      all_goals first | (refine go nbspS 2 _ ?_ ?_ ?_ hE (by decide) <;> omega) | (refine (go nbspS 2 _ ?_ ?_ ?_ hE (by decide)).2 <;> omega)
    · have hE : YT attr (s.drop i) = escC attr (s.getD i 0) ++ YT attr (s.drop (i + 1)) := by
        rw [hd]
        refine escD_c attr _ _ fun hc => hB ?_
        obtain ⟨h2, h3⟩ := hh.1 hc.2
        exact ⟨b194.1 hc.1, h2, h3⟩
      have fin : ∀ x, escC attr (s.getD i 0) = x -> x.length <= 6 -> _ := fun x hx hl => go x 1 _ (by omega) hi1 rfl (by rw [<- hx]; exact hE) hl
      have cut : (s.take (i + 1)).drop i = [s.getD i 0] := by
        rw [List.drop_take, hd, show i + 1 - i = 1 from by omega]; rfl
      cases attr
      · rcases (by omega : ((s.getD i 0).toNat : Int) = 38 \/ ((s.getD i 0).toNat : Int) = 60 \/ ((s.getD i 0).toNat : Int) = 62 \/ (((s.getD i 0).toNat : Int) ≠ 38 /\ ((s.getD i 0).toNat : Int) ≠ 60 /\ ((s.getD i 0).toNat : Int) ≠ 62)) with hc | hc | hc | hc
        · simp -dsimp -implicitDefEqProofs (disch := omega) only [VCA, Nat.reduceEqDiff, ↓reduceIte, reduceCtorEq, he0, he6]
          repeat' (first | ((with_reducible refine brC (fun _ => ?_) fun _ => ?_) <;> try (exfalso; omega)) | (with_reducible refine And.intro ?_ ?_; · omega) | simp -dsimp -implicitDefEqProofs (disch := omega) only [VCA, Nat.reduceEqDiff, Nat.reduceAdd, Nat.reduceLeDiff, ↓reduceIte, reduceCtorEq, he0, he1, he5, he6])
          all_goals first | exact fin ampS (by rw [b38.2 hc]; rfl) (by decide) | exact (fin ampS (by rw [b38.2 hc]; rfl) (by decide)).2
        · simp -dsimp -implicitDefEqProofs (disch := omega) only [VCA, Nat.reduceEqDiff, ↓reduceIte, reduceCtorEq, he0, he6]
          repeat' (first | ((with_reducible refine brC (fun _ => ?_) fun _ => ?_) <;> try (exfalso; omega)) | (with_reducible refine And.intro ?_ ?_; · omega) | simp -dsimp -implicitDefEqProofs (disch := omega) only [↓Q0 32, ↓Q0 39, ↓Q0 52, ↓Q0 63, VCA, Nat.reduceEqDiff, Nat.reduceAdd, Nat.reduceLeDiff, ↓reduceIte, reduceCtorEq, he0, he1, he5, he6])
          all_goals first | exact fin ltS (by rw [b60.2 hc]; rfl) (by decide) | exact (fin ltS (by rw [b60.2 hc]; rfl) (by decide)).2
        · simp -dsimp -implicitDefEqProofs (disch := omega) only [VCA, Nat.reduceEqDiff, ↓reduceIte, reduceCtorEq, he0, he6]
          repeat' (first | ((with_reducible refine brC (fun _ => ?_) fun _ => ?_) <;> try (exfalso; omega)) | (with_reducible refine And.intro ?_ ?_; · omega) | simp -dsimp -implicitDefEqProofs (disch := omega) only [↓Q0 32, ↓Q0 39, ↓Q0 52, ↓Q0 63, ↓Q0 74, VCA, Nat.reduceEqDiff, Nat.reduceAdd, Nat.reduceLeDiff, ↓reduceIte, reduceCtorEq, he0, he1, he5, he6])
          all_goals first | exact fin gtS (by rw [b62.2 hc]; rfl) (by decide) | exact (fin gtS (by rw [b62.2 hc]; rfl) (by decide)).2
        · have hx : escC false (s.getD i 0) = [s.getD i 0] := by
            unfold escC
            rw [if_neg (fun e => hc.1 (b38.1 e)), if_neg (by simp), if_neg (fun e => hc.2.1 (b60.1 e.2)), if_neg (fun e => hc.2.2 (b62.1 e.2))]
          simp -dsimp -implicitDefEqProofs (disch := omega) only [VCA, Nat.reduceEqDiff, ↓reduceIte, reduceCtorEq, he0, he6]
          repeat' (first | ((with_reducible refine brC (fun _ => ?_) fun _ => ?_) <;> try (exfalso; omega)) | (with_reducible refine And.intro ?_ ?_; · omega) | simp -dsimp -implicitDefEqProofs (disch := omega) only [↓Q0 32, ↓Q0 39, ↓Q0 52, ↓Q0 63, ↓Q0 74, VCA, Nat.reduceEqDiff, ↓reduceIte, reduceCtorEq, he0, he1, he5, he6])
          all_goals first | (rw [cut]; exact fin _ hx (by simp)) | (rw [cut]; exact (fin _ hx (by simp)).2)
      · rcases (by omega : ((s.getD i 0).toNat : Int) = 38 \/ ((s.getD i 0).toNat : Int) = 34 \/ (((s.getD i 0).toNat : Int) ≠ 38 /\ ((s.getD i 0).toNat : Int) ≠ 34)) with hc | hc | hc
        · simp -dsimp -implicitDefEqProofs (disch := omega) only [VCA, Nat.reduceEqDiff, ↓reduceIte, reduceCtorEq, he0, he6]
          repeat' (first | ((with_reducible refine brC (fun _ => ?_) fun _ => ?_) <;> try (exfalso; omega)) | (with_reducible refine And.intro ?_ ?_; · omega) | simp -dsimp -implicitDefEqProofs (disch := omega) only [VCA, Nat.reduceEqDiff, Nat.reduceAdd, Nat.reduceLeDiff, ↓reduceIte, reduceCtorEq, he0, he1, he5, he6])
          all_goals first | exact fin ampS (by rw [b38.2 hc]; rfl) (by decide) | exact (fin ampS (by rw [b38.2 hc]; rfl) (by decide)).2
        · simp -dsimp -implicitDefEqProofs (disch := omega) only [VCA, Nat.reduceEqDiff, ↓reduceIte, reduceCtorEq, he0, he6]
          repeat' (first | ((with_reducible refine brC (fun _ => ?_) fun _ => ?_) <;> try (exfalso; omega)) | (with_reducible refine And.intro ?_ ?_; · omega) | simp -dsimp -implicitDefEqProofs (disch := omega) only [↓Q0 32, ↓Q0 39, ↓Q0 52, VCA, Nat.reduceEqDiff, Nat.reduceAdd, Nat.reduceLeDiff, ↓reduceIte, reduceCtorEq, he0, he1, he5, he6])
          all_goals first | exact fin quotS (by rw [b34.2 hc]; rfl) (by decide) | exact (fin quotS (by rw [b34.2 hc]; rfl) (by decide)).2
        · have hx : escC true (s.getD i 0) = [s.getD i 0] := by
            unfold escC
            rw [if_neg (fun e => hc.1 (b38.1 e)), if_neg (fun e => hc.2 (b34.1 e.2)), if_neg (by simp), if_neg (by simp)]
          simp -dsimp -implicitDefEqProofs (disch := omega) only [VCA, Nat.reduceEqDiff, ↓reduceIte, reduceCtorEq, he0, he6]
          repeat' (first | ((with_reducible refine brC (fun _ => ?_) fun _ => ?_) <;> try (exfalso; omega)) | (with_reducible refine And.intro ?_ ?_; · omega) | simp -dsimp -implicitDefEqProofs (disch := omega) only [↓Q0 32, ↓Q0 39, ↓Q0 52, ↓Q0 63, ↓Q0 74, VCA, Nat.reduceEqDiff, ↓reduceIte, reduceCtorEq, he0, he1, he5, he6])
          all_goals first | (rw [cut]; exact fin _ hx (by simp)) | (rw [cut]; exact (fin _ hx (by simp)).2)
  · simp -dsimp -implicitDefEqProofs (disch := omega) only [VCA, Nat.reduceEqDiff, ↓reduceIte, exists_eq_right_right, he5]
    have : s.drop i = [] := List.drop_eq_nil_of_le (by omega)
    rw [this, escD_nil, List.append_nil] at hR
    exact ⟨Sub.refl _, by rw [hR]⟩
def c99 : SFun := ⟨.seq (.reg [o 2 (.mv (.c (.str [])))]) (.seq (.reg [o 3 (.mv (.t 0)), o 4 (.pcall 71 [.t 3, .c (.bool true)]), o 2 (.mv (.t 4))]) .ret), [.tmp 2]⟩
theorem hc99 : Y5 Tryz.prog {pure := [71]} Tryz.f99 = some c99 := by kernel_rfl
theorem value_ok (s : List UInt8) (hs : s.length <= 1073741823) : PCalls (Pg G) 99 [.str s] (.str (K4 s true)) := fun h => by
  refine Q1 Tryz.func99 (by kernel_rfl) hc99 (by rw [Tryz.ntmps99]; simp) (by rw [Tryz.ntmps99]; decide) ?_
  simp -dsimp -implicitDefEqProofs (disch := omega) only [VCA, ↓reduceIte, reduceCtorEq, c99]
  refine pcallE.of (read_ok s true hs) ?_; simp -dsimp -implicitDefEqProofs (disch := omega) only [VCA, ↓reduceIte, exists_eq_right]
  exact Sub.refl _
end Go.Proofs.K
end
section
set_option linter.unusedSimpArgs false
set_option linter.unusedVariables false
namespace Go.Proofs.K
open Go Go.Sim Go.Proofs
variable {G : JU}
structure HNode where
  kind : Int
  name : List UInt8
  attrs : List HAttr
  text : List UInt8
  parent : Int
  kids : List Int
deriving DecidableEq, Inhabited
def eNode (x : HNode) : List AVal := [Q3 x.kind, .str x.name, sl Z6 x.attrs, .str x.text, Q3 x.parent, sl eInt x.kids]
instance : LenE eNode 6 := ⟨fun _ => rfl⟩
structure HDoc where
  nodes : List HNode
  quirks : Bool
deriving DecidableEq, Inhabited
def eDoc (d : HDoc) : List AVal := [sl eNode d.nodes, .bool d.quirks]
instance : LenE eDoc 2 := ⟨fun _ => rfl⟩
def nd (d : HDoc) (n : Int) : HNode := nth d.nodes n.toNat
def fe : Nat -> (Nat -> Int) -> Int
  | 0, _ => 0
  | n + 1, f => if fe n f ≠ 0 then fe n f else f n
def attrAt (l : List HAttr) (name : List UInt8) : Int := idxM (fun a => a.name == name) l
def inD (d : HDoc) (n : Int) : Prop := 0 <= n /\ n < d.nodes.length
instance (d : HDoc) (n : Int) : Decidable (inD d n) := by unfold inD; infer_instance
def upF : Nat -> HDoc -> Int -> Nat
  | 0, _, _ => 0
  | f + 1, d, n => if 0 <= (nd d n).parent then upF f d (nd d n).parent + 1 else 0
def up (d : HDoc) (n : Int) : Nat := upF (d.nodes.length + 1) d n
section
variable {d : HDoc}
def belF : Nat -> HDoc -> Int -> List Int
  | 0, _, n => [n]
  | f + 1, d, n => n :: (nd d n).kids.flatMap (belF f d)
def below (d : HDoc) (n : Int) : List Int := belF 40 d n
end
end Go.Proofs.K
end
section
set_option linter.unusedSimpArgs false
set_option linter.unusedVariables false
namespace Go.Proofs.K
open Go Go.Sim Go.Proofs
variable {G : JU}
def c101 : SFun := ⟨.seq (.reg [o 4 (.mv (.c (.int .i64 0)))]) (.seq (.seq (.reg [o 6 (.mv (.t 0)), o 7 (.len (.t 6)), o 8 (.mv (.c (.int .i64 0)))]) (.block 0 (.loop (.seq (.reg [o 9 (.bin .lss (.t 8) (.t 7))]) (.seq (.cond (.t 9) .skip (.exit 0)) (.seq (.block 1 (.seq (.reg [o 10 (.mv (.t 8)), o 5 (.mv (.t 10))]) (.seq (.reg [o 11 (.mv (.t 1)), o 12 (.mv (.t 0)), o 13 (.mv (.t 5)), o 14 (.idxA 2 (.t 12) (.t 13)), o 15 (.ld 2 true (.t 14)), o 16 (.call (.t 11) [.t 15])]) (.cond (.t 16) (.seq (.reg [o 17 (.mv (.t 5)), o 4 (.mv (.t 17))]) .ret) .skip)))) (.reg [o 18 (.bin .add (.t 8) (.c (.int .i64 1))), o 8 (.mv (.t 18))]))))))) (.seq (.reg [o 4 (.mv (.c (.int .i64 (-1))))]) .ret)), [.tmp 4]⟩
theorem hc101 : Y5 Tryz.prog {} Tryz.f101 = some c101 := by kernel_rfl
def eBool (b : Bool) : List AVal := [.bool b]
instance : LenE eBool 1 := ⟨fun _ => rfl⟩
def c42 : SFun := ⟨.seq (.reg [o 4 (.mv (.c (.str []))), o 5 (.mv (.c (.bool false)))]) (.seq (.seq (.reg [o 6 (.mv (.c (.int .i64 0)))]) (.block 0 (.loop (.seq (.seq (.reg [o 7 (.mv (.t 6)), o 8 (.mv (.t 0)), o 9 (.len (.t 8)), o 10 (.bin .lss (.t 7) (.t 9))]) (.cond (.t 10) .skip (.exit 0))) (.seq (.block 1 (.seq (.reg [o 13 (.mv (.t 0)), o 14 (.mv (.t 6)), o 15 (.idxA 2 (.t 13) (.t 14)), o 16 (.fldA 0 (.t 15)), o 17 (.ld 1 false (.t 16)), o 18 (.mv (.t 1)), o 19 (.bin .eql (.t 17) (.t 18))]) (.cond (.t 19) (.seq (.reg [o 20 (.mv (.t 0)), o 21 (.mv (.t 6)), o 22 (.idxA 2 (.t 20) (.t 21)), o 23 (.fldA 1 (.t 22)), o 24 (.ld 1 false (.t 23)), o 4 (.mv (.t 24)), o 5 (.mv (.c (.bool true)))]) .ret) .skip))) (.reg [o 11 (.mv (.t 6)), o 12 (.bin .add (.t 11) (.c (.int .i64 1))), o 6 (.mv (.t 12))])))))) (.seq (.reg [o 4 (.mv (.c (.str []))), o 5 (.mv (.c (.bool false)))]) .ret)), [.tmp 4, .tmp 5]⟩
theorem hc42 : Y5 Tryz.prog {} Tryz.f42 = some c42 := by kernel_rfl
theorem hn42 : (Tryz.f42.name == "runtime.NumGoroutine") = false := by kernel_rfl
def XU (l : List HAttr) (name : List UInt8) : List UInt8 × Bool := if 0 <= attrAt l name then ((nth l (attrAt l name).toNat).value, true) else ([], false)
theorem attrOf_ok (l : List HAttr) (name : List UInt8) (hl : l.length <= 1073741824) : PCalls (Pg G) 42 [sl Z6 l, .str name] (.tup [.str (XU l name).1, .bool (XU l name).2]) := fun h => by
  refine Q1 Tryz.func42 hn42 hc42 (by rw [Tryz.ntmps42]; simp) (by rw [Tryz.ntmps42]; decide) ?_
  simp -dsimp -implicitDefEqProofs (disch := omega) only [VCA, c42]
  refine LoopVC.intro (fun m e h' => ∃ k : Nat, k <= l.length /\ m = l.length - k /\ e 0 = sl Z6 l /\ e 1 = .str name /\ e 6 = Q3 k /\ h' = h /\ ∀ j, j < k -> ((nth l j).name == name) = false) l.length ⟨0, by omega, by omega, rfl, rfl, rfl, rfl, by omega⟩ ?_
  rintro m e h' ⟨k, hk, rfl, he0, he1, he6, rfl, hj⟩
  simp -dsimp -implicitDefEqProofs (disch := omega) only [VCA, Nat.reduceEqDiff, ↓reduceIte, reduceCtorEq, he0, he6]
  repeat' (first | ((with_reducible refine brC (fun _ => ?_) fun _ => ?_) <;> try (exfalso; omega)) | (with_reducible refine And.intro ?_ ?_; · omega) | simp -dsimp -implicitDefEqProofs (disch := omega) only [VCA, Nat.reduceEqDiff, Nat.reduceAdd, Nat.reduceLeDiff, ↓reduceIte, reduceCtorEq, exists_eq_right_right, Z6, he0, he1, he6, Z6])
  · rename_i h1 h2
    have e1 : attrAt l name = k := idxM_some (by omega) hj (by simpa using h2)
    unfold XU
    rw [e1, if_pos (by omega)]
    exact ⟨Sub.refl _, rfl⟩
  · rename_i h1 h2
    refine ⟨_, by omega, k + 1, by omega, rfl, by omega, fun j hj' => ?_⟩
    by_cases hjk : j = k
    · subst hjk; simpa using h2
    · exact hj j (by omega)
  · rename_i h1
    have e1 : attrAt l name = -1 := idxM_none (fun j hj' => hj j (by omega))
    unfold XU
    rw [e1, if_neg (by omega)]
    exact ⟨Sub.refl _, rfl⟩
theorem attrOf_has (l : List HAttr) (name : List UInt8) : (XU l name).2 = decide (0 <= attrAt l name) := by
  unfold XU; split <;> simp_all
theorem cut_ok (hG : U8 G) (s t : List UInt8) (hs : s.length < 4294967281) : PCalls (Pg G) 88 [.str s, .str t] (.tup [.str (Lib.cut s t).1, .str (Lib.cut s t).2.1, .bool (Lib.cut s t).2.2]) := by
  obtain ⟨m, hG⟩ := hG
  refine ofBelow ⟨_, Tryz.func88, by kernel_rfl, by kernel_rfl⟩ fun g w vs GR V => ?_
  obtain ⟨u, v, rfl, hu, hv⟩ := V.two_inv
  rw [hu.str_inv', hv.str_inv']
  refine (Tryz.strings_Cut ⟨⟨s⟩⟩ ⟨⟨t⟩⟩ m w hs (GR.int hG)).mono fun e w' ⟨he, n, hw⟩ => ⟨_, he, ?_, fun g w => ?_⟩
  · rw [hw]; exact ⟨rfl, rfl, rfl, Nat.le_refl _, fun _ _ => rfl⟩
  · refine .tup _ _ rfl fun j u a hu ha => ?_
    match j with
    | 0 => simp at hu ha; subst hu ha; exact VRel.str_mk g w _
    | 1 => simp at hu ha; subst hu ha; exact VRel.str_mk g w _
    | 2 => simp at hu ha; subst hu ha; exact .bool _
    | j + 3 => simp at hu
theorem J8 (l : List AVal) : deVp (.tup l) = .tup l := rfl
abbrev Tr : Nat := 38
def rdO (s : List UInt8) (a en : Nat) (out : AVal) : AObj := ⟨Tr, 4, [[.str s, Q3 a, Q3 en, out]]⟩
def PredC (G : JU) (k : Nat) (q : Int -> Bool) : Prop := ∀ b : UInt8, PCalls (Pg G) k [.int .u8 b.toNat] (.bool (q b.toNat))
theorem T8 {q : Int -> Bool} {s : List UInt8} {a : Nat} (h : a <= s.length) : a <= Z4 q s a /\ Z4 q s a <= s.length := ⟨(WQ h).ge, (WQ h).le⟩
def c75 : SFun := ⟨.seq (.reg [o 4 (.mv (.c (.str [])))]) (.seq (.reg [o 6 (.mv (.t 0)), o 7 (.fldA 0 (.t 6)), o 8 (.fldA 1 (.t 7)), o 9 (.ld 1 false (.t 8)), o 5 (.mv (.t 9))]) (.seq (.block 0 (.loop (.seq (.seq (.dreg [(o 10 (.mv (.t 0)), none), (o 11 (.fldA 0 (.t 10)), none), (o 12 (.fldA 1 (.t 11)), none), (o 13 (.ld 1 false (.t 12)), none), (o 14 (.mv (.t 0)), none), (o 15 (.fldA 0 (.t 14)), none), (o 16 (.fldA 0 (.t 15)), none), (o 17 (.ld 1 false (.t 16)), none), (o 18 (.lenS (.t 17)), none), (o 19 (.bin .lss (.t 13) (.t 18)), none), (o 20 (.mv (.t 19)), none), (⟨some 21, .mv (.t 1), some (20, true)⟩, none), (⟨some 22, .mv (.t 0), some (20, true)⟩, none), (⟨some 23, .fldA 0 (.t 22), some (20, true)⟩, none), (⟨some 24, .fldA 0 (.t 23), some (20, true)⟩, none), (⟨some 25, .ld 1 false (.t 24), some (20, true)⟩, none), (⟨some 26, .mv (.t 0), some (20, true)⟩, none), (⟨some 27, .fldA 0 (.t 26), some (20, true)⟩, none), (⟨some 28, .fldA 1 (.t 27), some (20, true)⟩, none), (⟨some 29, .ld 1 false (.t 28), some (20, true)⟩, none), (⟨some 30, .idxS (.t 25) (.t 29), some (20, true)⟩, none), (⟨some 31, .call (.t 21) [.t 30], some (20, true)⟩, (some [25, 29, 13, 17])), (⟨some 32, .un .not (.t 31), some (20, true)⟩, none), (o 33 (.pick (.t 20) (.t 32) (.c (.bool false))), none)]) (.cond (.t 33) .skip (.exit 0))) (.block 1 (.reg [o 34 (.mv (.t 0)), o 35 (.fldA 0 (.t 34)), o 36 (.fldA 1 (.t 35)), o 37 (.ld 1 false (.t 36)), o 38 (.bin .add (.t 37) (.c (.int .i64 1))), o 39 (.fldA 0 (.t 34)), o 40 (.fldA 1 (.t 39)), ⟨none, .st 1 (.t 40) (.t 38), none⟩]))))) (.seq (.dreg [(o 41 (.mv (.t 0)), none), (o 42 (.fldA 0 (.t 41)), none), (o 43 (.fldA 0 (.t 42)), none), (o 44 (.ld 1 false (.t 43)), none), (o 45 (.mv (.t 5)), none), (o 46 (.mv (.t 0)), none), (o 47 (.fldA 0 (.t 46)), none), (o 48 (.fldA 1 (.t 47)), none), (o 49 (.ld 1 false (.t 48)), none), (o 50 (.slS (.t 44) (some (.t 45)) (some (.t 49))), none), (o 4 (.mv (.t 50)), none)]) .ret))), [.tmp 4]⟩
theorem hc75 : Y5 Tryz.prog {} Tryz.f75 = some c75 := by kernel_rfl
theorem until_ok {rb : Nat} {s : List UInt8} {a en : Nat} {out : AVal} {h : Q2} {k : Nat} {q : Int -> Bool} (hr : h rb = some (rdO s a en out)) (ha : a <= s.length) (hs : s.length <= 4000000) (hq : PredC G k q) :
    DCalls (Pg G) 75 [.vp rb 0, .fn k [] []] h fun r h' => r = .str (seg s a (Z4 q s a)) /\ h' = upd h rb (some (rdO s (Z4 q s a) en out)) := by
  have hr' := hr
  unfold rdO at hr'
  refine Q1 Tryz.func75 (by kernel_rfl) hc75 (by rw [Tryz.ntmps75]; simp) (by rw [Tryz.ntmps75]; decide) ?_
  simp -dsimp -implicitDefEqProofs (disch := omega) only [VCA, Nat.reduceAdd, Nat.reduceLT, Nat.reduceLeDiff, ↓reduceIte, reduceCtorEq, rdO, exists_eq_left', c75, hr']
  refine LoopVC.intro (fun m e h' => ∃ j : Nat, a <= j /\ j <= s.length /\ m = s.length - j /\ e 0 = .vp rb 0 /\ e 1 = .fn k [] [] /\ e 5 = Q3 a /\ h' = upd h rb (some (rdO s j en out)) /\ Z4 q s j = Z4 q s a) (s.length - a)
    (by exact ⟨a, by omega, by omega, by omega, rfl, rfl, rfl, (XK hr).symm, rfl⟩) ?_
  rintro m e h' ⟨j, hj0, hj, rfl, e0, e1, e5, hh, hsk⟩
  have hr2 : h' rb = some (rdO s j en out) := by rw [hh, Z1]
  unfold rdO at hr2
  by_cases hlt : j < s.length
  · obtain ⟨c, hc⟩ : ∃ c, s.getD j 0 = c := ⟨_, rfl⟩
    have hb : bt s j = c.toNat := by unfold bt; rw [hc]
    have cQ := hq c
    cases hqc : q c.toNat with
    | true =>
      rw [hqc] at cQ
      have hj2 : Z4 q s j = j := Y9 (by rw [hb]; exact hqc) hlt
      rw [hj2] at hsk
      rw [<- hsk]
      repeat' (first | ((with_reducible refine brC (fun _ => ?_) fun _ => ?_) <;> try (exfalso; omega)) | (with_reducible refine PCalls.of cQ ?_) | (with_reducible refine And.intro ?_ ?_; · omega) | simp -dsimp -implicitDefEqProofs (disch := omega) only [↓Q5 20, VCA, Nat.reduceEqDiff, Nat.reduceBEq, Nat.reduceAdd, Nat.reduceLT, Nat.reduceLeDiff, ↓reduceIte, reduceCtorEq, Y8, Q7, SOp.rd, SI.rd, SX.rd, rdL, rdO, implies_true, exists_eq_right_right, exists_eq_left', J1, e0, e1, e5, hr2, hc])
      exact ⟨by rw [hh]; exact Sub.refl _, by simp [seg]⟩
    | false =>
      rw [hqc] at cQ
      have hj2 : Z4 q s j = Z4 q s (j + 1) := W4 hlt (by rw [hb]; exact hqc)
      repeat' (first | ((with_reducible refine brC (fun _ => ?_) fun _ => ?_) <;> try (exfalso; omega)) | (with_reducible refine PCalls.of cQ ?_) | (with_reducible refine And.intro ?_ ?_; · omega) | simp -dsimp -implicitDefEqProofs (disch := omega) only [↓Q5 20, VCA, Nat.reduceEqDiff, Nat.reduceBEq, Nat.reduceAdd, Nat.reduceLT, Nat.reduceLeDiff, ↓reduceIte, reduceCtorEq, Y8, Q7, SOp.rd, SI.rd, SX.rd, rdL, rdO, Z3, implies_true, exists_eq_left', J1, e0, e1, e5, hr2, hc])
      exact ⟨_, by omega, j + 1, by omega, by omega, rfl, by rw [hh, YV]; rfl, hj2.symm.trans hsk⟩
  · obtain rfl : j = s.length := by omega
    have hj2 : Z4 q s s.length = s.length := U5 (Nat.le_refl _)
    rw [hj2] at hsk
    rw [<- hsk]
    repeat' (first | ((with_reducible refine brC (fun _ => ?_) fun _ => ?_) <;> try (exfalso; omega)) | (with_reducible refine And.intro ?_ ?_; · omega) | simp -dsimp -implicitDefEqProofs (disch := omega) only [↓Q5 20, VCA, Nat.reduceEqDiff, Nat.reduceBEq, Nat.reduceAdd, Nat.reduceLT, Nat.reduceLeDiff, ↓reduceIte, reduceCtorEq, Y8, Q7, SOp.rd, SI.rd, SX.rd, rdL, rdO, implies_true, exists_eq_right_right, exists_eq_left', J1, J8, e0, e5, hr2])
    exact ⟨by rw [hh]; exact Sub.refl _, by simp [seg]⟩
def c72 : SFun := ⟨.seq (.reg [o 4 (.mv (.c (.str []))), o 5 (.mv (.c (.bool false)))]) (.seq (.dreg [(o 7 (.mv (.t 0)), none), (o 8 (.fldA 0 (.t 7)), none), (o 9 (.fldA 0 (.t 8)), none), (o 10 (.ld 1 false (.t 9)), none), (o 11 (.mv (.t 0)), none), (o 12 (.fldA 0 (.t 11)), none), (o 13 (.fldA 1 (.t 12)), none), (o 14 (.ld 1 false (.t 13)), none), (o 15 (.slS (.t 10) (some (.t 14)) none), none), (o 16 (.mv (.t 1)), none), (o 17 (.pcall 88 [.t 15, .t 16]), none), (o 6 (.mv (.t 17)), none), (o 18 (.ext (.t 6) 0), none), (o 19 (.ext (.t 6) 1), none), (o 20 (.ext (.t 6) 2), none), (o 4 (.mv (.t 18)), none), (o 5 (.mv (.t 20)), none)]) (.seq (.reg [o 21 (.mv (.t 0)), o 22 (.fldA 0 (.t 21)), o 23 (.fldA 1 (.t 22)), o 24 (.ld 1 false (.t 23)), o 25 (.mv (.t 4)), o 26 (.lenS (.t 25)), o 27 (.bin .add (.t 24) (.t 26)), o 28 (.fldA 0 (.t 21)), o 29 (.fldA 1 (.t 28)), ⟨none, .st 1 (.t 29) (.t 27), none⟩]) (.seq (.seq (.reg [o 30 (.mv (.t 5))]) (.cond (.t 30) (.reg [o 31 (.mv (.t 0)), o 32 (.fldA 0 (.t 31)), o 33 (.fldA 1 (.t 32)), o 34 (.ld 1 false (.t 33)), o 35 (.mv (.t 1)), o 36 (.lenS (.t 35)), o 37 (.bin .add (.t 34) (.t 36)), o 38 (.fldA 0 (.t 31)), o 39 (.fldA 1 (.t 38)), ⟨none, .st 1 (.t 39) (.t 37), none⟩]) .skip)) (.seq (.reg [o 40 (.mv (.t 4)), o 41 (.mv (.t 5)), o 4 (.mv (.t 40)), o 5 (.mv (.t 41))]) .ret)))), [.tmp 4, .tmp 5]⟩
theorem hc72 : Y5 Tryz.prog {pure := [88]} Tryz.f72 = some c72 := by kernel_rfl
theorem past_ok (hG : U8 G) {rb : Nat} {s w : List UInt8} {a en : Nat} {out : AVal} {h : Q2} (hr : h rb = some (rdO s a en out)) (ha : a <= s.length) (hs : s.length <= 4000000) (hw : noLet w = true) (h0 : w ≠ []) :
    DCalls (Pg G) 72 [.vp rb 0, .str w] h fun r h' => r = .tup [.str (seg s a (upM s a w)), .bool (decide (upM s a w < s.length))] /\ Sub (upd h rb (some (rdO s (if upM s a w < s.length then upM s a w + w.length else s.length) en out))) h' := by
  have cC := cut_ok (G := G) hG (s.drop a) w (by rw [List.length_drop]; omega)
  have hl := up_le (w := w) ha
  rw [cut_up hw h0 ha] at cC
  have sl : (seg s a (upM s a w)).length = upM s a w - a := TK hl.2.1
  have hr' := hr
  unfold rdO at hr'
  have sl' : (a : Int) + ((seg s a (upM s a w)).length : Int) = (upM s a w : Int) := by omega
  by_cases hlt : upM s a w < s.length
  · rw [decide_eq_true hlt] at cC ⊢
    rw [if_pos hlt]
    have hl2 := hl.2.2 hlt
    generalize upM s a w = u at *
    refine Q1 Tryz.func72 (by kernel_rfl) hc72 (by rw [Tryz.ntmps72]; simp) (by rw [Tryz.ntmps72]; decide) ?_
    simp -dsimp -implicitDefEqProofs (disch := omega) only [VCA, Nat.reduceEqDiff, Nat.reduceAdd, Nat.reduceLT, Nat.reduceLeDiff, ↓reduceIte, reduceCtorEq, Y8, Q7, rdO, exists_eq_left', J1, c72, hr']
    repeat' (first | ((with_reducible refine brC (fun _ => ?_) fun _ => ?_) <;> try (exfalso; omega)) | (with_reducible apply pcallE.of; · exact cC) | (with_reducible refine And.intro ?_ ?_; · omega) | simp -dsimp -implicitDefEqProofs (disch := omega) only [VCA, Nat.reduceEqDiff, Nat.reduceAdd, Nat.reduceLT, Nat.reduceLeDiff, ↓reduceIte, reduceCtorEq, Y8, Q7, Z3, exists_eq_left', J1, hr', sl'])
    exact ⟨_, Sub.refl _, by first | exact Sub.refl _ | (rw [Int.natCast_add]; exact Sub.refl _)⟩
  · rw [decide_eq_false hlt] at cC ⊢
    rw [if_neg hlt]
    generalize upM s a w = u at *
    obtain rfl : u = s.length := by omega
    refine Q1 Tryz.func72 (by kernel_rfl) hc72 (by rw [Tryz.ntmps72]; simp) (by rw [Tryz.ntmps72]; decide) ?_
    simp -dsimp -implicitDefEqProofs (disch := omega) only [VCA, Nat.reduceEqDiff, Nat.reduceAdd, Nat.reduceLT, Nat.reduceLeDiff, ↓reduceIte, reduceCtorEq, Y8, Q7, rdO, exists_eq_left', J1, c72, hr']
    repeat' (first | ((with_reducible refine brC (fun _ => ?_) fun _ => ?_) <;> try (exfalso; omega)) | (with_reducible apply pcallE.of; · exact cC) | (with_reducible refine And.intro ?_ ?_; · omega) | simp -dsimp -implicitDefEqProofs (disch := omega) only [VCA, Nat.reduceEqDiff, Nat.reduceAdd, Nat.reduceLT, Nat.reduceLeDiff, ↓reduceIte, reduceCtorEq, Y8, Q7, Z3, exists_eq_left', J1, hr', sl'])
    exact ⟨_, Sub.refl _, by first | exact Sub.refl _ | (rw [Int.natCast_add]; exact Sub.refl _)⟩
def c117 : SFun := ⟨.seq (.reg [o 2 (.mv (.c (.bool false)))]) (.seq (.reg [o 3 (.mv (.t 0)), o 4 (.pcall 68 [.t 3]), o 5 (.un .not (.t 4)), o 2 (.mv (.t 5))]) .ret), [.tmp 2]⟩
theorem hc117 : Y5 Tryz.prog {pure := [68]} Tryz.f117 = some c117 := by kernel_rfl
theorem pV1 : PredC G 117 Z0 := fun b h => by
  have cB := ZQ (G := G) b
  unfold Z0
  refine Q1 Tryz.func117 (by kernel_rfl) hc117 (by rw [Tryz.ntmps117]; simp) (by rw [Tryz.ntmps117]; decide) ?_
  simp -dsimp -implicitDefEqProofs (disch := omega) only [VCA, ↓reduceIte, reduceCtorEq, c117]
  repeat' (first | ((with_reducible refine brC (fun _ => ?_) fun _ => ?_) <;> try (exfalso; omega)) | (with_reducible apply pcallE.of; · exact cB) | (with_reducible refine And.intro ?_ ?_; · omega) | simp -dsimp -implicitDefEqProofs (disch := omega) only [VCA, ↓reduceIte, exists_eq_right])
  all_goals first
    | exact Sub.refl _
    | (refine ⟨Sub.refl _, ?_⟩; rw [Bool.eq_iff_iff]; simp_all; done)
    | trace_state
def c118 : SFun := ⟨.seq (.reg [o 2 (.mv (.c (.bool false)))]) (.seq (.reg [o 3 (.mv (.t 0)), o 4 (.pcall 68 [.t 3]), o 5 (.mv (.t 4)), ⟨some 6, .mv (.t 0), some (5, false)⟩, ⟨some 7, .bin .eql (.t 6) (.c (.int .u8 62)), some (5, false)⟩, o 8 (.pick (.t 5) (.c (.bool true)) (.t 7)), o 2 (.mv (.t 8))]) .ret), [.tmp 2]⟩
theorem hc118 : Y5 Tryz.prog {pure := [68]} Tryz.f118 = some c118 := by kernel_rfl
theorem pV2 : PredC G 118 X0 := fun b h => by
  have cB := ZQ (G := G) b
  unfold X0
  refine Q1 Tryz.func118 (by kernel_rfl) hc118 (by rw [Tryz.ntmps118]; simp) (by rw [Tryz.ntmps118]; decide) ?_
  simp -dsimp -implicitDefEqProofs (disch := omega) only [VCA, ↓reduceIte, reduceCtorEq, c118]
  repeat' (first | ((with_reducible refine brC (fun _ => ?_) fun _ => ?_) <;> try (exfalso; omega)) | (with_reducible apply pcallE.of; · exact cB) | (with_reducible refine And.intro ?_ ?_; · omega) | simp -dsimp -implicitDefEqProofs (disch := omega) only [↓Q0 5, VCA, Nat.reduceEqDiff, ↓reduceIte, reduceCtorEq, exists_eq_right_right])
  all_goals first
    | exact Sub.refl _
    | (refine ⟨Sub.refl _, ?_⟩; rw [Bool.eq_iff_iff]; simp_all; done)
    | trace_state
def c97 : SFun := ⟨.seq (.reg [o 2 (.mv (.c (.bool false)))]) (.seq (.reg [o 3 (.mv (.t 0)), o 4 (.pcall 68 [.t 3]), o 5 (.mv (.t 4)), ⟨some 6, .mv (.t 0), some (5, false)⟩, ⟨some 7, .bin .eql (.t 6) (.c (.int .u8 47)), some (5, false)⟩, o 8 (.pick (.t 5) (.c (.bool true)) (.t 7)), o 9 (.mv (.t 8)), ⟨some 10, .mv (.t 0), some (9, false)⟩, ⟨some 11, .bin .eql (.t 10) (.c (.int .u8 62)), some (9, false)⟩, o 12 (.pick (.t 9) (.c (.bool true)) (.t 11)), o 13 (.mv (.t 12)), ⟨some 14, .mv (.t 0), some (13, false)⟩, ⟨some 15, .bin .eql (.t 14) (.c (.int .u8 61)), some (13, false)⟩, o 16 (.pick (.t 13) (.c (.bool true)) (.t 15)), o 2 (.mv (.t 16))]) .ret), [.tmp 2]⟩
theorem hc97 : Y5 Tryz.prog {pure := [68]} Tryz.f97 = some c97 := by kernel_rfl
theorem pA1 : PredC G 97 Y2 := fun b h => by
  have cB := ZQ (G := G) b
  unfold Y2
  refine Q1 Tryz.func97 (by kernel_rfl) hc97 (by rw [Tryz.ntmps97]; simp) (by rw [Tryz.ntmps97]; decide) ?_
  simp -dsimp -implicitDefEqProofs (disch := omega) only [VCA, ↓reduceIte, reduceCtorEq, c97]
  repeat' (first | ((with_reducible refine brC (fun _ => ?_) fun _ => ?_) <;> try (exfalso; omega)) | (with_reducible apply pcallE.of; · exact cB) | (with_reducible refine And.intro ?_ ?_; · omega) | simp -dsimp -implicitDefEqProofs (disch := omega) only [↓Q0 5, ↓Q0 9, ↓Q0 13, VCA, Nat.reduceEqDiff, ↓reduceIte, reduceCtorEq, exists_eq_right_right])
  all_goals first
    | exact Sub.refl _
    | (refine ⟨Sub.refl _, ?_⟩; rw [Bool.eq_iff_iff]; simp_all; done)
    | trace_state
def c98 : SFun := ⟨.seq (.reg [o 2 (.mv (.c (.bool false)))]) (.seq (.reg [o 3 (.mv (.t 0)), o 4 (.pcall 68 [.t 3]), o 5 (.un .not (.t 4)), o 2 (.mv (.t 5))]) .ret), [.tmp 2]⟩
theorem hc98 : Y5 Tryz.prog {pure := [68]} Tryz.f98 = some c98 := by kernel_rfl
theorem pA2 : PredC G 98 Z0 := fun b h => by
  have cB := ZQ (G := G) b
  unfold Z0
  refine Q1 Tryz.func98 (by kernel_rfl) hc98 (by rw [Tryz.ntmps98]; simp) (by rw [Tryz.ntmps98]; decide) ?_
  simp -dsimp -implicitDefEqProofs (disch := omega) only [VCA, ↓reduceIte, reduceCtorEq, c98]
  repeat' (first | ((with_reducible refine brC (fun _ => ?_) fun _ => ?_) <;> try (exfalso; omega)) | (with_reducible apply pcallE.of; · exact cB) | (with_reducible refine And.intro ?_ ?_; · omega) | simp -dsimp -implicitDefEqProofs (disch := omega) only [VCA, ↓reduceIte, exists_eq_right])
  all_goals first
    | exact Sub.refl _
    | (refine ⟨Sub.refl _, ?_⟩; rw [Bool.eq_iff_iff]; simp_all; done)
    | trace_state
def c76 : SFun := ⟨.seq (.reg [o 2 (.mv (.c (.bool false)))]) (.seq (.reg [o 3 (.mv (.t 0)), o 4 (.pcall 68 [.t 3]), o 5 (.mv (.t 4)), ⟨some 6, .mv (.t 0), some (5, false)⟩, ⟨some 7, .bin .eql (.t 6) (.c (.int .u8 47)), some (5, false)⟩, o 8 (.pick (.t 5) (.c (.bool true)) (.t 7)), o 9 (.mv (.t 8)), ⟨some 10, .mv (.t 0), some (9, false)⟩, ⟨some 11, .bin .eql (.t 10) (.c (.int .u8 62)), some (9, false)⟩, o 12 (.pick (.t 9) (.c (.bool true)) (.t 11)), o 2 (.mv (.t 12))]) .ret), [.tmp 2]⟩
theorem hc76 : Y5 Tryz.prog {pure := [68]} Tryz.f76 = some c76 := by kernel_rfl
theorem pT1 : PredC G 76 Z9 := fun b h => by
  have cB := ZQ (G := G) b
  unfold Z9
  refine Q1 Tryz.func76 (by kernel_rfl) hc76 (by rw [Tryz.ntmps76]; simp) (by rw [Tryz.ntmps76]; decide) ?_
  simp -dsimp -implicitDefEqProofs (disch := omega) only [VCA, ↓reduceIte, reduceCtorEq, c76]
  repeat' (first | ((with_reducible refine brC (fun _ => ?_) fun _ => ?_) <;> try (exfalso; omega)) | (with_reducible apply pcallE.of; · exact cB) | (with_reducible refine And.intro ?_ ?_; · omega) | simp -dsimp -implicitDefEqProofs (disch := omega) only [↓Q0 5, ↓Q0 9, VCA, Nat.reduceEqDiff, ↓reduceIte, reduceCtorEq, exists_eq_right_right])
  all_goals first
    | exact Sub.refl _
    | (refine ⟨Sub.refl _, ?_⟩; rw [Bool.eq_iff_iff]; simp_all; done)
    | trace_state
def c77 : SFun := ⟨.seq (.reg [o 2 (.mv (.c (.bool false)))]) (.seq (.reg [o 3 (.mv (.t 0)), o 4 (.pcall 68 [.t 3]), o 5 (.un .not (.t 4)), o 6 (.mv (.t 5)), ⟨some 7, .mv (.t 0), some (6, true)⟩, ⟨some 8, .bin .neq (.t 7) (.c (.int .u8 47)), some (6, true)⟩, o 9 (.pick (.t 6) (.t 8) (.c (.bool false))), o 2 (.mv (.t 9))]) .ret), [.tmp 2]⟩
theorem hc77 : Y5 Tryz.prog {pure := [68]} Tryz.f77 = some c77 := by kernel_rfl
theorem pT2 : PredC G 77 X3 := fun b h => by
  have cB := ZQ (G := G) b
  unfold X3
  refine Q1 Tryz.func77 (by kernel_rfl) hc77 (by rw [Tryz.ntmps77]; simp) (by rw [Tryz.ntmps77]; decide) ?_
  simp -dsimp -implicitDefEqProofs (disch := omega) only [VCA, ↓reduceIte, reduceCtorEq, c77]
  repeat' (first | ((with_reducible refine brC (fun _ => ?_) fun _ => ?_) <;> try (exfalso; omega)) | (with_reducible apply pcallE.of; · exact cB) | (with_reducible refine And.intro ?_ ?_; · omega) | simp -dsimp -implicitDefEqProofs (disch := omega) only [↓Q0 6, VCA, Nat.reduceEqDiff, ↓reduceIte, reduceCtorEq, exists_eq_right_right])
  all_goals first
    | exact Sub.refl _
    | (refine ⟨Sub.refl _, ?_⟩; rw [Bool.eq_iff_iff]; simp_all; done)
    | trace_state
theorem T0 {h h' : Q2} {rb : Nat} {o : AObj} (S : Sub (upd h rb (some o)) h') : h' rb = some o := S rb o (Z1 _ _ _)
theorem stand_one (s : List UInt8) (c : UInt8) (hc : U1 c.toNat = false) (i : Nat) (hi : i < s.length) : Z7 s i [c] = (bt s i == c.toNat) := by
  unfold Z7
  have e1 : decide (i + [c].length <= s.length) = true := decide_eq_true (by simp only [List.length_cons, List.length_nil]; omega)
  have e2 : (List.range [c].length).all (fun j => ZW (bt s (i + j)) == bt [c] j) = (ZW (bt s i) == c.toNat) := by
    simp [List.range_succ, bt]
  rw [e1, e2, VZ hc, Bool.true_and]
theorem up_quote {s : List UInt8} {c : UInt8} (hc : U1 c.toNat = false) {a : Nat} (ha : a <= s.length) : upM s a [c] = Y0 (fun i => bt s i == c.toNat) s.length a :=
  first_congr ha fun j _ hj => stand_one s c hc j hj
theorem rdO_next (s : List UInt8) (a en : Nat) (out : AVal) (k : Nat) : (⟨Tr, 4, [[.str s, .int .i64 ((a : Int) + (k : Int)), Q3 en, out]]⟩ : AObj) = rdO s (a + k) en out := by
  unfold rdO; rw [Int.natCast_add]
theorem rdO_one (s : List UInt8) (a en : Nat) (out : AVal) : (⟨Tr, 4, [[.str s, .int .i64 ((a : Int) + 1), Q3 en, out]]⟩ : AObj) = rdO s (a + 1) en out := rdO_next s a en out 1
theorem one_at {s : List UInt8} {c : Nat} (hc : c < s.length) : (s.take (c + 1)).drop c = [s.getD c 0] := by
  rw [VY hc, List.drop_append_of_le_length (by rw [List.length_take]; omega), List.drop_of_length_le (by rw [List.length_take]; omega)]
  rfl
def c100 : SFun := ⟨.seq (.reg [o 2 (.mv (.c (.str [])))]) (.seq (.reg [o 6 (.mv (.t 0)), o 7 (.call (.c (.fn 75 [] [])) [.t 6, .c (.fn 117 [] [])])]) (.seq (.seq (.dreg [(o 8 (.mv (.t 0)), none), (o 9 (.fldA 0 (.t 8)), none), (o 10 (.fldA 1 (.t 9)), none), (o 11 (.ld 1 false (.t 10)), none), (o 12 (.mv (.t 0)), none), (o 13 (.fldA 0 (.t 12)), none), (o 14 (.fldA 0 (.t 13)), none), (o 15 (.ld 1 false (.t 14)), none), (o 16 (.lenS (.t 15)), none), (o 17 (.bin .lss (.t 11) (.t 16)), none), (o 18 (.mv (.t 17)), none), (⟨some 19, .mv (.t 0), some (18, true)⟩, none), (⟨some 20, .fldA 0 (.t 19), some (18, true)⟩, none), (⟨some 21, .fldA 0 (.t 20), some (18, true)⟩, none), (⟨some 22, .ld 1 false (.t 21), some (18, true)⟩, none), (⟨some 23, .mv (.t 0), some (18, true)⟩, none), (⟨some 24, .fldA 0 (.t 23), some (18, true)⟩, none), (⟨some 25, .fldA 1 (.t 24), some (18, true)⟩, none), (⟨some 26, .ld 1 false (.t 25), some (18, true)⟩, none), (⟨some 27, .idxS (.t 22) (.t 26), some (18, true)⟩, none), (⟨some 28, .bin .eql (.t 27) (.c (.int .u8 34)), some (18, true)⟩, none), (⟨some 29, .mv (.t 28), some (18, true)⟩, none), (⟨some 30, .mv (.t 0), some (29, false)⟩, none), (⟨some 31, .fldA 0 (.t 30), some (29, false)⟩, none), (⟨some 32, .fldA 0 (.t 31), some (29, false)⟩, none), (⟨some 33, .ld 1 false (.t 32), some (29, false)⟩, none), (⟨some 34, .mv (.t 0), some (29, false)⟩, none), (⟨some 35, .fldA 0 (.t 34), some (29, false)⟩, none), (⟨some 36, .fldA 1 (.t 35), some (29, false)⟩, none), (⟨some 37, .ld 1 false (.t 36), some (29, false)⟩, none), (⟨some 38, .idxS (.t 33) (.t 37), some (29, false)⟩, none), (⟨some 39, .bin .eql (.t 38) (.c (.int .u8 39)), some (29, false)⟩, none), (⟨some 40, .pick (.t 29) (.c (.bool true)) (.t 39), some (18, true)⟩, none), (o 41 (.pick (.t 18) (.t 40) (.c (.bool false))), none)]) (.cond (.t 41) (.seq (.dreg [(o 42 (.mv (.t 0)), none), (o 43 (.fldA 0 (.t 42)), none), (o 44 (.fldA 0 (.t 43)), none), (o 45 (.ld 1 false (.t 44)), none), (o 46 (.mv (.t 0)), none), (o 47 (.fldA 0 (.t 46)), none), (o 48 (.fldA 1 (.t 47)), none), (o 49 (.ld 1 false (.t 48)), none), (o 50 (.mv (.t 0)), none), (o 51 (.fldA 0 (.t 50)), none), (o 52 (.fldA 1 (.t 51)), none), (o 53 (.ld 1 false (.t 52)), none), (o 54 (.bin .add (.t 53) (.c (.int .i64 1))), none), (o 55 (.slS (.t 45) (some (.t 49)) (some (.t 54))), none), (o 3 (.mv (.t 55)), none)]) (.seq (.reg [o 56 (.mv (.t 0)), o 57 (.fldA 0 (.t 56)), o 58 (.fldA 1 (.t 57)), o 59 (.ld 1 false (.t 58)), o 60 (.bin .add (.t 59) (.c (.int .i64 1))), o 61 (.fldA 0 (.t 56)), o 62 (.fldA 1 (.t 61)), ⟨none, .st 1 (.t 62) (.t 60), none⟩]) (.seq (.reg [o 64 (.mv (.t 0)), o 65 (.mv (.t 3)), o 66 (.call (.c (.fn 72 [] [])) [.t 64, .t 65]), o 63 (.mv (.t 66)), o 67 (.ext (.t 63) 0), o 68 (.ext (.t 63) 1), o 4 (.mv (.t 67)), o 5 (.mv (.t 68))]) (.seq (.reg [o 69 (.mv (.t 4)), o 2 (.mv (.t 69))]) .ret)))) .skip)) (.seq (.reg [o 70 (.mv (.t 0)), o 71 (.call (.c (.fn 75 [] [])) [.t 70, .c (.fn 118 [] [])]), o 2 (.mv (.t 71))]) .ret))), [.tmp 2]⟩
theorem hc100 : Y5 Tryz.prog {} Tryz.f100 = some c100 := by kernel_rfl
theorem hn100 : (Tryz.f100.name == "runtime.NumGoroutine") = false := by kernel_rfl
theorem tokValue_ok (hG : U8 G) {rb : Nat} {s : List UInt8} {a en : Nat} {out : AVal} {h : Q2} (hr : h rb = some (rdO s a en out)) (ha : a <= s.length) (hs : s.length <= 4000000) :
    DCalls (Pg G) 100 [.vp rb 0] h fun r h' => r = .str (seg s (valT s (Z4 Z0 s a)).1 (valT s (Z4 Z0 s a)).2.1) /\ Sub (upd h rb (some (rdO s (valT s (Z4 Z0 s a)).2.2 en out))) h' := by
  have hU := until_ok (G := G) hr ha hs pV1
  have hc := T8 (q := Z0) ha
  generalize Z4 Z0 s a = c at *
  have hr1 : ∀ x : AObj, upd h rb (some x) rb = some x := fun x => Z1 _ _ _
  have hV := until_ok (G := G) (h := upd h rb (some (rdO s c en out))) (rb := rb) (hr1 _) hc.2 hs pV2
  rw [YV] at hV
  have plain : JQ s c = false -> valT s c = (c, Z4 X0 s c, Z4 X0 s c) := fun q => by unfold valT; rw [if_neg (by rw [q]; simp)]
  have hr1' := hr1 (rdO s c en out)
  unfold rdO at hr1'
  by_cases hcl : c < s.length
  · obtain ⟨q, hq⟩ : ∃ q, s.getD c 0 = q := ⟨_, rfl⟩
    have hb : bt s c = q.toNat := by unfold bt; rw [hq]
    have h1 := one_at hcl
    rw [hq] at h1
    by_cases hqq : q = 34 \/ q = 39
    · have b1 : (((q.toNat : Int) == 34) || ((q.toNat : Int) == 39)) = true := by rcases hqq with rfl | rfl <;> rfl
      have hl : U1 q.toNat = false := by rcases hqq with rfl | rfl <;> decide
      have hnl : noLet [q] = true := by rcases hqq with rfl | rfl <;> decide
      have hqa : JQ s c = true := by unfold JQ; rw [hb, decide_eq_true hcl]; simpa using b1
      have hP := past_ok (G := G) hG (w := [q]) (h := upd h rb (some (rdO s (c + 1) en out))) (rb := rb) (hr1 _) (show c + 1 <= s.length by omega) hs hnl (by simp)
      rw [up_quote hl (by omega)] at hP
      have hP := rdO_one s c en out ▸ hP
      have e1 : valT s c = (c + 1, Y0 (fun i => bt s i == q.toNat) s.length (c + 1), if Y0 (fun i => bt s i == q.toNat) s.length (c + 1) < s.length then Y0 (fun i => bt s i == q.toNat) s.length (c + 1) + 1 else s.length) := by
        unfold valT; rw [if_pos hqa, hb]
      rw [e1]
      rcases hqq with rfl | rfl
      · have b34 : (((34 : UInt8).toNat : Int) == 34) = true := rfl
        refine Q1 Tryz.func100 hn100 hc100 (by rw [Tryz.ntmps100]; simp) (by rw [Tryz.ntmps100]; decide) ?_
        simp -dsimp -implicitDefEqProofs (disch := omega) only [VCA, ↓reduceIte, reduceCtorEq, rdO, c100]
        refine DCalls.of hU ?_
        rintro r _ ⟨rfl, rfl⟩
        repeat' (first | ((with_reducible refine brC (fun _ => ?_) fun _ => ?_) <;> try (exfalso; omega)) | ((refine DCalls.of hP ?_; rintro _ h2 ⟨rfl, S2⟩)) | (with_reducible refine And.intro ?_ ?_; · omega) | simp -dsimp -implicitDefEqProofs (disch := omega) only [↓Q5 18, ↓Q5 29, VCA, Nat.reduceEqDiff, Nat.reduceAdd, Nat.reduceLT, Nat.reduceLeDiff, ↓reduceIte, reduceCtorEq, Y8, Q7, rdO, Z3, exists_eq_left', J1, J8, hq, h1, b34])
        all_goals first | exact ⟨_, Sub.refl _, Sub.refl _⟩ | exact ⟨_, Sub.refl _, by rw [YV] at S2; exact S2⟩
      · have b34 : (((39 : UInt8).toNat : Int) == 34) = false := rfl
        have b39 : (((39 : UInt8).toNat : Int) == 39) = true := rfl
        refine Q1 Tryz.func100 hn100 hc100 (by rw [Tryz.ntmps100]; simp) (by rw [Tryz.ntmps100]; decide) ?_
        simp -dsimp -implicitDefEqProofs (disch := omega) only [VCA, ↓reduceIte, reduceCtorEq, rdO, c100]
        refine DCalls.of hU ?_
        rintro r _ ⟨rfl, rfl⟩
        repeat' (first | ((with_reducible refine brC (fun _ => ?_) fun _ => ?_) <;> try (exfalso; omega)) | ((refine DCalls.of hP ?_; rintro _ h2 ⟨rfl, S2⟩)) | (with_reducible refine And.intro ?_ ?_; · omega) | simp -dsimp -implicitDefEqProofs (disch := omega) only [↓Q5 18, ↓Q5 29, VCA, Nat.reduceEqDiff, Nat.reduceAdd, Nat.reduceLT, Nat.reduceLeDiff, ↓reduceIte, reduceCtorEq, Y8, Q7, rdO, Z3, exists_eq_left', J1, hq, h1, b34, b39])
        all_goals first | exact ⟨_, Sub.refl _, Sub.refl _⟩ | exact ⟨_, Sub.refl _, by rw [YV] at S2; exact S2⟩
    · have b34 : ((q.toNat : Int) == 34) = false := by
        rw [beq_eq_false_iff_ne]; intro hh; exact hqq (.inl (VV (by simpa using hh)))
      have b39 : ((q.toNat : Int) == 39) = false := by
        rw [beq_eq_false_iff_ne]; intro hh; exact hqq (.inr (VV (by simpa using hh)))
      rw [plain (by unfold JQ; rw [hb, b34, b39]; simp)]
      refine Q1 Tryz.func100 hn100 hc100 (by rw [Tryz.ntmps100]; simp) (by rw [Tryz.ntmps100]; decide) ?_
      simp -dsimp -implicitDefEqProofs (disch := omega) only [VCA, ↓reduceIte, reduceCtorEq, rdO, c100]
      refine DCalls.of hU ?_
      rintro r _ ⟨rfl, rfl⟩
      repeat' (first | ((with_reducible refine brC (fun _ => ?_) fun _ => ?_) <;> try (exfalso; omega)) | ((refine DCalls.of hV ?_; rintro _ h2 ⟨rfl, rfl⟩)) | (with_reducible refine And.intro ?_ ?_; · omega) | simp -dsimp -implicitDefEqProofs (disch := omega) only [↓Q5 18, ↓Q5 29, VCA, Nat.reduceEqDiff, Nat.reduceAdd, Nat.reduceLT, Nat.reduceLeDiff, ↓reduceIte, reduceCtorEq, Y8, Q7, rdO, exists_eq_left', J1, hq, b34, b39])
      all_goals first | exact ⟨_, Sub.refl _, Sub.refl _⟩ | exact ⟨_, Sub.refl _, by rw [YV] at S2; exact S2⟩
  · rw [plain (by unfold JQ; rw [decide_eq_false hcl]; rfl)]
    refine Q1 Tryz.func100 hn100 hc100 (by rw [Tryz.ntmps100]; simp) (by rw [Tryz.ntmps100]; decide) ?_
    simp -dsimp -implicitDefEqProofs (disch := omega) only [VCA, ↓reduceIte, reduceCtorEq, rdO, c100]
    refine DCalls.of hU ?_
    rintro r _ ⟨rfl, rfl⟩
    repeat' (first | ((with_reducible refine brC (fun _ => ?_) fun _ => ?_) <;> try (exfalso; omega)) | ((refine DCalls.of hV ?_; rintro _ h2 ⟨rfl, rfl⟩)) | (with_reducible refine And.intro ?_ ?_; · omega) | simp -dsimp -implicitDefEqProofs (disch := omega) only [↓Q5 18, ↓Q5 29, VCA, Nat.reduceEqDiff, Nat.reduceAdd, Nat.reduceLT, Nat.reduceLeDiff, ↓reduceIte, reduceCtorEq, Y8, Q7, rdO, exists_eq_left', J1, J8])
    all_goals first | exact ⟨_, Sub.refl _, Sub.refl _⟩ | exact ⟨_, Sub.refl _, by rw [YV] at S2; exact S2⟩
theorem JZ {h h1 h2 : Q2} {rb : Nat} {x y : AObj} (S1 : Sub (upd h rb (some x)) h1) (S2 : Sub (upd h1 rb (some y)) h2) : Sub (upd h rb (some y)) h2 := by
  intro t o ht
  by_cases e : t = rb
  · subst e; rw [Z1] at ht; cases ht; exact S2 _ _ (Z1 _ _ _)
  · rw [Q9 _ _ e] at ht
    exact S2 t o (by rw [Q9 _ _ e]; exact S1 t o (by rw [Q9 _ _ e]; exact ht))
theorem S_put {h h1 : Q2} {rb : Nat} {x y : AObj} (S1 : Sub (upd h rb (some x)) h1) : Sub (upd h rb (some y)) (upd h1 rb (some y)) := by
  intro t o ht
  by_cases e : t = rb
  · subst e; rw [Z1] at ht ⊢; exact ht
  · rw [Q9 _ _ e] at ht ⊢
    exact S1 t o (by rw [Q9 _ _ e]; exact ht)
theorem T9 {h h1 : Q2} {rb r : Nat} {x : AObj} {o : Option AObj} (S1 : Sub (upd h rb (some x)) h1) (h0 : h r = none) (hne : r ≠ rb) : Sub (upd h rb (some x)) (upd h1 r o) := S1.upd (by rw [Q9 _ _ hne]; exact h0)
theorem none_off {h h1 : Q2} {rb r : Nat} {x : AObj} (S1 : Sub (upd h rb (some x)) h1) (h0 : h1 r = none) : h r = none /\ r ≠ rb := by
  have hne : r ≠ rb := fun e => by subst e; rw [S1 _ _ (Z1 _ _ _)] at h0; cases h0
  exact ⟨by have := S1.none h0; rwa [Q9 _ _ hne] at this, hne⟩
theorem att_next {s : List UInt8} {a : Nat} (ha : a < s.length) : a + 1 <= atE s a /\ atE s a <= atB s a /\ atB s a <= s.length := by
  have h1 := T8 (q := Y2) (s := s) (a := a + 1) (by omega)
  have h2 := T8 (q := Z0) (s := s) (a := atE s a) h1.2
  exact ⟨h1.1, h2.1, h2.2⟩
def c79 : SFun := ⟨.seq (.reg [o 2 (.new 45 2 [.str [], .str []])]) (.seq (.reg [o 5 (.mv (.t 0)), o 6 (.fldA 0 (.t 5)), o 7 (.fldA 1 (.t 6)), o 8 (.ld 1 false (.t 7)), o 3 (.mv (.t 8))]) (.seq (.reg [o 9 (.mv (.t 0)), o 10 (.fldA 0 (.t 9)), o 11 (.fldA 1 (.t 10)), o 12 (.ld 1 false (.t 11)), o 13 (.bin .add (.t 12) (.c (.int .i64 1))), o 14 (.fldA 0 (.t 9)), o 15 (.fldA 1 (.t 14)), ⟨none, .st 1 (.t 15) (.t 13), none⟩]) (.seq (.reg [o 16 (.mv (.t 0)), o 17 (.call (.c (.fn 75 [] [])) [.t 16, .c (.fn 97 [] [])])]) (.seq (.dreg [(o 18 (.mv (.t 0)), none), (o 19 (.fldA 0 (.t 18)), none), (o 20 (.fldA 0 (.t 19)), none), (o 21 (.ld 1 false (.t 20)), none), (o 22 (.mv (.t 3)), none), (o 23 (.mv (.t 0)), none), (o 24 (.fldA 0 (.t 23)), none), (o 25 (.fldA 1 (.t 24)), none), (o 26 (.ld 1 false (.t 25)), none), (o 27 (.slS (.t 21) (some (.t 22)) (some (.t 26))), none), (o 28 (.pcall 64 [.t 27]), none), (o 29 (.bld [.str [], .str []] [(0, (1, (.t 28)))]), none), (o 4 (.new 45 2 [.str [], .str []]), (some [])), (⟨none, .st 2 (.t 4) (.t 29), none⟩, (some [21, 26]))]) (.seq (.reg [o 30 (.mv (.t 0)), o 31 (.call (.c (.fn 75 [] [])) [.t 30, .c (.fn 98 [] [])])]) (.seq (.seq (.dreg [(o 32 (.mv (.t 0)), none), (o 33 (.fldA 0 (.t 32)), none), (o 34 (.fldA 1 (.t 33)), none), (o 35 (.ld 1 false (.t 34)), none), (o 36 (.mv (.t 0)), none), (o 37 (.fldA 0 (.t 36)), none), (o 38 (.fldA 0 (.t 37)), none), (o 39 (.ld 1 false (.t 38)), none), (o 40 (.lenS (.t 39)), none), (o 41 (.bin .lss (.t 35) (.t 40)), none), (o 42 (.mv (.t 41)), none), (⟨some 43, .mv (.t 0), some (42, true)⟩, none), (⟨some 44, .fldA 0 (.t 43), some (42, true)⟩, none), (⟨some 45, .fldA 0 (.t 44), some (42, true)⟩, none), (⟨some 46, .ld 1 false (.t 45), some (42, true)⟩, none), (⟨some 47, .mv (.t 0), some (42, true)⟩, none), (⟨some 48, .fldA 0 (.t 47), some (42, true)⟩, none), (⟨some 49, .fldA 1 (.t 48), some (42, true)⟩, none), (⟨some 50, .ld 1 false (.t 49), some (42, true)⟩, none), (⟨some 51, .idxS (.t 46) (.t 50), some (42, true)⟩, none), (⟨some 52, .bin .eql (.t 51) (.c (.int .u8 61)), some (42, true)⟩, none), (o 53 (.pick (.t 42) (.t 52) (.c (.bool false))), none)]) (.cond (.t 53) (.seq (.reg [o 54 (.mv (.t 0)), o 55 (.fldA 0 (.t 54)), o 56 (.fldA 1 (.t 55)), o 57 (.ld 1 false (.t 56)), o 58 (.bin .add (.t 57) (.c (.int .i64 1))), o 59 (.fldA 0 (.t 54)), o 60 (.fldA 1 (.t 59)), ⟨none, .st 1 (.t 60) (.t 58), none⟩]) (.reg [o 61 (.mv (.t 0)), o 62 (.call (.c (.fn 100 [] [])) [.t 61]), o 63 (.pcall 99 [.t 62]), o 64 (.fldA 1 (.t 4)), ⟨none, .st 1 (.t 64) (.t 63), none⟩])) .skip)) (.seq (.reg [o 65 (.ld 2 true (.t 4)), ⟨none, .st 2 (.t 2) (.t 65), none⟩]) .ret))))))), [.cell 2 2 true]⟩
theorem hc79 : Y5 Tryz.prog {pure := [64, 99]} Tryz.f79 = some c79 := by kernel_rfl
theorem tokAttr_ok (hG : U8 G) {rb : Nat} {s : List UInt8} {a en : Nat} {out : AVal} {h : Q2} (hr : h rb = some (rdO s a en out)) (ha : a < s.length) (hs : s.length <= 4000000) :
    DCalls (Pg G) 79 [.vp rb 0] h fun r h' => r = .agg (Z6 (ZK s a).1) /\ Sub (upd h rb (some (rdO s (ZK s a).2 en out))) h' := by
  have hr' := hr
  unfold rdO at hr'
  obtain ⟨n1, n2, n3⟩ := att_next ha
  have sl := TK (s := s) (a := a) (b := atE s a) (by omega)
  have cN := tokAttrName_ok (G := G) (seg s a (atE s a)) (by omega)
  refine Q1 Tryz.func79 (by kernel_rfl) hc79 (by rw [Tryz.ntmps79]; simp) (by rw [Tryz.ntmps79]; decide) ?_
  simp -dsimp -implicitDefEqProofs (disch := omega) only [VCA, Nat.reduceEqDiff, Nat.reduceAdd, ↓reduceIte, reduceCtorEq, rdO, Z3, Z6, c79]
  intro r2 hr2
  have m1 : ¬ rb = r2 := fun q => by rw [<- q, hr] at hr2; cases hr2
  have m2 : ¬ r2 = rb := fun q => m1 q.symm
  repeat' (first | ((with_reducible refine brC (fun _ => ?_) fun _ => ?_) <;> try (exfalso; omega)) | (with_reducible refine And.intro ?_ ?_; · omega) | simp -dsimp -implicitDefEqProofs (disch := omega) only [VCA, Nat.reduceAdd, Nat.reduceLT, Nat.reduceLeDiff, ↓reduceIte, exists_eq_left', hr', m1])
  rw [rdO_one]
  obtain ⟨hA, hhA⟩ : ∃ hA, upd (upd h r2 (some ⟨.t 45, 2, [[.str [], .str []]]⟩)) rb (some (rdO s (a + 1) en out)) = hA := ⟨_, rfl⟩
  have SA : Sub (upd h rb (some (rdO s (a + 1) en out))) hA := by
    rw [<- hhA]; exact S_put (x := rdO s a en out) (by rw [XK hr]; exact (Sub.refl h).upd hr2)
  have gA : hA rb = some (rdO s (a + 1) en out) := T0 SA
  have zA : hA r2 = some ⟨.t 45, 2, [[.str [], .str []]]⟩ := by rw [<- hhA, Q9 _ _ m2, Z1]
  rw [hhA]
  refine DCalls.of (until_ok (G := G) gA (by omega) hs pA1) ?_
  rintro _ hB ⟨rfl, hhB⟩
  have eB : Z4 Y2 s (a + 1) = atE s a := rfl
  rw [eB] at hhB
  have SB := JZ SA (by rw [hhB]; exact Sub.refl _ : Sub (upd hA rb (some (rdO s (atE s a) en out))) hB)
  have gB := T0 SB
  have zB : hB r2 = some ⟨.t 45, 2, [[.str [], .str []]]⟩ := by rw [hhB, Q9 _ _ m2]; exact zA
  have gB' := gB
  unfold rdO at gB'
  have esg : (s.take (atE s a)).drop a = seg s a (atE s a) := rfl
  repeat' (first | ((with_reducible refine brC (fun _ => ?_) fun _ => ?_) <;> try (exfalso; omega)) | (with_reducible apply pcallE.of; · exact cN) | (with_reducible refine And.intro ?_ ?_; · omega) | simp -dsimp -implicitDefEqProofs (disch := omega) only [VCA, Nat.reduceEqDiff, Nat.reduceBEq, Nat.reduceAdd, Nat.reduceLT, Nat.reduceLeDiff, ↓reduceIte, reduceCtorEq, Y8, Q7, SOp.rd, SI.rd, SX.rd, X7, Y6, Z3, forall_const, exists_eq_left', J1, gB', esg, m1, hr'])
  intro r4 hr4
  have m3 : ¬ rb = r4 := fun q => by rw [<- q, gB] at hr4; cases hr4
  have m4 : ¬ r4 = rb := fun q => m3 q.symm
  have m5 : ¬ r2 = r4 := fun q => by rw [<- q, zB] at hr4; cases hr4
  have m6 : ¬ r4 = r2 := fun q => m5 q.symm
  have hr4' := none_off SB hr4
  repeat' (first | ((with_reducible refine brC (fun _ => ?_) fun _ => ?_) <;> try (exfalso; omega)) | (with_reducible refine And.intro ?_ ?_; · omega) | simp -dsimp -implicitDefEqProofs (disch := omega) only [VCA, ↓reduceIte, m3])
  obtain ⟨nm, hnm⟩ : ∃ nm, K8 (seg s a (atE s a)) = nm := ⟨_, rfl⟩
  rw [hnm]
  obtain ⟨hC, hhC⟩ : ∃ hC, upd hB r4 (some ⟨.t 45, 2, [[.str nm, .str []]]⟩) = hC := ⟨_, rfl⟩
  have SC : Sub (upd h rb (some (rdO s (atE s a) en out))) hC := by rw [<- hhC]; exact T9 SB hr4'.1 m4
  have gC := T0 SC
  have zC : hC r2 = some ⟨.t 45, 2, [[.str [], .str []]]⟩ := by rw [<- hhC, Q9 _ _ m5]; exact zB
  have yC : hC r4 = some ⟨.t 45, 2, [[.str nm, .str []]]⟩ := by rw [<- hhC, Z1]
  rw [hhC]
  refine DCalls.of (until_ok (G := G) gC (by omega) hs pA2) ?_
  rintro _ hD ⟨rfl, hhD⟩
  have eD : Z4 Z0 s (atE s a) = atB s a := rfl
  rw [eD] at hhD
  have SD := JZ SC (by rw [hhD]; exact Sub.refl _ : Sub (upd hC rb (some (rdO s (atB s a) en out))) hD)
  have gD := T0 SD
  have zD : hD r2 = some ⟨.t 45, 2, [[.str [], .str []]]⟩ := by rw [hhD, Q9 _ _ m2]; exact zC
  have yD : hD r4 = some ⟨.t 45, 2, [[.str nm, .str []]]⟩ := by rw [hhD, Q9 _ _ m4]; exact yC
  unfold ZK
  rw [hnm]
  generalize atB s a = b at *
  have gD' := gD
  unfold rdO at gD'
  by_cases hbl : b < s.length
  · obtain ⟨q, hq⟩ : ∃ q, s.getD b 0 = q := ⟨_, rfl⟩
    have hbq : bt s b = q.toNat := by unfold bt; rw [hq]
    cases h61 : ((q.toNat : Int) == 61) with
    | true =>
      have hE : TJ s b = true := by unfold TJ; rw [decide_eq_true hbl, hbq, h61]; rfl
      rw [if_pos hE]
      have SE0 : Sub (upd h rb (some (rdO s (b + 1) en out))) (upd hD rb (some (rdO s (b + 1) en out))) := S_put SD
      obtain ⟨hE, hhE⟩ : ∃ hE, upd hD rb (some (rdO s (b + 1) en out)) = hE := ⟨_, rfl⟩
      rw [hhE] at SE0
      have gE := T0 SE0
      have zE : hE r2 = some ⟨.t 45, 2, [[.str [], .str []]]⟩ := by rw [<- hhE, Q9 _ _ m2]; exact zD
      have yE : hE r4 = some ⟨.t 45, 2, [[.str nm, .str []]]⟩ := by rw [<- hhE, Q9 _ _ m4]; exact yD
      have hV := tokValue_ok (G := G) hG gE (show b + 1 <= s.length by omega) hs
      obtain ⟨T, hT⟩ : ∃ T, valT s (Z4 Z0 s (b + 1)) = T := ⟨_, rfl⟩
      rw [hT] at hV ⊢
      have cV := value_ok (G := G) (seg s T.1 T.2.1) (by have := YY s T.1 T.2.1; omega)
      repeat' (first | ((with_reducible refine brC (fun _ => ?_) fun _ => ?_) <;> try (exfalso; omega)) | (with_reducible refine And.intro ?_ ?_; · omega) | simp -dsimp -implicitDefEqProofs (disch := omega) only [↓Q5 42, VCA, Nat.reduceEqDiff, Nat.reduceAdd, Nat.reduceLT, Nat.reduceLeDiff, ↓reduceIte, reduceCtorEq, Y8, Q7, Z3, exists_eq_left', J1, gD', hq, h61])
      rw [rdO_one, hhE]
      refine DCalls.of hV ?_
      rintro _ hF ⟨rfl, SF⟩
      have SG := JZ SE0 SF
      have zF : hF r2 = some ⟨.t 45, 2, [[.str [], .str []]]⟩ := SF _ _ (by rw [Q9 _ _ m2]; exact zE)
      have yF : hF r4 = some ⟨.t 45, 2, [[.str nm, .str []]]⟩ := SF _ _ (by rw [Q9 _ _ m4]; exact yE)
      repeat' (first | ((with_reducible refine brC (fun _ => ?_) fun _ => ?_) <;> try (exfalso; omega)) | (with_reducible apply pcallE.of; · exact cV) | (with_reducible refine And.intro ?_ ?_; · omega) | simp -dsimp -implicitDefEqProofs (disch := omega) only [VCA, Nat.reduceEqDiff, Nat.reduceAdd, Nat.reduceLT, ↓reduceIte, Z3, exists_eq_left', yF, zF, m5])
      exact ⟨_, Sub.refl _, T9 (T9 SG hr4'.1 m4) hr2 m2⟩
    | false =>
      have hE : TJ s b = false := by unfold TJ; rw [hbq, h61]; simp
      rw [if_neg (by rw [hE]; simp)]
      repeat' (first | ((with_reducible refine brC (fun _ => ?_) fun _ => ?_) <;> try (exfalso; omega)) | (with_reducible refine And.intro ?_ ?_; · omega) | simp -dsimp -implicitDefEqProofs (disch := omega) only [↓Q5 42, VCA, Nat.reduceEqDiff, Nat.reduceAdd, Nat.reduceLT, Nat.reduceLeDiff, ↓reduceIte, reduceCtorEq, Y8, Q7, Z3, exists_eq_left', J1, gD', hq, h61, yD, zD])
      exact ⟨_, Sub.refl _, T9 SD hr2 m2⟩
  · have hE : TJ s b = false := by unfold TJ; rw [decide_eq_false hbl]; simp
    rw [if_neg (by rw [hE]; simp)]
    repeat' (first | ((with_reducible refine brC (fun _ => ?_) fun _ => ?_) <;> try (exfalso; omega)) | (with_reducible refine And.intro ?_ ?_; · omega) | simp -dsimp -implicitDefEqProofs (disch := omega) only [↓Q5 42, VCA, Nat.reduceEqDiff, Nat.reduceAdd, Nat.reduceLT, Nat.reduceLeDiff, ↓reduceIte, reduceCtorEq, Y8, Q7, Z3, exists_eq_left', J1, J8, gD', yD, zD])
    exact ⟨_, Sub.refl _, T9 SD hr2 m2⟩
end Go.Proofs.K
end
section
set_option linter.unusedSimpArgs false
set_option linter.unusedVariables false
namespace Go.Proofs.K
open Go Go.Sim Go.Proofs
section
variable {d : HDoc}
section
variable {a t : Int} {i : Nat}
end
section
variable {n : Int} {i : Nat}
end
end
end Go.Proofs.K
end
section
set_option linter.unusedSimpArgs false
set_option linter.unusedVariables false
namespace Go.Proofs.K
open Go Go.Sim Go.Proofs
structure HEdit where
  do' : Int
  at' : Int
  into : Int
  before : Int
  name : List UInt8
  value : List UInt8
  node : HNode
deriving DecidableEq, Inhabited
def eEdit (e : HEdit) : List AVal := [Q3 e.do', Q3 e.at', Q3 e.into, Q3 e.before, .str e.name, .str e.value, Q3 e.node.kind, .str e.node.name, sl Z6 e.node.attrs, .str e.node.text, Q3 e.node.parent, sl eInt e.node.kids]
instance : LenE eEdit 12 := ⟨fun _ => rfl⟩
def lowF : Nat -> HDoc -> Int -> Nat
  | 0, _, _ => 0
  | f + 1, d, n => ((nd d n).kids.map fun k => lowF f d k + 1).foldl max 0
def low (d : HDoc) (n : Int) : Nat := lowF (41 - up d n) d n
section
variable {d : HDoc}
end
section
variable {d : HDoc}
end
end Go.Proofs.K
end
section
set_option linter.unusedSimpArgs false
set_option linter.unusedVariables false
namespace Go.Proofs.K
open Go Go.Sim Go.Proofs
variable {G : JU}
def rootOf : AVal -> Option Nat
  | .osl r _ _ _ => some r
  | _ => none
theorem _root_.Go.Sim.Acc.re {h1 h2 h1' h2' : Q2} {ty : TypeId} {sz : Nat} {cells : List (List AVal)} {a : AVal} (A : Acc h1 ty sz cells a h2) (hd : ∀ r o, h1 r = none -> h2 r = some o -> h1' r = none /\ h2' r = some o) : Acc h1' ty sz cells a h2' := by
  rcases A with h | ⟨r, h0, h1, h2⟩
  · exact .inl h
  · exact .inr ⟨r, (hd r _ h0 h1).1, (hd r _ h0 h1).2, h2⟩
theorem _root_.Go.Sim.Acc.keepA {h h1 : Q2} {ty : TypeId} {sz : Nat} {cells : List (List AVal)} {a : AVal} (A : Acc h ty sz cells a h1) {r2 : Nat} (hn : rootOf a ≠ some r2) (o : Option AObj) : Acc h ty sz cells a (upd h1 r2 o) := by
  rcases A with q | ⟨r, q0, q1, q2⟩
  · exact .inl q
  · have : r ≠ r2 := fun e => hn (by rw [q2, e]; rfl)
    exact .inr ⟨r, q0, by rw [Q9 _ _ this]; exact q1, q2⟩
theorem _root_.Go.Sim.Acc.vw {h h' : Q2} {ty : TypeId} {sz : Nat} {cells : List (List AVal)} {a : AVal} (A : Acc h ty sz cells a h') (hl : ∀ f ∈ cells, f.length = sz) : Vw (newH h h') a (.slc cells) := by
  rcases A with ⟨rfl, rfl⟩ | ⟨r, h0, h1, rfl⟩
  · exact .emp
  · exact Vw.osl0 (by rw [newH_none h0]; exact h1) rfl (Nat.le_refl _) hl (by rw [List.take_length]; exact F2.refl (F2.refl .refl) _)
theorem _root_.Go.Sim.Acc.appW {h h' : Q2} {ty : TypeId} {sz b : Nat} {cells es2 : List (List AVal)} {a : AVal} {K : AVal -> Q2 -> Prop} (A : Acc h ty sz cells a h') (S : Sub h h')
    (h1 : (cells.length + es2.length) * b <= 140737488355328) (h2 : cells.length + es2.length <= 140737488355328)
    (hk : ∀ a' h'', Acc h ty sz (cells ++ es2) a' h'' -> Sub h h'' -> (∀ r o, h' r = some o -> rootOf a ≠ some r -> h'' r = some o /\ rootOf a' ≠ some r) -> K a' h'') : Hd (appE ty sz b a es2 h') K .mk := by
  rcases A with ⟨rfl, rfl⟩ | ⟨r, h0, hr, rfl⟩
  · refine ⟨by simpa using h1, by simpa using h2, fun r hr => hk _ _ ?_ (S.upd (S.none hr)) fun x o hx _ => ?_⟩
    · exact .inr ⟨r, S.none hr, by simp, rfl⟩
    · have : x ≠ r := fun e => by rw [e, hr] at hx; cases hx
      exact ⟨by rw [Q9 _ _ this]; exact hx, fun e => this (by cases e; rfl)⟩
  · refine ⟨rfl, _, hr, rfl, by simp, h1, h2, fun r' hr' => hk _ _ ?_ ?_ fun x o hx hn => ?_⟩
    · have hn : h r' = none := (S.del h0).none hr'
      refine .inr ⟨r', hn, by simp, by simp⟩
    · exact (S.del h0).upd ((S.del h0).none hr')
    · have hxr : x ≠ r := fun e => hn (by rw [e]; rfl)
      have hd : del h' r x = some o := by unfold del; rw [if_neg hxr]; exact hx
      have : x ≠ r' := fun e => by rw [e, hr'] at hd; cases hd
      exact ⟨by rw [Q9 _ _ this]; exact hd, fun e => this (by cases e; rfl)⟩
abbrev Ta : Nat := 45
theorem idxOwn_ok {h0 h : Q2} {a : AVal} (L : List HAttr) (A : Acc h0 Ta 2 (L.map Z6) a h) (f : Nat) (fa fb : List AVal) (p : HAttr -> Bool) (hl : L.length <= 1073741824)
    (hp : ∀ x, DCalls (Pg G) f (fa ++ ([.agg (Z6 x)] ++ fb)) h fun r h' => r = .bool (p x) /\ h' = h) : DCalls (Pg G) 101 [a, .fn f fa fb] h fun r h' => r = Q3 (idxM p L) /\ h' = h := by
  rcases A with ⟨h1, rfl⟩ | ⟨r, _, hr, rfl⟩
  · have hL : L = [] := by simpa using h1
    subst hL
    have e1 : idxM p ([] : List HAttr) = -1 := rfl
    rw [e1]
    refine Q1 Tryz.func101 (by kernel_rfl) hc101 (by rw [Tryz.ntmps101]; simp) (by rw [Tryz.ntmps101]; decide) ?_
    simp -dsimp -implicitDefEqProofs (disch := omega) only [VCA, ↓reduceIte, reduceCtorEq, c101]
    refine LoopVC.intro (fun m e h' => e 7 = Q3 0 /\ e 8 = Q3 0 /\ h' = h) 0 ⟨rfl, rfl, rfl⟩ ?_
    rintro m e h' ⟨e7, e8, rfl⟩
    repeat' (first | ((with_reducible refine brC (fun _ => ?_) fun _ => ?_) <;> try (exfalso; omega)) | (with_reducible refine And.intro ?_ ?_; · omega) | simp -dsimp -implicitDefEqProofs (disch := omega) only [VCA, ↓reduceIte, exists_eq_right, e7, e8])
    all_goals first | (exfalso; omega) | exact Sub.refl _ | exact ⟨Sub.refl _, rfl⟩ | trace_state
  · rw [List.length_map]
    refine Q1 Tryz.func101 (by kernel_rfl) hc101 (by rw [Tryz.ntmps101]; simp) (by rw [Tryz.ntmps101]; decide) ?_
    simp -dsimp -implicitDefEqProofs (disch := omega) only [VCA, ↓reduceIte, reduceCtorEq, c101]
    refine LoopVC.intro (fun m e h' => ∃ k : Nat, k <= L.length /\ m = L.length - k /\ e 0 = .osl r 2 0 L.length /\ e 1 = .fn f fa fb /\ e 7 = Q3 L.length /\ e 8 = Q3 k /\ h' = h /\ ∀ j, j < k -> p (nth L j) = false) L.length ⟨0, by omega, by omega, rfl, rfl, rfl, rfl, rfl, by omega⟩ ?_
    rintro m e h' ⟨k, hk, rfl, e0, e1, e7, e8, rfl, hj⟩
    by_cases hlt : k < L.length
    · have hat : (L.map Z6).getD k [] = Z6 (nth L k) := ZY hlt
      obtain ⟨x, hx⟩ : ∃ x, nth L k = x := ⟨_, rfl⟩
      rw [hx] at hat
      have hpx := hp x
      unfold Z6 at hpx
      cases hb : p x with
      | true =>
        rw [hb] at hpx
        repeat' (first | ((with_reducible refine brC (fun _ => ?_) fun _ => ?_) <;> try (exfalso; omega)) | ((refine DCalls.of hpx ?_; rintro _ _ ⟨rfl, rfl⟩)) | (with_reducible refine And.intro ?_ ?_; · omega) | simp -dsimp -implicitDefEqProofs (disch := omega) only [VCA, Nat.reduceEqDiff, Nat.reduceAdd, ↓reduceIte, reduceCtorEq, exists_eq_right_right, exists_eq_left', Z6, e0, e1, e7, e8, hr, hat])
        exact ⟨Sub.refl _, (idxM_some hlt hj (by rw [hx]; exact hb)).symm⟩
      | false =>
        rw [hb] at hpx
        repeat' (first | ((with_reducible refine brC (fun _ => ?_) fun _ => ?_) <;> try (exfalso; omega)) | ((refine DCalls.of hpx ?_; rintro _ _ ⟨rfl, rfl⟩)) | (with_reducible refine And.intro ?_ ?_; · omega) | simp -dsimp -implicitDefEqProofs (disch := omega) only [VCA, Nat.reduceEqDiff, Nat.reduceAdd, ↓reduceIte, reduceCtorEq, exists_eq_left', Z6, e0, e1, e7, e8, hr, hat])
        refine ⟨_, by omega, k + 1, by omega, rfl, by omega, fun j hj' => ?_⟩
        by_cases h1 : j = k
        · subst h1; rw [hx]; exact hb
        · exact hj j (by omega)
    · obtain rfl : k = L.length := by omega
      rw [idxM_none hj]
      repeat' (first | ((with_reducible refine brC (fun _ => ?_) fun _ => ?_) <;> try (exfalso; omega)) | (with_reducible refine And.intro ?_ ?_; · omega) | simp -dsimp -implicitDefEqProofs (disch := omega) only [VCA, ↓reduceIte, exists_eq_right, e7, e8])
      exact Sub.refl _
def c80 : SFun := ⟨.seq (.reg [o 4 (.mv (.c (.bool false)))]) (.seq (.reg [o 5 (.mv (.t 0)), o 6 (.mv (.t 1)), o 7 (.call (.c (.fn 101 [] [])) [.t 5, .t 6]), o 8 (.bin .geq (.t 7) (.c (.int .i64 0))), o 4 (.mv (.t 8))]) .ret), [.tmp 4]⟩
theorem hc80 : Y5 Tryz.prog {} Tryz.f80 = some c80 := by kernel_rfl
theorem conOwn_ok {h0 h : Q2} {a : AVal} (L : List HAttr) (A : Acc h0 Ta 2 (L.map Z6) a h) (f : Nat) (fa fb : List AVal) (p : HAttr -> Bool) (hl : L.length <= 1073741824)
    (hp : ∀ x, DCalls (Pg G) f (fa ++ ([.agg (Z6 x)] ++ fb)) h fun r h' => r = .bool (p x) /\ h' = h) : DCalls (Pg G) 80 [a, .fn f fa fb] h fun r h' => r = .bool (L.any p) /\ h' = h := by
  refine Q1 Tryz.func80 (by kernel_rfl) hc80 (by rw [Tryz.ntmps80]; simp) (by rw [Tryz.ntmps80]; decide) ?_
  simp -dsimp -implicitDefEqProofs (disch := omega) only [VCA, Nat.reduceEqDiff, ↓reduceIte, reduceCtorEq, c80]
  refine DCalls.of (idxOwn_ok (G := G) L A f fa fb p hl hp) ?_
  rintro _ _ ⟨rfl, rfl⟩
  simp -dsimp -implicitDefEqProofs (disch := omega) only [VCA, ↓reduceIte, exists_eq_right_right]
  exact ⟨Sub.refl _, idxM_any p L⟩
def c81 : SFun := ⟨.seq (.reg [o 2 (.boxF 45 2 (.t 0)), o 3 (.mv (.c (.bool false)))]) (.seq (.reg [o 4 (.fldA 0 (.t 2)), o 5 (.ld 1 false (.t 4)), o 6 (.fldA 0 (.t 1)), o 7 (.ld 1 false (.t 6)), o 8 (.bin .eql (.t 5) (.t 7)), o 3 (.mv (.t 8))]) .ret), [.tmp 3]⟩
theorem hc81 : Y5 Tryz.prog {} Tryz.f81 = some c81 := by kernel_rfl
theorem tag3_ok {h : Q2} {r7 : Nat} {y : HAttr} (hr : h r7 = some ⟨Ta, 2, [Z6 y]⟩) (x : HAttr) : DCalls (Pg G) 81 [.agg (Z6 x), .vp r7 0] h fun r h' => r = .bool (x.name == y.name) /\ h' = h := by
  unfold Z6 at hr
  refine Q1 Tryz.func81 (by kernel_rfl) hc81 (by rw [Tryz.ntmps81]; simp) (by rw [Tryz.ntmps81]; decide) ?_
  simp -dsimp -implicitDefEqProofs (disch := omega) only [VCA, Nat.reduceEqDiff, Nat.reduceAdd, Nat.reduceLT, Nat.reduceLeDiff, ↓reduceIte, exists_eq_right, exists_eq_left', Z6, c81, Z6, hr]
  exact Sub.refl _
def QX (k : Int) (nm : List UInt8) (l : AVal) (sf : Bool) : List AVal := [Q3 k, .str nm, l, .str [], .bool sf, Q3 0, Q3 0]
abbrev Tt : Nat := 43
theorem addA_len (L : List HAttr) (x : HAttr) : (addA L x).length <= L.length + 1 := by unfold addA; split <;> simp
theorem val_le {s : List UInt8} {c : Nat} (hc : c <= s.length) : c <= (valT s c).2.2 /\ (valT s c).2.2 <= s.length := by
  unfold valT
  split
  · rename_i hq
    have hcl : c < s.length := by
      unfold JQ at hq
      simp only [Bool.and_eq_true, decide_eq_true_eq] at hq
      exact hq.1
    have F := WQ (q := fun i => bt s i == bt s c) (n := s.length) (a := c + 1) (by omega)
    have := F.ge
    have := F.le
    simp only
    split <;> omega
  · have := T8 (q := X0) hc
    exact this
theorem attr_next {s : List UInt8} {a : Nat} (ha : a < s.length) : a < (ZK s a).2 /\ (ZK s a).2 <= s.length := by
  obtain ⟨n1, n2, n3⟩ := att_next ha
  unfold ZK
  split
  · rename_i hq
    have hb : atB s a < s.length := by
      unfold TJ at hq
      simp only [Bool.and_eq_true, decide_eq_true_eq] at hq
      exact hq.1
    have h1 := T8 (q := Z0) (s := s) (a := atB s a + 1) (by omega)
    have h2 := val_le h1.2
    simp only
    omega
  · simp only
    omega
theorem acc_next {h h1 h2 : Q2} {rb sz : Nat} {ty : TypeId} {x y : AObj} {cells : List (List AVal)} {a : AVal} (A : Acc (upd h rb (some x)) ty sz cells a h1) (S2 : Sub (upd h1 rb (some y)) h2) : Acc (upd h rb (some y)) ty sz cells a h2 :=
  A.re fun r o h0 h1' => by
    have hne : r ≠ rb := fun e => by subst e; rw [Z1] at h0; cases h0
    exact ⟨by rw [Q9 _ _ hne] at h0 ⊢; exact h0, S2 r o (by rw [Q9 _ _ hne]; exact h1')⟩
theorem acc_new {h h1 : Q2} {r sz : Nat} {ty : TypeId} {cells : List (List AVal)} {a : AVal} (A : Acc h ty sz cells a h1) (h0 : h1 r = none) (o : Option AObj) : Acc h ty sz cells a (upd h1 r o) :=
  A.keepA (fun e => by
    rcases A with ⟨_, rfl⟩ | ⟨r', _, q1, rfl⟩
    · cases e
    · cases e; rw [h0] at q1; cases q1) o
theorem JV {h h1 : Q2} {r sz sz' : Nat} {ty ty' : Nat} {cells es : List (List AVal)} {a : AVal} (A : Acc h (ty : TypeId) sz cells a h1) (h0 : h1 r = some ⟨.t ty', sz', es⟩) (hne : ty ≠ ty') : rootOf a ≠ some r := fun e => by
  rcases A with ⟨_, rfl⟩ | ⟨r', _, q1, rfl⟩
  · cases e
  · cases e; rw [h0] at q1; cases q1; exact hne rfl
def TagK (h : Q2) (rb : Nat) (s : List UInt8) (en : Nat) (out : AVal) (k : Int) (nm : List UInt8) (T : Option (List HAttr × Bool × Nat)) (r : AVal) (h' : Q2) : Prop :=
  ∃ L l sf b, Acc (upd h rb (some (rdO s b en out))) Ta 2 (L.map Z6) l h' /\ L.length <= s.length /\ Sub (upd h rb (some (rdO s b en out))) h' /\ b <= s.length /\
    match T with
    | some q => r = .tup [.agg (QX k nm l sf), .bool true] /\ q = (L, sf, b)
    | none => r = .tup [.agg (QX k nm l sf), .bool false] /\ b = s.length
theorem hasSuf_ok (s p : List UInt8) (hs : s.length <= 1073741824) : PCalls (Pg G) 78 [.str s, .str p] (.bool (Lib.hasSuffix s p)) := by
  refine PCalls.ofRun ⟨_, Tryz.func78, by kernel_rfl, by kernel_rfl⟩ fun g w vs GR V => ?_
  obtain ⟨u, v, rfl, hu, hv⟩ := V.two_inv
  rw [hu.str_inv', hv.str_inv']
  exact (Tryz.strings_HasSuffix ⟨⟨s⟩⟩ ⟨⟨p⟩⟩ w (by show s.length <= _; omega)).mono fun e w' ⟨he, hw⟩ => ⟨_, he, hw, .bool _⟩
theorem suf_seg {s : List UInt8} {j u : Nat} (hj : j <= u) (hu : u <= s.length) : Lib.hasSuffix (seg s j u) [47] = (decide (j < u) && bt s (u - 1) == 47) := by
  have sl := TK (s := s) (a := j) hu
  rw [suffix_last, sl]
  by_cases h : j < u
  · rw [decide_eq_true (show 0 < u - j by omega), decide_eq_true h, bt_seg (by omega), show j + (u - j - 1) = u - 1 by omega]; rfl
  · rw [decide_eq_false (show ¬ 0 < u - j by omega), decide_eq_false h]; rfl
def c59_s2 : SCode := (.block 0 (.loop (.block 1 (.seq (.reg [o 12 (.mv (.t 0)), o 13 (.call (.c (.fn 75 [] [])) [.t 12, .c (.fn 77 [] [])]), o 6 (.mv (.t 13))]) (.seq (.seq (.dreg [(o 14 (.mv (.t 0)), none), (o 15 (.fldA 0 (.t 14)), none), (o 16 (.fldA 1 (.t 15)), none), (o 17 (.ld 1 false (.t 16)), none), (o 18 (.mv (.t 0)), none), (o 19 (.fldA 0 (.t 18)), none), (o 20 (.fldA 0 (.t 19)), none), (o 21 (.ld 1 false (.t 20)), none), (o 22 (.lenS (.t 21)), none), (o 23 (.bin .eql (.t 17) (.t 22)), none)]) (.cond (.t 23) (.seq (.reg [o 24 (.ld 7 true (.t 3)), ⟨none, .st 7 (.t 4) (.t 24), none⟩, o 5 (.mv (.c (.bool false)))]) .ret) .skip)) (.seq (.seq (.dreg [(o 25 (.mv (.t 0)), none), (o 26 (.fldA 0 (.t 25)), none), (o 27 (.fldA 0 (.t 26)), none), (o 28 (.ld 1 false (.t 27)), none), (o 29 (.mv (.t 0)), none), (o 30 (.fldA 0 (.t 29)), none), (o 31 (.fldA 1 (.t 30)), none), (o 32 (.ld 1 false (.t 31)), none), (o 33 (.idxS (.t 28) (.t 32)), none), (o 34 (.bin .eql (.t 33) (.c (.int .u8 62))), none)]) (.cond (.t 34) (.seq (.reg [o 35 (.mv (.t 0)), o 36 (.fldA 0 (.t 35)), o 37 (.fldA 1 (.t 36)), o 38 (.ld 1 false (.t 37)), o 39 (.bin .add (.t 38) (.c (.int .i64 1))), o 40 (.fldA 0 (.t 35)), o 41 (.fldA 1 (.t 40)), ⟨none, .st 1 (.t 41) (.t 39), none⟩]) (.seq (.reg [o 42 (.mv (.t 6)), o 43 (.pcall 78 [.t 42, .c (.str [47])]), o 44 (.fldA 4 (.t 3)), ⟨none, .st 1 (.t 44) (.t 43), none⟩]) (.seq (.reg [o 45 (.ld 7 true (.t 3)), ⟨none, .st 7 (.t 4) (.t 45), none⟩, o 5 (.mv (.c (.bool true)))]) .ret))) .skip)) (.seq (.reg [o 46 (.mv (.t 0)), o 47 (.call (.c (.fn 79 [] [])) [.t 46]), o 7 (.new 45 2 [.str [], .str []]), ⟨none, .st 2 (.t 7) (.t 47), none⟩]) (.seq (.reg [o 48 (.fldA 2 (.t 3)), o 49 (.ld 1 false (.t 48)), o 50 (.mkf 81 [] [.t 7]), o 51 (.call (.c (.fn 80 [] [])) [.t 49, .t 50]), o 52 (.un .not (.t 51))]) (.cond (.t 52) (.reg [o 53 (.fldA 2 (.t 3)), o 54 (.ld 1 false (.t 53)), o 55 (.ld 2 true (.t 7)), o 56 (.bldF 45 2 [.t 55]), o 57 (.app 45 2 32 (.t 54) (.t 56)), o 58 (.fldA 2 (.t 3)), ⟨none, .st 1 (.t 58) (.t 57), none⟩]) .skip)))))))))
def c59 : SFun := ⟨.seq (.reg [o 3 (.box 43 7 (.t 1)), o 4 (.new 43 7 [.int .i64 0, .str [], .emp, .str [], .bool false, .int .i64 0, .int .i64 0]), o 5 (.mv (.c (.bool false)))]) (.seq (.reg [o 8 (.mv (.t 0)), o 9 (.call (.c (.fn 75 [] [])) [.t 8, .c (.fn 76 [] [])]), o 10 (.pcall 48 [.t 9]), o 11 (.fldA 1 (.t 3)), ⟨none, .st 1 (.t 11) (.t 10), none⟩]) c59_s2), [.cell 4 7 true, .tmp 5]⟩
theorem hc59 : Y5 Tryz.prog {pure := [48, 78], how := [(3, 6)]} Tryz.f59 = some c59 := by kernel_rfl
theorem tag_loop (hG : U8 G) {h : Q2} {rb r3 r4 : Nat} {s : List UInt8} {c en : Nat} {out : AVal} (k : Int) (nm : List UInt8) (hs : s.length <= 4000000) (hc : c <= s.length)
    {h1 : Q2} (S1 : Sub (upd h rb (some (rdO s c en out))) h1) (n3 : h r3 = none) (n4 : h r4 = none) (m3 : r3 ≠ rb) (m4 : r4 ≠ rb) (m34 : r3 ≠ r4)
    (z3 : h1 r3 = some ⟨Tt, 7, [QX k nm .emp false]⟩) (z4 : h1 r4 = some ⟨Tt, 7, [[Q3 0, .str [], .emp, .str [], .bool false, Q3 0, Q3 0]]⟩)
    {e : Env} (e0 : e 0 = .vp rb 0) (e3 : e 3 = .vp r3 0) (e4 : e 4 = .vp r4 0) :
    vc (Pg G) c59_s2 (retK [.cell 4 7 true, .tmp 5] (TagK h rb s en out k nm (WV s (s.length + 1) c []))) e h1 := by
  skip
  repeat' (first | ((with_reducible refine brC (fun _ => ?_) fun _ => ?_) <;> try (exfalso; omega)) | (with_reducible refine And.intro ?_ ?_; · omega) | simp -dsimp -implicitDefEqProofs (disch := omega) only [VCA, c59_s2])
  refine LoopVC.intro (fun m e h' => ∃ (j f : Nat) (L : List HAttr) (l : AVal), c <= j /\ j <= s.length /\ m = s.length - j /\ e 0 = .vp rb 0 /\ e 3 = .vp r3 0 /\ e 4 = .vp r4 0 /\ Sub (upd h rb (some (rdO s j en out))) h' /\
      h' r3 = some ⟨Tt, 7, [QX k nm l false]⟩ /\ h' r4 = some ⟨Tt, 7, [[Q3 0, .str [], .emp, .str [], .bool false, Q3 0, Q3 0]]⟩ /\ Acc (upd h rb (some (rdO s j en out))) Ta 2 (L.map Z6) l h' /\ L.length <= j /\ s.length < f + j /\ WV s f j L = WV s (s.length + 1) c []) (s.length - c)
    (by exact ⟨c, s.length + 1, [], .emp, by omega, hc, by omega, e0, e3, e4, S1, z3, z4, .nil, by simp, by omega, rfl⟩) ?_
  rintro m e h' ⟨j, f, L, l, hj0, hj, rfl, e0, e3, e4, S, z3, z4, A, hL, hf, hT⟩
  obtain ⟨f, rfl⟩ : ∃ g, f = g + 1 := ⟨f - 1, by omega⟩
  rw [WV] at hT
  have g1 := T0 S
  have hu := T8 (q := X3) hj
  obtain ⟨u, hue⟩ : ∃ u, Z4 X3 s j = u := ⟨_, rfl⟩
  rw [hue] at hT hu
  repeat' (first | ((with_reducible refine brC (fun _ => ?_) fun _ => ?_) <;> try (exfalso; omega)) | (with_reducible refine And.intro ?_ ?_; · omega) | simp -dsimp -implicitDefEqProofs (disch := omega) only [VCA, ↓reduceIte, rdO, e0])
  refine DCalls.of (until_ok (G := G) g1 hj hs pT2) ?_
  rintro _ hA ⟨rfl, hhA⟩
  rw [hue] at hhA ⊢
  have SA0 : Sub (upd h' rb (some (rdO s u en out))) hA := by rw [hhA]; exact Sub.refl _
  have SA := JZ S SA0
  have AA := acc_next A SA0
  have y3 : hA r3 = some ⟨Tt, 7, [QX k nm l false]⟩ := by rw [hhA, Q9 _ _ m3]; exact z3
  have y4 : hA r4 = some ⟨Tt, 7, [[Q3 0, .str [], .emp, .str [], .bool false, Q3 0, Q3 0]]⟩ := by rw [hhA, Q9 _ _ m4]; exact z4
  have gA := T0 SA
  have gA' := gA
  unfold rdO at gA'
  have y3' := y3
  unfold QX at y3'
  have lv := Acc.isv A
  have n34 : ¬ r4 = r3 := fun q => m34 q.symm
  by_cases hul : u < s.length
  · obtain ⟨q, hq⟩ : ∃ q, s.getD u 0 = q := ⟨_, rfl⟩
    have hbq : bt s u = q.toNat := by unfold bt; rw [hq]
    rw [if_pos hul, hbq] at hT
    have bu : ((u : Int) == (s.length : Int)) = false := by rw [beq_eq_false_iff_ne]; omega
    cases h62 : ((q.toNat : Int) == 62) with
    | true =>
      rw [if_pos (by simpa using h62)] at hT
      have cS := hasSuf_ok (G := G) (seg s j u) [47] (by have := YY s j u; omega)
      rw [suf_seg hu.1 hu.2] at cS
      obtain ⟨sf, hsf⟩ : ∃ sf, (decide (j < u) && bt s (u - 1) == 47) = sf := ⟨_, rfl⟩
      rw [hsf] at hT cS
      have w3 : upd hA rb (some ⟨Tr, 4, [[.str s, .int .i64 ((u : Int) + 1), Q3 en, out]]⟩) r3 = some ⟨Tt, 7, [QX k nm l false]⟩ := by rw [Q9 _ _ m3]; exact y3
      unfold QX at w3
      have mr4 : ¬ rb = r4 := fun q => m4 q.symm
      repeat' (first | ((with_reducible refine brC (fun _ => ?_) fun _ => ?_) <;> try (exfalso; omega)) | (with_reducible apply pcallE.of; · exact cS) | (with_reducible refine And.intro ?_ ?_; · omega) | simp -dsimp -implicitDefEqProofs (disch := omega) only [VCA, Nat.reduceEqDiff, Nat.reduceAdd, Nat.reduceLT, Nat.reduceLeDiff, ↓reduceIte, reduceCtorEq, Y8, Q7, Z3, exists_eq_left', J1, e0, e3, e4, gA', hq, bu, h62, y3', y4, m3, m4, n34])
      have W1 : Sub (upd h rb (some (rdO s (u + 1) en out))) (upd hA rb (some (rdO s (u + 1) en out))) := S_put SA
      have A1 : Acc (upd h rb (some (rdO s (u + 1) en out))) Ta 2 (L.map Z6) l (upd hA rb (some (rdO s (u + 1) en out))) := acc_next AA (Sub.refl _)
      have q3 : upd hA rb (some (rdO s (u + 1) en out)) r3 = some ⟨Tt, 7, [QX k nm l false]⟩ := by rw [Q9 _ _ m3]; exact y3
      rw [rdO_one]
      refine ⟨_, Sub.refl _, ?_⟩
      rw [<- hT]
      have A2 := A1.keepA (JV A1 q3 (by decide)) (some (⟨Tt, 7, [[Q3 k, .str nm, l, .str [], .bool sf, Q3 0, Q3 0]]⟩ : AObj))
      have q4 : upd (upd hA rb (some (rdO s (u + 1) en out))) r3 (some (⟨Tt, 7, [[Q3 k, .str nm, l, .str [], .bool sf, Q3 0, Q3 0]]⟩ : AObj)) r4 = some ⟨Tt, 7, [[Q3 0, .str [], .emp, .str [], .bool false, Q3 0, Q3 0]]⟩ := by
        rw [Q9 _ _ n34, Q9 _ _ m4]; exact y4
      exact ⟨L, l, sf, u + 1, A2.keepA (JV A2 q4 (by decide)) _, by omega, T9 (T9 W1 n3 m3) n4 m4, by omega, rfl, rfl⟩
    | false =>
      rw [if_neg (by simpa using h62)] at hT
      obtain ⟨x, hx⟩ : ∃ x, (ZK s u).1 = x := ⟨_, rfl⟩
      have hn := attr_next hul
      have hAt := tokAttr_ok (G := G) hG gA hul hs
      obtain ⟨v, hv⟩ : ∃ v, (ZK s u).2 = v := ⟨_, rfl⟩
      rw [hx, hv] at hT hAt
      rw [hv] at hn
      repeat' (first | ((with_reducible refine brC (fun _ => ?_) fun _ => ?_) <;> try (exfalso; omega)) | (with_reducible refine And.intro ?_ ?_; · omega) | simp -dsimp -implicitDefEqProofs (disch := omega) only [VCA, Nat.reduceEqDiff, Nat.reduceAdd, Nat.reduceLT, Nat.reduceLeDiff, ↓reduceIte, reduceCtorEq, Y8, Q7, exists_eq_left', J1, e0, gA', hq, bu, h62])
      refine DCalls.of hAt ?_
      rintro _ hB ⟨rfl, SB0⟩
      have SB := JZ SA SB0
      have AB := acc_next AA SB0
      have x3 : hB r3 = some ⟨Tt, 7, [QX k nm l false]⟩ := SB0 _ _ (by rw [Q9 _ _ m3]; exact y3)
      have x4 : hB r4 = some ⟨Tt, 7, [[Q3 0, .str [], .emp, .str [], .bool false, Q3 0, Q3 0]]⟩ := SB0 _ _ (by rw [Q9 _ _ m4]; exact y4)
      repeat' (first | ((with_reducible refine brC (fun _ => ?_) fun _ => ?_) <;> try (exfalso; omega)) | (with_reducible refine And.intro ?_ ?_; · omega) | simp -dsimp -implicitDefEqProofs (disch := omega) only [VCA, Nat.reduceEqDiff, Nat.reduceAdd, Nat.reduceLT, ↓reduceIte, Z3, exists_eq_left', Z6, e3, Z6])
      intro r7 hr7
      have n7 := none_off SB hr7
      have p3 : ¬ r3 = r7 := fun q => by rw [<- q, x3] at hr7; cases hr7
      have p4 : ¬ r7 = r3 := fun q => p3 q.symm
      have p5 : ¬ r4 = r7 := fun q => by rw [<- q, x4] at hr7; cases hr7
      have x3' := x3
      unfold QX at x3'
      obtain ⟨hC, hhC⟩ : ∃ hC, upd hB r7 (some ⟨Ta, 2, [Z6 x]⟩) = hC := ⟨_, rfl⟩
      have SC : Sub (upd h rb (some (rdO s v en out))) hC := by rw [<- hhC]; exact T9 SB n7.1 n7.2
      have AC : Acc (upd h rb (some (rdO s v en out))) Ta 2 (L.map Z6) l hC := by rw [<- hhC]; exact acc_new AB hr7 _
      have z7 : hC r7 = some ⟨Ta, 2, [Z6 x]⟩ := by rw [<- hhC, Z1]
      have z3C : hC r3 = some ⟨Tt, 7, [QX k nm l false]⟩ := by rw [<- hhC, Q9 _ _ p3]; exact x3
      have z4C : hC r4 = some ⟨Tt, 7, [[Q3 0, .str [], .emp, .str [], .bool false, Q3 0, Q3 0]]⟩ := by rw [<- hhC, Q9 _ _ p5]; exact x4
      have z3C' := z3C
      unfold QX at z3C'
      have z7' := z7
      unfold Z6 at hhC z7'
      repeat' (first | ((with_reducible refine brC (fun _ => ?_) fun _ => ?_) <;> try (exfalso; omega)) | (with_reducible refine And.intro ?_ ?_; · omega) | simp -dsimp -implicitDefEqProofs (disch := omega) only [VCA, Nat.reduceAdd, Nat.reduceLT, Nat.reduceLeDiff, ↓reduceIte, exists_eq_left', p3, x3', hhC])
      refine DCalls.of (conOwn_ok (G := G) L AC _ _ _ (fun y => y.name == x.name) (by omega) fun y => tag3_ok (G := G) z7 y) ?_
      rintro _ _ ⟨rfl, rfl⟩
      have hal := addA_len L x
      cases hany : L.any (fun y => y.name == x.name) with
      | true =>
        have e1 : addA L x = L := if_pos hany
        rw [e1] at hT
        repeat' (first | ((with_reducible refine brC (fun _ => ?_) fun _ => ?_) <;> try (exfalso; omega)) | (with_reducible refine And.intro ?_ ?_; · omega) | simp -dsimp -implicitDefEqProofs (disch := omega) only [VCA, Nat.reduceEqDiff, ↓reduceIte, reduceCtorEq, e0, e3, e4])
        exact ⟨_, by omega, v, f, L, l, by omega, hn.2, rfl, SC, z3C, z4C, AC, by omega, by omega, hT⟩
      | false =>
        have e1 : addA L x = L ++ [x] := if_neg (by rw [hany]; simp)
        rw [e1] at hT
        repeat' (first | ((with_reducible refine brC (fun _ => ?_) fun _ => ?_) <;> try (exfalso; omega)) | (with_reducible refine And.intro ?_ ?_; · omega) | simp -dsimp -implicitDefEqProofs (disch := omega) only [VCA, Nat.reduceEqDiff, Nat.reduceAdd, Nat.reduceLT, Nat.reduceLeDiff, ↓reduceIte, J4, forall_eq, exists_eq_left, exists_eq_left', e3, z3C', z7'])
        have el : (L.map Z6).length = L.length := List.length_map ..
        refine AC.appW SC (by rw [el]; simp only [List.length_cons, List.length_nil]; omega) (by rw [el]; simp only [List.length_cons, List.length_nil]; omega) fun a' hD AD SD kD => ?_
        have kD3 := kD r3 _ z3C (JV AC z3C (by decide))
        have kD4 := kD r4 _ z4C (JV AC z4C (by decide))
        have d3 := kD3.1
        unfold QX at d3
        have iv := Acc.isv AD
        have em : L.map Z6 ++ [[.str x.name, .str x.value]] = (L ++ [x]).map Z6 := by rw [List.map_append]; rfl
        rw [em] at AD
        repeat' (first | ((with_reducible refine brC (fun _ => ?_) fun _ => ?_) <;> try (exfalso; omega)) | (with_reducible refine And.intro ?_ ?_; · omega) | simp -dsimp -implicitDefEqProofs (disch := omega) only [VCA, Nat.reduceEqDiff, Nat.reduceAdd, Nat.reduceLT, Nat.reduceLeDiff, ↓reduceIte, reduceCtorEq, Z3, exists_eq_left', e0, e3, e4, d3, iv.1, iv.2])
        refine ⟨_, by omega, v, f, L ++ [x], a', by omega, hn.2, rfl, T9 SD n3 m3, by first | rfl | (rw [Z1]; rfl), by first | (rw [if_neg n34]; exact kD4.1) | (rw [Q9 _ _ n34]; exact kD4.1), AD.keepA kD3.2 _, by rw [List.length_append]; simp only [List.length_cons, List.length_nil]; omega, by omega, hT⟩
  · obtain rfl : u = s.length := by omega
    rw [if_neg hul] at hT
    have bu : ((s.length : Int) == (s.length : Int)) = true := by simp
    repeat' (first | ((with_reducible refine brC (fun _ => ?_) fun _ => ?_) <;> try (exfalso; omega)) | (with_reducible refine And.intro ?_ ?_; · omega) | simp -dsimp -implicitDefEqProofs (disch := omega) only [VCA, Nat.reduceEqDiff, Nat.reduceAdd, Nat.reduceLT, Nat.reduceLeDiff, ↓reduceIte, reduceCtorEq, Y8, Q7, Z3, exists_eq_left', J1, e0, e3, e4, gA', bu, y3', y4])
    refine ⟨_, Sub.refl _, ?_⟩
    rw [<- hT]
    exact ⟨L, l, false, s.length, AA.keepA (JV AA y4 (by decide)) _, by omega, T9 SA n4 m4, Nat.le_refl _, rfl, rfl⟩
theorem tag_raw (hG : U8 G) {h : Q2} {rb : Nat} {s : List UInt8} {a en : Nat} {out : AVal} (k : Int) (hr : h rb = some (rdO s a en out)) (ha : a <= s.length) (hs : s.length <= 4000000) :
    DCalls (Pg G) 59 [.vp rb 0, .agg (QX k [] .emp false)] h (TagK h rb s en out k (K3 (seg s a (Z4 Z9 s a))) (WV s (s.length + 1) (Z4 Z9 s a) [])) := by
  have hc := T8 (q := Z9) ha
  obtain ⟨c, hce⟩ : ∃ c, Z4 Z9 s a = c := ⟨_, rfl⟩
  rw [hce] at hc ⊢
  have cN := tokName_ok (G := G) (seg s a c) (by have := YY s a c; omega)
  refine Q1 Tryz.func59 (by kernel_rfl) hc59 (by rw [Tryz.ntmps59]; simp) (by rw [Tryz.ntmps59]; decide) ?_
  simp -dsimp -implicitDefEqProofs (disch := omega) only [VCA, ↓U9, Nat.reduceAdd, ↓reduceIte, reduceCtorEq, ne_eq, c59, QX]
  intro r3 hr3 r4 hr4
  have m3 : r3 ≠ rb := fun q => by rw [q, hr] at hr3; cases hr3
  have m4 : r4 ≠ rb := fun q => by rw [q, hr] at hr4; cases hr4.2
  have n34 : r3 ≠ r4 := fun q => hr4.1 q.symm
  obtain ⟨hA, hhA⟩ : ∃ hA, upd (upd h r3 (some ⟨Tt, 7, [[Q3 k, .str [], .emp, .str [], .bool false, Q3 0, Q3 0]]⟩)) r4 (some ⟨Tt, 7, [[Q3 0, .str [], .emp, .str [], .bool false, Q3 0, Q3 0]]⟩) = hA := ⟨_, rfl⟩
  have SA : Sub (upd h rb (some (rdO s a en out))) hA := by rw [<- hhA]; exact T9 (T9 (by rw [XK hr]; exact Sub.refl _) hr3 m3) hr4.2 m4
  have gA := T0 SA
  have zA : hA r3 = some ⟨Tt, 7, [[Q3 k, .str [], .emp, .str [], .bool false, Q3 0, Q3 0]]⟩ := by rw [<- hhA, Q9 _ _ n34, Z1]
  have yA : hA r4 = some ⟨Tt, 7, [[Q3 0, .str [], .emp, .str [], .bool false, Q3 0, Q3 0]]⟩ := by rw [<- hhA, Z1]
  rw [hhA]
  refine DCalls.of (until_ok (G := G) gA ha hs pT1) ?_
  rintro _ hB ⟨rfl, hhB⟩
  rw [hce] at hhB ⊢
  have SB := JZ SA (by rw [hhB]; exact Sub.refl _ : Sub (upd hA rb (some (rdO s c en out))) hB)
  have zB : hB r3 = some ⟨Tt, 7, [[Q3 k, .str [], .emp, .str [], .bool false, Q3 0, Q3 0]]⟩ := by rw [hhB, Q9 _ _ m3]; exact zA
  have yB : hB r4 = some ⟨Tt, 7, [[Q3 0, .str [], .emp, .str [], .bool false, Q3 0, Q3 0]]⟩ := by rw [hhB, Q9 _ _ m4]; exact yA
  have gB := T0 SB
  have gB' := gB
  unfold rdO at gB'
  repeat' (first | ((with_reducible refine brC (fun _ => ?_) fun _ => ?_) <;> try (exfalso; omega)) | (with_reducible apply pcallE.of; · exact cN) | (with_reducible refine And.intro ?_ ?_; · omega) | simp -dsimp -implicitDefEqProofs (disch := omega) only [VCA, Nat.reduceEqDiff, Nat.reduceAdd, Nat.reduceLT, Nat.reduceLeDiff, ↓reduceIte, Z3, exists_eq_left', zB])
  refine tag_loop (G := G) hG k (K3 (seg s a c)) hs hc.2 (T9 SB hr3 m3) hr3 hr4.2 m3 m4 n34 (by rw [Z1]; rfl) (by rw [Q9 _ _ n34.symm]; exact yB) ?_ ?_ ?_
  all_goals first | (simp [upd]; done) | (simp [upd]; rfl)
theorem tokTag_ok (hG : U8 G) {h : Q2} {rb : Nat} {s : List UInt8} {a en : Nat} {out : AVal} (k : Int) (hr : h rb = some (rdO s a en out)) (ha : a <= s.length) (hs : s.length <= 4000000) :
    DCalls (Pg G) 59 [.vp rb 0, .agg (QX k [] .emp false)] h fun r h' => ∃ b, Sub (upd h rb (some (rdO s b en out))) h' /\ b <= s.length /\
      match UU s a with
      | some q => r = .tup [.agg (J6 ⟨k, q.1, q.2.1, [], q.2.2.1, 0, 0⟩), .bool true] /\ b = q.2.2.2 /\ q.2.1.length <= s.length
      | none => (∃ t : HTok, t.kind = k /\ r = .tup [.agg (J6 t), .bool false]) /\ b = s.length := by
  refine (tag_raw hG k hr ha hs).outV fun r h' ⟨L, l, sf, b, A, hL, S, hb, hT⟩ => ?_
  have hv := A.vw (fun f hf => by obtain ⟨x, _, rfl⟩ := List.mem_map.1 hf; rfl)
  have vt : VwT (newH (upd h rb (some (rdO s b en out))) h') (.tup [.agg (QX k (K3 (seg s a (Z4 Z9 s a))) l sf), .bool true]) (.tup [.agg (J6 ⟨k, K3 (seg s a (Z4 Z9 s a)), L, [], sf, 0, 0⟩), .bool true]) :=
    .tup' (.cons (.agg' (.cons (.refl _) (.cons (.refl _) (.cons hv (.cons (.refl _) (.cons (.refl _) (.cons (.refl _) (.cons (.refl _) .nil)))))))) (.cons (.refl _) .nil))
  have vf : VwT (newH (upd h rb (some (rdO s b en out))) h') (.tup [.agg (QX k (K3 (seg s a (Z4 Z9 s a))) l sf), .bool false]) (.tup [.agg (J6 ⟨k, K3 (seg s a (Z4 Z9 s a)), L, [], sf, 0, 0⟩), .bool false]) :=
    .tup' (.cons (.agg' (.cons (.refl _) (.cons (.refl _) (.cons hv (.cons (.refl _) (.cons (.refl _) (.cons (.refl _) (.cons (.refl _) .nil)))))))) (.cons (.refl _) .nil))
  unfold UU
  cases hq : WV s (s.length + 1) (Z4 Z9 s a) [] with
  | some q =>
    rw [hq] at hT
    obtain ⟨rfl, rfl⟩ := hT
    exact ⟨upd h rb (some (rdO s b en out)), newH _ h', _, S, newH_sub _ _, VJ _ _, vt, b, Sub.refl _, hb, rfl, rfl, hL⟩
  | none =>
    rw [hq] at hT
    obtain ⟨rfl, rfl⟩ := hT
    exact ⟨upd h rb (some (rdO s s.length en out)), newH _ h', _, S, newH_sub _ _, VJ _ _, vf, s.length, Sub.refl _, Nat.le_refl _, ⟨_, rfl, rfl⟩, rfl⟩
def tokR (t : HTok) : List AVal := [Q3 t.kind, .str t.name, .emp, .str t.text, .bool t.self, Q3 t.frm, Q3 t.til]
theorem tokR_wk {t : HTok} (h : t.attrs = []) : Wk (.agg (tokR t)) (.agg (J6 t)) := by
  have e : sl Z6 t.attrs = .slc [] := by rw [h]; rfl
  unfold tokR J6
  rw [e]
  exact .agg' (.cons (.refl _) (.cons (.refl _) (.cons .emp (.cons (.refl _) (.cons (.refl _) (.cons (.refl _) (.cons (.refl _) .nil)))))))
theorem tokR_wk2 {t : HTok} {b : Bool} (h : t.attrs = []) : Wk (.tup [.agg (tokR t), .bool b]) (.tup [.agg (J6 t), .bool b]) :=
  .tup' (.cons (tokR_wk h) (.cons (.refl _) .nil))
def RS (h0 : Q2) (rb : Nat) (s : List UInt8) (a en : Nat) (T : List HTok) (h : Q2) : Prop :=
  ∃ out, Acc (upd h0 rb (some (rdO s a en out))) Tt 7 (T.map J6) out h /\ Sub (upd h0 rb (some (rdO s a en out))) h
theorem RS.next {h0 h h' : Q2} {rb : Nat} {s : List UInt8} {a en b : Nat} {T : List HTok} (R : RS h0 rb s a en T h) (hs : ∀ out, h rb = some (rdO s a en out) -> Sub (upd h rb (some (rdO s b en out))) h') : RS h0 rb s b en T h' := by
  obtain ⟨out, A, S⟩ := R
  exact ⟨out, acc_next A (hs out (T0 S)), JZ S (hs out (T0 S))⟩
def c58 : SFun := ⟨.seq (.reg [o 4 (.new 43 7 [.int .i64 0, .str [], .emp, .str [], .bool false, .int .i64 0, .int .i64 0]), o 5 (.mv (.c (.bool false)))]) (.seq (.reg [o 6 (.fldA 0 (.t 4)), ⟨none, .st 1 (.t 6) (.c (.int .i64 4)), none⟩]) (.seq (.reg [o 8 (.mv (.t 0)), o 9 (.mv (.t 1)), o 10 (.call (.c (.fn 72 [] [])) [.t 8, .t 9]), o 7 (.mv (.t 10)), o 11 (.ext (.t 7) 0), o 12 (.ext (.t 7) 1), o 13 (.fldA 3 (.t 4)), ⟨none, .st 1 (.t 13) (.t 11), none⟩, o 5 (.mv (.t 12))]) (.seq (.reg [o 14 (.ld 7 true (.t 4)), o 15 (.mv (.t 5)), ⟨none, .st 7 (.t 4) (.t 14), none⟩, o 5 (.mv (.t 15))]) .ret))), [.cell 4 7 true, .tmp 5]⟩
theorem hc58 : Y5 Tryz.prog {} Tryz.f58 = some c58 := by kernel_rfl
theorem tokComment_raw (hG : U8 G) {h : Q2} {rb : Nat} {s w : List UInt8} {a en : Nat} {out : AVal} (hr : h rb = some (rdO s a en out)) (ha : a <= s.length) (hs : s.length <= 4000000) (hw : noLet w = true) (h0 : w ≠ []) :
    DCalls (Pg G) 58 [.vp rb 0, .str w] h fun r h' => r = .tup [.agg (tokR (UQ s a w).1), .bool (UQ s a w).2.1] /\ Sub (upd h rb (some (rdO s (UQ s a w).2.2 en out))) h' := by
  have hr' := hr
  unfold rdO at hr'
  unfold UQ
  refine Q1 Tryz.func58 (by kernel_rfl) hc58 (by rw [Tryz.ntmps58]; simp) (by rw [Tryz.ntmps58]; decide) ?_
  simp -dsimp -implicitDefEqProofs (disch := omega) only [VCA, Nat.reduceEqDiff, Nat.reduceAdd, Nat.reduceLT, Nat.reduceLeDiff, ↓reduceIte, reduceCtorEq, rdO, Z3, exists_eq_left', c58]
  intro r4 hr4
  have m4 : r4 ≠ rb := fun q => by rw [q, hr] at hr4; cases hr4
  obtain ⟨hA, hhA⟩ : ∃ hA, upd h r4 (some ⟨Tt, 7, [[Q3 4, .str [], .emp, .str [], .bool false, Q3 0, Q3 0]]⟩) = hA := ⟨_, rfl⟩
  have SA : Sub (upd h rb (some (rdO s a en out))) hA := by rw [<- hhA]; exact T9 (by rw [XK hr]; exact Sub.refl _) hr4 m4
  have yA : hA r4 = some ⟨Tt, 7, [[Q3 4, .str [], .emp, .str [], .bool false, Q3 0, Q3 0]]⟩ := by rw [<- hhA, Z1]
  rw [hhA]
  refine DCalls.of (past_ok (G := G) hG (T0 SA) ha hs hw h0) ?_
  rintro _ hB ⟨rfl, SB⟩
  have yB : hB r4 = some ⟨Tt, 7, [[Q3 4, .str [], .emp, .str [], .bool false, Q3 0, Q3 0]]⟩ := SB _ _ (by rw [Q9 _ _ m4]; exact yA)
  repeat' (first | ((with_reducible refine brC (fun _ => ?_) fun _ => ?_) <;> try (exfalso; omega)) | (with_reducible refine And.intro ?_ ?_; · omega) | simp -dsimp -implicitDefEqProofs (disch := omega) only [VCA, Nat.reduceEqDiff, Nat.reduceAdd, Nat.reduceLT, Nat.reduceLeDiff, ↓reduceIte, Z3, exists_eq_left', yB])
  exact ⟨_, Sub.refl _, rfl, T9 (JZ SA SB) hr4 m4⟩
theorem tokComment_ok (hG : U8 G) {h : Q2} {rb : Nat} {s w : List UInt8} {a en : Nat} {out : AVal} (hr : h rb = some (rdO s a en out)) (ha : a <= s.length) (hs : s.length <= 4000000) (hw : noLet w = true) (h0 : w ≠ []) :
    DCalls (Pg G) 58 [.vp rb 0, .str w] h fun r h' => r = .tup [.agg (J6 (UQ s a w).1), .bool (UQ s a w).2.1] /\ Sub (upd h rb (some (rdO s (UQ s a w).2.2 en out))) h' :=
  (tokComment_raw hG hr ha hs hw h0).wkRes fun r h' ⟨e, S⟩ => ⟨_, by rw [e]; exact tokR_wk2 rfl, rfl, S⟩
def c32 : SFun := ⟨.seq (.reg [o 4 (.mv (.c (.int .u8 0)))]) (.seq (.seq (.reg [o 6 (.mv (.t 0)), o 7 (.fldA 0 (.t 6)), o 8 (.fldA 0 (.t 7)), o 9 (.ld 1 false (.t 8)), o 10 (.mv (.t 1)), o 11 (.idxS (.t 9) (.t 10)), o 12 (.bin .neq (.t 11) (.c (.int .u8 60))), o 13 (.mv (.t 12)), ⟨some 14, .mv (.t 1), some (13, false)⟩, ⟨some 15, .bin .add (.t 14) (.c (.int .i64 1)), some (13, false)⟩, ⟨some 16, .mv (.t 0), some (13, false)⟩, ⟨some 17, .fldA 0 (.t 16), some (13, false)⟩, ⟨some 18, .fldA 0 (.t 17), some (13, false)⟩, ⟨some 19, .ld 1 false (.t 18), some (13, false)⟩, ⟨some 20, .lenS (.t 19), some (13, false)⟩, ⟨some 21, .bin .eql (.t 15) (.t 20), some (13, false)⟩, o 22 (.pick (.t 13) (.c (.bool true)) (.t 21))]) (.cond (.t 22) (.seq (.reg [o 4 (.mv (.c (.int .u8 0)))]) .ret) .skip)) (.seq (.seq (.reg [o 23 (.mv (.t 0)), o 24 (.fldA 0 (.t 23)), o 25 (.fldA 0 (.t 24)), o 26 (.ld 1 false (.t 25)), o 27 (.mv (.t 1)), o 28 (.bin .add (.t 27) (.c (.int .i64 1))), o 29 (.idxS (.t 26) (.t 28)), o 5 (.mv (.t 29))]) (.block 0 (.seq (.reg [o 31 (.mv (.t 5)), o 32 (.pcall 56 [.t 31]), o 30 (.mv (.t 32))]) (.cond (.t 30) (.seq (.reg [o 4 (.mv (.c (.int .u8 97)))]) .ret) (.seq (.reg [o 34 (.mv (.t 5)), o 35 (.bin .eql (.t 34) (.c (.int .u8 33))), o 36 (.mv (.t 35)), ⟨some 37, .mv (.t 5), some (36, false)⟩, ⟨some 38, .bin .eql (.t 37) (.c (.int .u8 63)), some (36, false)⟩, o 39 (.pick (.t 36) (.c (.bool true)) (.t 38)), o 33 (.mv (.t 39))]) (.cond (.t 33) (.seq (.reg [o 40 (.mv (.t 5)), o 4 (.mv (.t 40))]) .ret) (.seq (.reg [o 42 (.mv (.t 5)), o 43 (.bin .eql (.t 42) (.c (.int .u8 47))), o 44 (.mv (.t 43)), ⟨some 45, .mv (.t 1), some (44, true)⟩, ⟨some 46, .bin .add (.t 45) (.c (.int .i64 2)), some (44, true)⟩, ⟨some 47, .mv (.t 0), some (44, true)⟩, ⟨some 48, .fldA 0 (.t 47), some (44, true)⟩, ⟨some 49, .fldA 0 (.t 48), some (44, true)⟩, ⟨some 50, .ld 1 false (.t 49), some (44, true)⟩, ⟨some 51, .lenS (.t 50), some (44, true)⟩, ⟨some 52, .bin .lss (.t 46) (.t 51), some (44, true)⟩, o 53 (.pick (.t 44) (.t 52) (.c (.bool false))), o 41 (.mv (.t 53))]) (.cond (.t 41) (.seq (.reg [o 54 (.mv (.t 5)), o 4 (.mv (.t 54))]) .ret) .skip)))))))) (.seq (.reg [o 4 (.mv (.c (.int .u8 0)))]) .ret))), [.tmp 4]⟩
theorem hc32 : Y5 Tryz.prog {pure := [56]} Tryz.f32 = some c32 := by kernel_rfl
theorem hn32 : (Tryz.f32.name == "runtime.NumGoroutine") = false := by kernel_rfl
theorem tokMark_ok {h : Q2} {rb : Nat} {s : List UInt8} {a p en : Nat} {out : AVal} (hr : h rb = some (rdO s a en out)) (hp : p < s.length) (hs : s.length <= 4000000) :
    DCalls (Pg G) 32 [.vp rb 0, Q3 p] h fun r h' => r = .int .u8 (Y1 s p) /\ h' = h := by
  unfold rdO at hr
  unfold Y1
  obtain ⟨b, hb⟩ : ∃ b, s.getD p 0 = b := ⟨_, rfl⟩
  obtain ⟨c, hc⟩ : ∃ c, s.getD (p + 1) 0 = c := ⟨_, rfl⟩
  have eb : bt s p = b.toNat := by unfold bt; rw [hb]
  have ec : bt s (p + 1) = c.toNat := by unfold bt; rw [hc]
  have cL := UW (G := G) c
  rw [eb, ec]
  refine Q1 Tryz.func32 hn32 hc32 (by rw [Tryz.ntmps32]; simp) (by rw [Tryz.ntmps32]; decide) ?_
  simp -dsimp -implicitDefEqProofs (disch := omega) only [↓Q0 13, VCA, Nat.reduceEqDiff, Nat.reduceAdd, Nat.reduceLT, Nat.reduceLeDiff, ↓reduceIte, reduceCtorEq, ne_eq, exists_eq_left', c32, hr, hb]
  repeat' (first | ((with_reducible refine brC (fun _ => ?_) fun _ => ?_) <;> try (exfalso; omega)) | (with_reducible apply pcallE.of; · exact cL) | (with_reducible refine And.intro ?_ ?_; · omega) | simp -dsimp -implicitDefEqProofs (disch := omega) only [↓Q0 36, ↓Q0 44, VCA, Nat.reduceEqDiff, Nat.reduceAdd, Nat.reduceLT, Nat.reduceLeDiff, ↓reduceIte, reduceCtorEq, exists_eq_right_right, exists_eq_left', hr, hc])
  all_goals refine ⟨Sub.refl _, ?_⟩
  all_goals (repeat' split) <;> first | rfl | omega | (simp_all; done) | trace_state
def c34 : SFun := ⟨.seq (.reg [o 4 (.box 43 7 (.t 1))]) (.seq (.dreg [(o 6 (.mv (.t 2)), none), (o 7 (.mv (.t 0)), none), (o 8 (.fldA 0 (.t 7)), none), (o 9 (.fldA 1 (.t 8)), none), (o 10 (.ld 1 false (.t 9)), none), (o 11 (.fldA 5 (.t 4)), none), (⟨none, .st 1 (.t 11) (.t 6), none⟩, (some [])), (o 12 (.fldA 6 (.t 4)), none), (⟨none, .st 1 (.t 12) (.t 10), none⟩, (some [10]))]) (.dreg [(o 13 (.mv (.t 0)), none), (o 14 (.mv (.t 0)), none), (o 15 (.fldA 0 (.t 14)), none), (o 16 (.fldA 3 (.t 15)), none), (o 17 (.ld 1 false (.t 16)), none), (o 18 (.ld 7 true (.t 4)), none), (o 19 (.bldF 43 7 [.t 18]), none), (o 20 (.app 43 7 88 (.t 17) (.t 19)), (some [17, 18])), (o 21 (.fldA 0 (.t 13)), none), (o 22 (.fldA 3 (.t 21)), none), (⟨none, .st 1 (.t 22) (.t 20), none⟩, (some [17, 18]))])), []⟩
theorem hc34 : Y5 Tryz.prog {how := [(4, 6)]} Tryz.f34 = some c34 := by kernel_rfl
theorem tokPut_ok {h0 h : Q2} {rb : Nat} {s : List UInt8} {a en : Nat} {T : List HTok} {t : HTok} (frm : Int) (R : RS h0 rb s a en T h) (hT : T.length <= 4000000) :
    DCalls (Pg G) 34 [.vp rb 0, .agg (J6 t), Q3 frm] h fun _ h' => RS h0 rb s a en (T ++ [{ t with frm := frm, til := a }]) h' := by
  obtain ⟨out, A, S⟩ := R
  have g1 := T0 S
  have g1' := g1
  unfold rdO at g1'
  obtain ⟨l, hl⟩ : ∃ l, sl Z6 t.attrs = l := ⟨_, rfl⟩
  refine Q1 Tryz.func34 (by kernel_rfl) hc34 (by rw [Tryz.ntmps34]; simp) (by rw [Tryz.ntmps34]; decide) ?_
  simp -dsimp -implicitDefEqProofs (disch := omega) only [VCA, Nat.reduceEqDiff, Nat.reduceBEq, Nat.reduceAdd, Nat.reduceLT, Nat.reduceLeDiff, ↓reduceIte, reduceCtorEq, Y8, Q7, SOp.rd, SI.rd, SX.rd, J4, Z3, forall_const, forall_eq, exists_eq_left', J1, c34, J6, hl]
  intro r4 hr4
  have n4 := none_off S hr4
  have m1 : ¬ rb = r4 := fun q => n4.2 q.symm
  have m2 : ¬ r4 = rb := n4.2
  repeat' (first | ((with_reducible refine brC (fun _ => ?_) fun _ => ?_) <;> try (exfalso; omega)) | (with_reducible refine And.intro ?_ ?_; · omega) | simp -dsimp -implicitDefEqProofs (disch := omega) only [VCA, Nat.reduceAdd, Nat.reduceLT, Nat.reduceLeDiff, ↓reduceIte, exists_eq_left, exists_eq_left', m1, g1'])
  have SC := fun o : Option AObj => T9 (o := o) S n4.1 n4.2
  have AC := fun o : Option AObj => acc_new A hr4 o
  have el : (T.map J6).length = T.length := List.length_map ..
  refine (AC _).appW (SC _) (by rw [el]; simp only [List.length_cons, List.length_nil]; omega) (by rw [el]; simp only [List.length_cons, List.length_nil]; omega) fun a' hD AD SD kD => ?_
  refine ⟨by simp [keepR], ?_⟩
  have kb := (kD rb _ (by rw [Q9 _ _ m1]; exact g1) (JV A g1 (by decide))).1
  have kb' := kb
  unfold rdO at kb'
  have iv := Acc.isv AD
  repeat' (first | ((with_reducible refine brC (fun _ => ?_) fun _ => ?_) <;> try (exfalso; omega)) | (with_reducible refine And.intro ?_ ?_; · omega) | simp -dsimp -implicitDefEqProofs (disch := omega) only [VCA, Nat.reduceEqDiff, Nat.reduceBEq, Nat.reduceAdd, Nat.reduceLT, ↓reduceIte, Y8, Q7, SOp.rd, SI.rd, SX.rd, Z3, exists_eq_left', J1, m1, g1', kb', iv.1, iv.2])
  refine ⟨_, Sub.refl _, a', ?_, S_put SD⟩
  have em : (T ++ [({ t with frm := frm, til := a } : HTok)]).map J6 = T.map J6 ++ [[Q3 t.kind, .str t.name, l, .str t.text, .bool t.self, .int .i64 frm, .int .i64 a]] := by rw [List.map_append, <- hl]; rfl
  rw [em]
  exact acc_next AD (Sub.refl _)
theorem RS.none_rb {h0 h : Q2} {rb : Nat} {s : List UInt8} {a en : Nat} {T : List HTok} (R : RS h0 rb s a en T h) : ∃ out, h rb = some (rdO s a en out) := by
  obtain ⟨out, A, S⟩ := R; exact ⟨out, T0 S⟩
def c31 : SFun := ⟨.seq (.reg [o 3 (.mv (.t 0)), o 4 (.fldA 0 (.t 3)), o 5 (.fldA 1 (.t 4)), o 6 (.ld 1 false (.t 5)), o 2 (.mv (.t 6))]) (.seq (.block 0 (.loop (.seq (.seq (.dreg [(o 7 (.mv (.t 0)), none), (o 8 (.fldA 0 (.t 7)), none), (o 9 (.fldA 1 (.t 8)), none), (o 10 (.ld 1 false (.t 9)), none), (o 11 (.mv (.t 0)), none), (o 12 (.fldA 0 (.t 11)), none), (o 13 (.fldA 0 (.t 12)), none), (o 14 (.ld 1 false (.t 13)), none), (o 15 (.lenS (.t 14)), none), (o 16 (.bin .lss (.t 10) (.t 15)), none), (o 17 (.mv (.t 16)), none), (⟨some 18, .mv (.t 0), some (17, true)⟩, none), (⟨some 19, .mv (.t 0), some (17, true)⟩, none), (⟨some 20, .fldA 0 (.t 19), some (17, true)⟩, none), (⟨some 21, .fldA 1 (.t 20), some (17, true)⟩, none), (⟨some 22, .ld 1 false (.t 21), some (17, true)⟩, none), (⟨some 23, .call (.c (.fn 32 [] [])) [.t 18, .t 22], some (17, true)⟩, (some [22, 10, 14])), (⟨some 24, .bin .eql (.t 23) (.c (.int .u8 0)), some (17, true)⟩, none), (o 25 (.pick (.t 17) (.t 24) (.c (.bool false))), none)]) (.cond (.t 25) .skip (.exit 0))) (.block 1 (.reg [o 26 (.mv (.t 0)), o 27 (.fldA 0 (.t 26)), o 28 (.fldA 1 (.t 27)), o 29 (.ld 1 false (.t 28)), o 30 (.bin .add (.t 29) (.c (.int .i64 1))), o 31 (.fldA 0 (.t 26)), o 32 (.fldA 1 (.t 31)), ⟨none, .st 1 (.t 32) (.t 30), none⟩]))))) (.seq (.reg [o 33 (.mv (.t 0)), o 34 (.fldA 0 (.t 33)), o 35 (.fldA 1 (.t 34)), o 36 (.ld 1 false (.t 35)), o 37 (.mv (.t 2)), o 38 (.bin .gtr (.t 36) (.t 37))]) (.cond (.t 38) (.dreg [(o 39 (.mv (.t 0)), none), (o 40 (.mv (.t 0)), none), (o 41 (.fldA 0 (.t 40)), none), (o 42 (.fldA 0 (.t 41)), none), (o 43 (.ld 1 false (.t 42)), none), (o 44 (.mv (.t 2)), none), (o 45 (.mv (.t 0)), none), (o 46 (.fldA 0 (.t 45)), none), (o 47 (.fldA 1 (.t 46)), none), (o 48 (.ld 1 false (.t 47)), none), (o 49 (.slS (.t 43) (some (.t 44)) (some (.t 48))), none), (o 50 (.pcall 55 [.t 49]), none), (o 51 (.bld [.int .i64 0, .str [], .emp, .str [], .bool false, .int .i64 0, .int .i64 0] [(0, (1, (.c (.int .i64 3)))), (3, (1, (.t 50)))]), none), (o 52 (.mv (.t 2)), none), (o 53 (.call (.c (.fn 34 [] [])) [.t 39, .t 51, .t 52]), (some [43, 48]))]) .skip))), []⟩
theorem hc31 : Y5 Tryz.prog {pure := [55]} Tryz.f31 = some c31 := by kernel_rfl
theorem tokText_ok {h0 h : Q2} {rb : Nat} {s : List UInt8} {a en : Nat} {T : List HTok} (R : RS h0 rb s a en T h) (ha : a <= s.length) (hs : s.length <= 4000000) (hT : T.length <= 4000000) :
    DCalls (Pg G) 31 [.vp rb 0] h fun _ h' => RS h0 rb s (Z8 s a []) en (T ++ Y7 s a []) h' := by
  obtain ⟨out, hr⟩ := R.none_rb
  have hr' := hr
  unfold rdO at hr'
  obtain ⟨q, hq⟩ : ∃ q : Nat -> Bool, (fun i => Y1 s i != 0) = q := ⟨_, rfl⟩
  have ht : Z8 s a [] = Y0 q s.length a := by unfold Z8; rw [if_pos rfl, hq]
  have hu := WQ (q := q) ha
  obtain ⟨u, hue⟩ : ∃ u, Y0 q s.length a = u := ⟨_, rfl⟩
  rw [hue] at hu ht
  rw [ht]
  have tx : Y7 s a [] = if a < u then [⟨3, [], [], K4 (seg s a u) false, false, a, u⟩] else [] := by unfold Y7; rw [ht]; rfl
  have cX := text_ok (G := G) (seg s a u) (by have := YY s a u; omega)
  have Put : ∀ h1, RS h0 rb s u en T h1 -> DCalls (Pg G) 34 [.vp rb 0, .agg [.int .i64 3, .str [], .emp, .str (K4 (seg s a u) false), .bool false, .int .i64 0, .int .i64 0], .int .i64 a] h1 fun _ h' => RS h0 rb s u en (T ++ [⟨3, [], [], K4 (seg s a u) false, false, a, u⟩]) h' :=
    fun h1 R1 => (tokPut_ok (G := G) (t := ⟨3, [], [], K4 (seg s a u) false, false, 0, 0⟩) a R1 hT).weak rfl (F2.get (.cons (.refl _) (.cons (tokR_wk (t := ⟨3, [], [], K4 (seg s a u) false, false, 0, 0⟩) rfl) (.cons (.refl _) .nil))))
  unfold seg at cX Put
  refine Q1 Tryz.func31 (by kernel_rfl) hc31 (by rw [Tryz.ntmps31]; simp) (by rw [Tryz.ntmps31]; decide) ?_
  simp -dsimp -implicitDefEqProofs (disch := omega) only [VCA, Nat.reduceAdd, Nat.reduceLT, Nat.reduceLeDiff, ↓reduceIte, exists_eq_left', c31, hr']
  refine LoopVC.intro (fun m e h' => ∃ j : Nat, a <= j /\ j <= s.length /\ m = s.length - j /\ e 0 = .vp rb 0 /\ e 2 = Q3 a /\ h' = upd h rb (some (rdO s j en out)) /\ Y0 q s.length j = u) (s.length - a)
    (by exact ⟨a, by omega, by omega, by omega, rfl, rfl, (XK hr).symm, hue⟩) ?_
  rintro m e h' ⟨j, hj0, hj, rfl, e0, e2, hh, hsk⟩
  have hr2 : h' rb = some (rdO s j en out) := by rw [hh, Z1]
  have hr3 := hr2
  unfold rdO at hr3
  have Rj : RS h0 rb s j en T h' := R.next fun o ho => by rw [hr] at ho; cases ho; rw [hh]; exact Sub.refl _
  by_cases hlt : j < s.length
  · have cM := tokMark_ok (G := G) hr2 hlt hs
    obtain ⟨k, hk⟩ : ∃ k, Y1 s j = k := ⟨_, rfl⟩
    rw [hk] at cM
    have hqj : q j = (k != 0) := by rw [<- hq, <- hk]
    cases hk0 : (k == 0) with
    | true =>
      have hj2 := W4 (q := q) hlt (by rw [hqj]; simpa using hk0)
      repeat' (first | ((with_reducible refine brC (fun _ => ?_) fun _ => ?_) <;> try (exfalso; omega)) | ((refine DCalls.of cM ?_; rintro _ _ ⟨rfl, rfl⟩)) | (with_reducible refine And.intro ?_ ?_; · omega) | simp -dsimp -implicitDefEqProofs (disch := omega) only [↓Q5 17, VCA, Nat.reduceEqDiff, Nat.reduceBEq, Nat.reduceAdd, Nat.reduceLT, Nat.reduceLeDiff, ↓reduceIte, reduceCtorEq, Y8, Q7, SOp.rd, SI.rd, SX.rd, rdL, rdO, Z3, implies_true, exists_eq_left', J1, e0, e2, hr3, hk0])
      exact ⟨_, by omega, j + 1, by omega, by omega, rfl, by rw [hh, YV]; rfl, hj2.symm.trans hsk⟩
    | false =>
      have hj2 := Y9 (q := q) (by rw [hqj]; simpa using hk0) hlt
      rw [hj2] at hsk
      subst hsk
      repeat' (first | ((with_reducible refine brC (fun _ => ?_) fun _ => ?_) <;> try (exfalso; omega)) | ((refine DCalls.of cM ?_; rintro _ _ ⟨rfl, rfl⟩)) | (with_reducible apply pcallE.of; · exact cX) | ((refine DCalls.of (Put _ Rj) ?_; rintro _ _ R2)) | (with_reducible refine And.intro ?_ ?_; · omega) | simp -dsimp -implicitDefEqProofs (disch := omega) only [↓Q5 17, VCA, Nat.reduceEqDiff, Nat.reduceBEq, Nat.reduceAdd, Nat.reduceLT, Nat.reduceLeDiff, ↓reduceIte, reduceCtorEq, Y8, Q7, SOp.rd, SI.rd, SX.rd, rdL, rdO, X7, Y6, implies_true, exists_eq_left', J1, e0, e2, hr3, hk0])
      all_goals first
        | exact ⟨_, Sub.refl _, by rw [tx, if_pos (by omega)]; exact R2⟩
        | exact ⟨_, Sub.refl _, by rw [tx, if_neg (by omega), List.append_nil]; exact Rj⟩
        | trace_state
  · obtain rfl : j = s.length := by omega
    have hj2 := U5 (q := q) (Nat.le_refl s.length)
    rw [hj2] at hsk
    subst hsk
    rw [List.take_length] at cX Put
    repeat' (first | ((with_reducible refine brC (fun _ => ?_) fun _ => ?_) <;> try (exfalso; omega)) | (with_reducible apply pcallE.of; · exact cX) | ((refine DCalls.of (Put _ Rj) ?_; rintro _ _ R2)) | (with_reducible refine And.intro ?_ ?_; · omega) | simp -dsimp -implicitDefEqProofs (disch := omega) only [↓Q5 17, VCA, Nat.reduceEqDiff, Nat.reduceBEq, Nat.reduceAdd, Nat.reduceLT, Nat.reduceLeDiff, ↓reduceIte, reduceCtorEq, Y8, Q7, SOp.rd, SI.rd, SX.rd, rdL, rdO, X7, Y6, implies_true, exists_eq_left', J1, J8, e0, e2, hr3])
    all_goals first
      | exact ⟨_, Sub.refl _, by rw [tx, if_pos (by omega)]; unfold seg; rw [List.take_length]; exact R2⟩
      | exact ⟨_, Sub.refl _, by rw [tx, if_neg (by omega), List.append_nil]; exact Rj⟩
      | trace_state
theorem all_congr' {α : Type} {l : List α} {p q : α -> Bool} (h : ∀ x ∈ l, p x = q x) : l.all p = l.all q := by
  rw [Bool.eq_iff_iff, List.all_eq_true, List.all_eq_true]
  exact ⟨fun g x hx => (h x hx).symm.trans (g x hx), fun g x hx => (h x hx).trans (g x hx)⟩
def foldW (w : List UInt8) : Bool := w.all fun b => (decide (97 <= b.toNat) && (decide (b.toNat <= 122) && b != 107)) || (b == 33 || (b == 47 || b == 60))
def EqF (G : JU) : Prop := ∀ s w : List UInt8, s.length = w.length -> foldW w = true -> s.length <= 4000000 -> PCalls (Pg G) 67 [.str s, .str w] (.bool (Z7 s 0 w))
theorem stand_seg {s w : List UInt8} {a : Nat} (h : a + w.length <= s.length) : Z7 (seg s a (a + w.length)) 0 w = Z7 s a w := by
  unfold Z7
  have e1 := TK (s := s) (a := a) (b := a + w.length) h
  rw [e1, decide_eq_true (show 0 + w.length <= a + w.length - a by omega), decide_eq_true h, Bool.true_and, Bool.true_and]
  refine all_congr' fun i hi => ?_
  rw [Nat.zero_add, bt_seg (by have := List.mem_range.1 hi; omega)]
theorem stand_cons {s w : List UInt8} {a : Nat} {b : UInt8} (hb : U1 b.toNat = false) (h : a + 1 + w.length <= s.length) : Z7 s a (b :: w) = ((bt s a == b.toNat) && Z7 s (a + 1) w) := by
  unfold Z7
  rw [decide_eq_true h, decide_eq_true (show a + (b :: w).length <= s.length by rw [List.length_cons]; omega), Bool.true_and, Bool.true_and, List.length_cons, List.range_succ_eq_map, List.all_cons, List.all_map]
  have e0 : bt (b :: w) 0 = b.toNat := rfl
  rw [Nat.add_zero, e0, VZ hb]
  congr 1
  refine all_congr' fun i _ => ?_
  have e1 : bt (b :: w) (i + 1) = bt w i := rfl
  simp only [Function.comp, Nat.succ_eq_add_one, e1]
  rw [show a + (i + 1) = a + 1 + i by omega]
theorem seg_two {s : List UInt8} {a : Nat} (h : a + 2 <= s.length) : (seg s a (a + 2) == [60, 47]) = ((bt s a == 60) && (bt s (a + 1) == 47)) := by
  have e1 := TK (s := s) (a := a) (b := a + 2) h
  obtain ⟨x, y, hxy⟩ : ∃ x y, seg s a (a + 2) = [x, y] := by
    match hh : seg s a (a + 2), (show (seg s a (a + 2)).length = 2 by omega) with
    | [x, y], _ => exact ⟨x, y, rfl⟩
  have b0 := bt_seg (s := s) (a := a) (b := a + 2) (i := 0) (by omega)
  have b1 := bt_seg (s := s) (a := a) (b := a + 2) (i := 1) (by omega)
  rw [hxy] at b0 b1 ⊢
  rw [show a + 0 = a by omega] at b0
  rw [<- b0, <- b1]
  have c0 : bt [x, y] 0 = x.toNat := rfl
  have c1 : bt [x, y] 1 = y.toNat := rfl
  rw [c0, c1]
  have k : ∀ (z w : UInt8), (((z.toNat : Nat) : Int) == ((w.toNat : Nat) : Int)) = (z == w) := fun z w => by
    rw [Bool.eq_iff_iff, beq_iff_eq, beq_iff_eq]
    exact ⟨fun h => VV (by omega), fun h => by rw [h]⟩
  rw [show (60 : Int) = (((60 : UInt8).toNat : Nat) : Int) from rfl, show (47 : Int) = (((47 : UInt8).toNat : Nat) : Int) from rfl, k, k]
  simp only [List.cons_beq_cons, List.nil_beq_eq, Bool.and_true, List.isEmpty_nil]
def c49 : SFun := ⟨.seq (.reg [o 6 (.mv (.c (.bool false)))]) (.seq (.reg [o 8 (.mv (.t 1)), o 9 (.bin .add (.t 8) (.c (.int .i64 2))), o 10 (.mv (.t 2)), o 11 (.lenS (.t 10)), o 12 (.bin .add (.t 9) (.t 11)), o 7 (.mv (.t 12))]) (.seq (.reg [o 13 (.mv (.t 7)), o 14 (.mv (.t 0)), o 15 (.fldA 0 (.t 14)), o 16 (.fldA 0 (.t 15)), o 17 (.ld 1 false (.t 16)), o 18 (.lenS (.t 17)), o 19 (.bin .lss (.t 13) (.t 18)), o 20 (.mv (.t 19)), ⟨some 21, .mv (.t 0), some (20, true)⟩, ⟨some 22, .fldA 0 (.t 21), some (20, true)⟩, ⟨some 23, .fldA 0 (.t 22), some (20, true)⟩, ⟨some 24, .ld 1 false (.t 23), some (20, true)⟩, ⟨some 25, .mv (.t 1), some (20, true)⟩, ⟨some 26, .mv (.t 1), some (20, true)⟩, ⟨some 27, .bin .add (.t 26) (.c (.int .i64 2)), some (20, true)⟩, ⟨some 28, .slS (.t 24) (some (.t 25)) (some (.t 27)), some (20, true)⟩, ⟨some 29, .bin .eql (.t 28) (.c (.str [60, 47])), some (20, true)⟩, o 30 (.pick (.t 20) (.t 29) (.c (.bool false))), o 31 (.mv (.t 30)), ⟨some 32, .mv (.t 0), some (31, true)⟩, ⟨some 33, .fldA 0 (.t 32), some (31, true)⟩, ⟨some 34, .fldA 0 (.t 33), some (31, true)⟩, ⟨some 35, .ld 1 false (.t 34), some (31, true)⟩, ⟨some 36, .mv (.t 1), some (31, true)⟩, ⟨some 37, .bin .add (.t 36) (.c (.int .i64 2)), some (31, true)⟩, ⟨some 38, .mv (.t 7), some (31, true)⟩, ⟨some 39, .slS (.t 35) (some (.t 37)) (some (.t 38)), some (31, true)⟩, ⟨some 40, .mv (.t 2), some (31, true)⟩, ⟨some 41, .pcall 67 [.t 39, .t 40], some (31, true)⟩, o 42 (.pick (.t 31) (.t 41) (.c (.bool false))), o 43 (.mv (.t 42)), ⟨some 44, .mv (.t 0), some (43, true)⟩, ⟨some 45, .fldA 0 (.t 44), some (43, true)⟩, ⟨some 46, .fldA 0 (.t 45), some (43, true)⟩, ⟨some 47, .ld 1 false (.t 46), some (43, true)⟩, ⟨some 48, .mv (.t 7), some (43, true)⟩, ⟨some 49, .idxS (.t 47) (.t 48), some (43, true)⟩, ⟨some 50, .pcall 68 [.t 49], some (43, true)⟩, ⟨some 51, .mv (.t 50), some (43, true)⟩, ⟨some 52, .mv (.t 0), some (51, false)⟩, ⟨some 53, .fldA 0 (.t 52), some (51, false)⟩, ⟨some 54, .fldA 0 (.t 53), some (51, false)⟩, ⟨some 55, .ld 1 false (.t 54), some (51, false)⟩, ⟨some 56, .mv (.t 7), some (51, false)⟩, ⟨some 57, .idxS (.t 55) (.t 56), some (51, false)⟩, ⟨some 58, .bin .eql (.t 57) (.c (.int .u8 47)), some (51, false)⟩, ⟨some 59, .pick (.t 51) (.c (.bool true)) (.t 58), some (43, true)⟩, ⟨some 60, .mv (.t 59), some (43, true)⟩, ⟨some 61, .mv (.t 0), some (60, false)⟩, ⟨some 62, .fldA 0 (.t 61), some (60, false)⟩, ⟨some 63, .fldA 0 (.t 62), some (60, false)⟩, ⟨some 64, .ld 1 false (.t 63), some (60, false)⟩, ⟨some 65, .mv (.t 7), some (60, false)⟩, ⟨some 66, .idxS (.t 64) (.t 65), some (60, false)⟩, ⟨some 67, .bin .eql (.t 66) (.c (.int .u8 62)), some (60, false)⟩, ⟨some 68, .pick (.t 60) (.c (.bool true)) (.t 67), some (43, true)⟩, o 69 (.pick (.t 43) (.t 68) (.c (.bool false))), o 6 (.mv (.t 69))]) .ret)), [.tmp 6]⟩
theorem hc49 : Y5 Tryz.prog {pure := [67, 68]} Tryz.f49 = some c49 := by kernel_rfl
theorem tokCloses_ok (hE : EqF G) {h : Q2} {rb : Nat} {s nm : List UInt8} {a p en : Nat} {out : AVal} (hr : h rb = some (rdO s a en out)) (hp : p < s.length) (hs : s.length <= 4000000) (hn : foldW nm = true) (hl : nm.length <= 4000000) :
    DCalls (Pg G) 49 [.vp rb 0, Q3 p, .str nm] h fun r h' => r = .bool (X8 s p nm) /\ h' = h := by
  unfold rdO at hr
  unfold X8
  by_cases hlt : p + 2 + nm.length < s.length
  · obtain ⟨b, hb⟩ : ∃ b, s.getD (p + 2 + nm.length) 0 = b := ⟨_, rfl⟩
    have eb : bt s (p + 2 + nm.length) = b.toNat := by unfold bt; rw [hb]
    have cB := ZQ (G := G) b
    have cE := hE (seg s (p + 2) (p + 2 + nm.length)) nm (by rw [TK (by omega)]; omega) hn (by have := YY s (p + 2) (p + 2 + nm.length); omega)
    rw [stand_seg (by omega)] at cE
    have h2 := seg_two (s := s) (a := p) (by omega)
    rw [decide_eq_true hlt, Bool.true_and, stand_cons (by decide) (by rw [List.length_cons]; omega), stand_cons (by decide) (by omega), eb, <- Bool.and_assoc]
    have e60 : ((bt s p == ((60 : UInt8).toNat : Int)) && (bt s (p + 1) == ((47 : UInt8).toNat : Int))) = (seg s p (p + 2) == [60, 47]) := h2.symm
    rw [e60]
    obtain ⟨x, hx⟩ : ∃ x, (seg s p (p + 2) == [60, 47]) = x := ⟨_, rfl⟩
    obtain ⟨y, hy⟩ : ∃ y, Z7 s (p + 1 + 1) nm = y := ⟨_, rfl⟩
    rw [hx, hy]
    have hy' : Z7 s (p + 2) nm = y := hy
    rw [hy'] at cE
    unfold seg at cE hx
    refine Q1 Tryz.func49 (by kernel_rfl) hc49 (by rw [Tryz.ntmps49]; simp) (by rw [Tryz.ntmps49]; decide) ?_
    simp -dsimp -implicitDefEqProofs (disch := omega) only [↓Q0 20, VCA, Nat.reduceEqDiff, Nat.reduceAdd, Nat.reduceLT, Nat.reduceLeDiff, ↓reduceIte, reduceCtorEq, exists_eq_left', c49, hr]
    have t1 : ((p : Int) + 2).toNat = p + 2 := by omega
    have t2 : ((p : Int) + 2 + (nm.length : Int)).toNat = p + 2 + nm.length := by omega
    repeat' (first | ((with_reducible refine brC (fun _ => ?_) fun _ => ?_) <;> try (exfalso; omega)) | (with_reducible apply pcallE.of; · exact cE) | (with_reducible apply pcallE.of; · exact cB) | (with_reducible refine And.intro ?_ ?_; · omega) | simp -dsimp -implicitDefEqProofs (disch := omega) only [↓Q0 31, ↓Q0 43, ↓Q0 51, ↓Q0 60, VCA, Nat.reduceEqDiff, Nat.reduceAdd, Nat.reduceLT, Nat.reduceLeDiff, ↓reduceIte, reduceCtorEq, exists_eq_right_right, exists_eq_left', hr, hx, hb, t1, t2])
    all_goals refine ⟨Sub.refl _, ?_⟩
    all_goals first | (unfold Z9; simp_all; done) | trace_state
  · rw [decide_eq_false hlt]
    refine Q1 Tryz.func49 (by kernel_rfl) hc49 (by rw [Tryz.ntmps49]; simp) (by rw [Tryz.ntmps49]; decide) ?_
    simp -dsimp -implicitDefEqProofs (disch := omega) only [↓Q0 20, VCA, Nat.reduceEqDiff, Nat.reduceAdd, Nat.reduceLT, Nat.reduceLeDiff, ↓reduceIte, reduceCtorEq, exists_eq_left', c49, hr]
    repeat' (first | ((with_reducible refine brC (fun _ => ?_) fun _ => ?_) <;> try (exfalso; omega)) | (with_reducible refine And.intro ?_ ?_; · omega) | simp -dsimp -implicitDefEqProofs (disch := omega) only [↓Q0 31, ↓Q0 43, ↓Q0 51, ↓Q0 60, VCA, Nat.reduceEqDiff, ↓reduceIte, exists_eq_right_right])
    exact ⟨Sub.refl _, rfl⟩
theorem runeAt_is (l : List UInt8) (p : Nat) (hp : p < l.length) :
    (bt l p < 128 -> YJ l p = ((bt l p).toNat, 1)) /\ (128 <= bt l p -> (YJ l p = (65533, 1)) \/ (2 <= (YJ l p).2 /\ 128 <= (YJ l p).1)) /\ 1 <= (YJ l p).2 /\ p + (YJ l p).2 <= l.length := by
  have hb : ((⟨l.toArray⟩ : ByteArray).get! (p + 0)).toNat = (bt l p).toNat := by
    show (l.toArray.getD (p + 0) default).toNat = _
    unfold bt
    simp [Array.getD_eq_getD_getElem?, List.getD_eq_getElem?_getD]
    rfl
  have hs : (⟨l.toArray⟩ : ByteArray).size = l.length := rfl
  have h0 : 0 <= bt l p := by unfold bt; omega
  unfold YJ Utf8.decode
  simp only [hb, hs, Utf8.runeError]
  generalize ((⟨l.toArray⟩ : ByteArray).get! (p + 1)).toNat = b1
  generalize ((⟨l.toArray⟩ : ByteArray).get! (p + 2)).toNat = b2
  generalize ((⟨l.toArray⟩ : ByteArray).get! (p + 3)).toNat = b3
  simp only [Bool.and_eq_true, decide_eq_true_eq, beq_iff_eq]
  (repeat' split) <;> (refine ⟨fun h => ?_, fun h => ?_, ?_, ?_⟩) <;> first | omega | rfl | (simp only; omega) | (left; rfl) | (right; constructor <;> (simp only; omega)) | (exfalso; omega) | trace_state
theorem decR_ok (s : List UInt8) (x : UInt8) (h0 : s[0]? = some x) (hx : x.toNat < 128) : PCalls (Pg G) 84 [.str s] (.tup [.int .i32 x.toNat, Q3 1]) := by
  refine PCalls.ofRun ⟨_, Tryz.func84, by kernel_rfl, by kernel_rfl⟩ fun g w vs GR V => ?_
  obtain ⟨u, rfl, hu⟩ := V.one_inv
  rw [hu.str_inv']
  refine (Tryz.utf8_DecodeRuneInString_ascii ⟨⟨s⟩⟩ x w h0 hx).mono fun e w' ⟨he, hw⟩ => ⟨_, he, hw, ?_⟩
  refine .tup _ _ rfl fun j u a hu ha => ?_
  match j with
  | 0 => simp at hu ha; subst hu ha; exact .int _ _
  | 1 => simp at hu ha; subst hu ha; exact .int _ _
  | j + 2 => simp at hu
def foldI (c : Nat) : Int := if c = 75 then 107 else if c = 83 then 115 else if c = 107 then 8490 else if c = 115 then 383 else if 65 <= c /\ c <= 90 then c + 32 else if 97 <= c /\ c <= 122 then (c : Int) - 32 else c
def foldA : List AVal := (List.range 128).map fun c => .int .u16 (foldI c)
def eOrb (x : Nat × Nat) : List AVal := [.int .u16 x.1, .int .u16 x.2]
structure OrbT (l : List (Nat × Nat)) : Prop where
  len : l.length <= 1000
  ten : 10 < l.length
  at10 : nth l 10 = (383, 83)
  lt : ∀ j, j < 10 -> (nth l j).1 < 383
  ge : ∀ j, 10 <= j -> j < l.length -> 383 <= (nth l j).1
  le : ∀ j, j < l.length -> (nth l j).1 < 65536
structure CaseOK (G : JU) : Prop where
  fold : G 1 = .pin foldA
  orb : ∃ l, G 2 = .pin [.slc (l.map eOrb)] /\ OrbT l
def c85 : SFun := ⟨.seq (.reg [o 2 (.mv (.c (.int .i32 0)))]) (.seq (.seq (.reg [o 8 (.mv (.t 0)), o 9 (.bin .lss (.t 8) (.c (.int .i32 0))), o 10 (.mv (.t 9)), ⟨some 11, .mv (.t 0), some (10, false)⟩, ⟨some 12, .bin .gtr (.t 11) (.c (.int .i32 1114111)), some (10, false)⟩, o 13 (.pick (.t 10) (.c (.bool true)) (.t 12))]) (.cond (.t 13) (.seq (.reg [o 14 (.mv (.t 0)), o 2 (.mv (.t 14))]) .ret) .skip)) (.seq (.seq (.reg [o 15 (.mv (.t 0)), o 16 (.cvi .i64 (.t 15)), o 17 (.bin .lss (.t 16) (.c (.int .i64 128)))]) (.cond (.t 17) (.seq (.reg [o 18 (.mv (.t 0)), o 19 (.idxG 128 (.t 1000001) (.t 18)), o 20 (.ld 1 false (.t 19)), o 21 (.cvi .i32 (.t 20)), o 2 (.mv (.t 21))]) .ret) .skip)) (.seq (.reg [o 3 (.mv (.c (.int .i64 0)))]) (.seq (.reg [o 22 (.ld 1 false (.t 1000002)), o 23 (.len (.t 22)), o 4 (.mv (.t 23))]) (.seq (.block 0 (.loop (.seq (.seq (.reg [o 24 (.mv (.t 3)), o 25 (.mv (.t 4)), o 26 (.bin .lss (.t 24) (.t 25))]) (.cond (.t 26) .skip (.exit 0))) (.block 1 (.seq (.reg [o 27 (.mv (.t 3)), o 28 (.mv (.t 4)), o 29 (.bin .add (.t 27) (.t 28)), o 30 (.cvi .u64 (.t 29)), o 31 (.bin .shr (.t 30) (.c (.int .u64 1))), o 32 (.cvi .i64 (.t 31)), o 5 (.mv (.t 32))]) (.seq (.reg [o 33 (.ld 1 false (.t 1000002)), o 34 (.mv (.t 5)), o 35 (.idxA 2 (.t 33) (.t 34)), o 36 (.fldA 0 (.t 35)), o 37 (.ld 1 false (.t 36)), o 38 (.cvi .i32 (.t 37)), o 39 (.mv (.t 0)), o 40 (.bin .lss (.t 38) (.t 39))]) (.cond (.t 40) (.reg [o 41 (.mv (.t 5)), o 42 (.bin .add (.t 41) (.c (.int .i64 1))), o 3 (.mv (.t 42))]) (.reg [o 43 (.mv (.t 5)), o 4 (.mv (.t 43))])))))))) (.seq (.seq (.reg [o 44 (.mv (.t 3)), o 45 (.ld 1 false (.t 1000002)), o 46 (.len (.t 45)), o 47 (.bin .lss (.t 44) (.t 46)), o 48 (.mv (.t 47)), ⟨some 49, .ld 1 false (.t 1000002), some (48, true)⟩, ⟨some 50, .mv (.t 3), some (48, true)⟩, ⟨some 51, .idxA 2 (.t 49) (.t 50), some (48, true)⟩, ⟨some 52, .fldA 0 (.t 51), some (48, true)⟩, ⟨some 53, .ld 1 false (.t 52), some (48, true)⟩, ⟨some 54, .cvi .i32 (.t 53), some (48, true)⟩, ⟨some 55, .mv (.t 0), some (48, true)⟩, ⟨some 56, .bin .eql (.t 54) (.t 55), some (48, true)⟩, o 57 (.pick (.t 48) (.t 56) (.c (.bool false)))]) (.cond (.t 57) (.seq (.reg [o 58 (.ld 1 false (.t 1000002)), o 59 (.mv (.t 3)), o 60 (.idxA 2 (.t 58) (.t 59)), o 61 (.fldA 1 (.t 60)), o 62 (.ld 1 false (.t 61)), o 63 (.cvi .i32 (.t 62)), o 2 (.mv (.t 63))]) .ret) .skip)) (.seq (.seq (.reg [o 64 (.mv (.t 0)), o 65 (.ld 1 false (.t 1000003)), o 66 (.call (.c (.fn 107 [] [])) [.t 64, .t 65]), o 6 (.mv (.t 66))]) (.seq (.reg [o 67 (.mv (.t 6)), o 68 (.isnil 1 true (.t 67))]) (.cond (.t 68) (.seq (.seq (.reg [o 69 (.mv (.t 0)), o 70 (.mv (.t 6)), o 71 (.call (.c (.fn 108 [] [])) [.c (.int .i64 1), .t 69, .t 70]), o 7 (.mv (.t 71))]) (.seq (.reg [o 72 (.mv (.t 7)), o 73 (.mv (.t 0)), o 74 (.bin .neq (.t 72) (.t 73))]) (.cond (.t 74) (.seq (.reg [o 75 (.mv (.t 7)), o 2 (.mv (.t 75))]) .ret) .skip))) (.seq (.reg [o 76 (.mv (.t 0)), o 77 (.mv (.t 6)), o 78 (.call (.c (.fn 108 [] [])) [.c (.int .i64 0), .t 76, .t 77]), o 2 (.mv (.t 78))]) .ret)) .skip))) (.seq (.reg [o 79 (.mv (.t 0)), o 2 (.mv (.t 79))]) .ret)))))))), [.tmp 2]⟩
theorem hc85 : Y5 Tryz.prog {} Tryz.f85 = some c85 := by kernel_rfl
theorem simpleFold_ok (hC : CaseOK G) (c : Nat) (hc : c < 128) : PCalls (Pg G) 85 [.int .i32 c] (.int .i32 (foldI c)) := fun h => by
  have hF := hC.fold
  have hd : (foldA.drop c).headD .dead = .int .u16 (foldI c) := by
    unfold foldA; rw [List.headD_eq_head?_getD, List.head?_drop, List.getElem?_map, List.getElem?_range hc]; rfl
  have hl : 1 <= (foldA.drop c).length := by rw [List.length_drop]; unfold foldA; rw [List.length_map, List.length_range]; omega
  have hw : IntKind.i32.wrap (foldI c) = foldI c := by
    unfold foldI
    (repeat' split) <;> (simp only [IntKind.wrap_i32]; omega)
  refine Q1 Tryz.func85 (by kernel_rfl) hc85 (by rw [Tryz.ntmps85]; simp) (by rw [Tryz.ntmps85]; decide) ?_
  simp -dsimp -implicitDefEqProofs (disch := omega) only [↓Q0 10, VCA, ↓reduceIte, reduceCtorEq, c85]
  repeat' (first | ((with_reducible refine brC (fun _ => ?_) fun _ => ?_) <;> try (exfalso; omega)) | (with_reducible refine And.intro ?_ ?_; · omega) | simp -dsimp -implicitDefEqProofs (disch := omega) only [VCA, Nat.reduceEqDiff, Nat.reduceSub, ↓reduceIte, reduceCtorEq, exists_eq_right, hF, hd, hl, hw])
  exact Sub.refl _
theorem simpleFold_long (hC : CaseOK G) : PCalls (Pg G) 85 [.int .i32 383] (.int .i32 83) := fun h => by
  have hF := hC.fold
  obtain ⟨l, hO, T⟩ := hC.orb
  have hlen := T.len
  have hten := T.ten
  refine Q1 Tryz.func85 (by kernel_rfl) hc85 (by rw [Tryz.ntmps85]; simp) (by rw [Tryz.ntmps85]; decide) ?_
  simp -dsimp -implicitDefEqProofs (disch := omega) only [↓Q0 10, VCA, ↓reduceIte, reduceCtorEq, c85]
  repeat' (first | ((with_reducible refine brC (fun _ => ?_) fun _ => ?_) <;> try (exfalso; omega)) | (with_reducible refine And.intro ?_ ?_; · omega) | simp -dsimp -implicitDefEqProofs (disch := omega) only [VCA, Nat.reduceEqDiff, Nat.reduceSub, ↓reduceIte, reduceCtorEq, hO])
  refine LoopVC.intro (fun m e h' => ∃ a b : Nat, a <= 10 /\ 10 <= b /\ b <= l.length /\ m = b - a /\ e 0 = .int .i32 383 /\ e 3 = Q3 a /\ e 4 = Q3 b /\ e 1000002 = .pin [.slc (l.map eOrb)] /\ h' = h) l.length
    (by exact ⟨0, l.length, by omega, by omega, by omega, by omega, rfl, rfl, rfl, by first | exact hO | rfl, rfl⟩) ?_
  rintro m e h' ⟨a, b, ha, hb, hbl, rfl, e0, e3, e4, eO, hh⟩
  by_cases hlt : a < b
  · obtain ⟨k, hk⟩ : ∃ k : Nat, (a + b) / 2 = k := ⟨_, rfl⟩
    have hkl : k < l.length := by omega
    have hat : (l.map eOrb).getD k [] = eOrb (nth l k) := ZY hkl
    have t1 := T.lt k
    have t2 := T.ge k
    have t3 := T.le k hkl
    obtain ⟨x, hx⟩ : ∃ x, nth l k = x := ⟨_, rfl⟩
    rw [hx] at hat t1 t2 t3
    have hat : (l.map eOrb).getD k [] = [.int .u16 x.1, .int .u16 x.2] := hat
    have hm : IntKind.i64.wrap ((IntKind.u64.wrap ((a : Int) + (b : Int))).fdiv (2 ^ min (Int.toNat 1) IntKind.u64.bits)) = (k : Int) := by
      have e1 : (2 : Int) ^ min (Int.toNat 1) IntKind.u64.bits = 2 := rfl
      have e2 : IntKind.u64.wrap ((a : Int) + (b : Int)) = (a : Int) + (b : Int) := by simp only [IntKind.wrap_u64]; omega
      rw [e1, e2, Int.fdiv_eq_ediv_of_nonneg _ (by omega)]
      simp only [IntKind.wrap_i64]
      omega
    have hkt : ((k : Nat) : Int).toNat = k := by omega
    have hi : IntKind.i32.wrap (x.1 : Int) = x.1 := by simp only [IntKind.wrap_i32]; omega
    repeat' (first | ((with_reducible refine brC (fun _ => ?_) fun _ => ?_) <;> try (exfalso; omega)) | (with_reducible refine And.intro ?_ ?_; · omega) | simp -dsimp -implicitDefEqProofs (disch := omega) only [VCA, Nat.reduceEqDiff, Nat.reduceAdd, Nat.reduceLeDiff, ↓reduceIte, reduceCtorEq, e0, e3, e4, eO, hm, hkt, hat, hi])
    all_goals first
      | exact ⟨_, by omega, k + 1, b, by omega, by omega, by omega, rfl, by omega, by omega, hh⟩
      | exact ⟨_, by omega, a, k, by omega, by omega, by omega, rfl, by omega, by omega, hh⟩
      | trace_state
  · obtain rfl : a = 10 := by omega
    have hat : (l.map eOrb).getD 10 [] = eOrb (nth l 10) := ZY hten
    have hx : eOrb (nth l 10) = [.int .u16 383, .int .u16 83] := by rw [T.at10]; rfl
    have k1 : ((10 : Nat) : Int).toNat = 10 := rfl
    have k2 : IntKind.i32.wrap 383 = 383 := rfl
    have k3 : IntKind.i32.wrap 83 = 83 := rfl
    repeat' (first | ((with_reducible refine brC (fun _ => ?_) fun _ => ?_) <;> try (exfalso; omega)) | (with_reducible refine And.intro ?_ ?_; · omega) | simp -dsimp -implicitDefEqProofs (disch := omega) only [↓Q0 48, VCA, Nat.reduceEqDiff, Nat.reduceAdd, Nat.reduceLeDiff, ↓reduceIte, reduceCtorEq, exists_eq_right, e0, e3, e4, eO, hx, k1, k2, k3])
    all_goals first | exact ⟨by rw [hh]; exact Sub.refl _, rfl⟩ | (rw [hh]; exact Sub.refl _) | trace_state
def FoldC (x : Nat) : Prop := (97 <= x /\ x <= 122 /\ x ≠ 107) \/ x = 33 \/ x = 47 \/ x = 60
theorem foldW_at {w : List UInt8} (h : foldW w = true) {i : Nat} (hi : i < w.length) : FoldC (w.getD i 0).toNat := by
  unfold foldW at h
  have hm : w.getD i 0 ∈ w := by rw [List.getD_eq_getElem?_getD, List.getElem?_eq_getElem hi]; exact List.getElem_mem hi
  have := List.all_eq_true.1 h _ hm
  simp only [Bool.or_eq_true, Bool.and_eq_true, decide_eq_true_eq, bne_iff_ne, beq_iff_eq] at this
  unfold FoldC
  rcases this with ⟨h1, h2, h3⟩ | h | h | h
  · left; exact ⟨h1, h2, fun q => h3 (UInt8.toNat_inj.1 q)⟩
  · rw [h]; right; left; rfl
  · rw [h]; right; right; left; rfl
  · rw [h]; right; right; right; rfl
theorem or_low : ∀ a b : UInt8, a.toNat < 128 -> b.toNat < 128 -> T3 .or .u8 (a.toNat : Int) (b.toNat : Int) < 128 := by
  intro a b ha hb
  have h1 : ∀ x : Nat, x < 128 -> ∀ y : Nat, y < 128 -> T3 .or .u8 (x : Int) (y : Int) < 128 := by decide +kernel
  exact h1 _ ha _ hb
theorem or_high : ∀ a b : UInt8, 128 <= a.toNat -> b.toNat < 128 -> 128 <= T3 .or .u8 (a.toNat : Int) (b.toNat : Int) := by
  intro a b ha hb
  have h1 : ∀ x : Nat, x < 128 -> ∀ y : Nat, y < 128 -> 128 <= T3 .or .u8 ((x + 128 : Nat) : Int) (y : Int) := by decide +kernel
  have := h1 (a.toNat - 128) (by have := a.toNat_lt; omega) _ hb
  rwa [show a.toNat - 128 + 128 = a.toNat by omega] at this
theorem stand_zero (s w : List UInt8) (h : s.length = w.length) : Z7 s 0 w = (List.range w.length).all fun i => ZW (bt s i) == bt w i := by
  unfold Z7
  rw [decide_eq_true (by omega), Bool.true_and]
  exact all_congr' fun i _ => by rw [Nat.zero_add]
theorem stand_no {s w : List UInt8} (h : s.length = w.length) {j : Nat} (hj : j < w.length) (hne : ZW (bt s j) ≠ bt w j) : Z7 s 0 w = false := by
  rw [stand_zero s w h, List.all_eq_false]
  exact ⟨j, List.mem_range.2 hj, by simpa using hne⟩
theorem stand_yes {s w : List UInt8} (h : s.length = w.length) (hall : ∀ j, j < w.length -> ZW (bt s j) = bt w j) : Z7 s 0 w = true := by
  rw [stand_zero s w h, List.all_eq_true]
  exact fun j hj => by simpa using hall j (List.mem_range.1 hj)
def c67 : SFun := ⟨.seq (.reg [o 4 (.mv (.c (.bool false)))]) (.scope 0 (.seq (.reg [o 5 (.mv (.c (.int .i64 0)))]) (.seq (.seq (.reg [o 14 (.mv (.t 0)), o 15 (.lenS (.t 14)), o 16 (.mv (.t 1)), o 17 (.lenS (.t 16)), o 18 (.min2 (.t 15) (.t 17)), o 6 (.mv (.t 18))]) (.block 0 (.loop (.seq (.seq (.reg [o 19 (.mv (.t 5)), o 20 (.mv (.t 6)), o 21 (.bin .lss (.t 19) (.t 20))]) (.cond (.t 21) .skip (.exit 0))) (.seq (.block 1 (.seq (.reg [o 24 (.mv (.t 0)), o 25 (.mv (.t 5)), o 26 (.idxS (.t 24) (.t 25)), o 7 (.mv (.t 26))]) (.seq (.reg [o 27 (.mv (.t 1)), o 28 (.mv (.t 5)), o 29 (.idxS (.t 27) (.t 28)), o 8 (.mv (.t 29))]) (.seq (.seq (.reg [o 30 (.mv (.t 7)), o 31 (.mv (.t 8)), o 32 (.bin .or (.t 30) (.t 31)), o 33 (.bin .geq (.t 32) (.c (.int .u8 128)))]) (.cond (.t 33) (.goto 0) .skip)) (.seq (.seq (.reg [o 34 (.mv (.t 8)), o 35 (.mv (.t 7)), o 36 (.bin .eql (.t 34) (.t 35))]) (.cond (.t 36) (.exit 1) .skip)) (.seq (.seq (.reg [o 37 (.mv (.t 8)), o 38 (.mv (.t 7)), o 39 (.bin .lss (.t 37) (.t 38))]) (.cond (.t 39) (.reg [o 40 (.mv (.t 7)), o 41 (.mv (.t 8)), o 8 (.mv (.t 40)), o 7 (.mv (.t 41))]) .skip)) (.seq (.seq (.reg [o 42 (.mv (.t 7)), o 43 (.bin .leq (.c (.int .u8 65)) (.t 42)), o 44 (.mv (.t 43)), ⟨some 45, .mv (.t 7), some (44, true)⟩, ⟨some 46, .bin .leq (.t 45) (.c (.int .u8 90)), some (44, true)⟩, o 47 (.pick (.t 44) (.t 46) (.c (.bool false))), o 48 (.mv (.t 47)), ⟨some 49, .mv (.t 8), some (48, true)⟩, ⟨some 50, .mv (.t 7), some (48, true)⟩, ⟨some 51, .bin .add (.t 50) (.c (.int .u8 97)), some (48, true)⟩, ⟨some 52, .bin .sub (.t 51) (.c (.int .u8 65)), some (48, true)⟩, ⟨some 53, .bin .eql (.t 49) (.t 52), some (48, true)⟩, o 54 (.pick (.t 48) (.t 53) (.c (.bool false)))]) (.cond (.t 54) (.exit 1) .skip)) (.seq (.reg [o 4 (.mv (.c (.bool false)))]) .ret)))))))) (.reg [o 22 (.mv (.t 5)), o 23 (.bin .add (.t 22) (.c (.int .i64 1))), o 5 (.mv (.t 23))])))))) (.seq (.seq (.reg [o 55 (.mv (.t 0)), o 56 (.lenS (.t 55)), o 57 (.mv (.t 1)), o 58 (.lenS (.t 57)), o 59 (.bin .eql (.t 56) (.t 58)), o 4 (.mv (.t 59))]) .ret) (.seq (.label 0) (.seq (.reg [o 60 (.mv (.t 0)), o 61 (.mv (.t 5)), o 62 (.slS (.t 60) (some (.t 61)) none), o 0 (.mv (.t 62))]) (.seq (.reg [o 63 (.mv (.t 1)), o 64 (.mv (.t 5)), o 65 (.slS (.t 63) (some (.t 64)) none), o 1 (.mv (.t 65))]) (.seq (.seq (.reg [o 66 (.mv (.t 0)), o 67 (.rng (.t 66))]) (.block 2 (.loop (.seq (.reg [o 68 (.nxt (.t 67)), o 69 (.ext (.t 68) 0)]) (.seq (.cond (.t 69) .skip (.exit 2)) (.block 3 (.seq (.reg [o 70 (.ext (.t 68) 2), o 10 (.mv (.t 70))]) (.seq (.seq (.reg [o 71 (.mv (.t 1)), o 72 (.lenS (.t 71)), o 73 (.bin .eql (.t 72) (.c (.int .i64 0)))]) (.cond (.t 73) (.seq (.reg [o 4 (.mv (.c (.bool false)))]) .ret) .skip)) (.seq (.reg [o 75 (.mv (.t 1)), o 76 (.pcall 84 [.t 75]), o 74 (.mv (.t 76)), o 77 (.ext (.t 74) 0), o 78 (.ext (.t 74) 1), o 11 (.mv (.t 77)), o 12 (.mv (.t 78))]) (.seq (.reg [o 79 (.mv (.t 1)), o 80 (.mv (.t 12)), o 81 (.slS (.t 79) (some (.t 80)) none), o 1 (.mv (.t 81))]) (.seq (.seq (.reg [o 82 (.mv (.t 11)), o 83 (.mv (.t 10)), o 84 (.bin .eql (.t 82) (.t 83))]) (.cond (.t 84) (.exit 3) .skip)) (.seq (.seq (.reg [o 85 (.mv (.t 11)), o 86 (.mv (.t 10)), o 87 (.bin .lss (.t 85) (.t 86))]) (.cond (.t 87) (.reg [o 88 (.mv (.t 10)), o 89 (.mv (.t 11)), o 11 (.mv (.t 88)), o 10 (.mv (.t 89))]) .skip)) (.seq (.seq (.reg [o 90 (.mv (.t 11)), o 91 (.bin .lss (.t 90) (.c (.int .i32 128)))]) (.cond (.t 91) (.seq (.seq (.reg [o 92 (.mv (.t 10)), o 93 (.bin .leq (.c (.int .i32 65)) (.t 92)), o 94 (.mv (.t 93)), ⟨some 95, .mv (.t 10), some (94, true)⟩, ⟨some 96, .bin .leq (.t 95) (.c (.int .i32 90)), some (94, true)⟩, o 97 (.pick (.t 94) (.t 96) (.c (.bool false))), o 98 (.mv (.t 97)), ⟨some 99, .mv (.t 11), some (98, true)⟩, ⟨some 100, .mv (.t 10), some (98, true)⟩, ⟨some 101, .bin .add (.t 100) (.c (.int .i32 97)), some (98, true)⟩, ⟨some 102, .bin .sub (.t 101) (.c (.int .i32 65)), some (98, true)⟩, ⟨some 103, .bin .eql (.t 99) (.t 102), some (98, true)⟩, o 104 (.pick (.t 98) (.t 103) (.c (.bool false)))]) (.cond (.t 104) (.exit 3) .skip)) (.seq (.reg [o 4 (.mv (.c (.bool false)))]) .ret)) .skip)) (.seq (.reg [o 105 (.mv (.t 10)), o 106 (.pcall 85 [.t 105]), o 13 (.mv (.t 106))]) (.seq (.block 4 (.loop (.seq (.seq (.reg [o 107 (.mv (.t 13)), o 108 (.mv (.t 10)), o 109 (.bin .neq (.t 107) (.t 108)), o 110 (.mv (.t 109)), ⟨some 111, .mv (.t 13), some (110, true)⟩, ⟨some 112, .mv (.t 11), some (110, true)⟩, ⟨some 113, .bin .lss (.t 111) (.t 112), some (110, true)⟩, o 114 (.pick (.t 110) (.t 113) (.c (.bool false)))]) (.cond (.t 114) .skip (.exit 4))) (.block 5 (.reg [o 115 (.mv (.t 13)), o 116 (.pcall 85 [.t 115]), o 13 (.mv (.t 116))]))))) (.seq (.seq (.reg [o 117 (.mv (.t 13)), o 118 (.mv (.t 11)), o 119 (.bin .eql (.t 117) (.t 118))]) (.cond (.t 119) (.exit 3) .skip)) (.seq (.reg [o 4 (.mv (.c (.bool false)))]) .ret))))))))))))))))) (.seq (.reg [o 120 (.mv (.t 1)), o 121 (.lenS (.t 120)), o 122 (.bin .eql (.t 121) (.c (.int .i64 0))), o 4 (.mv (.t 122))]) .ret)))))))) (.seq .skip (.seq (.reg [o 60 (.mv (.t 0)), o 61 (.mv (.t 5)), o 62 (.slS (.t 60) (some (.t 61)) none), o 0 (.mv (.t 62))]) (.seq (.reg [o 63 (.mv (.t 1)), o 64 (.mv (.t 5)), o 65 (.slS (.t 63) (some (.t 64)) none), o 1 (.mv (.t 65))]) (.seq (.seq (.reg [o 66 (.mv (.t 0)), o 67 (.rng (.t 66))]) (.block 2 (.loop (.seq (.reg [o 68 (.nxt (.t 67)), o 69 (.ext (.t 68) 0)]) (.seq (.cond (.t 69) .skip (.exit 2)) (.block 3 (.seq (.reg [o 70 (.ext (.t 68) 2), o 10 (.mv (.t 70))]) (.seq (.seq (.reg [o 71 (.mv (.t 1)), o 72 (.lenS (.t 71)), o 73 (.bin .eql (.t 72) (.c (.int .i64 0)))]) (.cond (.t 73) (.seq (.reg [o 4 (.mv (.c (.bool false)))]) .ret) .skip)) (.seq (.reg [o 75 (.mv (.t 1)), o 76 (.pcall 84 [.t 75]), o 74 (.mv (.t 76)), o 77 (.ext (.t 74) 0), o 78 (.ext (.t 74) 1), o 11 (.mv (.t 77)), o 12 (.mv (.t 78))]) (.seq (.reg [o 79 (.mv (.t 1)), o 80 (.mv (.t 12)), o 81 (.slS (.t 79) (some (.t 80)) none), o 1 (.mv (.t 81))]) (.seq (.seq (.reg [o 82 (.mv (.t 11)), o 83 (.mv (.t 10)), o 84 (.bin .eql (.t 82) (.t 83))]) (.cond (.t 84) (.exit 3) .skip)) (.seq (.seq (.reg [o 85 (.mv (.t 11)), o 86 (.mv (.t 10)), o 87 (.bin .lss (.t 85) (.t 86))]) (.cond (.t 87) (.reg [o 88 (.mv (.t 10)), o 89 (.mv (.t 11)), o 11 (.mv (.t 88)), o 10 (.mv (.t 89))]) .skip)) (.seq (.seq (.reg [o 90 (.mv (.t 11)), o 91 (.bin .lss (.t 90) (.c (.int .i32 128)))]) (.cond (.t 91) (.seq (.seq (.reg [o 92 (.mv (.t 10)), o 93 (.bin .leq (.c (.int .i32 65)) (.t 92)), o 94 (.mv (.t 93)), ⟨some 95, .mv (.t 10), some (94, true)⟩, ⟨some 96, .bin .leq (.t 95) (.c (.int .i32 90)), some (94, true)⟩, o 97 (.pick (.t 94) (.t 96) (.c (.bool false))), o 98 (.mv (.t 97)), ⟨some 99, .mv (.t 11), some (98, true)⟩, ⟨some 100, .mv (.t 10), some (98, true)⟩, ⟨some 101, .bin .add (.t 100) (.c (.int .i32 97)), some (98, true)⟩, ⟨some 102, .bin .sub (.t 101) (.c (.int .i32 65)), some (98, true)⟩, ⟨some 103, .bin .eql (.t 99) (.t 102), some (98, true)⟩, o 104 (.pick (.t 98) (.t 103) (.c (.bool false)))]) (.cond (.t 104) (.exit 3) .skip)) (.seq (.reg [o 4 (.mv (.c (.bool false)))]) .ret)) .skip)) (.seq (.reg [o 105 (.mv (.t 10)), o 106 (.pcall 85 [.t 105]), o 13 (.mv (.t 106))]) (.seq (.block 4 (.loop (.seq (.seq (.reg [o 107 (.mv (.t 13)), o 108 (.mv (.t 10)), o 109 (.bin .neq (.t 107) (.t 108)), o 110 (.mv (.t 109)), ⟨some 111, .mv (.t 13), some (110, true)⟩, ⟨some 112, .mv (.t 11), some (110, true)⟩, ⟨some 113, .bin .lss (.t 111) (.t 112), some (110, true)⟩, o 114 (.pick (.t 110) (.t 113) (.c (.bool false)))]) (.cond (.t 114) .skip (.exit 4))) (.block 5 (.reg [o 115 (.mv (.t 13)), o 116 (.pcall 85 [.t 115]), o 13 (.mv (.t 116))]))))) (.seq (.seq (.reg [o 117 (.mv (.t 13)), o 118 (.mv (.t 11)), o 119 (.bin .eql (.t 117) (.t 118))]) (.cond (.t 119) (.exit 3) .skip)) (.seq (.reg [o 4 (.mv (.c (.bool false)))]) .ret))))))))))))))))) (.seq (.reg [o 120 (.mv (.t 1)), o 121 (.lenS (.t 120)), o 122 (.bin .eql (.t 121) (.c (.int .i64 0))), o 4 (.mv (.t 122))]) .ret)))))), [.tmp 4]⟩
theorem hc67 : Y5 Tryz.prog {pure := [84, 85], mp := [67]} Tryz.f67 = some c67 := by kernel_rfl
theorem eqF_ok (hC : CaseOK G) : EqF G := fun s w hl hw hs h => by
  have hmin : min (s.length : Int) (w.length : Int) = s.length := by omega
  refine Q1 Tryz.func67 (by kernel_rfl) hc67 (by rw [Tryz.ntmps67]; simp) (by rw [Tryz.ntmps67]; decide) ?_
  simp -dsimp -implicitDefEqProofs (disch := omega) only [VCA, Nat.reduceEqDiff, ↓reduceIte, reduceCtorEq, c67, hmin]
  refine LoopVC.intro (fun m e h' => ∃ j : Nat, j <= s.length /\ m = s.length - j /\ e 0 = .str s /\ e 1 = .str w /\ e 5 = Q3 j /\ e 6 = Q3 s.length /\ h' = h /\ ∀ i, i < j -> ZW (bt s i) = bt w i) s.length
    (by exact ⟨0, by omega, by omega, rfl, rfl, rfl, rfl, rfl, fun i hi => by omega⟩) ?_
  rintro m e h' ⟨j, hj, rfl, e0, e1, e5, e6, rfl, hall⟩
  by_cases hlt : j < s.length
  · obtain ⟨a, ha⟩ : ∃ a, s.getD j 0 = a := ⟨_, rfl⟩
    obtain ⟨b, hb⟩ : ∃ b, w.getD j 0 = b := ⟨_, rfl⟩
    have fb := foldW_at hw (show j < w.length by omega)
    rw [hb] at fb
    have ba : bt s j = a.toNat := by unfold bt; rw [ha]
    have bb : bt w j = b.toNat := by unfold bt; rw [hb]
    have b128 : b.toNat < 128 := by unfold FoldC at fb; omega
    have al := a.toNat_lt
    by_cases h128 : a.toNat < 128
    · have ho := or_low a b h128 b128
      generalize hoo : T3 .or .u8 (a.toNat : Int) (b.toNat : Int) = o at *
      have next : ZW (bt s j) = bt w j -> ∀ i, i < j + 1 -> ZW (bt s i) = bt w i := fun q i hi => by
        by_cases e : i = j
        · rw [e]; exact q
        · exact hall i (by omega)
      have no : ZW (bt s j) ≠ bt w j -> Z7 s 0 w = false := stand_no hl (by omega)
      have hlow : ZW (bt s j) = if 65 <= (a.toNat : Int) /\ (a.toNat : Int) <= 90 then (a.toNat : Int) + 32 else a.toNat := by rw [ba]; rfl
      rw [hlow, bb] at next no
      unfold FoldC at fb
      have w1 : ∀ x : Int, 0 <= x -> x < 128 -> IntKind.u8.wrap (IntKind.u8.wrap (x + 97) - 65) = x + 32 := fun x h1 h2 => by simp only [IntKind.wrap_u8]; omega
      repeat' (first | ((with_reducible refine brC (fun _ => ?_) fun _ => ?_) <;> try (exfalso; omega)) | (with_reducible refine And.intro ?_ ?_; · omega) | simp -dsimp -implicitDefEqProofs (disch := omega) only [↓Q0 44, ↓Q0 48, VCA, Nat.reduceEqDiff, ↓reduceIte, reduceCtorEq, exists_eq_right_right, e0, e1, e5, e6, ha, hb, hoo, w1 a.toNat (by omega) (by omega)])
      all_goals first
        | exact ⟨_, by omega, j + 1, by omega, rfl, by omega, next (by split <;> omega)⟩
        | exact ⟨Sub.refl _, (no (by split <;> omega)).symm⟩
        | (exfalso; omega)
        | trace_state
    · have ho := or_high a b (by omega) b128
      generalize hoo : T3 .or .u8 (a.toNat : Int) (b.toNat : Int) = o at *
      have hno : Z7 s 0 w = false := stand_no hl (show j < w.length by omega) (by rw [ba, bb]; unfold ZW; rw [if_neg (by omega)]; omega)
      rw [hno]
      repeat' (first | ((with_reducible refine brC (fun _ => ?_) fun _ => ?_) <;> try (exfalso; omega)) | (with_reducible refine And.intro ?_ ?_; · omega) | simp -dsimp -implicitDefEqProofs (disch := omega) only [VCA, Nat.reduceEqDiff, ↓reduceIte, reduceCtorEq, e0, e1, e5, e6, ha, hb, hoo])
      intro r hr
      obtain ⟨L, hL⟩ : ∃ L, s.length - j = L := ⟨_, rfl⟩
      have dl : (s.drop j).length = L := by rw [List.length_drop]; exact hL
      have ba0 : bt (s.drop j) 0 = a.toNat := by
        unfold bt; rw [List.getD_eq_getElem?_getD, List.getElem?_drop, Nat.add_zero, <- List.getD_eq_getElem?_getD, ha]
      refine LoopVC.intro (fun m e h'' => ∃ k p : Nat, p <= L /\ m = L - p /\ (k = 0 /\ p = 0 \/ 1 <= k /\ k < p) /\ e 1 = .str (w.drop (j + k)) /\ e 67 = .ptr r 0 0 /\ h'' = upd h' r (some (itO (s.drop j) p))) L
        (by exact ⟨0, 0, by omega, by omega, .inl ⟨rfl, rfl⟩, rfl, rfl, rfl⟩) ?_
      clear e0 e1 e5 e6
      rintro m e h'' ⟨k, p, hp, rfl, hkp, e1, e67, rfl⟩
      have hit : upd h' r (some (itO (s.drop j) p)) r = some (itO (s.drop j) p) := Z1 _ _ _
      by_cases hpl : p < L
      · obtain ⟨x, hx⟩ : ∃ x, w.getD (j + k) 0 = x := ⟨_, rfl⟩
        have fx := foldW_at hw (show j + k < w.length by omega)
        rw [hx] at fx
        have x128 : x.toNat < 128 := by unfold FoldC at fx; omega
        have cD := decR_ok (G := G) (w.drop (j + k)) x (by rw [List.getElem?_drop, Nat.add_zero, List.getElem?_eq_getElem (by omega), <- hx, List.getD_eq_getElem?_getD, List.getElem?_eq_getElem (by omega)]; rfl) x128
        have hrn := runeAt_is (s.drop j) p (by omega)
        obtain ⟨q, hq⟩ : ∃ q, YJ (s.drop j) p = q := ⟨_, rfl⟩
        rw [hq, dl] at hrn
        have wl : (w.drop (j + k)).length = L - k := by rw [List.length_drop]; omega
        have q2 := hrn.2.2.1
        have q3 := hrn.2.2.2
        have kb : (((L - k : Nat) : Int) == 0) = false := by rw [beq_eq_false_iff_ne]; omega
        have w2 : ∀ x : Int, 0 <= x -> x < 128 -> IntKind.i32.wrap (IntKind.i32.wrap (x + 97) - 65) = x + 32 := fun x h1 h2 => by simp only [IntKind.wrap_i32]; omega
        have d1 : List.drop (Int.toNat 1) (List.take (L - k) (w.drop (j + k))) = w.drop (j + (k + 1)) := by rw [List.take_of_length_le (by omega), List.drop_drop]; rfl
        have kq : k = 0 -> 128 <= q.1 := fun hk => by
          rcases hkp with ⟨_, h2⟩ | ⟨h1, _⟩
          · have := hrn.2.1 (by rw [h2, ba0]; omega)
            rcases this with h3 | h3
            · rw [h3]; decide
            · exact h3.2
          · omega
        repeat' (first | ((with_reducible refine brC (fun _ => ?_) fun _ => ?_) <;> try (exfalso; omega)) | (with_reducible refine And.intro ?_ ?_; · omega) | simp -dsimp -implicitDefEqProofs (disch := omega) only [VCA, Nat.reduceEqDiff, Nat.reduceAdd, Nat.reduceLT, ↓reduceIte, exists_eq_right_right, e1, e67])
        refine ⟨_, _, rfl, fun _ => ?_, fun hge => absurd hge (by omega)⟩
        by_cases hq128 : q.1 < 128
        · have w3 := w2 q.1 (by omega) (by omega)
          have w4 := w2 x.toNat (by omega) (by omega)
          repeat' (first | ((with_reducible refine brC (fun _ => ?_) fun _ => ?_) <;> try (exfalso; omega)) | (with_reducible apply pcallE.of; · exact cD) | (with_reducible refine And.intro ?_ ?_; · omega) | simp -dsimp -implicitDefEqProofs (disch := omega) only [↓Q0 94, ↓Q0 98, VCA, Nat.reduceEqDiff, Nat.reduceAdd, Nat.reduceLT, ↓reduceIte, exists_eq_right, e1, e67, hq, kb, wl, d1, w3, w4])
          all_goals first
            | exact (Sub.refl _).upd hr
            | exact ⟨_, by omega, k + 1, p + q.2, by omega, rfl, .inr ⟨by omega, by omega⟩, by first | exact d1 | rfl, rfl⟩
            | exact ⟨_, by omega, k + 1, p + q.2, by omega, rfl, .inr ⟨by omega, by omega⟩, by first | exact d1 | rfl, by rw [YV]⟩
            | (exfalso; omega)
            | trace_state
        · have cX := simpleFold_ok (G := G) hC x.toNat x128
          have n1 : ((x.toNat : Int) == (q.1 : Int)) = false := by rw [beq_eq_false_iff_ne]; omega
          have n2 : decide ((x.toNat : Int) < (q.1 : Int)) = true := decide_eq_true (by omega)
          have n3 : decide ((q.1 : Int) < 128) = false := decide_eq_false (by omega)
          have cL := simpleFold_long (G := G) hC
          have cS := simpleFold_ok (G := G) hC 83 (by omega)
          have cS : PCalls (Pg G) 85 [.int .i32 83] (.int .i32 115) := cS
          repeat' (first | ((with_reducible refine brC (fun _ => ?_) fun _ => ?_) <;> try (exfalso; omega)) | (with_reducible apply pcallE.of; · exact cD) | (with_reducible apply pcallE.of; · exact cX) | (with_reducible refine And.intro ?_ ?_; · omega) | simp -dsimp -implicitDefEqProofs (disch := omega) only [VCA, Nat.reduceEqDiff, Nat.reduceAdd, Nat.reduceLT, ↓reduceIte, e1, hq, kb, wl, d1, n1, n2, n3])
          refine LoopVC.intro (fun m e h'' => ∃ v : Int, e 1 = .str (w.drop (j + (k + 1))) /\ e 67 = .ptr r 0 0 /\ e 10 = .int .i32 x.toNat /\ e 11 = .int .i32 q.1 /\ e 13 = .int .i32 v /\ h'' = upd h' r (some (itO (s.drop j) (p + q.2))) /\
              ((x.toNat = 115 /\ (m = 3 /\ v = 383 \/ m = 2 /\ v = 83 \/ m = 1 /\ v = 115)) \/ (x.toNat ≠ 115 /\ 97 <= x.toNat /\ (m = 2 /\ v = (x.toNat : Int) - 32 \/ m = 1 /\ v = x.toNat)) \/ (x.toNat < 97 /\ m = 1 /\ v = x.toNat))) (if x.toNat = 115 then 3 else if 97 <= x.toNat then 2 else 1)
            (by
              refine ⟨foldI x.toNat, ?_, e67, rfl, rfl, rfl, rfl, ?_⟩
              · first | rfl | exact congrArg AVal.str d1
              · unfold FoldC at fx
                unfold foldI
                (repeat' split) <;> omega) ?_
          clear e1 e67
          rintro m e h'' ⟨v, e1, e67, e10, e11, e13, rfl, hv⟩
          unfold FoldC at fx
          have n4 : ∀ u : Int, u < 128 -> (u == (q.1 : Int)) = false := fun u hu => by rw [beq_eq_false_iff_ne]; omega
          by_cases hvx : v = x.toNat
          · have b1 : (v != (x.toNat : Int)) = false := by rw [hvx]; simp
            have b2 := n4 v (by omega)
            repeat' (first | ((with_reducible refine brC (fun _ => ?_) fun _ => ?_) <;> try (exfalso; omega)) | (with_reducible refine And.intro ?_ ?_; · omega) | simp -dsimp -implicitDefEqProofs (disch := omega) only [↓Q0 110, VCA, Nat.reduceEqDiff, ↓reduceIte, ne_eq, exists_eq_right, e10, e11, e13, b1, b2])
            exact (Sub.refl _).upd hr
          · have b1 : (v != (x.toNat : Int)) = true := by rw [bne_iff_ne]; exact hvx
            have q83 : q.1 = 383 -> 2 <= q.2 := fun h3 => by
              by_cases hb1 : bt (s.drop j) p < 128
              · rw [hrn.1 hb1] at h3; simp only at h3; omega
              · rcases hrn.2.1 (by omega) with h4 | h4
                · rw [h4] at h3; cases h3
                · exact h4.1
            by_cases hvq : v < (q.1 : Int)
            · have b3 : decide (v < (q.1 : Int)) = true := decide_eq_true hvq
              rcases hv with ⟨hx5, hv⟩ | ⟨hx5, hx97, hv⟩ | ⟨hx97, hv⟩
              · rcases hv with ⟨rfl, rfl⟩ | ⟨rfl, rfl⟩ | ⟨rfl, rfl⟩
                · repeat' (first | ((with_reducible refine brC (fun _ => ?_) fun _ => ?_) <;> try (exfalso; omega)) | (with_reducible apply pcallE.of; · exact cL) | (with_reducible refine And.intro ?_ ?_; · omega) | simp -dsimp -implicitDefEqProofs (disch := omega) only [↓Q0 110, VCA, Nat.reduceEqDiff, ↓reduceIte, ne_eq, exists_eq_left', e1, e67, e10, e11, e13, b1, b3])
                  exact ⟨2, by omega, by omega⟩
                · repeat' (first | ((with_reducible refine brC (fun _ => ?_) fun _ => ?_) <;> try (exfalso; omega)) | (with_reducible apply pcallE.of; · exact cS) | (with_reducible refine And.intro ?_ ?_; · omega) | simp -dsimp -implicitDefEqProofs (disch := omega) only [↓Q0 110, VCA, Nat.reduceEqDiff, ↓reduceIte, ne_eq, exists_eq_left', e1, e67, e10, e11, e13, b1, b3])
                  exact ⟨1, by omega, by omega⟩
                · exact absurd (by omega) hvx
              · rcases hv with ⟨rfl, rfl⟩ | ⟨rfl, rfl⟩
                · have cU := simpleFold_ok (G := G) hC (x.toNat - 32) (by omega)
                  have u1 : ((x.toNat - 32 : Nat) : Int) = (x.toNat : Int) - 32 := by omega
                  have u2 : foldI (x.toNat - 32) = x.toNat := by unfold foldI; (repeat' split) <;> omega
                  rw [u1, u2] at cU
                  repeat' (first | ((with_reducible refine brC (fun _ => ?_) fun _ => ?_) <;> try (exfalso; omega)) | (with_reducible apply pcallE.of; · exact cU) | (with_reducible refine And.intro ?_ ?_; · omega) | simp -dsimp -implicitDefEqProofs (disch := omega) only [↓Q0 110, VCA, Nat.reduceEqDiff, ↓reduceIte, ne_eq, exists_eq_left', e1, e67, e10, e11, e13, b1, b3])
                  exact ⟨1, by omega, by omega⟩
                · exact absurd rfl hvx
              · exact absurd hv.2 hvx
            · have b3 : decide (v < (q.1 : Int)) = false := decide_eq_false hvq
              by_cases hve : v = q.1
              · have b4 : (v == (q.1 : Int)) = true := by rw [beq_iff_eq]; exact hve
                have q5 := q83 (by omega)
                repeat' (first | ((with_reducible refine brC (fun _ => ?_) fun _ => ?_) <;> try (exfalso; omega)) | (with_reducible refine And.intro ?_ ?_; · omega) | simp -dsimp -implicitDefEqProofs (disch := omega) only [↓Q0 110, VCA, Nat.reduceEqDiff, ↓reduceIte, ne_eq, e1, e67, e10, e11, e13, b1, b3, b4])
                exact ⟨_, by omega, k + 1, p + q.2, by omega, rfl, .inr ⟨by omega, by omega⟩, rfl, rfl⟩
              · have b4 : (v == (q.1 : Int)) = false := by rw [beq_eq_false_iff_ne]; exact hve
                repeat' (first | ((with_reducible refine brC (fun _ => ?_) fun _ => ?_) <;> try (exfalso; omega)) | (with_reducible refine And.intro ?_ ?_; · omega) | simp -dsimp -implicitDefEqProofs (disch := omega) only [↓Q0 110, VCA, Nat.reduceEqDiff, ↓reduceIte, ne_eq, exists_eq_right, e10, e11, e13, b1, b3, b4])
                exact (Sub.refl _).upd hr
      · have kb : ((((w.drop (j + k)).length : Nat) : Int) == 0) = false := by rw [beq_eq_false_iff_ne, List.length_drop]; omega
        repeat' (first | ((with_reducible refine brC (fun _ => ?_) fun _ => ?_) <;> try (exfalso; omega)) | (with_reducible refine And.intro ?_ ?_; · omega) | simp -dsimp -implicitDefEqProofs (disch := omega) only [VCA, Nat.reduceEqDiff, Nat.reduceAdd, Nat.reduceLT, ↓reduceIte, exists_eq_right_right, e1, e67])
        refine ⟨_, _, rfl, fun hge => absurd hge (by omega), fun _ => ?_⟩
        repeat' (first | ((with_reducible refine brC (fun _ => ?_) fun _ => ?_) <;> try (exfalso; omega)) | (with_reducible refine And.intro ?_ ?_; · omega) | simp -dsimp -implicitDefEqProofs (disch := omega) only [VCA, kb])
        exact (Sub.refl _).upd hr
  · have hy : Z7 s 0 w = true := stand_yes hl fun i hi => hall i (by omega)
    rw [hy]
    repeat' (first | ((with_reducible refine brC (fun _ => ?_) fun _ => ?_) <;> try (exfalso; omega)) | (with_reducible refine And.intro ?_ ?_; · omega) | simp -dsimp -implicitDefEqProofs (disch := omega) only [VCA, Nat.reduceEqDiff, ↓reduceIte, reduceCtorEq, exists_eq_right_right, e0, e1, e5, e6])
    all_goals first | exact ⟨Sub.refl _, by rw [hl]; simp⟩ | exact Sub.refl _ | (exfalso; omega) | trace_state
end Go.Proofs.K
end
section
set_option linter.unusedSimpArgs false
set_option linter.unusedVariables false
namespace Go.Proofs.YtbgdedopafgbeaaGreatDoor
open Go Go.Sim Go.Proofs Go.Proofs.K Go.ChangeShapes Go.WideShapes Go.ChangeAt Go.RowKit Go.Shelf Go.Lib
def orbL : List (Nat × Nat) := (rowsD Rows.laid_unicode_caseOrbit).map fun r => match r with
  | [.int _ a, .int _ b] => (a.toNat, b.toNat)
  | _ => (0, 0)
def laid5 : List (String × DataW Unit) := [("unicode/utf8.acceptRanges", Rows.laid_unicode_utf8_acceptRanges), ("unicode.asciiFold", Rows.laid_unicode_asciiFold), ("unicode.caseOrbit", Rows.laid_unicode_caseOrbit), ("unicode.CaseRanges", Rows.laid_unicode_CaseRanges), ("unicode/utf8.first", Rows.laid_unicode_utf8_first)]
theorem fold_eq : (Rows.laid_unicode_asciiFold : DataW Unit) = tabData .u16 ((List.range 128).map foldI) := by kernel_rfl
theorem orb_eq : (Rows.laid_unicode_caseOrbit : DataW Unit) = .slice (orbL.map fun x => .agg ([(x.1 : Int), (x.2 : Int)].map fun z => .lit (.int .u16 z))) [] := by kernel_rfl
def orbOK (l : List (Nat × Nat)) : Bool := decide (l.length <= 1000) && (decide (10 < l.length) && (decide (nth l 10 = (383, 83)) && ((l.take 10).all (fun x => decide (x.1 < 383)) && ((l.drop 10).all (fun x => decide (383 <= x.1)) && l.all (fun x => decide (x.1 < 65536))))))
theorem orb_ok : orbOK orbL = true := by kernel_rfl
theorem orbT : OrbT orbL := by
  have h := orb_ok
  unfold orbOK at h
  simp only [Bool.and_eq_true, decide_eq_true_eq, List.all_eq_true] at h
  obtain ⟨h1, h2, h3, h4, h5, h6⟩ := h
  refine ⟨h1, h2, h3, fun j hj => h4 _ ?_, fun j hj hl => h5 _ ?_, fun j hl => h6 _ (W6 hl)⟩
  · exact List.mem_iff_getElem?.2 ⟨j, by rw [List.getElem?_take, if_pos hj]; exact V8 (by omega)⟩
  · exact List.mem_iff_getElem?.2 ⟨j - 10, by rw [List.getElem?_drop, show 10 + (j - 10) = j by omega]; exact V8 hl⟩
theorem slice_pairs {w : World} {base fuel : Nat} {sp : Nat -> Bool} {held : Bool} {t e : TypeId} {fs : Array Field} {cs : List Value} {l : List (Nat × Nat)} {p : List MemPlace}
    (ht : Tryz.prog.underlying t = some (.slice e)) (he : Tryz.prog.underlying e = some (.struct fs)) (hf : ∀ (i : Nat) (f : Field), fs[i]? = some f -> Tryz.prog.underlying f.type = some (.int .u16) /\ f.offset = i /\ Tryz.prog.cellsOf f.type = 1)
    (hs : fs.size = 2) (hc : Tryz.prog.cellsOf e = 2) (hl : l ≠ [])
    (h : DataW.trod (fun _ => ()) Tryz.prog w base sp held fuel t cs = some (.slice (l.map fun x => .agg ([(x.1 : Int), (x.2 : Int)].map fun z => .lit (.int .u16 z))) [], p)) :
    ∃ v, cs = [v] /\ v.oneCell' = true /\ VRel (Sim.g0 w) w v (.slc (l.map eOrb)) := by
  rcases DataW.trod_slice ht h with ⟨_, h2⟩ | ⟨ad, len, cap, elems, rest, n, rfl, rfl, hx, hb, hcap, _, hlen, hel, _, _⟩
  · cases h2
  · have hx := congrArg Prod.fst hx
    simp only [DataW.slice.injEq] at hx
    obtain ⟨hx, _⟩ := hx
    have hll : l.length = len := by have q := congrArg List.length hx; simp only [List.length_map] at q; omega
    have each : ∀ i x, l[i]? = some x -> ∃ cs', w.cells? base (ad.add (i * 2)) 2 = some cs' /\ cs' = [(x.1 : Int), (x.2 : Int)].map fun z => Value.int .u16 z := by
      intro i x hix
      have hi : i < len := by have := (List.getElem?_eq_some_iff.1 hix).1; omega
      have hi' : i < elems.length := by omega
      have h1 := hel i hi
      rw [List.getElem?_eq_getElem hi', hc, Option.bind_eq_some_iff] at h1
      obtain ⟨cs', h2, h3⟩ := h1
      have hd : elems[i].1 = .agg ([(x.1 : Int), (x.2 : Int)].map fun z => .lit (.int .u16 z)) := by
        have q := congrArg (·[i]?) hx
        simp only [List.getElem?_map, hix, List.getElem?_eq_getElem hi', Option.map_some, Option.some.injEq] at q
        exact q.symm
      have h4 : DataW.trod (fun _ => ()) Tryz.prog w base sp held n e cs' = some (.agg ([(x.1 : Int), (x.2 : Int)].map fun z => .lit (.int .u16 z)), elems[i].2) := by rw [h3, <- hd]
      exact ⟨cs', h2, ints_of_struct he hf (by rw [hc, hs]) h4⟩
    refine ⟨_, rfl, rfl, ?_⟩
    have cell : ∀ (i j : Nat) (f : List AVal) (y : AVal), (l.map eOrb)[i]? = some f -> f[j]? = some y -> ∃ u, w.cell? (ad.add (i * 2 + j)) = some u /\ u.oneCell' = true /\ VRel (Sim.g0 w) w u y := by
      intro i j f y hfi hy
      rw [List.getElem?_map, Option.map_eq_some_iff] at hfi
      obtain ⟨x, hx', rfl⟩ := hfi
      obtain ⟨cs', q1, q2⟩ := each i x hx'
      obtain ⟨_, q3, q4⟩ := World.cells?_some q1
      have hj : j < 2 := (List.getElem?_eq_some_iff.1 hy).1
      have q5 := q4 j hj
      rw [Addr.add_add', q2] at q5
      match j, hj with
      | 0, _ => cases hy; exact ⟨_, q5, rfl, .int _ _⟩
      | 1, _ => cases hy; exact ⟨_, q5, rfl, .int _ _⟩
    obtain ⟨a0, l', rfl⟩ := List.exists_cons_of_ne_nil hl
    obtain ⟨u, hu, _, _⟩ := cell 0 0 _ _ rfl rfl
    have hspot : ad.spot = none := by
      have := World.cell?_spot hu
      simpa [Addr.add] using this
    have hblk : ad.block < w.heap.size := by
      have hh : w.cell? ad = some u := by simpa [Addr.add] using hu
      unfold World.cell? at hh
      split at hh
      · rename_i c _ _ hc
        exact (Array.getElem?_eq_some_iff.1 hc).1
      · cases hh
    have key := VRel.slc_mk (g := Sim.g0 w) (w := w) (ad := ad) (c := cap) (sz := 2) (es := (a0 :: l').map eOrb) (by simp only [List.length_map]; omega) (fun f hf => by obtain ⟨a, _, rfl⟩ := List.mem_map.1 hf; rfl) hspot hblk cell
    rw [List.length_map, hll] at key
    exact key
noncomputable def GT5 (m : Int) : JU := fun b => if b = 0 then .pin [Q3 m] else if b = 1 then .pin foldA else if b = 2 then .pin [.slc (orbL.map eOrb)] else .dead
theorem GT5_max (m : Int) : ∃ m', GT5 m 0 = .pin [Q3 m'] := ⟨m, if_pos rfl⟩
theorem GT5_case (m : Int) : CaseOK (GT5 m) := ⟨rfl, orbL, rfl, orbT⟩
theorem GT5_rel {W : World} (hsh : W.ShapedOpen Tryz.prog) (hL : laidMetH Tryz.prog laid5 W) : ∃ m, GRel (Pg (GT5 m)).gl (Sim.g0 W) W := by
  obtain ⟨m, hm⟩ := Go.Proofs.cell_of_shapedOpen_int (g := 0) (t := 3) (zero := #[.int .i64 0]) (k := .i64) hsh (by decide +kernel) (by kernel_rfl) rfl (by kernel_rfl) (by kernel_rfl) Tryz.underlying3
  rw [MakeChecks.laidMetH_plain _ _ _ (by kernel_rfl)] at hL
  have hF := laidMet.reads hL (n := "unicode.asciiFold") (d := Rows.laid_unicode_asciiFold) (by simp [laid5])
  have hO := laidMet.reads hL (n := "unicode.caseOrbit") (d := Rows.laid_unicode_caseOrbit) (by simp [laid5])
  rw [fold_eq] at hF
  rw [orb_eq] at hO
  have RF : VRel (Sim.g0 W) W (.pointer (some (⟨1, 0, none⟩ : Addr))) (.pin (intsA .u16 ((List.range 128).map foldI))) := by
    obtain ⟨g, t, cs, fuel, p, hg, hty, hvar, hd⟩ := hF
    obtain rfl : 1 = g := Option.some.inj ((by kernel_rfl : Tryz.prog.globalNamed "unicode.asciiFold" = some 1).symm.trans hg)
    obtain rfl : 132 = t := Option.some.inj ((by kernel_rfl : (Tryz.prog.globals[1]?).map (·.type) = some 132).symm.trans hty)
    have hcs := cells_of_tab Tryz.underlying132 Tryz.underlying131 (by kernel_rfl) (by kernel_rfl) hd
    refine vrel_ints (by simp) fun j x hj => ?_
    rw [World.var?_cell hg hvar j, <- Array.getElem?_toList, hcs, List.getElem?_map, hj]; rfl
  have RO : VRel (Sim.g0 W) W (.pointer (some (⟨2, 0, none⟩ : Addr))) (.pin [.slc (orbL.map eOrb)]) := by
    obtain ⟨g, t, cs, fuel, p, hg, hty, hvar, hd⟩ := hO
    obtain rfl : 2 = g := Option.some.inj ((by kernel_rfl : Tryz.prog.globalNamed "unicode.caseOrbit" = some 2).symm.trans hg)
    obtain rfl : 133 = t := Option.some.inj ((by kernel_rfl : (Tryz.prog.globals[2]?).map (·.type) = some 133).symm.trans hty)
    obtain ⟨v, hv, h1, h2⟩ := slice_pairs Tryz.underlying133 Tryz.underlying135 (fun j f hj => by
      match j, hj with
      | 0, hj => simp at hj; subst hj; exact ⟨Tryz.underlying131, rfl, by kernel_rfl⟩
      | 1, hj => simp at hj; subst hj; exact ⟨Tryz.underlying131, rfl, by kernel_rfl⟩
      | j + 2, hj => simp at hj) rfl (by kernel_rfl) (by decide +kernel) hd
    have hc0 : W.cell? ⟨2, 0, none⟩ = some v := by rw [World.var?_cell hg hvar 0, <- Array.getElem?_toList, hv]; rfl
    refine VRel.pin_mk rfl ?_ fun j a hj => ?_
    · show 2 < W.heap.size
      unfold World.cell? at hc0
      split at hc0
      · rename_i c _ _ hc
        exact (Array.getElem?_eq_some_iff.1 hc).1
      · cases hc0
    · match j, hj with
      | 0, hj => cases hj; exact ⟨v, hc0, h1, h2⟩
  refine ⟨m, fun b => ?_⟩
  show Dat (GT5 m b) /\ VRel _ _ _ (GT5 m b)
  unfold GT5
  split
  · rename_i h; subst h; exact ⟨.pin _ (fun c hc => by simp at hc; subst hc; exact .int _ _), VRel.pinInt hm⟩
  · split
    · rename_i h; subst h
      have e : foldA = intsA .u16 ((List.range 128).map foldI) := by unfold foldA intsA; rw [List.map_map]; rfl
      rw [e]; exact ⟨dat_ints _ _, RF⟩
    · split
      · rename_i h; subst h
        refine ⟨.pin _ (fun c hc => ?_), RO⟩
        simp only [List.mem_singleton] at hc; subst hc
        refine .slc _ fun f hf c hc => ?_
        obtain ⟨x, _, rfl⟩ := List.mem_map.1 hf
        unfold eOrb at hc
        simp only [List.mem_cons, List.not_mem_nil, or_false] at hc
        rcases hc with rfl | rfl <;> exact .int _ _
      · exact ⟨.dead, .dead _⟩
end Go.Proofs.YtbgdedopafgbeaaGreatDoor
end
