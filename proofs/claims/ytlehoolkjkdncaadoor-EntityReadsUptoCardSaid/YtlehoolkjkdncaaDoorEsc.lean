/- entity.Escape, the reference's EntityRead and EntityEscape, and the row of EntityReads. -/
import Derived.Test.YtlehoolkjkdncaaDoorEnj
import Derived.Test.YtlehoolkjkdncaaDoorTab
import Derived.Test.YtlehoolkjkdncaaDoorShelf
import Derived.Shelf.Strings.Replace
set_option linter.unusedSimpArgs false
set_option linter.unusedVariables false
namespace Go.Proofs.K
open Go Go.Sim Go.Proofs
variable {G : Glob}

def MaxOK (G : Glob) : Prop := ∃ m, G 2 = .pin [aInt m]
theorem replaceAll_ok (hG : MaxOK G) (s old new : List UInt8) (hs : s.length ≤ 1073741823) (h1 : 1 ≤ old.length) (h2 : new.length ≤ 100) : PCalls (Pg G) 30 [.str s, .str old, .str new] (.str (Lib.replaceAll s old new)) := by
  obtain ⟨m, hG⟩ := hG
  refine ofBelow ⟨_, Tryd.func30, by kernel_rfl, by kernel_rfl⟩ fun g w vs GR V => ?_
  obtain ⟨u, v, x, rfl, hu, hv, hx⟩ : ∃ u v x, vs = #[u, v, x] ∧ VRel g w u (.str s) ∧ VRel g w v (.str old) ∧ VRel g w x (.str new) := by
    obtain ⟨hs, hv⟩ := V
    obtain ⟨l⟩ := vs
    match l, hs with
    | [u, v, x], _ => exact ⟨u, v, x, rfl, hv 0 u _ rfl rfl, hv 1 v _ rfl rfl, hv 2 x _ rfl rfl⟩
  rw [hu.str_inv', hv.str_inv', hx.str_inv']
  have hc : Lib.countB ⟨⟨s⟩⟩ ⟨⟨old⟩⟩ ≤ s.length + 1 := Lib.count_le s old
  have hb : s.length + Lib.countB ⟨⟨s⟩⟩ ⟨⟨old⟩⟩ * new.length ≤ 140737488355328 := by
    have := Nat.mul_le_mul hc h2
    omega
  exact (Tryd.strings_ReplaceAll ⟨⟨s⟩⟩ ⟨⟨old⟩⟩ ⟨⟨new⟩⟩ m w (by show s.length < _; omega) (GR.int hG) h1 hb).mono fun e w' ⟨he, hw⟩ => ⟨_, he, hw, fun g w => VRel.str_mk g w _⟩

/-! ## what ReplaceAll makes, sign by sign -/
section
variable {old new : List UInt8}
def ra (old new s : List UInt8) : List UInt8 := Lib.replaceK old new (Lib.count s old) s
theorem ra_all (hne : old ≠ new) (s : List UInt8) : Lib.replaceAll s old new = ra old new s := by
  unfold Lib.replaceAll Lib.replace ra Lib.replaceNum
  rw [if_neg (by simpa using hne), if_pos (.inl (by decide))]
theorem ra_nil (ho : old ≠ []) : ra old new [] = [] := by
  have : Lib.index [] old = -1 := by unfold Lib.index; rw [if_neg (by cases old <;> simp_all)]
  unfold ra
  rw [Lib.count_miss this]
  rfl
theorem ra_pre (ho : old ≠ []) (t : List UInt8) : ra old new (old ++ t) = new ++ ra old new t := by
  have hi : Lib.index (old ++ t) old = ((0 : Nat) : Int) := by
    obtain ⟨c, r, rfl⟩ := List.exists_cons_of_ne_nil ho
    rw [List.cons_append]; unfold Lib.index
    rw [if_pos (by rw [List.isPrefixOf_iff_prefix]; exact ⟨t, rfl⟩)]; simp
  unfold ra
  rw [Lib.count_hit ho hi, Nat.add_comm 1, Lib.replaceK_hit _ _ _ _ 0 hi]
  simp
theorem ra_cons (ho : old ≠ []) (c : UInt8) (t : List UInt8) (h : old.isPrefixOf (c :: t) = false) : ra old new (c :: t) = c :: ra old new t := by
  have hx : Lib.index (c :: t) old = if Lib.index t old == -1 then -1 else Lib.index t old + 1 := by
    conv => lhs; unfold Lib.index
    rw [if_neg (by rw [h]; simp)]
  have hge := Lib.index_ge t old
  unfold ra
  by_cases hm : Lib.index t old = -1
  · rw [hm] at hx
    rw [Lib.count_miss hx, Lib.count_miss hm]
    rfl
  · obtain ⟨i, hi⟩ : ∃ i : Nat, Lib.index t old = i := ⟨(Lib.index t old).toNat, by omega⟩
    have hj : Lib.index (c :: t) old = ((i + 1 : Nat) : Int) := by rw [hx, hi, if_neg (by simp)]; rfl
    have e : i + 1 + old.length = (i + old.length) + 1 := by omega
    rw [Lib.count_hit ho hj, Lib.count_hit ho hi, Nat.add_comm 1, e, List.drop_succ_cons, Nat.add_comm 1, Lib.replaceK_hit _ _ _ _ _ hj, Lib.replaceK_hit _ _ _ _ _ hi, e, List.drop_succ_cons]
    simp
theorem ra_one (b : UInt8) (new s : List UInt8) : ra [b] new s = s.flatMap fun c => if c = b then new else [c] := by
  induction s with
  | nil => exact ra_nil (by simp)
  | cons c t ih =>
    by_cases h : c = b
    · subst h
      have := ra_pre (old := [c]) (new := new) (by simp) t
      rw [List.singleton_append] at this
      rw [this, List.flatMap_cons, if_pos rfl, ih]
    · have hp : ([b] : List UInt8).isPrefixOf (c :: t) = false := by simp [List.isPrefixOf]; exact fun e => h e.symm
      rw [ra_cons (by simp) c t hp, List.flatMap_cons, if_neg h, ih]; rfl
end
def ampS : List UInt8 := [38, 97, 109, 112, 59]
def nbspS : List UInt8 := [38, 110, 98, 115, 112, 59]
def quotS : List UInt8 := [38, 113, 117, 111, 116, 59]
def ltS : List UInt8 := [38, 108, 116, 59]
def gtS : List UInt8 := [38, 103, 116, 59]
def escC (attr : Bool) (c : UInt8) : List UInt8 := if c = 38 then ampS else if attr = true ∧ c = 34 then quotS else if attr = false ∧ c = 60 then ltS else if attr = false ∧ c = 62 then gtS else [c]
def escD (attr : Bool) (s : List UInt8) : List UInt8 :=
  match s with
  | [] => []
  | c :: t => if c = 194 ∧ t.head? = some 160 then nbspS ++ escD attr t.tail else escC attr c ++ escD attr t
termination_by s.length
decreasing_by
  · simp only [List.length_tail, List.length_cons]; omega
  · simp
theorem escD_nil (attr : Bool) : escD attr [] = [] := by unfold escD; rfl
theorem escD_nb (attr : Bool) (t : List UInt8) : escD attr (194 :: 160 :: t) = nbspS ++ escD attr t := by
  rw [escD]; rw [if_pos ⟨rfl, rfl⟩]; rfl
theorem escD_c (attr : Bool) (c : UInt8) (t : List UInt8) (h : ¬ (c = 194 ∧ t.head? = some 160)) : escD attr (c :: t) = escC attr c ++ escD attr t := by
  rw [escD]; rw [if_neg h]
def ampM (s : List UInt8) : List UInt8 := ra [38] ampS s
def lastM' (attr : Bool) (s : List UInt8) : List UInt8 := if attr = true then ra [34] quotS s else ra [62] gtS (ra [60] ltS s)
theorem last_app (attr : Bool) (a b : List UInt8) : lastM' attr (a ++ b) = lastM' attr a ++ lastM' attr b := by
  unfold lastM'; split <;> simp [ra_one]
theorem last_amp (attr : Bool) : lastM' attr ampS = ampS := by cases attr <;> (simp only [lastM', ra_one]; decide)
theorem last_nbsp (attr : Bool) : lastM' attr nbspS = nbspS := by cases attr <;> (simp only [lastM', ra_one]; decide)
theorem last_nil (attr : Bool) : lastM' attr [] = [] := by cases attr <;> (simp only [lastM', ra_one]; rfl)
theorem last_c (attr : Bool) (c : UInt8) (h : c ≠ 38) : lastM' attr [c] = escC attr c := by
  unfold escC
  rw [if_neg h]
  cases attr
  · simp only [lastM', ra_one, Bool.false_eq_true, if_false, false_and, true_and]
    by_cases h1 : c = 60
    · subst h1; decide
    · by_cases h2 : c = 62
      · subst h2; decide
      · simp [h1, h2]
  · simp only [lastM', ra_one, if_true, true_and]
    by_cases h1 : c = 34
    · subst h1; decide
    · simp [h1]
theorem amp_c (c : UInt8) (t : List UInt8) (h : c ≠ 38) : ampM (c :: t) = c :: ampM t := by simp [ampM, ra_one, h]
theorem amp_a (t : List UInt8) : ampM (38 :: t) = ampS ++ ampM t := by simp [ampM, ra_one]
theorem no194 (c : UInt8) (t : List UInt8) (h : c ≠ 194) : ([194, 160] : List UInt8).isPrefixOf (c :: t) = false := by
  simp only [List.isPrefixOf, Bool.and_eq_false_imp, beq_iff_eq]
  intro e; exact absurd e.symm h
theorem esc_eq (attr : Bool) : ∀ (n : Nat) (s : List UInt8), s.length ≤ n → lastM' attr (ra [194, 160] nbspS (ampM s)) = escD attr s := by
  intro n
  induction n with
  | zero =>
    intro s hs
    have : s = [] := List.eq_nil_of_length_eq_zero (by omega)
    subst this
    rw [escD_nil, show ampM [] = [] from rfl, ra_nil (by simp), last_nil]
  | succ n ih =>
    intro s hs
    cases s with
    | nil => rw [escD_nil, show ampM [] = [] from rfl, ra_nil (by simp), last_nil]
    | cons c t =>
      simp only [List.length_cons] at hs
      by_cases h0 : c = 194 ∧ t.head? = some 160
      · obtain ⟨rfl, h0⟩ := h0
        obtain ⟨u, rfl⟩ : ∃ u, t = 160 :: u := by
          cases t with
          | nil => simp at h0
          | cons x u => simp at h0; subst h0; exact ⟨u, rfl⟩
        simp only [List.length_cons] at hs
        rw [escD_nb, amp_c _ _ (by decide), amp_c _ _ (by decide)]
        have := ra_pre (old := [194, 160]) (new := nbspS) (by simp) (ampM u)
        rw [List.cons_append, List.singleton_append] at this
        rw [this, last_app, last_nbsp, ih u (by omega)]
      · rw [escD_c _ _ _ h0]
        by_cases h1 : c = 38
        · subst h1
          have e : escC attr 38 = ampS := if_pos rfl
          rw [amp_a, e, ← ih t (by omega)]
          have : ra [194, 160] nbspS (ampS ++ ampM t) = ampS ++ ra [194, 160] nbspS (ampM t) := by
            unfold ampS
            simp only [List.cons_append, List.nil_append]
            rw [ra_cons (by simp) _ _ (no194 _ _ (by decide)), ra_cons (by simp) _ _ (no194 _ _ (by decide)), ra_cons (by simp) _ _ (no194 _ _ (by decide)), ra_cons (by simp) _ _ (no194 _ _ (by decide)), ra_cons (by simp) _ _ (no194 _ _ (by decide))]
          rw [this, last_app, last_amp]
        · have hp : ([194, 160] : List UInt8).isPrefixOf (c :: ampM t) = false := by
            by_cases h2 : c = 194
            · subst h2
              cases t with
              | nil => rfl
              | cons x u =>
                have hx : x ≠ 160 := fun e => h0 ⟨rfl, by rw [e]; rfl⟩
                by_cases h3 : x = 38
                · subst h3; rw [amp_a]; rfl
                · rw [amp_c _ _ h3]
                  simp only [List.isPrefixOf, beq_self_eq_true, Bool.true_and, Bool.and_true]
                  rw [beq_eq_false_iff_ne]; exact fun e => hx e.symm
            · exact no194 _ _ h2
          rw [amp_c _ _ h1, ra_cons (by simp) _ _ hp, ← last_c attr c h1, ← ih t (by omega), ← last_app]
          rfl
theorem flat_len {f : UInt8 → List UInt8} {k : Nat} (h : ∀ c, (f c).length ≤ k) (s : List UInt8) : (s.flatMap f).length ≤ k * s.length := by
  induction s with
  | nil => simp
  | cons c t ih => have := h c; simp only [List.flatMap_cons, List.length_append, List.length_cons, Nat.mul_add]; omega
theorem ra_one_len (b : UInt8) (new s : List UInt8) (hn : 1 ≤ new.length) : (ra [b] new s).length ≤ new.length * s.length := by
  rw [ra_one]
  refine flat_len (fun c => ?_) s
  split
  · omega
  · simpa using hn
theorem ra_two_len (s : List UInt8) : ∀ n, s.length ≤ n → (ra [194, 160] nbspS s).length ≤ 6 * s.length := by
  intro n
  induction n generalizing s with
  | zero => intro hs; have : s = [] := List.eq_nil_of_length_eq_zero (by omega); subst this; rw [ra_nil (by simp)]; simp
  | succ n ih =>
    intro hs
    cases s with
    | nil => rw [ra_nil (by simp)]; simp
    | cons c t =>
      simp only [List.length_cons] at hs ⊢
      cases hp : ([194, 160] : List UInt8).isPrefixOf (c :: t) with
      | false =>
        rw [ra_cons (by simp) _ _ hp]
        have := ih t (by omega)
        simp only [List.length_cons]; omega
      | true =>
        rw [List.isPrefixOf_iff_prefix] at hp
        obtain ⟨u, hu⟩ := hp
        rw [← hu, ra_pre (by simp)]
        have hl := congrArg List.length hu
        simp only [List.length_append, List.length_cons, List.length_nil] at hl
        have := ih u (by omega)
        have e : nbspS.length = 6 := rfl
        simp only [List.length_append, e]; omega
def c17 : SFun := ⟨(.seq (.reg [⟨(some 4), (.mv (.c (.str []))), none⟩]) (.seq (.reg [⟨(some 5), (.mv (.t 0)), none⟩, ⟨(some 6), (.pcall 30 [(.t 5), (.c (.str [38])), (.c (.str [38, 97, 109, 112, 59]))]), none⟩, ⟨(some 0), (.mv (.t 6)), none⟩]) (.seq (.reg [⟨(some 7), (.mv (.t 0)), none⟩, ⟨(some 8), (.pcall 30 [(.t 7), (.c (.str [194, 160])), (.c (.str [38, 110, 98, 115, 112, 59]))]), none⟩, ⟨(some 0), (.mv (.t 8)), none⟩]) (.seq (.seq (.reg [⟨(some 9), (.mv (.t 1)), none⟩]) (.cond (.t 9) (.seq (.reg [⟨(some 10), (.mv (.t 0)), none⟩, ⟨(some 11), (.pcall 30 [(.t 10), (.c (.str [34])), (.c (.str [38, 113, 117, 111, 116, 59]))]), none⟩, ⟨(some 4), (.mv (.t 11)), none⟩]) .ret) .skip)) (.seq (.reg [⟨(some 12), (.mv (.t 0)), none⟩, ⟨(some 13), (.pcall 30 [(.t 12), (.c (.str [60])), (.c (.str [38, 108, 116, 59]))]), none⟩, ⟨(some 14), (.pcall 30 [(.t 13), (.c (.str [62])), (.c (.str [38, 103, 116, 59]))]), none⟩, ⟨(some 4), (.mv (.t 14)), none⟩]) .ret))))), [(.tmp 4)]⟩
theorem hc17 : toSF Tryd.prog {pure := [30]} Tryd.f17 = some c17 := by kernel_rfl
theorem hn17 : (Tryd.f17.name == "runtime.NumGoroutine") = false := by kernel_rfl
theorem escape_ok (hG : MaxOK G) (s : List UInt8) (attr : Bool) (hs : s.length ≤ 1000000) : PCalls (Pg G) 17 [.str s, .bool attr] (.str (escD attr s)) := fun h => by
  have E := esc_eq attr s.length s (Nat.le_refl _)
  have l1 : (ampM s).length ≤ 5 * s.length := ra_one_len 38 ampS s (by decide)
  have l2 := ra_two_len (ampM s) _ (Nat.le_refl _)
  have c1 := replaceAll_ok hG s [38] ampS (by omega) (by decide) (by decide)
  have c2 := replaceAll_ok hG (ampM s) [194, 160] nbspS (by omega) (by decide) (by decide)
  rw [ra_all (by decide)] at c1 c2
  have hq := replaceAll_ok hG (ra [194, 160] nbspS (ampM s)) [34] quotS (by omega) (by decide) (by decide)
  have hl := replaceAll_ok hG (ra [194, 160] nbspS (ampM s)) [60] ltS (by omega) (by decide) (by decide)
  have l3 := ra_one_len 60 ltS (ra [194, 160] nbspS (ampM s)) (by decide)
  have e4 : ltS.length = 4 := rfl
  rw [e4] at l3
  have hg := replaceAll_ok hG (ra [60] ltS (ra [194, 160] nbspS (ampM s))) [62] gtS (by omega) (by decide) (by decide)
  rw [ra_all (by decide)] at hq hl hg
  unfold lastM' at E
  have c1 : PCalls (Pg G) 30 [.str s, .str [38], .str [38, 97, 109, 112, 59]] (.str (ampM s)) := c1
  have c2 : PCalls (Pg G) 30 [.str (ampM s), .str [194, 160], .str [38, 110, 98, 115, 112, 59]] (.str (ra [194, 160] nbspS (ampM s))) := c2
  have hq : PCalls (Pg G) 30 [.str (ra [194, 160] nbspS (ampM s)), .str [34], .str [38, 113, 117, 111, 116, 59]] (.str (ra [34] quotS (ra [194, 160] nbspS (ampM s)))) := hq
  have hl : PCalls (Pg G) 30 [.str (ra [194, 160] nbspS (ampM s)), .str [60], .str [38, 108, 116, 59]] (.str (ra [60] ltS (ra [194, 160] nbspS (ampM s)))) := hl
  have hg : PCalls (Pg G) 30 [.str (ra [60] ltS (ra [194, 160] nbspS (ampM s))), .str [62], .str [38, 103, 116, 59]] (.str (ra [62] gtS (ra [60] ltS (ra [194, 160] nbspS (ampM s))))) := hg
  refine dcalls_of_vc Tryd.func17 hn17 hc17 (by rw [Tryd.ntmps17]; simp) (by rw [Tryd.ntmps17]; decide) ?_
  cases attr
  · rw [if_neg (by simp)] at E
    simp -dsimp -implicitDefEqProofs (disch := omega) only [VCA, pg_gl, ↓upd_none, Nat.reduceEqDiff, Nat.reduceBEq, Nat.reduceAdd, Nat.reduceSub, Nat.reduceMul, Nat.reduceLT, Nat.reduceLeDiff, ↓reduceIte, reduceCtorEq, rsOf, rootsOf, SOp.rd, SI.rd, SX.rd, rdL, rdO, rdP, okParts, eqCells, okEqCells, fillA, okFill, setAt, implies_true, forall_const, forall_eq, ne_eq, exists_eq_right_right, exists_eq_right, exists_eq_left, exists_eq_left', eRune, eName, c17]
    repeat' (first | ((with_reducible refine Br.dec (fun _ => ?_) (fun _ => ?_)) <;> try (exfalso; omega)) | ((with_reducible refine Br.eq (fun _ => ?_) (fun _ => ?_)) <;> try (exfalso; omega)) | ((with_reducible refine Br.ne (fun _ => ?_) (fun _ => ?_)) <;> try (exfalso; omega)) | with_reducible refine Br.intro (fun _ => ?_) (fun _ => ?_) | (with_reducible apply pcallE.of; · exact c1) | (with_reducible apply pcallE.of; · exact c2) | (with_reducible apply pcallE.of; · exact hl) | (with_reducible apply pcallE.of; · exact hg) | (with_reducible refine And.intro ?_ ?_; · omega) | simp -dsimp -implicitDefEqProofs (disch := omega) only [VCA, pg_gl, ↓upd_none, Nat.reduceEqDiff, Nat.reduceBEq, Nat.reduceAdd, Nat.reduceSub, Nat.reduceMul, Nat.reduceLT, Nat.reduceLeDiff, ↓reduceIte, reduceCtorEq, rsOf, rootsOf, SOp.rd, SI.rd, SX.rd, rdL, rdO, rdP, okParts, eqCells, okEqCells, fillA, okFill, setAt, implies_true, forall_const, forall_eq, ne_eq, exists_eq_right_right, exists_eq_right, exists_eq_left, exists_eq_left', eRune, eName])
    exact ⟨Sub.refl _, by rw [E]⟩
  · rw [if_pos rfl] at E
    simp -dsimp -implicitDefEqProofs (disch := omega) only [VCA, pg_gl, ↓upd_none, Nat.reduceEqDiff, Nat.reduceBEq, Nat.reduceAdd, Nat.reduceSub, Nat.reduceMul, Nat.reduceLT, Nat.reduceLeDiff, ↓reduceIte, reduceCtorEq, rsOf, rootsOf, SOp.rd, SI.rd, SX.rd, rdL, rdO, rdP, okParts, eqCells, okEqCells, fillA, okFill, setAt, implies_true, forall_const, forall_eq, ne_eq, exists_eq_right_right, exists_eq_right, exists_eq_left, exists_eq_left', eRune, eName, c17]
    repeat' (first | ((with_reducible refine Br.dec (fun _ => ?_) (fun _ => ?_)) <;> try (exfalso; omega)) | ((with_reducible refine Br.eq (fun _ => ?_) (fun _ => ?_)) <;> try (exfalso; omega)) | ((with_reducible refine Br.ne (fun _ => ?_) (fun _ => ?_)) <;> try (exfalso; omega)) | with_reducible refine Br.intro (fun _ => ?_) (fun _ => ?_) | (with_reducible apply pcallE.of; · exact c1) | (with_reducible apply pcallE.of; · exact c2) | (with_reducible apply pcallE.of; · exact hq) | (with_reducible refine And.intro ?_ ?_; · omega) | simp -dsimp -implicitDefEqProofs (disch := omega) only [VCA, pg_gl, ↓upd_none, Nat.reduceEqDiff, Nat.reduceBEq, Nat.reduceAdd, Nat.reduceSub, Nat.reduceMul, Nat.reduceLT, Nat.reduceLeDiff, ↓reduceIte, reduceCtorEq, rsOf, rootsOf, SOp.rd, SI.rd, SX.rd, rdL, rdO, rdP, okParts, eqCells, okEqCells, fillA, okFill, setAt, implies_true, forall_const, forall_eq, ne_eq, exists_eq_right_right, exists_eq_right, exists_eq_left, exists_eq_left', eRune, eName])
    exact ⟨Sub.refl _, by rw [E]⟩
def c15 : SFun := ⟨(.seq (.reg [⟨(some 4), (.mv (.c (.str []))), none⟩]) (.seq (.reg [⟨(some 5), (.mv (.c (.str []))), none⟩]) (.seq (.seq (.reg [⟨(some 6), (.mv (.c (.int .i64 (0)))), none⟩]) (.block 0 (.loop (.seq (.seq (.reg [⟨(some 9), (.mv (.t 6)), none⟩, ⟨(some 10), (.mv (.t 0)), none⟩, ⟨(some 11), (.lenS (.t 10)), none⟩, ⟨(some 12), (.bin .lss (.t 9) (.t 11)), none⟩]) (.cond (.t 12) .skip (.exit 0))) (.block 1 (.seq (.reg [⟨(some 14), (.mv (.t 0)), none⟩, ⟨(some 15), (.mv (.t 6)), none⟩, ⟨(some 16), (.slS (.t 14) (some (.t 15)) none), none⟩, ⟨(some 17), (.mv (.t 1)), none⟩, ⟨(some 18), (.pcall 29 [(.t 16), (.t 17)]), none⟩, ⟨(some 13), (.mv (.t 18)), none⟩, ⟨(some 19), (.ext (.t 13) 0), none⟩, ⟨(some 20), (.ext (.t 13) 1), none⟩, ⟨(some 7), (.mv (.t 19)), none⟩, ⟨(some 8), (.mv (.t 20)), none⟩]) (.seq (.seq (.reg [⟨(some 21), (.mv (.t 8)), none⟩, ⟨(some 22), (.bin .eql (.t 21) (.c (.int .i64 (0)))), none⟩]) (.cond (.t 22) (.reg [⟨(some 23), (.mv (.t 0)), none⟩, ⟨(some 24), (.mv (.t 6)), none⟩, ⟨(some 25), (.mv (.t 6)), none⟩, ⟨(some 26), (.bin .add (.t 25) (.c (.int .i64 (1)))), none⟩, ⟨(some 27), (.slS (.t 23) (some (.t 24)) (some (.t 26))), none⟩, ⟨(some 7), (.mv (.t 27)), none⟩, ⟨(some 8), (.mv (.c (.int .i64 (1)))), none⟩]) .skip)) (.seq (.reg [⟨(some 28), (.mv (.t 5)), none⟩, ⟨(some 29), (.mv (.t 7)), none⟩, ⟨(some 30), (.bin .add (.t 28) (.t 29)), none⟩, ⟨(some 5), (.mv (.t 30)), none⟩]) (.reg [⟨(some 31), (.mv (.t 6)), none⟩, ⟨(some 32), (.mv (.t 8)), none⟩, ⟨(some 33), (.bin .add (.t 31) (.t 32)), none⟩, ⟨(some 6), (.mv (.t 33)), none⟩]))))))))) (.seq (.reg [⟨(some 34), (.mv (.t 5)), none⟩, ⟨(some 4), (.mv (.t 34)), none⟩]) .ret)))), [(.tmp 4)]⟩
theorem hc15 : toSF Tryd.prog {pure := [29]} Tryd.f15 = some c15 := by kernel_rfl
theorem hn15 : (Tryd.f15.name == "runtime.NumGoroutine") = false := by kernel_rfl
theorem refRead_ok (s : List UInt8) (attr : Bool) (hs : s.length ≤ 1073741823) : PCalls (Pg G) 15 [.str s, .bool attr] (.str (readD s attr)) := fun h => by
  refine dcalls_of_vc Tryd.func15 hn15 hc15 (by rw [Tryd.ntmps15]; simp) (by rw [Tryd.ntmps15]; decide) ?_
  simp -dsimp -implicitDefEqProofs (disch := omega) only [VCA, pg_gl, ↓upd_none, Nat.reduceEqDiff, Nat.reduceBEq, Nat.reduceAdd, Nat.reduceSub, Nat.reduceMul, Nat.reduceLT, Nat.reduceLeDiff, ↓reduceIte, reduceCtorEq, rsOf, rootsOf, SOp.rd, SI.rd, SX.rd, rdL, rdO, rdP, okParts, eqCells, okEqCells, fillA, okFill, setAt, implies_true, forall_const, forall_eq, ne_eq, exists_eq_right_right, exists_eq_right, exists_eq_left, exists_eq_left', eRune, eName, c15]
  refine LoopVC.intro (fun m e h' => ∃ (i : Nat) (o : List UInt8), m = s.length - i ∧ i ≤ s.length ∧ e 0 = .str s ∧ e 1 = .bool attr ∧ e 5 = .str o ∧ e 6 = aInt i ∧ h' = h ∧ o.length ≤ 4 * i ∧ o ++ readD (s.drop i) attr = readD s attr) s.length ⟨0, [], rfl, by omega, rfl, rfl, rfl, rfl, rfl, by simp, rfl⟩ ?_
  rintro m e h' ⟨i, o, rfl, hi, he0, he1, he5, he6, rfl, ho, hR⟩
  simp -dsimp -implicitDefEqProofs (disch := omega) only [VCA, pg_gl, ↓upd_none, Nat.reduceEqDiff, Nat.reduceBEq, Nat.reduceAdd, Nat.reduceSub, Nat.reduceMul, Nat.reduceLT, Nat.reduceLeDiff, ↓reduceIte, reduceCtorEq, rsOf, rootsOf, SOp.rd, SI.rd, SX.rd, rdL, rdO, rdP, okParts, eqCells, okEqCells, fillA, okFill, setAt, implies_true, forall_const, forall_eq, ne_eq, exists_eq_right_right, exists_eq_right, exists_eq_left, exists_eq_left', eRune, eName, he0, he1, he5, he6]
  refine Br.dec (fun hlt => ?_) (fun hge => ?_)
  · have hne : s.drop i ≠ [] := by intro h2; have := congrArg List.length h2; simp at this; omega
    have hF := refFind_ok (G := G) (s.drop i) attr (by rw [List.length_drop]; omega)
    have hn := nE_is attr hne
    rw [readD_cons hne] at hR
    rw [List.length_drop] at hn
    have hfi := (findM_is (s.drop i) attr).1
    rw [List.length_drop] at hfi
    simp -dsimp -implicitDefEqProofs (disch := omega) only [VCA, pg_gl, ↓upd_none, Nat.reduceEqDiff, Nat.reduceBEq, Nat.reduceAdd, Nat.reduceSub, Nat.reduceMul, Nat.reduceLT, Nat.reduceLeDiff, ↓reduceIte, reduceCtorEq, rsOf, rootsOf, SOp.rd, SI.rd, SX.rd, rdL, rdO, rdP, okParts, eqCells, okEqCells, fillA, okFill, setAt, implies_true, forall_const, forall_eq, ne_eq, exists_eq_right_right, exists_eq_right, exists_eq_left, exists_eq_left', eRune, eName, he0, he1, he5, he6]
    repeat' (first | ((with_reducible refine Br.dec (fun _ => ?_) (fun _ => ?_)) <;> try (exfalso; omega)) | ((with_reducible refine Br.eq (fun _ => ?_) (fun _ => ?_)) <;> try (exfalso; omega)) | ((with_reducible refine Br.ne (fun _ => ?_) (fun _ => ?_)) <;> try (exfalso; omega)) | with_reducible refine Br.intro (fun _ => ?_) (fun _ => ?_) | (with_reducible apply pcallE.of; · exact hF) | (with_reducible refine And.intro ?_ ?_; · omega) | simp -dsimp -implicitDefEqProofs (disch := omega) only [VCA, pg_gl, ↓upd_none, Nat.reduceEqDiff, Nat.reduceBEq, Nat.reduceAdd, Nat.reduceSub, Nat.reduceMul, Nat.reduceLT, Nat.reduceLeDiff, ↓reduceIte, reduceCtorEq, rsOf, rootsOf, SOp.rd, SI.rd, SX.rd, rdL, rdO, rdP, okParts, eqCells, okEqCells, fillA, okFill, setAt, implies_true, forall_const, forall_eq, ne_eq, exists_eq_right_right, exists_eq_right, exists_eq_left, exists_eq_left', eRune, eName, he0, he1, he5, he6])
    · rename_i hz
      have e1 : tE (s.drop i) attr = (s.drop i).take 1 := if_pos (by omega)
      have e2 : nE (s.drop i) attr = 1 := if_pos (by omega)
      rw [e1, e2, List.drop_drop] at hR
      have e3 : (s.take (i + 1)).drop i = (s.drop i).take 1 := by rw [List.drop_take]; congr 1; omega
      have hl : ((s.drop i).take 1).length ≤ 1 := by rw [List.length_take]; omega
      rw [e3]
      exact ⟨by omega, _, by omega, i + 1, o ++ (s.drop i).take 1, rfl, by omega, rfl, by omega, by rw [List.length_append]; omega, by rw [List.append_assoc]; exact hR⟩
    · rename_i hz
      have e1 : tE (s.drop i) attr = (findM (s.drop i) attr).1 := if_neg (by omega)
      have e2 : nE (s.drop i) attr = (findM (s.drop i) attr).2 := if_neg (by omega)
      rw [e1, e2] at hn hR
      rw [List.drop_drop] at hR
      exact ⟨by omega, _, by omega, i + (findM (s.drop i) attr).2, o ++ (findM (s.drop i) attr).1, rfl, by omega, rfl, by omega, by rw [List.length_append]; omega, by rw [List.append_assoc]; exact hR⟩
  · simp -dsimp -implicitDefEqProofs (disch := omega) only [VCA, pg_gl, ↓upd_none, Nat.reduceEqDiff, Nat.reduceBEq, Nat.reduceAdd, Nat.reduceSub, Nat.reduceMul, Nat.reduceLT, Nat.reduceLeDiff, ↓reduceIte, reduceCtorEq, rsOf, rootsOf, SOp.rd, SI.rd, SX.rd, rdL, rdO, rdP, okParts, eqCells, okEqCells, fillA, okFill, setAt, implies_true, forall_const, forall_eq, ne_eq, exists_eq_right_right, exists_eq_right, exists_eq_left, exists_eq_left', eRune, eName, he0, he1, he5, he6]
    have : s.drop i = [] := List.drop_eq_nil_of_le (by omega)
    rw [this, readD_nil, List.append_nil] at hR
    exact ⟨Sub.refl _, by rw [hR]⟩
def c18 : SFun := ⟨(.seq (.reg [⟨(some 4), (.mv (.c (.str []))), none⟩]) (.seq (.reg [⟨(some 5), (.mv (.c (.str []))), none⟩]) (.seq (.seq (.reg [⟨(some 6), (.mv (.c (.int .i64 (0)))), none⟩]) (.block 0 (.loop (.seq (.seq (.reg [⟨(some 7), (.mv (.t 6)), none⟩, ⟨(some 8), (.mv (.t 0)), none⟩, ⟨(some 9), (.lenS (.t 8)), none⟩, ⟨(some 10), (.bin .lss (.t 7) (.t 9)), none⟩]) (.cond (.t 10) .skip (.exit 0))) (.seq (.block 1 (.block 2 (.seq (.reg [⟨(some 21), (.mv (.t 0)), none⟩, ⟨(some 22), (.mv (.t 6)), none⟩, ⟨(some 23), (.idxS (.t 21) (.t 22)), none⟩, ⟨(some 24), (.bin .eql (.t 23) (.c (.int .u8 (38)))), none⟩, ⟨(some 20), (.mv (.t 24)), none⟩]) (.cond (.t 20) (.reg [⟨(some 25), (.mv (.t 5)), none⟩, ⟨(some 26), (.bin .add (.t 25) (.c (.str [38, 97, 109, 112, 59]))), none⟩, ⟨(some 5), (.mv (.t 26)), none⟩]) (.seq (.reg [⟨(some 28), (.mv (.t 0)), none⟩, ⟨(some 29), (.mv (.t 6)), none⟩, ⟨(some 30), (.idxS (.t 28) (.t 29)), none⟩, ⟨(some 31), (.bin .eql (.t 30) (.c (.int .u8 (194)))), none⟩, ⟨(some 32), (.mv (.t 31)), none⟩, ⟨(some 33), (.mv (.t 6)), (some (32, true))⟩, ⟨(some 34), (.bin .add (.t 33) (.c (.int .i64 (1)))), (some (32, true))⟩, ⟨(some 35), (.mv (.t 0)), (some (32, true))⟩, ⟨(some 36), (.lenS (.t 35)), (some (32, true))⟩, ⟨(some 37), (.bin .lss (.t 34) (.t 36)), (some (32, true))⟩, ⟨(some 38), (.pick (.t 32) (.t 37) (.c (.bool false))), none⟩, ⟨(some 39), (.mv (.t 38)), none⟩, ⟨(some 40), (.mv (.t 0)), (some (39, true))⟩, ⟨(some 41), (.mv (.t 6)), (some (39, true))⟩, ⟨(some 42), (.bin .add (.t 41) (.c (.int .i64 (1)))), (some (39, true))⟩, ⟨(some 43), (.idxS (.t 40) (.t 42)), (some (39, true))⟩, ⟨(some 44), (.bin .eql (.t 43) (.c (.int .u8 (160)))), (some (39, true))⟩, ⟨(some 45), (.pick (.t 39) (.t 44) (.c (.bool false))), none⟩, ⟨(some 27), (.mv (.t 45)), none⟩]) (.cond (.t 27) (.seq (.reg [⟨(some 46), (.mv (.t 5)), none⟩, ⟨(some 47), (.bin .add (.t 46) (.c (.str [38, 110, 98, 115, 112, 59]))), none⟩, ⟨(some 5), (.mv (.t 47)), none⟩]) (.reg [⟨(some 48), (.mv (.t 6)), none⟩, ⟨(some 49), (.bin .add (.t 48) (.c (.int .i64 (1)))), none⟩, ⟨(some 6), (.mv (.t 49)), none⟩])) (.seq (.reg [⟨(some 51), (.mv (.t 1)), none⟩, ⟨(some 52), (.mv (.t 51)), none⟩, ⟨(some 53), (.mv (.t 0)), (some (52, true))⟩, ⟨(some 54), (.mv (.t 6)), (some (52, true))⟩, ⟨(some 55), (.idxS (.t 53) (.t 54)), (some (52, true))⟩, ⟨(some 56), (.bin .eql (.t 55) (.c (.int .u8 (34)))), (some (52, true))⟩, ⟨(some 57), (.pick (.t 52) (.t 56) (.c (.bool false))), none⟩, ⟨(some 50), (.mv (.t 57)), none⟩]) (.cond (.t 50) (.reg [⟨(some 58), (.mv (.t 5)), none⟩, ⟨(some 59), (.bin .add (.t 58) (.c (.str [38, 113, 117, 111, 116, 59]))), none⟩, ⟨(some 5), (.mv (.t 59)), none⟩]) (.seq (.reg [⟨(some 61), (.mv (.t 1)), none⟩, ⟨(some 62), (.un .not (.t 61)), none⟩, ⟨(some 63), (.mv (.t 62)), none⟩, ⟨(some 64), (.mv (.t 0)), (some (63, true))⟩, ⟨(some 65), (.mv (.t 6)), (some (63, true))⟩, ⟨(some 66), (.idxS (.t 64) (.t 65)), (some (63, true))⟩, ⟨(some 67), (.bin .eql (.t 66) (.c (.int .u8 (60)))), (some (63, true))⟩, ⟨(some 68), (.pick (.t 63) (.t 67) (.c (.bool false))), none⟩, ⟨(some 60), (.mv (.t 68)), none⟩]) (.cond (.t 60) (.reg [⟨(some 69), (.mv (.t 5)), none⟩, ⟨(some 70), (.bin .add (.t 69) (.c (.str [38, 108, 116, 59]))), none⟩, ⟨(some 5), (.mv (.t 70)), none⟩]) (.seq (.reg [⟨(some 72), (.mv (.t 1)), none⟩, ⟨(some 73), (.un .not (.t 72)), none⟩, ⟨(some 74), (.mv (.t 73)), none⟩, ⟨(some 75), (.mv (.t 0)), (some (74, true))⟩, ⟨(some 76), (.mv (.t 6)), (some (74, true))⟩, ⟨(some 77), (.idxS (.t 75) (.t 76)), (some (74, true))⟩, ⟨(some 78), (.bin .eql (.t 77) (.c (.int .u8 (62)))), (some (74, true))⟩, ⟨(some 79), (.pick (.t 74) (.t 78) (.c (.bool false))), none⟩, ⟨(some 71), (.mv (.t 79)), none⟩]) (.cond (.t 71) (.reg [⟨(some 80), (.mv (.t 5)), none⟩, ⟨(some 81), (.bin .add (.t 80) (.c (.str [38, 103, 116, 59]))), none⟩, ⟨(some 5), (.mv (.t 81)), none⟩]) (.reg [⟨(some 13), (.mv (.t 5)), none⟩, ⟨(some 14), (.mv (.t 0)), none⟩, ⟨(some 15), (.mv (.t 6)), none⟩, ⟨(some 16), (.mv (.t 6)), none⟩, ⟨(some 17), (.bin .add (.t 16) (.c (.int .i64 (1)))), none⟩, ⟨(some 18), (.slS (.t 14) (some (.t 15)) (some (.t 17))), none⟩, ⟨(some 19), (.bin .add (.t 13) (.t 18)), none⟩, ⟨(some 5), (.mv (.t 19)), none⟩]))))))))))))) (.reg [⟨(some 11), (.mv (.t 6)), none⟩, ⟨(some 12), (.bin .add (.t 11) (.c (.int .i64 (1)))), none⟩, ⟨(some 6), (.mv (.t 12)), none⟩])))))) (.seq (.reg [⟨(some 82), (.mv (.t 5)), none⟩, ⟨(some 4), (.mv (.t 82)), none⟩]) .ret)))), [(.tmp 4)]⟩
theorem hc18 : toSF Tryd.prog {} Tryd.f18 = some c18 := by kernel_rfl
theorem hn18 : (Tryd.f18.name == "runtime.NumGoroutine") = false := by kernel_rfl
theorem refEscape_ok (s : List UInt8) (attr : Bool) (hs : s.length ≤ 1000000) : PCalls (Pg G) 18 [.str s, .bool attr] (.str (escD attr s)) := fun h => by
  refine dcalls_of_vc Tryd.func18 hn18 hc18 (by rw [Tryd.ntmps18]; simp) (by rw [Tryd.ntmps18]; decide) ?_
  simp -dsimp -implicitDefEqProofs (disch := omega) only [↓vcOps_sp 32, ↓vcD_sp 32, ↓vcOps_sp 39, ↓vcD_sp 39, ↓vcOps_sp 52, ↓vcD_sp 52, ↓vcOps_sp 63, ↓vcD_sp 63, ↓vcOps_sp 74, ↓vcD_sp 74, VCA, pg_gl, ↓upd_none, Nat.reduceEqDiff, Nat.reduceBEq, Nat.reduceAdd, Nat.reduceSub, Nat.reduceMul, Nat.reduceLT, Nat.reduceLeDiff, ↓reduceIte, reduceCtorEq, rsOf, rootsOf, SOp.rd, SI.rd, SX.rd, rdL, rdO, rdP, okParts, eqCells, okEqCells, fillA, okFill, setAt, implies_true, forall_const, forall_eq, ne_eq, exists_eq_right_right, exists_eq_right, exists_eq_left, exists_eq_left', eRune, eName, c18]
  refine LoopVC.intro (fun m e h' => ∃ (i : Nat) (o : List UInt8), m = s.length - i ∧ i ≤ s.length ∧ e 0 = .str s ∧ e 1 = .bool attr ∧ e 5 = .str o ∧ e 6 = aInt i ∧ h' = h ∧ o.length ≤ 6 * i ∧ o ++ escD attr (s.drop i) = escD attr s) s.length ⟨0, [], rfl, by omega, rfl, rfl, rfl, rfl, rfl, by simp, rfl⟩ ?_
  rintro m e h' ⟨i, o, rfl, hi, he0, he1, he5, he6, rfl, ho, hR⟩
  simp -dsimp -implicitDefEqProofs (disch := omega) only [↓vcOps_sp 32, ↓vcD_sp 32, ↓vcOps_sp 39, ↓vcD_sp 39, ↓vcOps_sp 52, ↓vcD_sp 52, ↓vcOps_sp 63, ↓vcD_sp 63, ↓vcOps_sp 74, ↓vcD_sp 74, VCA, pg_gl, ↓upd_none, Nat.reduceEqDiff, Nat.reduceBEq, Nat.reduceAdd, Nat.reduceSub, Nat.reduceMul, Nat.reduceLT, Nat.reduceLeDiff, ↓reduceIte, reduceCtorEq, rsOf, rootsOf, SOp.rd, SI.rd, SX.rd, rdL, rdO, rdP, okParts, eqCells, okEqCells, fillA, okFill, setAt, implies_true, forall_const, forall_eq, ne_eq, exists_eq_right_right, exists_eq_right, exists_eq_left, exists_eq_left', eRune, eName, he0, he1, he5, he6]
  refine Br.dec (fun hlt => ?_) (fun hge => ?_)
  · have hd : s.drop i = s.getD i 0 :: s.drop (i + 1) := by
      rw [List.drop_eq_getElem_cons (by omega), List.getD_eq_getElem?_getD, List.getElem?_eq_getElem (by omega)]; rfl
    have hi1 : i + 1 ≤ s.length := by omega
    have bq : ∀ (c : UInt8) (n : Nat), n < 256 → (c = UInt8.ofNat n ↔ ((c.toNat : Int) = n)) := fun c n hn => by
      constructor
      · rintro rfl; simp; omega
      · intro e
        have e : c.toNat = n := by omega
        rw [← e]; simp
    have hh : (s.drop (i + 1)).head? = some 160 ↔ i + 1 < s.length ∧ ((s.getD (i + 1) 0).toNat : Int) = 160 := by
      rw [List.head?_drop]
      by_cases hl : i + 1 < s.length
      · rw [List.getElem?_eq_getElem hl, List.getD_eq_getElem?_getD, List.getElem?_eq_getElem hl]
        simp only [Option.some.injEq, Option.getD_some]
        rw [show (160 : UInt8) = UInt8.ofNat 160 from rfl, bq _ 160 (by decide)]
        exact ⟨fun h => ⟨hl, h⟩, fun h => h.2⟩
      · rw [List.getElem?_eq_none (by omega)]
        constructor
        · intro h; cases h
        · rintro ⟨h, _⟩; omega
    have b38 : s.getD i 0 = 38 ↔ ((s.getD i 0).toNat : Int) = 38 := bq (s.getD i 0) 38 (by decide)
    have b194 : s.getD i 0 = 194 ↔ ((s.getD i 0).toNat : Int) = 194 := bq (s.getD i 0) 194 (by decide)
    have b34 : s.getD i 0 = 34 ↔ ((s.getD i 0).toNat : Int) = 34 := bq (s.getD i 0) 34 (by decide)
    have b60 : s.getD i 0 = 60 ↔ ((s.getD i 0).toNat : Int) = 60 := bq (s.getD i 0) 60 (by decide)
    have b62 : s.getD i 0 = 62 ↔ ((s.getD i 0).toNat : Int) = 62 := bq (s.getD i 0) 62 (by decide)
    have go : ∀ (x : List UInt8) (k : Nat) (z : Int), 1 ≤ k → i + k ≤ s.length → z = (i : Int) + k → escD attr (s.drop i) = x ++ escD attr (s.drop (i + k)) → x.length ≤ 6 →
        (o.length + x.length ≤ 9223372036854775807 ∧ ∃ m', m' < s.length - i ∧ ∃ (i1 : Nat) (o1 : List UInt8), m' = s.length - i1 ∧ i1 ≤ s.length ∧ o ++ x = o1 ∧ z = i1 ∧ o1.length ≤ 6 * i1 ∧ o1 ++ escD attr (s.drop i1) = escD attr s) :=
      fun x k z h1 h2 h3 h4 h5 => ⟨by omega, s.length - (i + k), by omega, i + k, o ++ x, rfl, h2, rfl, by omega, by rw [List.length_append]; omega, by rw [List.append_assoc, ← h4]; exact hR⟩
    by_cases hB : ((s.getD i 0).toNat : Int) = 194 ∧ i + 1 < s.length ∧ ((s.getD (i + 1) 0).toNat : Int) = 160
    · obtain ⟨h1, h2, h3⟩ := hB
      have hE : escD attr (s.drop i) = nbspS ++ escD attr (s.drop (i + 2)) := by
        have e1 : s.getD i 0 = 194 := b194.2 h1
        have hd2 : s.drop (i + 1) = s.getD (i + 1) 0 :: s.drop (i + 2) := by
          rw [List.drop_eq_getElem_cons (by omega), List.getD_eq_getElem?_getD, List.getElem?_eq_getElem (by omega)]; rfl
        have e2 : s.getD (i + 1) 0 = 160 := (bq _ 160 (by decide)).2 h3
        rw [hd, hd2, e1, e2, escD_nb]
      simp -dsimp -implicitDefEqProofs (disch := omega) only [↓vcOps_sp 32, ↓vcD_sp 32, ↓vcOps_sp 39, ↓vcD_sp 39, ↓vcOps_sp 52, ↓vcD_sp 52, ↓vcOps_sp 63, ↓vcD_sp 63, ↓vcOps_sp 74, ↓vcD_sp 74, VCA, pg_gl, ↓upd_none, Nat.reduceEqDiff, Nat.reduceBEq, Nat.reduceAdd, Nat.reduceSub, Nat.reduceMul, Nat.reduceLT, Nat.reduceLeDiff, ↓reduceIte, reduceCtorEq, rsOf, rootsOf, SOp.rd, SI.rd, SX.rd, rdL, rdO, rdP, okParts, eqCells, okEqCells, fillA, okFill, setAt, implies_true, forall_const, forall_eq, ne_eq, exists_eq_right_right, exists_eq_right, exists_eq_left, exists_eq_left', eRune, eName, he0, he1, he5, he6]
      repeat' (first | ((with_reducible refine Br.dec (fun _ => ?_) (fun _ => ?_)) <;> try (exfalso; omega)) | ((with_reducible refine Br.eq (fun _ => ?_) (fun _ => ?_)) <;> try (exfalso; omega)) | ((with_reducible refine Br.ne (fun _ => ?_) (fun _ => ?_)) <;> try (exfalso; omega)) | with_reducible refine Br.intro (fun _ => ?_) (fun _ => ?_) | (with_reducible refine And.intro ?_ ?_; · omega) | simp -dsimp -implicitDefEqProofs (disch := omega) only [↓vcOps_sp 32, ↓vcD_sp 32, ↓vcOps_sp 39, ↓vcD_sp 39, ↓vcOps_sp 52, ↓vcD_sp 52, ↓vcOps_sp 63, ↓vcD_sp 63, ↓vcOps_sp 74, ↓vcD_sp 74, VCA, pg_gl, ↓upd_none, Nat.reduceEqDiff, Nat.reduceBEq, Nat.reduceAdd, Nat.reduceSub, Nat.reduceMul, Nat.reduceLT, Nat.reduceLeDiff, ↓reduceIte, reduceCtorEq, rsOf, rootsOf, SOp.rd, SI.rd, SX.rd, rdL, rdO, rdP, okParts, eqCells, okEqCells, fillA, okFill, setAt, implies_true, forall_const, forall_eq, ne_eq, exists_eq_right_right, exists_eq_right, exists_eq_left, exists_eq_left', eRune, eName, he0, he1, he5, he6])
      all_goals first | (refine go nbspS 2 _ ?_ ?_ ?_ hE (by decide) <;> omega) | (refine (go nbspS 2 _ ?_ ?_ ?_ hE (by decide)).2 <;> omega)
    · have hE : escD attr (s.drop i) = escC attr (s.getD i 0) ++ escD attr (s.drop (i + 1)) := by
        rw [hd]
        refine escD_c attr _ _ fun hc => hB ?_
        obtain ⟨h2, h3⟩ := hh.1 hc.2
        exact ⟨b194.1 hc.1, h2, h3⟩
      have fin : ∀ x, escC attr (s.getD i 0) = x → x.length ≤ 6 → _ := fun x hx hl => go x 1 _ (by omega) hi1 rfl (by rw [← hx]; exact hE) hl
      have cut : (s.take (i + 1)).drop i = [s.getD i 0] := by
        rw [List.drop_take, hd, show i + 1 - i = 1 from by omega]; rfl
      cases attr
      · rcases (by omega : ((s.getD i 0).toNat : Int) = 38 ∨ ((s.getD i 0).toNat : Int) = 60 ∨ ((s.getD i 0).toNat : Int) = 62 ∨ (((s.getD i 0).toNat : Int) ≠ 38 ∧ ((s.getD i 0).toNat : Int) ≠ 60 ∧ ((s.getD i 0).toNat : Int) ≠ 62)) with hc | hc | hc | hc
        · simp -dsimp -implicitDefEqProofs (disch := omega) only [↓vcOps_sp 32, ↓vcD_sp 32, ↓vcOps_sp 39, ↓vcD_sp 39, ↓vcOps_sp 52, ↓vcD_sp 52, ↓vcOps_sp 63, ↓vcD_sp 63, ↓vcOps_sp 74, ↓vcD_sp 74, VCA, pg_gl, ↓upd_none, Nat.reduceEqDiff, Nat.reduceBEq, Nat.reduceAdd, Nat.reduceSub, Nat.reduceMul, Nat.reduceLT, Nat.reduceLeDiff, ↓reduceIte, reduceCtorEq, rsOf, rootsOf, SOp.rd, SI.rd, SX.rd, rdL, rdO, rdP, okParts, eqCells, okEqCells, fillA, okFill, setAt, implies_true, forall_const, forall_eq, ne_eq, exists_eq_right_right, exists_eq_right, exists_eq_left, exists_eq_left', eRune, eName, he0, he1, he5, he6]
          repeat' (first | ((with_reducible refine Br.dec (fun _ => ?_) (fun _ => ?_)) <;> try (exfalso; omega)) | ((with_reducible refine Br.eq (fun _ => ?_) (fun _ => ?_)) <;> try (exfalso; omega)) | ((with_reducible refine Br.ne (fun _ => ?_) (fun _ => ?_)) <;> try (exfalso; omega)) | with_reducible refine Br.intro (fun _ => ?_) (fun _ => ?_) | (with_reducible refine And.intro ?_ ?_; · omega) | simp -dsimp -implicitDefEqProofs (disch := omega) only [↓vcOps_sp 32, ↓vcD_sp 32, ↓vcOps_sp 39, ↓vcD_sp 39, ↓vcOps_sp 52, ↓vcD_sp 52, ↓vcOps_sp 63, ↓vcD_sp 63, ↓vcOps_sp 74, ↓vcD_sp 74, VCA, pg_gl, ↓upd_none, Nat.reduceEqDiff, Nat.reduceBEq, Nat.reduceAdd, Nat.reduceSub, Nat.reduceMul, Nat.reduceLT, Nat.reduceLeDiff, ↓reduceIte, reduceCtorEq, rsOf, rootsOf, SOp.rd, SI.rd, SX.rd, rdL, rdO, rdP, okParts, eqCells, okEqCells, fillA, okFill, setAt, implies_true, forall_const, forall_eq, ne_eq, exists_eq_right_right, exists_eq_right, exists_eq_left, exists_eq_left', eRune, eName, he0, he1, he5, he6])
          all_goals first | exact fin ampS (by rw [b38.2 hc]; rfl) (by decide) | exact (fin ampS (by rw [b38.2 hc]; rfl) (by decide)).2
        · simp -dsimp -implicitDefEqProofs (disch := omega) only [↓vcOps_sp 32, ↓vcD_sp 32, ↓vcOps_sp 39, ↓vcD_sp 39, ↓vcOps_sp 52, ↓vcD_sp 52, ↓vcOps_sp 63, ↓vcD_sp 63, ↓vcOps_sp 74, ↓vcD_sp 74, VCA, pg_gl, ↓upd_none, Nat.reduceEqDiff, Nat.reduceBEq, Nat.reduceAdd, Nat.reduceSub, Nat.reduceMul, Nat.reduceLT, Nat.reduceLeDiff, ↓reduceIte, reduceCtorEq, rsOf, rootsOf, SOp.rd, SI.rd, SX.rd, rdL, rdO, rdP, okParts, eqCells, okEqCells, fillA, okFill, setAt, implies_true, forall_const, forall_eq, ne_eq, exists_eq_right_right, exists_eq_right, exists_eq_left, exists_eq_left', eRune, eName, he0, he1, he5, he6]
          repeat' (first | ((with_reducible refine Br.dec (fun _ => ?_) (fun _ => ?_)) <;> try (exfalso; omega)) | ((with_reducible refine Br.eq (fun _ => ?_) (fun _ => ?_)) <;> try (exfalso; omega)) | ((with_reducible refine Br.ne (fun _ => ?_) (fun _ => ?_)) <;> try (exfalso; omega)) | with_reducible refine Br.intro (fun _ => ?_) (fun _ => ?_) | (with_reducible refine And.intro ?_ ?_; · omega) | simp -dsimp -implicitDefEqProofs (disch := omega) only [↓vcOps_sp 32, ↓vcD_sp 32, ↓vcOps_sp 39, ↓vcD_sp 39, ↓vcOps_sp 52, ↓vcD_sp 52, ↓vcOps_sp 63, ↓vcD_sp 63, ↓vcOps_sp 74, ↓vcD_sp 74, VCA, pg_gl, ↓upd_none, Nat.reduceEqDiff, Nat.reduceBEq, Nat.reduceAdd, Nat.reduceSub, Nat.reduceMul, Nat.reduceLT, Nat.reduceLeDiff, ↓reduceIte, reduceCtorEq, rsOf, rootsOf, SOp.rd, SI.rd, SX.rd, rdL, rdO, rdP, okParts, eqCells, okEqCells, fillA, okFill, setAt, implies_true, forall_const, forall_eq, ne_eq, exists_eq_right_right, exists_eq_right, exists_eq_left, exists_eq_left', eRune, eName, he0, he1, he5, he6])
          all_goals first | exact fin ltS (by rw [b60.2 hc]; rfl) (by decide) | exact (fin ltS (by rw [b60.2 hc]; rfl) (by decide)).2
        · simp -dsimp -implicitDefEqProofs (disch := omega) only [↓vcOps_sp 32, ↓vcD_sp 32, ↓vcOps_sp 39, ↓vcD_sp 39, ↓vcOps_sp 52, ↓vcD_sp 52, ↓vcOps_sp 63, ↓vcD_sp 63, ↓vcOps_sp 74, ↓vcD_sp 74, VCA, pg_gl, ↓upd_none, Nat.reduceEqDiff, Nat.reduceBEq, Nat.reduceAdd, Nat.reduceSub, Nat.reduceMul, Nat.reduceLT, Nat.reduceLeDiff, ↓reduceIte, reduceCtorEq, rsOf, rootsOf, SOp.rd, SI.rd, SX.rd, rdL, rdO, rdP, okParts, eqCells, okEqCells, fillA, okFill, setAt, implies_true, forall_const, forall_eq, ne_eq, exists_eq_right_right, exists_eq_right, exists_eq_left, exists_eq_left', eRune, eName, he0, he1, he5, he6]
          repeat' (first | ((with_reducible refine Br.dec (fun _ => ?_) (fun _ => ?_)) <;> try (exfalso; omega)) | ((with_reducible refine Br.eq (fun _ => ?_) (fun _ => ?_)) <;> try (exfalso; omega)) | ((with_reducible refine Br.ne (fun _ => ?_) (fun _ => ?_)) <;> try (exfalso; omega)) | with_reducible refine Br.intro (fun _ => ?_) (fun _ => ?_) | (with_reducible refine And.intro ?_ ?_; · omega) | simp -dsimp -implicitDefEqProofs (disch := omega) only [↓vcOps_sp 32, ↓vcD_sp 32, ↓vcOps_sp 39, ↓vcD_sp 39, ↓vcOps_sp 52, ↓vcD_sp 52, ↓vcOps_sp 63, ↓vcD_sp 63, ↓vcOps_sp 74, ↓vcD_sp 74, VCA, pg_gl, ↓upd_none, Nat.reduceEqDiff, Nat.reduceBEq, Nat.reduceAdd, Nat.reduceSub, Nat.reduceMul, Nat.reduceLT, Nat.reduceLeDiff, ↓reduceIte, reduceCtorEq, rsOf, rootsOf, SOp.rd, SI.rd, SX.rd, rdL, rdO, rdP, okParts, eqCells, okEqCells, fillA, okFill, setAt, implies_true, forall_const, forall_eq, ne_eq, exists_eq_right_right, exists_eq_right, exists_eq_left, exists_eq_left', eRune, eName, he0, he1, he5, he6])
          all_goals first | exact fin gtS (by rw [b62.2 hc]; rfl) (by decide) | exact (fin gtS (by rw [b62.2 hc]; rfl) (by decide)).2
        · have hx : escC false (s.getD i 0) = [s.getD i 0] := by
            unfold escC
            rw [if_neg (fun e => hc.1 (b38.1 e)), if_neg (by simp), if_neg (fun e => hc.2.1 (b60.1 e.2)), if_neg (fun e => hc.2.2 (b62.1 e.2))]
          simp -dsimp -implicitDefEqProofs (disch := omega) only [↓vcOps_sp 32, ↓vcD_sp 32, ↓vcOps_sp 39, ↓vcD_sp 39, ↓vcOps_sp 52, ↓vcD_sp 52, ↓vcOps_sp 63, ↓vcD_sp 63, ↓vcOps_sp 74, ↓vcD_sp 74, VCA, pg_gl, ↓upd_none, Nat.reduceEqDiff, Nat.reduceBEq, Nat.reduceAdd, Nat.reduceSub, Nat.reduceMul, Nat.reduceLT, Nat.reduceLeDiff, ↓reduceIte, reduceCtorEq, rsOf, rootsOf, SOp.rd, SI.rd, SX.rd, rdL, rdO, rdP, okParts, eqCells, okEqCells, fillA, okFill, setAt, implies_true, forall_const, forall_eq, ne_eq, exists_eq_right_right, exists_eq_right, exists_eq_left, exists_eq_left', eRune, eName, he0, he1, he5, he6]
          repeat' (first | ((with_reducible refine Br.dec (fun _ => ?_) (fun _ => ?_)) <;> try (exfalso; omega)) | ((with_reducible refine Br.eq (fun _ => ?_) (fun _ => ?_)) <;> try (exfalso; omega)) | ((with_reducible refine Br.ne (fun _ => ?_) (fun _ => ?_)) <;> try (exfalso; omega)) | with_reducible refine Br.intro (fun _ => ?_) (fun _ => ?_) | (with_reducible refine And.intro ?_ ?_; · omega) | simp -dsimp -implicitDefEqProofs (disch := omega) only [↓vcOps_sp 32, ↓vcD_sp 32, ↓vcOps_sp 39, ↓vcD_sp 39, ↓vcOps_sp 52, ↓vcD_sp 52, ↓vcOps_sp 63, ↓vcD_sp 63, ↓vcOps_sp 74, ↓vcD_sp 74, VCA, pg_gl, ↓upd_none, Nat.reduceEqDiff, Nat.reduceBEq, Nat.reduceAdd, Nat.reduceSub, Nat.reduceMul, Nat.reduceLT, Nat.reduceLeDiff, ↓reduceIte, reduceCtorEq, rsOf, rootsOf, SOp.rd, SI.rd, SX.rd, rdL, rdO, rdP, okParts, eqCells, okEqCells, fillA, okFill, setAt, implies_true, forall_const, forall_eq, ne_eq, exists_eq_right_right, exists_eq_right, exists_eq_left, exists_eq_left', eRune, eName, he0, he1, he5, he6])
          all_goals first | (rw [cut]; exact fin _ hx (by simp)) | (rw [cut]; exact (fin _ hx (by simp)).2)
      · rcases (by omega : ((s.getD i 0).toNat : Int) = 38 ∨ ((s.getD i 0).toNat : Int) = 34 ∨ (((s.getD i 0).toNat : Int) ≠ 38 ∧ ((s.getD i 0).toNat : Int) ≠ 34)) with hc | hc | hc
        · simp -dsimp -implicitDefEqProofs (disch := omega) only [↓vcOps_sp 32, ↓vcD_sp 32, ↓vcOps_sp 39, ↓vcD_sp 39, ↓vcOps_sp 52, ↓vcD_sp 52, ↓vcOps_sp 63, ↓vcD_sp 63, ↓vcOps_sp 74, ↓vcD_sp 74, VCA, pg_gl, ↓upd_none, Nat.reduceEqDiff, Nat.reduceBEq, Nat.reduceAdd, Nat.reduceSub, Nat.reduceMul, Nat.reduceLT, Nat.reduceLeDiff, ↓reduceIte, reduceCtorEq, rsOf, rootsOf, SOp.rd, SI.rd, SX.rd, rdL, rdO, rdP, okParts, eqCells, okEqCells, fillA, okFill, setAt, implies_true, forall_const, forall_eq, ne_eq, exists_eq_right_right, exists_eq_right, exists_eq_left, exists_eq_left', eRune, eName, he0, he1, he5, he6]
          repeat' (first | ((with_reducible refine Br.dec (fun _ => ?_) (fun _ => ?_)) <;> try (exfalso; omega)) | ((with_reducible refine Br.eq (fun _ => ?_) (fun _ => ?_)) <;> try (exfalso; omega)) | ((with_reducible refine Br.ne (fun _ => ?_) (fun _ => ?_)) <;> try (exfalso; omega)) | with_reducible refine Br.intro (fun _ => ?_) (fun _ => ?_) | (with_reducible refine And.intro ?_ ?_; · omega) | simp -dsimp -implicitDefEqProofs (disch := omega) only [↓vcOps_sp 32, ↓vcD_sp 32, ↓vcOps_sp 39, ↓vcD_sp 39, ↓vcOps_sp 52, ↓vcD_sp 52, ↓vcOps_sp 63, ↓vcD_sp 63, ↓vcOps_sp 74, ↓vcD_sp 74, VCA, pg_gl, ↓upd_none, Nat.reduceEqDiff, Nat.reduceBEq, Nat.reduceAdd, Nat.reduceSub, Nat.reduceMul, Nat.reduceLT, Nat.reduceLeDiff, ↓reduceIte, reduceCtorEq, rsOf, rootsOf, SOp.rd, SI.rd, SX.rd, rdL, rdO, rdP, okParts, eqCells, okEqCells, fillA, okFill, setAt, implies_true, forall_const, forall_eq, ne_eq, exists_eq_right_right, exists_eq_right, exists_eq_left, exists_eq_left', eRune, eName, he0, he1, he5, he6])
          all_goals first | exact fin ampS (by rw [b38.2 hc]; rfl) (by decide) | exact (fin ampS (by rw [b38.2 hc]; rfl) (by decide)).2
        · simp -dsimp -implicitDefEqProofs (disch := omega) only [↓vcOps_sp 32, ↓vcD_sp 32, ↓vcOps_sp 39, ↓vcD_sp 39, ↓vcOps_sp 52, ↓vcD_sp 52, ↓vcOps_sp 63, ↓vcD_sp 63, ↓vcOps_sp 74, ↓vcD_sp 74, VCA, pg_gl, ↓upd_none, Nat.reduceEqDiff, Nat.reduceBEq, Nat.reduceAdd, Nat.reduceSub, Nat.reduceMul, Nat.reduceLT, Nat.reduceLeDiff, ↓reduceIte, reduceCtorEq, rsOf, rootsOf, SOp.rd, SI.rd, SX.rd, rdL, rdO, rdP, okParts, eqCells, okEqCells, fillA, okFill, setAt, implies_true, forall_const, forall_eq, ne_eq, exists_eq_right_right, exists_eq_right, exists_eq_left, exists_eq_left', eRune, eName, he0, he1, he5, he6]
          repeat' (first | ((with_reducible refine Br.dec (fun _ => ?_) (fun _ => ?_)) <;> try (exfalso; omega)) | ((with_reducible refine Br.eq (fun _ => ?_) (fun _ => ?_)) <;> try (exfalso; omega)) | ((with_reducible refine Br.ne (fun _ => ?_) (fun _ => ?_)) <;> try (exfalso; omega)) | with_reducible refine Br.intro (fun _ => ?_) (fun _ => ?_) | (with_reducible refine And.intro ?_ ?_; · omega) | simp -dsimp -implicitDefEqProofs (disch := omega) only [↓vcOps_sp 32, ↓vcD_sp 32, ↓vcOps_sp 39, ↓vcD_sp 39, ↓vcOps_sp 52, ↓vcD_sp 52, ↓vcOps_sp 63, ↓vcD_sp 63, ↓vcOps_sp 74, ↓vcD_sp 74, VCA, pg_gl, ↓upd_none, Nat.reduceEqDiff, Nat.reduceBEq, Nat.reduceAdd, Nat.reduceSub, Nat.reduceMul, Nat.reduceLT, Nat.reduceLeDiff, ↓reduceIte, reduceCtorEq, rsOf, rootsOf, SOp.rd, SI.rd, SX.rd, rdL, rdO, rdP, okParts, eqCells, okEqCells, fillA, okFill, setAt, implies_true, forall_const, forall_eq, ne_eq, exists_eq_right_right, exists_eq_right, exists_eq_left, exists_eq_left', eRune, eName, he0, he1, he5, he6])
          all_goals first | exact fin quotS (by rw [b34.2 hc]; rfl) (by decide) | exact (fin quotS (by rw [b34.2 hc]; rfl) (by decide)).2
        · have hx : escC true (s.getD i 0) = [s.getD i 0] := by
            unfold escC
            rw [if_neg (fun e => hc.1 (b38.1 e)), if_neg (fun e => hc.2 (b34.1 e.2)), if_neg (by simp), if_neg (by simp)]
          simp -dsimp -implicitDefEqProofs (disch := omega) only [↓vcOps_sp 32, ↓vcD_sp 32, ↓vcOps_sp 39, ↓vcD_sp 39, ↓vcOps_sp 52, ↓vcD_sp 52, ↓vcOps_sp 63, ↓vcD_sp 63, ↓vcOps_sp 74, ↓vcD_sp 74, VCA, pg_gl, ↓upd_none, Nat.reduceEqDiff, Nat.reduceBEq, Nat.reduceAdd, Nat.reduceSub, Nat.reduceMul, Nat.reduceLT, Nat.reduceLeDiff, ↓reduceIte, reduceCtorEq, rsOf, rootsOf, SOp.rd, SI.rd, SX.rd, rdL, rdO, rdP, okParts, eqCells, okEqCells, fillA, okFill, setAt, implies_true, forall_const, forall_eq, ne_eq, exists_eq_right_right, exists_eq_right, exists_eq_left, exists_eq_left', eRune, eName, he0, he1, he5, he6]
          repeat' (first | ((with_reducible refine Br.dec (fun _ => ?_) (fun _ => ?_)) <;> try (exfalso; omega)) | ((with_reducible refine Br.eq (fun _ => ?_) (fun _ => ?_)) <;> try (exfalso; omega)) | ((with_reducible refine Br.ne (fun _ => ?_) (fun _ => ?_)) <;> try (exfalso; omega)) | with_reducible refine Br.intro (fun _ => ?_) (fun _ => ?_) | (with_reducible refine And.intro ?_ ?_; · omega) | simp -dsimp -implicitDefEqProofs (disch := omega) only [↓vcOps_sp 32, ↓vcD_sp 32, ↓vcOps_sp 39, ↓vcD_sp 39, ↓vcOps_sp 52, ↓vcD_sp 52, ↓vcOps_sp 63, ↓vcD_sp 63, ↓vcOps_sp 74, ↓vcD_sp 74, VCA, pg_gl, ↓upd_none, Nat.reduceEqDiff, Nat.reduceBEq, Nat.reduceAdd, Nat.reduceSub, Nat.reduceMul, Nat.reduceLT, Nat.reduceLeDiff, ↓reduceIte, reduceCtorEq, rsOf, rootsOf, SOp.rd, SI.rd, SX.rd, rdL, rdO, rdP, okParts, eqCells, okEqCells, fillA, okFill, setAt, implies_true, forall_const, forall_eq, ne_eq, exists_eq_right_right, exists_eq_right, exists_eq_left, exists_eq_left', eRune, eName, he0, he1, he5, he6])
          all_goals first | (rw [cut]; exact fin _ hx (by simp)) | (rw [cut]; exact (fin _ hx (by simp)).2)
  · simp -dsimp -implicitDefEqProofs (disch := omega) only [↓vcOps_sp 32, ↓vcD_sp 32, ↓vcOps_sp 39, ↓vcD_sp 39, ↓vcOps_sp 52, ↓vcD_sp 52, ↓vcOps_sp 63, ↓vcD_sp 63, ↓vcOps_sp 74, ↓vcD_sp 74, VCA, pg_gl, ↓upd_none, Nat.reduceEqDiff, Nat.reduceBEq, Nat.reduceAdd, Nat.reduceSub, Nat.reduceMul, Nat.reduceLT, Nat.reduceLeDiff, ↓reduceIte, reduceCtorEq, rsOf, rootsOf, SOp.rd, SI.rd, SX.rd, rdL, rdO, rdP, okParts, eqCells, okEqCells, fillA, okFill, setAt, implies_true, forall_const, forall_eq, ne_eq, exists_eq_right_right, exists_eq_right, exists_eq_left, exists_eq_left', eRune, eName, he0, he1, he5, he6]
    have : s.drop i = [] := List.drop_eq_nil_of_le (by omega)
    rw [this, escD_nil, List.append_nil] at hR
    exact ⟨Sub.refl _, by rw [hR]⟩
def c16 : SFun := ⟨(.seq (.reg [⟨(some 2), (.mv (.c (.str []))), none⟩]) (.seq (.reg [⟨(some 3), (.mv (.t 0)), none⟩, ⟨(some 4), (.pcall 28 [(.t 3), (.c (.bool true))]), none⟩, ⟨(some 2), (.mv (.t 4)), none⟩]) .ret)), [(.tmp 2)]⟩
theorem hc16 : toSF Tryd.prog {pure := [28]} Tryd.f16 = some c16 := by kernel_rfl
theorem hn16 : (Tryd.f16.name == "runtime.NumGoroutine") = false := by kernel_rfl
theorem value_ok (s : List UInt8) (hs : s.length ≤ 1073741823) : PCalls (Pg G) 16 [.str s] (.str (readD s true)) := fun h => by
  refine dcalls_of_vc Tryd.func16 hn16 hc16 (by rw [Tryd.ntmps16]; simp) (by rw [Tryd.ntmps16]; decide) ?_
  simp -dsimp -implicitDefEqProofs (disch := omega) only [VCA, pg_gl, ↓upd_none, Nat.reduceEqDiff, Nat.reduceBEq, Nat.reduceAdd, Nat.reduceSub, Nat.reduceMul, Nat.reduceLT, Nat.reduceLeDiff, ↓reduceIte, reduceCtorEq, rsOf, rootsOf, SOp.rd, SI.rd, SX.rd, rdL, rdO, rdP, okParts, eqCells, okEqCells, fillA, okFill, setAt, implies_true, forall_const, forall_eq, ne_eq, exists_eq_right_right, exists_eq_right, exists_eq_left, exists_eq_left', eRune, eName, c16]
  refine pcallE.of (read_ok s true hs) ?_; simp -dsimp -implicitDefEqProofs (disch := omega) only [VCA, pg_gl, ↓upd_none, Nat.reduceEqDiff, Nat.reduceBEq, Nat.reduceAdd, Nat.reduceSub, Nat.reduceMul, Nat.reduceLT, Nat.reduceLeDiff, ↓reduceIte, reduceCtorEq, rsOf, rootsOf, SOp.rd, SI.rd, SX.rd, rdL, rdO, rdP, okParts, eqCells, okEqCells, fillA, okFill, setAt, implies_true, forall_const, forall_eq, ne_eq, exists_eq_right_right, exists_eq_right, exists_eq_left, exists_eq_left', eRune, eName]
  exact Sub.refl _
def c4 : SFun := ⟨(.seq (.reg [⟨(some 4), (.mv (.c (.bool false))), none⟩]) (.seq (.reg [⟨(some 5), (.mv (.t 0)), none⟩, ⟨(some 6), (.pcall 5 [(.t 5), (.c (.int .i64 (200)))]), none⟩, ⟨(some 0), (.mv (.t 6)), none⟩]) (.seq (.reg [⟨(some 7), (.pcall 13 []), none⟩, ⟨(some 8), (.mv (.t 7)), none⟩, ⟨(some 9), (.mv (.t 0)), (some (8, true))⟩, ⟨(some 10), (.pcall 14 [(.t 9)]), (some (8, true))⟩, ⟨(some 11), (.mv (.t 0)), (some (8, true))⟩, ⟨(some 12), (.pcall 15 [(.t 11), (.c (.bool false))]), (some (8, true))⟩, ⟨(some 13), (.bin .eql (.t 10) (.t 12)), (some (8, true))⟩, ⟨(some 14), (.pick (.t 8) (.t 13) (.c (.bool false))), none⟩, ⟨(some 15), (.mv (.t 14)), none⟩, ⟨(some 16), (.mv (.t 0)), (some (15, true))⟩, ⟨(some 17), (.pcall 16 [(.t 16)]), (some (15, true))⟩, ⟨(some 18), (.mv (.t 0)), (some (15, true))⟩, ⟨(some 19), (.pcall 15 [(.t 18), (.c (.bool true))]), (some (15, true))⟩, ⟨(some 20), (.bin .eql (.t 17) (.t 19)), (some (15, true))⟩, ⟨(some 21), (.pick (.t 15) (.t 20) (.c (.bool false))), none⟩, ⟨(some 22), (.mv (.t 21)), none⟩, ⟨(some 23), (.mv (.t 0)), (some (22, true))⟩, ⟨(some 24), (.mv (.t 1)), (some (22, true))⟩, ⟨(some 25), (.pcall 17 [(.t 23), (.t 24)]), (some (22, true))⟩, ⟨(some 26), (.mv (.t 0)), (some (22, true))⟩, ⟨(some 27), (.mv (.t 1)), (some (22, true))⟩, ⟨(some 28), (.pcall 18 [(.t 26), (.t 27)]), (some (22, true))⟩, ⟨(some 29), (.bin .eql (.t 25) (.t 28)), (some (22, true))⟩, ⟨(some 30), (.pick (.t 22) (.t 29) (.c (.bool false))), none⟩, ⟨(some 4), (.mv (.t 30)), none⟩]) .ret))), [(.tmp 4)]⟩
theorem hc4 : toSF Tryd.prog {pure := [5, 13, 14, 16, 17, 15, 18]} Tryd.f4 = some c4 := by kernel_rfl
theorem hn4 : (Tryd.f4.name == "runtime.NumGoroutine") = false := by kernel_rfl
theorem entReads_ok (hG : MaxOK G) (s : List UInt8) (attr : Bool) (hs : s.length ≤ 1073741824) : PCalls (Pg G) 4 [.str s, .bool attr] (.bool true) := fun h => by
  have h0 : PCalls (Pg G) 5 [.str s, .int .i64 200] (.str (s.take 200)) := some_ok s 200 hs
  have hS : (s.take 200).length ≤ 200 := by rw [List.length_take]; omega
  refine dcalls_of_vc Tryd.func4 hn4 hc4 (by rw [Tryd.ntmps4]; simp) (by rw [Tryd.ntmps4]; decide) ?_
  simp -dsimp -implicitDefEqProofs (disch := omega) only [↓vcOps_sp 8, ↓vcD_sp 8, ↓vcOps_sp 15, ↓vcD_sp 15, ↓vcOps_sp 22, ↓vcD_sp 22, VCA, pg_gl, ↓upd_none, Nat.reduceEqDiff, Nat.reduceBEq, Nat.reduceAdd, Nat.reduceSub, Nat.reduceMul, Nat.reduceLT, Nat.reduceLeDiff, ↓reduceIte, reduceCtorEq, rsOf, rootsOf, SOp.rd, SI.rd, SX.rd, rdL, rdO, rdP, okParts, eqCells, okEqCells, fillA, okFill, setAt, implies_true, forall_const, forall_eq, ne_eq, exists_eq_right_right, exists_eq_right, exists_eq_left, exists_eq_left', eRune, eName, c4]
  refine pcallE.of (h0) ?_; simp -dsimp -implicitDefEqProofs (disch := omega) only [↓vcOps_sp 8, ↓vcD_sp 8, ↓vcOps_sp 15, ↓vcD_sp 15, ↓vcOps_sp 22, ↓vcD_sp 22, VCA, pg_gl, ↓upd_none, Nat.reduceEqDiff, Nat.reduceBEq, Nat.reduceAdd, Nat.reduceSub, Nat.reduceMul, Nat.reduceLT, Nat.reduceLeDiff, ↓reduceIte, reduceCtorEq, rsOf, rootsOf, SOp.rd, SI.rd, SX.rd, rdL, rdO, rdP, okParts, eqCells, okEqCells, fillA, okFill, setAt, implies_true, forall_const, forall_eq, ne_eq, exists_eq_right_right, exists_eq_right, exists_eq_left, exists_eq_left', eRune, eName]
  generalize s.take 200 = S at hS ⊢
  repeat' (first | ((with_reducible refine Br.dec (fun _ => ?_) (fun _ => ?_)) <;> try (exfalso; omega)) | ((with_reducible refine Br.eq (fun _ => ?_) (fun _ => ?_)) <;> try (exfalso; omega)) | ((with_reducible refine Br.ne (fun _ => ?_) (fun _ => ?_)) <;> try (exfalso; omega)) | with_reducible refine Br.intro (fun _ => ?_) (fun _ => ?_) | (with_reducible apply pcallE.of; · exact entityBegun_ok) | (with_reducible apply pcallE.of; · exact text_ok S (by omega)) | (with_reducible apply pcallE.of; · exact value_ok S (by omega)) | (with_reducible apply pcallE.of; · exact escape_ok hG S attr (by omega)) | (with_reducible apply pcallE.of; · exact refRead_ok S _ (by omega)) | (with_reducible apply pcallE.of; · exact refEscape_ok S attr (by omega)) | (with_reducible refine And.intro ?_ ?_; · omega) | simp -dsimp -implicitDefEqProofs (disch := omega) only [↓vcOps_sp 8, ↓vcD_sp 8, ↓vcOps_sp 15, ↓vcD_sp 15, ↓vcOps_sp 22, ↓vcD_sp 22, VCA, pg_gl, ↓upd_none, Nat.reduceEqDiff, Nat.reduceBEq, Nat.reduceAdd, Nat.reduceSub, Nat.reduceMul, Nat.reduceLT, Nat.reduceLeDiff, ↓reduceIte, reduceCtorEq, rsOf, rootsOf, SOp.rd, SI.rd, SX.rd, rdL, rdO, rdP, okParts, eqCells, okEqCells, fillA, okFill, setAt, implies_true, forall_const, forall_eq, ne_eq, exists_eq_right_right, exists_eq_right, exists_eq_left, exists_eq_left', eRune, eName])
  all_goals first | exact ⟨Sub.refl _, by simp⟩ | exact absurd rfl (by assumption)
end Go.Proofs.K
