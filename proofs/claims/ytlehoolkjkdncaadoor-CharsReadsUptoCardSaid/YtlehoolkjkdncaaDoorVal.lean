/- utf8.ValidString; chars.Right. -/
import Derived.Test.YtlehoolkjkdncaaDoorCln
import Derived.Test.YtlehoolkjkdncaaDoorTab
import Derived.Test.YtlehoolkjkdncaaDoorShelf
import Derived.Shelf.Unicode.ValidAny
import Derived.Lib.MapLaws
set_option linter.unusedSimpArgs false
set_option linter.unusedVariables false
namespace Go.Proofs.K
open Go Go.Sim Go.Proofs
variable {G : Glob}

theorem validString_ok (hG : TabsOK G) (s : List UInt8) (hs : s.length ≤ 1073741824) : PCalls (Pg G) 26 [.str s] (.bool (Lib.validD s)) := by
  refine ofBelow ⟨_, Tryd.func26, by kernel_rfl, by kernel_rfl⟩ fun g w vs GR V => ?_
  obtain ⟨v, rfl, hv⟩ := V.one_inv
  rw [hv.str_inv']
  exact (Any.utf8_ValidString Tryd.lays196 ⟨⟨s⟩⟩ w (by show s.length ≤ _; omega) (tabs_of GR hG)).mono fun e w' ⟨he, hw⟩ => ⟨_, he, hw, fun g w => .bool _⟩

/-! ## a text is right just if it is what its signs are written as -/
theorem decodeL_bt (l : List UInt8) : Lib.decodeL l = Lib.decodeN l.length (l.getD 0 0).toNat (l.getD 1 0).toNat (l.getD 2 0).toNat (l.getD 3 0).toNat := by
  unfold Lib.decodeL
  rw [Lib.decode_at]
  have e : ∀ i, (⟨l.toArray⟩ : ByteArray).get! i = l.getD i 0 := fun i => by
    show l.toArray[i]! = _
    simp [List.getD_eq_getElem?_getD]
    rfl
  rw [e, e, e, e]
  rfl
set_option maxRecDepth 100000 in
set_option maxHeartbeats 4000000 in
theorem one_decode (l : List UInt8) (hl : l ≠ []) : (Lib.decodeL l = (65533, 1) → (oneM l).1 = 65533) ∧ (Lib.decodeL l ≠ (65533, 1) → oneM l = (((Lib.decodeL l).1 : Int), (Lib.decodeL l).2)) := by
  rw [decodeL_bt]
  have hp := List.length_pos_iff.2 hl
  have k0 := (l.getD 0 0).toNat_lt
  have k1 := (l.getD 1 0).toNat_lt
  have k2 := (l.getD 2 0).toNat_lt
  have k3 := (l.getD 3 0).toNat_lt
  have f0 : bt l 0 = ((l.getD 0 0).toNat : Int) := rfl
  have f1 : bt l 1 = ((l.getD 1 0).toNat : Int) := rfl
  have f2 : bt l 2 = ((l.getD 2 0).toNat : Int) := rfl
  have f3 : bt l 3 = ((l.getD 3 0).toNat : Int) := rfl
  unfold oneM
  simp only [f0]
  generalize (l.getD 0 0).toNat = b0 at *
  generalize (l.getD 1 0).toNat = b1 at *
  generalize (l.getD 2 0).toNat = b2 at *
  generalize (l.getD 3 0).toNat = b3 at *
  rcases (by omega : b0 ≤ 127 ∨ (128 ≤ b0 ∧ b0 ≤ 193) ∨ (194 ≤ b0 ∧ b0 ≤ 223) ∨ (224 ≤ b0 ∧ b0 ≤ 239) ∨ (240 ≤ b0 ∧ b0 ≤ 244) ∨ 245 ≤ b0) with hc | hc | hc | hc | hc | hc
  · have hm : leadM (b0 : Int) = (0, 128, 191) := by unfold leadM; rw [if_pos (by omega)]
    rw [hm]
    have : Lib.decodeN l.length b0 b1 b2 b3 = (b0, 1) := by unfold Lib.decodeN; rw [if_pos (by omega)]
    rw [this]
    refine ⟨fun h => ?_, fun _ => by simp⟩
    have := congrArg Prod.fst h
    simp at this; omega
  · have hm : leadM (b0 : Int) = (-1, 128, 191) := by
      unfold leadM; repeat' split
      all_goals first | omega | rfl
    rw [hm]
    have : Lib.decodeN l.length b0 b1 b2 b3 = (65533, 1) := Lib.decodeN_bad _ _ _ _ _ (by omega)
    rw [this]
    exact ⟨fun _ => rfl, fun h => absurd rfl h⟩
  · have hm : leadM (b0 : Int) = (1, 128, 191) := by
      unfold leadM; repeat' split
      all_goals first | omega | rfl
    rw [hm]
    have := Lib.slow_C2 l.length b0 b1 b2 b3 (by omega) k1 k2 k3 (by omega)
    rw [← this]
    show (_ → (contM l 1 1 1 128 191 ((b0 : Int) % 32)).1 = 65533) ∧ (_ → contM l 1 1 1 128 191 ((b0 : Int) % 32) = _)
    unfold Lib.slowN contM contM
    simp only [f1]
    clear this f0 f1 f2 f3 hm
    repeat' split
    all_goals first
      | (exfalso; omega)
      | (refine ⟨fun _ => rfl, fun h => absurd rfl h⟩)
      | (refine ⟨fun h => ?_, fun _ => ?_⟩ <;> simp_all <;> omega)
  · have hm : ∃ lo hi : Nat, leadM (b0 : Int) = (2, (lo : Int), (hi : Int)) ∧ Lib.slowN l.length b0 b1 b2 b3 3 lo hi = Lib.decodeN l.length b0 b1 b2 b3 := by
      unfold leadM
      rw [if_neg (by omega), if_neg (by omega), if_pos (by omega)]
      by_cases h1 : b0 = 224
      · exact ⟨160, 191, by rw [if_pos (by omega), if_neg (by omega)]; rfl, Lib.slow_E0 _ _ _ _ _ (by omega) k1 k2 k3 h1⟩
      · by_cases h2 : b0 = 237
        · exact ⟨128, 159, by rw [if_neg (by omega), if_pos (by omega)]; rfl, Lib.slow_ED _ _ _ _ _ (by omega) k1 k2 k3 h2⟩
        · exact ⟨128, 191, by rw [if_neg (by omega), if_neg (by omega)]; rfl, Lib.slow_E1 _ _ _ _ _ (by omega) k1 k2 k3 (by omega)⟩
    obtain ⟨lo, hi, hm, this⟩ := hm
    rw [hm, ← this]
    show (_ → (contM l 2 2 1 lo hi ((b0 : Int) % 16)).1 = 65533) ∧ (_ → contM l 2 2 1 lo hi ((b0 : Int) % 16) = _)
    unfold Lib.slowN contM contM contM
    simp only [f1, f2, Nat.reduceAdd]
    clear this f0 f1 f2 f3 hm
    repeat' split
    all_goals first
      | (exfalso; omega)
      | (refine ⟨fun _ => rfl, fun h => absurd rfl h⟩)
      | (refine ⟨fun h => ?_, fun _ => ?_⟩ <;> simp_all <;> omega)
  · have hm : ∃ lo hi : Nat, leadM (b0 : Int) = (3, (lo : Int), (hi : Int)) ∧ Lib.slowN l.length b0 b1 b2 b3 4 lo hi = Lib.decodeN l.length b0 b1 b2 b3 := by
      unfold leadM
      rw [if_neg (by omega), if_neg (by omega), if_neg (by omega), if_pos (by omega)]
      by_cases h1 : b0 = 240
      · exact ⟨144, 191, by rw [if_pos (by omega), if_neg (by omega)]; rfl, Lib.slow_F0 _ _ _ _ _ (by omega) k1 k2 k3 h1⟩
      · by_cases h2 : b0 = 244
        · exact ⟨128, 143, by rw [if_neg (by omega), if_pos (by omega)]; rfl, Lib.slow_F4 _ _ _ _ _ (by omega) k1 k2 k3 h2⟩
        · exact ⟨128, 191, by rw [if_neg (by omega), if_neg (by omega)]; rfl, Lib.slow_F1 _ _ _ _ _ (by omega) k1 k2 k3 (by omega)⟩
    obtain ⟨lo, hi, hm, this⟩ := hm
    rw [hm, ← this]
    show (_ → (contM l 3 3 1 lo hi ((b0 : Int) % 8)).1 = 65533) ∧ (_ → contM l 3 3 1 lo hi ((b0 : Int) % 8) = _)
    unfold Lib.slowN contM contM contM contM
    simp only [f1, f2, f3, Nat.reduceAdd]
    clear this f0 f1 f2 f3 hm
    repeat' split
    all_goals first
      | (exfalso; omega)
      | (refine ⟨fun _ => rfl, fun h => absurd rfl h⟩)
      | (refine ⟨fun h => ?_, fun _ => ?_⟩ <;> simp_all <;> omega)
  · have hm : leadM (b0 : Int) = (-1, 128, 191) := by
      unfold leadM; repeat' split
      all_goals first | omega | rfl
    rw [hm]
    have : Lib.decodeN l.length b0 b1 b2 b3 = (65533, 1) := Lib.decodeN_bad _ _ _ _ _ (by omega)
    rw [this]
    exact ⟨fun _ => rfl, fun h => absurd rfl h⟩
theorem encM_cons (r : Int) (l : List Int) : encM (r :: l) = Lib.encodeRune r ++ encM l := by simp [encM]
theorem enc_wrong : Lib.encodeRune 65533 = [239, 191, 189] := by decide +kernel
theorem valid_enc : ∀ (n : Nat) (s : List UInt8), s.length ≤ n → Lib.validD s = (encM (decD s) == s) := by
  intro n
  induction n with
  | zero =>
    intro s hs
    have : s = [] := List.eq_nil_of_length_eq_zero (by omega)
    subst this
    rw [Lib.validD_nil, decD_nil]; rfl
  | succ n ih =>
    intro s hs
    by_cases hne : s = []
    · subst hne
      rw [Lib.validD_nil, decD_nil]; rfl
    · obtain ⟨hA, hB⟩ := one_decode s hne
      rw [Lib.validD_step s hne, decD_cons hne, encM_cons]
      by_cases hv : (Lib.decodeL s).1 = 65533 ∧ (Lib.decodeL s).2 = 1
      · rw [if_pos hv]
        have he : Lib.decodeL s = (65533, 1) := Prod.ext hv.1 hv.2
        rw [hA he, enc_wrong]
        symm
        rw [beq_eq_false_iff_ne]
        intro h
        rw [← h] at he
        rw [decodeL_bt] at he
        simp [Lib.decodeN] at he
      · rw [if_neg hv]
        have hx := hB fun he => hv ⟨by rw [he], by rw [he]⟩
        have hw := oneM_n hne
        rw [hx] at hw
        simp only at hw
        rw [hx]
        simp only
        rw [Lib.encode_decode s hne hv, ih _ (by rw [List.length_drop]; omega)]
        rw [Bool.eq_iff_iff, beq_iff_eq, beq_iff_eq]
        conv => rhs; rhs; rw [← List.take_append_drop (Lib.decodeL s).2 s]
        rw [List.append_cancel_left_eq]
def c12 : SFun := ⟨(.seq (.reg [⟨(some 2), (.mv (.c (.bool false))), none⟩]) (.seq (.reg [⟨(some 3), (.mv (.t 0)), none⟩, ⟨(some 4), (.pcall 26 [(.t 3)]), none⟩, ⟨(some 2), (.mv (.t 4)), none⟩]) .ret)), [(.tmp 2)]⟩
theorem hc12 : toSF Tryd.prog {pure := [26]} Tryd.f12 = some c12 := by kernel_rfl
theorem hn12 : (Tryd.f12.name == "runtime.NumGoroutine") = false := by kernel_rfl
theorem right_ok (hG : TabsOK G) (s : List UInt8) (hs : s.length ≤ 1073741824) : PCalls (Pg G) 12 [.str s] (.bool (encM (decD s) == s)) := fun h => by
  refine dcalls_of_vc Tryd.func12 hn12 hc12 (by rw [Tryd.ntmps12]; simp) (by rw [Tryd.ntmps12]; decide) ?_
  simp -dsimp -implicitDefEqProofs (disch := omega) only [VCA, pg_gl, ↓upd_none, Nat.reduceEqDiff, Nat.reduceBEq, Nat.reduceAdd, Nat.reduceSub, Nat.reduceMul, Nat.reduceLT, Nat.reduceLeDiff, ↓reduceIte, reduceCtorEq, rsOf, rootsOf, SOp.rd, SI.rd, SX.rd, rdL, rdO, rdP, okParts, eqCells, okEqCells, fillA, okFill, setAt, implies_true, forall_const, forall_eq, ne_eq, exists_eq_right_right, exists_eq_right, exists_eq_left, exists_eq_left', eRune, c12]
  refine pcallE.of (validString_ok hG s hs) ?_; simp -dsimp -implicitDefEqProofs (disch := omega) only [VCA, pg_gl, ↓upd_none, Nat.reduceEqDiff, Nat.reduceBEq, Nat.reduceAdd, Nat.reduceSub, Nat.reduceMul, Nat.reduceLT, Nat.reduceLeDiff, ↓reduceIte, reduceCtorEq, rsOf, rootsOf, SOp.rd, SI.rd, SX.rd, rdL, rdO, rdP, okParts, eqCells, okEqCells, fillA, okFill, setAt, implies_true, forall_const, forall_eq, ne_eq, exists_eq_right_right, exists_eq_right, exists_eq_left, exists_eq_left', eRune]
  exact ⟨Sub.refl _, valid_enc s.length s (Nat.le_refl _)⟩
def c3 : SFun := ⟨(.seq (.reg [⟨(some 4), (.mv (.c (.bool false))), none⟩]) (.seq (.dreg [(⟨(some 7), (.mv (.t 0)), none⟩, false), (⟨(some 8), (.pcall 5 [(.t 7), (.c (.int .i64 (300)))]), none⟩, false), (⟨(some 9), (.mv (.t 1)), none⟩, false), (⟨(some 10), (.mv (.t 1)), none⟩, false), (⟨(some 11), (.len (.t 10)), none⟩, false), (⟨(some 12), (.min2 (.t 11) (.c (.int .i64 (200)))), none⟩, false), (⟨(some 13), (.slA 1 (.t 9) none (some (.t 12))), none⟩, false), (⟨(some 0), (.mv (.t 8)), none⟩, true), (⟨(some 1), (.mv (.t 13)), none⟩, true)]) (.seq (.reg [⟨(some 14), (.mv (.t 0)), none⟩, ⟨(some 15), (.pcall 6 [(.t 14)]), none⟩, ⟨(some 5), (.mv (.t 15)), none⟩]) (.seq (.reg [⟨(some 16), (.mv (.t 1)), none⟩, ⟨(some 17), (.pcall 7 [(.t 16)]), none⟩, ⟨(some 6), (.mv (.t 17)), none⟩]) (.seq (.reg [⟨(some 18), (.pcall 8 []), none⟩, ⟨(some 19), (.mv (.t 18)), none⟩, ⟨(some 20), (.mv (.t 5)), (some (19, true))⟩, ⟨(some 21), (.mv (.t 0)), (some (19, true))⟩, ⟨(some 22), (.pcall 10 [(.t 21)]), (some (19, true))⟩, ⟨(some 23), (.pcall 9 [(.t 20), (.t 22)]), (some (19, true))⟩, ⟨(some 24), (.pick (.t 19) (.t 23) (.c (.bool false))), none⟩, ⟨(some 25), (.mv (.t 24)), none⟩, ⟨(some 26), (.mv (.t 6)), (some (25, true))⟩, ⟨(some 27), (.mv (.t 1)), (some (25, true))⟩, ⟨(some 28), (.pcall 11 [(.t 27)]), (some (25, true))⟩, ⟨(some 29), (.bin .eql (.t 26) (.t 28)), (some (25, true))⟩, ⟨(some 30), (.pick (.t 25) (.t 29) (.c (.bool false))), none⟩, ⟨(some 31), (.mv (.t 30)), none⟩, ⟨(some 32), (.mv (.t 0)), (some (31, true))⟩, ⟨(some 33), (.pcall 12 [(.t 32)]), (some (31, true))⟩, ⟨(some 34), (.mv (.t 0)), (some (31, true))⟩, ⟨(some 35), (.pcall 10 [(.t 34)]), (some (31, true))⟩, ⟨(some 36), (.pcall 11 [(.t 35)]), (some (31, true))⟩, ⟨(some 37), (.mv (.t 0)), (some (31, true))⟩, ⟨(some 38), (.bin .eql (.t 36) (.t 37)), (some (31, true))⟩, ⟨(some 39), (.eqb false (.t 33) (.t 38)), (some (31, true))⟩, ⟨(some 40), (.pick (.t 31) (.t 39) (.c (.bool false))), none⟩, ⟨(some 4), (.mv (.t 40)), none⟩]) .ret))))), [(.tmp 4)]⟩
theorem hc3 : toSF Tryd.prog {pure := [5, 8, 6, 7, 12, 10, 11, 9]} Tryd.f3 = some c3 := by kernel_rfl
theorem hn3 : (Tryd.f3.name == "runtime.NumGoroutine") = false := by kernel_rfl
theorem reads_ok (hG : TabsOK G) (s : List UInt8) (l : List Int) (hl : I32 l) (hs : s.length ≤ 1073741824) (hll : l.length ≤ 1073741824) : PCalls (Pg G) 3 [.str s, sl eRune l] (.bool true) := fun h => by
  refine dcalls_of_vc Tryd.func3 hn3 hc3 (by rw [Tryd.ntmps3]; simp) (by rw [Tryd.ntmps3]; decide) ?_
  simp -dsimp -implicitDefEqProofs (disch := omega) only [↓vcOps_sp 19, ↓vcD_sp 19, ↓vcOps_sp 25, ↓vcD_sp 25, ↓vcOps_sp 31, ↓vcD_sp 31, VCA, pg_gl, ↓upd_none, Nat.reduceEqDiff, Nat.reduceBEq, Nat.reduceAdd, Nat.reduceSub, Nat.reduceMul, Nat.reduceLT, Nat.reduceLeDiff, ↓reduceIte, reduceCtorEq, rsOf, rootsOf, SOp.rd, SI.rd, SX.rd, rdL, rdO, rdP, okParts, eqCells, okEqCells, fillA, okFill, setAt, implies_true, forall_const, forall_eq, ne_eq, exists_eq_right_right, exists_eq_right, exists_eq_left, exists_eq_left', eRune, c3]
  have h0 : PCalls (Pg G) 5 [.str s, .int .i64 300] (.str (s.take 300)) := some_ok s 300 hs
  repeat' (first | ((with_reducible refine Br.dec (fun _ => ?_) (fun _ => ?_)) <;> try (exfalso; omega)) | ((with_reducible refine Br.eq (fun _ => ?_) (fun _ => ?_)) <;> try (exfalso; omega)) | ((with_reducible refine Br.ne (fun _ => ?_) (fun _ => ?_)) <;> try (exfalso; omega)) | with_reducible refine Br.intro (fun _ => ?_) (fun _ => ?_) | (with_reducible apply pcallE.of; · exact h0) | (with_reducible refine And.intro ?_ ?_; · omega) | simp -dsimp -implicitDefEqProofs (disch := omega) only [↓vcOps_sp 19, ↓vcD_sp 19, ↓vcOps_sp 25, ↓vcD_sp 25, ↓vcOps_sp 31, ↓vcD_sp 31, VCA, pg_gl, ↓upd_none, Nat.reduceEqDiff, Nat.reduceBEq, Nat.reduceAdd, Nat.reduceSub, Nat.reduceMul, Nat.reduceLT, Nat.reduceLeDiff, ↓reduceIte, reduceCtorEq, rsOf, rootsOf, SOp.rd, SI.rd, SX.rd, rdL, rdO, rdP, okParts, eqCells, okEqCells, fillA, okFill, setAt, implies_true, forall_const, forall_eq, ne_eq, exists_eq_right_right, exists_eq_right, exists_eq_left, exists_eq_left', eRune])
  have hS : (s.take 300).length ≤ 300 := by rw [List.length_take]; omega
  generalize s.take 300 = S at hS ⊢
  have hL : (l.take (min (l.length : Int) 200).toNat).length ≤ 200 := by rw [List.length_take]; omega
  have hI : I32 (l.take (min (l.length : Int) 200).toNat) := fun r hr => hl r (List.mem_of_mem_take hr)
  generalize l.take (min (l.length : Int) 200).toNat = L at hL hI ⊢
  have hD := decD_len S S.length (Nat.le_refl _)
  have hDI : I32 (decD S) := fun r hr => by have := I32_dec S S.length (Nat.le_refl _) r hr; omega
  repeat' (first | ((with_reducible refine Br.dec (fun _ => ?_) (fun _ => ?_)) <;> try (exfalso; omega)) | ((with_reducible refine Br.eq (fun _ => ?_) (fun _ => ?_)) <;> try (exfalso; omega)) | ((with_reducible refine Br.ne (fun _ => ?_) (fun _ => ?_)) <;> try (exfalso; omega)) | with_reducible refine Br.intro (fun _ => ?_) (fun _ => ?_) | (with_reducible apply pcallE.of; · exact decode_ok S (by omega)) | (with_reducible apply pcallE.of; · exact encode_ok L hI (by omega)) | (with_reducible apply pcallE.of; · exact charsBegun_ok) | (with_reducible apply pcallE.of; · exact right_ok hG S (by omega)) | (with_reducible apply pcallE.of; · exact refDecode_ok S (by omega)) | (with_reducible apply pcallE.of; · exact refEncode_ok L hI (by omega)) | (with_reducible apply pcallE.of; · exact refEncode_ok (decD S) hDI (by omega)) | (with_reducible apply pcallE.of; · exact sameR_ok _ _ (by omega) (by omega)) | (with_reducible refine And.intro ?_ ?_; · omega) | simp -dsimp -implicitDefEqProofs (disch := omega) only [↓vcOps_sp 19, ↓vcD_sp 19, ↓vcOps_sp 25, ↓vcD_sp 25, ↓vcOps_sp 31, ↓vcD_sp 31, VCA, pg_gl, ↓upd_none, Nat.reduceEqDiff, Nat.reduceBEq, Nat.reduceAdd, Nat.reduceSub, Nat.reduceMul, Nat.reduceLT, Nat.reduceLeDiff, ↓reduceIte, reduceCtorEq, rsOf, rootsOf, SOp.rd, SI.rd, SX.rd, rdL, rdO, rdP, okParts, eqCells, okEqCells, fillA, okFill, setAt, implies_true, forall_const, forall_eq, ne_eq, exists_eq_right_right, exists_eq_right, exists_eq_left, exists_eq_left', eRune])
  all_goals first | exact ⟨Sub.refl _, by simp⟩ | exact absurd rfl (by assumption)
end Go.Proofs.K
