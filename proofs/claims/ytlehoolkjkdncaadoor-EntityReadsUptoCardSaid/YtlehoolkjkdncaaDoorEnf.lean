/- entity.Find. -/
import Derived.Test.YtlehoolkjkdncaaDoorEnr
set_option linter.unusedSimpArgs false
set_option linter.unusedVariables false
namespace Go.Proofs.K
open Go Go.Sim Go.Proofs
variable {G : Glob}

/-! ## The plain law -/
/-- how far a name reaches (0: not at all) -/
def hitN (s : List UInt8) (x : EName) : Nat :=
  if hasPre (s.drop 1) x.word = true then (if semiM s (x.word.length + 1) = x.word.length + 1 ∧ x.bare = false then 0 else semiM s (x.word.length + 1)) else 0
def stepE (s : List UInt8) (r : List UInt8 × Nat) (x : EName) : List UInt8 × Nat := if r.2 < hitN s x then (signM x.sign, hitN s x) else r
def bestE (s : List UInt8) (l : List EName) : List UInt8 × Nat := l.foldl (stepE s) ([], 0)
theorem bestE_is (s : List UInt8) (l : List EName) : (∀ x ∈ l, hitN s x ≤ (bestE s l).2) ∧ ((bestE s l).2 = 0 ∧ (bestE s l).1 = [] ∨ 0 < (bestE s l).2 ∧ ∃ x ∈ l, hitN s x = (bestE s l).2 ∧ (bestE s l).1 = signM x.sign) := by
  induction l using snoc_ind with
  | h0 => exact ⟨(fun x hx => by cases hx), .inl ⟨rfl, rfl⟩⟩
  | h1 l y ih =>
    have e : bestE s (l ++ [y]) = stepE s (bestE s l) y := by simp [bestE]
    rw [e]
    obtain ⟨i1, i2⟩ := ih
    unfold stepE
    split
    · rename_i h
      refine ⟨fun x hx => ?_, .inr ⟨by simp; omega, y, by simp, rfl, rfl⟩⟩
      rcases List.mem_append.1 hx with hx | hx
      · have := i1 x hx; simp; omega
      · simp at hx; subst hx; simp
    · rename_i h
      refine ⟨fun x hx => ?_, ?_⟩
      · rcases List.mem_append.1 hx with hx | hx
        · exact i1 x hx
        · simp at hx; subst hx; omega
      · rcases i2 with h0 | ⟨h0, x, hx, h1, h2⟩
        · exact .inl h0
        · exact .inr ⟨h0, x, List.mem_append.2 (.inl hx), h1, h2⟩
/-- the name that ends at k, in the table -/
def nmK (s : List UInt8) (k : Nat) : List UInt8 := if bt s (k - 1) = 59 then (s.take (k - 1)).drop 1 else (s.take k).drop 1
def mkK (s : List UInt8) (k : Nat) : Option EName := (entT.find? (fun x => x.word == nmK s k)).filter fun x => decide (bt s (k - 1) = 59) || x.bare
structure EOK (x : EName) : Prop where
  a1 : 1 ≤ x.word.length
  a2 : x.word.length ≤ 6
  a3 : x.word.getLastD 0 ≠ 59
  a4 : 13 < x.sign
  a5 : x.sign < 65533
theorem eOK {x : EName} (h : x ∈ entT) : EOK x := by
  have := List.all_eq_true.1 entT_ok x h
  simp only [Bool.and_eq_true, decide_eq_true_eq, bne_iff_ne] at this
  obtain ⟨⟨⟨⟨h1, h2⟩, h3⟩, h4⟩, h5⟩ := this
  exact ⟨h1, h2, h3, h4, h5⟩
theorem find_word {x : EName} (h : x ∈ entT) : entT.find? (fun y => y.word == x.word) = some x := by
  cases hf : entT.find? (fun y => y.word == x.word) with
  | none => rw [List.find?_eq_none] at hf; have := hf x h; simp at this
  | some y =>
    have hy := List.mem_of_find?_eq_some hf
    have hw : y.word = x.word := by simpa using List.find?_some hf
    have hnd := entT_nodup
    have : y = x := by
      obtain ⟨i, hi, rfl⟩ := List.getElem_of_mem hy
      obtain ⟨j, hj, rfl⟩ := List.getElem_of_mem h
      have hij : i = j := by
        have hp := List.pairwise_iff_getElem.1 hnd
        rcases Nat.lt_trichotomy i j with h | h | h
        · exact absurd (by rw [List.getElem_map, List.getElem_map]; simpa using hw) (hp i j (by simpa using hi) (by simpa using hj) h)
        · exact h
        · exact absurd (by rw [List.getElem_map, List.getElem_map]; simpa using hw.symm) (hp j i (by simpa using hj) (by simpa using hi) h)
      subst hij; rfl
    rw [this]
theorem pre_take {s w : List UInt8} (h : hasPre (s.drop 1) w = true) : w.length + 1 ≤ s.length ∨ w = [] := by
  simp only [hasPre, Bool.and_eq_true, decide_eq_true_eq, List.length_drop] at h
  by_cases hw : w = []
  · exact .inr hw
  · have := List.length_pos_iff.2 hw; left; omega
theorem take_drop1 (s : List UInt8) (n : Nat) : (s.take (n + 1)).drop 1 = (s.drop 1).take n := by
  rw [List.drop_take]; simp
theorem hit_mk {s : List UInt8} {x : EName} (hx : x ∈ entT) (h : 0 < hitN s x) : mkK s (hitN s x) = some x ∧ 2 ≤ hitN s x ∧ hitN s x ≤ 8 ∧ hitN s x ≤ s.length := by
  have E := eOK hx
  have a1 := E.a1
  have a2 := E.a2
  unfold hitN at h ⊢
  split at h
  case isFalse => omega
  rename_i hp
  have hl := (pre_take hp).resolve_right (by intro h; rw [h] at a1; simp at a1)
  have hw : (s.drop 1).take x.word.length = x.word := by
    simp only [hasPre, Bool.and_eq_true, beq_iff_eq] at hp; exact hp.2
  split at h
  · omega
  rename_i hb
  rw [if_pos hp, if_neg hb]
  have hlast : bt s x.word.length ≠ 59 := by
    have h3 := E.a3
    intro hh
    apply h3
    have : x.word.getLastD 0 = s.getD x.word.length 0 := by
      have hne : x.word ≠ [] := by intro h; rw [h] at a1; simp at a1
      conv => lhs; rw [← hw]
      rw [List.getLastD_eq_getLast?, List.getLast?_eq_getElem?, List.length_take, List.length_drop, Nat.min_eq_left (by omega), List.getElem?_take, if_pos (by omega), List.getElem?_drop, List.getD_eq_getElem?_getD]
      have : 1 + (x.word.length - 1) = x.word.length := by omega
      rw [this]
    rw [this]
    unfold bt at hh
    have h59 : (59 : UInt8).toNat = 59 := rfl
    exact UInt8.toNat_inj.1 (by omega)
  have hsm : semiM s (x.word.length + 1) = x.word.length + 1 ∨ semiM s (x.word.length + 1) = x.word.length + 2 ∧ x.word.length + 1 < s.length ∧ bt s (x.word.length + 1) = 59 := by
    unfold semiM
    split
    · rename_i h; exact .inr ⟨rfl, h.1, h.2⟩
    · exact .inl rfl
  have hfw := find_word hx
  rcases hsm with e | ⟨e, h1, h2⟩
  · rw [e]
    have hbare : x.bare = true := by
      cases hxb : x.bare with
      | true => rfl
      | false => exact absurd ⟨e, hxb⟩ hb
    refine ⟨?_, by omega, by omega, by omega⟩
    have hn : nmK s (x.word.length + 1) = x.word := by
      unfold nmK; rw [Nat.add_sub_cancel, if_neg hlast, take_drop1, hw]
    unfold mkK
    rw [hn, hfw, Option.filter, hbare]; simp
  · rw [e]
    refine ⟨?_, by omega, by omega, by omega⟩
    have hn : nmK s (x.word.length + 2) = x.word := by
      unfold nmK
      have : x.word.length + 2 - 1 = x.word.length + 1 := by omega
      rw [this, if_pos h2, take_drop1, hw]
    unfold mkK
    have : x.word.length + 2 - 1 = x.word.length + 1 := by omega
    rw [hn, hfw, Option.filter, this, h2]; simp
theorem mk_hit {s : List UInt8} {x : EName} {k : Nat} (h2 : 2 ≤ k) (hk : k ≤ s.length) (h : mkK s k = some x) : x ∈ entT ∧ k ≤ hitN s x := by
  unfold mkK at h
  rw [Option.filter_eq_some_iff] at h
  obtain ⟨hf, hb⟩ := h
  have hx := List.mem_of_find?_eq_some hf
  have hw : x.word = nmK s k := by simpa using List.find?_some hf
  refine ⟨hx, ?_⟩
  have a1 := (eOK hx).a1
  unfold nmK at hw
  have key : ∀ n, (s.take (n + 1)).drop 1 = x.word → n + 1 ≤ s.length → hasPre (s.drop 1) x.word = true ∧ x.word.length = n := by
    intro n h1 h3
    have hl : x.word.length = n := by rw [← h1, List.length_drop, List.length_take]; omega
    refine ⟨?_, hl⟩
    simp only [hasPre, Bool.and_eq_true, decide_eq_true_eq, beq_iff_eq, List.length_drop]
    refine ⟨by omega, ?_⟩
    rw [hl, ← take_drop1]; exact h1
  split at hw
  · rename_i hsemi
    obtain ⟨k, rfl⟩ : ∃ m, k = m + 2 := ⟨k - 2, by omega⟩
    have e1 : k + 2 - 1 = k + 1 := by omega
    rw [e1] at hw hsemi
    obtain ⟨hp, hl⟩ := key k hw.symm (by omega)
    have hsm : semiM s (x.word.length + 1) = k + 2 := by
      unfold semiM; rw [hl, if_pos ⟨by omega, hsemi⟩]
    unfold hitN
    rw [if_pos hp, hsm, if_neg (by omega)]
    omega
  · rename_i hsemi
    obtain ⟨k, rfl⟩ : ∃ m, k = m + 1 := ⟨k - 1, by omega⟩
    obtain ⟨hp, hl⟩ := key k hw.symm hk
    have hbare : x.bare = true := by
      rw [Nat.add_sub_cancel] at hb hsemi
      simpa [hsemi] using hb
    unfold hitN
    rw [if_pos hp, if_neg (by rw [hbare]; simp)]
    unfold semiM
    split <;> omega
/-- from k on down: the first one -/
def downK (s : List UInt8) : Nat → Option (Nat × EName)
  | 0 => none
  | k + 1 => if 2 ≤ k + 1 ∧ k + 1 ≤ s.length then (match mkK s (k + 1) with | some x => some (k + 1, x) | none => downK s k) else downK s k
theorem downK_is (s : List UInt8) : ∀ k, (∀ j x, downK s k = some (j, x) → 2 ≤ j ∧ j ≤ k ∧ j ≤ s.length ∧ mkK s j = some x ∧ ∀ i, j < i → i ≤ k → i ≤ s.length → mkK s i = none) ∧ (downK s k = none → ∀ i, 2 ≤ i → i ≤ k → i ≤ s.length → mkK s i = none)
  | 0 => ⟨(fun j x h => by cases h), fun _ i h1 h2 => by omega⟩
  | k + 1 => by
    obtain ⟨i1, i2⟩ := downK_is s k
    unfold downK
    split
    · rename_i hc
      split
      · rename_i x hx
        refine ⟨fun j y h => ?_, fun h => by cases h⟩
        cases h
        exact ⟨hc.1, by omega, hc.2, hx, fun i h1 h2 => by omega⟩
      · rename_i hx
        refine ⟨fun j y h => ?_, fun h i h1 h2 h3 => ?_⟩
        · obtain ⟨a, b, c, d, e⟩ := i1 j y h
          refine ⟨a, by omega, c, d, fun i h1 h2 h3 => ?_⟩
          by_cases hik : i = k + 1
          · subst hik; exact hx
          · exact e i h1 (by omega) h3
        · by_cases hik : i = k + 1
          · subst hik; exact hx
          · exact i2 h i h1 (by omega) h3
    · rename_i hc
      refine ⟨fun j y h => ?_, fun h i h1 h2 h3 => ?_⟩
      · obtain ⟨a, b, c, d, e⟩ := i1 j y h
        refine ⟨a, by omega, c, d, fun i h1 h2 h3 => ?_⟩
        by_cases hik : i = k + 1
        · subst hik; omega
        · exact e i h1 (by omega) h3
      · by_cases hik : i = k + 1
        · subst hik; omega
        · exact i2 h i h1 (by omega) h3
theorem best_down (s : List UInt8) : (downK s 10 = none ∧ bestE s entT = ([], 0)) ∨ ∃ k x, downK s 10 = some (k, x) ∧ bestE s entT = (signM x.sign, k) ∧ 2 ≤ k ∧ k ≤ s.length ∧ x ∈ entT := by
  obtain ⟨b1, b2⟩ := bestE_is s entT
  obtain ⟨d1, d2⟩ := downK_is s 10
  rcases b2 with ⟨h1, h2⟩ | ⟨h1, x, hx, h2, h3⟩
  · left
    refine ⟨?_, Prod.ext h2 h1⟩
    cases hd : downK s 10 with
    | none => rfl
    | some p =>
      obtain ⟨j, x⟩ := p
      obtain ⟨a, b, c, d, _⟩ := d1 j x hd
      obtain ⟨hx, hh⟩ := mk_hit a c d
      have := b1 x hx
      omega
  · right
    obtain ⟨m1, m2, m3, m4⟩ := hit_mk (s := s) hx (by omega)
    rw [h2] at m1 m2 m3 m4
    refine ⟨(bestE s entT).2, x, ?_, Prod.ext h3 rfl, m2, m4, hx⟩
    cases hd : downK s 10 with
    | none => rw [d2 hd _ m2 (by omega) m4] at m1; cases m1
    | some p =>
      obtain ⟨j, y⟩ := p
      obtain ⟨a, b, c, d, e⟩ := d1 j y hd
      obtain ⟨hy, hh⟩ := mk_hit a c d
      have h4 := b1 y hy
      have : j = (bestE s entT).2 := by
        rcases Nat.lt_trichotomy j (bestE s entT).2 with h | h | h
        · rw [e _ h (by omega) m4] at m1; cases m1
        · exact h
        · omega
      subst this
      rw [m1] at d; cases d; rfl
end Go.Proofs.K
