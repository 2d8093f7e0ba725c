/- Library functions on strings: contracts, from the shelf's. -/
import Derived.Test.YtlehoolkjkdncaaLst
import Derived.Test.YtlehoolkjkdncaaShelf
import Derived.Test.YtlehoolkjkdncaaSimLaw
import Derived.Lib.IndexMore
set_option linter.unusedSimpArgs false
set_option linter.unusedVariables false
namespace Go.Proofs.K
open Go Go.Sim Go.Proofs
variable {G : Glob}

def eStr (s : List UInt8) : List AVal := [.str s]
instance : LenE eStr 1 := ⟨fun _ => rfl⟩
def MaxLenOK (G : Glob) : Prop := ∃ m, G 0 = .pin [aInt m]
theorem contains_ok (hG : MaxLenOK G) (s t : List UInt8) (hs : s.length < 4294967281) : PCalls (Pg G) 98 [.str s, .str t] (.bool (Lib.contains s t)) := by
  obtain ⟨m, hG⟩ := hG
  refine PCalls.ofRun ⟨_, Try.func98, by kernel_rfl, by kernel_rfl⟩ fun g w vs GR V => ?_
  obtain ⟨u, v, rfl, hu, hv⟩ := V.two_inv
  rw [hu.str_inv', hv.str_inv']
  exact (Try.strings_Contains ⟨⟨s⟩⟩ ⟨⟨t⟩⟩ m w hs (GR.int hG)).mono fun e w' ⟨he, hw⟩ => ⟨_, he, hw, .bool _⟩
theorem index_ok (hG : MaxLenOK G) (s t : List UInt8) (hs : s.length < 4294967281) : PCalls (Pg G) 115 [.str s, .str t] (aInt (Lib.index s t)) := by
  obtain ⟨m, hG⟩ := hG
  refine PCalls.ofRun ⟨_, Try.func115, by kernel_rfl, by kernel_rfl⟩ fun g w vs GR V => ?_
  obtain ⟨u, v, rfl, hu, hv⟩ := V.two_inv
  rw [hu.str_inv', hv.str_inv']
  exact (Try.strings_Index ⟨⟨s⟩⟩ ⟨⟨t⟩⟩ m w hs (GR.int hG)).mono fun e w' ⟨he, hw⟩ => ⟨_, he, hw, .int _ _⟩

/-! ## what 'contains' says -/
theorem contains_iff (s t : List UInt8) : Lib.contains s t = true ↔ ∃ a b, s = a ++ t ++ b := by
  unfold Lib.contains
  rw [decide_eq_true_iff]
  constructor
  · intro h
    rcases Lib.index_spec s t with ⟨h1, _⟩ | ⟨i, h1, h2, h3, _⟩
    · omega
    · unfold Lib.occAt at h3
      rw [List.isPrefixOf_iff_prefix] at h3
      obtain ⟨b, hb⟩ := h3
      exact ⟨s.take i, b, by rw [List.append_assoc, hb, List.take_append_drop]⟩
  · rintro ⟨a, b, rfl⟩
    rcases Lib.index_spec (a ++ t ++ b) t with ⟨_, h2⟩ | ⟨i, h1, _⟩
    · have := h2 a.length (by simp)
      unfold Lib.occAt at this
      rw [List.append_assoc, List.drop_left] at this
      have h : t.isPrefixOf (t ++ b) = true := by rw [List.isPrefixOf_iff_prefix]; exact ⟨b, rfl⟩
      rw [h] at this; cases this
    · omega
theorem byte_eq (c : UInt8) (n : Nat) (h : n < 256) : ((c.toNat : Int) = n) = (c = UInt8.ofNat n) := by
  apply propext
  constructor
  · intro e
    have e : c.toNat = n := by omega
    rw [← e]; simp
  · rintro rfl; simp; omega

/-! ## words of a text, with one blank between two -/
def splitB (b : UInt8) : List UInt8 → List UInt8 → List (List UInt8)
  | cur, [] => [cur]
  | cur, c :: r => if c = b then cur :: splitB b [] r else splitB b (cur ++ [c]) r
theorem splitB_ne (b : UInt8) (cur s : List UInt8) : splitB b cur s ≠ [] := by
  induction s generalizing cur with
  | nil => simp [splitB]
  | cons c r ih => unfold splitB; split <;> simp [ih]
theorem splitB_cur (b : UInt8) (cur s : List UInt8) : splitB b cur s = (cur ++ (splitB b [] s).headD []) :: (splitB b [] s).tail := by
  induction s generalizing cur with
  | nil => simp [splitB]
  | cons c r ih =>
    by_cases h : c = b
    · simp [splitB, h]
    · simp only [splitB, if_neg h]
      rw [ih (cur ++ [c]), ih ([] ++ [c])]
      simp
theorem split_head (b : UInt8) (nm s : List UInt8) (hn : b ∉ nm) : (∃ post, s ++ [b] = nm ++ b :: post) ↔ nm = (splitB b [] s).headD [] := by
  induction s generalizing nm with
  | nil =>
    constructor
    · rintro ⟨post, h⟩
      cases nm with
      | nil => rfl
      | cons x r => simp at h
    · intro h; exact ⟨[], by rw [h]; rfl⟩
  | cons c r ih =>
    by_cases hc : c = b
    · subst hc
      simp only [splitB, if_true, List.headD_cons]
      constructor
      · rintro ⟨post, h⟩
        cases nm with
        | nil => rfl
        | cons x r => simp at h; exact absurd (by simp [h.1]) hn
      · rintro rfl; exact ⟨_, rfl⟩
    · simp only [splitB, if_neg hc]
      rw [splitB_cur]
      simp only [List.headD_cons, List.nil_append, List.singleton_append]
      constructor
      · rintro ⟨post, h⟩
        cases nm with
        | nil => simp at h; exact absurd h.1 hc
        | cons x t =>
          simp at h
          obtain ⟨rfl, h⟩ := h
          rw [← (ih t (fun h => hn (by simp [h]))).1 ⟨post, h⟩]
      · rintro rfl
        obtain ⟨post, h⟩ := (ih _ (fun h => hn (List.mem_cons_of_mem _ h))).2 rfl
        exact ⟨post, by simp [h]⟩
theorem split_tail (b : UInt8) (nm s : List UInt8) (hn : b ∉ nm) : (∃ pre post, s ++ [b] = pre ++ b :: (nm ++ b :: post)) ↔ nm ∈ (splitB b [] s).tail := by
  induction s with
  | nil =>
    constructor
    · rintro ⟨pre, post, h⟩
      have := congrArg List.length h
      simp at this; omega
    · simp [splitB]
  | cons c r ih =>
    by_cases hc : c = b
    · subst hc
      simp only [splitB, if_true, List.tail_cons]
      have e : splitB c [] r = (splitB c [] r).headD [] :: (splitB c [] r).tail := by
        cases h : splitB c [] r with
        | nil => exact absurd h (splitB_ne _ _ _)
        | cons x t => rfl
      rw [e, List.mem_cons, ← ih, ← split_head c nm r hn]
      constructor
      · rintro ⟨pre, post, h⟩
        cases pre with
        | nil => exact .inl ⟨post, by simpa using h⟩
        | cons x p => simp at h; exact .inr ⟨p, post, by simpa using h.2⟩
      · rintro (⟨post, h⟩ | ⟨pre, post, h⟩)
        · exact ⟨[], post, by simp [h]⟩
        · exact ⟨c :: pre, post, by simp [h]⟩
    · simp only [splitB, if_neg hc]
      rw [splitB_cur]
      simp only [List.tail_cons]
      rw [← ih]
      constructor
      · rintro ⟨pre, post, h⟩
        cases pre with
        | nil => simp at h; exact absurd h.1 hc
        | cons x p => simp at h; exact ⟨p, post, by simpa using h.2⟩
      · rintro ⟨pre, post, h⟩
        exact ⟨c :: pre, post, by simp [h]⟩
theorem split_mem (b : UInt8) (nm s : List UInt8) (hn : b ∉ nm) : Lib.contains (b :: (s ++ [b])) (b :: (nm ++ [b])) = true ↔ nm ∈ splitB b [] s := by
  have e : splitB b [] s = (splitB b [] s).headD [] :: (splitB b [] s).tail := by
    cases h : splitB b [] s with
    | nil => exact absurd h (splitB_ne _ _ _)
    | cons x t => rfl
  rw [e, List.mem_cons, ← split_tail b nm s hn, ← split_head b nm s hn, contains_iff]
  constructor
  · rintro ⟨pre, post, h⟩
    cases pre with
    | nil => exact .inl ⟨post, by simpa using h⟩
    | cons x p => exact .inr ⟨p, post, by simp at h; simpa using h.2⟩
  · rintro (⟨post, h⟩ | ⟨pre, post, h⟩)
    · exact ⟨[], post, by simp [h]⟩
    · exact ⟨b :: pre, post, by simp [h]⟩
theorem splitB_no (b : UInt8) (s x : List UInt8) (hx : x ∈ splitB b [] s) : b ∉ x := by
  have : ∀ (cur s : List UInt8), b ∉ cur → ∀ x ∈ splitB b cur s, b ∉ x := by
    intro cur s
    induction s generalizing cur with
    | nil => intro h x hx; simp [splitB] at hx; subst hx; exact h
    | cons c r ih =>
      intro h x hx
      by_cases hc : c = b
      · simp only [splitB, if_pos hc, List.mem_cons] at hx
        rcases hx with rfl | hx
        · exact h
        · exact ih [] (by simp) x hx
      · simp only [splitB, if_neg hc] at hx
        exact ih (cur ++ [c]) (by simp [h, Ne.symm hc]) x hx
  exact this [] s (by simp) x hx
theorem contains_one (b : UInt8) (s : List UInt8) : Lib.contains s [b] = decide (b ∈ s) := by
  rw [Bool.eq_iff_iff, contains_iff, decide_eq_true_iff]
  constructor
  · rintro ⟨x, y, rfl⟩; simp
  · intro h
    obtain ⟨x, y, rfl⟩ := List.append_of_mem h
    exact ⟨x, y, by simp⟩
end Go.Proofs.K
