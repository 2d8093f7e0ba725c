/- Lists: what the contracts speak in. -/
import Derived.Test.YtmfechcelhchcaaDoorBase
set_option linter.unusedSimpArgs false
set_option linter.unusedVariables false
namespace Go.Proofs.K
open Go Go.Sim Go.Proofs

theorem brNdec {A B : Prop} {p : Prop} [Decidable p] (h1 : ¬ p → A) (h2 : p → B) : Br (!decide p) A B .mk := ⟨fun h => h1 (by simpa using h), fun h => h2 (by simpa using h)⟩
theorem brNeq {A B : Prop} {α : Type} [BEq α] [LawfulBEq α] {a b : α} (h1 : a ≠ b → A) (h2 : a = b → B) : Br (!(a == b)) A B .mk := ⟨fun h => h1 (by simpa using h), fun h => h2 (by simpa using h)⟩
theorem lit_eq {ty sz : Nat} {ps : List SX} {e : Env} {h : Heap} {K : AVal → Heap → Prop} {w : Wit K} : Hd (litE ty sz ps e h) K w = (okParts sz e ps ∧ ∀ r, h r = none → K (.osl r sz 0 ps.length) (upd h r (some ⟨ty, sz, ps.map fun x => cellsOf (ev e x)⟩))) := rfl
/-- a loop, with what holds where it is left -/
theorem loopT {b : (SExit → Env → Heap → Prop) → Env → Heap → Prop} {Q : SExit → Env → Heap → Prop} {e : Env} {h : Heap} (J : SExit → Env → Heap → Prop) (I : Nat → Env → Heap → Prop) (m : Nat) (h0 : I m e h)
    (hr : ∀ (Q' : SExit → Env → Heap → Prop), (∀ x e h, J x e h → Q' x e h) → ∀ m e h, I m e h → b (thenK (fun e' h' => ∃ m', m' < m ∧ I m' e' h') Q') e h) (ht : ∀ x e h, J x e h → Q x e h) : LoopVC b Q e h :=
  ⟨I, ⟨m, h0⟩, hr Q ht⟩

theorem nth_mem' {α : Type} [Inhabited α] {l : List α} {k : Nat} (h : k < l.length) : nth l k ∈ l := List.mem_of_getElem? (nth_some h)
theorem mem_nth {α : Type} [Inhabited α] {l : List α} {x : α} (h : x ∈ l) : ∃ k, k < l.length ∧ nth l k = x := by
  obtain ⟨k, hk⟩ := List.mem_iff_getElem?.1 h
  have hl := (List.getElem?_eq_some_iff.1 hk).1
  have := nth_some hl
  rw [hk] at this
  exact ⟨k, hl, (Option.some.inj this).symm⟩
theorem any_nth {α : Type} [Inhabited α] {l : List α} {p : α → Bool} {k : Nat} (h : k < l.length) (hp : p (nth l k) = true) : l.any p = true := List.any_eq_true.2 ⟨_, nth_mem' h, hp⟩
theorem any_no {α : Type} [Inhabited α] {l : List α} {p : α → Bool} (hp : ∀ j, j < l.length → p (nth l j) = false) : l.any p = false := by
  rw [List.any_eq_false]
  intro x hx
  obtain ⟨k, hk, rfl⟩ := mem_nth hx
  simp [hp k hk]
theorem ext_nth {α : Type} [Inhabited α] {l m : List α} (hl : l.length = m.length) (h : ∀ j, j < l.length → nth l j = nth m j) : l = m := by
  apply List.ext_getElem? 
  intro i
  by_cases hi : i < l.length
  · rw [nth_some hi, nth_some (by omega), h i hi]
  · rw [List.getElem?_eq_none (by omega), List.getElem?_eq_none (by omega)]

theorem nth_drop {α : Type} [Inhabited α] (l : List α) (a k : Nat) : nth (l.drop a) k = nth l (a + k) := by
  simp [nth, List.getD_eq_getElem?_getD, List.getElem?_drop]
theorem take_snoc {α : Type} [Inhabited α] {l : List α} {j : Nat} (h : j < l.length) : l.take (j + 1) = l.take j ++ [nth l j] := by
  rw [List.take_add_one, nth_some h]; rfl
def idxM {α : Type} (p : α → Bool) (l : List α) : Int := match l.findIdx? p with | some i => i | none => -1
theorem idxM_some {α : Type} [Inhabited α] {p : α → Bool} {l : List α} {k : Nat} (hk : k < l.length) (h1 : ∀ j, j < k → p (nth l j) = false) (h2 : p (nth l k) = true) : idxM p l = k := by
  have hn : ∀ j (hj : j < l.length), l[j] = nth l j := fun j hj => by have := nth_some hj; rw [List.getElem?_eq_getElem hj] at this; exact Option.some.inj this
  have : l.findIdx? p = some k := by
    rw [List.findIdx?_eq_some_iff_getElem]
    refine ⟨hk, by rw [hn k hk]; exact h2, fun j hj => ?_⟩
    rw [hn j (by omega), h1 j hj]; simp
  rw [idxM, this]
theorem idxM_none {α : Type} [Inhabited α] {p : α → Bool} {l : List α} (h1 : ∀ j, j < l.length → p (nth l j) = false) : idxM p l = -1 := by
  have hn : ∀ j (hj : j < l.length), l[j] = nth l j := fun j hj => by have := nth_some hj; rw [List.getElem?_eq_getElem hj] at this; exact Option.some.inj this
  have : l.findIdx? p = none := by
    rw [List.findIdx?_eq_none_iff]
    intro x hx
    obtain ⟨j, hj, rfl⟩ := List.getElem_of_mem hx
    rw [hn j hj]; exact h1 j hj
  rw [idxM, this]
theorem idxM_any {α : Type} (p : α → Bool) (l : List α) : decide (0 ≤ idxM p l) = l.any p := by
  unfold idxM
  cases h : l.findIdx? p with
  | none =>
    rw [List.findIdx?_eq_none_iff] at h
    have : l.any p = false := by rw [List.any_eq_false]; intro x hx; simp [h x hx]
    rw [this]; simp
  | some i =>
    have h2 : (l.findIdx? p).isSome = true := by rw [h]; rfl
    rw [List.findIdx?_isSome] at h2
    rw [h2]
    simp

def lastP {α : Type} (p : α → Bool) : List α → Nat
  | [] => 0
  | x :: r => match lastP p r with
    | 0 => if p x then 1 else 0
    | n + 1 => n + 2
def IsLastP {α : Type} [Inhabited α] (p : α → Bool) (l : List α) (k : Nat) : Prop := k ≤ l.length ∧ (k = 0 ∨ p (nth l (k - 1)) = true) ∧ ∀ j, k ≤ j → j < l.length → p (nth l j) = false
theorem lastP_is {α : Type} [Inhabited α] (p : α → Bool) (l : List α) : IsLastP p l (lastP p l) := by
  induction l with
  | nil => exact ⟨by simp [lastP], .inl rfl, fun j _ h => by simp at h⟩
  | cons x r ih =>
    obtain ⟨h1, h2, h3⟩ := ih
    cases hm : lastP p r with
    | zero =>
      rw [hm] at h3
      by_cases hx : p x = true
      · simp only [lastP, hm, hx, if_true]
        refine ⟨by simp, .inr (by simpa [nth] using hx), fun j hj hl => ?_⟩
        obtain ⟨j, rfl⟩ : ∃ i, j = i + 1 := ⟨j - 1, by omega⟩
        exact h3 j (by omega) (by simpa using hl)
      · simp only [lastP, hm, hx]
        refine ⟨by simp, .inl (by simp), fun j hj hl => ?_⟩
        cases j with
        | zero => simpa [nth] using hx
        | succ j => exact h3 j (by omega) (by simpa using hl)
    | succ n =>
      rw [hm] at h1 h2 h3
      simp only [lastP, hm]
      refine ⟨by simp; omega, .inr ?_, fun j hj hl => ?_⟩
      · rcases h2 with h2 | h2
        · omega
        · simpa [nth] using h2
      · obtain ⟨j, rfl⟩ : ∃ i, j = i + 1 := ⟨j - 1, by omega⟩
        exact h3 j (by omega) (by simpa using hl)
theorem IsLastP.eq {α : Type} [Inhabited α] {p : α → Bool} {l : List α} {k : Nat} (h : IsLastP p l k) : lastP p l = k := by
  obtain ⟨a1, a2, a3⟩ := lastP_is p l
  obtain ⟨b1, b2, b3⟩ := h
  rcases Nat.lt_trichotomy (lastP p l) k with h | h | h
  · rcases b2 with b2 | b2
    · omega
    · rw [a3 _ (by omega) (by omega)] at b2; cases b2
  · exact h
  · rcases a2 with a2 | a2
    · omega
    · rw [b3 _ (by omega) (by omega)] at a2; cases a2

theorem lastP_snoc {α : Type} [Inhabited α] (p : α → Bool) (l : List α) (k : Nat) (hk : k < l.length) : lastP p (l.take (k + 1)) = if p (nth l k) = true then k + 1 else lastP p (l.take k) := by
  have hn : ∀ (m j : Nat), j < m → m ≤ l.length → nth (l.take m) j = nth l j := fun m j h1 h2 => by simp only [nth, List.getD_eq_getElem?_getD, List.getElem?_take, if_pos h1]
  split
  · rename_i h
    exact IsLastP.eq ⟨by simp; omega, .inr (by rw [hn _ _ (by omega) (by omega)]; exact h), fun j h1 h2 => by simp at h2; omega⟩
  · rename_i h
    obtain ⟨h1, h2, h3⟩ := lastP_is p (l.take k)
    simp only [List.length_take] at h1 h3
    refine IsLastP.eq ⟨by simp; omega, ?_, fun j h4 h5 => ?_⟩
    · rcases h2 with h2 | h2
      · exact .inl h2
      · by_cases h0 : lastP p (l.take k) = 0
        · exact .inl h0
        · right; rw [hn _ _ (by omega) (by omega)] at h2 ⊢; exact h2
    · simp only [List.length_take] at h5
      by_cases hj : j = k
      · subst hj; rw [hn _ _ (by omega) (by omega)]; simpa using h
      · have := h3 j h4 (by omega)
        rw [hn _ _ (by omega) (by omega)] at this ⊢; exact this
theorem u8_all {p : UInt8 → Bool} (h : ((List.range 256).all fun n => p (UInt8.ofNat n)) = true) (b : UInt8) : p b = true := by
  have := List.all_eq_true.1 h b.toNat (List.mem_range.2 b.toNat_lt)
  simpa using this
theorem snoc_ind {α : Type} {p : List α → Prop} (h0 : p []) (h1 : ∀ l x, p l → p (l ++ [x])) (l : List α) : p l := by
  rw [← List.reverse_reverse l]
  induction l.reverse with
  | nil => exact h0
  | cons x r ih => rw [List.reverse_cons]; exact h1 _ _ ih
theorem take_rev {α : Type} [Inhabited α] {l : List α} {k : Nat} (h : k < l.length) : (l.take (k + 1)).reverse = nth l k :: (l.take k).reverse := by rw [take_snoc h]; simp
theorem lastP_append {α : Type} [Inhabited α] (p : α → Bool) (l : List α) (x : α) : lastP p (l ++ [x]) = if p x = true then l.length + 1 else lastP p l := by
  have h := lastP_snoc p (l ++ [x]) l.length (by simp)
  rw [List.take_of_length_le (by simp), List.take_left] at h
  have e : nth (l ++ [x]) l.length = x := by simp [nth]
  rw [h, e]
theorem nth_set {α : Type} [Inhabited α] (l : List α) (i j : Nat) (x : α) (hi : i < l.length) : nth (l.set i x) j = if j = i then x else nth l j := by
  unfold nth
  rw [List.getD_eq_getElem?_getD, List.getD_eq_getElem?_getD, List.getElem?_set]
  by_cases h : i = j
  · subst h; simp [hi]
  · rw [if_neg h, if_neg (fun e => h e.symm)]
end Go.Proofs.K
