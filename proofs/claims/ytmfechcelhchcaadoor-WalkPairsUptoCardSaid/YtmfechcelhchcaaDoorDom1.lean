/- Documents that are right: their trees. -/
import Derived.Test.YtmfechcelhchcaaDoorDom0
set_option linter.unusedSimpArgs false
set_option linter.unusedVariables false
namespace Go.Proofs.K
open Go Go.Sim Go.Proofs

theorem nd_nat (d : HDoc) (i : Nat) : nd d (i : Int) = nth d.nodes i := by simp [nd]
theorem inD_nat {d : HDoc} {i : Nat} : inD d (i : Int) ↔ i < d.nodes.length := by unfold inD; omega
theorem inD.nat {d : HDoc} {n : Int} (h : inD d n) : n.toNat < d.nodes.length ∧ (n.toNat : Int) = n := by unfold inD at h; omega
theorem nodup_of_take {α : Type} [Inhabited α] {l : List α} (h : ∀ k, k < l.length → nth l k ∉ l.take k) : l.Nodup := by
  rw [List.Nodup, List.pairwise_iff_getElem]
  intro i j hi hj hij heq
  have hn : ∀ j (hj : j < l.length), l[j] = nth l j := fun j hj => by have := nth_some hj; rw [List.getElem?_eq_getElem hj] at this; exact Option.some.inj this
  refine h j hj ?_
  rw [← hn j hj, ← heq, List.mem_take_iff_getElem]
  exact ⟨i, by omega, rfl⟩
theorem take_of_nodup {α : Type} [Inhabited α] {l : List α} (h : l.Nodup) {k : Nat} (hk : k < l.length) : nth l k ∉ l.take k := by
  intro hm
  have hn : ∀ j (hj : j < l.length), l[j] = nth l j := fun j hj => by have := nth_some hj; rw [List.getElem?_eq_getElem hj] at this; exact Option.some.inj this
  rw [List.mem_take_iff_getElem] at hm
  obtain ⟨i, hi, he⟩ := hm
  rw [List.Nodup, List.pairwise_iff_getElem] at h
  rw [← hn k hk] at he
  exact h i k (by omega) hk (by omega) he
theorem upF_mono {d : HDoc} : ∀ {f : Nat} {n : Int} {g : Nat}, upF f d n < f → f ≤ g → upF g d n = upF f d n
  | 0, n, g, h, _ => by omega
  | f + 1, n, 0, _, h => by omega
  | f + 1, n, g + 1, h, hg => by
    unfold upF at h ⊢
    split
    · rename_i hp
      rw [if_pos hp] at h
      rw [upF_mono (f := f) (by omega) (by omega)]
    · rfl

/-- a document that is right -/
structure DV (d : HDoc) : Prop where
  pos : 0 < d.nodes.length
  len : d.nodes.length ≤ 200
  kind : ∀ n, inD d n → ((nd d n).kind = 1 ↔ n = 0)
  node : ∀ n, inD d n → nodeE (nd d n) = 0
  kid : ∀ n, inD d n → ∀ k ∈ (nd d n).kids, inD d k ∧ (nd d k).parent = n
  nodup : ∀ n, inD d n → (nd d n).kids.Nodup
  top : ∀ k ∈ (nd d 0).kids, (nd d k).kind ≠ 3
  par : ∀ n, inD d n → (nd d n).parent = -1 ∨ (inD d (nd d n).parent ∧ n ∈ (nd d (nd d n).parent).kids)
  root : (nd d 0).parent = -1
  fin : ∀ n, inD d n → up d n ≤ d.nodes.length
  deep : ∀ n, inD d n → up d n ≤ 40

theorem docE_iff (d : HDoc) : docE d = 0 ↔ DV d := by
  have all : ∀ {p : Int → Prop}, (∀ n, inD d n → p n) ↔ ∀ i : Nat, i < d.nodes.length → p i := fun {p} =>
    ⟨fun h i hi => h i (inD_nat.2 hi), fun h n hn => by have := h n.toNat hn.nat.1; rwa [hn.nat.2] at this⟩
  have h1 : fe d.nodes.length (headE d) = 0 ↔ ∀ n, inD d n → ((nd d n).kind = 1 ↔ n = 0) ∧ nodeE (nd d n) = 0 := by
    rw [fe_iff, all]
    refine forall_congr' fun i => imp_congr_right fun hi => ?_
    unfold headE
    rw [nd_nat]
    by_cases hc : (nth d.nodes i).kind = 1 ↔ i = 0
    · rw [if_neg (by simpa using hc)]
      exact ⟨fun h => ⟨hc.trans (by omega), h⟩, fun h => h.2⟩
    · rw [if_pos hc]
      exact ⟨fun h => by omega, fun h => absurd (h.1.trans (by omega)) hc⟩
  have h2 : fe d.nodes.length (kidsE d) = 0 ↔ (∀ n, inD d n → (∀ k ∈ (nd d n).kids, inD d k ∧ (nd d k).parent = n) ∧ (nd d n).kids.Nodup) ∧ (0 < d.nodes.length → ∀ k ∈ (nd d 0).kids, (nd d k).kind ≠ 3) := by
    rw [fe_iff, all]
    constructor
    · intro h
      refine ⟨fun i hi => ?_, fun h0 k hk => ?_⟩
      · have hi' := fe_zero (h i hi)
        rw [nd_nat]
        refine ⟨fun k hk => ?_, nodup_of_take fun k hk => ?_⟩
        · obtain ⟨j, hj, rfl⟩ := mem_nth hk
          have := hi' j hj
          unfold kidE at this
          simp only at this
          split at this
          · omega
          · rename_i hn
            simp only [not_or, Classical.not_not] at hn
            exact ⟨hn.1, hn.2.1⟩
        · have := hi' k hk
          unfold kidE at this
          simp only at this
          split at this
          · omega
          · rename_i hn
            simp only [not_or] at hn
            exact hn.2.2
      · have hi' := fe_zero (h 0 h0)
        have e0 : nd d 0 = nth d.nodes 0 := nd_nat d 0
        rw [e0] at hk
        obtain ⟨j, hj, rfl⟩ := mem_nth hk
        have := hi' j hj
        unfold kidE at this
        simp only at this
        split at this
        · omega
        · split at this
          · omega
          · rename_i hn
            intro hh
            exact hn (by simpa using hh)
    · intro ⟨h, ht⟩ i hi
      refine fe_none fun k hk => ?_
      have hi' := h i hi
      rw [nd_nat] at hi'
      have hm := nth_mem' hk
      unfold kidE
      simp only
      rw [if_neg, if_neg]
      · rintro ⟨rfl, hh⟩
        exact ht (by omega) _ (by rw [show nd d 0 = nth d.nodes 0 from nd_nat d 0]; exact hm) hh
      · simp only [not_or, Classical.not_not]
        exact ⟨(hi'.1 _ hm).1, (hi'.1 _ hm).2, take_of_nodup hi'.2 hk⟩
  have h3 : fe d.nodes.length (parE d) = 0 ↔ ∀ n, inD d n → (nd d n).parent = -1 ∨ (inD d (nd d n).parent ∧ n ∈ (nd d (nd d n).parent).kids) := by
    rw [fe_iff, all]
    refine forall_congr' fun i => imp_congr_right fun hi => ?_
    unfold parE
    simp only
    rw [nd_nat]
    by_cases hp : (nth d.nodes i).parent = -1
    · rw [if_neg (by simp [hp])]; simp [hp]
    · by_cases hq : inD d (nth d.nodes i).parent ∧ (i : Int) ∈ (nd d (nth d.nodes i).parent).kids
      · rw [if_neg (by rintro ⟨_, hh⟩; exact hh.elim (fun h => h hq.1) (fun h => h hq.2))]
        exact ⟨fun _ => .inr hq, fun _ => rfl⟩
      · rw [if_pos ⟨hp, by rw [← Classical.not_and_iff_not_or_not]; exact hq⟩]
        exact ⟨fun h => by omega, fun h => absurd (h.resolve_left hp) hq⟩
  have h4 : fe d.nodes.length (deepE d) = 0 ↔ ∀ n, inD d n → up d n ≤ d.nodes.length ∧ up d n ≤ 40 := by
    rw [fe_iff, all]
    refine forall_congr' fun i => imp_congr_right fun hi => ?_
    unfold deepE
    split
    · omega
    · split <;> omega
  constructor
  · intro h
    unfold docE at h
    split at h
    · omega
    · split at h
      · omega
      · split at h
        · contradiction
        · split at h
          · contradiction
          · split at h
            · contradiction
            · split at h
              · omega
              · rename_i g1 g2 g3 g4 g5 g6
                simp only [ne_eq, Classical.not_not] at g3 g4 g5 g6
                have k1 := h1.1 g3
                have k2 := h2.1 g4
                have k3 := h3.1 g5
                have k4 := h4.1 h
                exact ⟨by omega, by omega, fun n hn => (k1 n hn).1, fun n hn => (k1 n hn).2, fun n hn => (k2.1 n hn).1, fun n hn => (k2.1 n hn).2, k2.2 (by omega), k3, g6, fun n hn => (k4 n hn).1, fun n hn => (k4 n hn).2⟩
  · intro V
    have hl := V.len
    have hp := V.pos
    unfold docE
    rw [if_neg (by omega), if_neg (by omega), if_neg, if_neg, if_neg, if_neg (by simp [V.root])]
    · exact h4.2 fun n hn => ⟨V.fin n hn, V.deep n hn⟩
    · simp only [ne_eq, Classical.not_not]; exact h3.2 V.par
    · simp only [ne_eq, Classical.not_not]; exact h2.2 ⟨fun n hn => ⟨V.kid n hn, V.nodup n hn⟩, fun _ => V.top⟩
    · simp only [ne_eq, Classical.not_not]; exact h1.2 fun n hn => ⟨V.kind n hn, V.node n hn⟩

section
variable {d : HDoc}
theorem DV.zero (V : DV d) : inD d 0 := by have := V.pos; unfold inD; omega
theorem DV.par_in (V : DV d) {n : Int} (hn : inD d n) (hp : 0 ≤ (nd d n).parent) : inD d (nd d n).parent ∧ n ∈ (nd d (nd d n).parent).kids := by
  rcases V.par n hn with h | h
  · omega
  · exact h
theorem DV.par_neg (V : DV d) {n : Int} (hn : inD d n) (hp : ¬ 0 ≤ (nd d n).parent) : (nd d n).parent = -1 := by
  rcases V.par n hn with h | h
  · exact h
  · exact absurd h.1.1 hp
theorem DV.up_par (V : DV d) {n : Int} (hn : inD d n) (hp : 0 ≤ (nd d n).parent) : up d n = up d (nd d n).parent + 1 := by
  have h1 : up d n = upF d.nodes.length d (nd d n).parent + 1 := by unfold up; conv => lhs; unfold upF
                                                                    rw [if_pos hp]
  have h2 := V.fin n hn
  have h3 : up d (nd d n).parent = upF d.nodes.length d (nd d n).parent := upF_mono (f := d.nodes.length) (by omega) (by omega)
  rw [h1, h3]
theorem DV.up_top (V : DV d) {n : Int} (hp : ¬ 0 ≤ (nd d n).parent) : up d n = 0 := by unfold up upF; rw [if_neg hp]
theorem DV.up_kid (V : DV d) {n k : Int} (hn : inD d n) (hk : k ∈ (nd d n).kids) : up d k = up d n + 1 := by
  obtain ⟨h1, h2⟩ := V.kid n hn k hk
  have := V.up_par h1 (by rw [h2]; exact hn.1)
  rwa [h2] at this
theorem DV.up_lt (V : DV d) {n k : Int} (hn : inD d n) (hk : k ∈ (nd d n).kids) : up d n < 40 := by
  have := V.up_kid hn hk
  have := V.deep k (V.kid n hn k hk).1
  omega
/-- from a node to its kids -/
theorem DV.down (V : DV d) {p : Int → Prop} (h : ∀ n, inD d n → (∀ k ∈ (nd d n).kids, p k) → p n) : ∀ n, inD d n → p n := by
  have : ∀ m n, inD d n → 40 ≤ m + up d n → p n := by
    intro m
    induction m with
    | zero => intro n hn hm; exact h n hn fun k hk => by have := V.up_lt hn hk; omega
    | succ m ih => intro n hn hm; exact h n hn fun k hk => ih k (V.kid n hn k hk).1 (by have := V.up_kid hn hk; omega)
  exact fun n hn => this 40 n hn (by omega)
/-- from a node to its parent -/
theorem DV.rise (V : DV d) {p : Int → Prop} (h : ∀ n, inD d n → (0 ≤ (nd d n).parent → p (nd d n).parent) → p n) : ∀ n, inD d n → p n := by
  have : ∀ m n, inD d n → up d n ≤ m → p n := by
    intro m
    induction m with
    | zero => intro n hn hm; exact h n hn fun hp => by have := V.up_par hn hp; omega
    | succ m ih => intro n hn hm; exact h n hn fun hp => ih _ (V.par_in hn hp).1 (by have := V.up_par hn hp; omega)
  exact fun n hn => this _ n hn (Nat.le_refl _)

/-- a node, and all below it -/
def belF : Nat → HDoc → Int → List Int
  | 0, _, n => [n]
  | f + 1, d, n => n :: (nd d n).kids.flatMap (belF f d)
def below (d : HDoc) (n : Int) : List Int := belF 40 d n
theorem flatMap_congr' {α β : Type} {l : List α} {f g : α → List β} (h : ∀ x ∈ l, f x = g x) : l.flatMap f = l.flatMap g := by
  induction l with
  | nil => rfl
  | cons x r ih => rw [List.flatMap_cons, List.flatMap_cons, h x List.mem_cons_self, ih fun y hy => h y (List.mem_cons_of_mem _ hy)]
theorem belF_eq (V : DV d) : ∀ (f g : Nat) (n : Int), inD d n → 40 ≤ f + up d n → 40 ≤ g + up d n → belF f d n = belF g d n
  | 0, 0, _, _, _, _ => rfl
  | 0, g + 1, n, hn, hf, _ => by
    have : (nd d n).kids = [] := List.eq_nil_iff_forall_not_mem.2 fun k hk => by have := V.up_lt hn hk; omega
    simp [belF, this]
  | f + 1, 0, n, hn, _, hg => by
    have : (nd d n).kids = [] := List.eq_nil_iff_forall_not_mem.2 fun k hk => by have := V.up_lt hn hk; omega
    simp [belF, this]
  | f + 1, g + 1, n, hn, hf, hg => by
    unfold belF
    rw [flatMap_congr' fun k hk => belF_eq V f g k (V.kid n hn k hk).1 (by have := V.up_kid hn hk; omega) (by have := V.up_kid hn hk; omega)]
theorem below_eq (V : DV d) {n : Int} (hn : inD d n) : below d n = n :: (nd d n).kids.flatMap (below d) := by
  have : below d n = n :: (nd d n).kids.flatMap (belF 39 d) := rfl
  rw [this, flatMap_congr' fun k hk => belF_eq V 39 40 k (V.kid n hn k hk).1 (by have := V.up_kid hn hk; omega) (by omega)]
  rfl
theorem below_in (V : DV d) : ∀ n, inD d n → ∀ m ∈ below d n, inD d m := V.down fun n hn ih m hm => by
  rw [below_eq V hn] at hm
  rcases List.mem_cons.1 hm with rfl | hm
  · exact hn
  · obtain ⟨k, hk, hm⟩ := List.mem_flatMap.1 hm
    exact ih k hk m hm
theorem below_self (V : DV d) {n : Int} (hn : inD d n) : n ∈ below d n := by rw [below_eq V hn]; exact List.mem_cons_self

/-- a node, and all above it -/
def chF : Nat → HDoc → Int → List Int
  | 0, _, n => [n]
  | f + 1, d, n => if 0 ≤ (nd d n).parent then n :: chF f d (nd d n).parent else [n]
def chain (d : HDoc) (n : Int) : List Int := chF 40 d n
theorem chF_eq (V : DV d) : ∀ (f g : Nat) (n : Int), inD d n → up d n ≤ f → up d n ≤ g → chF f d n = chF g d n
  | 0, 0, _, _, _, _ => rfl
  | 0, g + 1, n, hn, hf, _ => by
    have : ¬ 0 ≤ (nd d n).parent := fun hp => by have := V.up_par hn hp; omega
    simp [chF, this]
  | f + 1, 0, n, hn, _, hg => by
    have : ¬ 0 ≤ (nd d n).parent := fun hp => by have := V.up_par hn hp; omega
    simp [chF, this]
  | f + 1, g + 1, n, hn, hf, hg => by
    unfold chF
    split
    · rename_i hp
      rw [chF_eq V f g _ (V.par_in hn hp).1 (by have := V.up_par hn hp; omega) (by have := V.up_par hn hp; omega)]
    · rfl
theorem chain_up (V : DV d) {n : Int} (hn : inD d n) (hp : 0 ≤ (nd d n).parent) : chain d n = n :: chain d (nd d n).parent := by
  have : chain d n = n :: chF 39 d (nd d n).parent := by
    have e : ∀ f, chF (f + 1) d n = n :: chF f d (nd d n).parent := fun f => by rw [chF, if_pos hp]
    exact e 39
  rw [this, chF_eq V 39 40 _ (V.par_in hn hp).1 (by have := V.up_par hn hp; have := V.deep n hn; omega) (V.deep _ (V.par_in hn hp).1)]
  rfl
theorem chain_top (V : DV d) {n : Int} (hp : ¬ 0 ≤ (nd d n).parent) : chain d n = [n] := by
  have e : ∀ f, chF (f + 1) d n = [n] := fun f => by rw [chF, if_neg hp]
  exact e 39
theorem chain_self (d : HDoc) (n : Int) : n ∈ chain d n := by show n ∈ chF 40 d n; unfold chF; split <;> simp
theorem chain_in (V : DV d) : ∀ n, inD d n → ∀ m ∈ chain d n, inD d m := V.rise fun n hn ih m hm => by
  by_cases hp : 0 ≤ (nd d n).parent
  · rw [chain_up V hn hp] at hm
    rcases List.mem_cons.1 hm with rfl | hm
    · exact hn
    · exact ih hp m hm
  · rw [chain_top V hp] at hm; simp at hm; subst hm; exact hn
theorem chain_len (V : DV d) : ∀ n, inD d n → (chain d n).length = up d n + 1 := V.rise fun n hn ih => by
  by_cases hp : 0 ≤ (nd d n).parent
  · rw [chain_up V hn hp, List.length_cons, ih hp, V.up_par hn hp]
  · rw [chain_top V hp, V.up_top hp]; rfl
theorem chain_le (V : DV d) : ∀ n, inD d n → ∀ m ∈ chain d n, up d m ≤ up d n ∧ (up d m = up d n → m = n) := V.rise fun n hn ih m hm => by
  by_cases hp : 0 ≤ (nd d n).parent
  · rw [chain_up V hn hp] at hm
    rcases List.mem_cons.1 hm with rfl | hm
    · exact ⟨Nat.le_refl _, fun _ => rfl⟩
    · have := ih hp m hm
      have := V.up_par hn hp
      exact ⟨by omega, fun h => by omega⟩
  · rw [chain_top V hp] at hm; simp at hm; subst hm; exact ⟨Nat.le_refl _, fun _ => rfl⟩
/-- two of them on one step are one -/
theorem chain_one (V : DV d) : ∀ n, inD d n → ∀ a ∈ chain d n, ∀ b ∈ chain d n, up d a = up d b → a = b := V.rise fun n hn ih a ha b hb hab => by
  by_cases hp : 0 ≤ (nd d n).parent
  · have hu := V.up_par hn hp
    rw [chain_up V hn hp] at ha hb
    have hle := fun m hm => (chain_le V _ (V.par_in hn hp).1 m hm).1
    rcases List.mem_cons.1 ha with rfl | ha <;> rcases List.mem_cons.1 hb with rfl | hb
    · rfl
    · have := hle b hb; omega
    · have := hle a ha; omega
    · exact ih hp a ha b hb hab
  · rw [chain_top V hp] at ha hb; simp at ha hb; rw [ha, hb]
theorem chain_trans (V : DV d) : ∀ n, inD d n → ∀ m ∈ chain d n, ∀ t ∈ chain d m, t ∈ chain d n := V.rise fun n hn ih m hm t ht => by
  by_cases hp : 0 ≤ (nd d n).parent
  · rw [chain_up V hn hp] at hm ⊢
    rcases List.mem_cons.1 hm with rfl | hm
    · rw [← chain_up V hn hp]; exact ht
    · exact List.mem_cons_of_mem _ (ih hp m hm t ht)
  · rw [chain_top V hp] at hm; simp at hm; subst hm; exact ht
/-- below and above are one thing -/
theorem mem_below (V : DV d) {m n : Int} (hm : inD d m) (hn : inD d n) : m ∈ below d n ↔ n ∈ chain d m := by
  constructor
  · revert m hm
    refine V.down (p := fun n => ∀ {m}, inD d m → m ∈ below d n → n ∈ chain d m) (fun n hn ih m hm h => ?_) n hn
    rw [below_eq V hn] at h
    rcases List.mem_cons.1 h with rfl | h
    · exact chain_self _ _
    · obtain ⟨k, hk, h⟩ := List.mem_flatMap.1 h
      have h1 := ih k hk hm h
      have h2 := V.kid n hn k hk
      refine chain_trans V m hm k h1 n ?_
      rw [chain_up V h2.1 (by rw [h2.2]; exact hn.1), h2.2]
      exact List.mem_cons_of_mem _ (chain_self _ _)
  · revert n hn
    refine V.rise (p := fun m => ∀ {n}, inD d n → n ∈ chain d m → m ∈ below d n) (fun m hm ih n hn h => ?_) m hm
    by_cases hp : 0 ≤ (nd d m).parent
    · rw [chain_up V hm hp] at h
      rcases List.mem_cons.1 h with rfl | h
      · exact below_self V hm
      · have h1 := ih hp hn h
        obtain ⟨h2, h3⟩ := V.par_in hm hp
        generalize (nd d m).parent = q at *
        clear ih hp
        revert h1
        refine V.down (p := fun n => q ∈ below d n → m ∈ below d n) (fun n hn ih h1 => ?_) n hn
        rw [below_eq V hn] at h1 ⊢
        rcases List.mem_cons.1 h1 with rfl | h1
        · exact List.mem_cons_of_mem _ (List.mem_flatMap.2 ⟨m, h3, below_self V hm⟩)
        · obtain ⟨k, hk, h1⟩ := List.mem_flatMap.1 h1
          exact List.mem_cons_of_mem _ (List.mem_flatMap.2 ⟨k, hk, ih k hk h1⟩)
    · rw [chain_top V hp] at h; simp at h; subst h; exact below_self V hm
theorem below_nodup (V : DV d) : ∀ n, inD d n → (below d n).Nodup := V.down fun n hn ih => by
  rw [below_eq V hn, List.nodup_cons]
  constructor
  · intro hm
    obtain ⟨k, hk, hm⟩ := List.mem_flatMap.1 hm
    have h1 := (mem_below V hn (V.kid n hn k hk).1).1 hm
    have := (chain_le V n hn k h1).1
    have := V.up_kid hn hk
    omega
  · rw [List.nodup_iff_pairwise_ne, List.pairwise_flatMap]
    refine ⟨fun k hk => List.nodup_iff_pairwise_ne.1 (ih k hk), ?_⟩
    have := V.nodup n hn
    rw [List.nodup_iff_pairwise_ne] at this
    refine this.imp_of_mem fun {a b} ha hb hab x hx y hy hxy => ?_
    subst hxy
    have ia := (V.kid n hn a ha).1
    have ib := (V.kid n hn b hb).1
    have ix := below_in V a ia x hx
    exact hab (chain_one V x ix a ((mem_below V ix ia).1 hx) b ((mem_below V ix ib).1 hy) (by rw [V.up_kid hn ha, V.up_kid hn hb]))
theorem nodup_filter {α : Type} [DecidableEq α] (a : α) : ∀ (l : List α), l.Nodup → l.length ≤ (l.filter (· ≠ a)).length + 1
  | [], _ => by simp
  | x :: r, h => by
    rw [List.nodup_cons] at h
    by_cases hx : x = a
    · subst hx
      have : r.filter (· ≠ x) = r := List.filter_eq_self.2 fun y hy => by simp; rintro rfl; exact h.1 hy
      rw [List.filter_cons_of_neg (by simp), this, List.length_cons]
      omega
    · have := nodup_filter a r h.2
      rw [List.filter_cons_of_pos (by simpa using hx), List.length_cons, List.length_cons]
      omega
theorem nodup_len : ∀ (N : Nat) (l : List Int), l.Nodup → (∀ x ∈ l, 0 ≤ x ∧ x < N) → l.length ≤ N
  | 0, l, _, h => by
    cases l with
    | nil => simp
    | cons x r => have := h x List.mem_cons_self; omega
  | N + 1, l, hn, h => by
    have h1 := nodup_filter (N : Int) l hn
    have h2 := nodup_len N (l.filter (· ≠ (N : Int))) (hn.sublist List.filter_sublist) fun x hx => by
      rw [List.mem_filter] at hx
      have := h x hx.1
      have h3 : x ≠ (N : Int) := by simpa using hx.2
      omega
    omega
theorem below_len (V : DV d) {n : Int} (hn : inD d n) : (below d n).length ≤ d.nodes.length := nodup_len _ _ (below_nodup V n hn) (below_in V n hn)
end
end Go.Proofs.K
