/- Texts of this claim, one behind the other. -/
import Derived.Test.YtkpaokgikhnpgaaGreatDoorM4
import Derived.Test.YtkpaokgikhnpgaaGreatDoorM3
import Derived.Shelf.Strings.Builder1
import Derived.Lib.RuneBytes
import Derived.Laws.BitsLemmas
import Derived.Lib.IndexMore
import Derived.Lib.MapLaws
import Derived.Lib.Join
section
set_option linter.unusedSimpArgs false
set_option linter.unusedVariables false
namespace Go.Proofs.K
open Go Go.Sim Go.Proofs Go.Shelf Go.RowKit Go.Lib
variable {G : Glob}
def lowR (x : Int) : Int := if 65 ≤ x ∧ x ≤ 90 then x + 32 else x
def lowU (s : List UInt8) : List UInt8 := Lib.mapD lowR s
theorem lower1_gives (w : World) : MapAtRunes Tryz.prog 115 #[] lowR w := fun W r hr _ => by
  unfold FnGives
  by_cases h1 : 65 ≤ r <;> by_cases h2 : r ≤ 90
  all_goals
    have z1 : (65 : Int) ≤ (r : Int) ↔ 65 ≤ r := by omega
    have z2 : (r : Int) ≤ 90 ↔ r ≤ 90 := by omega
    go_enter Tryz.func115, Tryz.ntmps115
    go_wp2
    all_goals first | (exfalso; omega) | (go_ret; refine ⟨?_, 0, rfl⟩; unfold lowR; (first | rw [if_pos (by omega)] | rw [if_neg (by omega)]) <;> rfl)
theorem fn0_inv {g : Ghost} {w : World} {u : Value} {f : Nat} (h : VRel g w u (.fn f [] [])) : u = .func (.func f) #[] #[] := by
  cases h with
  | fn _ fs cs _ _ hf hc _ _ =>
    obtain rfl : fs = #[] := Array.eq_empty_of_size_eq_zero hf
    obtain rfl : cs = #[] := Array.eq_empty_of_size_eq_zero hc
    rfl
theorem smap_ok (hT : TabsOK G) (s : List UInt8) (hs : s.length ≤ 1073741824) : PCalls (Pg G) 114 [.fn 115 [] [], .str s] (.str (lowU s)) := by
  refine ofBelow ⟨_, Tryz.func114, by kernel_rfl, by kernel_rfl⟩ fun g w vs GR V => ?_
  obtain ⟨u, v, rfl, hu, hv⟩ := V.two_inv
  rw [fn0_inv hu, hv.str_inv']
  refine (Tryz.strings_Map_runes 115 #[] (enters_of Tryz.func115 (by kernel_rfl) rfl) lowR ⟨⟨s⟩⟩ w (by show s.length < _; omega) (lower1_gives w) (fun x hx => ?_) (tabs_of GR hT)).mono fun e w' ⟨he, hw⟩ => ⟨_, he, hw, fun g w => VRel.str_mk g w _⟩
  unfold lowR; split <;> omega
def c83 : SFun := ⟨.seq (.reg [⟨some 2, .mv (.c (.str [])), none⟩]) (.seq (.reg [⟨some 3, .mv (.t 0), none⟩, ⟨some 4, .pcall 114 [.c (.fn 115 [] []), .t 3], none⟩, ⟨some 2, .mv (.t 4), none⟩]) .ret), [.tmp 2]⟩
theorem hc83 : toSF Tryz.prog {pure := [114]} Tryz.f83 = some c83 := by kernel_rfl
theorem hn83 : (Tryz.f83.name == "runtime.NumGoroutine") = false := by kernel_rfl
theorem flower_ok (hT : TabsOK G) (s : List UInt8) (hs : s.length ≤ 1073741824) : PCalls (Pg G) 83 [.str s] (.str (lowU s)) := fun h => by
  have c1 := smap_ok hT s hs
  refine dcalls_of_vc Tryz.func83 hn83 hc83 (by rw [Tryz.ntmps83]; simp) (by rw [Tryz.ntmps83]; decide) ?_
  simp -dsimp -implicitDefEqProofs (disch := omega) only [VCA, ↓reduceIte, reduceCtorEq, c83]
  repeat' (first | ((with_reducible refine brC (fun _ => ?_) fun _ => ?_) <;> try (exfalso; omega)) | (with_reducible apply pcallE.of; · exact c1) | (with_reducible refine And.intro ?_ ?_; · omega) | simp -dsimp -implicitDefEqProofs (disch := omega) only [VCA, ↓reduceIte, exists_eq_right])
  all_goals exact Sub.refl _
end Go.Proofs.K
end
section
set_option linter.unusedSimpArgs false
set_option linter.unusedVariables false
namespace Go.Proofs.K
open Go Go.Sim Go.Proofs Go.Shelf
variable {G : Glob}
def bren : Ren := ⟨fun | 240 => 103 | 276 => 125 | n => n, fun | 37 => 92 | 0 => 0 | 4 => 4 | 9 => 9 | 20 => 20 | 70 => 91 | 72 => 94 | 164 => 143 | n => n, fun n => n⟩
theorem lays240 : Lays.n240 Tryz.prog bren := {
  mixed := by kernel_rfl
  f240 := Tryz.func103.trans (congrArg some (by kernel_rfl))
  f276 := Tryz.func125.trans (congrArg some (by kernel_rfl))
  t0 := Tryz.underlying0
  a0 := Tryz.isAgg0
  z0 := Tryz.sizeOf0
  v0 := Tryz.zeroValue0
  t4 := Tryz.underlying4
  a4 := Tryz.isAgg4
  z4 := Tryz.sizeOf4
  v4 := Tryz.zeroValue4
  t9 := Tryz.underlying9
  a9 := Tryz.isAgg9
  z9 := Tryz.sizeOf9
  v9 := Tryz.zeroValue9
  t20 := Tryz.underlying20
  a20 := Tryz.isAgg20
  z20 := Tryz.sizeOf20
  v20 := Tryz.zeroValue20
  t70 := Tryz.underlying91
  a70 := Tryz.isAgg91
  z70 := Tryz.sizeOf91
  v70 := Tryz.zeroValue91
  t72 := Tryz.underlying94
  a72 := Tryz.isAgg94
  z72 := Tryz.sizeOf94
  v72 := Tryz.zeroValue94
  t164 := Tryz.underlying143
  a164 := Tryz.isAgg143
  z164 := Tryz.sizeOf143
  v164 := Tryz.zeroValue143 }
theorem x72 : Builder.X72 Tryz.prog bren := {
  sizeBuilder := by kernel_rfl
  liesBuilder := by kernel_rfl }
abbrev Tb : Nat := 94
abbrev Tu : Nat := 5
def BP (rb : Nat) (p : AVal) : Prop := p = .prim (.pointer none) ∨ p = .vp rb 0
theorem prim_inv {g : Ghost} {w : World} {u v : Value} (h : VRel g w u (.prim v)) : u = v := by cases h; rfl
theorem copyCheck_ok (rb : Nat) (h : Heap) (p buf : AVal) (hp : BP rb p) (hr : h rb = some ⟨Tb, 2, [[p, buf]]⟩) {K : AVal → Heap → Prop} (hk : K (.tup []) (upd h rb (some ⟨Tb, 2, [[.vp rb 0, buf]]⟩))) :
    DCalls (Pg G) 103 [.vp rb 0] h K := by
  refine ⟨⟨_, Tryz.func103, by kernel_rfl, by kernel_rfl⟩, fun g w vs H GR V => ?_⟩
  obtain ⟨v, rfl, hv⟩ := V.one_inv
  obtain ⟨hlt, ⟨hb, hc⟩, rfl⟩ := hv.vp_inv
  have O := H.obj rb _ hr
  rcases O.block with h0 | ⟨hl, hf, cur, hcur, hsz, hcell⟩
  · omega
  obtain ⟨lo, hi, hq, hlh⟩ := id hcur
  have hcs : cur.size = 2 := by have h1 : g.bo rb + g.cap rb * 2 = cur.size := hsz; omega
  obtain ⟨u, hu, ho, hvu⟩ := hcell 0 0 _ p rfl rfl
  obtain ⟨u2, hu2, ho2, hvu2⟩ := hcell 0 1 _ buf rfl rfl
  simp only [hb] at hu hu2
  have hw0 : w.cell? ⟨g.eta rb, 0, none⟩ = some u := by
    rw [hcur.cell]; exact hu
  rcases hp with rfl | rfl
  · rw [prim_inv hvu] at hw0
    refine (Any.Builder_copyCheck_fresh lays240 x72 (g.eta rb) w hw0 ?_ ?_).mono ?_
    · simp only [World.shape?, hq]; show some (Tb, cur.size) = some (Tb, 2); rw [hcs]
    · simp [World.frozen?, hq]; omega
    · rintro e w' ⟨rfl, rfl⟩
      rw [setCell_eq_setRow w _ _ cur _ _ _ hq]
      obtain ⟨S, H'⟩ := root_write H hr hcur (by omega) (cur.setIfInBounds 0 (.pointer (some ⟨g.eta rb, 0, none⟩))) (by simp) (es' := [[.vp rb 0, buf]]) (by simp) (by simp; omega) (fun i j e x he hx => by
        cases i with
        | succ i => simp at he
        | zero =>
          simp at he; subst he
          cases j with
          | zero => simp at hx; subst hx; exact ⟨_, by simp [hb, hcs], rfl, .vp rb 0 hlt hb hc⟩
          | succ j =>
            cases j with
            | zero => simp at hx; subst hx; exact ⟨u2, by simpa [hb] using hu2, ho2, hvu2⟩
            | succ j => simp at hx)
      exact ⟨_, _, _, g, rfl, hk, H', .tup #[] [] rfl (fun j u a hu => by simp at hu), S⟩
  · obtain ⟨_, _, hu'⟩ := hvu.vp_inv
    rw [hu'] at hw0
    refine (Any.Builder_copyCheck_used lays240 x72 (g.eta rb) w hw0).mono ?_
    rintro e w' ⟨rfl, rfl⟩
    have : upd h rb (some ⟨Tb, 2, [[.vp rb 0, buf]]⟩) = h := upd_id hr
    rw [this] at hk
    exact ⟨_, _, h, g, rfl, hk, H, .tup #[] [] rfl (fun j u a hu => by simp at hu), GS.refl g _⟩
def Bl (h0 : Heap) (rb : Nat) (s : List UInt8) (h : Heap) : Prop := h0 rb = none ∧ ∃ p buf, BP rb p ∧ (buf ≠ .emp → s ≠ []) ∧ Acc (upd h0 rb (some ⟨Tb, 2, [[p, buf]]⟩)) Tu 1 (strEs s) buf h ∧ Sub (upd h0 rb (some ⟨Tb, 2, [[p, buf]]⟩)) h
theorem acc_at {h0 h : Heap} {rb ty sz : Nat} {x y : AObj} {cells : List (List AVal)} {a : AVal} (A : Acc (upd h0 rb (some x)) ty sz cells a h) : Acc (upd h0 rb (some y)) ty sz cells a (upd h rb (some y)) := by
  rcases A with h | ⟨r, h1, h2, h3⟩
  · exact .inl h
  · have hne : r ≠ rb := by rintro rfl; simp at h1
    refine .inr ⟨r, ?_, ?_, h3⟩
    · unfold Sim.upd at h1 ⊢; simpa [hne] using h1
    · unfold Sim.upd; simpa [hne] using h2
theorem sub_at {h0 h : Heap} {rb : Nat} {x y : AObj} (S : Sub (upd h0 rb (some x)) h) : Sub (upd h0 rb (some y)) (upd h rb (some y)) := by
  intro t o ht
  by_cases hne : t = rb
  · subst hne; simpa [Sim.upd] using ht
  · have := S t o (by simpa [Sim.upd, hne] using ht)
    simpa [Sim.upd, hne] using this
theorem sub_is {h0 h : Heap} {rb : Nat} {x : AObj} (S : Sub (upd h0 rb (some x)) h) : h rb = some x := S rb x (by simp [Sim.upd])
theorem sub_off {h0 h : Heap} {rb : Nat} {x : AObj} (h1 : h0 rb = none) (S : Sub (upd h0 rb (some x)) h) : Sub h0 h := by
  intro t o ht
  have hne : t ≠ rb := by rintro rfl; rw [h1] at ht; cases ht
  exact S t o (by simpa [Sim.upd, hne] using ht)
theorem Bl.new (h : Heap) (rb : Nat) (h0 : h rb = none) : Bl h rb [] (upd h rb (some ⟨Tb, 2, [[.prim (.pointer none), .emp]]⟩)) :=
  ⟨h0, _, _, .inl rfl, fun h => absurd rfl h, Acc.nil, Sub.refl _⟩
theorem Bl.sub {h0 h : Heap} {rb : Nat} {s : List UInt8} (B : Bl h0 rb s h) : Sub h0 h := by
  obtain ⟨h1, p, buf, _, _, _, S⟩ := B
  exact sub_off h1 S
def c63 : SFun := ⟨.seq (.reg [⟨some 4, .mv (.c (.prim .nilIface)), none⟩]) (.seq (.reg [⟨some 5, .mv (.t 0), none⟩, ⟨some 6, .call (.c (.fn 103 [] [])) [.t 5], none⟩]) (.seq (.reg [⟨some 7, .mv (.t 0), none⟩, ⟨some 8, .mv (.t 0), none⟩, ⟨some 9, .fldA 0 (.t 8), none⟩, ⟨some 10, .fldA 1 (.t 9), none⟩, ⟨some 11, .ld 1 false (.t 10), none⟩, ⟨some 12, .mv (.t 1), none⟩, ⟨some 13, .bldF 5 1 [.t 12], none⟩, ⟨some 14, .app 5 1 1 (.t 11) (.t 13), none⟩, ⟨some 15, .fldA 0 (.t 7), none⟩, ⟨some 16, .fldA 1 (.t 15), none⟩, ⟨none, .st 1 (.t 16) (.t 14), none⟩]) (.seq (.reg [⟨some 4, .mv (.c (.prim .nilIface)), none⟩]) .ret))), [.tmp 4]⟩
theorem hc63 : toSF Tryz.prog {} Tryz.f63 = some c63 := by kernel_rfl
theorem hn63 : (Tryz.f63.name == "runtime.NumGoroutine") = false := by kernel_rfl
theorem writeByte_ok {h0 h : Heap} {rb : Nat} {s : List UInt8} (b : UInt8) (B : Bl h0 rb s h) (hs : s.length < 140737488355328) :
    DCalls (Pg G) 63 [.vp rb 0, .int .u8 b.toNat] h fun a h' => a = .prim .nilIface ∧ Bl h0 rb (s ++ [b]) h' := by
  obtain ⟨hn, p, buf, hp, hne, A, S⟩ := B
  refine dcalls_of_vc Tryz.func63 hn63 hc63 (by rw [Tryz.ntmps63]; simp) (by rw [Tryz.ntmps63]; decide) ?_
  simp -dsimp -implicitDefEqProofs (disch := omega) only [VCA, ↓reduceIte, reduceCtorEq, c63]
  refine copyCheck_ok rb h p buf hp (sub_is S) ?_
  simp -dsimp -implicitDefEqProofs (disch := omega) only [VCA, Nat.reduceEqDiff, Nat.reduceAdd, Nat.reduceLT, ↓reduceIte, reduceCtorEq, okParts, forall_eq, exists_eq_left, exists_eq_left']
  refine (acc_at A).app (sub_at S) (by simp [strEs]; omega) (by simp [strEs]; omega) fun a' h3 A' S' => ?_
  obtain ⟨r, h1, h2, rfl⟩ := A'.pos (by simp)
  simp -dsimp -implicitDefEqProofs (disch := omega) only [VCA, Nat.reduceEqDiff, Nat.reduceAdd, Nat.reduceLT, ↓reduceIte, setAt, exists_eq_left', sub_is S']
  exact ⟨_, Sub.refl _, hn, _, _, .inr rfl, fun _ => by simp, by simpa [strEs] using acc_at A', sub_at S'⟩
def c65 : SFun := ⟨.seq (.reg [⟨some 2, .mv (.c (.str [])), none⟩]) (.seq (.dreg [(⟨some 3, .mv (.t 0), none⟩, none), (⟨some 4, .fldA 0 (.t 3), none⟩, none), (⟨some 5, .fldA 1 (.t 4), none⟩, none), (⟨some 6, .ld 1 false (.t 5), none⟩, none), (⟨some 8, .mv (.t 0), none⟩, none), (⟨some 9, .fldA 0 (.t 8), none⟩, none), (⟨some 10, .fldA 1 (.t 9), none⟩, none), (⟨some 11, .ld 1 false (.t 10), none⟩, none), (⟨some 12, .len (.t 11), none⟩, none), (⟨some 7, .usd (.t 6), none⟩, (some [6])), (⟨some 13, .ustr 5 (.t 7) (.t 12), none⟩, (some [6, 11])), (⟨some 2, .mv (.t 13), none⟩, none)]) .ret), [.tmp 2]⟩
theorem hc65 : toSF Tryz.prog {} Tryz.f65 = some c65 := by kernel_rfl
theorem hn65 : (Tryz.f65.name == "runtime.NumGoroutine") = false := by kernel_rfl
theorem string_ok {h0 h : Heap} {rb : Nat} {s : List UInt8} (B : Bl h0 rb s h) (hs : s.length < 140737488355328) :
    DCalls (Pg G) 65 [.vp rb 0] h fun a h' => a = .str s ∧ Sub h0 h' := by
  obtain ⟨hn, p, buf, hp, hne, A, S⟩ := B
  refine dcalls_of_vc Tryz.func65 hn65 hc65 (by rw [Tryz.ntmps65]; simp) (by rw [Tryz.ntmps65]; decide) ?_
  rcases A with ⟨he, rfl⟩ | ⟨r, h1, h2, rfl⟩
  · have hs0 : s = [] := by simpa [strEs] using he
    subst hs0
    simp -dsimp -implicitDefEqProofs (disch := omega) only [VCA, Nat.reduceEqDiff, Nat.reduceBEq, Nat.reduceAdd, Nat.reduceLT, ↓reduceIte, reduceCtorEq, rsOf, rootsOf, SOp.rd, SI.rd, SX.rd, implies_true, exists_eq_left', rootL, c65, sub_is S]
    exact ⟨_, Sub.refl _, sub_off hn S⟩
  · have hs1 : s ≠ [] := hne (by intro h; cases h)
    have hs2 : 0 < s.length := List.length_pos_iff.2 hs1
    have h1' : h0 r = none ∧ r ≠ rb := by
      have hne : r ≠ rb := by rintro rfl; simp at h1
      exact ⟨by simpa [Sim.upd, hne] using h1, hne⟩
    simp -dsimp -implicitDefEqProofs (disch := omega) only [VCA, Nat.reduceEqDiff, Nat.reduceBEq, Nat.reduceAdd, Nat.reduceLT, ↓reduceIte, reduceCtorEq, rsOf, rootsOf, SOp.rd, SI.rd, SX.rd, implies_true, ne_eq, exists_eq_left', rootL, c65, sub_is S]
    have hl : (strEs s).length = s.length := by simp [strEs]
    refine ⟨by omega, s, _, h2, rfl, rfl, by simp [strEs], List.take_of_length_le (by simp [strEs]), by simp [strEs], hs1, by omega, ?_⟩
    simp -dsimp -implicitDefEqProofs (disch := omega) only [VCA]
    first
      | exact ⟨_, Sub.refl _, Sub.del (sub_off hn S) h1'.1⟩
      | (refine ⟨?_, _, Sub.refl _, Sub.del (sub_off hn S) h1'.1⟩; rw [← sub_is S]; simp [Sim.del, Ne.symm h1'.2])
end Go.Proofs.K
end
section
set_option linter.unusedSimpArgs false
set_option linter.unusedVariables false
namespace Go.Proofs.K
open Go Go.Sim Go.Proofs
variable {G : Glob}
def eRune (r : Int) : List AVal := [.int .i32 r]
instance : LenE eRune 1 := ⟨fun _ => rfl⟩
end Go.Proofs.K
end
section
set_option linter.unusedSimpArgs false
set_option linter.unusedVariables false
namespace Go.Proofs.K
open Go Go.Sim Go.Proofs
variable {G : Glob}
def bt (s : List UInt8) (i : Nat) : Int := ((s.getD i 0).toNat : Int)
end Go.Proofs.K
end
section
set_option linter.unusedSimpArgs false
set_option linter.unusedVariables false
namespace Go.Proofs.K
open Go Go.Sim Go.Proofs
def firstF (q : Nat → Bool) : Nat → Nat → Nat
  | 0, a => a
  | f + 1, a => if q a = true then a else firstF q f (a + 1)
def firstM (q : Nat → Bool) (n a : Nat) : Nat := firstF q (n - a) a
theorem first_on {q : Nat → Bool} {n a : Nat} (h : a < n) (hq : q a = false) : firstM q n a = firstM q n (a + 1) := by
  unfold firstM
  obtain ⟨f, hf⟩ : ∃ f, n - a = f + 1 := ⟨n - a - 1, by omega⟩
  rw [hf, show n - (a + 1) = f by omega, firstF, hq, if_neg (by simp)]
theorem first_off {q : Nat → Bool} {n a : Nat} (hq : q a = true) (h : a < n) : firstM q n a = a := by
  unfold firstM
  obtain ⟨f, hf⟩ : ∃ f, n - a = f + 1 := ⟨n - a - 1, by omega⟩
  rw [hf, firstF, hq, if_pos rfl]
theorem first_end {q : Nat → Bool} {n a : Nat} (h : n ≤ a) : firstM q n a = a := by
  unfold firstM
  rw [show n - a = 0 by omega]; rfl
structure FirstIs (q : Nat → Bool) (n a k : Nat) : Prop where
  ge : a ≤ k
  le : k ≤ n
  hit : k < n → q k = true
  no : ∀ j, a ≤ j → j < k → q j = false
theorem first_is {q : Nat → Bool} {n : Nat} : ∀ m a, n - a = m → a ≤ n → FirstIs q n a (firstM q n a)
  | 0, a, hm, h => by
    obtain rfl : a = n := by omega
    rw [first_end (Nat.le_refl _)]
    exact ⟨Nat.le_refl _, Nat.le_refl _, fun h => absurd h (Nat.lt_irrefl _), fun j h1 h2 => by omega⟩
  | m + 1, a, hm, h => by
    cases hq : q a with
    | true =>
      rw [first_off hq (by omega)]
      exact ⟨Nat.le_refl _, h, fun _ => hq, fun j h1 h2 => by omega⟩
    | false =>
      rw [first_on (by omega) hq]
      obtain ⟨h1, h2, h3, h4⟩ := first_is (q := q) (n := n) m (a + 1) (by omega) (by omega)
      refine ⟨by omega, h2, h3, fun j g1 g2 => ?_⟩
      by_cases e : j = a
      · rw [e]; exact hq
      · exact h4 j (by omega) g2
theorem fstI {q : Nat → Bool} {n a : Nat} (h : a ≤ n) : FirstIs q n a (firstM q n a) := first_is _ a rfl h
theorem FirstIs.eq {q : Nat → Bool} {n a k : Nat} (h : FirstIs q n a k) : firstM q n a = k := by
  have g := fstI (q := q) (n := n) (a := a) (Nat.le_trans h.ge h.le)
  rcases Nat.lt_trichotomy (firstM q n a) k with hl | he | hl
  · have h1 := h.no _ g.ge hl
    rw [g.hit (Nat.lt_of_lt_of_le hl h.le)] at h1; cases h1
  · exact he
  · have h1 := g.no _ h.ge hl
    rw [h.hit (Nat.lt_of_lt_of_le hl g.le)] at h1; cases h1
end Go.Proofs.K
end
section
set_option linter.unusedSimpArgs false
set_option linter.unusedVariables false
namespace Go.Proofs.K
open Go Go.Sim Go.Proofs
structure HEnt where
  name : List UInt8
  value : List UInt8
deriving DecidableEq, Inhabited
def eEnt (x : HEnt) : List AVal := [.str x.name, .str x.value]
instance : LenE eEnt 2 := ⟨fun _ => rfl⟩
def hexV (b : Int) : Int := if 48 ≤ b ∧ b ≤ 57 then b - 48 else if 97 ≤ b ∧ b ≤ 102 then b - 97 + 10 else if 65 ≤ b ∧ b ≤ 70 then b - 65 + 10 else 99
def plainI (b : Int) : Bool := (decide (48 ≤ b) && decide (b ≤ 57)) || (decide (97 ≤ b) && decide (b ≤ 122)) || (decide (65 ≤ b) && decide (b ≤ 90)) || b == 42 || b == 45 || b == 46 || b == 95
def hexC (n : Nat) : UInt8 := if n < 10 then UInt8.ofNat (48 + n) else UInt8.ofNat (55 + n)
def encB (b : UInt8) : List UInt8 := if plainI b.toNat = true then [b] else if b.toNat = 32 then [43] else [37, hexC (b.toNat / 16), hexC (b.toNat % 16)]
def encF (s : List UInt8) : List UInt8 := s.flatMap encB
theorem encB_len (b : UInt8) : (encB b).length ≤ 3 := by unfold encB; (repeat' split) <;> simp
theorem encF_len : ∀ s : List UInt8, (encF s).length ≤ 3 * s.length
  | [] => Nat.le_refl _
  | b :: r => by
    have h1 := encF_len r
    have h2 := encB_len b
    unfold encF at h1 ⊢
    rw [List.flatMap_cons, List.length_append, List.length_cons]; omega
theorem encF_snoc (s : List UInt8) (b : UInt8) : encF (s ++ [b]) = encF s ++ encB b := by unfold encF; rw [List.flatMap_append]; simp
def pct (s : List UInt8) (i : Nat) : Bool := decide (bt s i = 37) && decide (i + 2 < s.length) && decide (hexV (bt s (i + 1)) < 16) && decide (hexV (bt s (i + 2)) < 16)
def decG (s : List UInt8) : Nat → Nat → List UInt8
  | 0, _ => []
  | f + 1, i => if s.length ≤ i then [] else if bt s i = 43 then 32 :: decG s f (i + 1) else if pct s i = true then UInt8.ofNat (16 * (hexV (bt s (i + 1))) + hexV (bt s (i + 2))).toNat :: decG s f (i + 3) else s.getD i 0 :: decG s f (i + 1)
def decF (s : List UInt8) (i : Nat) : List UInt8 := decG s (s.length - i) i
theorem decG_more (s : List UInt8) : ∀ f i, s.length - i ≤ f → decG s f i = decG s (s.length - i) i := fun f => by
  induction f using Nat.strongRecOn with
  | _ f ih =>
    intro i h
    by_cases hl : s.length ≤ i
    · have e0 : s.length - i = 0 := by omega
      rw [e0, show decG s 0 i = [] from rfl]
      cases f with
      | zero => rfl
      | succ f => rw [decG, if_pos hl]
    · obtain ⟨g, hg⟩ : ∃ g, s.length - i = g + 1 := ⟨s.length - i - 1, by omega⟩
      cases f with
      | zero => omega
      | succ f =>
        rw [hg, decG, decG, if_neg hl, if_neg hl]
        have h1 : ∀ j, i < j → decG s f j = decG s g j := fun j hj => by
          rw [ih f (Nat.lt_succ_self f) j (by omega)]
          by_cases hgf : g = f
          · rw [hgf, ih f (Nat.lt_succ_self f) j (by omega)]
          · rw [ih g (by omega) j (by omega)]
        rw [h1 (i + 1) (by omega), h1 (i + 3) (by omega)]
theorem decF_end {s : List UInt8} {i : Nat} (h : s.length ≤ i) : decF s i = [] := by
  unfold decF; rw [show s.length - i = 0 by omega]; rfl
theorem decF_is {s : List UInt8} {i : Nat} (h : i < s.length) : decF s i = if bt s i = 43 then 32 :: decF s (i + 1) else if pct s i = true then UInt8.ofNat (16 * (hexV (bt s (i + 1))) + hexV (bt s (i + 2))).toNat :: decF s (i + 3) else s.getD i 0 :: decF s (i + 1) := by
  unfold decF
  obtain ⟨g, hg⟩ : ∃ g, s.length - i = g + 1 := ⟨s.length - i - 1, by omega⟩
  rw [hg, decG, if_neg (by omega), decG_more s g (i + 1) (by omega), decG_more s g (i + 3) (by omega)]
def pcs (c : UInt8) : List UInt8 → List (List UInt8)
  | [] => [[]]
  | b :: r => if b = c then [] :: pcs c r else match pcs c r with
    | [] => [[b]]
    | p :: q => (b :: p) :: q
theorem pcs_none (c : UInt8) : ∀ s : List UInt8, c ∉ s → pcs c s = [s]
  | [], _ => rfl
  | b :: r, h => by
    have h1 : b ≠ c := fun e => h (by rw [e]; exact List.mem_cons_self)
    have h2 : c ∉ r := fun e => h (List.mem_cons_of_mem _ e)
    rw [pcs, if_neg h1, pcs_none c r h2]
theorem pcs_cut (c : UInt8) : ∀ (p r : List UInt8), c ∉ p → pcs c (p ++ c :: r) = p :: pcs c r
  | [], r, _ => by rw [List.nil_append, pcs, if_pos rfl]
  | b :: p, r, h => by
    have h1 : b ≠ c := fun e => h (by rw [e]; exact List.mem_cons_self)
    have h2 : c ∉ p := fun e => h (List.mem_cons_of_mem _ e)
    rw [List.cons_append, pcs, if_neg h1, pcs_cut c p r h2]
def entM (p : List UInt8) : HEnt := ⟨decF (p.takeWhile (· != 61)) 0, decF ((p.dropWhile (· != 61)).drop 1) 0⟩
def entsM (s : List UInt8) : List HEnt := ((pcs 38 s).filter (fun p => p != [])).map entM
def decoded (s : List UInt8) : List HEnt × Int := if 4000 < s.length then ([], 2) else if 100 < (entsM s).length then ([], 2) else (entsM s, 0)
def joinM : List (List UInt8) → List UInt8
  | [] => []
  | [x] => x
  | x :: y :: r => x ++ 38 :: joinM (y :: r)
def pairM (x : HEnt) : List UInt8 := encF x.name ++ 61 :: encF x.value
def coded (l : List HEnt) : List UInt8 × Int := if 100 < l.length then ([], 2) else if 4000 < (joinM (l.map pairM)).length then ([], 2) else (joinM (l.map pairM), 0)
end Go.Proofs.K
end
section
set_option linter.unusedSimpArgs false
set_option linter.unusedVariables false
namespace Go.Proofs.K
open Go Go.Sim Go.Proofs
theorem tk_while {c : UInt8} : ∀ {p r : List UInt8}, c ∉ p → (p ++ c :: r).takeWhile (· != c) = p ∧ (p ++ c :: r).dropWhile (· != c) = c :: r
  | [], r, _ => by simp
  | b :: p, r, h => by
    have h1 : b ≠ c := fun e => h (by rw [e]; exact List.mem_cons_self)
    obtain ⟨g1, g2⟩ := tk_while (p := p) (r := r) fun e => h (List.mem_cons_of_mem _ e)
    have hb : (b != c) = true := by simpa using h1
    rw [List.cons_append, List.takeWhile_cons, List.dropWhile_cons, hb, if_pos rfl, if_pos rfl, g1, g2]
    exact ⟨rfl, rfl⟩
theorem tk_none {c : UInt8} : ∀ {p : List UInt8}, c ∉ p → p.takeWhile (· != c) = p ∧ p.dropWhile (· != c) = []
  | [], _ => ⟨rfl, rfl⟩
  | b :: p, h => by
    have h1 : b ≠ c := fun e => h (by rw [e]; exact List.mem_cons_self)
    obtain ⟨g1, g2⟩ := tk_none (p := p) fun e => h (List.mem_cons_of_mem _ e)
    have hb : (b != c) = true := by simpa using h1
    rw [List.takeWhile_cons, List.dropWhile_cons, hb, if_pos rfl, if_pos rfl, g1, g2]
    exact ⟨rfl, rfl⟩
theorem index1 (c : UInt8) : ∀ s : List UInt8, (c ∉ s ∧ Lib.index s [c] = -1) ∨ ∃ p r, s = p ++ c :: r ∧ c ∉ p ∧ Lib.index s [c] = p.length
  | [] => .inl ⟨by simp, rfl⟩
  | b :: l => by
    rw [Lib.index]
    by_cases h : b = c
    · subst h
      have hp : [b].isPrefixOf (b :: l) = true := by simp [List.isPrefixOf]
      rw [if_pos hp]
      exact .inr ⟨[], l, rfl, by simp, rfl⟩
    · have hp : ¬ [c].isPrefixOf (b :: l) = true := by
        simp only [List.isPrefixOf, Bool.and_true, beq_iff_eq]; exact fun e => h e.symm
      rw [if_neg hp]
      rcases index1 c l with ⟨h1, h2⟩ | ⟨p, r, h1, h2, h3⟩
      · refine .inl ⟨fun e => ?_, by rw [h2]; rfl⟩
        rcases List.mem_cons.1 e with e | e
        · exact h e.symm
        · exact h1 e
      · refine .inr ⟨b :: p, r, by rw [h1]; rfl, fun e => ?_, ?_⟩
        · rcases List.mem_cons.1 e with e | e
          · exact h e.symm
          · exact h2 e
        · have hn : (Lib.index l [c] == -1) = false := by rw [h3]; simp
          rw [hn, h3, List.length_cons]; simp
theorem cut1 (c : UInt8) (s : List UInt8) : (Lib.cut s [c]).1 = s.takeWhile (· != c) ∧ (Lib.cut s [c]).2.1 = (s.dropWhile (· != c)).drop 1 := by
  unfold Lib.cut
  rcases index1 c s with ⟨h1, h2⟩ | ⟨p, r, h1, h2, h3⟩
  · obtain ⟨g1, g2⟩ := tk_none h1
    rw [h2, if_neg (by decide), g1, g2]; exact ⟨rfl, rfl⟩
  · have g := tk_while (r := r) h2
    rw [← h1] at g
    rw [h3, if_pos (by omega), g.1, g.2]
    constructor
    · show s.take ((p.length : Int)).toNat = p
      rw [h1]; simp
    · show s.drop (((p.length : Int)).toNat + 1) = _
      rw [h1]; simp
end Go.Proofs.K
end
section
set_option linter.unusedSimpArgs false
set_option linter.unusedVariables false
namespace Go.Proofs.K
open Go Go.Sim Go.Proofs Go.Shelf
variable {G : Glob}
def hexU : List UInt8 := [48, 49, 50, 51, 52, 53, 54, 55, 56, 57, 65, 66, 67, 68, 69, 70]
def plainS : List UInt8 := [97, 98, 99, 100, 101, 102, 103, 104, 105, 106, 107, 108, 109, 110, 111, 112, 113, 114, 115, 116, 117, 118, 119, 120, 121, 122, 65, 66, 67, 68, 69, 70, 71, 72, 73, 74, 75, 76, 77, 78, 79, 80, 81, 82, 83, 84, 85, 86, 87, 88, 89, 90, 48, 49, 50, 51, 52, 53, 54, 55, 56, 57, 42, 45, 46, 95]
theorem plain_is (b : UInt8) : decide (0 ≤ Lib.indexByte plainS b) = plainI b.toNat := of_decide_eq_true (u8_all (p := fun b => decide (decide (0 ≤ Lib.indexByte plainS b) = plainI b.toNat)) (by decide +kernel) b)
theorem hexU_is (n : Nat) (h : n < 16) : hexU.getD n 0 = hexC n := by
  rcases (show n = 0 ∨ n = 1 ∨ n = 2 ∨ n = 3 ∨ n = 4 ∨ n = 5 ∨ n = 6 ∨ n = 7 ∨ n = 8 ∨ n = 9 ∨ n = 10 ∨ n = 11 ∨ n = 12 ∨ n = 13 ∨ n = 14 ∨ n = 15 by omega) with h | h | h | h | h | h | h | h | h | h | h | h | h | h | h | h <;> subst h <;> rfl
def c64 : SFun := ⟨.seq (.reg [⟨some 4, .mv (.c (.int .i64 0)), none⟩, ⟨some 5, .mv (.c (.prim .nilIface)), none⟩]) (.seq (.reg [⟨some 6, .mv (.t 0), none⟩, ⟨some 7, .call (.c (.fn 103 [] [])) [.t 6], none⟩]) (.seq (.reg [⟨some 8, .mv (.t 0), none⟩, ⟨some 9, .mv (.t 0), none⟩, ⟨some 10, .fldA 0 (.t 9), none⟩, ⟨some 11, .fldA 1 (.t 10), none⟩, ⟨some 12, .ld 1 false (.t 11), none⟩, ⟨some 13, .mv (.t 1), none⟩, ⟨some 14, .app 5 1 1 (.t 12) (.t 13), none⟩, ⟨some 15, .fldA 0 (.t 8), none⟩, ⟨some 16, .fldA 1 (.t 15), none⟩, ⟨none, .st 1 (.t 16) (.t 14), none⟩]) (.seq (.reg [⟨some 17, .mv (.t 1), none⟩, ⟨some 18, .len (.t 17), none⟩, ⟨some 4, .mv (.t 18), none⟩, ⟨some 5, .mv (.c (.prim .nilIface)), none⟩]) .ret))), [.tmp 4, .tmp 5]⟩
theorem hc64 : toSF Tryz.prog {} Tryz.f64 = some c64 := by kernel_rfl
theorem hn64 : (Tryz.f64.name == "runtime.NumGoroutine") = false := by kernel_rfl
theorem bwrite_ok {h0 h : Heap} {rb : Nat} {s : List UInt8} (t : List UInt8) (B : Bl h0 rb s h) (ht : t ≠ []) (hs : s.length + t.length ≤ 1000000000) :
    DCalls (Pg G) 64 [.vp rb 0, .slc (strEs t)] h fun a h' => Bl h0 rb (s ++ t) h' := by
  obtain ⟨hn, p, buf, hp, hnb, A, S⟩ := B
  have hl : (strEs t).length = t.length := by simp [strEs]
  refine dcalls_of_vc Tryz.func64 hn64 hc64 (by rw [Tryz.ntmps64]; simp) (by rw [Tryz.ntmps64]; decide) ?_
  simp -dsimp -implicitDefEqProofs (disch := omega) only [VCA, ↓reduceIte, reduceCtorEq, c64]
  refine copyCheck_ok rb h p buf hp (sub_is S) ?_
  simp -dsimp -implicitDefEqProofs (disch := omega) only [VCA, Nat.reduceEqDiff, Nat.reduceAdd, Nat.reduceLT, ↓reduceIte, reduceCtorEq, exists_eq_left']
  have hl2 : (strEs s).length = s.length := by simp [strEs]
  refine ⟨_, ⟨rfl, fun e he => by obtain ⟨x, _, rfl⟩ := List.mem_map.1 he; rfl⟩, ?_⟩
  refine (acc_at A).app (b := 1) (sub_at S) (by rw [hl, hl2]; omega) (by rw [hl, hl2]; omega) fun a' h3 A' S' => ?_
  obtain ⟨r, h1, h2, rfl⟩ := A'.pos (by simp [strEs]; have := List.length_pos_iff.2 ht; omega)
  simp -dsimp -implicitDefEqProofs (disch := omega) only [VCA, Nat.reduceEqDiff, Nat.reduceAdd, Nat.reduceLT, ↓reduceIte, setAt, exists_eq_left', sub_is S']
  exact ⟨_, Sub.refl _, hn, _, _, .inr rfl, fun _ => by simp [ht], by simpa [strEs] using acc_at A', sub_at S'⟩
def digV (b : Int) : Int := if hexV b < 16 then hexV b else -1
theorem digV_is (b : UInt8) : Lib.indexByte hexU (if 97 ≤ b.toNat ∧ b.toNat ≤ 102 then b - 32 else b) = digV b.toNat := of_decide_eq_true (u8_all (p := fun b => decide (Lib.indexByte hexU (if 97 ≤ b.toNat ∧ b.toNat ≤ 102 then b - 32 else b) = digV b.toNat)) (by decide +kernel) b)
def c70 : SFun := ⟨.seq (.reg [⟨some 2, .mv (.c (.int .i64 0)), none⟩]) (.seq (.seq (.reg [⟨some 3, .mv (.t 0), none⟩, ⟨some 4, .bin .geq (.t 3) (.c (.int .u8 97)), none⟩, ⟨some 5, .mv (.t 4), none⟩, ⟨some 6, .mv (.t 0), some (5, true)⟩, ⟨some 7, .bin .leq (.t 6) (.c (.int .u8 102)), some (5, true)⟩, ⟨some 8, .pick (.t 5) (.t 7) (.c (.bool false)), none⟩]) (.cond (.t 8) (.reg [⟨some 9, .mv (.t 0), none⟩, ⟨some 10, .bin .sub (.t 9) (.c (.int .u8 32)), none⟩, ⟨some 0, .mv (.t 10), none⟩]) .skip)) (.seq (.reg [⟨some 11, .mv (.t 0), none⟩, ⟨some 12, .pcall 62 [.c (.str [48, 49, 50, 51, 52, 53, 54, 55, 56, 57, 65, 66, 67, 68, 69, 70]), .t 11], none⟩, ⟨some 2, .mv (.t 12), none⟩]) .ret)), [.tmp 2]⟩
theorem hc70 : toSF Tryz.prog {pure := [62]} Tryz.f70 = some c70 := by kernel_rfl
theorem hn70 : (Tryz.f70.name == "runtime.NumGoroutine") = false := by kernel_rfl
theorem fdigit_ok (b : UInt8) : PCalls (Pg G) 70 [.int .u8 b.toNat] (aInt (digV b.toNat)) := fun h => by
  have hd := digV_is b
  by_cases hb : 97 ≤ b.toNat ∧ b.toNat ≤ 102
  · rw [if_pos hb] at hd
    have cI := indexByte_ok (G := G) hexU (b - 32)
    rw [hd] at cI
    have hw : IntKind.u8.wrap ((b.toNat : Int) - 32) = ((b - 32).toNat : Int) := by
      rw [IntKind.wrap_u8, UInt8.toNat_sub]; simp; omega
    unfold hexU at cI
    refine dcalls_of_vc Tryz.func70 hn70 hc70 (by rw [Tryz.ntmps70]; simp) (by rw [Tryz.ntmps70]; decide) ?_
    simp -dsimp -implicitDefEqProofs (disch := omega) only [↓vcOps_sp 5, VCA, ↓reduceIte, reduceCtorEq, c70]
    repeat' (first | ((with_reducible refine brC (fun _ => ?_) fun _ => ?_) <;> try (exfalso; omega)) | (with_reducible apply pcallE.of; · exact cI) | (with_reducible refine And.intro ?_ ?_; · omega) | simp -dsimp -implicitDefEqProofs (disch := omega) only [VCA, Nat.reduceEqDiff, ↓reduceIte, reduceCtorEq, exists_eq_right, hw])
    all_goals first | exact Sub.refl _ | exact ⟨Sub.refl _, rfl⟩
  · rw [if_neg hb] at hd
    have cI := indexByte_ok (G := G) hexU b
    rw [hd] at cI
    unfold hexU at cI
    refine dcalls_of_vc Tryz.func70 hn70 hc70 (by rw [Tryz.ntmps70]; simp) (by rw [Tryz.ntmps70]; decide) ?_
    simp -dsimp -implicitDefEqProofs (disch := omega) only [↓vcOps_sp 5, VCA, ↓reduceIte, reduceCtorEq, c70]
    repeat' (first | ((with_reducible refine brC (fun _ => ?_) fun _ => ?_) <;> try (exfalso; omega)) | (with_reducible apply pcallE.of; · exact cI) | (with_reducible refine And.intro ?_ ?_; · omega) | simp -dsimp -implicitDefEqProofs (disch := omega) only [VCA, Nat.reduceEqDiff, ↓reduceIte, reduceCtorEq, exists_eq_right])
    all_goals first | exact Sub.refl _ | exact ⟨Sub.refl _, rfl⟩
theorem shr4 (b : UInt8) : (b.toNat : Int).fdiv (2 ^ min (Int.toNat 4) IntKind.u8.bits) = ((b.toNat / 16 : Nat) : Int) := of_decide_eq_true (u8_all (p := fun b => decide ((b.toNat : Int).fdiv (2 ^ min (Int.toNat 4) IntKind.u8.bits) = ((b.toNat / 16 : Nat) : Int))) (by decide +kernel) b)
theorem and15 (b : UInt8) : bitF .and .u8 (b.toNat : Int) 15 = ((b.toNat % 16 : Nat) : Int) := of_decide_eq_true (u8_all (p := fun b => decide (bitF .and .u8 (b.toNat : Int) 15 = ((b.toNat % 16 : Nat) : Int))) (by decide +kernel) b)
def k23_1 : List UInt8 := [97, 98, 99, 100, 101, 102, 103, 104, 105, 106, 107, 108, 109, 110, 111, 112, 113, 114, 115, 116, 117, 118, 119, 120, 121, 122, 65, 66, 67, 68, 69, 70, 71, 72, 73, 74, 75, 76, 77, 78, 79, 80, 81, 82, 83, 84, 85, 86, 87, 88, 89, 90, 48, 49, 50, 51, 52, 53, 54, 55, 56, 57, 42, 45, 46, 95]
def c23 : SFun := ⟨.seq (.reg [⟨some 2, .mv (.c (.str [])), none⟩]) (.seq (.reg [⟨some 3, .new 94 2 [.prim (Value.pointer none), .emp], none⟩]) (.seq (.seq (.reg [⟨some 6, .mv (.t 0), none⟩, ⟨some 7, .lenS (.t 6), none⟩, ⟨some 8, .mv (.c (.int .i64 0)), none⟩]) (.block 0 (.loop (.seq (.reg [⟨some 9, .bin .lss (.t 8) (.t 7), none⟩]) (.seq (.cond (.t 9) .skip (.exit 0)) (.seq (.block 1 (.seq (.reg [⟨some 10, .mv (.t 8), none⟩, ⟨some 4, .mv (.t 10), none⟩]) (.seq (.reg [⟨some 11, .mv (.t 0), none⟩, ⟨some 12, .mv (.t 4), none⟩, ⟨some 13, .idxS (.t 11) (.t 12), none⟩, ⟨some 5, .mv (.t 13), none⟩]) (.block 2 (.seq (.reg [⟨some 23, .mv (.t 5), none⟩, ⟨some 24, .call (.c (.fn 62 [] [])) [.c (.str k23_1), .t 23], none⟩, ⟨some 25, .bin .geq (.t 24) (.c (.int .i64 0)), none⟩, ⟨some 22, .mv (.t 25), none⟩]) (.cond (.t 22) (.reg [⟨some 26, .mv (.t 5), none⟩, ⟨some 27, .call (.c (.fn 63 [] [])) [.t 3, .t 26], none⟩]) (.seq (.reg [⟨some 29, .mv (.t 5), none⟩, ⟨some 30, .bin .eql (.t 29) (.c (.int .u8 32)), none⟩, ⟨some 28, .mv (.t 30), none⟩]) (.cond (.t 28) (.reg [⟨some 31, .call (.c (.fn 63 [] [])) [.t 3, .c (.int .u8 43)], none⟩]) (.dreg [(⟨some 14, .mv (.t 5), none⟩, none), (⟨some 15, .bin .shr (.t 14) (.c (.int .u64 4)), none⟩, none), (⟨some 16, .idxS (.c (.str [48, 49, 50, 51, 52, 53, 54, 55, 56, 57, 65, 66, 67, 68, 69, 70])) (.t 15), none⟩, none), (⟨some 17, .mv (.t 5), none⟩, none), (⟨some 18, .bin .and (.t 17) (.c (.int .u8 15)), none⟩, none), (⟨some 19, .idxS (.c (.str [48, 49, 50, 51, 52, 53, 54, 55, 56, 57, 65, 66, 67, 68, 69, 70])) (.t 18), none⟩, none), (⟨some 20, .bldF 5 1 [.c (.int .u8 37), .t 16, .t 19], none⟩, none), (⟨some 21, .call (.c (.fn 64 [] [])) [.t 3, .t 20], none⟩, (some []))]))))))))) (.reg [⟨some 32, .bin .add (.t 8) (.c (.int .i64 1)), none⟩, ⟨some 8, .mv (.t 32), none⟩]))))))) (.seq (.reg [⟨some 33, .call (.c (.fn 65 [] [])) [.t 3], none⟩, ⟨some 2, .mv (.t 33), none⟩]) .ret))), [.tmp 2]⟩
theorem hc23 : toSF Tryz.prog {} Tryz.f23 = some c23 := by kernel_rfl
theorem hn23 : (Tryz.f23.name == "runtime.NumGoroutine") = false := by kernel_rfl
set_option maxHeartbeats 1000000 in
theorem fencode_ok (s : List UInt8) (hs : s.length ≤ 1000000) : PCalls (Pg G) 23 [.str s] (.str (encF s)) := fun h => by
  refine dcalls_of_vc Tryz.func23 hn23 hc23 (by rw [Tryz.ntmps23]; simp) (by rw [Tryz.ntmps23]; decide) ?_
  simp -dsimp -implicitDefEqProofs (disch := omega) only [VCA, ↓reduceIte, reduceCtorEq, c23]
  intro rb hrb
  refine LoopVC.intro (fun m e h' => ∃ i : Nat, i ≤ s.length ∧ m = s.length - i ∧ e 0 = .str s ∧ e 3 = .vp rb 0 ∧ e 7 = aInt s.length ∧ e 8 = aInt i ∧ Bl h rb (encF (s.take i)) h') s.length
    (by exact ⟨0, by omega, by omega, rfl, rfl, rfl, rfl, Bl.new h rb hrb⟩) ?_
  rintro m e h' ⟨i, hi, rfl, e0, e3, e7, e8, B⟩
  simp -dsimp -implicitDefEqProofs (disch := omega) only [VCA, ↓reduceIte, e7, e8]
  refine Br.dec (fun hlt => ?_) (fun hge => ?_)
  · have hi' : i < s.length := by omega
    obtain ⟨b, hb⟩ : ∃ b, s.getD i 0 = b := ⟨_, rfl⟩
    have tk : s.take (i + 1) = s.take i ++ [b] := by
      rw [List.take_add_one, ← hb, List.getD_eq_getElem?_getD, List.getElem?_eq_getElem hi']; rfl
    have hen := encF_snoc (s.take i) b
    rw [← tk] at hen
    have hl := encF_len (s.take i)
    rw [List.length_take] at hl
    have cI := indexByte_ok (G := G) plainS b
    have hp := plain_is b
    obtain ⟨z, hz⟩ : ∃ z, Lib.indexByte plainS b = z := ⟨_, rfl⟩
    rw [hz] at cI hp
    unfold plainS at cI
    cases hq : plainI b.toNat
    · rw [hq] at hp
      by_cases h32 : b.toNat = 32
      · have eb : encB b = [43] := by unfold encB; rw [hq, if_neg (by decide), if_pos h32]
        have d1 : ((b.toNat : Int) == 32) = true := by rw [beq_iff_eq]; omega
        have cW := writeByte_ok (G := G) 43 B (by omega)
        have e43 : ((43 : UInt8).toNat : Int) = 43 := rfl
        rw [e43] at cW
        rw [eb] at hen
        repeat' (first | ((with_reducible refine brC (fun _ => ?_) fun _ => ?_) <;> try (exfalso; omega)) | ((refine PCalls.of cI ?_)) | ((refine DCalls.of cW ?_; rintro _ h5 ⟨rfl, B5⟩)) | (with_reducible refine And.intro ?_ ?_; · omega) | simp -dsimp -implicitDefEqProofs (disch := omega) only [VCA, Nat.reduceEqDiff, ↓reduceIte, reduceCtorEq, e0, e3, e7, e8, hb, hp, d1])
        all_goals exact ⟨_, by omega, i + 1, by omega, rfl, by omega, by rw [hen]; exact B5⟩
      · have eb : encB b = [37, hexC (b.toNat / 16), hexC (b.toNat % 16)] := by unfold encB; rw [hq, if_neg (by decide), if_neg h32]
        have d1 : ((b.toNat : Int) == 32) = false := by rw [beq_eq_false_iff_ne]; omega
        have hb256 := b.toNat_lt
        have s1 := shr4 b
        have s2 := and15 b
        have x1 := hexU_is (b.toNat / 16) (by have := b.toNat_lt; omega)
        have x2 := hexU_is (b.toNat % 16) (by omega)
        have cW := bwrite_ok (G := G) [37, hexC (b.toNat / 16), hexC (b.toNat % 16)] B (by simp) (by simp only [List.length_cons, List.length_nil]; omega)
        unfold hexU at x1 x2
        rw [eb] at hen
        repeat' (first | ((with_reducible refine brC (fun _ => ?_) fun _ => ?_) <;> try (exfalso; omega)) | ((refine PCalls.of cI ?_)) | (with_reducible refine And.intro ?_ ?_; · omega) | simp -dsimp -implicitDefEqProofs (disch := omega) only [VCA, Nat.reduceEqDiff, Nat.reduceAdd, ↓reduceIte, reduceCtorEq, rsOf, rootsOf, okParts, rootL, e0, e3, e8, hb, hp, d1, s1, s2, x1, x2])
        refine DCalls.of cW ?_
        rintro v h5 B5
        refine ⟨fun p hp => (by cases hp), ?_⟩
        simp -dsimp -implicitDefEqProofs (disch := omega) only [VCA, Nat.reduceEqDiff, ↓reduceIte, reduceCtorEq, SOp.rd, SI.rd, SX.rd, rdL, e0, e3, e7, e8]
        exact ⟨_, by omega, i + 1, by omega, rfl, by omega, by rw [hen]; exact B5⟩
    · rw [hq] at hp
      have eb : encB b = [b] := by unfold encB; rw [hq, if_pos rfl]
      have cW := writeByte_ok (G := G) b B (by omega)
      rw [eb] at hen
      repeat' (first | ((with_reducible refine brC (fun _ => ?_) fun _ => ?_) <;> try (exfalso; omega)) | ((refine PCalls.of cI ?_)) | ((refine DCalls.of cW ?_; rintro _ h5 ⟨rfl, B5⟩)) | (with_reducible refine And.intro ?_ ?_; · omega) | simp -dsimp -implicitDefEqProofs (disch := omega) only [VCA, Nat.reduceEqDiff, ↓reduceIte, reduceCtorEq, e0, e3, e7, e8, hb, hp])
      all_goals exact ⟨_, by omega, i + 1, by omega, rfl, by omega, by rw [hen]; exact B5⟩
  · obtain rfl : i = s.length := by omega
    rw [List.take_length] at B
    have hl := encF_len s
    have cS := string_ok (G := G) B (by omega)
    simp -dsimp -implicitDefEqProofs (disch := omega) only [VCA, Nat.reduceEqDiff, ↓reduceIte, e3]
    refine DCalls.of cS ?_
    rintro _ h5 ⟨rfl, S5⟩
    simp -dsimp -implicitDefEqProofs (disch := omega) only [VCA, ↓reduceIte, exists_eq_right]
    exact S5
theorem hexV_lo (b : UInt8) : 0 ≤ hexV b.toNat ∧ hexV b.toNat ≤ 99 := by unfold hexV; (repeat' split) <;> omega
theorem digV_pos (b : Int) (h0 : 0 ≤ hexV b) : decide (0 ≤ digV b) = decide (hexV b < 16) := by
  unfold digV
  by_cases h : hexV b < 16
  · rw [if_pos h, decide_eq_true h, decide_eq_true h0]
  · rw [if_neg h, decide_eq_false h]; rfl
theorem hexV_cases (b : UInt8) (h : hexV b.toNat < 16) : ∃ n : Nat, n < 16 ∧ hexV b.toNat = n := ⟨(hexV b.toNat).toNat, by have := hexV_lo b; omega, by have := hexV_lo b; omega⟩
theorem or4 (m n : Nat) (hm : m < 16) (hn : n < 16) : IntKind.u8.wrap (bitF .or .i64 (IntKind.i64.wrap ((m : Int) * 2 ^ min (Int.toNat 4) IntKind.i64.bits)) (n : Int)) = ((16 * m + n : Nat) : Int) := by
  have : ∀ m : Fin 16, ∀ n : Fin 16, IntKind.u8.wrap (bitF .or .i64 (IntKind.i64.wrap ((m.val : Int) * 2 ^ min (Int.toNat 4) IntKind.i64.bits)) (n.val : Int)) = ((16 * m.val + n.val : Nat) : Int) := by decide +kernel
  exact this ⟨m, hm⟩ ⟨n, hn⟩
theorem Acc_rd1 {h h' : Heap} {ty sz : Nat} {cells : List (List AVal)} {a : AVal} (A : Acc h ty sz cells a h') : Rd h' sz a cells := by
  rcases A with ⟨rfl, rfl⟩ | ⟨r, _, g1, rfl⟩
  · rfl
  · exact ⟨rfl, _, g1, by simp, by simp only [List.drop_zero, List.take_length]⟩
def c27 : SFun := ⟨.seq (.reg [⟨some 2, .mv (.c (.str [])), none⟩]) (.seq (.reg [⟨some 3, .mv (.c .emp), none⟩]) (.seq (.seq (.reg [⟨some 4, .mv (.c (.int .i64 0)), none⟩]) (.block 0 (.loop (.seq (.seq (.reg [⟨some 5, .mv (.t 4), none⟩, ⟨some 6, .mv (.t 0), none⟩, ⟨some 7, .lenS (.t 6), none⟩, ⟨some 8, .bin .lss (.t 5) (.t 7), none⟩]) (.cond (.t 8) .skip (.exit 0))) (.seq (.block 1 (.block 2 (.seq (.reg [⟨some 18, .mv (.t 0), none⟩, ⟨some 19, .mv (.t 4), none⟩, ⟨some 20, .idxS (.t 18) (.t 19), none⟩, ⟨some 21, .bin .eql (.t 20) (.c (.int .u8 43)), none⟩, ⟨some 17, .mv (.t 21), none⟩]) (.cond (.t 17) (.reg [⟨some 22, .mv (.t 3), none⟩, ⟨some 23, .bldF 5 1 [.c (.int .u8 32)], none⟩, ⟨some 24, .app 5 1 1 (.t 22) (.t 23), none⟩, ⟨some 3, .mv (.t 24), none⟩]) (.seq (.reg [⟨some 26, .mv (.t 0), none⟩, ⟨some 27, .mv (.t 4), none⟩, ⟨some 28, .idxS (.t 26) (.t 27), none⟩, ⟨some 29, .bin .eql (.t 28) (.c (.int .u8 37)), none⟩, ⟨some 30, .mv (.t 29), none⟩, ⟨some 31, .mv (.t 4), some (30, true)⟩, ⟨some 32, .bin .add (.t 31) (.c (.int .i64 2)), some (30, true)⟩, ⟨some 33, .mv (.t 0), some (30, true)⟩, ⟨some 34, .lenS (.t 33), some (30, true)⟩, ⟨some 35, .bin .lss (.t 32) (.t 34), some (30, true)⟩, ⟨some 36, .pick (.t 30) (.t 35) (.c (.bool false)), none⟩, ⟨some 37, .mv (.t 36), none⟩, ⟨some 38, .mv (.t 0), some (37, true)⟩, ⟨some 39, .mv (.t 4), some (37, true)⟩, ⟨some 40, .bin .add (.t 39) (.c (.int .i64 1)), some (37, true)⟩, ⟨some 41, .idxS (.t 38) (.t 40), some (37, true)⟩, ⟨some 42, .pcall 70 [.t 41], some (37, true)⟩, ⟨some 43, .bin .geq (.t 42) (.c (.int .i64 0)), some (37, true)⟩, ⟨some 44, .pick (.t 37) (.t 43) (.c (.bool false)), none⟩, ⟨some 45, .mv (.t 44), none⟩, ⟨some 46, .mv (.t 0), some (45, true)⟩, ⟨some 47, .mv (.t 4), some (45, true)⟩, ⟨some 48, .bin .add (.t 47) (.c (.int .i64 2)), some (45, true)⟩, ⟨some 49, .idxS (.t 46) (.t 48), some (45, true)⟩, ⟨some 50, .pcall 70 [.t 49], some (45, true)⟩, ⟨some 51, .bin .geq (.t 50) (.c (.int .i64 0)), some (45, true)⟩, ⟨some 52, .pick (.t 45) (.t 51) (.c (.bool false)), none⟩, ⟨some 25, .mv (.t 52), none⟩]) (.cond (.t 25) (.seq (.dreg [(⟨some 53, .mv (.t 3), none⟩, none), (⟨some 54, .mv (.t 0), none⟩, none), (⟨some 55, .mv (.t 4), none⟩, none), (⟨some 56, .bin .add (.t 55) (.c (.int .i64 1)), none⟩, none), (⟨some 57, .idxS (.t 54) (.t 56), none⟩, none), (⟨some 58, .pcall 70 [.t 57], none⟩, none), (⟨some 59, .bin .shl (.t 58) (.c (.int .u64 4)), none⟩, none), (⟨some 60, .mv (.t 0), none⟩, none), (⟨some 61, .mv (.t 4), none⟩, none), (⟨some 62, .bin .add (.t 61) (.c (.int .i64 2)), none⟩, none), (⟨some 63, .idxS (.t 60) (.t 62), none⟩, none), (⟨some 64, .pcall 70 [.t 63], none⟩, none), (⟨some 65, .bin .or (.t 59) (.t 64), none⟩, none), (⟨some 66, .cvi .u8 (.t 65), none⟩, none), (⟨some 67, .bldF 5 1 [.t 66], none⟩, none), (⟨some 68, .app 5 1 1 (.t 53) (.t 67), none⟩, (some [])), (⟨some 3, .mv (.t 68), none⟩, (some []))]) (.reg [⟨some 69, .mv (.t 4), none⟩, ⟨some 70, .bin .add (.t 69) (.c (.int .i64 2)), none⟩, ⟨some 4, .mv (.t 70), none⟩])) (.reg [⟨some 11, .mv (.t 3), none⟩, ⟨some 12, .mv (.t 0), none⟩, ⟨some 13, .mv (.t 4), none⟩, ⟨some 14, .idxS (.t 12) (.t 13), none⟩, ⟨some 15, .bldF 5 1 [.t 14], none⟩, ⟨some 16, .app 5 1 1 (.t 11) (.t 15), none⟩, ⟨some 3, .mv (.t 16), none⟩]))))))) (.reg [⟨some 9, .mv (.t 4), none⟩, ⟨some 10, .bin .add (.t 9) (.c (.int .i64 1)), none⟩, ⟨some 4, .mv (.t 10), none⟩])))))) (.seq (.reg [⟨some 71, .mv (.t 3), none⟩, ⟨some 72, .b2s (.t 71), none⟩, ⟨some 2, .mv (.t 72), none⟩]) .ret))), [.tmp 2]⟩
theorem hc27 : toSF Tryz.prog {pure := [70]} Tryz.f27 = some c27 := by kernel_rfl
theorem hn27 : (Tryz.f27.name == "runtime.NumGoroutine") = false := by kernel_rfl
set_option maxHeartbeats 2000000 in
theorem fdecode_ok (s : List UInt8) (hs : s.length ≤ 1000000) : PCalls (Pg G) 27 [.str s] (.str (decF s 0)) := fun h => by
  refine dcalls_of_vc Tryz.func27 hn27 hc27 (by rw [Tryz.ntmps27]; simp) (by rw [Tryz.ntmps27]; decide) ?_
  simp -dsimp -implicitDefEqProofs (disch := omega) only [VCA, c27]
  refine LoopVC.intro (fun m e h' => ∃ (i : Nat) (o : List UInt8), m = s.length - i ∧ i ≤ s.length + 3 ∧ o.length ≤ i ∧ e 0 = .str s ∧ e 4 = aInt i ∧ o ++ decF s i = decF s 0 ∧ Acc h 5 1 (strEs o) (e 3) h' ∧ Sim.Sub h h') s.length
    (by exact ⟨0, [], by omega, by omega, Nat.le_refl _, rfl, rfl, rfl, .nil, Sub.refl _⟩) ?_
  rintro m e h' ⟨i, o, rfl, hi3, hol, e0, e4, ho, A, S⟩
  have hsl : ∀ l : List UInt8, (strEs l).length = l.length := fun l => by simp [strEs]
  have sapp : ∀ (l : List UInt8) (b : UInt8), strEs (l ++ [b]) = strEs l ++ [[.int .u8 b.toNat]] := fun l b => by simp [strEs]
  simp -dsimp -implicitDefEqProofs (disch := omega) only [VCA, Nat.reduceEqDiff, ↓reduceIte, reduceCtorEq, e0, e4]
  refine Br.dec (fun hlt => ?_) (fun hge => ?_)
  · have hi' : i < s.length := by omega
    have hde := decF_is hi'
    obtain ⟨b, hb⟩ : ∃ b, s.getD i 0 = b := ⟨_, rfl⟩
    have ebt : bt s i = (b.toNat : Int) := by unfold bt; rw [hb]
    by_cases h43 : b.toNat = 43
    · have d1 : ((b.toNat : Int) == 43) = true := by rw [beq_iff_eq]; omega
      rw [ebt, if_pos (by omega)] at hde
      repeat' (first | ((with_reducible refine brC (fun _ => ?_) fun _ => ?_) <;> try (exfalso; omega)) | ((refine A.app (b := 1) S (by rw [hsl]; simp only [List.length_cons, List.length_nil]; omega) (by rw [hsl]; simp only [List.length_cons, List.length_nil]; omega) (fun a' h3 A' S' => ?_))) | (with_reducible refine And.intro ?_ ?_; · omega) | simp -dsimp -implicitDefEqProofs (disch := omega) only [VCA, Nat.reduceEqDiff, ↓reduceIte, reduceCtorEq, okParts, forall_eq, exists_eq_left, e0, e4, hb, d1])
      all_goals exact ⟨_, by omega, i + 1, o ++ [32], rfl, by omega, by simp; omega, by omega, by rw [← ho, hde]; simp, by rw [sapp]; exact A', S'⟩
    · have d1 : ((b.toNat : Int) == 43) = false := by rw [beq_eq_false_iff_ne]; omega
      rw [ebt, if_neg (by omega)] at hde
      by_cases h37 : b.toNat = 37
      · have d2 : ((b.toNat : Int) == 37) = true := by rw [beq_iff_eq]; omega
        by_cases h2 : i + 2 < s.length
        · have d3 : decide ((i : Int) + 2 < (s.length : Int)) = true := decide_eq_true (by omega)
          obtain ⟨x, hx⟩ : ∃ x, s.getD (i + 1) 0 = x := ⟨_, rfl⟩
          obtain ⟨y, hy⟩ : ∃ y, s.getD (i + 2) 0 = y := ⟨_, rfl⟩
          have ex : bt s (i + 1) = (x.toNat : Int) := by unfold bt; rw [hx]
          have ey : bt s (i + 2) = (y.toNat : Int) := by unfold bt; rw [hy]
          have t1 : ((i : Int) + 1).toNat = i + 1 := by omega
          have t2 : ((i : Int) + 2).toNat = i + 2 := by omega
          have cX := fdigit_ok (G := G) x
          have cY := fdigit_ok (G := G) y
          have pX := digV_pos x.toNat (hexV_lo x).1
          have pY := digV_pos y.toNat (hexV_lo y).1
          have hpct : pct s i = (decide (hexV x.toNat < 16) && decide (hexV y.toNat < 16)) := by
            unfold pct; rw [ebt, ex, ey, decide_eq_true (by omega : (b.toNat : Int) = 37), decide_eq_true h2]; rfl
          cases qx : decide (hexV x.toNat < 16)
          · rw [qx] at pX hpct
            rw [hpct, Bool.false_and, if_neg (by decide)] at hde
            repeat' (first | ((with_reducible refine brC (fun _ => ?_) fun _ => ?_) <;> try (exfalso; omega)) | (with_reducible apply pcallE.of; · exact cX) | (with_reducible apply pcallE.of; · exact cY) | ((refine A.app (b := 1) S (by rw [hsl]; simp only [List.length_cons, List.length_nil]; omega) (by rw [hsl]; simp only [List.length_cons, List.length_nil]; omega) (fun a' h3 A' S' => ?_))) | (with_reducible refine And.intro ?_ ?_; · omega) | simp -dsimp -implicitDefEqProofs (disch := omega) only [↓vcOps_sp 30, ↓vcOps_sp 37, ↓vcOps_sp 45, VCA, Nat.reduceEqDiff, ↓reduceIte, reduceCtorEq, okParts, forall_eq, exists_eq_left, e0, e4, hb, d1, d2, d3, hx, t1, pX])
            all_goals exact ⟨_, by omega, i + 1, o ++ [b], rfl, by omega, by simp; omega, by omega, by rw [← ho, hde, hb]; simp, by rw [sapp]; exact A', S'⟩
          · cases qy : decide (hexV y.toNat < 16)
            · rw [qx] at pX hpct
              rw [qy] at pY hpct
              rw [hpct, Bool.true_and, if_neg (by decide)] at hde
              repeat' (first | ((with_reducible refine brC (fun _ => ?_) fun _ => ?_) <;> try (exfalso; omega)) | (with_reducible apply pcallE.of; · exact cX) | (with_reducible apply pcallE.of; · exact cY) | ((refine A.app (b := 1) S (by rw [hsl]; simp only [List.length_cons, List.length_nil]; omega) (by rw [hsl]; simp only [List.length_cons, List.length_nil]; omega) (fun a' h3 A' S' => ?_))) | (with_reducible refine And.intro ?_ ?_; · omega) | simp -dsimp -implicitDefEqProofs (disch := omega) only [↓vcOps_sp 30, ↓vcOps_sp 37, ↓vcOps_sp 45, VCA, Nat.reduceEqDiff, ↓reduceIte, reduceCtorEq, okParts, forall_eq, exists_eq_left, e0, e4, hb, d1, d2, d3, hx, hy, t1, t2, pX, pY])
              all_goals exact ⟨_, by omega, i + 1, o ++ [b], rfl, by omega, by simp; omega, by omega, by rw [← ho, hde, hb]; simp, by rw [sapp]; exact A', S'⟩
            · rw [qx] at pX hpct
              rw [qy] at pY hpct
              rw [hpct, Bool.true_and, if_pos rfl, ex, ey] at hde
              obtain ⟨m, hm, em⟩ := hexV_cases x (of_decide_eq_true qx)
              obtain ⟨n, hn, en⟩ := hexV_cases y (of_decide_eq_true qy)
              have dX : digV x.toNat = m := by unfold digV; rw [em, if_pos (by omega)]
              have dY : digV y.toNat = n := by unfold digV; rw [en, if_pos (by omega)]
              have ho4 := or4 m n hm hn
              rw [em, en] at hde
              rw [dX] at cX pX
              rw [dY] at cY pY
              repeat' (first | ((with_reducible refine brC (fun _ => ?_) fun _ => ?_) <;> try (exfalso; omega)) | (with_reducible apply pcallE.of; · exact cX) | (with_reducible apply pcallE.of; · exact cY) | (with_reducible refine And.intro ?_ ?_; · omega) | simp -dsimp -implicitDefEqProofs (disch := omega) only [↓vcOps_sp 30, ↓vcOps_sp 37, ↓vcOps_sp 45, VCA, Nat.reduceEqDiff, ↓reduceIte, reduceCtorEq, rsOf, rootsOf, okParts, forall_eq, exists_eq_left, rootL, e0, e4, hb, d1, d2, d3, hx, hy, t1, t2, pX, pY, ho4])
              have hc : (UInt8.ofNat ((16 : Int) * (m : Int) + (n : Int)).toNat).toNat = 16 * m + n := by
                rw [show ((16 : Int) * (m : Int) + (n : Int)).toNat = 16 * m + n by omega]
                simp; omega
              refine A.app (b := 1) S (by rw [hsl]; simp only [List.length_cons, List.length_nil]; omega) (by rw [hsl]; simp only [List.length_cons, List.length_nil]; omega) (fun a' h3 A' S' => ?_)
              refine ⟨fun p hp => (by cases hp), ?_⟩
              simp -dsimp -implicitDefEqProofs (disch := omega) only [VCA, Nat.reduceEqDiff, ↓reduceIte, reduceCtorEq, SOp.rd, SI.rd, SX.rd, e0, e4]
              refine ⟨_, ?_, i + 3, o ++ [UInt8.ofNat ((16 : Int) * (m : Int) + (n : Int)).toNat], rfl, by omega, by simp; omega, by omega, by rw [← ho, hde]; simp, ?_, S'⟩
              · omega
              · rw [sapp, hc]; exact A'
        · have d3 : decide ((i : Int) + 2 < (s.length : Int)) = false := decide_eq_false (by omega)
          have hpct : pct s i = false := by unfold pct; rw [decide_eq_false h2]; simp
          rw [hpct, if_neg (by decide)] at hde
          repeat' (first | ((with_reducible refine brC (fun _ => ?_) fun _ => ?_) <;> try (exfalso; omega)) | ((refine A.app (b := 1) S (by rw [hsl]; simp only [List.length_cons, List.length_nil]; omega) (by rw [hsl]; simp only [List.length_cons, List.length_nil]; omega) (fun a' h3 A' S' => ?_))) | (with_reducible refine And.intro ?_ ?_; · omega) | simp -dsimp -implicitDefEqProofs (disch := omega) only [↓vcOps_sp 30, ↓vcOps_sp 37, ↓vcOps_sp 45, VCA, Nat.reduceEqDiff, ↓reduceIte, reduceCtorEq, okParts, forall_eq, exists_eq_left, e0, e4, hb, d1, d2, d3])
          all_goals exact ⟨_, by omega, i + 1, o ++ [b], rfl, by omega, by simp; omega, by omega, by rw [← ho, hde, hb]; simp, by rw [sapp]; exact A', S'⟩
      · have d2 : ((b.toNat : Int) == 37) = false := by rw [beq_eq_false_iff_ne]; omega
        have hpct : pct s i = false := by unfold pct; rw [ebt, decide_eq_false (by omega : ¬ (b.toNat : Int) = 37)]; rfl
        rw [hpct, if_neg (by decide)] at hde
        repeat' (first | ((with_reducible refine brC (fun _ => ?_) fun _ => ?_) <;> try (exfalso; omega)) | ((refine A.app (b := 1) S (by rw [hsl]; simp only [List.length_cons, List.length_nil]; omega) (by rw [hsl]; simp only [List.length_cons, List.length_nil]; omega) (fun a' h3 A' S' => ?_))) | (with_reducible refine And.intro ?_ ?_; · omega) | simp -dsimp -implicitDefEqProofs (disch := omega) only [↓vcOps_sp 30, ↓vcOps_sp 37, ↓vcOps_sp 45, VCA, Nat.reduceEqDiff, ↓reduceIte, reduceCtorEq, okParts, forall_eq, exists_eq_left, e0, e4, hb, d1, d2])
        all_goals exact ⟨_, by omega, i + 1, o ++ [b], rfl, by omega, by simp; omega, by omega, by rw [← ho, hde, hb]; simp, by rw [sapp]; exact A', S'⟩
  · have hn := decF_end (s := s) (i := i) (by omega)
    rw [hn, List.append_nil] at ho
    simp -dsimp -implicitDefEqProofs (disch := omega) only [VCA, Nat.reduceEqDiff, ↓reduceIte, exists_eq_right_right]
    exact ⟨by rw [← ho]; exact Acc_rd1 A, S⟩
end Go.Proofs.K
end
section
set_option linter.unusedSimpArgs false
set_option linter.unusedVariables false
namespace Go.Proofs.K
open Go Go.Sim Go.Proofs Go.Shelf
variable {G : Glob}
end Go.Proofs.K
end
section
set_option linter.unusedVariables false
namespace Go.Proofs.K
open Go Go.Sim
def pL : SCode → SCode
  | .seq a _ => a
  | c => c
def pR : SCode → SCode
  | .seq _ b => b
  | c => c
def pB : SCode → SCode
  | .block _ c => c
  | .range _ _ _ c => c
  | c => c
def pA : SCode → SCode
  | .range _ _ a _ => a
  | c => c
end Go.Proofs.K
end
section
set_option linter.unusedSimpArgs false
set_option linter.unusedVariables false
namespace Go.Proofs.K
open Go Go.Sim Go.Proofs
variable {G : Glob}
theorem cut_ok (hG : MaxLenOK G) (s t : List UInt8) (hs : s.length < 4294967281) : PCalls (Pg G) 26 [.str s, .str t] (.tup [.str (Lib.cut s t).1, .str (Lib.cut s t).2.1, .bool (Lib.cut s t).2.2]) := by
  obtain ⟨m, hG⟩ := hG
  refine ofBelow ⟨_, Tryz.func26, by kernel_rfl, by kernel_rfl⟩ fun g w vs GR V => ?_
  obtain ⟨u, v, rfl, hu, hv⟩ := V.two_inv
  rw [hu.str_inv', hv.str_inv']
  refine (Tryz.strings_Cut ⟨⟨s⟩⟩ ⟨⟨t⟩⟩ m w hs (GR.int hG)).mono fun e w' ⟨he, n, hw⟩ => ⟨_, he, ?_, fun g w => ?_⟩
  · rw [hw]; exact ⟨rfl, rfl, rfl, Nat.le_refl _, fun _ _ => rfl⟩
  · refine .tup _ _ rfl fun j u a hu ha => ?_
    match j with
    | 0 => simp at hu ha; subst hu ha; exact VRel.str_mk g w _
    | 1 => simp at hu ha; subst hu ha; exact VRel.str_mk g w _
    | 2 => simp at hu ha; subst hu ha; exact .bool _
    | j + 3 => simp at hu
end Go.Proofs.K
end
section
set_option linter.unusedSimpArgs false
set_option linter.unusedVariables false
namespace Go.Proofs.K
open Go Go.Sim Go.Proofs
def setN (d : HDoc) (n : Int) (x : HNode) : HDoc := ⟨d.nodes.set n.toNat x, d.quirks⟩
section
variable {d : HDoc}
theorem setN_len (n : Int) (x : HNode) : (setN d n x).nodes.length = d.nodes.length := by simp [setN]
theorem inD_setN {n m : Int} {x : HNode} : inD (setN d n x) m ↔ inD d m := by unfold inD; rw [setN_len]
theorem nd_setN {n m : Int} {x : HNode} (hn : inD d n) (hm : inD d m) : nd (setN d n x) m = if m = n then x else nd d m := by
  have h1 := hn.nat
  have h2 := hm.nat
  unfold nd setN
  rw [nth_set _ _ _ _ h1.1]
  by_cases h : m = n
  · subst h; rw [if_pos rfl, if_pos rfl]
  · rw [if_neg h, if_neg (by omega)]
theorem upF_congr {d' : HDoc} (V : DV d) (h : ∀ m, inD d m → (nd d' m).parent = (nd d m).parent) : ∀ (f : Nat) (n : Int), inD d n → upF f d' n = upF f d n
  | 0, _, _ => rfl
  | f + 1, n, hn => by
    unfold upF
    rw [h n hn]
    by_cases hp : 0 ≤ (nd d n).parent
    · rw [if_pos hp, if_pos hp, upF_congr V h f _ (V.par_in hn hp).1]
    · rw [if_neg hp, if_neg hp]
def addN (d : HDoc) (x : HNode) : HDoc := ⟨d.nodes ++ [x], d.quirks⟩
theorem addN_len (x : HNode) : (addN d x).nodes.length = d.nodes.length + 1 := by simp [addN]
theorem nd_addN {x : HNode} {m : Int} (hm : inD d m) : nd (addN d x) m = nd d m := by
  have h := hm.nat
  unfold nd addN nth
  rw [List.getD_eq_getElem?_getD, List.getD_eq_getElem?_getD, List.getElem?_append_left h.1]
theorem nd_addN_new (x : HNode) : nd (addN d x) (d.nodes.length : Int) = x := by
  unfold nd addN nth
  rw [List.getD_eq_getElem?_getD]; simp
theorem inD_addN {x : HNode} {m : Int} : inD (addN d x) m ↔ inD d m ∨ m = d.nodes.length := by unfold inD; rw [addN_len]; omega
theorem up_addN (V : DV d) {x : HNode} {m : Int} (hm : inD d m) : up (addN d x) m = up d m := by
  have h1 : upF (d.nodes.length + 1 + 1) (addN d x) m = upF (d.nodes.length + 1 + 1) d m := upF_congr V (fun k hk => by rw [nd_addN hk]) _ m hm
  have h2 : up (addN d x) m = upF (d.nodes.length + 1 + 1) (addN d x) m := by unfold up; rw [addN_len]
  rw [h2, h1]
  have h3 := V.fin m hm
  exact upF_mono (f := d.nodes.length + 1) (by unfold up at h3; omega) (by omega)
theorem DV.add (V : DV d) {x : HNode} (hp : x.parent = -1) (hc : x.kids = []) (h1 : x.kind ≠ 1) : DV (addN d x) ↔ nodeE x = 0 ∧ d.nodes.length < 200 := by
  have new := nd_addN_new (d := d) x
  have inew : inD (addN d x) (d.nodes.length : Int) := inD_addN.2 (.inr rfl)
  constructor
  · intro W
    have h2 := W.node _ inew
    have h3 := W.len
    rw [new] at h2
    rw [addN_len] at h3
    exact ⟨h2, by omega⟩
  · rintro ⟨hx, hl⟩
    have z := V.pos
    have upn : up (addN d x) (d.nodes.length : Int) = 0 := by
      unfold up upF
      rw [new, if_neg (by omega)]
    refine ⟨by rw [addN_len]; omega, by rw [addN_len]; omega, fun m hm => ?_, fun m hm => ?_, fun m hm k hk' => ?_, fun m hm => ?_, fun k hk' => ?_, fun m hm => ?_, ?_, fun m hm => ?_, fun m hm => ?_⟩
    · rcases inD_addN.1 hm with hm | rfl
      · rw [nd_addN hm]; exact V.kind m hm
      · rw [new]; constructor
        · intro h; exact absurd h h1
        · intro h; omega
    · rcases inD_addN.1 hm with hm | rfl
      · rw [nd_addN hm]; exact V.node m hm
      · rw [new]; exact hx
    · rcases inD_addN.1 hm with hm | rfl
      · rw [nd_addN hm] at hk'
        obtain ⟨g1, g2⟩ := V.kid m hm k hk'
        exact ⟨inD_addN.2 (.inl g1), by rw [nd_addN g1]; exact g2⟩
      · rw [new, hc] at hk'; cases hk'
    · rcases inD_addN.1 hm with hm | rfl
      · rw [nd_addN hm]; exact V.nodup m hm
      · rw [new, hc]; exact .nil
    · rw [nd_addN V.zero] at hk'
      rw [nd_addN (V.kid 0 V.zero k hk').1]; exact V.top k hk'
    · rcases inD_addN.1 hm with hm | rfl
      · rw [nd_addN hm]
        rcases V.par m hm with h | ⟨g1, g2⟩
        · exact .inl h
        · exact .inr ⟨inD_addN.2 (.inl g1), by rw [nd_addN g1]; exact g2⟩
      · rw [new]; exact .inl hp
    · rw [nd_addN V.zero]; exact V.root
    · rcases inD_addN.1 hm with hm | rfl
      · rw [up_addN V hm, addN_len]; have := V.fin m hm; omega
      · rw [upn]; omega
    · rcases inD_addN.1 hm with hm | rfl
      · rw [up_addN V hm]; exact V.deep m hm
      · rw [upn]; omega
theorem bareM_kids {x : HNode} {l : List Int} (h : x.kind = 1 ∨ x.kind = 2) : nodeE { x with kids := l } = nodeE x := by
  have : bareM { x with kids := l } = bareM x := by
    unfold bareM
    rcases h with h | h <;> simp [h]
  unfold nodeE
  rw [this]
section
variable {a t : Int} {i : Nat}
end
theorem split_nthK {l : List Int} {k : Nat} (hk : k < l.length) : l = l.take k ++ nth l k :: l.drop (k + 1) := by
  have : nth l k = l[k] := by unfold nth; rw [List.getD_eq_getElem?_getD, List.getElem?_eq_getElem hk]; rfl
  rw [this, List.getElem_cons_drop, List.take_append_drop]
theorem nodup_del {l : List Int} (hn : l.Nodup) {i : Nat} (hi : i < l.length) : (l.take i ++ l.drop (i + 1)).Nodup ∧ ∀ x, x ∈ l.take i ++ l.drop (i + 1) ↔ x ∈ l ∧ x ≠ nth l i := by
  have e := split_nthK hi
  generalize nth l i = y at *
  have h := hn
  rw [e, List.nodup_append, List.nodup_cons] at h
  obtain ⟨h1, ⟨h2, h3⟩, h4⟩ := h
  constructor
  · rw [List.nodup_append]
    exact ⟨h1, h3, fun x hx z hz => h4 x hx z (List.mem_cons_of_mem _ hz)⟩
  · intro x
    have hm : x ∈ l ↔ x ∈ l.take i ∨ x = y ∨ x ∈ l.drop (i + 1) := by
      conv => lhs; rw [e]
      rw [List.mem_append, List.mem_cons]
    rw [hm, List.mem_append]
    constructor
    · rintro (hx | hx)
      · exact ⟨.inl hx, fun e => h4 x hx y List.mem_cons_self e⟩
      · exact ⟨.inr (.inr hx), fun e => h2 (e ▸ hx)⟩
    · rintro ⟨hx | hx | hx, hne⟩
      · exact .inl hx
      · exact absurd hx hne
      · exact .inr hx
def cutN (d : HDoc) (n : Int) (i : Nat) : HDoc := setN (setN d (nd d n).parent { nd d (nd d n).parent with kids := (nd d (nd d n).parent).kids.take i ++ (nd d (nd d n).parent).kids.drop (i + 1) }) n { nd d n with parent := -1 }
section
variable {n : Int} {i : Nat}
theorem cutN_len : (cutN d n i).nodes.length = d.nodes.length := by unfold cutN; rw [setN_len, setN_len]
theorem inD_cutN {m : Int} : inD (cutN d n i) m ↔ inD d m := by unfold cutN; rw [inD_setN, inD_setN]
theorem nd_cutN (hn : inD d n) (hp : inD d (nd d n).parent) {m : Int} (hm : inD d m) : nd (cutN d n i) m = if m = n then { nd d n with parent := -1 } else if m = (nd d n).parent then { nd d (nd d n).parent with kids := (nd d (nd d n).parent).kids.take i ++ (nd d (nd d n).parent).kids.drop (i + 1) } else nd d m := by
  unfold cutN
  rw [nd_setN (inD_setN.2 hn) (inD_setN.2 hm), nd_setN hp hm]
theorem upF_cutN (V : DV d) (hn : inD d n) (hp : 0 ≤ (nd d n).parent) : ∀ (f : Nat) (m : Int), inD d m → upF f (cutN d n i) m ≤ upF f d m
  | 0, _, _ => Nat.le_refl _
  | f + 1, m, hm => by
    have hpi := (V.par_in hn hp).1
    unfold upF
    rw [nd_cutN hn hpi hm]
    by_cases h1 : m = n
    · rw [if_pos h1, if_neg (by show ¬ (0 : Int) ≤ -1; omega)]; omega
    · rw [if_neg h1]
      have e : (if m = (nd d n).parent then { nd d (nd d n).parent with kids := (nd d (nd d n).parent).kids.take i ++ (nd d (nd d n).parent).kids.drop (i + 1) } else nd d m).parent = (nd d m).parent := by
        split
        · rename_i h2; rw [h2]
        · rfl
      rw [e]
      by_cases h3 : 0 ≤ (nd d m).parent
      · rw [if_pos h3, if_pos h3]
        have := upF_cutN V hn hp f _ (V.par_in hm h3).1
        omega
      · rw [if_neg h3, if_neg h3]; omega
theorem DV.cut (V : DV d) (hn : inD d n) (hp : 0 ≤ (nd d n).parent) (hi : i < (nd d (nd d n).parent).kids.length) (hk : nth (nd d (nd d n).parent).kids i = n) : DV (cutN d n i) := by
  obtain ⟨hpi, hnk⟩ := V.par_in hn hp
  have hne : (nd d n).parent ≠ n := fun e => by have := V.up_par hn hp; rw [e] at this; omega
  have at' : ∀ m, inD d m → nd (cutN d n i) m = _ := fun m hm => nd_cutN hn hpi hm
  obtain ⟨nd1, nd2⟩ := nodup_del (V.nodup _ hpi) hi
  rw [hk] at nd2
  have pk : (nd d (nd d n).parent).kind = 1 ∨ (nd d (nd d n).parent).kind = 2 := by
    have h := V.node _ hpi
    unfold nodeE at h
    split at h
    · omega
    · rename_i hb
      have hb : bareM (nd d (nd d n).parent) = true := by
        cases hb2 : bareM (nd d (nd d n).parent) with
        | true => rfl
        | false => exact absurd (.inr (.inr hb2)) hb
      unfold bareM at hb
      simp only [Bool.and_eq_true, Bool.or_eq_true, decide_eq_true_eq] at hb
      rcases hb.2 with (h | h) | h
      · exact .inl h
      · exact .inr h
      · rw [h] at hnk; cases hnk
  have kind' : ∀ m, inD d m → (nd (cutN d n i) m).kind = (nd d m).kind := fun m hm => by
    rw [at' m hm]
    by_cases h1 : m = n
    · rw [if_pos h1, h1]
    · rw [if_neg h1]
      split
      · rename_i h2; rw [h2]
      · rfl
  have par' : ∀ m, inD d m → (nd (cutN d n i) m).parent = if m = n then -1 else (nd d m).parent := fun m hm => by
    rw [at' m hm]
    by_cases h1 : m = n
    · rw [if_pos h1, if_pos h1]
    · rw [if_neg h1, if_neg h1]
      split
      · rename_i h2; rw [h2]
      · rfl
  have kids' : ∀ m, inD d m → (nd (cutN d n i) m).kids = if m = (nd d n).parent then (nd d (nd d n).parent).kids.take i ++ (nd d (nd d n).parent).kids.drop (i + 1) else (nd d m).kids := fun m hm => by
    rw [at' m hm]
    by_cases h1 : m = n
    · rw [if_pos h1, h1, if_neg (fun e => hne e.symm)]
    · rw [if_neg h1]
      split <;> rfl
  refine ⟨by rw [cutN_len]; exact V.pos, by rw [cutN_len]; exact V.len, fun m hm => ?_, fun m hm => ?_, fun m hm k hk' => ?_, fun m hm => ?_, fun k hk' => ?_, fun m hm => ?_, ?_, fun m hm => ?_, fun m hm => ?_⟩
  · rw [inD_cutN] at hm; rw [kind' m hm]; exact V.kind m hm
  · rw [inD_cutN] at hm
    rw [at' m hm]
    by_cases h1 : m = n
    · rw [if_pos h1]; exact V.node n hn
    · rw [if_neg h1]
      by_cases h2 : m = (nd d n).parent
      · rw [if_pos h2, bareM_kids pk]; exact V.node _ hpi
      · rw [if_neg h2]; exact V.node m hm
  · rw [inD_cutN] at hm
    rw [kids' m hm] at hk'
    by_cases h2 : m = (nd d n).parent
    · rw [if_pos h2, nd2] at hk'
      obtain ⟨g1, g2⟩ := V.kid _ hpi k hk'.1
      exact ⟨inD_cutN.2 g1, by rw [par' k g1, if_neg hk'.2, h2]; exact g2⟩
    · rw [if_neg h2] at hk'
      obtain ⟨g1, g2⟩ := V.kid m hm k hk'
      refine ⟨inD_cutN.2 g1, ?_⟩
      rw [par' k g1, if_neg (fun e => h2 (by rw [← g2, e]))]; exact g2
  · rw [inD_cutN] at hm
    rw [kids' m hm]
    split
    · exact nd1
    · exact V.nodup m hm
  · rw [kids' 0 V.zero] at hk'
    have hk2 : k ∈ (nd d 0).kids := by
      split at hk'
      · rename_i h2; rw [nd2] at hk'; rw [h2]; exact hk'.1
      · exact hk'
    rw [kind' k (V.kid 0 V.zero k hk2).1]; exact V.top k hk2
  · rw [inD_cutN] at hm
    rw [par' m hm]
    by_cases h1 : m = n
    · exact .inl (if_pos h1)
    · rw [if_neg h1]
      rcases V.par m hm with h | ⟨g1, g2⟩
      · exact .inl h
      · refine .inr ⟨inD_cutN.2 g1, ?_⟩
        rw [kids' _ g1]
        split
        · rename_i h2; rw [nd2, ← h2]; exact ⟨g2, h1⟩
        · exact g2
  · rw [par' 0 V.zero]
    split
    · rfl
    · exact V.root
  · rw [inD_cutN] at hm
    have h1 : up (cutN d n i) m ≤ up d m := by unfold up; rw [cutN_len]; exact upF_cutN V hn hp _ m hm
    have := V.fin m hm
    rw [cutN_len]; omega
  · rw [inD_cutN] at hm
    have h1 : up (cutN d n i) m ≤ up d m := by unfold up; rw [cutN_len]; exact upF_cutN V hn hp _ m hm
    have := V.deep m hm
    omega
end
end
end Go.Proofs.K
end
section
set_option linter.unusedSimpArgs false
set_option linter.unusedVariables false
namespace Go.Proofs.K
open Go Go.Sim Go.Proofs
structure HEdit where
  do' : Int
  at' : Int
  into : Int
  before : Int
  name : List UInt8
  value : List UInt8
  node : HNode
deriving DecidableEq, Inhabited
def eEdit (e : HEdit) : List AVal := [aInt e.do', aInt e.at', aInt e.into, aInt e.before, .str e.name, .str e.value, aInt e.node.kind, .str e.node.name, sl eAttr e.node.attrs, .str e.node.text, aInt e.node.parent, sl eInt e.node.kids]
instance : LenE eEdit 12 := ⟨fun _ => rfl⟩
structure EditSm (e : HEdit) : Prop where
  name : e.name.length ≤ 1073741824
  value : e.value.length ≤ 1073741824
  node : NodeSm e.node
theorem attrAt_spec (l : List HAttr) (name : List UInt8) (h : 0 ≤ attrAt l name) : (attrAt l name).toNat < l.length ∧ (nth l (attrAt l name).toNat).name = name ∧ ((attrAt l name).toNat : Int) = attrAt l name := by
  unfold attrAt idxM at *
  cases hf : l.findIdx? (fun a : HAttr => a.name == name) with
  | none => rw [hf] at h; simp at h
  | some i =>
    simp only [hf] at h ⊢
    rw [List.findIdx?_eq_some_iff_getElem] at hf
    obtain ⟨h1, h2, _⟩ := hf
    refine ⟨by simpa using h1, ?_, by simp⟩
    have : nth l i = l[i] := by unfold nth; rw [List.getD_eq_getElem?_getD, List.getElem?_eq_getElem h1]; rfl
    show (nth l ((i : Int)).toNat).name = name
    rw [show ((i : Int)).toNat = i by simp, this]
    simpa using h2
theorem nodeE_iff (x : HNode) : nodeE x = 0 ↔ (1 ≤ x.kind ∧ x.kind ≤ 5) ∧ bareM x = true ∧ (x.kind = 2 → nameOK true x.name = true) ∧ attrsE x.attrs = 0 ∧ x.text.length ≤ 400 ∧ x.name.length ≤ 400 := by
  unfold nodeE
  constructor
  · intro h
    split at h
    · omega
    · rename_i h1
      simp only [not_or] at h1
      split at h
      · omega
      · rename_i h2
        split at h
        · rename_i h3; exact absurd h h3
        · rename_i h3
          split at h
          · omega
          · rename_i h4
            refine ⟨by omega, by simpa using h1.2.2, fun h5 => ?_, by simpa using h3, by omega, by omega⟩
            cases hn : nameOK true x.name with
            | true => rfl
            | false => exact absurd ⟨h5, hn⟩ h2
  · rintro ⟨h1, h2, h3, h4, h5, h6⟩
    rw [if_neg (by rw [h2]; simp; omega), if_neg (by rintro ⟨h7, h8⟩; rw [h3 h7] at h8; cases h8), if_neg (by simpa using h4), if_neg (by omega)]
section
variable {d : HDoc}
end
section
variable {d : HDoc}
end
end Go.Proofs.K
end
section
set_option linter.unusedSimpArgs false
set_option linter.unusedVariables false
namespace Go.Proofs.K
open Go Go.Sim Go.Proofs
variable {G : Glob}
def rootOf : AVal → Option Nat
  | .osl r _ _ _ => some r
  | _ => none
def OwnS (h : Heap) (ty sz : Nat) (cells : List (List AVal)) (a : AVal) : Prop :=
  (cells = [] ∧ a = .emp) ∨ (a = .slc cells ∧ ∀ e ∈ cells, e.length = sz) ∨ ∃ r es, a = .osl r sz 0 cells.length ∧ h r = some ⟨ty, sz, es⟩ ∧ cells.length ≤ es.length ∧ es.take cells.length = cells
def Mut (a : AVal) : Prop := ∀ es, a ≠ .slc es
theorem OwnS.keep {h h2 : Heap} {ty sz : Nat} {cells : List (List AVal)} {a : AVal} (O : OwnS h ty sz cells a) (hk : ∀ r o, rootOf a = some r → h r = some o → h2 r = some o) : OwnS h2 ty sz cells a := by
  rcases O with O | O | ⟨r, es, ha, hr, h1, h2⟩
  · exact .inl O
  · exact .inr (.inl O)
  · exact .inr (.inr ⟨r, es, ha, hk r _ (by rw [ha]; rfl) hr, h1, h2⟩)
theorem OwnS.of_acc {h h' : Heap} {ty sz : Nat} {cells : List (List AVal)} {a : AVal} (A : Acc h ty sz cells a h') : OwnS h' ty sz cells a ∧ (∀ r, rootOf a = some r → h r = none) ∧ Mut a := by
  rcases A with ⟨h1, h2⟩ | ⟨r, h0, h1, h2⟩
  · exact ⟨.inl ⟨h1, h2⟩, fun r hr => by (rw [h2] at hr; cases hr), fun es e => by rw [h2] at e; cases e⟩
  · exact ⟨.inr (.inr ⟨r, _, h2, h1, Nat.le_refl _, by rw [List.take_length]⟩), fun r' hr => by (rw [h2] at hr; cases hr; exact h0), fun es e => by rw [h2] at e; cases e⟩
theorem OwnS.len {h : Heap} {ty sz : Nat} {cells : List (List AVal)} {a : AVal} (O : OwnS h ty sz cells a) : aLen a = aInt cells.length ∧ okLen a = True := by
  rcases O with ⟨h1, h2⟩ | ⟨h2, _⟩ | ⟨r, es, ha, _⟩
  · subst h1; subst h2; exact ⟨rfl, rfl⟩
  · subst h2; exact ⟨rfl, rfl⟩
  · subst ha; exact ⟨rfl, rfl⟩
theorem OwnS.isV {h : Heap} {ty sz : Nat} {cells : List (List AVal)} {a : AVal} (O : OwnS h ty sz cells a) : isV a = true ∧ cellsOf a = [a] := by
  rcases O with ⟨h1, h2⟩ | ⟨h2, _⟩ | ⟨r, es, ha, _⟩
  · subst h2; exact ⟨rfl, rfl⟩
  · subst h2; exact ⟨rfl, rfl⟩
  · subst ha; exact ⟨rfl, rfl⟩
theorem OwnS.root {h : Heap} {ty sz : Nat} {cells : List (List AVal)} {a : AVal} (O : OwnS h ty sz cells a) {r : Nat} (hr : rootOf a = some r) : ∃ o, h r = some o := by
  rcases O with ⟨h1, h2⟩ | ⟨h2, _⟩ | ⟨r', es, ha, h1, _⟩
  · subst h2; cases hr
  · subst h2; cases hr
  · subst ha; cases hr; exact ⟨_, h1⟩
theorem OwnS.vw {α : Type} [Inhabited α] {enc : α → List AVal} {h : Heap} {ty sz : Nat} [LenE enc sz] {l : List α} {a : AVal} (O : OwnS h ty sz (l.map enc) a) : Vw h a (sl enc l) := by
  rcases O with ⟨h1, h2⟩ | ⟨h2, _⟩ | ⟨r, es, ha, hr, h1, h2⟩
  · have : l = [] := by simpa using h1
    subst this; subst h2; exact .emp
  · subst h2; exact .refl _
  · subst ha
    refine .osl r sz 0 _ ⟨ty, sz, es⟩ (l.map enc) hr (by simpa using h1) rfl (fun f hf => by obtain ⟨x, _, rfl⟩ := List.mem_map.1 hf; exact LenE.len x) fun k j e f x y he hf hx hy => ?_
    have hk : k < (l.map enc).length := (List.getElem?_eq_some_iff.1 hf).1
    simp only [Nat.zero_add] at he
    have he' : (es.take (l.map enc).length)[k]? = some e := by rw [List.getElem?_take, if_pos hk]; exact he
    rw [h2] at he'
    rw [he'] at hf
    cases hf
    rw [hx] at hy; cases hy; exact .refl _
def rowA (x : HNode) (a k : AVal) : List AVal := [aInt x.kind, .str x.name, a, .str x.text, aInt x.parent, k]
def rowsA (d : HDoc) (sl : Nat → AVal) : List (List AVal) := (List.range d.nodes.length).map fun i => rowA (nth d.nodes i) (sl (2 * i)) (sl (2 * i + 1))
theorem rowsA_len (d : HDoc) (sl : Nat → AVal) : (rowsA d sl).length = d.nodes.length := by simp [rowsA]
structure Dw (X : List Nat) (h0 h : Heap) (rN : Nat) (d : HDoc) (sl : Nat → AVal) : Prop where
  sub : Sim.Sub h0 h
  nodes : h rN = some ⟨.t 73, 6, rowsA d sl⟩
  new : h0 rN = none ∧ rN ∉ X
  own : ∀ i, i < d.nodes.length → OwnS h 108 2 ((nth d.nodes i).attrs.map eAttr) (sl (2 * i)) ∧ OwnS h 3 1 ((nth d.nodes i).kids.map eInt) (sl (2 * i + 1))
  fresh : ∀ k, k < 2 * d.nodes.length → ∀ r, rootOf (sl k) = some r → h0 r = none ∧ r ≠ rN ∧ r ∉ X
  sep : ∀ j k, j < 2 * d.nodes.length → k < 2 * d.nodes.length → j ≠ k → ∀ r, rootOf (sl j) = some r → rootOf (sl k) ≠ some r
  keep : ∀ r ∈ X, ∃ o, h r = some o
theorem Dw.slot {X : List Nat} {h0 h : Heap} {rN : Nat} {d : HDoc} {sl : Nat → AVal} (E : Dw X h0 h rN d sl) {k : Nat} (hk : k < 2 * d.nodes.length) {r : Nat} (hr : rootOf (sl k) = some r) : ∃ o, h r = some o := by
  have hi : k / 2 < d.nodes.length := by omega
  obtain ⟨h1, h2⟩ := E.own _ hi
  rcases (by omega : k = 2 * (k / 2) ∨ k = 2 * (k / 2) + 1) with h | h
  · rw [h] at hr; exact h1.root hr
  · rw [h] at hr; exact h2.root hr
theorem Dw.put {X : List Nat} {h0 h h2 : Heap} {rN : Nat} {d : HDoc} {sl sl' : Nat → AVal} (E : Dw X h0 h rN d sl) {i : Nat} (hi : i < d.nodes.length) {x' : HNode}
    (hs : ∀ j, j ≠ 2 * i → j ≠ 2 * i + 1 → sl' j = sl j)
    (hN : h2 rN = some ⟨.t 73, 6, (rowsA d sl).set i (rowA x' (sl' (2 * i)) (sl' (2 * i + 1)))⟩)
    (hk : ∀ r o, h r = some o → r ≠ rN → rootOf (sl (2 * i)) ≠ some r → rootOf (sl (2 * i + 1)) ≠ some r → h2 r = some o)
    (hA : OwnS h2 108 2 (x'.attrs.map eAttr) (sl' (2 * i))) (hK : OwnS h2 3 1 (x'.kids.map eInt) (sl' (2 * i + 1)))
    (hf : ∀ r, rootOf (sl' (2 * i)) = some r ∨ rootOf (sl' (2 * i + 1)) = some r → rootOf (sl (2 * i)) = some r ∨ rootOf (sl (2 * i + 1)) = some r ∨ h r = none)
    (hd : ∀ r, rootOf (sl' (2 * i)) = some r → rootOf (sl' (2 * i + 1)) ≠ some r) : Dw X h0 h2 rN ⟨d.nodes.set i x', d.quirks⟩ sl' := by
  have hl : (d.nodes.set i x').length = d.nodes.length := by simp
  have fr : ∀ r, rootOf (sl' (2 * i)) = some r ∨ rootOf (sl' (2 * i + 1)) = some r → h0 r = none ∧ r ≠ rN ∧ r ∉ X := fun r hr => by
    rcases hf r hr with h | h | h
    · exact E.fresh _ (by omega) r h
    · exact E.fresh _ (by omega) r h
    · refine ⟨E.sub.none h, fun e => ?_, fun hx => ?_⟩
      · rw [e, E.nodes] at h; cases h
      · obtain ⟨o, ho⟩ := E.keep r hx; rw [h] at ho; cases ho
  have oth : ∀ j, j < 2 * d.nodes.length → j ≠ 2 * i → j ≠ 2 * i + 1 → ∀ r, rootOf (sl j) = some r → rootOf (sl' (2 * i)) ≠ some r ∧ rootOf (sl' (2 * i + 1)) ≠ some r := fun j hj h1 h2 r hr => by
    have key : ¬ (rootOf (sl (2 * i)) = some r ∨ rootOf (sl (2 * i + 1)) = some r ∨ h r = none) := by
      rintro (h | h | h)
      · exact E.sep j (2 * i) hj (by omega) h1 r hr h
      · exact E.sep j (2 * i + 1) hj (by omega) h2 r hr h
      · obtain ⟨o, ho⟩ := E.slot hj hr; rw [h] at ho; cases ho
    exact ⟨fun h => key (hf r (.inl h)), fun h => key (hf r (.inr h))⟩
  refine ⟨fun t o ht => ?_, ?_, E.new, fun j hj => ?_, fun k hk' r hr => ?_, fun j k hj hk' hne r hr => ?_, fun r hr => ?_⟩
  · have hne : t ≠ rN := fun e => by rw [e, E.new.1] at ht; cases ht
    refine hk t o (E.sub t o ht) hne (fun h => ?_) (fun h => ?_)
    · have := (E.fresh _ (by omega) t h).1; rw [this] at ht; cases ht
    · have := (E.fresh _ (by omega) t h).1; rw [this] at ht; cases ht
  · rw [hN]
    congr 2
    apply List.ext_getElem?
    intro j
    rw [List.getElem?_set]
    show _ = (rowsA ⟨d.nodes.set i x', d.quirks⟩ sl')[j]?
    unfold rowsA
    simp only [hl]
    by_cases hij : i = j
    · subst hij
      rw [if_pos rfl, if_pos (by simpa using hi), List.getElem?_map, List.getElem?_range hi, Option.map_some, nth_set _ _ _ _ hi, if_pos rfl]
    · rw [if_neg hij]
      by_cases hj : j < d.nodes.length
      · rw [List.getElem?_map, List.getElem?_map, List.getElem?_range hj, Option.map_some, Option.map_some, nth_set _ _ _ _ hi, if_neg (fun e => hij e.symm), hs (2 * j) (by omega) (by omega), hs (2 * j + 1) (by omega) (by omega)]
      · rw [List.getElem?_eq_none (by simp; omega), List.getElem?_eq_none (by simp; omega)]
  · simp only [hl] at hj
    show OwnS h2 _ _ ((nth (d.nodes.set i x') j).attrs.map eAttr) _ ∧ OwnS h2 _ _ ((nth (d.nodes.set i x') j).kids.map eInt) _
    rw [nth_set _ _ _ _ hi]
    by_cases hij : j = i
    · subst hij; rw [if_pos rfl]; exact ⟨hA, hK⟩
    · rw [if_neg hij, hs (2 * j) (by omega) (by omega), hs (2 * j + 1) (by omega) (by omega)]
      obtain ⟨g1, g2⟩ := E.own j hj
      exact ⟨g1.keep fun r o hr ho => hk r o ho (E.fresh _ (by omega) r hr).2.1 (fun h => E.sep (2 * j) (2 * i) (by omega) (by omega) (by omega) r hr h) (fun h => E.sep (2 * j) (2 * i + 1) (by omega) (by omega) (by omega) r hr h),
        g2.keep fun r o hr ho => hk r o ho (E.fresh _ (by omega) r hr).2.1 (fun h => E.sep (2 * j + 1) (2 * i) (by omega) (by omega) (by omega) r hr h) (fun h => E.sep (2 * j + 1) (2 * i + 1) (by omega) (by omega) (by omega) r hr h)⟩
  · simp only [hl] at hk'
    by_cases e1 : k = 2 * i
    · subst e1; exact fr r (.inl hr)
    · by_cases e2 : k = 2 * i + 1
      · subst e2; exact fr r (.inr hr)
      · rw [hs k e1 e2] at hr; exact E.fresh k hk' r hr
  · simp only [hl] at hj hk'
    by_cases j1 : j = 2 * i <;> by_cases j2 : j = 2 * i + 1 <;> by_cases k1 : k = 2 * i <;> by_cases k2 : k = 2 * i + 1
    all_goals first
      | (exfalso; omega)
      | (subst j1; subst k2; exact hd r hr)
      | (subst j2; subst k1; exact fun h => hd r h hr)
      | (subst j1; rw [hs k k1 k2]; exact fun h => (oth k hk' k1 k2 r h).1 hr)
      | (subst j2; rw [hs k k1 k2]; exact fun h => (oth k hk' k1 k2 r h).2 hr)
      | (subst k1; rw [hs j j1 j2] at hr; exact (oth j hj j1 j2 r hr).1)
      | (subst k2; rw [hs j j1 j2] at hr; exact (oth j hj j1 j2 r hr).2)
      | (rw [hs j j1 j2] at hr; rw [hs k k1 k2]; exact E.sep j k hj hk' hne r hr)
  · obtain ⟨o, ho⟩ := E.keep r hr
    refine ⟨o, hk r o ho (fun e => E.new.2 (e ▸ hr)) (fun h => ?_) (fun h => ?_)⟩
    · exact (E.fresh _ (by omega) r h).2.2 hr
    · exact (E.fresh _ (by omega) r h).2.2 hr
theorem Dw.vw {X : List Nat} {h0 h : Heap} {rN : Nat} {d : HDoc} {sl' : Nat → AVal} (E : Dw X h0 h rN d sl') : Vw h (.osl rN 6 0 d.nodes.length) (sl eNode d.nodes) := by
  refine Vw.osl0 E.nodes (by simp) (by rw [rowsA_len]; exact Nat.le_refl _) (fun f hf => by obtain ⟨x, _, rfl⟩ := List.mem_map.1 hf; rfl) ?_
  show F2 (F2 (Vw h)) ((rowsA d sl').take d.nodes.length) (d.nodes.map eNode)
  rw [List.take_of_length_le (by rw [rowsA_len]; exact Nat.le_refl _)]
  have key : ∀ (i : Nat), i < d.nodes.length → F2 (Vw h) (rowA (nth d.nodes i) (sl' (2 * i)) (sl' (2 * i + 1))) (eNode (nth d.nodes i)) := fun i hi => by
    obtain ⟨g1, g2⟩ := E.own i hi
    exact .cons (.refl _) (.cons (.refl _) (.cons g1.vw (.cons (.refl _) (.cons (.refl _) (.cons g2.vw .nil)))))
  have e : d.nodes.map eNode = (List.range d.nodes.length).map fun i => eNode (nth d.nodes i) := by
    apply List.ext_getElem?
    intro j
    by_cases hj : j < d.nodes.length
    · rw [List.getElem?_map, List.getElem?_map, List.getElem?_range hj, nth_some hj]; rfl
    · rw [List.getElem?_eq_none (by simp; omega), List.getElem?_eq_none (by simp; omega)]
  rw [e]
  unfold rowsA
  have gen : ∀ l : List Nat, (∀ i ∈ l, i < d.nodes.length) → F2 (F2 (Vw h)) (l.map fun i => rowA (nth d.nodes i) (sl' (2 * i)) (sl' (2 * i + 1))) (l.map fun i => eNode (nth d.nodes i)) := fun l => by
    induction l with
    | nil => intro _; exact .nil
    | cons i l ih => intro hl; exact .cons (key i (hl i List.mem_cons_self)) (ih fun j hj => hl j (List.mem_cons_of_mem _ hj))
  exact gen _ fun i hi => List.mem_range.1 hi
end Go.Proofs.K
end
section
set_option linter.unusedSimpArgs false
set_option linter.unusedVariables false
namespace Go.Proofs.K
open Go Go.Sim Go.Proofs
variable {G : Glob}
theorem _root_.Go.Sim.Acc.re {h1 h2 h1' h2' : Heap} {ty : TypeId} {sz : Nat} {cells : List (List AVal)} {a : AVal} (A : Acc h1 ty sz cells a h2) (hd : ∀ r o, h1 r = none → h2 r = some o → h1' r = none ∧ h2' r = some o) : Acc h1' ty sz cells a h2' := by
  rcases A with h | ⟨r, h0, h1, h2⟩
  · exact .inl h
  · exact .inr ⟨r, (hd r _ h0 h1).1, (hd r _ h0 h1).2, h2⟩
theorem _root_.Go.Sim.Acc.keepA {h h1 : Heap} {ty : TypeId} {sz : Nat} {cells : List (List AVal)} {a : AVal} (A : Acc h ty sz cells a h1) {r2 : Nat} (hn : rootOf a ≠ some r2) (o : Option AObj) : Acc h ty sz cells a (upd h1 r2 o) := by
  rcases A with q | ⟨r, q0, q1, q2⟩
  · exact .inl q
  · have : r ≠ r2 := fun e => hn (by rw [q2, e]; rfl)
    exact .inr ⟨r, q0, by rw [upd_ne _ _ this]; exact q1, q2⟩
theorem _root_.Go.Sim.Acc.vw {h h' : Heap} {ty : TypeId} {sz : Nat} {cells : List (List AVal)} {a : AVal} (A : Acc h ty sz cells a h') (hl : ∀ f ∈ cells, f.length = sz) : Vw (newH h h') a (.slc cells) := by
  rcases A with ⟨rfl, rfl⟩ | ⟨r, h0, h1, rfl⟩
  · exact .emp
  · exact Vw.osl0 (by rw [newH_none h0]; exact h1) rfl (Nat.le_refl _) hl (by rw [List.take_length]; exact F2.refl (F2.refl .refl) _)
theorem _root_.Go.Sim.Acc.appW {h h' : Heap} {ty : TypeId} {sz b : Nat} {cells es2 : List (List AVal)} {a : AVal} {K : AVal → Heap → Prop} (A : Acc h ty sz cells a h') (S : Sub h h')
    (h1 : (cells.length + es2.length) * b ≤ 140737488355328) (h2 : cells.length + es2.length ≤ 140737488355328)
    (hk : ∀ a' h'', Acc h ty sz (cells ++ es2) a' h'' → Sub h h'' → (∀ r o, h' r = some o → rootOf a ≠ some r → h'' r = some o ∧ rootOf a' ≠ some r) → K a' h'') : Hd (appE ty sz b a es2 h') K .mk := by
  rcases A with ⟨rfl, rfl⟩ | ⟨r, h0, hr, rfl⟩
  · refine ⟨by simpa using h1, by simpa using h2, fun r hr => hk _ _ ?_ (S.upd (S.none hr)) fun x o hx _ => ?_⟩
    · exact .inr ⟨r, S.none hr, by simp, rfl⟩
    · have : x ≠ r := fun e => by rw [e, hr] at hx; cases hx
      exact ⟨by rw [upd_ne _ _ this]; exact hx, fun e => this (by cases e; rfl)⟩
  · refine ⟨rfl, _, hr, rfl, by simp, h1, h2, fun r' hr' => hk _ _ ?_ ?_ fun x o hx hn => ?_⟩
    · have hn : h r' = none := (S.del h0).none hr'
      refine .inr ⟨r', hn, by simp, by simp⟩
    · exact (S.del h0).upd ((S.del h0).none hr')
    · have hxr : x ≠ r := fun e => hn (by rw [e]; rfl)
      have hd : del h' r x = some o := by unfold del; rw [if_neg hxr]; exact hx
      have : x ≠ r' := fun e => by rw [e, hr'] at hd; cases hd
      exact ⟨by rw [upd_ne _ _ this]; exact hd, fun e => this (by cases e; rfl)⟩
end Go.Proofs.K
end
section
set_option linter.unusedSimpArgs false
set_option linter.unusedVariables false
namespace Go.Proofs.K
open Go Go.Sim Go.Proofs Go.Shelf
variable {G : Glob}
def c68 : SFun := ⟨.seq (.reg [⟨some 3, .box 9 1 (.t 0), none⟩, ⟨some 4, .boxF 9 1 (.t 1), none⟩, ⟨some 5, .boxF 3 1 (.t 2), none⟩, ⟨some 6, .mv (.c (.prim .nilFunc)), none⟩]) (.seq (.reg [⟨some 7, .mkf 105 [] [.t 4, .t 3, .t 5], none⟩, ⟨some 6, .mv (.t 7), none⟩]) .ret), [.tmp 6]⟩
theorem hc68 : toSF Tryz.prog {how := [(3, 6)]} Tryz.f68 = some c68 := by kernel_rfl
theorem hn68 : (Tryz.f68.name == "runtime.NumGoroutine") = false := by kernel_rfl
theorem splitSeq0_ok {h : Heap} (s t : List UInt8) (n : Int) : DCalls (Pg G) 68 [.str s, .str t, aInt n] h fun r h' => ∃ rb, h rb = none ∧ r = .fn 105 [] [.pin [.str t], .vp rb 0, .pin [aInt n]] ∧ h' = upd h rb (some ⟨.t 9, 1, [[.str s]]⟩) := by
  refine dcalls_of_vc Tryz.func68 hn68 hc68 (by rw [Tryz.ntmps68]; simp) (by rw [Tryz.ntmps68]; decide) ?_
  simp -dsimp -implicitDefEqProofs (disch := omega) only [VCA, Nat.reduceEqDiff, ↓reduceIte, c68]
  intro rb hrb
  exact ⟨_, Sub.refl _, rb, hrb, rfl, rfl⟩
def c25 : SFun := ⟨.seq (.reg [⟨some 4, .mv (.c (.prim .nilFunc)), none⟩]) (.seq (.reg [⟨some 5, .mv (.t 0), none⟩, ⟨some 6, .mv (.t 1), none⟩, ⟨some 7, .call (.c (.fn 68 [] [])) [.t 5, .t 6, .c (.int .i64 0)], none⟩, ⟨some 4, .mv (.t 7), none⟩]) .ret), [.tmp 4]⟩
theorem hc25 : toSF Tryz.prog {} Tryz.f25 = some c25 := by kernel_rfl
theorem hn25 : (Tryz.f25.name == "runtime.NumGoroutine") = false := by kernel_rfl
theorem splitSeq_ok {h : Heap} (s t : List UInt8) : DCalls (Pg G) 25 [.str s, .str t] h fun r h' => ∃ rb, h rb = none ∧ r = .fn 105 [] [.pin [.str t], .vp rb 0, .pin [aInt 0]] ∧ h' = upd h rb (some ⟨.t 9, 1, [[.str s]]⟩) := by
  refine dcalls_of_vc Tryz.func25 hn25 hc25 (by rw [Tryz.ntmps25]; simp) (by rw [Tryz.ntmps25]; decide) ?_
  simp -dsimp -implicitDefEqProofs (disch := omega) only [VCA, Nat.reduceEqDiff, ↓reduceIte, reduceCtorEq, c25]
  refine DCalls.of (splitSeq0_ok s t 0) ?_
  rintro r h1 ⟨rb, hb, rfl, rfl⟩
  simp -dsimp -implicitDefEqProofs (disch := omega) only [VCA, ↓reduceIte]
  exact ⟨_, Sub.refl _, rb, hb, rfl, rfl⟩
def EM (l : List (List UInt8)) : List HEnt := (l.filter (fun p => p != [])).map entM
theorem EM_cons (p : List UInt8) (l : List (List UInt8)) : EM (p :: l) = EM [p] ++ EM l := by
  unfold EM
  by_cases h : p = []
  · subst h; rfl
  · have : (p != []) = true := by simpa using h
    rw [List.filter_cons, if_pos this, List.filter_cons, if_pos this]; rfl
theorem OwnS.vwN {α : Type} [Inhabited α] {enc : α → List AVal} {h0 h : Heap} {ty sz : Nat} [LenE enc sz] {l : List α} {a : AVal} (O : OwnS h ty sz (l.map enc) a) (hf : ∀ r, rootOf a = some r → h0 r = none) : Vw (newH h0 h) a (sl enc l) :=
  OwnS.vw (O.keep fun r o hr ho => by rw [newH_none (hf r hr)]; exact ho)
structure SD (h0 h : Heap) (r4 rb : Nat) (L : List HEnt) (cur : List UInt8) (ao : AVal) : Prop where
  c4 : h r4 = some ⟨.t 22, 1, [[ao]]⟩
  cb : h rb = some ⟨.t 9, 1, [[.str cur]]⟩
  acc : Acc h0 25 2 (L.map eEnt) ao h
  sub : Sim.Sub h0 h
  f4 : h0 r4 = none
  fb : h0 rb = none
  ne : r4 ≠ rb
  n4 : rootOf ao ≠ some r4
  nb : rootOf ao ≠ some rb
theorem SD.cut {h0 h : Heap} {r4 rb : Nat} {L : List HEnt} {cur : List UInt8} {ao : AVal} (S : SD h0 h r4 rb L cur ao) (c2 : List UInt8) : SD h0 (upd h rb (some ⟨.t 9, 1, [[.str c2]]⟩)) r4 rb L c2 ao :=
  ⟨by rw [upd_ne _ _ S.ne]; exact S.c4, upd_same _ _ _, S.acc.keepA S.nb _, S.sub.upd S.fb, S.f4, S.fb, S.ne, S.n4, S.nb⟩
theorem SD.add {h0 h h2 : Heap} {r4 rb : Nat} {L : List HEnt} {cur : List UInt8} {ao a2 : AVal} {x : HEnt} (S : SD h0 h r4 rb L cur ao) (A2 : Acc h0 25 2 (L.map eEnt ++ [eEnt x]) a2 h2) (S2 : Sim.Sub h0 h2) (kp : ∀ r o, h r = some o → rootOf ao ≠ some r → h2 r = some o ∧ rootOf a2 ≠ some r) :
    SD h0 (upd h2 r4 (some ⟨.t 22, 1, [[a2]]⟩)) r4 rb (L ++ [x]) cur a2 := by
  have p4 := kp _ _ S.c4 S.n4
  have pb := kp _ _ S.cb S.nb
  refine ⟨upd_same _ _ _, by rw [upd_ne _ _ (fun e => S.ne e.symm)]; exact pb.1, ?_, S2.upd S.f4, S.f4, S.fb, S.ne, p4.2, pb.2⟩
  rw [List.map_append]
  exact A2.keepA p4.2 _
def c8 : SFun := ⟨.seq (.reg [⟨some 2, .mv (.c .emp), none⟩, ⟨some 3, .mv (.c (.int .i64 0)), none⟩]) (.seq (.seq (.reg [⟨some 9, .mv (.t 0), none⟩, ⟨some 10, .lenS (.t 9), none⟩, ⟨some 11, .bin .gtr (.t 10) (.c (.int .i64 4000)), none⟩]) (.cond (.t 11) (.seq (.reg [⟨some 2, .mv (.c .emp), none⟩, ⟨some 3, .mv (.c (.int .i64 2)), none⟩]) .ret) .skip)) (.seq (.reg [⟨some 4, .new 22 1 [.emp], none⟩]) (.seq (.seq (.reg [⟨some 12, .mv (.t 0), none⟩, ⟨some 13, .call (.c (.fn 25 [] [])) [.t 12, .c (.str [38])], none⟩]) (.block 0 (.range (.t 13) [14] (.reg [⟨some 5, .mv (.t 14), none⟩]) (.block 1 (.seq (.seq (.reg [⟨some 15, .mv (.t 5), none⟩, ⟨some 16, .bin .eql (.t 15) (.c (.str [])), none⟩]) (.cond (.t 16) (.exit 1) .skip)) (.seq (.reg [⟨some 18, .mv (.t 5), none⟩, ⟨some 19, .pcall 26 [.t 18, .c (.str [61])], none⟩, ⟨some 17, .mv (.t 19), none⟩, ⟨some 20, .ext (.t 17) 0, none⟩, ⟨some 21, .ext (.t 17) 1, none⟩, ⟨some 22, .ext (.t 17) 2, none⟩, ⟨some 6, .mv (.t 20), none⟩, ⟨some 7, .mv (.t 21), none⟩, ⟨some 8, .mv (.t 22), none⟩]) (.dreg [(⟨some 23, .ld 1 false (.t 4), none⟩, none), (⟨some 24, .mv (.t 6), none⟩, none), (⟨some 25, .pcall 27 [.t 24], none⟩, none), (⟨some 26, .mv (.t 7), none⟩, none), (⟨some 27, .pcall 27 [.t 26], none⟩, none), (⟨some 28, .bld [.str [], .str []] [(0, (1, (.t 25))), (1, (1, (.t 27)))], none⟩, none), (⟨some 29, .bldF 25 2 [.t 28], none⟩, none), (⟨some 30, .app 25 2 32 (.t 23) (.t 29), none⟩, (some [23])), (⟨none, .st 1 (.t 4) (.t 30), none⟩, (some [23]))]))))))) (.seq (.seq (.reg [⟨some 31, .ld 1 false (.t 4), none⟩, ⟨some 32, .len (.t 31), none⟩, ⟨some 33, .bin .gtr (.t 32) (.c (.int .i64 100)), none⟩]) (.cond (.t 33) (.seq (.reg [⟨some 2, .mv (.c .emp), none⟩, ⟨some 3, .mv (.c (.int .i64 2)), none⟩]) .ret) .skip)) (.seq (.reg [⟨some 34, .ld 1 false (.t 4), none⟩, ⟨some 2, .mv (.t 34), none⟩, ⟨some 3, .mv (.c (.int .i64 0)), none⟩]) .ret))))), [.tmp 2, .tmp 3]⟩
theorem hc8 : toSF Tryz.prog {pure := [27, 26]} Tryz.f8 = some c8 := by kernel_rfl
theorem hn8 : (Tryz.f8.name == "runtime.NumGoroutine") = false := by kernel_rfl
def rngD : SCode := pB (pR (pL (pR (pR (pR c8.code)))))
theorem takeW_le (q : UInt8 → Bool) (p : List UInt8) : (p.takeWhile q).length ≤ p.length := (List.takeWhile_sublist _).length_le
theorem dropW_le (q : UInt8 → Bool) (p : List UInt8) : ((p.dropWhile q).drop 1).length ≤ p.length := by
  rw [List.length_drop]; have := (List.dropWhile_sublist q (l := p)).length_le; omega
set_option maxHeartbeats 1000000 in
theorem dbdy_ok (hG : MaxLenOK G) {h0 h : Heap} {r4 rb : Nat} {L : List HEnt} {cur p : List UInt8} {ao : AVal} {e : Env} {R : SExit → Heap → Prop} (S : SD h0 h r4 rb L cur ao) (e4 : e 4 = .vp r4 0) (hp : p.length ≤ 5000) (hL : L.length ≤ 100000)
    (hR : ∀ h' ao', SD h0 h' r4 rb (L ++ EM [p]) cur ao' → R .normal h') : bdy [14] (vc (Pg G) (pA rngD)) (vc (Pg G) (pB rngD)) e [.str p] h R := by
  have g4 := S.c4
  skip
  by_cases h0 : p = []
  · subst h0
    have e0 : EM [([] : List UInt8)] = [] := rfl
    have d0 : (([] : List UInt8) == []) = true := rfl
    rw [e0] at hR
    simp -dsimp -implicitDefEqProofs (disch := omega) only [VCA, ↓reduceIte, MT3, bdy_is, rngD, pA, pB, pL, pR, c8, d0]
    refine hR h ao ?_
    rw [List.append_nil]; exact S
  · have d0 : (p == []) = false := by simpa using h0
    have cC := cut_ok (G := G) hG p [61] (by omega)
    have hc := cut1 61 p
    rw [hc.1, hc.2] at cC
    have t1 := takeW_le (· != 61) p
    have t2 := dropW_le (· != 61) p
    have em : EM [p] = [entM p] := by unfold EM; rw [List.filter_cons, if_pos (by simpa using h0)]; rfl
    rw [em] at hR
    unfold entM at hR
    obtain ⟨u, hu⟩ : ∃ u, p.takeWhile (· != 61) = u := ⟨_, rfl⟩
    obtain ⟨v, hv⟩ : ∃ v, (p.dropWhile (· != 61)).drop 1 = v := ⟨_, rfl⟩
    rw [hu] at cC t1 hR
    rw [hv] at cC t2 hR
    have c1 := fdecode_ok (G := G) u (by omega)
    have c2 := fdecode_ok (G := G) v (by omega)
    simp -dsimp -implicitDefEqProofs (disch := omega) only [VCA, Nat.reduceEqDiff, ↓reduceIte, bdy_is, rngD, pA, pB, pL, pR, c8, d0]
    repeat' (first | ((with_reducible refine brC (fun _ => ?_) fun _ => ?_) <;> try (exfalso; omega)) | (with_reducible apply pcallE.of; · exact cC) | (with_reducible apply pcallE.of; · exact c1) | (with_reducible apply pcallE.of; · exact c2) | (with_reducible refine And.intro ?_ ?_; · omega) | simp -dsimp -implicitDefEqProofs (disch := omega) only [VCA, Nat.reduceEqDiff, Nat.reduceAdd, Nat.reduceLT, Nat.reduceLeDiff, ↓reduceIte, rsOf, rootsOf, okParts, fillA, okFill, forall_eq, exists_eq_left, exists_eq_left', rootL, e4, g4])
    refine S.acc.appW S.sub (by simp only [List.length_map, List.length_cons, List.length_nil]; omega) (by simp only [List.length_map, List.length_cons, List.length_nil]; omega) fun a2 h4 A4 S4 kp => ?_
    refine ⟨fun q hq hc => ?_, ?_⟩
    · rw [List.mem_singleton] at hq; subst hq; simp at hc
    have g4' := (kp _ _ g4 S.n4).1
    have iv := (OwnS.of_acc A4).1.isV
    simp -dsimp -implicitDefEqProofs (disch := omega) only [VCA, Nat.reduceEqDiff, Nat.reduceBEq, Nat.reduceLT, ↓reduceIte, SOp.rd, SI.rd, SX.rd, setAt, exists_eq_left', MT3, e4, g4']
    refine ⟨iv.1, by rw [iv.2]; rfl, ?_⟩
    rw [iv.2]
    exact hR _ _ (S.add (x := ⟨decF u 0, decF v 0⟩) A4 S4 kp)
def c105 : MCode := (.seq (.seq (.reg [.op ⟨some 9, .ld 1 false (.t 1), none⟩, .op ⟨some 10, .lenS (.t 9), none⟩, .op ⟨some 11, .bin .eql (.t 10) (.c (.int .i64 0)), none⟩]) (.cond (.t 11) (.seq (.block 0 (.loop (.seq (.seq (.reg [.op ⟨some 12, .ld 1 false (.t 2), none⟩, .op ⟨some 13, .lenS (.t 12), none⟩, .op ⟨some 14, .bin .gtr (.t 13) (.c (.int .i64 0)), none⟩]) (.cond (.t 14) .skip (.exit 0))) (.block 1 (.seq (.reg [.op ⟨some 16, .ld 1 false (.t 2), none⟩, .op ⟨some 17, .pcall 106 [.t 16], none⟩, .op ⟨some 15, .mv (.t 17), none⟩, .op ⟨some 18, .ext (.t 15) 0, none⟩, .op ⟨some 19, .ext (.t 15) 1, none⟩, .op ⟨some 5, .mv (.t 18), none⟩, .op ⟨some 6, .mv (.t 19), none⟩]) (.seq (.seq (.reg [.op ⟨some 20, .mv (.t 0), none⟩, .op ⟨some 21, .ld 1 false (.t 2), none⟩, .op ⟨some 22, .mv (.t 6), none⟩, .op ⟨some 23, .slS (.t 21) none (some (.t 22)), none⟩, .yld (some 24) (.t 20) [.t 23], .op ⟨some 25, .un .not (.t 24), none⟩]) (.cond (.t 25) .ret .skip)) (.reg [.op ⟨some 26, .ld 1 false (.t 2), none⟩, .op ⟨some 27, .mv (.t 6), none⟩, .op ⟨some 28, .slS (.t 26) (some (.t 27)) none, none⟩, .op ⟨none, .st 1 (.t 2) (.t 28), none⟩]))))))) .ret) .skip)) (.seq (.block 2 (.loop (.block 3 (.seq (.reg [.op ⟨some 29, .ld 1 false (.t 2), none⟩, .op ⟨some 30, .ld 1 false (.t 1), none⟩, .op ⟨some 31, .pcall 107 [.t 29, .t 30], none⟩, .op ⟨some 7, .mv (.t 31), none⟩]) (.seq (.seq (.reg [.op ⟨some 32, .mv (.t 7), none⟩, .op ⟨some 33, .bin .lss (.t 32) (.c (.int .i64 0)), none⟩]) (.cond (.t 33) (.exit 2) .skip)) (.seq (.reg [.op ⟨some 34, .ld 1 false (.t 2), none⟩, .op ⟨some 35, .mv (.t 7), none⟩, .op ⟨some 36, .ld 1 false (.t 3), none⟩, .op ⟨some 37, .bin .add (.t 35) (.t 36), none⟩, .op ⟨some 38, .slS (.t 34) none (some (.t 37)), none⟩, .op ⟨some 8, .mv (.t 38), none⟩]) (.seq (.seq (.reg [.op ⟨some 39, .mv (.t 0), none⟩, .op ⟨some 40, .mv (.t 8), none⟩, .yld (some 41) (.t 39) [.t 40], .op ⟨some 42, .un .not (.t 41), none⟩]) (.cond (.t 42) .ret .skip)) (.reg [.op ⟨some 43, .ld 1 false (.t 2), none⟩, .op ⟨some 44, .mv (.t 7), none⟩, .op ⟨some 45, .ld 1 false (.t 1), none⟩, .op ⟨some 46, .lenS (.t 45), none⟩, .op ⟨some 47, .bin .add (.t 44) (.t 46), none⟩, .op ⟨some 48, .slS (.t 43) (some (.t 47)) none, none⟩, .op ⟨none, .st 1 (.t 2) (.t 48), none⟩])))))))) (.reg [.op ⟨some 49, .mv (.t 0), none⟩, .op ⟨some 50, .ld 1 false (.t 2), none⟩, .yld (some 51) (.t 49) [.t 50]])))
theorem hc105 : toMF Tryz.prog {pure := [107, 106]} Tryz.f105 = some c105 := by kernel_rfl
theorem hn105 : (Tryz.f105.name == "runtime.NumGoroutine") = false := by kernel_rfl
theorem pcs_len (c : UInt8) : ∀ s : List UInt8, (pcs c s).length ≤ s.length + 1
  | [] => Nat.le_refl _
  | b :: r => by
    have h := pcs_len c r
    rw [pcs]
    split
    · simp only [List.length_cons]; omega
    · split
      · simp
      · rename_i p q hq
        rw [hq] at h
        simp only [List.length_cons] at h ⊢; omega
theorem entsM_len (s : List UInt8) : (entsM s).length ≤ s.length + 1 := by
  unfold entsM; rw [List.length_map]; exact Nat.le_trans (List.length_filter_le _ _) (pcs_len 38 s)
theorem decoded_long {s : List UInt8} (h : 4000 < s.length) : Go.Proofs.K.decoded s = ([], 2) := if_pos h
set_option maxHeartbeats 2000000 in
theorem fDecode_ok (hG : MaxLenOK G) (s : List UInt8) (hs : s.length ≤ 1073741824) : PCalls (Pg G) 8 [.str s] (.tup [sl eEnt (decoded s).1, aInt (decoded s).2]) := PCalls.outV fun h => by
  by_cases h4 : 4000 < s.length
  · have d0 : decide ((4000 : Int) < (s.length : Int)) = true := decide_eq_true (by omega)
    rw [decoded_long h4]
    refine dcalls_of_vc Tryz.func8 hn8 hc8 (by rw [Tryz.ntmps8]; simp) (by rw [Tryz.ntmps8]; decide) ?_
    simp -dsimp -implicitDefEqProofs (disch := omega) only [VCA, Nat.reduceEqDiff, ↓reduceIte, reduceCtorEq, c8, d0]
    repeat' (first | ((with_reducible refine brC (fun _ => ?_) fun _ => ?_) <;> try (exfalso; omega)) | (with_reducible refine And.intro ?_ ?_; · omega) | simp -dsimp -implicitDefEqProofs (disch := omega) only [VCA, pg_gl, ↓upd_none, Nat.reduceEqDiff, Nat.reduceBEq, Nat.reduceAdd, Nat.reduceSub, Nat.reduceMul, Nat.reduceLT, Nat.reduceLeDiff, ↓reduceIte, reduceCtorEq, rsOf, rootsOf, SOp.rd, SI.rd, SX.rd, rdL, rdO, rdP, okParts, eqCells, okEqCells, fillA, okFill, setAt, implies_true, forall_const, forall_eq, ne_eq, exists_eq_right_right, exists_eq_right, exists_eq_left, exists_eq_left', rootL, eInt, eStr, eEnt, lit_eq, MT1, MT2, MT3, d0])
    all_goals exact ⟨_, Sub.refl _, Sub.refl _, .tup' (.cons .emp (.cons (.refl _) .nil))⟩
  · have d0 : decide ((4000 : Int) < (s.length : Int)) = false := decide_eq_false (by omega)
    refine dcalls_of_vc Tryz.func8 hn8 hc8 (by rw [Tryz.ntmps8]; simp) (by rw [Tryz.ntmps8]; decide) ?_
    simp -dsimp -implicitDefEqProofs (disch := omega) only [VCA, ↓reduceIte, reduceCtorEq, c8, d0]
    repeat' (first | ((with_reducible refine brC (fun _ => ?_) fun _ => ?_) <;> try (exfalso; omega)) | (with_reducible refine And.intro ?_ ?_; · omega) | simp -dsimp -implicitDefEqProofs (disch := omega) only [VCA, pg_gl, ↓upd_none, Nat.reduceEqDiff, Nat.reduceBEq, Nat.reduceAdd, Nat.reduceSub, Nat.reduceMul, Nat.reduceLT, Nat.reduceLeDiff, ↓reduceIte, reduceCtorEq, rsOf, rootsOf, SOp.rd, SI.rd, SX.rd, rdL, rdO, rdP, okParts, eqCells, okEqCells, fillA, okFill, setAt, implies_true, forall_const, forall_eq, ne_eq, exists_eq_right_right, exists_eq_right, exists_eq_left, exists_eq_left', rootL, eInt, eStr, eEnt, lit_eq, MT1, MT2, MT3, d0])
    intro r4 hr4
    refine DCalls.of (splitSeq_ok s [38]) ?_
    rintro v h1 ⟨rb, hrb, rfl, rfl⟩
    have hne : rb ≠ r4 := fun e => by rw [e, upd_same] at hrb; cases hrb
    have hbn : h rb = none := by rw [upd_ne _ _ hne] at hrb; exact hrb
    have S0 : SD h (upd (upd h r4 (some ⟨.t 22, 1, [[.emp]]⟩)) rb (some ⟨.t 9, 1, [[.str s]]⟩)) r4 rb [] s .emp :=
      ⟨by rw [upd_ne _ _ hne.symm]; exact upd_same _ _ _, upd_same _ _ _, .nil, ((Sub.refl h).upd hr4).upd hbn, hr4, hbn, hne.symm, (fun e => by cases e), (fun e => by cases e)⟩
    simp -dsimp -implicitDefEqProofs (disch := omega) only [VCA]
    refine RangeVC.introI (iterS_of_mtv Tryz.func105 hn105 hc105 (by rw [Tryz.ntmps105]; simp) (by rw [Tryz.ntmps105]; decide)) rfl (fun lY => ?_)
    have l1 : (([38] : List UInt8).length : Int) = 1 := rfl
    simp -dsimp -implicitDefEqProofs (disch := omega) only [VCA, ↓reduceIte, MT1, MT2, c105]
    repeat' (first | ((with_reducible refine brC (fun _ => ?_) fun _ => ?_) <;> try (exfalso; omega)) | (with_reducible refine And.intro ?_ ?_; · omega) | simp -dsimp -implicitDefEqProofs (disch := omega) only [MT1, MT2])
    refine mtLoop.intro (fun m st e h' => ∃ (L : List HEnt) (cur : List UInt8) (ao : AVal), st = none ∧ e 0 = .prim (.func (.yield lY) #[] #[]) ∧ e 1 = .pin [.str [38]] ∧ e 2 = .vp rb 0 ∧ e 3 = .pin [aInt 0] ∧ SD h h' r4 rb L cur ao ∧ L ++ EM (pcs 38 cur) = entsM s ∧ cur.length ≤ s.length ∧ m = cur.length) s.length
      (by exact ⟨[], s, .emp, rfl, rfl, rfl, rfl, rfl, S0, rfl, Nat.le_refl _, rfl⟩) ?_
    clear S0
    rintro m st e h' ⟨L, cur, ao, rfl, e0, e1, e2, e3, S, hL, hcl, rfl⟩
    have gb := S.cb
    have cI := index_ok (G := G) hG cur [38] (by omega)
    have hLl : L.length ≤ s.length + 1 := by
      have h1 := entsM_len s
      rw [← hL, List.length_append] at h1; omega
    rcases index1 38 cur with ⟨i1, i2⟩ | ⟨p, r, i1, i2, i3⟩
    · rw [i2] at cI
      have dn : decide ((-1 : Int) < 0) = true := rfl
      have hp1 := pcs_none 38 cur i1
      rw [hp1] at hL
      repeat' (first | ((with_reducible refine brC (fun _ => ?_) fun _ => ?_) <;> try (exfalso; omega)) | (with_reducible apply pcallE.of; · exact cI) | (with_reducible refine And.intro ?_ ?_; · omega) | simp -dsimp -implicitDefEqProofs (disch := omega) only [VCA, Nat.reduceEqDiff, Nat.reduceLT, ↓reduceIte, reduceCtorEq, exists_eq_left', MT1, MT2, MT3, e0, e1, e2, gb, dn])
      refine dbdy_ok (G := G) hG S rfl (by omega) (by omega) fun h5 ao5 S5 => ?_
      rw [hL] at S5
      have g5 := S5.c4
      have hel := entsM_len s
      have lenA := S5.acc.len
      have hv := (OwnS.of_acc S5.acc).1.vwN fun r hr => (OwnS.of_acc S5.acc).2.1 r hr
      simp only [List.length_map] at lenA
      by_cases h100 : 100 < (entsM s).length
      · have d1 : decide ((100 : Int) < ((entsM s).length : Int)) = true := decide_eq_true (by omega)
        have hdec : Go.Proofs.K.decoded s = ([], 2) := by unfold Go.Proofs.K.decoded; rw [if_neg h4, if_pos h100]
        rw [hdec]
        repeat' (first | ((with_reducible refine brC (fun _ => ?_) fun _ => ?_) <;> try (exfalso; omega)) | (with_reducible refine And.intro ?_ ?_; · omega) | simp -dsimp -implicitDefEqProofs (disch := omega) only [VCA, Nat.reduceEqDiff, Nat.reduceLT, ↓reduceIte, exists_eq_left', MT3, g5, lenA.1, lenA.2, d1])
        all_goals exact ⟨_, Sub.refl _, S5.sub, .tup' (.cons .emp (.cons (.refl _) .nil))⟩
      · have d1 : decide ((100 : Int) < ((entsM s).length : Int)) = false := decide_eq_false (by omega)
        have hdec : Go.Proofs.K.decoded s = (entsM s, 0) := by unfold Go.Proofs.K.decoded; rw [if_neg h4, if_neg h100]
        rw [hdec]
        repeat' (first | ((with_reducible refine brC (fun _ => ?_) fun _ => ?_) <;> try (exfalso; omega)) | (with_reducible refine And.intro ?_ ?_; · omega) | simp -dsimp -implicitDefEqProofs (disch := omega) only [VCA, Nat.reduceEqDiff, Nat.reduceLT, ↓reduceIte, exists_eq_left', MT3, g5, lenA.1, lenA.2, d1])
        all_goals exact ⟨_, Sub.refl _, S5.sub, .tup' (.cons hv (.cons (.refl _) .nil))⟩
    · rw [i3] at cI
      have dn : decide ((p.length : Int) < 0) = false := decide_eq_false (by omega)
      have hp1 := pcs_cut 38 p r i2
      rw [← i1] at hp1
      rw [hp1, EM_cons] at hL
      have htk : cur.take p.length = p := by rw [i1]; simp
      have hdr : cur.drop (p.length + 1) = r := by rw [i1]; simp
      have hln : cur.length = p.length + r.length + 1 := by rw [i1]; simp; omega
      repeat' (first | ((with_reducible refine brC (fun _ => ?_) fun _ => ?_) <;> try (exfalso; omega)) | (with_reducible apply pcallE.of; · exact cI) | (with_reducible refine And.intro ?_ ?_; · omega) | simp -dsimp -implicitDefEqProofs (disch := omega) only [VCA, Nat.reduceEqDiff, Nat.reduceLT, ↓reduceIte, reduceCtorEq, exists_eq_left', MT1, MT2, e0, e1, e2, e3, gb, dn])
      rw [show ((p.length : Int) + 0).toNat = p.length by omega, htk]
      refine dbdy_ok (G := G) hG S rfl (by omega) (by omega) fun h5 ao5 S5 => ?_
      have gb5 := S5.cb
      have l1 : (([38] : List UInt8).length : Int) = 1 := rfl
      have hdr2 : cur.drop ((p.length : Int) + 1).toNat = r := by rw [show ((p.length : Int) + 1).toNat = p.length + 1 by omega, hdr]
      repeat' (first | ((with_reducible refine brC (fun _ => ?_) fun _ => ?_) <;> try (exfalso; omega)) | (with_reducible refine And.intro ?_ ?_; · omega) | simp -dsimp -implicitDefEqProofs (disch := omega) only [VCA, Nat.reduceEqDiff, Nat.reduceLT, ↓reduceIte, reduceCtorEq, setAt, exists_eq_left', MT1, MT2, MT3, e0, e1, e2, e3, gb5])
      have hdr3 : ∀ k : Int, k = (p.length : Int) + 1 → cur.drop k.toNat = r := fun k hk => by rw [hk]; exact hdr2
      refine ⟨_, ?_, L ++ EM [p], _, ao5, S5.cut _, ?_, ?_, rfl⟩
      · rw [hdr3 _ (by omega)]; omega
      · rw [hdr3 _ (by omega), List.append_assoc]; exact hL
      · rw [hdr3 _ (by omega)]; omega
end Go.Proofs.K
end
section
set_option linter.unusedSimpArgs false
set_option linter.unusedVariables false
namespace Go.Proofs.K
open Go Go.Sim Go.Proofs Go.Shelf
variable {G : Glob}
def lwB (b : UInt8) : UInt8 := if 65 ≤ b.toNat ∧ b.toNat ≤ 90 then b + 32 else b
def c91 : SFun := ⟨.seq (.reg [⟨some 2, .mv (.c (.int .u8 0)), none⟩]) (.seq (.seq (.reg [⟨some 3, .mv (.t 0), none⟩, ⟨some 4, .bin .geq (.t 3) (.c (.int .u8 65)), none⟩, ⟨some 5, .mv (.t 4), none⟩, ⟨some 6, .mv (.t 0), some (5, true)⟩, ⟨some 7, .bin .leq (.t 6) (.c (.int .u8 90)), some (5, true)⟩, ⟨some 8, .pick (.t 5) (.t 7) (.c (.bool false)), none⟩]) (.cond (.t 8) (.seq (.reg [⟨some 9, .mv (.t 0), none⟩, ⟨some 10, .bin .sub (.t 9) (.c (.int .u8 65)), none⟩, ⟨some 11, .bin .add (.t 10) (.c (.int .u8 97)), none⟩, ⟨some 2, .mv (.t 11), none⟩]) .ret) .skip)) (.seq (.reg [⟨some 12, .mv (.t 0), none⟩, ⟨some 2, .mv (.t 12), none⟩]) .ret)), [.tmp 2]⟩
theorem hc91 : toSF Tryz.prog {} Tryz.f91 = some c91 := by kernel_rfl
theorem hn91 : (Tryz.f91.name == "runtime.NumGoroutine") = false := by kernel_rfl
theorem lwB_ok (b : UInt8) : PCalls (Pg G) 91 [.int .u8 b.toNat] (.int .u8 (lwB b).toNat) := fun h => by
  by_cases hb : 65 ≤ b.toNat ∧ b.toNat ≤ 90
  · have e1 : lwB b = b + 32 := if_pos hb
    have w1 : IntKind.u8.wrap ((b.toNat : Int) - 65) = (b.toNat : Int) - 65 := by rw [IntKind.wrap_u8]; omega
    have w2 : IntKind.u8.wrap ((b.toNat : Int) - 65 + 97) = ((b + 32).toNat : Int) := by
      rw [IntKind.wrap_u8, UInt8.toNat_add]; simp; omega
    rw [e1]
    refine dcalls_of_vc Tryz.func91 hn91 hc91 (by rw [Tryz.ntmps91]; simp) (by rw [Tryz.ntmps91]; decide) ?_
    simp -dsimp -implicitDefEqProofs (disch := omega) only [↓vcOps_sp 5, VCA, ↓reduceIte, reduceCtorEq, c91]
    repeat' (first | ((with_reducible refine brC (fun _ => ?_) fun _ => ?_) <;> try (exfalso; omega)) | (with_reducible refine And.intro ?_ ?_; · omega) | simp -dsimp -implicitDefEqProofs (disch := omega) only [VCA, Nat.reduceEqDiff, ↓reduceIte, reduceCtorEq, exists_eq_right, w1, w2])
    all_goals first | exact Sub.refl _ | exact ⟨Sub.refl _, rfl⟩ | (exfalso; omega)
  · have e1 : lwB b = b := if_neg hb
    rw [e1]
    refine dcalls_of_vc Tryz.func91 hn91 hc91 (by rw [Tryz.ntmps91]; simp) (by rw [Tryz.ntmps91]; decide) ?_
    simp -dsimp -implicitDefEqProofs (disch := omega) only [↓vcOps_sp 5, VCA, ↓reduceIte, reduceCtorEq, c91]
    repeat' (first | ((with_reducible refine brC (fun _ => ?_) fun _ => ?_) <;> try (exfalso; omega)) | (with_reducible refine And.intro ?_ ?_; · omega) | simp -dsimp -implicitDefEqProofs (disch := omega) only [VCA, Nat.reduceEqDiff, ↓reduceIte, reduceCtorEq, exists_eq_right])
    all_goals first | exact Sub.refl _ | exact ⟨Sub.refl _, rfl⟩ | (exfalso; omega)
end Go.Proofs.K
end
section
set_option linter.unusedSimpArgs false
set_option linter.unusedVariables false
namespace Go.Proofs.K
open Go Go.Sim Go.Proofs
variable {G : Glob}
def inW (nm s : List UInt8) : Bool := (splitB 32 [] s).any (· == nm)
theorem one_in (hG : MaxLenOK G) (nm s : List UInt8) (hs : ((splitB 32 [] s).any (· == [])) = false) (hn : nm.length < 4294967281) (hl : s.length < 4294967200) : PCalls (Pg G) 34 [.str nm, .str (32 :: (s ++ [32]))] (.bool (inW nm s)) := by
  have h := oneW_ok hG nm (32 :: (s ++ [32])) hn (by simp; omega)
  rw [oneM_split s nm (fun h => by rw [List.any_eq_false] at hs; exact hs _ h rfl)] at h
  exact h
theorem inW_append (nm s t : List UInt8) : inW nm (s ++ 32 :: t) = (inW nm s || inW nm t) := by
  have : ∀ cur : List UInt8, splitB 32 cur (s ++ 32 :: t) = splitB 32 cur s ++ splitB 32 [] t := by
    induction s with
    | nil => intro cur; simp [splitB]
    | cons c r ih =>
      intro cur
      by_cases h : c = 32
      · simp [splitB, h, ih]
      · simp [splitB, h, ih]
  simp [inW, this]
theorem inW_two (nm a b : List UInt8) (ha : splitB 32 [] a = [a]) (hb : splitB 32 [] b = [b]) : inW nm (a ++ 32 :: b) = (nm == a || nm == b) := by
  rw [inW_append, inW, inW, ha, hb]
  simp [BEq.comm]
end Go.Proofs.K
end
section
set_option linter.unusedSimpArgs false
set_option linter.unusedVariables false
namespace Go.Proofs.K
open Go Go.Sim Go.Proofs Go.Lib
theorem enc_hi (x : Int) (hx : 128 ≤ x) : ∃ c ∈ encodeRune x, 128 ≤ c.toNat := by
  have h : ∃ z ∈ encodeRuneZ x, 128 ≤ z := by
    by_cases h2 : x ≤ 2047
    · rw [encodeRuneZ_two hx h2]; exact ⟨_, List.mem_cons_self, by omega⟩
    · by_cases h3 : (2048 ≤ x ∧ x < 55296) ∨ (57343 < x ∧ x ≤ 65535)
      · rw [encodeRuneZ_three h3]; exact ⟨_, List.mem_cons_self, by omega⟩
      · by_cases h4 : 65536 ≤ x ∧ x ≤ 1114111
        · rw [encodeRuneZ_four h4.1 h4.2]; exact ⟨_, List.mem_cons_self, by omega⟩
        · rw [encodeRuneZ_bad (by omega)]; exact ⟨_, List.mem_cons_self, by omega⟩
  obtain ⟨z, hz, h1⟩ := h
  have hb := encodeRuneZ_byte x z hz
  refine ⟨z.toNat.toUInt8, List.mem_map.2 ⟨z, hz, rfl⟩, ?_⟩
  have : z.toNat.toUInt8.toNat = z.toNat := by
    show (UInt8.ofNat z.toNat).toNat = _
    rw [UInt8.toNat_ofNat']; omega
  omega
theorem dec_lo (b : UInt8) (r : List UInt8) (hb : b.toNat < 128) : decodeL (b :: r) = (b.toNat, 1) := by
  rw [decodeL_N]
  show decodeN _ b.toNat _ _ _ = _
  unfold decodeN
  rw [if_pos hb]
theorem low_lo (b : UInt8) (hb : b.toNat < 128) : (if 0 ≤ lowR (b.toNat : Int) then encodeRune (lowR (b.toNat : Int)) else []) = [lwB b] := by
  have h := u8_all (p := fun b => decide (b.toNat < 128 → (if 0 ≤ lowR (b.toNat : Int) then encodeRune (lowR (b.toNat : Int)) else []) = [lwB b])) (by decide +kernel) b
  exact of_decide_eq_true h hb
theorem lowU_cons (b : UInt8) (r : List UInt8) (hb : b.toNat < 128) : lowU (b :: r) = lwB b :: lowU r := by
  unfold lowU
  rw [mapD_step _ _ (by simp), dec_lo b r hb]
  show (if 0 ≤ lowR (b.toNat : Int) then encodeRune (lowR (b.toNat : Int)) else []) ++ _ = _
  rw [low_lo b hb]
  rfl
theorem lowU_lo : ∀ v : List UInt8, (∀ b ∈ v, b.toNat < 128) → lowU v = v.map lwB
  | [], _ => rfl
  | b :: r, h => by rw [lowU_cons b r (h b List.mem_cons_self), lowU_lo r fun c hc => h c (List.mem_cons_of_mem _ hc)]; rfl
theorem lowU_hi : ∀ v : List UInt8, (∃ b ∈ v, 128 ≤ b.toNat) → ∃ c ∈ lowU v, 128 ≤ c.toNat
  | [], h => by obtain ⟨b, hb, _⟩ := h; cases hb
  | b :: r, h => by
    by_cases hb : b.toNat < 128
    · have h2 : ∃ c ∈ r, 128 ≤ c.toNat := by
        obtain ⟨c, hc, h1⟩ := h
        rcases List.mem_cons.1 hc with rfl | hc
        · omega
        · exact ⟨c, hc, h1⟩
      obtain ⟨c, hc, h1⟩ := lowU_hi r h2
      rw [lowU_cons b r hb]
      exact ⟨c, List.mem_cons_of_mem _ hc, h1⟩
    · have hx : 128 ≤ (decodeL (b :: r)).1 := by
        have g : ((b :: r).getD 0 0).toNat = b.toNat := rfl
        rw [decodeL_N]
        rcases decodeN_shape (b :: r).length ((b :: r).getD 0 0).toNat ((b :: r).getD 1 0).toNat ((b :: r).getD 2 0).toNat ((b :: r).getD 3 0).toNat with ⟨c, e⟩ | ⟨c1, c2, c3, cv, e⟩ | ⟨c1, c2, c3, c4, cv, cs, e⟩ | ⟨c1, c2, c3, c4, c5, cv, cw, e⟩ | e
        · rw [g] at c; omega
        all_goals rw [e]; simp only; omega
      have hl : lowR ((decodeL (b :: r)).1 : Int) = ((decodeL (b :: r)).1 : Int) := if_neg (by omega)
      obtain ⟨c, hc, h1⟩ := enc_hi ((decodeL (b :: r)).1 : Int) (by omega)
      unfold lowU
      rw [mapD_step _ _ (by simp), hl, if_pos (by omega)]
      exact ⟨c, List.mem_append_left _ hc, h1⟩
def ctlS : List UInt8 := [105, 110, 112, 117, 116, 32, 116, 101, 120, 116, 97, 114, 101, 97, 32, 115, 101, 108, 101, 99, 116, 32, 98, 117, 116, 116, 111, 110]
def typS : List UInt8 := [104, 105, 100, 100, 101, 110, 32, 116, 101, 120, 116, 32, 110, 117, 109, 98, 101, 114, 32, 99, 104, 101, 99, 107, 98, 111, 120, 32, 114, 97, 100, 105, 111, 32, 115, 117, 98, 109, 105, 116, 32, 114, 101, 115, 101, 116, 32, 98, 117, 116, 116, 111, 110, 32, 105, 109, 97, 103, 101, 32, 102, 105, 108, 101]
def subS : List UInt8 := [115, 117, 98, 109, 105, 116, 32, 114, 101, 115, 101, 116, 32, 98, 117, 116, 116, 111, 110, 32, 105, 109, 97, 103, 101, 32, 102, 105, 108, 101]
theorem typ_word {x : List UInt8} (h : inW x typS = true) : x.length ≤ 8 ∧ ∀ c ∈ x, c.toNat < 128 := by
  unfold inW at h
  obtain ⟨w, hw, he⟩ := List.any_eq_true.1 h
  have he : w = x := by simpa using he
  subst he
  have ha : (splitB 32 [] typS).all (fun w => decide (w.length ≤ 8) && w.all fun c => decide (c.toNat < 128)) = true := by decide +kernel
  have := List.all_eq_true.1 ha w hw
  simp only [Bool.and_eq_true, decide_eq_true_eq, List.all_eq_true] at this
  exact this
def typM (v : List UInt8) : List UInt8 := if inW (v.map lwB) typS = true then v.map lwB else [116, 101, 120, 116]
theorem typ_is (v : List UInt8) : (if v.length ≤ 8 ∧ inW (lowU v) typS = true then lowU v else [116, 101, 120, 116]) = typM v := by
  unfold typM
  by_cases h : ∀ b ∈ v, b.toNat < 128
  · rw [lowU_lo v h]
    by_cases h1 : inW (v.map lwB) typS = true
    · have := (typ_word h1).1
      rw [List.length_map] at this
      rw [if_pos ⟨this, h1⟩, if_pos h1]
    · rw [if_neg (fun q => h1 q.2), if_neg h1]
  · have h2 : ∃ b ∈ v, 128 ≤ b.toNat := by
      simp only [Classical.not_forall] at h
      obtain ⟨b, hb, h3⟩ := h
      exact ⟨b, hb, by omega⟩
    obtain ⟨c, hc, h3⟩ := lowU_hi v h2
    have n1 : ¬ inW (lowU v) typS = true := fun q => by have := (typ_word q).2 c hc; omega
    obtain ⟨b, hb, h4⟩ := h2
    have h5 : lwB b = b := if_neg (by omega)
    have n2 : ¬ inW (v.map lwB) typS = true := fun q => by
      have := (typ_word q).2 b (List.mem_map.2 ⟨b, hb, h5⟩); omega
    rw [if_neg (fun q => n1 q.2), if_neg n2]
theorem lowU_len (v : List UInt8) : (lowU v).length ≤ 4 * v.length := by
  have : ∀ n (l : List UInt8), l.length ≤ n → (mapD lowR l).length ≤ 4 * l.length := by
    intro n
    induction n with
    | zero => intro l hl; obtain rfl : l = [] := List.eq_nil_of_length_eq_zero (by omega); exact Nat.le_refl _
    | succ n ih =>
      intro l hl
      by_cases hne : l = []
      · subst hne; exact Nat.le_refl _
      · have hw := decodeL_width l
        have h0 : 0 < l.length := List.length_pos_iff.2 hne
        rw [mapD_step _ _ hne, List.length_append]
        have h1 := ih (l.drop (decodeL l).2) (by rw [List.length_drop]; omega)
        rw [List.length_drop] at h1
        have h2 : (if 0 ≤ lowR ((decodeL l).1 : Int) then encodeRune (lowR ((decodeL l).1 : Int)) else []).length ≤ 4 := by
          split
          · unfold encodeRune; rw [List.length_map]; exact (encodeRuneZ_length _).2
          · simp
        omega
  exact this _ v (Nat.le_refl _)
end Go.Proofs.K
end
section
set_option linter.unusedSimpArgs false
set_option linter.unusedVariables false
namespace Go.Proofs.K
open Go Go.Sim Go.Proofs
section
variable {d : HDoc}
end
end Go.Proofs.K
end
section
set_option linter.unusedSimpArgs false
set_option linter.unusedVariables false
namespace Go.Proofs.K
open Go Go.Sim Go.Proofs
variable {G : Glob}
section
variable {d : HDoc}
end
def c111 : SFun := ⟨.seq (.reg [⟨some 4, .mv (.c (.int .i64 0)), none⟩]) (.seq (.seq (.reg [⟨some 6, .mv (.t 0), none⟩, ⟨some 7, .len (.t 6), none⟩, ⟨some 8, .mv (.c (.int .i64 0)), none⟩]) (.block 0 (.loop (.seq (.reg [⟨some 9, .bin .lss (.t 8) (.t 7), none⟩]) (.seq (.cond (.t 9) .skip (.exit 0)) (.seq (.block 1 (.seq (.reg [⟨some 10, .mv (.t 8), none⟩, ⟨some 5, .mv (.t 10), none⟩]) (.seq (.reg [⟨some 11, .mv (.t 1), none⟩, ⟨some 12, .mv (.t 0), none⟩, ⟨some 13, .mv (.t 5), none⟩, ⟨some 14, .idxA 1 (.t 12) (.t 13), none⟩, ⟨some 15, .ld 1 false (.t 14), none⟩, ⟨some 16, .bin .eql (.t 11) (.t 15), none⟩]) (.cond (.t 16) (.seq (.reg [⟨some 17, .mv (.t 5), none⟩, ⟨some 4, .mv (.t 17), none⟩]) .ret) .skip)))) (.reg [⟨some 18, .bin .add (.t 8) (.c (.int .i64 1)), none⟩, ⟨some 8, .mv (.t 18), none⟩]))))))) (.seq (.reg [⟨some 4, .mv (.c (.int .i64 (-1))), none⟩]) .ret)), [.tmp 4]⟩
theorem hc111 : toSF Tryz.prog {} Tryz.f111 = some c111 := by kernel_rfl
theorem hn111 : (Tryz.f111.name == "runtime.NumGoroutine") = false := by kernel_rfl
theorem hasII_ok (l : List Int) (x : Int) (hl : l.length ≤ 1073741824) : PCalls (Pg G) 111 [sl eInt l, aInt x] (aInt (idxM (· == x) l)) := by
  intro h
  refine dcalls_of_vc Tryz.func111 hn111 hc111 (by rw [Tryz.ntmps111]; simp) (by rw [Tryz.ntmps111]; decide) ?_
  simp -dsimp -implicitDefEqProofs (disch := omega) only [VCA, ↓reduceIte, reduceCtorEq, c111]
  refine LoopVC.intro (fun m e h' => ∃ k : Nat, k ≤ l.length ∧ m = l.length - k ∧ e 0 = sl eInt l ∧ e 1 = aInt x ∧ e 7 = aInt l.length ∧ e 8 = aInt k ∧ h' = h ∧ ∀ j, j < k → (nth l j == x) = false) l.length ⟨0, by omega, by omega, rfl, rfl, rfl, rfl, rfl, fun j hj => absurd hj (Nat.not_lt_zero j)⟩ ?_
  rintro m e h' ⟨k, hk, rfl, he0, he1, he7, he8, rfl, hj⟩
  simp -dsimp -implicitDefEqProofs (disch := omega) only [VCA, ↓reduceIte, he7, he8]
  refine Br.dec (fun hlt => ?_) (fun hge => ?_)
  · simp -dsimp -implicitDefEqProofs (disch := omega) only [VCA, Nat.reduceEqDiff, ↓reduceIte, reduceCtorEq, eInt, he0, he1, he8]
    refine ⟨by omega, Br.eq (fun ht => ?_) (fun hf => ?_)⟩
    · simp -dsimp -implicitDefEqProofs (disch := omega) only [VCA, Nat.reduceEqDiff, ↓reduceIte, exists_eq_right_right]
      rw [idxM_some (k := k) (by omega) hj (by simp [ht])]; exact ⟨Sub.refl _, rfl⟩
    · simp -dsimp -implicitDefEqProofs (disch := omega) only [VCA, Nat.reduceEqDiff, ↓reduceIte, reduceCtorEq, he0, he1, he7, he8]
      refine ⟨_, ?_, k + 1, by omega, rfl, by omega, fun j hj' => ?_⟩
      · omega
      · by_cases h1 : j = k
        · subst h1; simpa using fun e => hf e.symm
        · exact hj j (by omega)
  · simp -dsimp -implicitDefEqProofs (disch := omega) only [VCA, ↓reduceIte, exists_eq_right_right]
    rw [idxM_none (fun j hj' => hj j (by omega))]; exact ⟨Sub.refl _, rfl⟩
def c75 : SFun := ⟨.seq (.reg [⟨some 4, .mv (.c (.bool false)), none⟩]) (.seq (.reg [⟨some 5, .mv (.t 0), none⟩, ⟨some 6, .mv (.t 1), none⟩, ⟨some 7, .pcall 111 [.t 5, .t 6], none⟩, ⟨some 8, .bin .geq (.t 7) (.c (.int .i64 0)), none⟩, ⟨some 4, .mv (.t 8), none⟩]) .ret), [.tmp 4]⟩
theorem hc75 : toSF Tryz.prog {pure := [111]} Tryz.f75 = some c75 := by kernel_rfl
theorem hn75 : (Tryz.f75.name == "runtime.NumGoroutine") = false := by kernel_rfl
theorem hasI_ok (l : List Int) (x : Int) (hl : l.length ≤ 1073741824) : PCalls (Pg G) 75 [sl eInt l, aInt x] (.bool (l.any (· == x))) := by
  intro h
  refine dcalls_of_vc Tryz.func75 hn75 hc75 (by rw [Tryz.ntmps75]; simp) (by rw [Tryz.ntmps75]; decide) ?_
  simp -dsimp -implicitDefEqProofs (disch := omega) only [VCA, Nat.reduceEqDiff, ↓reduceIte, reduceCtorEq, c75]
  refine pcallE.of (hasII_ok l x hl) ?_; simp -dsimp -implicitDefEqProofs (disch := omega) only [VCA, ↓reduceIte, exists_eq_right_right]
  exact ⟨Sub.refl _, idxM_any _ l⟩
end Go.Proofs.K
end
section
set_option linter.unusedSimpArgs false
set_option linter.unusedVariables false
namespace Go.Proofs.K
open Go Go.Sim Go.Proofs
variable {G : Glob}
theorem eDoc_len (d : HDoc) : (eDoc d).length = 2 := rfl
theorem eDoc_take (d : HDoc) : (eDoc d).take 2 = eDoc d := rfl
theorem docE_DV {d : HDoc} (h : docE d = 0) : DV d := (docE_iff d).1 h
end Go.Proofs.K
end
section
set_option linter.unusedSimpArgs false
set_option linter.unusedVariables false
namespace Go.Proofs.K
open Go Go.Sim Go.Proofs
variable {G : Glob}
section
variable {d : HDoc} {n : Int} {A B : List Int}
end
theorem DCalls.res {P : PG} {f : Nat} {args : List AVal} {h : Heap} {K K' : AVal → Heap → Prop} (hd : DCalls P f args h K) (hk : ∀ a h', K a h' → ∃ b, Wk a b ∧ K' b h') : DCalls P f args h K' :=
  ⟨hd.1, fun g w vs H GR V => (hd.2 g w vs H GR V).mono fun e w' ⟨v', a, h', g', he, k0, H', Va, S⟩ => by
    obtain ⟨b, hb, k1⟩ := hk a h' k0
    exact ⟨v', b, h', g', he, k1, H', hb.rel Va, S⟩⟩
end Go.Proofs.K
end
section
set_option linter.unusedSimpArgs false
set_option linter.unusedVariables false
namespace Go.Proofs.K
open Go Go.Sim Go.Proofs
variable {G : Glob}
end Go.Proofs.K
end
section
set_option linter.unusedSimpArgs false
set_option linter.unusedVariables false
namespace Go.Proofs.K
open Go Go.Sim Go.Proofs
section
variable {d : HDoc}
def path (d : HDoc) (n : Int) : List Int := (chain d n).reverse
theorem path_len (V : DV d) {n : Int} (hn : inD d n) : (path d n).length = up d n + 1 := by unfold path; rw [List.length_reverse, chain_len V n hn]
theorem path_up (V : DV d) {n : Int} (hn : inD d n) (hp : 0 ≤ (nd d n).parent) : path d n = path d (nd d n).parent ++ [n] := by unfold path; rw [chain_up V hn hp, List.reverse_cons]
theorem path_top (V : DV d) {n : Int} (hp : ¬ 0 ≤ (nd d n).parent) : path d n = [n] := by unfold path; rw [chain_top V hp]; rfl
theorem nth_snoc_lt {l : List Int} {x : Int} {j : Nat} (h : j < l.length) : nth (l ++ [x]) j = nth l j := by
  unfold nth; rw [List.getD_eq_getElem?_getD, List.getElem?_append_left h, ← List.getD_eq_getElem?_getD]
theorem nth_snoc_eq {l : List Int} {x : Int} : nth (l ++ [x]) l.length = x := by simp [nth, List.getD_eq_getElem?_getD]
theorem path_at (V : DV d) : ∀ n, inD d n → ∀ j, j ≤ up d n → nth (path d n) j ∈ chain d n ∧ up d (nth (path d n) j) = j := V.rise fun n hn ih j hj => by
  by_cases hp : 0 ≤ (nd d n).parent
  · have hu := V.up_par hn hp
    have hl := path_len V (V.par_in hn hp).1
    rw [path_up V hn hp]
    by_cases h1 : j = up d n
    · have : j = (path d (nd d n).parent).length := by omega
      rw [this, nth_snoc_eq]; exact ⟨chain_self _ _, by omega⟩
    · obtain ⟨h2, h3⟩ := ih hp j (by omega)
      rw [nth_snoc_lt (by omega)]
      exact ⟨by rw [chain_up V hn hp]; exact List.mem_cons_of_mem _ h2, h3⟩
  · have hu := V.up_top hp
    obtain rfl : j = 0 := by omega
    rw [path_top V hp]; exact ⟨chain_self _ _, hu⟩
structure Part (d : HDoc) (a b : Int) (i : Nat) : Prop where
  pos : 1 ≤ i
  la : i ≤ (path d a).length
  lb : i ≤ (path d b).length
  eq : ∀ j, j < i → nth (path d a) j = nth (path d b) j
  ne : ¬ (i < (path d a).length ∧ i < (path d b).length ∧ nth (path d a) i = nth (path d b) i)
variable {a b : Int} {i : Nat}
theorem Part.node (V : DV d) (ha : inD d a) (hb : inD d b) (p : Part d a b i) : nth (path d a) (i - 1) ∈ chain d a ∧ nth (path d a) (i - 1) ∈ chain d b ∧ up d (nth (path d a) (i - 1)) = i - 1 := by
  have h1 := path_at V a ha (i - 1) (by have := p.la; rw [path_len V ha] at this; omega)
  have h2 := path_at V b hb (i - 1) (by have := p.lb; rw [path_len V hb] at this; omega)
  exact ⟨h1.1, by rw [p.eq _ (by have := p.pos; omega)]; exact h2.1, h1.2⟩
end
end Go.Proofs.K
end
section
set_option linter.unusedSimpArgs false
set_option linter.unusedVariables false
namespace Go.Proofs.K
open Go Go.Sim Go.Proofs
variable {G : Glob}
end Go.Proofs.K
end
section
set_option linter.unusedSimpArgs false
set_option linter.unusedVariables false
namespace Go.Proofs.K
open Go Go.Sim Go.Proofs
variable {G : Glob}
end Go.Proofs.K
end
section
set_option linter.unusedSimpArgs false
set_option linter.unusedVariables false
namespace Go.Proofs.K
open Go Go.Sim Go.Proofs
variable {G : Glob}
end Go.Proofs.K
end
section
set_option linter.unusedSimpArgs false
set_option linter.unusedVariables false
namespace Go.Proofs.K
open Go Go.Sim Go.Proofs
variable {G : Glob}
structure HPoint where
  node : Int
  at' : Int
deriving DecidableEq, Inhabited
def eP (p : HPoint) : List AVal := [aInt p.node, aInt p.at']
instance : LenE eP 2 := ⟨fun _ => rfl⟩
structure HSpan where
  a : HPoint
  b : HPoint
deriving DecidableEq, Inhabited
def eS (s : HSpan) : List AVal := [aInt s.a.node, aInt s.a.at', aInt s.b.node, aInt s.b.at']
instance : LenE eS 4 := ⟨fun _ => rfl⟩
theorem drop_cons' {l : List Int} {i : Nat} (h : i < l.length) : l.drop i = nth l i :: l.drop (i + 1) := by
  have : nth l i = l[i] := by unfold nth; rw [List.getD_eq_getElem?_getD, List.getElem?_eq_getElem h]; rfl
  rw [this, List.getElem_cons_drop]
end Go.Proofs.K
end
section
set_option linter.unusedSimpArgs false
set_option linter.unusedVariables false
namespace Go.Proofs.K
open Go Go.Sim Go.Proofs
variable {G : Glob}
def rkey (d : HDoc) (n : Int) : List Int := ((chain d n).filter (fun m => decide (0 < m))).map fun m => 2 * idxM (· == m) (nd d (nd d m).parent).kids + 1
section
variable {d : HDoc}
end
end Go.Proofs.K
end
section
set_option linter.unusedSimpArgs false
set_option linter.unusedVariables false
namespace Go.Proofs.K
open Go Go.Sim Go.Proofs
section
variable {d : HDoc}
def pre (d : HDoc) (n : Int) : List Int := (rkey d n).reverse
end
end Go.Proofs.K
end
section
set_option linter.unusedSimpArgs false
set_option linter.unusedVariables false
namespace Go.Proofs.K
open Go Go.Sim Go.Proofs
variable {G : Glob}
end Go.Proofs.K
end
section
set_option linter.unusedSimpArgs false
set_option linter.unusedVariables false
namespace Go.Proofs.K
open Go Go.Sim Go.Proofs
variable {G : Glob}
end Go.Proofs.K
end
section
set_option linter.unusedSimpArgs false
set_option linter.unusedVariables false
namespace Go.Proofs.K
open Go Go.Sim Go.Proofs
variable {G : Glob}
def c110 : SFun := ⟨.seq (.reg [⟨some 3, .boxF 36 2 (.t 0), none⟩, ⟨some 6, .mv (.c .emp), none⟩]) (.seq (.reg [⟨some 9, .mv (.t 2), none⟩, ⟨some 10, .mv (.t 1), none⟩, ⟨some 11, .bldF 3 1 [.t 10], none⟩, ⟨some 12, .app 3 1 8 (.t 9) (.t 11), none⟩, ⟨some 2, .mv (.t 12), none⟩]) (.seq (.seq (.reg [⟨some 13, .fldA 0 (.t 3), none⟩, ⟨some 14, .ld 1 false (.t 13), none⟩, ⟨some 15, .mv (.t 1), none⟩, ⟨some 16, .idxA 6 (.t 14) (.t 15), none⟩, ⟨some 17, .fldA 5 (.t 16), none⟩, ⟨some 18, .ld 1 false (.t 17), none⟩, ⟨some 19, .len (.t 18), none⟩, ⟨some 20, .mv (.c (.int .i64 0)), none⟩]) (.block 0 (.loop (.seq (.reg [⟨some 21, .bin .lss (.t 20) (.t 19), none⟩]) (.seq (.cond (.t 21) .skip (.exit 0)) (.seq (.block 1 (.seq (.reg [⟨some 22, .idxA 1 (.t 18) (.t 20), none⟩, ⟨some 23, .ld 1 false (.t 22), none⟩, ⟨some 8, .mv (.t 23), none⟩]) (.reg [⟨some 24, .ld 2 true (.t 3), none⟩, ⟨some 25, .mv (.t 8), none⟩, ⟨some 26, .mv (.t 2), none⟩, ⟨some 27, .call (.c (.fn 110 [] [])) [.t 24, .t 25, .t 26], none⟩, ⟨some 2, .mv (.t 27), none⟩]))) (.reg [⟨some 28, .bin .add (.t 20) (.c (.int .i64 1)), none⟩, ⟨some 20, .mv (.t 28), none⟩]))))))) (.seq (.reg [⟨some 29, .mv (.t 2), none⟩, ⟨some 6, .mv (.t 29), none⟩]) .ret))), [.tmp 6]⟩
theorem hc110 : toSF Tryz.prog {} Tryz.f110 = some c110 := by kernel_rfl
theorem hn110 : (Tryz.f110.name == "runtime.NumGoroutine") = false := by kernel_rfl
theorem walk_ok (d : HDoc) (V : DV d) (sm : DocSm d) : ∀ n, inD d n → ∀ (h h1 : Heap) (L : List Int) (a : AVal), Acc h 3 1 (L.map eInt) a h1 → Sim.Sub h h1 → L.length + (below d n).length ≤ 1000000 →
    DCalls (Pg G) 110 [.agg (eDoc d), aInt n, a] h1 fun r h2 => Acc h 3 1 ((L ++ below d n).map eInt) r h2 ∧ Sim.Sub h h2 := V.down fun n hn ih h h1 L a A S hL => by
  have hl := V.len
  have n0 := hn.1
  have n1 := hn.2
  have e0 : nth d.nodes n.toNat = nd d n := rfl
  have kl := (sm.nd n).kids
  have bl := below_len V hn
  have be := below_eq V hn
  refine dcalls_of_vc Tryz.func110 hn110 hc110 (by rw [Tryz.ntmps110]; simp) (by rw [Tryz.ntmps110]; decide) ?_
  simp -dsimp -implicitDefEqProofs (disch := omega) only [VCA, Nat.reduceEqDiff, Nat.reduceAdd, ↓reduceIte, okParts, forall_eq, exists_eq_left, c110, eDoc]
  refine A.app S (by simp only [List.length_map, List.length_cons, List.length_nil]; omega) (by simp only [List.length_map, List.length_cons, List.length_nil]; omega) fun a2 h2 A2 S2 => ?_
  simp -dsimp -implicitDefEqProofs (disch := omega) only [VCA, Nat.reduceEqDiff, Nat.reduceAdd, Nat.reduceLeDiff, ↓reduceIte, eNode, e0]
  refine ⟨by omega, ?_⟩
  have A0 : Acc h 3 1 ((L ++ n :: ((nd d n).kids.take 0).flatMap (below d)).map eInt) a2 h2 := by simpa [eInt] using A2
  have bel : (below d n).length = 1 + ((nd d n).kids.flatMap (below d)).length := by rw [be, List.length_cons]; omega
  refine LoopVC.intro (fun m e h' => ∃ k : Nat, k ≤ (nd d n).kids.length ∧ m = (nd d n).kids.length - k ∧ e 3 = .pin (eDoc d) ∧ e 18 = sl eInt (nd d n).kids ∧ e 19 = aInt (nd d n).kids.length ∧ e 20 = aInt k ∧ Acc h 3 1 ((L ++ n :: ((nd d n).kids.take k).flatMap (below d)).map eInt) (e 2) h' ∧ Sim.Sub h h') _ ⟨0, by omega, rfl, rfl, rfl, rfl, rfl, A0, S2⟩ ?_
  clear A0 A2 S2 A S
  rintro m e h' ⟨k, hk, rfl, he3, he18, he19, he20, A, S⟩
  simp -dsimp -implicitDefEqProofs (disch := omega) only [VCA, ↓reduceIte, he19, he20]
  refine Br.dec (fun hlt => ?_) (fun hge => ?_)
  · have hk' : k < (nd d n).kids.length := by omega
    have hfl : (((nd d n).kids.take (k + 1)).flatMap (below d)).length ≤ ((nd d n).kids.flatMap (below d)).length := by
      conv => rhs; rw [← List.take_append_drop (k + 1) (nd d n).kids, List.flatMap_append, List.length_append]
      omega
    rw [take_snoc hk', List.flatMap_append, List.length_append] at hfl
    simp only [List.flatMap_cons, List.flatMap_nil, List.append_nil] at hfl
    have hI := ih _ (nth_mem' hk') h h' (L ++ n :: ((nd d n).kids.take k).flatMap (below d)) (e 2) A S (by rw [List.length_append, List.length_cons]; omega)
    simp -dsimp -implicitDefEqProofs (disch := omega) only [VCA, Nat.reduceEqDiff, ↓reduceIte, eInt, he3, he18, he20, eDoc_len, eDoc_take]
    refine ⟨by omega, ?_⟩
    refine DCalls.of hI ?_
    rintro r h3 ⟨A3, S3⟩
    have A4 : Acc h 3 1 ((L ++ n :: ((nd d n).kids.take (k + 1)).flatMap (below d)).map eInt) r h3 := by
      rw [take_snoc hk', List.flatMap_append]
      simpa using A3
    simp -dsimp -implicitDefEqProofs (disch := omega) only [VCA, Nat.reduceEqDiff, ↓reduceIte, he3, he18, he19, he20]
    exact ⟨_, by omega, k + 1, by omega, rfl, by omega, A4, S3⟩
  · obtain rfl : k = (nd d n).kids.length := by omega
    rw [List.take_length, ← be] at A
    simp -dsimp -implicitDefEqProofs (disch := omega) only [VCA, Nat.reduceEqDiff, ↓reduceIte]
    exact ⟨_, Sub.refl _, A, S⟩
theorem walk0_ok (d : HDoc) (V : DV d) (sm : DocSm d) (n : Int) (hn : inD d n) : PCalls (Pg G) 110 [.agg (eDoc d), aInt n, .emp] (sl eInt (below d n)) := PCalls.acc (ty := 3) (sz := 1) fun h =>
  (walk_ok (G := G) d V sm n hn h h [] .emp .nil (Sub.refl _) (by have := below_len V hn; have := V.len; simp; omega)).mono fun r h' hh => by rw [List.nil_append] at hh; exact hh
def c74 : SFun := ⟨.seq (.reg [⟨some 1, .boxF 36 2 (.t 0), none⟩, ⟨some 2, .mv (.c .emp), none⟩, ⟨some 3, .mv (.c (.int .i64 0)), none⟩]) (.seq (.seq (.reg [⟨some 5, .ld 2 true (.t 1), none⟩, ⟨some 6, .pcall 109 [.t 5], none⟩, ⟨some 4, .mv (.t 6), none⟩]) (.seq (.reg [⟨some 7, .mv (.t 4), none⟩, ⟨some 8, .bin .neq (.t 7) (.c (.int .i64 0)), none⟩]) (.cond (.t 8) (.seq (.reg [⟨some 9, .mv (.t 4), none⟩, ⟨some 2, .mv (.c .emp), none⟩, ⟨some 3, .mv (.t 9), none⟩]) .ret) .skip))) (.seq (.reg [⟨some 10, .ld 2 true (.t 1), none⟩, ⟨some 11, .pcall 110 [.t 10, .c (.int .i64 0), .c .emp], none⟩, ⟨some 2, .mv (.t 11), none⟩, ⟨some 3, .mv (.c (.int .i64 0)), none⟩]) .ret)), [.tmp 2, .tmp 3]⟩
theorem hc74 : toSF Tryz.prog {pure := [109, 110]} Tryz.f74 = some c74 := by kernel_rfl
theorem hn74 : (Tryz.f74.name == "runtime.NumGoroutine") = false := by kernel_rfl
theorem domOrder_ok (d : HDoc) (V : DV d) (h0 : docE d = 0) (sm : DocSm d) : PCalls (Pg G) 74 [.agg (eDoc d)] (.tup [sl eInt (below d 0), aInt 0]) := fun h => by
  have hC := check_ok (G := G) d sm
  have hW := walk0_ok (G := G) d V sm 0 V.zero
  rw [h0] at hC
  refine dcalls_of_vc Tryz.func74 hn74 hc74 (by rw [Tryz.ntmps74]; simp) (by rw [Tryz.ntmps74]; decide) ?_
  simp -dsimp -implicitDefEqProofs (disch := omega) only [VCA, Nat.reduceEqDiff, ↓reduceIte, c74, eDoc_len, eDoc_take]
  repeat' (first | ((with_reducible refine brC (fun _ => ?_) fun _ => ?_) <;> try (exfalso; omega)) | (with_reducible apply pcallE.of; · exact hC) | (with_reducible apply pcallE.of; · exact hW) | (with_reducible refine And.intro ?_ ?_; · omega) | simp -dsimp -implicitDefEqProofs (disch := omega) only [VCA, Nat.reduceEqDiff, ↓reduceIte, exists_eq_right, eDoc_len, eDoc_take])
  all_goals exact Sub.refl _
end Go.Proofs.K
end
section
set_option linter.unusedSimpArgs false
set_option linter.unusedVariables false
namespace Go.Proofs.K
open Go Go.Sim Go.Proofs
variable {G : Glob}
def orderD (d : HDoc) : List Int := if docE d = 0 then below d 0 else []
theorem order2_ok (d : HDoc) (sm : DocSm d) : PCalls (Pg G) 74 [.agg (eDoc d)] (.tup [sl eInt (orderD d), aInt (docE d)]) := by
  by_cases h1 : docE d = 0
  · have h := domOrder_ok (G := G) d (docE_DV h1) h1 sm
    unfold orderD
    rw [if_pos h1, h1]
    exact h
  · intro h
    have hC := check_ok (G := G) d sm
    refine DCalls.res (K := fun a h' => a = .tup [.emp, aInt (docE d)] ∧ h' = h) ?_ ?_
    · refine dcalls_of_vc Tryz.func74 hn74 hc74 (by rw [Tryz.ntmps74]; simp) (by rw [Tryz.ntmps74]; decide) ?_
      simp -dsimp -implicitDefEqProofs (disch := omega) only [VCA, Nat.reduceEqDiff, ↓reduceIte, c74, eDoc_len, eDoc_take]
      repeat' (first | ((with_reducible refine brC (fun _ => ?_) fun _ => ?_) <;> try (exfalso; omega)) | (with_reducible apply pcallE.of; · exact hC) | (with_reducible refine And.intro ?_ ?_; · omega) | simp -dsimp -implicitDefEqProofs (disch := omega) only [VCA, Nat.reduceEqDiff, ↓reduceIte, exists_eq_right])
      all_goals exact Sub.refl _
    · rintro a h' ⟨rfl, rfl⟩
      exact ⟨_, Wk.tup' (.cons (by unfold orderD; rw [if_neg h1]; exact .emp) (.cons (.refl _) .nil)), rfl, rfl⟩
def lettersM (d : HDoc) (l : List Int) : List UInt8 := l.flatMap fun k => if (nd d k).kind = 3 then (nd d k).text else []
def textUM (d : HDoc) (n : Int) : List UInt8 := if (nd d n).kind = 3 ∨ (nd d n).kind = 4 then (nd d n).text else lettersM d (below d n)
theorem letters_len {d : HDoc} (V : DV d) : ∀ l : List Int, (∀ k ∈ l, inD d k) → (lettersM d l).length ≤ 400 * l.length
  | [], _ => by simp [lettersM]
  | n :: l, h => by
    have ih := letters_len V l fun k hk => h k (List.mem_cons_of_mem _ hk)
    have h1 := ((nodeE_iff _).1 (V.node n (h n List.mem_cons_self))).2.2.2.2.1
    have h2 : (if (nd d n).kind = 3 then (nd d n).text else []).length ≤ 400 := by split; exact h1; simp
    unfold lettersM at *
    rw [List.flatMap_cons, List.length_append, List.length_cons]
    omega
theorem bare_kids {d : HDoc} (V : DV d) {n : Int} (hn : inD d n) (hk : 2 < (nd d n).kind) : (nd d n).kids = [] := by
  have hb := ((nodeE_iff _).1 (V.node n hn)).2.1
  unfold bareM at hb
  apply Classical.byContradiction
  intro h
  simp only [Bool.and_eq_true, Bool.or_eq_true, decide_eq_true_eq] at hb
  revert hb
  simp [h]
  omega
def kidText (d : HDoc) (k : Int) : List UInt8 := if (nd d k).kind ≠ 4 then textUM d k else []
theorem letters_app (d : HDoc) (l m : List Int) : lettersM d (l ++ m) = lettersM d l ++ lettersM d m := by unfold lettersM; rw [List.flatMap_append]
theorem letters_one {d : HDoc} (V : DV d) {n : Int} (hn : inD d n) (hk : 2 < (nd d n).kind) : lettersM d (below d n) = if (nd d n).kind = 3 then (nd d n).text else [] := by
  rw [below_eq V hn, bare_kids V hn hk]
  simp [lettersM]
theorem letters_kid {d : HDoc} (V : DV d) {n : Int} (hn : inD d n) : lettersM d (below d n) = kidText d n := by
  unfold kidText textUM
  by_cases h3 : (nd d n).kind = 3
  · rw [letters_one V hn (by omega), if_pos h3, if_pos (by omega), if_pos (.inl h3)]
  · by_cases h4 : (nd d n).kind = 4
    · rw [letters_one V hn (by omega), if_neg h3, if_neg (by simpa using h4)]
    · rw [if_pos h4, if_neg (by omega)]
theorem letters_flat {d : HDoc} (V : DV d) : ∀ l : List Int, (∀ k ∈ l, inD d k) → lettersM d (l.flatMap (below d)) = l.flatMap (kidText d)
  | [], _ => rfl
  | n :: l, h => by rw [List.flatMap_cons, List.flatMap_cons, letters_app, letters_kid V (h n List.mem_cons_self), letters_flat V l fun k hk => h k (List.mem_cons_of_mem _ hk)]
theorem textU_eq {d : HDoc} (V : DV d) {n : Int} (hn : inD d n) (h : ¬ ((nd d n).kind = 3 ∨ (nd d n).kind = 4)) : textUM d n = (nd d n).kids.flatMap (kidText d) := by
  unfold textUM
  rw [if_neg h, below_eq V hn, ← letters_flat V _ fun k hk => (V.kid n hn k hk).1]
  show lettersM d ([n] ++ _) = _
  rw [letters_app]
  have : lettersM d [n] = [] := by unfold lettersM; simp; intro h3; exact absurd (.inl h3) h
  rw [this]; rfl
theorem textU_len {d : HDoc} (V : DV d) {n : Int} (hn : inD d n) : (textUM d n).length ≤ 80000 := by
  unfold textUM
  have h1 := ((nodeE_iff _).1 (V.node n hn)).2.2.2.2.1
  split
  · omega
  · have h2 := letters_len V (below d n) fun k hk => below_in V n hn k hk
    have := below_len V hn
    have := V.len
    omega
def c58 : SFun := ⟨.seq (.reg [⟨some 2, .boxF 36 2 (.t 0), none⟩, ⟨some 4, .mv (.c (.str [])), none⟩]) (.seq (.seq (.reg [⟨some 8, .fldA 0 (.t 2), none⟩, ⟨some 9, .ld 1 false (.t 8), none⟩, ⟨some 10, .mv (.t 1), none⟩, ⟨some 11, .idxA 6 (.t 9) (.t 10), none⟩, ⟨some 12, .fldA 0 (.t 11), none⟩, ⟨some 13, .ld 1 false (.t 12), none⟩, ⟨some 14, .bin .eql (.t 13) (.c (.int .i64 3)), none⟩, ⟨some 15, .mv (.t 14), none⟩, ⟨some 16, .fldA 0 (.t 2), some (15, false)⟩, ⟨some 17, .ld 1 false (.t 16), some (15, false)⟩, ⟨some 18, .mv (.t 1), some (15, false)⟩, ⟨some 19, .idxA 6 (.t 17) (.t 18), some (15, false)⟩, ⟨some 20, .fldA 0 (.t 19), some (15, false)⟩, ⟨some 21, .ld 1 false (.t 20), some (15, false)⟩, ⟨some 22, .bin .eql (.t 21) (.c (.int .i64 4)), some (15, false)⟩, ⟨some 23, .pick (.t 15) (.c (.bool true)) (.t 22), none⟩]) (.cond (.t 23) (.seq (.reg [⟨some 24, .fldA 0 (.t 2), none⟩, ⟨some 25, .ld 1 false (.t 24), none⟩, ⟨some 26, .mv (.t 1), none⟩, ⟨some 27, .idxA 6 (.t 25) (.t 26), none⟩, ⟨some 28, .fldA 3 (.t 27), none⟩, ⟨some 29, .ld 1 false (.t 28), none⟩, ⟨some 4, .mv (.t 29), none⟩]) .ret) .skip)) (.seq (.reg [⟨some 5, .mv (.c (.str [])), none⟩]) (.seq (.seq (.reg [⟨some 6, .mv (.c (.int .i64 0)), none⟩]) (.block 0 (.loop (.seq (.seq (.reg [⟨some 30, .mv (.t 6), none⟩, ⟨some 31, .fldA 0 (.t 2), none⟩, ⟨some 32, .ld 1 false (.t 31), none⟩, ⟨some 33, .mv (.t 1), none⟩, ⟨some 34, .idxA 6 (.t 32) (.t 33), none⟩, ⟨some 35, .fldA 5 (.t 34), none⟩, ⟨some 36, .ld 1 false (.t 35), none⟩, ⟨some 37, .len (.t 36), none⟩, ⟨some 38, .bin .lss (.t 30) (.t 37), none⟩]) (.cond (.t 38) .skip (.exit 0))) (.seq (.block 1 (.seq (.reg [⟨some 41, .fldA 0 (.t 2), none⟩, ⟨some 42, .ld 1 false (.t 41), none⟩, ⟨some 43, .mv (.t 1), none⟩, ⟨some 44, .idxA 6 (.t 42) (.t 43), none⟩, ⟨some 45, .fldA 5 (.t 44), none⟩, ⟨some 46, .ld 1 false (.t 45), none⟩, ⟨some 47, .mv (.t 6), none⟩, ⟨some 48, .idxA 1 (.t 46) (.t 47), none⟩, ⟨some 49, .ld 1 false (.t 48), none⟩, ⟨some 7, .mv (.t 49), none⟩]) (.seq (.reg [⟨some 50, .fldA 0 (.t 2), none⟩, ⟨some 51, .ld 1 false (.t 50), none⟩, ⟨some 52, .mv (.t 7), none⟩, ⟨some 53, .idxA 6 (.t 51) (.t 52), none⟩, ⟨some 54, .fldA 0 (.t 53), none⟩, ⟨some 55, .ld 1 false (.t 54), none⟩, ⟨some 56, .bin .neq (.t 55) (.c (.int .i64 4)), none⟩]) (.cond (.t 56) (.reg [⟨some 57, .mv (.t 5), none⟩, ⟨some 58, .ld 2 true (.t 2), none⟩, ⟨some 59, .mv (.t 7), none⟩, ⟨some 60, .pcall 58 [.t 58, .t 59], none⟩, ⟨some 61, .bin .add (.t 57) (.t 60), none⟩, ⟨some 5, .mv (.t 61), none⟩]) .skip)))) (.reg [⟨some 39, .mv (.t 6), none⟩, ⟨some 40, .bin .add (.t 39) (.c (.int .i64 1)), none⟩, ⟨some 6, .mv (.t 40), none⟩])))))) (.seq (.reg [⟨some 62, .mv (.t 5), none⟩, ⟨some 4, .mv (.t 62), none⟩]) .ret)))), [.tmp 4]⟩
theorem hc58 : toSF Tryz.prog {pure := [58]} Tryz.f58 = some c58 := by kernel_rfl
theorem hn58 : (Tryz.f58.name == "runtime.NumGoroutine") = false := by kernel_rfl
theorem textUnder_ok (d : HDoc) (V : DV d) (sm : DocSm d) : ∀ n, inD d n → PCalls (Pg G) 58 [.agg (eDoc d), aInt n] (.str (textUM d n)) := V.down fun n hn ih h => by
  have hl := V.len
  have n0 := hn.1
  have n1 := hn.2
  have e0 : nth d.nodes n.toNat = nd d n := rfl
  have kl := (sm.nd n).kids
  have tl := textU_len V hn
  refine dcalls_of_vc Tryz.func58 hn58 hc58 (by rw [Tryz.ntmps58]; simp) (by rw [Tryz.ntmps58]; decide) ?_
  by_cases h3 : (nd d n).kind = 3
  · have b3 : ((nd d n).kind == 3) = true := by simpa using h3
    have eT : textUM d n = (nd d n).text := by unfold textUM; rw [if_pos (.inl h3)]
    simp -dsimp -implicitDefEqProofs (disch := omega) only [↓vcOps_sp 15, VCA, Nat.reduceEqDiff, Nat.reduceAdd, Nat.reduceLeDiff, ↓reduceIte, exists_eq_right_right, c58, eDoc, eNode, e0, b3]
    exact ⟨by omega, by omega, Sub.refl _, eT.symm⟩
  · have b3 : ((nd d n).kind == 3) = false := by simpa using h3
    by_cases h4 : (nd d n).kind = 4
    · have b4 : ((nd d n).kind == 4) = true := by simpa using h4
      have eT : textUM d n = (nd d n).text := by unfold textUM; rw [if_pos (.inr h4)]
      simp -dsimp -implicitDefEqProofs (disch := omega) only [↓vcOps_sp 15, VCA, Nat.reduceEqDiff, Nat.reduceAdd, Nat.reduceLeDiff, ↓reduceIte, exists_eq_right_right, c58, eDoc, eNode, e0, b3, b4]
      exact ⟨by omega, by omega, by omega, Sub.refl _, eT.symm⟩
    · have b4 : ((nd d n).kind == 4) = false := by simpa using h4
      have eT := textU_eq V hn (by omega)
      have fl : ∀ k, k ≤ (nd d n).kids.length → (((nd d n).kids.take k).flatMap (kidText d)).length ≤ 80000 := fun k hk => by
        have : (((nd d n).kids.take k).flatMap (kidText d)).length ≤ ((nd d n).kids.flatMap (kidText d)).length := by
          conv => rhs; rw [← List.take_append_drop k (nd d n).kids, List.flatMap_append, List.length_append]
          omega
        rw [← eT] at this; omega
      simp -dsimp -implicitDefEqProofs (disch := omega) only [↓vcOps_sp 15, VCA, Nat.reduceEqDiff, Nat.reduceAdd, Nat.reduceLeDiff, ↓reduceIte, c58, eDoc, eNode, e0, b3, b4]
      refine ⟨by omega, by omega, ?_⟩
      refine LoopVC.intro (fun m e h' => ∃ k : Nat, k ≤ (nd d n).kids.length ∧ m = (nd d n).kids.length - k ∧ e 1 = aInt n ∧ e 2 = .pin (eDoc d) ∧ e 5 = .str (((nd d n).kids.take k).flatMap (kidText d)) ∧ e 6 = aInt k ∧ h' = h) (nd d n).kids.length ⟨0, by omega, by omega, rfl, rfl, rfl, rfl, rfl⟩ ?_
      rintro m e h' ⟨k, hk, rfl, e1, e2, e5, e6, rfl⟩
      simp -dsimp -implicitDefEqProofs (disch := omega) only [VCA, Nat.reduceEqDiff, Nat.reduceAdd, Nat.reduceLeDiff, ↓reduceIte, e1, e2, e6, eDoc, eNode, e0]
      refine ⟨by omega, ?_⟩
      refine Br.dec (fun hlt => ?_) (fun hge => ?_)
      · have hk' : k < (nd d n).kids.length := by omega
        have hx := V.kid n hn _ (nth_mem' hk')
        have ihk := ih _ (nth_mem' hk')
        have f1 := fl (k + 1) (by omega)
        obtain ⟨x, hxx⟩ : ∃ x, nth (nd d n).kids k = x := ⟨_, rfl⟩
        rw [hxx] at hx ihk
        have x0 := hx.1.1
        have x1 := hx.1.2
        have ex : nth d.nodes x.toNat = nd d x := rfl
        have tk : ((nd d n).kids.take (k + 1)).flatMap (kidText d) = ((nd d n).kids.take k).flatMap (kidText d) ++ kidText d x := by rw [take_snoc hk', hxx, List.flatMap_append]; simp
        rw [tk, List.length_append] at f1
        unfold eDoc at ihk
        by_cases h5 : (nd d x).kind = 4
        · have b5 : ((nd d x).kind != 4) = false := by simpa using h5
          have tx : kidText d x = [] := by unfold kidText; rw [if_neg (by simpa using h5)]
          simp -dsimp -implicitDefEqProofs (disch := omega) only [VCA, Nat.reduceEqDiff, Nat.reduceAdd, Nat.reduceLeDiff, ↓reduceIte, eInt, e1, e2, e5, e6, eDoc, eNode, e0, hxx, ex, b5]
          exact ⟨by omega, by omega, by omega, _, by omega, k + 1, by omega, rfl, by rw [tk, tx, List.append_nil], by omega⟩
        · have b5 : ((nd d x).kind != 4) = true := by simpa using h5
          have tx : kidText d x = textUM d x := by unfold kidText; rw [if_pos h5]
          rw [tx] at f1
          simp -dsimp -implicitDefEqProofs (disch := omega) only [VCA, Nat.reduceEqDiff, Nat.reduceAdd, Nat.reduceLeDiff, ↓reduceIte, eInt, e1, e2, e5, e6, eDoc, eNode, e0, hxx, ex, b5]
          repeat' (first | ((with_reducible refine brC (fun _ => ?_) fun _ => ?_) <;> try (exfalso; omega)) | (with_reducible apply pcallE.of; · exact ihk) | (with_reducible refine And.intro ?_ ?_; · omega) | simp -dsimp -implicitDefEqProofs (disch := omega) only [VCA, Nat.reduceEqDiff, ↓reduceIte, e1, e2, e6, eDoc])
          exact ⟨_, by omega, k + 1, by omega, rfl, by rw [tk, tx], by omega⟩
      · obtain rfl : k = (nd d n).kids.length := by omega
        simp -dsimp -implicitDefEqProofs (disch := omega) only [VCA, Nat.reduceEqDiff, ↓reduceIte, exists_eq_right_right, e5]
        exact ⟨Sub.refl _, eT.symm⟩
end Go.Proofs.K
end
section
set_option linter.unusedSimpArgs false
set_option linter.unusedVariables false
namespace Go.Proofs.K
open Go Go.Sim Go.Proofs
variable {G : Glob}
theorem strBA_map (xs : List (List UInt8)) : (xs.map fun x => (⟨⟨x⟩⟩ : ByteArray)).map (·.data.toList) = xs := by
  rw [List.map_map]; exact List.map_id' _
theorem libJoin_ok (xs : List (List UInt8)) (sep : List UInt8) (hN : xs.length ≤ 100000) (hl : (Lib.join xs sep).length ≤ 100000000) : PCalls (Pg G) 24 [sl eStr xs, .str sep] (.str (Lib.join xs sep)) := by
  refine ofBelow ⟨_, Tryz.func24, by kernel_rfl, by kernel_rfl⟩ fun g w vs GR V => ?_
  obtain ⟨u, v, rfl, hu, hv⟩ := V.two_inv
  rw [hv.str_inv']
  obtain ⟨A, c, rfl, hin⟩ := VRel.slc_inv (es := xs.map eStr) hu
  by_cases h0 : xs = []
  · subst h0
    exact (Tryz.strings_Join_none A c ⟨⟨sep⟩⟩ w).mono fun e w' ⟨he, hw⟩ => ⟨_, he, by rw [hw]; exact RowKit.Below.refl _ _, fun g w => VRel.str_mk g w _⟩
  · have hp : 0 < (xs.map eStr).length := by rw [List.length_map]; exact List.length_pos_iff.2 h0
    obtain ⟨hc, ad, sz, rfl, hs, hf, hsz, hcell⟩ := hin hp
    obtain ⟨bk, o, sp⟩ := ad
    have hs : sp = none := hs
    subst hs
    have h1 : sz = 1 := by
      have := hsz ((xs.map eStr)[0]) (List.getElem_mem hp)
      rw [← this, List.getElem_map]; rfl
    subst h1
    have cells : ∀ (j : Nat) (x : ByteArray), (xs.map fun x => (⟨⟨x⟩⟩ : ByteArray))[j]? = some x → w.cell? ⟨bk, o + j, none⟩ = some (.string x) := fun j x hx => by
      rw [List.getElem?_map, Option.map_eq_some_iff] at hx
      obtain ⟨y, hy, rfl⟩ := hx
      obtain ⟨u, q1, q2, q3⟩ := hcell j 0 (eStr y) (.str y) (by rw [List.getElem?_map, hy]; rfl) rfl
      rw [q3.str_inv', Addr.add_lit] at q1
      rw [← q1]; congr 2; omega
    have hbk : bk < w.heap.size := by
      obtain ⟨u, q1, _⟩ := hcell 0 0 (eStr (nth xs 0)) (.str (nth xs 0)) (by rw [List.getElem?_map, nth_some (List.length_pos_iff.2 h0)]; rfl) rfl
      rw [Addr.add_lit] at q1
      refine Classical.byContradiction fun hc => ?_
      have hn : w.heap[bk]? = none := Array.getElem?_eq_none (by omega)
      simp [World.cell?, hn] at q1
    have hj := Tryz.strings_Join bk o c (xs.map fun x => (⟨⟨x⟩⟩ : ByteArray)) ⟨⟨sep⟩⟩ w cells hbk (by rw [List.length_map]; omega) (by rw [List.length_map]; rw [List.length_map] at hc; exact hc) (by rw [strBA_map]; show (Lib.join xs sep).length ≤ _; omega)
    rw [strBA_map, List.length_map] at hj
    rw [List.length_map]
    exact hj.mono fun e w' ⟨he, hw⟩ => ⟨_, he, hw, fun g w => VRel.str_mk g w _⟩
theorem join_is : ∀ xs : List (List UInt8), Lib.join xs [38] = joinM xs
  | [] => rfl
  | [x] => Lib.join_one x [38]
  | x :: y :: r => by
    have h := join_is (y :: r)
    unfold Lib.join at h ⊢
    rw [joinM, ← h]
    simp [List.intercalate, List.intersperse]
end Go.Proofs.K
end
section
set_option linter.unusedSimpArgs false
set_option linter.unusedVariables false
namespace Go.Proofs.K
open Go Go.Sim Go.Proofs Go.Shelf
variable {G : Glob}
structure EntSm (x : HEnt) : Prop where
  name : x.name.length ≤ 1000
  value : x.value.length ≤ 1000
theorem pairM_len {x : HEnt} (h : EntSm x) : (pairM x).length ≤ 6001 := by
  have h1 := encF_len x.name
  have h2 := encF_len x.value
  have h3 := h.name
  have h4 := h.value
  unfold pairM
  rw [List.length_append, List.length_cons]; omega
theorem joinM_len : ∀ l : List (List UInt8), (∀ x ∈ l, x.length ≤ 6001) → (joinM l).length ≤ 6002 * l.length
  | [], _ => Nat.le_refl _
  | [x], h => by have := h x List.mem_cons_self; simp only [joinM, List.length_cons, List.length_nil]; omega
  | x :: y :: r, h => by
    have h1 := h x List.mem_cons_self
    have h2 := joinM_len (y :: r) fun z hz => h z (List.mem_cons_of_mem _ hz)
    rw [joinM, List.length_append]
    simp only [List.length_cons] at h2 ⊢
    omega
def c7 : SFun := ⟨.seq (.reg [⟨some 2, .mv (.c (.str [])), none⟩, ⟨some 3, .mv (.c (.int .i64 0)), none⟩]) (.seq (.seq (.reg [⟨some 8, .mv (.t 0), none⟩, ⟨some 9, .len (.t 8), none⟩, ⟨some 10, .bin .gtr (.t 9) (.c (.int .i64 100)), none⟩]) (.cond (.t 10) (.seq (.reg [⟨some 2, .mv (.c (.str [])), none⟩, ⟨some 3, .mv (.c (.int .i64 2)), none⟩]) .ret) .skip)) (.seq (.reg [⟨some 4, .mv (.c .emp), none⟩]) (.seq (.seq (.reg [⟨some 11, .mv (.t 0), none⟩, ⟨some 12, .len (.t 11), none⟩, ⟨some 13, .mv (.c (.int .i64 0)), none⟩]) (.block 0 (.loop (.seq (.reg [⟨some 14, .bin .lss (.t 13) (.t 12), none⟩]) (.seq (.cond (.t 14) .skip (.exit 0)) (.seq (.block 1 (.seq (.reg [⟨some 15, .idxA 2 (.t 11) (.t 13), none⟩, ⟨some 16, .ld 2 true (.t 15), none⟩, ⟨some 6, .new 25 2 [.str [], .str []], none⟩, ⟨none, .st 2 (.t 6) (.t 16), none⟩]) (.dreg [(⟨some 17, .mv (.t 4), none⟩, none), (⟨some 18, .fldA 0 (.t 6), none⟩, none), (⟨some 19, .ld 1 false (.t 18), none⟩, none), (⟨some 20, .pcall 23 [.t 19], none⟩, none), (⟨some 21, .bin .add (.t 20) (.c (.str [61])), none⟩, none), (⟨some 22, .fldA 1 (.t 6), none⟩, none), (⟨some 23, .ld 1 false (.t 22), none⟩, none), (⟨some 24, .pcall 23 [.t 23], none⟩, none), (⟨some 25, .bin .add (.t 21) (.t 24), none⟩, none), (⟨some 26, .bldF 9 1 [.t 25], none⟩, none), (⟨some 27, .app 9 1 16 (.t 17) (.t 26), none⟩, (some [23, 19])), (⟨some 4, .mv (.t 27), none⟩, (some [23, 19]))]))) (.reg [⟨some 28, .bin .add (.t 13) (.c (.int .i64 1)), none⟩, ⟨some 13, .mv (.t 28), none⟩]))))))) (.seq (.reg [⟨some 29, .frz (.t 4), none⟩, ⟨some 30, .pcall 24 [.t 29, .c (.str [38])], none⟩, ⟨some 7, .mv (.t 30), none⟩]) (.seq (.seq (.reg [⟨some 31, .mv (.t 7), none⟩, ⟨some 32, .lenS (.t 31), none⟩, ⟨some 33, .bin .gtr (.t 32) (.c (.int .i64 4000)), none⟩]) (.cond (.t 33) (.seq (.reg [⟨some 2, .mv (.c (.str [])), none⟩, ⟨some 3, .mv (.c (.int .i64 2)), none⟩]) .ret) .skip)) (.seq (.reg [⟨some 34, .mv (.t 7), none⟩, ⟨some 2, .mv (.t 34), none⟩, ⟨some 3, .mv (.c (.int .i64 0)), none⟩]) .ret)))))), [.tmp 2, .tmp 3]⟩
theorem hc7 : toSF Tryz.prog {pure := [23, 24], how := [(29, 8)]} Tryz.f7 = some c7 := by kernel_rfl
theorem hn7 : (Tryz.f7.name == "runtime.NumGoroutine") = false := by kernel_rfl
theorem _root_.Go.Sim.Acc.frz {h0 h' : Heap} {ty : TypeId} {sz : Nat} {cells : List (List AVal)} {a : AVal} {K : AVal → Heap → Prop} (A : Acc h0 ty sz cells a h') (S : Sim.Sub h0 h') (hk : ∀ h'', Sim.Sub h0 h'' → K (.slc cells) h'') : Hd (frzE a h') K .mk := by
  rcases A with ⟨rfl, rfl⟩ | ⟨r, q0, q1, rfl⟩
  · exact hk _ S
  · refine ⟨_, q1, by simp, ?_⟩
    have e : ((cells.drop 0).take cells.length) = cells := by simp
    show K (.slc ((cells.drop 0).take cells.length)) (del h' r)
    rw [e]
    exact hk _ (S.del q0)
set_option maxHeartbeats 2000000 in
theorem fEncode_ok (l : List HEnt) (hl : l.length ≤ 1000) (hs : ∀ x ∈ l, EntSm x) : PCalls (Pg G) 7 [sl eEnt l] (.tup [.str (coded l).1, aInt (coded l).2]) := fun h => by
  unfold coded
  by_cases h1 : 100 < l.length
  · have d1 : decide ((100 : Int) < (l.length : Int)) = true := decide_eq_true (by omega)
    rw [if_pos h1]
    refine dcalls_of_vc Tryz.func7 hn7 hc7 (by rw [Tryz.ntmps7]; simp) (by rw [Tryz.ntmps7]; decide) ?_
    simp -dsimp -implicitDefEqProofs (disch := omega) only [VCA, ↓reduceIte, reduceCtorEq, c7]
    repeat' (first | ((with_reducible refine brC (fun _ => ?_) fun _ => ?_) <;> try (exfalso; omega)) | (with_reducible refine And.intro ?_ ?_; · omega) | simp -dsimp -implicitDefEqProofs (disch := omega) only [VCA, Nat.reduceEqDiff, ↓reduceIte, exists_eq_right, d1])
    all_goals exact Sub.refl _
  · have d1 : decide ((100 : Int) < (l.length : Int)) = false := decide_eq_false (by omega)
    rw [if_neg h1]
    have hjl := joinM_len (l.map pairM) fun x hx => by
      obtain ⟨y, hy, rfl⟩ := List.mem_map.1 hx
      exact pairM_len (hs y hy)
    rw [List.length_map] at hjl
    have hji := join_is (l.map pairM)
    have cJ := libJoin_ok (G := G) (l.map pairM) [38] (by rw [List.length_map]; omega) (by rw [hji]; omega)
    rw [hji] at cJ
    refine dcalls_of_vc Tryz.func7 hn7 hc7 (by rw [Tryz.ntmps7]; simp) (by rw [Tryz.ntmps7]; decide) ?_
    simp -dsimp -implicitDefEqProofs (disch := omega) only [VCA, ↓reduceIte, reduceCtorEq, c7]
    repeat' (first | ((with_reducible refine brC (fun _ => ?_) fun _ => ?_) <;> try (exfalso; omega)) | (with_reducible refine And.intro ?_ ?_; · omega) | simp -dsimp -implicitDefEqProofs (disch := omega) only [VCA, ↓reduceIte, reduceCtorEq, d1])
    refine LoopVC.intro (fun m e h' => ∃ i : Nat, i ≤ l.length ∧ m = l.length - i ∧ e 11 = sl eEnt l ∧ e 12 = aInt l.length ∧ e 13 = aInt i ∧ Acc h 9 1 (((l.take i).map pairM).map eStr) (e 4) h' ∧ Sim.Sub h h') l.length
      (by exact ⟨0, by omega, by omega, rfl, rfl, rfl, .nil, Sub.refl _⟩) ?_
    rintro m e h' ⟨i, hi, rfl, e11, e12, e13, A, S⟩
    simp -dsimp -implicitDefEqProofs (disch := omega) only [VCA, ↓reduceIte, e12, e13]
    refine Br.dec (fun hlt => ?_) (fun hge => ?_)
    · have hi' : i < l.length := by omega
      have hsx := hs _ (nth_mem' hi')
      have n1 := hsx.name
      have n2 := hsx.value
      have c1 := fencode_ok (G := G) (nth l i).name (by omega)
      have c2 := fencode_ok (G := G) (nth l i).value (by omega)
      have l1 := encF_len (nth l i).name
      have l2 := encF_len (nth l i).value
      have hll : ((l.take i).map pairM).length = i := by rw [List.length_map, List.length_take]; omega
      repeat' (first | ((with_reducible refine brC (fun _ => ?_) fun _ => ?_) <;> try (exfalso; omega)) | (with_reducible apply pcallE.of; · exact c1) | (with_reducible apply pcallE.of; · exact c2) | (with_reducible refine And.intro ?_ ?_; · omega) | simp -dsimp -implicitDefEqProofs (disch := omega) only [VCA, Nat.reduceEqDiff, Nat.reduceAdd, Nat.reduceLT, Nat.reduceLeDiff, ↓reduceIte, rsOf, rootsOf, setAt, exists_eq_left', rootL, eEnt, e11, e13, eEnt])
      intro r6 hr6
      have pm : pairM (nth l i) = (encF (nth l i).name ++ [61]) ++ encF (nth l i).value := by unfold pairM; rw [List.append_assoc]; rfl
      repeat' (first | ((with_reducible refine brC (fun _ => ?_) fun _ => ?_) <;> try (exfalso; omega)) | (with_reducible apply pcallE.of; · exact c1) | (with_reducible apply pcallE.of; · exact c2) | (with_reducible refine And.intro ?_ ?_; · omega) | simp -dsimp -implicitDefEqProofs (disch := omega) only [VCA, Nat.reduceEqDiff, Nat.reduceAdd, Nat.reduceLT, Nat.reduceLeDiff, ↓reduceIte, rsOf, rootsOf, okParts, forall_eq, exists_eq_left, exists_eq_left', rootL])
      have A1 := fun o => A.re (h1' := h) (h2' := upd h' r6 (some o)) fun r ob q1 q2 => ⟨q1, by rw [upd_ne _ _ (fun e => by rw [e, hr6] at q2; cases q2)]; exact q2⟩
      refine ⟨by rw [List.length_append]; simp only [List.length_cons, List.length_nil]; omega, ?_⟩
      refine (A1 _).appW (b := 16) (S.upd (S.none hr6)) (by simp only [List.length_map, List.length_cons, List.length_nil] at hll ⊢; omega) (by simp only [List.length_map, List.length_cons, List.length_nil] at hll ⊢; omega) fun a2 h3 A2 S2 kp => ?_
      refine ⟨fun q hq hc => ?_, ?_⟩
      · rcases List.mem_cons.1 hq with rfl | hq
        · simp at hc
        · rw [List.mem_singleton] at hq; subst hq; simp at hc
      simp -dsimp -implicitDefEqProofs (disch := omega) only [VCA, Nat.reduceEqDiff, Nat.reduceBEq, ↓reduceIte, SOp.rd, SI.rd, SX.rd, e11, e12, e13]
      refine ⟨_, by omega, i + 1, by omega, rfl, by omega, ?_, S2⟩
      rw [take_snoc hi', List.map_append, List.map_append]
      show Acc h _ 1 (((l.take i).map pairM).map eStr ++ [[.str (pairM (nth l i))]]) _ _
      rw [pm]
      exact A2
    · obtain rfl : i = l.length := by omega
      rw [List.take_length] at A
      by_cases h4 : 4000 < (joinM (l.map pairM)).length
      · have d4 : decide ((4000 : Int) < ((joinM (l.map pairM)).length : Int)) = true := decide_eq_true (by omega)
        rw [if_pos h4]
        generalize joinM (l.map pairM) = J at *
        repeat' (first | ((with_reducible refine brC (fun _ => ?_) fun _ => ?_) <;> try (exfalso; omega)) | ((refine A.frz S (fun h5 S5 => ?_))) | (with_reducible refine And.intro ?_ ?_; · omega) | simp -dsimp -implicitDefEqProofs (disch := omega) only [VCA, Nat.reduceEqDiff, ↓reduceIte])
        rw [show AVal.slc (List.map eStr (List.map pairM l)) = sl eStr (l.map pairM) from rfl]
        repeat' (first | ((with_reducible refine brC (fun _ => ?_) fun _ => ?_) <;> try (exfalso; omega)) | (with_reducible apply pcallE.of; · exact cJ) | (with_reducible refine And.intro ?_ ?_; · omega) | simp -dsimp -implicitDefEqProofs (disch := omega) only [VCA, Nat.reduceEqDiff, ↓reduceIte, exists_eq_right, d4])
        all_goals exact S5
      · have d4 : decide ((4000 : Int) < ((joinM (l.map pairM)).length : Int)) = false := decide_eq_false (by omega)
        rw [if_neg h4]
        generalize joinM (l.map pairM) = J at *
        repeat' (first | ((with_reducible refine brC (fun _ => ?_) fun _ => ?_) <;> try (exfalso; omega)) | ((refine A.frz S (fun h5 S5 => ?_))) | (with_reducible refine And.intro ?_ ?_; · omega) | simp -dsimp -implicitDefEqProofs (disch := omega) only [VCA, Nat.reduceEqDiff, ↓reduceIte])
        rw [show AVal.slc (List.map eStr (List.map pairM l)) = sl eStr (l.map pairM) from rfl]
        repeat' (first | ((with_reducible refine brC (fun _ => ?_) fun _ => ?_) <;> try (exfalso; omega)) | (with_reducible apply pcallE.of; · exact cJ) | (with_reducible refine And.intro ?_ ?_; · omega) | simp -dsimp -implicitDefEqProofs (disch := omega) only [VCA, Nat.reduceEqDiff, ↓reduceIte, exists_eq_right, d4])
        all_goals exact S5
def c9 : SFun := ⟨.seq (.reg [⟨some 2, .mv (.c (.str [])), none⟩, ⟨some 3, .mv (.c (.int .i64 0)), none⟩]) (.seq (.reg [⟨some 4, .mv (.c (.str [])), none⟩]) (.seq (.seq (.reg [⟨some 5, .mv (.c (.int .i64 0)), none⟩]) (.block 0 (.loop (.seq (.seq (.reg [⟨some 6, .mv (.t 5), none⟩, ⟨some 7, .mv (.t 0), none⟩, ⟨some 8, .len (.t 7), none⟩, ⟨some 9, .bin .lss (.t 6) (.t 8), none⟩]) (.cond (.t 9) .skip (.exit 0))) (.seq (.block 1 (.seq (.seq (.reg [⟨some 12, .mv (.t 5), none⟩, ⟨some 13, .bin .gtr (.t 12) (.c (.int .i64 0)), none⟩]) (.cond (.t 13) (.reg [⟨some 14, .mv (.t 4), none⟩, ⟨some 15, .bin .add (.t 14) (.c (.str [38])), none⟩, ⟨some 4, .mv (.t 15), none⟩]) .skip)) (.dreg [(⟨some 16, .mv (.t 4), none⟩, none), (⟨some 17, .mv (.t 0), none⟩, none), (⟨some 18, .mv (.t 5), none⟩, none), (⟨some 19, .idxA 2 (.t 17) (.t 18), none⟩, none), (⟨some 20, .fldA 0 (.t 19), none⟩, none), (⟨some 21, .ld 1 false (.t 20), none⟩, none), (⟨some 22, .pcall 28 [.t 21], none⟩, none), (⟨some 23, .bin .add (.t 22) (.c (.str [61])), none⟩, none), (⟨some 24, .mv (.t 0), none⟩, none), (⟨some 25, .mv (.t 5), none⟩, none), (⟨some 26, .idxA 2 (.t 24) (.t 25), none⟩, none), (⟨some 27, .fldA 1 (.t 26), none⟩, none), (⟨some 28, .ld 1 false (.t 27), none⟩, none), (⟨some 29, .pcall 28 [.t 28], none⟩, none), (⟨some 30, .bin .add (.t 23) (.t 29), none⟩, none), (⟨some 31, .bin .add (.t 16) (.t 30), none⟩, none), (⟨some 4, .mv (.t 31), none⟩, (some [28, 21]))]))) (.reg [⟨some 10, .mv (.t 5), none⟩, ⟨some 11, .bin .add (.t 10) (.c (.int .i64 1)), none⟩, ⟨some 5, .mv (.t 11), none⟩])))))) (.seq (.seq (.reg [⟨some 32, .mv (.t 0), none⟩, ⟨some 33, .len (.t 32), none⟩, ⟨some 34, .bin .gtr (.t 33) (.c (.int .i64 100)), none⟩, ⟨some 35, .mv (.t 34), none⟩, ⟨some 36, .mv (.t 4), some (35, false)⟩, ⟨some 37, .lenS (.t 36), some (35, false)⟩, ⟨some 38, .bin .gtr (.t 37) (.c (.int .i64 4000)), some (35, false)⟩, ⟨some 39, .pick (.t 35) (.c (.bool true)) (.t 38), none⟩]) (.cond (.t 39) (.seq (.reg [⟨some 2, .mv (.c (.str [])), none⟩, ⟨some 3, .mv (.c (.int .i64 2)), none⟩]) .ret) .skip)) (.seq (.reg [⟨some 40, .mv (.t 4), none⟩, ⟨some 2, .mv (.t 40), none⟩, ⟨some 3, .mv (.c (.int .i64 0)), none⟩]) .ret)))), [.tmp 2, .tmp 3]⟩
end Go.Proofs.K
end
section
set_option linter.unusedSimpArgs false
set_option linter.unusedVariables false
namespace Go.Proofs.K
open Go Go.Sim Go.Proofs
variable {G : Glob}
def c6 : SFun := ⟨.seq (.reg [⟨some 4, .mv (.c (.str [])), none⟩]) (.seq (.reg [⟨some 5, .mv (.t 0), none⟩, ⟨some 6, .mv (.t 0), none⟩, ⟨some 7, .lenS (.t 6), none⟩, ⟨some 8, .mv (.t 1), none⟩, ⟨some 9, .min2 (.t 7) (.t 8), none⟩, ⟨some 10, .slS (.t 5) none (some (.t 9)), none⟩, ⟨some 4, .mv (.t 10), none⟩]) .ret), [.tmp 4]⟩
end Go.Proofs.K
end
section
set_option linter.unusedSimpArgs false
set_option linter.unusedVariables false
namespace Go.Proofs.K
open Go Go.Sim Go.Proofs Go.Shelf
variable {G : Glob}
def c12 : SFun := ⟨.seq (.reg [⟨some 4, .mv (.c (.bool false)), none⟩]) (.seq (.seq (.reg [⟨some 6, .mv (.t 0), none⟩, ⟨some 7, .len (.t 6), none⟩, ⟨some 8, .mv (.t 1), none⟩, ⟨some 9, .len (.t 8), none⟩, ⟨some 10, .bin .neq (.t 7) (.t 9), none⟩]) (.cond (.t 10) (.seq (.reg [⟨some 4, .mv (.c (.bool false)), none⟩]) .ret) .skip)) (.seq (.seq (.reg [⟨some 5, .mv (.c (.int .i64 0)), none⟩]) (.block 0 (.loop (.seq (.seq (.reg [⟨some 11, .mv (.t 5), none⟩, ⟨some 12, .mv (.t 0), none⟩, ⟨some 13, .len (.t 12), none⟩, ⟨some 14, .bin .lss (.t 11) (.t 13), none⟩]) (.cond (.t 14) .skip (.exit 0))) (.seq (.block 1 (.seq (.dreg [(⟨some 17, .mv (.t 0), none⟩, none), (⟨some 18, .mv (.t 5), none⟩, none), (⟨some 19, .idxA 2 (.t 17) (.t 18), none⟩, none), (⟨some 20, .ld 2 true (.t 19), none⟩, none), (⟨some 21, .mv (.t 1), none⟩, none), (⟨some 22, .mv (.t 5), none⟩, none), (⟨some 23, .idxA 2 (.t 21) (.t 22), none⟩, none), (⟨some 24, .ld 2 true (.t 23), none⟩, none), (⟨some 25, .eqs true [1, 1] (.t 20) (.t 24), none⟩, none)]) (.cond (.t 25) (.seq (.reg [⟨some 4, .mv (.c (.bool false)), none⟩]) .ret) .skip))) (.reg [⟨some 15, .mv (.t 5), none⟩, ⟨some 16, .bin .add (.t 15) (.c (.int .i64 1)), none⟩, ⟨some 5, .mv (.t 16), none⟩])))))) (.seq (.reg [⟨some 4, .mv (.c (.bool true)), none⟩]) .ret))), [.tmp 4]⟩
theorem hc12 : toSF Tryz.prog {} Tryz.f12 = some c12 := by kernel_rfl
theorem hn12 : (Tryz.f12.name == "runtime.NumGoroutine") = false := by kernel_rfl
theorem sameEnt_ok (a : List HEnt) (ha : a.length ≤ 1073741824) : PCalls (Pg G) 12 [sl eEnt a, sl eEnt a] (.bool true) := fun h => by
  refine dcalls_of_vc Tryz.func12 hn12 hc12 (by rw [Tryz.ntmps12]; simp) (by rw [Tryz.ntmps12]; decide) ?_
  have hne : ((a.length : Int) != (a.length : Int)) = false := by simp
  simp -dsimp -implicitDefEqProofs (disch := omega) only [VCA, Nat.reduceEqDiff, ↓reduceIte, reduceCtorEq, c12, hne]
  repeat' (first | ((with_reducible refine brC (fun _ => ?_) fun _ => ?_) <;> try (exfalso; omega)) | (with_reducible refine And.intro ?_ ?_; · omega) | simp -dsimp -implicitDefEqProofs (disch := omega) only [VCA, pg_gl, ↓upd_none, Nat.reduceEqDiff, Nat.reduceBEq, Nat.reduceAdd, Nat.reduceSub, Nat.reduceMul, Nat.reduceLT, Nat.reduceLeDiff, ↓reduceIte, reduceCtorEq, rsOf, rootsOf, SOp.rd, SI.rd, SX.rd, rdL, rdO, rdP, okParts, eqCells, okEqCells, fillA, okFill, setAt, implies_true, forall_const, forall_eq, ne_eq, exists_eq_right_right, exists_eq_right, exists_eq_left, exists_eq_left', rootL, eInt, eStr, lit_eq, hne])
  refine LoopVC.intro (fun m e h' => ∃ k : Nat, k ≤ a.length ∧ m = a.length - k ∧ e 0 = sl eEnt a ∧ e 1 = sl eEnt a ∧ e 5 = aInt k ∧ h' = h) a.length
    (by exact ⟨0, by omega, by omega, rfl, rfl, rfl, rfl⟩) ?_
  rintro m e h' ⟨k, hk, rfl, e0, e1, e5, rfl⟩
  by_cases hlt : k < a.length
  · have d1 : decide ((k : Int) < (a.length : Int)) = true := decide_eq_true (by omega)
    repeat' (first | ((with_reducible refine brC (fun _ => ?_) fun _ => ?_) <;> try (exfalso; omega)) | (with_reducible refine And.intro ?_ ?_; · omega) | simp -dsimp -implicitDefEqProofs (disch := omega) only [VCA, Nat.reduceEqDiff, Nat.reduceAdd, ↓reduceIte, reduceCtorEq, rsOf, rootsOf, eqCells, okEqCells, exists_eq_right_right, rootL, e0, e1, e5, d1, eEnt])
    all_goals first
      | exact ⟨_, by omega, k + 1, by omega, rfl, by omega⟩
      | (rename_i q; simp at q)
  · have d1 : decide ((k : Int) < (a.length : Int)) = false := decide_eq_false (by omega)
    repeat' (first | ((with_reducible refine brC (fun _ => ?_) fun _ => ?_) <;> try (exfalso; omega)) | (with_reducible refine And.intro ?_ ?_; · omega) | simp -dsimp -implicitDefEqProofs (disch := omega) only [VCA, Nat.reduceEqDiff, ↓reduceIte, reduceCtorEq, exists_eq_right, e0, e5, d1])
    all_goals exact Sub.refl _
def c3 : SFun := ⟨.seq (.reg [⟨some 4, .mv (.c (.bool false)), none⟩]) (.seq (.reg [⟨some 14, .mv (.t 0), none⟩, ⟨some 15, .mv (.t 0), none⟩, ⟨some 16, .len (.t 15), none⟩, ⟨some 17, .min2 (.t 16) (.c (.int .i64 110)), none⟩, ⟨some 18, .slA 2 (.t 14) none (some (.t 17)), none⟩, ⟨some 0, .mv (.t 18), none⟩]) (.seq (.seq (.reg [⟨some 5, .mv (.c (.int .i64 0)), none⟩]) (.block 0 (.loop (.seq (.seq (.reg [⟨some 19, .mv (.t 5), none⟩, ⟨some 20, .mv (.t 0), none⟩, ⟨some 21, .len (.t 20), none⟩, ⟨some 22, .bin .lss (.t 19) (.t 21), none⟩]) (.cond (.t 22) .skip (.exit 0))) (.seq (.block 1 (.dreg [(⟨some 25, .bldF 25 2 [], none⟩, none), (⟨some 26, .mv (.t 0), none⟩, none), (⟨some 27, .mv (.t 5), none⟩, none), (⟨some 28, .slA 2 (.t 26) none (some (.t 27)), none⟩, none), (⟨some 30, .mv (.t 0), none⟩, none), (⟨some 31, .mv (.t 5), none⟩, none), (⟨some 32, .idxA 2 (.t 30) (.t 31), none⟩, none), (⟨some 33, .fldA 0 (.t 32), none⟩, none), (⟨some 34, .ld 1 false (.t 33), none⟩, none), (⟨some 36, .mv (.t 0), none⟩, none), (⟨some 37, .mv (.t 5), none⟩, none), (⟨some 38, .idxA 2 (.t 36) (.t 37), none⟩, none), (⟨some 39, .fldA 1 (.t 38), none⟩, none), (⟨some 40, .ld 1 false (.t 39), none⟩, none), (⟨some 45, .mv (.t 0), none⟩, none), (⟨some 46, .mv (.t 5), none⟩, none), (⟨some 47, .bin .add (.t 46) (.c (.int .i64 1)), none⟩, none), (⟨some 48, .slA 2 (.t 45) (some (.t 47)) none, none⟩, none), (⟨some 29, .app 25 2 32 (.t 25) (.t 28), none⟩, (some [])), (⟨some 35, .pcall 6 [.t 34, .c (.int .i64 60)], none⟩, none), (⟨some 41, .pcall 6 [.t 40, .c (.int .i64 60)], none⟩, none), (⟨some 42, .bld [.str [], .str []] [(0, (1, (.t 35))), (1, (1, (.t 41)))], none⟩, none), (⟨some 43, .bldF 25 2 [.t 42], none⟩, none), (⟨some 44, .app 25 2 32 (.t 29) (.t 43), none⟩, (some [40, 34])), (⟨some 49, .appF 25 2 32 (.t 44) (.t 48), none⟩, (some [40, 34])), (⟨some 0, .mv (.t 49), none⟩, (some [40, 34]))])) (.reg [⟨some 23, .mv (.t 5), none⟩, ⟨some 24, .bin .add (.t 23) (.c (.int .i64 1)), none⟩, ⟨some 5, .mv (.t 24), none⟩])))))) (.seq (.reg [⟨some 51, .mv (.t 0), none⟩, ⟨some 52, .pcall 7 [.t 51], none⟩, ⟨some 50, .mv (.t 52), none⟩, ⟨some 53, .ext (.t 50) 0, none⟩, ⟨some 54, .ext (.t 50) 1, none⟩, ⟨some 6, .mv (.t 53), none⟩, ⟨some 7, .mv (.t 54), none⟩]) (.seq (.reg [⟨some 56, .mv (.t 1), none⟩, ⟨some 57, .pcall 8 [.t 56], none⟩, ⟨some 55, .mv (.t 57), none⟩, ⟨some 58, .ext (.t 55) 0, none⟩, ⟨some 59, .ext (.t 55) 1, none⟩, ⟨some 8, .mv (.t 58), none⟩, ⟨some 9, .mv (.t 59), none⟩]) (.seq (.reg [⟨some 61, .mv (.t 0), none⟩, ⟨some 62, .pcall 9 [.t 61], none⟩, ⟨some 60, .mv (.t 62), none⟩, ⟨some 63, .ext (.t 60) 0, none⟩, ⟨some 64, .ext (.t 60) 1, none⟩, ⟨some 10, .mv (.t 63), none⟩, ⟨some 11, .mv (.t 64), none⟩]) (.seq (.seq (.reg [⟨some 65, .mv (.t 1), none⟩, ⟨some 66, .lenS (.t 65), none⟩, ⟨some 67, .bin .gtr (.t 66) (.c (.int .i64 4000)), none⟩]) (.cond (.t 67) (.seq (.reg [⟨some 68, .pcall 10 [], none⟩, ⟨some 69, .mv (.t 68), none⟩, ⟨some 70, .mv (.t 6), some (69, true)⟩, ⟨some 71, .mv (.t 10), some (69, true)⟩, ⟨some 72, .bin .eql (.t 70) (.t 71), some (69, true)⟩, ⟨some 73, .pick (.t 69) (.t 72) (.c (.bool false)), none⟩, ⟨some 74, .mv (.t 73), none⟩, ⟨some 75, .mv (.t 7), some (74, true)⟩, ⟨some 76, .mv (.t 11), some (74, true)⟩, ⟨some 77, .bin .eql (.t 75) (.t 76), some (74, true)⟩, ⟨some 78, .pick (.t 74) (.t 77) (.c (.bool false)), none⟩, ⟨some 79, .mv (.t 78), none⟩, ⟨some 80, .mv (.t 9), some (79, true)⟩, ⟨some 81, .bin .eql (.t 80) (.c (.int .i64 2)), some (79, true)⟩, ⟨some 82, .pick (.t 79) (.t 81) (.c (.bool false)), none⟩, ⟨some 83, .mv (.t 82), none⟩, ⟨some 84, .mv (.t 8), some (83, true)⟩, ⟨some 85, .len (.t 84), some (83, true)⟩, ⟨some 86, .bin .eql (.t 85) (.c (.int .i64 0)), some (83, true)⟩, ⟨some 87, .pick (.t 83) (.t 86) (.c (.bool false)), none⟩, ⟨some 4, .mv (.t 87), none⟩]) .ret) .skip)) (.seq (.reg [⟨some 88, .mv (.t 1), none⟩, ⟨some 89, .pcall 6 [.t 88, .c (.int .i64 600)], none⟩, ⟨some 1, .mv (.t 89), none⟩]) (.seq (.reg [⟨some 91, .mv (.t 1), none⟩, ⟨some 92, .pcall 8 [.t 91], none⟩, ⟨some 90, .mv (.t 92), none⟩, ⟨some 93, .ext (.t 90) 0, none⟩, ⟨some 94, .ext (.t 90) 1, none⟩, ⟨some 8, .mv (.t 93), none⟩, ⟨some 9, .mv (.t 94), none⟩]) (.seq (.reg [⟨some 96, .mv (.t 1), none⟩, ⟨some 97, .pcall 11 [.t 96], none⟩, ⟨some 95, .mv (.t 97), none⟩, ⟨some 98, .ext (.t 95) 0, none⟩, ⟨some 99, .ext (.t 95) 1, none⟩, ⟨some 12, .mv (.t 98), none⟩, ⟨some 13, .mv (.t 99), none⟩]) (.seq (.reg [⟨some 100, .pcall 10 [], none⟩, ⟨some 101, .mv (.t 100), none⟩, ⟨some 102, .mv (.t 6), some (101, true)⟩, ⟨some 103, .mv (.t 10), some (101, true)⟩, ⟨some 104, .bin .eql (.t 102) (.t 103), some (101, true)⟩, ⟨some 105, .pick (.t 101) (.t 104) (.c (.bool false)), none⟩, ⟨some 106, .mv (.t 105), none⟩, ⟨some 107, .mv (.t 7), some (106, true)⟩, ⟨some 108, .mv (.t 11), some (106, true)⟩, ⟨some 109, .bin .eql (.t 107) (.t 108), some (106, true)⟩, ⟨some 110, .pick (.t 106) (.t 109) (.c (.bool false)), none⟩, ⟨some 111, .mv (.t 110), none⟩, ⟨some 112, .mv (.t 8), some (111, true)⟩, ⟨some 113, .mv (.t 12), some (111, true)⟩, ⟨some 114, .pcall 12 [.t 112, .t 113], some (111, true)⟩, ⟨some 115, .pick (.t 111) (.t 114) (.c (.bool false)), none⟩, ⟨some 116, .mv (.t 115), none⟩, ⟨some 117, .mv (.t 9), some (116, true)⟩, ⟨some 118, .mv (.t 13), some (116, true)⟩, ⟨some 119, .bin .eql (.t 117) (.t 118), some (116, true)⟩, ⟨some 120, .pick (.t 116) (.t 119) (.c (.bool false)), none⟩, ⟨some 4, .mv (.t 120), none⟩]) .ret)))))))))), [.tmp 4]⟩
end Go.Proofs.K
end
section
set_option linter.unusedSimpArgs false
set_option linter.unusedVariables false
namespace Go.Proofs.K
open Go Go.Sim Go.Proofs
variable {d : HDoc}
def ctlE (d : HDoc) (n : Int) (nm : List UInt8) : Int := if docE d ≠ 0 then docE d else if ¬ inD d n then 1 else if (nd d n).kind ≠ 2 ∨ inW (nd d n).name nm = false then 7 else if 0 ∈ chain d n then 0 else 5
def ownM (d : HDoc) (o : List Int) (n : Int) : Int :=
  if hasA d n [102, 111, 114, 109] = false then abM d (isN d [102, 111, 114, 109]) n
  else match o.find? (fun k => hasA d k [105, 100] && attD d k [105, 100] == attD d n [102, 111, 114, 109]) with
  | some k => if isN d [102, 111, 114, 109] k = true then k else -1
  | none => -1
def tickM (k : List UInt8) : Bool := k == [99, 104, 101, 99, 107, 98, 111, 120] || k == [114, 97, 100, 105, 111]
def kindM (d : HDoc) (n : Int) : List UInt8 := if (nd d n).name = [105, 110, 112, 117, 116] then typM (attD d n [116, 121, 112, 101]) else (nd d n).name
def optV (d : HDoc) (k : Int) : List UInt8 := if hasA d k [118, 97, 108, 117, 101] = true then attD d k [118, 97, 108, 117, 101] else lettersM d (below d k)
def belO (d : HDoc) (nm : List UInt8) (n : Int) : List Int := ((below d n).drop 1).filter (isN d nm)
def chosM (d : HDoc) (n : Int) : List Int :=
  if (belO d [111, 112, 116, 105, 111, 110] n).filter (fun k => hasA d k [115, 101, 108, 101, 99, 116, 101, 100]) ≠ [] ∨ hasA d n [109, 117, 108, 116, 105, 112, 108, 101] = true then (belO d [111, 112, 116, 105, 111, 110] n).filter (fun k => hasA d k [115, 101, 108, 101, 99, 116, 101, 100])
  else ((belO d [111, 112, 116, 105, 111, 110] n).filter fun k => !hasA d k [100, 105, 115, 97, 98, 108, 101, 100]).take 1
def valM (d : HDoc) (n : Int) : List UInt8 :=
  if (nd d n).name = [116, 101, 120, 116, 97, 114, 101, 97] then lettersM d (below d n)
  else if (nd d n).name = [115, 101, 108, 101, 99, 116] then (if chosM d n = [] then [] else optV d (nth (chosM d n) ((chosM d n).length - 1)))
  else if tickM (kindM d n) = true ∧ hasA d n [118, 97, 108, 117, 101] = false then [111, 110] else attD d n [118, 97, 108, 117, 101]
def offM (d : HDoc) (k : Int) : Bool := isN d [102, 105, 101, 108, 100, 115, 101, 116] k && hasA d k [100, 105, 115, 97, 98, 108, 101, 100]
def toldM (d : HDoc) (n : Int) : Bool :=
  !(attD d n [110, 97, 109, 101] == [] || (hasA d n [100, 105, 115, 97, 98, 108, 101, 100] || decide (0 ≤ abM d (offM d) n))) && (!(inW (kindM d n) subS) && (!tickM (kindM d n) || hasA d n [99, 104, 101, 99, 107, 101, 100]))
def entsOf (d : HDoc) (n : Int) : List HEnt :=
  if (nd d n).name = [115, 101, 108, 101, 99, 116] then ((if hasA d n [109, 117, 108, 116, 105, 112, 108, 101] = true then chosM d n else (chosM d n).drop ((chosM d n).length - 1)).map fun k => ⟨attD d n [110, 97, 109, 101], optV d k⟩)
  else [⟨attD d n [110, 97, 109, 101], valM d n⟩]
def tellM (d : HDoc) (f n : Int) : Bool := inW (nd d n).name ctlS && (ownM d (below d 0) n == f && toldM d n)
def radM (d : HDoc) (n : Int) : Bool := kindM d n == [114, 97, 100, 105, 111]
def lateM (d : HDoc) (f : Int) (r : List Int) (n : Int) : Bool := radM d n && r.any fun k => tellM d f k && (radM d k && attD d k [110, 97, 109, 101] == attD d n [110, 97, 109, 101])
def entL (d : HDoc) (f : Int) : List Int → List HEnt
  | [] => []
  | n :: r => (if tellM d f n = true ∧ lateM d f r n = false then entsOf d n else []) ++ entL d f r
theorem attD_len (V : DV d) {n : Int} (hn : inD d n) (nm : List UInt8) : (attD d n nm).length ≤ 400 := by
  have h := V.node n hn
  unfold nodeE at h
  have ha : attrsE (nd d n).attrs = 0 := by
    by_cases h1 : (nd d n).kind < 1 ∨ 5 < (nd d n).kind ∨ bareM (nd d n) = false
    · rw [if_pos h1] at h; omega
    · rw [if_neg h1] at h
      by_cases h2 : (nd d n).kind = 2 ∧ nameOK true (nd d n).name = false
      · rw [if_pos h2] at h; omega
      · rw [if_neg h2] at h
        by_cases h3 : attrsE (nd d n).attrs = 0
        · exact h3
        · rw [if_pos h3] at h; exact absurd h h3
  unfold attD attV
  split
  · rename_i h0
    have hb := (attrAt_spec (nd d n).attrs nm h0).1
    unfold attrsE at ha
    split at ha
    · omega
    have hE := fe_zero ha _ hb
    unfold attrE at hE
    split at hE
    · omega
    split at hE
    · omega
    · omega
  · simp
theorem name_len (V : DV d) {n : Int} (hn : inD d n) : (nd d n).name.length ≤ 400 := by
  have h := V.node n hn
  unfold nodeE at h
  repeat' split at h
  all_goals omega
theorem lett_len (V : DV d) {n : Int} (hn : inD d n) : (lettersM d (below d n)).length ≤ 80000 := by
  have h1 := letters_len V (below d n) (below_in V n hn)
  have h2 := below_len V hn
  have h3 := V.len
  have : 400 * (below d n).length ≤ 400 * 200 := Nat.mul_le_mul_left _ (by omega)
  omega
theorem belO_in (V : DV d) {n : Int} (hn : inD d n) {nm : List UInt8} : ∀ k ∈ belO d nm n, inD d k := fun k hk =>
  below_in V n hn k (List.mem_of_mem_drop (List.mem_filter.1 hk).1)
theorem belO_len (V : DV d) {n : Int} (hn : inD d n) {nm : List UInt8} : (belO d nm n).length ≤ 200 := by
  have h1 := below_len V hn
  have h2 := V.len
  have h3 := List.length_filter_le (isN d nm) ((below d n).drop 1)
  rw [List.length_drop] at h3
  unfold belO; omega
theorem chosM_in (V : DV d) {n : Int} (hn : inD d n) : ∀ k ∈ chosM d n, inD d k := fun k hk => by
  unfold chosM at hk
  split at hk
  · exact belO_in V hn k (List.mem_filter.1 hk).1
  · exact belO_in V hn k (List.mem_filter.1 (List.mem_of_mem_take hk)).1
theorem chosM_len (V : DV d) {n : Int} (hn : inD d n) : (chosM d n).length ≤ 200 := by
  have h := belO_len V hn (nm := [111, 112, 116, 105, 111, 110])
  unfold chosM
  split
  · exact Nat.le_trans (List.length_filter_le _ _) h
  · rw [List.length_take]; have := List.length_filter_le (fun k => !hasA d k [100, 105, 115, 97, 98, 108, 101, 100]) (belO d [111, 112, 116, 105, 111, 110] n); omega
theorem entsOf_len (V : DV d) {n : Int} (hn : inD d n) : (entsOf d n).length ≤ 200 := by
  have h := chosM_len V hn
  unfold entsOf
  split
  · rw [List.length_map]
    split
    · exact h
    · rw [List.length_drop]; omega
  · simp
theorem entL_len (V : DV d) (f : Int) : ∀ l : List Int, (∀ k ∈ l, inD d k) → (entL d f l).length ≤ 200 * l.length
  | [], _ => by simp [entL]
  | n :: r, h => by
    have h1 := entL_len V f r fun k hk => h k (List.mem_cons_of_mem _ hk)
    have h2 := entsOf_len V (h n List.mem_cons_self)
    rw [entL, List.length_append, List.length_cons]
    split <;> simp <;> omega
theorem attrs_el (V : DV d) {n : Int} (hn : inD d n) (h : (nd d n).attrs ≠ []) : (nd d n).kind = 2 := by
  have h1 := V.node n hn
  unfold nodeE at h1
  split at h1
  · omega
  · rename_i h2
    have hb : bareM (nd d n) = true := by
      cases hq : bareM (nd d n)
      · exact absurd (.inr (.inr hq)) h2
      · rfl
    unfold bareM at hb
    simp only [Bool.and_eq_true, Bool.or_eq_true, decide_eq_true_eq] at hb
    rcases hb.1.1.2 with h3 | h3
    · exact h3
    · exact absurd h3 h
theorem has_el (V : DV d) {n : Int} (hn : inD d n) {nm : List UInt8} (h : hasA d n nm = true) : (nd d n).kind = 2 := by
  refine attrs_el V hn fun h0 => ?_
  unfold hasA at h
  rw [h0] at h
  simp [attrAt, idxM] at h
theorem att_el (V : DV d) {n : Int} (hn : inD d n) {nm : List UInt8} (h : attD d n nm ≠ []) : (nd d n).kind = 2 := by
  by_cases h1 : hasA d n nm = true
  · exact has_el V hn h1
  · refine absurd ?_ h
    unfold hasA at h1
    unfold attD attV
    exact if_neg (by simpa using h1)
end Go.Proofs.K
end
section
set_option linter.unusedSimpArgs false
set_option linter.unusedVariables false
namespace Go.Proofs.K
open Go Go.Sim Go.Proofs
variable {G : Glob}
theorem attrOf_att (l : List HAttr) (nm : List UInt8) : (attrOfM l nm).1 = attV l nm := by
  unfold attrOfM attV; split <;> rfl
def c49 : SFun := ⟨.seq (.reg [⟨some 3, .boxF 36 2 (.t 0), none⟩, ⟨some 6, .mv (.c (.bool false)), none⟩]) (.seq (.reg [⟨some 10, .fldA 0 (.t 3), none⟩, ⟨some 11, .ld 1 false (.t 10), none⟩, ⟨some 12, .mv (.t 1), none⟩, ⟨some 13, .idxA 6 (.t 11) (.t 12), none⟩, ⟨some 14, .fldA 2 (.t 13), none⟩, ⟨some 15, .ld 1 false (.t 14), none⟩, ⟨some 16, .mv (.t 2), none⟩, ⟨some 17, .pcall 90 [.t 15, .t 16], none⟩, ⟨some 9, .mv (.t 17), none⟩, ⟨some 18, .ext (.t 9) 0, none⟩, ⟨some 19, .ext (.t 9) 1, none⟩, ⟨some 7, .mv (.t 18), none⟩, ⟨some 8, .mv (.t 19), none⟩]) (.seq (.reg [⟨some 20, .mv (.t 8), none⟩, ⟨some 6, .mv (.t 20), none⟩]) .ret)), [.tmp 6]⟩
theorem hc49 : toSF Tryz.prog {pure := [90]} Tryz.f49 = some c49 := by kernel_rfl
theorem hn49 : (Tryz.f49.name == "runtime.NumGoroutine") = false := by kernel_rfl
theorem rhas_ok (d : HDoc) (sm : DocSm d) (n : Int) (hn : inD d n) (nm : List UInt8) : PCalls (Pg G) 49 [.agg (eDoc d), aInt n, .str nm] (.bool (hasA d n nm)) := fun h => by
  have hl := sm.len
  have n0 := hn.1
  have n1 := hn.2
  have e0 : nth d.nodes n.toNat = nd d n := rfl
  have c1 := attrOf_ok (G := G) (nd d n).attrs nm (sm.nd n).attrs
  rw [attrOf_has] at c1
  refine dcalls_of_vc Tryz.func49 hn49 hc49 (by rw [Tryz.ntmps49]; simp) (by rw [Tryz.ntmps49]; decide) ?_
  simp -dsimp -implicitDefEqProofs (disch := omega) only [VCA, Nat.reduceEqDiff, Nat.reduceAdd, Nat.reduceLeDiff, ↓reduceIte, c49, eDoc, eNode, e0]
  repeat' (first | ((with_reducible refine brC (fun _ => ?_) fun _ => ?_) <;> try (exfalso; omega)) | (with_reducible apply pcallE.of; · exact c1) | (with_reducible refine And.intro ?_ ?_; · omega) | simp -dsimp -implicitDefEqProofs (disch := omega) only [VCA, Nat.reduceEqDiff, Nat.reduceAdd, Nat.reduceLT, ↓reduceIte, exists_eq_right_right])
  all_goals first | exact ⟨by omega, Sub.refl _, rfl⟩ | exact ⟨Sub.refl _, rfl⟩ | exact Sub.refl _ | trace_state
def c46 : SFun := ⟨.seq (.reg [⟨some 3, .boxF 36 2 (.t 0), none⟩, ⟨some 6, .mv (.c (.str [])), none⟩]) (.seq (.reg [⟨some 10, .fldA 0 (.t 3), none⟩, ⟨some 11, .ld 1 false (.t 10), none⟩, ⟨some 12, .mv (.t 1), none⟩, ⟨some 13, .idxA 6 (.t 11) (.t 12), none⟩, ⟨some 14, .fldA 2 (.t 13), none⟩, ⟨some 15, .ld 1 false (.t 14), none⟩, ⟨some 16, .mv (.t 2), none⟩, ⟨some 17, .pcall 90 [.t 15, .t 16], none⟩, ⟨some 9, .mv (.t 17), none⟩, ⟨some 18, .ext (.t 9) 0, none⟩, ⟨some 19, .ext (.t 9) 1, none⟩, ⟨some 7, .mv (.t 18), none⟩, ⟨some 8, .mv (.t 19), none⟩]) (.seq (.reg [⟨some 20, .mv (.t 7), none⟩, ⟨some 6, .mv (.t 20), none⟩]) .ret)), [.tmp 6]⟩
theorem hc46 : toSF Tryz.prog {pure := [90]} Tryz.f46 = some c46 := by kernel_rfl
theorem hn46 : (Tryz.f46.name == "runtime.NumGoroutine") = false := by kernel_rfl
theorem ratt_ok (d : HDoc) (sm : DocSm d) (n : Int) (hn : inD d n) (nm : List UInt8) : PCalls (Pg G) 46 [.agg (eDoc d), aInt n, .str nm] (.str (attD d n nm)) := fun h => by
  have hl := sm.len
  have n0 := hn.1
  have n1 := hn.2
  have e0 : nth d.nodes n.toNat = nd d n := rfl
  have c1 := attrOf_ok (G := G) (nd d n).attrs nm (sm.nd n).attrs
  rw [attrOf_att] at c1
  refine dcalls_of_vc Tryz.func46 hn46 hc46 (by rw [Tryz.ntmps46]; simp) (by rw [Tryz.ntmps46]; decide) ?_
  simp -dsimp -implicitDefEqProofs (disch := omega) only [VCA, Nat.reduceEqDiff, Nat.reduceAdd, Nat.reduceLeDiff, ↓reduceIte, c46, eDoc, eNode, e0]
  repeat' (first | ((with_reducible refine brC (fun _ => ?_) fun _ => ?_) <;> try (exfalso; omega)) | (with_reducible apply pcallE.of; · exact c1) | (with_reducible refine And.intro ?_ ?_; · omega) | simp -dsimp -implicitDefEqProofs (disch := omega) only [VCA, Nat.reduceEqDiff, Nat.reduceAdd, Nat.reduceLT, ↓reduceIte, exists_eq_right_right])
  all_goals first | exact ⟨by omega, Sub.refl _, rfl⟩ | exact ⟨Sub.refl _, rfl⟩ | exact Sub.refl _ | trace_state
def k42_1 : List UInt8 := [105, 110, 112, 117, 116, 32, 116, 101, 120, 116, 97, 114, 101, 97, 32, 115, 101, 108, 101, 99, 116, 32, 98, 117, 116, 116, 111, 110]
def c42 : SFun := ⟨.seq (.reg [⟨some 2, .boxF 36 2 (.t 0), none⟩, ⟨some 4, .mv (.c (.bool false)), none⟩]) (.seq (.reg [⟨some 5, .fldA 0 (.t 2), none⟩, ⟨some 6, .ld 1 false (.t 5), none⟩, ⟨some 7, .mv (.t 1), none⟩, ⟨some 8, .idxA 6 (.t 6) (.t 7), none⟩, ⟨some 9, .fldA 0 (.t 8), none⟩, ⟨some 10, .ld 1 false (.t 9), none⟩, ⟨some 11, .bin .eql (.t 10) (.c (.int .i64 2)), none⟩, ⟨some 12, .mv (.t 11), none⟩, ⟨some 13, .fldA 0 (.t 2), some (12, true)⟩, ⟨some 14, .ld 1 false (.t 13), some (12, true)⟩, ⟨some 15, .mv (.t 1), some (12, true)⟩, ⟨some 16, .idxA 6 (.t 14) (.t 15), some (12, true)⟩, ⟨some 17, .fldA 1 (.t 16), some (12, true)⟩, ⟨some 18, .ld 1 false (.t 17), some (12, true)⟩, ⟨some 19, .pcall 59 [.t 18, .c (.str k42_1)], some (12, true)⟩, ⟨some 20, .pick (.t 12) (.t 19) (.c (.bool false)), none⟩, ⟨some 4, .mv (.t 20), none⟩]) .ret), [.tmp 4]⟩
theorem hc42 : toSF Tryz.prog {pure := [59]} Tryz.f42 = some c42 := by kernel_rfl
theorem hn42 : (Tryz.f42.name == "runtime.NumGoroutine") = false := by kernel_rfl
theorem isCtl_ok (d : HDoc) (sm : DocSm d) (n : Int) (hn : inD d n) : PCalls (Pg G) 42 [.agg (eDoc d), aInt n] (.bool ((nd d n).kind == 2 && inW (nd d n).name ctlS)) := fun h => by
  have hl := sm.len
  have n0 := hn.1
  have n1 := hn.2
  have e0 : nth d.nodes n.toNat = nd d n := rfl
  have c1 : PCalls (Pg G) 59 [.str (nd d n).name, .str ctlS] (.bool (inW (nd d n).name ctlS)) := wordW_ok (G := G) (nd d n).name ctlS (by decide)
  have ek : k42_1 = ctlS := by decide +kernel
  obtain ⟨b, hb⟩ : ∃ b, ((nd d n).kind == 2) = b := ⟨_, rfl⟩
  rw [hb]
  cases b
  · refine dcalls_of_vc Tryz.func42 hn42 hc42 (by rw [Tryz.ntmps42]; simp) (by rw [Tryz.ntmps42]; decide) ?_
    simp -dsimp -implicitDefEqProofs (disch := omega) only [↓vcOps_sp 12, VCA, Nat.reduceEqDiff, Nat.reduceAdd, Nat.reduceLeDiff, ↓reduceIte, exists_eq_right_right, c42, eDoc, eNode, e0, hb]
    repeat' (first | ((with_reducible refine brC (fun _ => ?_) fun _ => ?_) <;> try (exfalso; omega)) | (with_reducible refine And.intro ?_ ?_; · omega) | simp -dsimp -implicitDefEqProofs (disch := omega) only [↓vcOps_sp 12, ↓vcD_sp 12, VCA, pg_gl, ↓upd_none, Nat.reduceEqDiff, Nat.reduceBEq, Nat.reduceAdd, Nat.reduceSub, Nat.reduceMul, Nat.reduceLT, Nat.reduceLeDiff, ↓reduceIte, reduceCtorEq, rsOf, rootsOf, SOp.rd, SI.rd, SX.rd, rdL, rdO, rdP, okParts, eqCells, okEqCells, fillA, okFill, setAt, implies_true, forall_const, forall_eq, ne_eq, exists_eq_right_right, exists_eq_right, exists_eq_left, exists_eq_left', rootL, eInt, eStr, eAttr, lit_eq, eDoc, eNode, e0, hb, ek])
    all_goals first | exact ⟨by omega, Sub.refl _⟩ | exact Sub.refl _ | exact ⟨Sub.refl _, rfl⟩ | trace_state
  · refine dcalls_of_vc Tryz.func42 hn42 hc42 (by rw [Tryz.ntmps42]; simp) (by rw [Tryz.ntmps42]; decide) ?_
    simp -dsimp -implicitDefEqProofs (disch := omega) only [↓vcOps_sp 12, VCA, Nat.reduceEqDiff, Nat.reduceAdd, Nat.reduceLeDiff, ↓reduceIte, c42, eDoc, eNode, e0, hb]
    repeat' (first | ((with_reducible refine brC (fun _ => ?_) fun _ => ?_) <;> try (exfalso; omega)) | (with_reducible apply pcallE.of; · exact c1) | (with_reducible refine And.intro ?_ ?_; · omega) | simp -dsimp -implicitDefEqProofs (disch := omega) only [VCA, Nat.reduceEqDiff, ↓reduceIte, exists_eq_right_right, ek])
    all_goals first | exact ⟨by omega, Sub.refl _⟩ | exact Sub.refl _ | exact ⟨Sub.refl _, rfl⟩ | trace_state
theorem inW_form (nm : List UInt8) : inW nm [102, 111, 114, 109] = (nm == [102, 111, 114, 109]) := by
  have e : splitB 32 [] [102, 111, 114, 109] = [[102, 111, 114, 109]] := by decide
  unfold inW
  rw [e, List.any_cons, List.any_nil, Bool.or_false]
  rw [Bool.eq_iff_iff, beq_iff_eq, beq_iff_eq]
  exact eq_comm
def c15 : SFun := ⟨.seq (.reg [⟨some 3, .boxF 36 2 (.t 0), none⟩, ⟨some 6, .mv (.c (.int .i64 0)), none⟩]) (.seq (.reg [⟨some 8, .ld 2 true (.t 3), none⟩, ⟨some 9, .pcall 40 [.t 8], none⟩, ⟨some 7, .mv (.t 9), none⟩]) (.seq (.seq (.reg [⟨some 10, .mv (.t 7), none⟩, ⟨some 11, .bin .eql (.t 10) (.c (.int .i64 0)), none⟩, ⟨some 12, .mv (.t 11), none⟩, ⟨some 13, .mv (.t 1), some (12, true)⟩, ⟨some 14, .fldA 0 (.t 3), some (12, true)⟩, ⟨some 15, .ld 1 false (.t 14), some (12, true)⟩, ⟨some 16, .len (.t 15), some (12, true)⟩, ⟨some 17, .bin .sub (.t 16) (.c (.int .i64 1)), some (12, true)⟩, ⟨some 18, .pcall 41 [.t 13, .c (.int .i64 0), .t 17], some (12, true)⟩, ⟨some 19, .un .not (.t 18), some (12, true)⟩, ⟨some 20, .pick (.t 12) (.t 19) (.c (.bool false)), none⟩]) (.cond (.t 20) (.reg [⟨some 7, .mv (.c (.int .i64 1)), none⟩]) .skip)) (.seq (.seq (.reg [⟨some 21, .mv (.t 7), none⟩, ⟨some 22, .bin .eql (.t 21) (.c (.int .i64 0)), none⟩, ⟨some 23, .mv (.t 22), none⟩, ⟨some 24, .mv (.t 2), some (23, true)⟩, ⟨some 25, .mv (.t 24), some (23, true)⟩, ⟨some 26, .fldA 0 (.t 3), some (25, true)⟩, ⟨some 27, .ld 1 false (.t 26), some (25, true)⟩, ⟨some 28, .mv (.t 1), some (25, true)⟩, ⟨some 29, .idxA 6 (.t 27) (.t 28), some (25, true)⟩, ⟨some 30, .fldA 1 (.t 29), some (25, true)⟩, ⟨some 31, .ld 1 false (.t 30), some (25, true)⟩, ⟨some 32, .bin .neq (.t 31) (.c (.str [102, 111, 114, 109])), some (25, true)⟩, ⟨some 33, .pick (.t 25) (.t 32) (.c (.bool false)), some (23, true)⟩, ⟨some 34, .mv (.t 33), some (23, true)⟩, ⟨some 35, .mv (.t 2), some (34, false)⟩, ⟨some 36, .un .not (.t 35), some (34, false)⟩, ⟨some 37, .mv (.t 36), some (34, false)⟩, ⟨some 38, .ld 2 true (.t 3), some (37, true)⟩, ⟨some 39, .mv (.t 1), some (37, true)⟩, ⟨some 40, .pcall 42 [.t 38, .t 39], some (37, true)⟩, ⟨some 41, .un .not (.t 40), some (37, true)⟩, ⟨some 42, .pick (.t 37) (.t 41) (.c (.bool false)), some (34, false)⟩, ⟨some 43, .pick (.t 34) (.c (.bool true)) (.t 42), some (23, true)⟩, ⟨some 44, .pick (.t 23) (.t 43) (.c (.bool false)), none⟩]) (.cond (.t 44) (.reg [⟨some 7, .mv (.c (.int .i64 7)), none⟩]) .skip)) (.seq (.seq (.reg [⟨some 45, .mv (.t 7), none⟩, ⟨some 46, .bin .eql (.t 45) (.c (.int .i64 0)), none⟩, ⟨some 47, .mv (.t 46), none⟩, ⟨some 48, .mv (.t 2), some (47, true)⟩, ⟨some 49, .mv (.t 48), some (47, true)⟩, ⟨some 50, .fldA 0 (.t 3), some (49, true)⟩, ⟨some 51, .ld 1 false (.t 50), some (49, true)⟩, ⟨some 52, .mv (.t 1), some (49, true)⟩, ⟨some 53, .idxA 6 (.t 51) (.t 52), some (49, true)⟩, ⟨some 54, .fldA 0 (.t 53), some (49, true)⟩, ⟨some 55, .ld 1 false (.t 54), some (49, true)⟩, ⟨some 56, .bin .neq (.t 55) (.c (.int .i64 2)), some (49, true)⟩, ⟨some 57, .pick (.t 49) (.t 56) (.c (.bool false)), some (47, true)⟩, ⟨some 58, .pick (.t 47) (.t 57) (.c (.bool false)), none⟩]) (.cond (.t 58) (.reg [⟨some 7, .mv (.c (.int .i64 7)), none⟩]) .skip)) (.seq (.seq (.reg [⟨some 59, .mv (.t 7), none⟩, ⟨some 60, .bin .eql (.t 59) (.c (.int .i64 0)), none⟩, ⟨some 61, .mv (.t 60), none⟩, ⟨some 62, .ld 2 true (.t 3), some (61, true)⟩, ⟨some 63, .mv (.t 1), some (61, true)⟩, ⟨some 64, .pcall 43 [.t 62, .t 63, .c (.int .i64 0)], some (61, true)⟩, ⟨some 65, .un .not (.t 64), some (61, true)⟩, ⟨some 66, .pick (.t 61) (.t 65) (.c (.bool false)), none⟩]) (.cond (.t 66) (.reg [⟨some 7, .mv (.c (.int .i64 5)), none⟩]) .skip)) (.seq (.reg [⟨some 67, .mv (.t 7), none⟩, ⟨some 6, .mv (.t 67), none⟩]) .ret)))))), [.tmp 6]⟩
theorem hc15 : toSF Tryz.prog {pure := [40, 41, 42, 43]} Tryz.f15 = some c15 := by kernel_rfl
theorem hn15 : (Tryz.f15.name == "runtime.NumGoroutine") = false := by kernel_rfl
set_option maxHeartbeats 2000000 in
set_option maxRecDepth 10000 in
theorem formErr_ok (d : HDoc) (sm : DocSm d) (n : Int) (fm : Bool) : PCalls (Pg G) 15 [.agg (eDoc d), aInt n, .bool fm] (aInt (ctlE d n (if fm = true then [102, 111, 114, 109] else ctlS))) := fun h => by
  have hl := sm.len
  have cD := docErr_ok (G := G) d sm
  have z0 : ((0 : Int) == 0) = true := rfl
  have z1 : ((1 : Int) == 0) = false := rfl
  have z7 : ((7 : Int) == 0) = false := rfl
  by_cases h0 : docE d = 0
  · have V := docE_DV h0
    rw [h0] at cD
    by_cases hn : inD d n
    · have n0 := hn.1
      have n1 := hn.2
      have e0 : nth d.nodes n.toNat = nd d n := rfl
      have cB : PCalls (Pg G) 41 [aInt n, .int .i64 0, .int .i64 ((d.nodes.length : Int) - 1)] (.bool true) := by
        have h := betw_ok (G := G) n 0 ((d.nodes.length : Int) - 1)
        rwa [decide_eq_true n0, decide_eq_true (show n ≤ (d.nodes.length : Int) - 1 by omega)] at h
      have cC := isCtl_ok (G := G) d sm n hn
      have cU := under_ok (G := G) d V n 0 hn (Int.le_refl 0)
      have hE : ∀ nm, ctlE d n nm = if (nd d n).kind ≠ 2 ∨ inW (nd d n).name nm = false then 7 else if 0 ∈ chain d n then 0 else 5 := fun nm => by
        unfold ctlE; rw [if_neg (by simpa using h0), if_neg (by simpa using hn)]
      have cU : PCalls (Pg G) 43 [.agg (eDoc d), aInt n, .int .i64 0] (.bool (decide (0 ∈ chain d n))) := cU
      have hE : ∀ nm, ctlE d n nm = if (nd d n).kind ≠ 2 ∨ inW (nd d n).name nm = false then 7 else if decide ((0 : Int) ∈ chain d n) = true then 0 else 5 := fun nm => by rw [hE]; simp
      generalize decide ((0 : Int) ∈ chain d n) = bu at *
      unfold eDoc at cD cC cU
      cases fm
      · show DCalls _ _ _ h (fun r h' => r = aInt (ctlE d n ctlS) ∧ h' = h)
        by_cases hk : (nd d n).kind = 2 ∧ inW (nd d n).name ctlS = true
        · have hb : ((nd d n).kind == 2 && inW (nd d n).name ctlS) = true := by rw [hk.2]; simp [hk.1]
          rw [hb] at cC
          have hv : ctlE d n ctlS = if bu = true then 0 else 5 := by rw [hE]; simp [hk.1, hk.2]
          rw [hv]
          cases bu
          all_goals
            refine dcalls_of_vc Tryz.func15 hn15 hc15 (by rw [Tryz.ntmps15]; simp) (by rw [Tryz.ntmps15]; decide) ?_
            simp -dsimp -implicitDefEqProofs (disch := omega) only [VCA, Nat.reduceEqDiff, Nat.reduceAdd, ↓reduceIte, c15, eDoc]
            repeat' (first | ((with_reducible refine brC (fun _ => ?_) fun _ => ?_) <;> try (exfalso; omega)) | (with_reducible apply pcallE.of; · exact cD) | (with_reducible apply pcallE.of; · exact cB) | (with_reducible apply pcallE.of; · exact cC) | (with_reducible apply pcallE.of; · exact cU) | (with_reducible refine And.intro ?_ ?_; · omega) | simp -dsimp -implicitDefEqProofs (disch := omega) only [↓vcOps_sp 12, ↓vcOps_sp 23, ↓vcOps_sp 25, ↓vcOps_sp 34, ↓vcOps_sp 37, ↓vcOps_sp 47, ↓vcOps_sp 49, ↓vcOps_sp 61, VCA, Nat.reduceEqDiff, Nat.reduceAdd, Nat.reduceLeDiff, ↓reduceIte, exists_eq_right, z0])
          all_goals first | exact Sub.refl _ | exact ⟨Sub.refl _, rfl⟩ | trace_state
        · have hb : ((nd d n).kind == 2 && inW (nd d n).name ctlS) = false := by
            cases hw : inW (nd d n).name ctlS
            · rw [Bool.and_false]
            · rw [Bool.and_true]; simp only [hw, and_true] at hk; simpa using hk
          rw [hb] at cC
          have hv : ctlE d n ctlS = 7 := by
            rw [hE]
            by_cases h2 : (nd d n).kind = 2
            · cases hw : inW (nd d n).name ctlS
              · simp
              · exact absurd ⟨h2, hw⟩ hk
            · simp [h2]
          rw [hv]
          refine dcalls_of_vc Tryz.func15 hn15 hc15 (by rw [Tryz.ntmps15]; simp) (by rw [Tryz.ntmps15]; decide) ?_
          simp -dsimp -implicitDefEqProofs (disch := omega) only [VCA, Nat.reduceEqDiff, Nat.reduceAdd, ↓reduceIte, c15, eDoc]
          repeat' (first | ((with_reducible refine brC (fun _ => ?_) fun _ => ?_) <;> try (exfalso; omega)) | (with_reducible apply pcallE.of; · exact cD) | (with_reducible apply pcallE.of; · exact cB) | (with_reducible apply pcallE.of; · exact cC) | (with_reducible refine And.intro ?_ ?_; · omega) | simp -dsimp -implicitDefEqProofs (disch := omega) only [↓vcOps_sp 12, ↓vcOps_sp 23, ↓vcOps_sp 25, ↓vcOps_sp 34, ↓vcOps_sp 37, ↓vcOps_sp 47, ↓vcOps_sp 49, ↓vcOps_sp 61, VCA, Nat.reduceEqDiff, Nat.reduceAdd, Nat.reduceLeDiff, ↓reduceIte, exists_eq_right, z0, z7])
          all_goals first | exact Sub.refl _ | exact ⟨Sub.refl _, rfl⟩ | trace_state
      · show DCalls _ _ _ h (fun r h' => r = aInt (ctlE d n [102, 111, 114, 109]) ∧ h' = h)
        by_cases hf : (nd d n).name = [102, 111, 114, 109]
        · have bf : ((nd d n).name != [102, 111, 114, 109]) = false := by simpa using hf
          by_cases hk : (nd d n).kind = 2
          · have bk : ((nd d n).kind != 2) = false := by simpa using hk
            have hv : ctlE d n [102, 111, 114, 109] = if bu = true then 0 else 5 := by rw [hE, inW_form]; simp [hf, hk]
            rw [hv]
            cases bu
            all_goals
              refine dcalls_of_vc Tryz.func15 hn15 hc15 (by rw [Tryz.ntmps15]; simp) (by rw [Tryz.ntmps15]; decide) ?_
              simp -dsimp -implicitDefEqProofs (disch := omega) only [VCA, Nat.reduceEqDiff, Nat.reduceAdd, ↓reduceIte, c15, eDoc]
              repeat' (first | ((with_reducible refine brC (fun _ => ?_) fun _ => ?_) <;> try (exfalso; omega)) | (with_reducible apply pcallE.of; · exact cD) | (with_reducible apply pcallE.of; · exact cB) | (with_reducible apply pcallE.of; · exact cU) | (with_reducible refine And.intro ?_ ?_; · omega) | simp -dsimp -implicitDefEqProofs (disch := omega) only [↓vcOps_sp 12, ↓vcOps_sp 23, ↓vcOps_sp 25, ↓vcOps_sp 34, ↓vcOps_sp 37, ↓vcOps_sp 47, ↓vcOps_sp 49, ↓vcOps_sp 61, VCA, Nat.reduceEqDiff, Nat.reduceAdd, Nat.reduceLeDiff, ↓reduceIte, exists_eq_right, eNode, e0, z0, bf, bk])
            all_goals first | exact Sub.refl _ | exact ⟨Sub.refl _, rfl⟩ | trace_state
          · have bk : ((nd d n).kind != 2) = true := by simpa using hk
            have hv : ctlE d n [102, 111, 114, 109] = 7 := by rw [hE]; simp [hk]
            rw [hv]
            refine dcalls_of_vc Tryz.func15 hn15 hc15 (by rw [Tryz.ntmps15]; simp) (by rw [Tryz.ntmps15]; decide) ?_
            simp -dsimp -implicitDefEqProofs (disch := omega) only [VCA, Nat.reduceEqDiff, Nat.reduceAdd, ↓reduceIte, c15, eDoc]
            repeat' (first | ((with_reducible refine brC (fun _ => ?_) fun _ => ?_) <;> try (exfalso; omega)) | (with_reducible apply pcallE.of; · exact cD) | (with_reducible apply pcallE.of; · exact cB) | (with_reducible refine And.intro ?_ ?_; · omega) | simp -dsimp -implicitDefEqProofs (disch := omega) only [↓vcOps_sp 12, ↓vcOps_sp 23, ↓vcOps_sp 25, ↓vcOps_sp 34, ↓vcOps_sp 37, ↓vcOps_sp 47, ↓vcOps_sp 49, ↓vcOps_sp 61, VCA, Nat.reduceEqDiff, Nat.reduceAdd, Nat.reduceLeDiff, ↓reduceIte, exists_eq_right, eNode, e0, z0, z7, bf, bk])
            all_goals first | exact Sub.refl _ | exact ⟨Sub.refl _, rfl⟩ | trace_state
        · have bf : ((nd d n).name != [102, 111, 114, 109]) = true := by simpa using hf
          have hv : ctlE d n [102, 111, 114, 109] = 7 := by rw [hE, inW_form]; simp [hf]
          rw [hv]
          refine dcalls_of_vc Tryz.func15 hn15 hc15 (by rw [Tryz.ntmps15]; simp) (by rw [Tryz.ntmps15]; decide) ?_
          simp -dsimp -implicitDefEqProofs (disch := omega) only [VCA, Nat.reduceEqDiff, Nat.reduceAdd, ↓reduceIte, c15, eDoc]
          repeat' (first | ((with_reducible refine brC (fun _ => ?_) fun _ => ?_) <;> try (exfalso; omega)) | (with_reducible apply pcallE.of; · exact cD) | (with_reducible apply pcallE.of; · exact cB) | (with_reducible refine And.intro ?_ ?_; · omega) | simp -dsimp -implicitDefEqProofs (disch := omega) only [↓vcOps_sp 12, ↓vcOps_sp 23, ↓vcOps_sp 25, ↓vcOps_sp 34, ↓vcOps_sp 37, ↓vcOps_sp 47, ↓vcOps_sp 49, ↓vcOps_sp 61, VCA, Nat.reduceEqDiff, Nat.reduceAdd, Nat.reduceLeDiff, ↓reduceIte, exists_eq_right, eNode, e0, z0, z7, bf])
          all_goals first | exact Sub.refl _ | exact ⟨Sub.refl _, rfl⟩ | trace_state
    · have hE : ∀ nm, ctlE d n nm = 1 := fun nm => by unfold ctlE; rw [if_neg (by simpa using h0), if_pos hn]
      rw [hE]
      have cB : PCalls (Pg G) 41 [aInt n, .int .i64 0, .int .i64 ((d.nodes.length : Int) - 1)] (.bool false) := by
        have h := betw_ok (G := G) n 0 ((d.nodes.length : Int) - 1)
        have hb : (decide (0 ≤ n) && decide (n ≤ (d.nodes.length : Int) - 1)) = false := by
          unfold inD at hn
          by_cases h1 : 0 ≤ n
          · rw [decide_eq_false (show ¬ n ≤ (d.nodes.length : Int) - 1 by omega), Bool.and_false]
          · rw [decide_eq_false h1, Bool.false_and]
        rwa [hb] at h
      unfold eDoc at cD
      cases fm
      all_goals
        refine dcalls_of_vc Tryz.func15 hn15 hc15 (by rw [Tryz.ntmps15]; simp) (by rw [Tryz.ntmps15]; decide) ?_
        simp -dsimp -implicitDefEqProofs (disch := omega) only [VCA, Nat.reduceEqDiff, Nat.reduceAdd, ↓reduceIte, c15, eDoc]
        repeat' (first | ((with_reducible refine brC (fun _ => ?_) fun _ => ?_) <;> try (exfalso; omega)) | (with_reducible apply pcallE.of; · exact cD) | (with_reducible apply pcallE.of; · exact cB) | (with_reducible refine And.intro ?_ ?_; · omega) | simp -dsimp -implicitDefEqProofs (disch := omega) only [↓vcOps_sp 12, ↓vcOps_sp 23, ↓vcOps_sp 25, ↓vcOps_sp 34, ↓vcOps_sp 37, ↓vcOps_sp 47, ↓vcOps_sp 49, ↓vcOps_sp 61, VCA, Nat.reduceEqDiff, Nat.reduceAdd, Nat.reduceLeDiff, ↓reduceIte, exists_eq_right, z0, z1])
      all_goals first | exact Sub.refl _ | exact ⟨Sub.refl _, rfl⟩ | trace_state
  · have hE : ∀ nm, ctlE d n nm = docE d := fun nm => if_pos h0
    rw [hE]
    generalize docE d = x at *
    have bx : (x == 0) = false := by simpa using h0
    unfold eDoc at cD
    cases fm
    all_goals
      refine dcalls_of_vc Tryz.func15 hn15 hc15 (by rw [Tryz.ntmps15]; simp) (by rw [Tryz.ntmps15]; decide) ?_
      simp -dsimp -implicitDefEqProofs (disch := omega) only [VCA, Nat.reduceEqDiff, Nat.reduceAdd, ↓reduceIte, c15, eDoc]
      repeat' (first | ((with_reducible refine brC (fun _ => ?_) fun _ => ?_) <;> try (exfalso; omega)) | (with_reducible apply pcallE.of; · exact cD) | (with_reducible refine And.intro ?_ ?_; · omega) | simp -dsimp -implicitDefEqProofs (disch := omega) only [↓vcOps_sp 12, ↓vcOps_sp 23, ↓vcOps_sp 25, ↓vcOps_sp 34, ↓vcOps_sp 37, ↓vcOps_sp 47, ↓vcOps_sp 49, ↓vcOps_sp 61, VCA, Nat.reduceEqDiff, ↓reduceIte, exists_eq_right, bx])
    all_goals first | exact Sub.refl _ | exact ⟨Sub.refl _, rfl⟩ | trace_state
end Go.Proofs.K
end
section
set_option linter.unusedSimpArgs false
set_option linter.unusedVariables false
namespace Go.Proofs.K
open Go Go.Sim Go.Proofs
variable {G : Glob}
def k47_1 : List UInt8 := [104, 105, 100, 100, 101, 110, 32, 116, 101, 120, 116, 32, 110, 117, 109, 98, 101, 114, 32, 99, 104, 101, 99, 107, 98, 111, 120, 32, 114, 97, 100, 105, 111, 32, 115, 117, 98, 109, 105, 116, 32, 114, 101, 115, 101, 116, 32, 98, 117, 116, 116, 111, 110, 32, 105, 109, 97, 103, 101, 32, 102, 105, 108, 101]
def c47 : SFun := ⟨.seq (.reg [⟨some 2, .boxF 36 2 (.t 0), none⟩, ⟨some 4, .mv (.c (.str [])), none⟩]) (.seq (.seq (.reg [⟨some 8, .fldA 0 (.t 2), none⟩, ⟨some 9, .ld 1 false (.t 8), none⟩, ⟨some 10, .mv (.t 1), none⟩, ⟨some 11, .idxA 6 (.t 9) (.t 10), none⟩, ⟨some 12, .fldA 1 (.t 11), none⟩, ⟨some 13, .ld 1 false (.t 12), none⟩, ⟨some 14, .bin .neq (.t 13) (.c (.str [105, 110, 112, 117, 116])), none⟩]) (.cond (.t 14) (.seq (.reg [⟨some 15, .fldA 0 (.t 2), none⟩, ⟨some 16, .ld 1 false (.t 15), none⟩, ⟨some 17, .mv (.t 1), none⟩, ⟨some 18, .idxA 6 (.t 16) (.t 17), none⟩, ⟨some 19, .fldA 1 (.t 18), none⟩, ⟨some 20, .ld 1 false (.t 19), none⟩, ⟨some 4, .mv (.t 20), none⟩]) .ret) .skip)) (.seq (.reg [⟨some 21, .ld 2 true (.t 2), none⟩, ⟨some 22, .mv (.t 1), none⟩, ⟨some 23, .pcall 46 [.t 21, .t 22, .c (.str [116, 121, 112, 101])], none⟩, ⟨some 5, .mv (.t 23), none⟩]) (.seq (.reg [⟨some 6, .mv (.c (.str [])), none⟩]) (.seq (.seq (.reg [⟨some 7, .mv (.c (.int .i64 0)), none⟩]) (.block 0 (.loop (.seq (.seq (.reg [⟨some 24, .mv (.t 7), none⟩, ⟨some 25, .mv (.t 5), none⟩, ⟨some 26, .lenS (.t 25), none⟩, ⟨some 27, .bin .lss (.t 24) (.t 26), none⟩]) (.cond (.t 27) .skip (.exit 0))) (.seq (.block 1 (.reg [⟨some 30, .mv (.t 6), none⟩, ⟨some 31, .mv (.t 5), none⟩, ⟨some 32, .mv (.t 7), none⟩, ⟨some 33, .idxS (.t 31) (.t 32), none⟩, ⟨some 34, .pcall 91 [.t 33], none⟩, ⟨some 35, .bldF 5 1 [.t 34], none⟩, ⟨some 36, .b2s (.t 35), none⟩, ⟨some 37, .bin .add (.t 30) (.t 36), none⟩, ⟨some 6, .mv (.t 37), none⟩])) (.reg [⟨some 28, .mv (.t 7), none⟩, ⟨some 29, .bin .add (.t 28) (.c (.int .i64 1)), none⟩, ⟨some 7, .mv (.t 29), none⟩])))))) (.seq (.seq (.reg [⟨some 38, .mv (.t 6), none⟩, ⟨some 39, .bin .neq (.t 38) (.c (.str [])), none⟩, ⟨some 40, .mv (.t 39), none⟩, ⟨some 41, .mv (.t 6), some (40, true)⟩, ⟨some 42, .pcall 59 [.t 41, .c (.str k47_1)], some (40, true)⟩, ⟨some 43, .pick (.t 40) (.t 42) (.c (.bool false)), none⟩]) (.cond (.t 43) (.seq (.reg [⟨some 44, .mv (.t 6), none⟩, ⟨some 4, .mv (.t 44), none⟩]) .ret) .skip)) (.seq (.reg [⟨some 4, .mv (.c (.str [116, 101, 120, 116])), none⟩]) .ret)))))), [.tmp 4]⟩
theorem hc47 : toSF Tryz.prog {pure := [46, 91, 59]} Tryz.f47 = some c47 := by kernel_rfl
theorem hn47 : (Tryz.f47.name == "runtime.NumGoroutine") = false := by kernel_rfl
theorem inputType_ok (d : HDoc) (V : DV d) (sm : DocSm d) (n : Int) (hn : inD d n) : PCalls (Pg G) 47 [.agg (eDoc d), aInt n] (.str (kindM d n)) := fun h => by
  have hl := V.len
  have n0 := hn.1
  have n1 := hn.2
  have e0 : nth d.nodes n.toNat = nd d n := rfl
  unfold kindM
  by_cases hi : (nd d n).name = [105, 110, 112, 117, 116]
  · have bi : ((nd d n).name != [105, 110, 112, 117, 116]) = false := by simpa using hi
    rw [if_pos hi]
    have cA := ratt_ok (G := G) d sm n hn [116, 121, 112, 101]
    have al := attD_len V hn [116, 121, 112, 101]
    obtain ⟨v, hv⟩ : ∃ v, attD d n [116, 121, 112, 101] = v := ⟨_, rfl⟩
    rw [hv] at cA al ⊢
    unfold eDoc at cA
    have ek : k47_1 = typS := by decide +kernel
    have cW := fun x => wordW_ok (G := G) x typS (by decide)
    have hnil : inW [] typS = false := by decide +kernel
    refine dcalls_of_vc Tryz.func47 hn47 hc47 (by rw [Tryz.ntmps47]; simp) (by rw [Tryz.ntmps47]; decide) ?_
    simp -dsimp -implicitDefEqProofs (disch := omega) only [VCA, Nat.reduceEqDiff, Nat.reduceAdd, Nat.reduceLeDiff, ↓reduceIte, c47, eDoc, eNode, e0, bi]
    repeat' (first | ((with_reducible refine brC (fun _ => ?_) fun _ => ?_) <;> try (exfalso; omega)) | (with_reducible apply pcallE.of; · exact cA) | (with_reducible refine And.intro ?_ ?_; · omega) | simp -dsimp -implicitDefEqProofs (disch := omega) only [VCA, ↓reduceIte])
    refine LoopVC.intro (fun m e h' => ∃ k : Nat, k ≤ v.length ∧ m = v.length - k ∧ e 5 = .str v ∧ e 6 = .str ((v.take k).map lwB) ∧ e 7 = aInt k ∧ h' = h) v.length
      (by exact ⟨0, by omega, by omega, rfl, rfl, rfl, rfl⟩) ?_
    rintro m e h' ⟨k, hk, rfl, e5, e6, e7, rfl⟩
    by_cases hlt : k < v.length
    · have d1 : decide ((k : Int) < (v.length : Int)) = true := decide_eq_true (by omega)
      obtain ⟨b, hb⟩ : ∃ b, v.getD k 0 = b := ⟨_, rfl⟩
      have cL := lwB_ok (G := G) b
      have tk : (v.take (k + 1)).map lwB = (v.take k).map lwB ++ [lwB b] := by
        have : v.take (k + 1) = v.take k ++ [b] := by
          rw [List.take_succ_eq_append_getElem hlt, ← hb, List.getD_eq_getElem?_getD, List.getElem?_eq_getElem hlt]; rfl
        rw [this, List.map_append]; rfl
      have tl : ((v.take k).map lwB).length = k := by rw [List.length_map, List.length_take]; omega
      repeat' (first | ((with_reducible refine brC (fun _ => ?_) fun _ => ?_) <;> try (exfalso; omega)) | (with_reducible apply pcallE.of; · exact cL) | (with_reducible refine And.intro ?_ ?_; · omega) | simp -dsimp -implicitDefEqProofs (disch := omega) only [VCA, Nat.reduceEqDiff, ↓reduceIte, okParts, forall_eq, e5, e6, e7, d1, hb])
      all_goals first
        | exact ⟨[lwB b], rfl, by rw [List.length_take]; simp; omega, _, by omega, k + 1, by omega, rfl, by rw [tk], by omega⟩
        | trace_state
    · obtain rfl : k = v.length := by omega
      have d1 : decide ((v.length : Int) < (v.length : Int)) = false := decide_eq_false (by omega)
      rw [List.take_length] at e6
      have cW := cW (v.map lwB)
      have hW : (splitB 32 [] typS).any (· == v.map lwB) = inW (v.map lwB) typS := rfl
      rw [hW] at cW
      unfold typM
      generalize v.map lwB = u at *
      by_cases hu : u = []
      · subst hu
        have bu : (([] : List UInt8) != []) = false := rfl
        rw [hnil, if_neg (by simp)]
        repeat' (first | ((with_reducible refine brC (fun _ => ?_) fun _ => ?_) <;> try (exfalso; omega)) | (with_reducible refine And.intro ?_ ?_; · omega) | simp -dsimp -implicitDefEqProofs (disch := omega) only [↓vcOps_sp 40, VCA, Nat.reduceEqDiff, ↓reduceIte, exists_eq_right, e5, e6, e7, d1, bu])
        all_goals first | exact Sub.refl _ | exact ⟨Sub.refl _, rfl⟩ | trace_state
      · have bu : (u != []) = true := by simpa using hu
        cases hw : inW u typS
        · rw [hw] at cW
          rw [if_neg (by simp)]
          repeat' (first | ((with_reducible refine brC (fun _ => ?_) fun _ => ?_) <;> try (exfalso; omega)) | (with_reducible apply pcallE.of; · exact cW) | (with_reducible refine And.intro ?_ ?_; · omega) | simp -dsimp -implicitDefEqProofs (disch := omega) only [↓vcOps_sp 40, VCA, Nat.reduceEqDiff, ↓reduceIte, exists_eq_right, e5, e6, e7, d1, bu, ek])
          all_goals first | exact Sub.refl _ | exact ⟨Sub.refl _, rfl⟩ | trace_state
        · rw [hw] at cW
          rw [if_pos rfl]
          repeat' (first | ((with_reducible refine brC (fun _ => ?_) fun _ => ?_) <;> try (exfalso; omega)) | (with_reducible apply pcallE.of; · exact cW) | (with_reducible refine And.intro ?_ ?_; · omega) | simp -dsimp -implicitDefEqProofs (disch := omega) only [↓vcOps_sp 40, VCA, Nat.reduceEqDiff, ↓reduceIte, exists_eq_right, e5, e6, e7, d1, bu, ek])
          all_goals first | exact Sub.refl _ | exact ⟨Sub.refl _, rfl⟩ | trace_state
  · have bi : ((nd d n).name != [105, 110, 112, 117, 116]) = true := by simpa using hi
    rw [if_neg hi]
    refine dcalls_of_vc Tryz.func47 hn47 hc47 (by rw [Tryz.ntmps47]; simp) (by rw [Tryz.ntmps47]; decide) ?_
    simp -dsimp -implicitDefEqProofs (disch := omega) only [VCA, Nat.reduceEqDiff, Nat.reduceAdd, Nat.reduceLeDiff, ↓reduceIte, exists_eq_right, c47, eDoc, eNode, e0, bi]
    repeat' (first | ((with_reducible refine brC (fun _ => ?_) fun _ => ?_) <;> try (exfalso; omega)) | (with_reducible refine And.intro ?_ ?_; · omega) | simp -dsimp -implicitDefEqProofs (disch := omega) only [↓vcOps_sp 40, ↓vcD_sp 40, VCA, pg_gl, ↓upd_none, Nat.reduceEqDiff, Nat.reduceBEq, Nat.reduceAdd, Nat.reduceSub, Nat.reduceMul, Nat.reduceLT, Nat.reduceLeDiff, ↓reduceIte, reduceCtorEq, rsOf, rootsOf, SOp.rd, SI.rd, SX.rd, rdL, rdO, rdP, okParts, eqCells, okEqCells, fillA, okFill, setAt, implies_true, forall_const, forall_eq, ne_eq, exists_eq_right_right, exists_eq_right, exists_eq_left, exists_eq_left', rootL, eInt, eStr, eAttr, lit_eq, eDoc, eNode, e0, bi])
    all_goals first | exact ⟨by omega, by omega, Sub.refl _⟩ | exact Sub.refl _ | trace_state
def c20 : SFun := ⟨.seq (.reg [⟨some 2, .boxF 36 2 (.t 0), none⟩, ⟨some 4, .mv (.c (.int .i64 0)), none⟩]) (.seq (.seq (.reg [⟨some 7, .ld 2 true (.t 2), none⟩, ⟨some 8, .mv (.t 1), none⟩, ⟨some 9, .pcall 49 [.t 7, .t 8, .c (.str [102, 111, 114, 109])], none⟩]) (.cond (.t 9) (.seq (.reg [⟨some 10, .ld 2 true (.t 2), none⟩, ⟨some 11, .pcall 44 [.t 10, .c (.int .i64 0)], none⟩, ⟨some 5, .mv (.t 11), none⟩]) (.seq (.seq (.reg [⟨some 6, .mv (.c (.int .i64 0)), none⟩]) (.block 0 (.loop (.seq (.seq (.reg [⟨some 12, .mv (.t 6), none⟩, ⟨some 13, .mv (.t 5), none⟩, ⟨some 14, .len (.t 13), none⟩, ⟨some 15, .bin .lss (.t 12) (.t 14), none⟩]) (.cond (.t 15) .skip (.exit 0))) (.seq (.block 1 (.seq (.dreg [(⟨some 18, .ld 2 true (.t 2), none⟩, none), (⟨some 19, .mv (.t 5), none⟩, none), (⟨some 20, .mv (.t 6), none⟩, none), (⟨some 21, .idxA 1 (.t 19) (.t 20), none⟩, none), (⟨some 22, .ld 1 false (.t 21), none⟩, none), (⟨some 23, .pcall 49 [.t 18, .t 22, .c (.str [105, 100])], none⟩, none), (⟨some 24, .mv (.t 23), none⟩, none), (⟨some 25, .ld 2 true (.t 2), some (24, true)⟩, none), (⟨some 26, .mv (.t 5), some (24, true)⟩, none), (⟨some 27, .mv (.t 6), some (24, true)⟩, none), (⟨some 28, .idxA 1 (.t 26) (.t 27), some (24, true)⟩, none), (⟨some 29, .ld 1 false (.t 28), some (24, true)⟩, none), (⟨some 30, .pcall 46 [.t 25, .t 29, .c (.str [105, 100])], some (24, true)⟩, none), (⟨some 31, .ld 2 true (.t 2), some (24, true)⟩, none), (⟨some 32, .mv (.t 1), some (24, true)⟩, none), (⟨some 33, .pcall 46 [.t 31, .t 32, .c (.str [102, 111, 114, 109])], some (24, true)⟩, none), (⟨some 34, .bin .eql (.t 30) (.t 33), some (24, true)⟩, none), (⟨some 35, .pick (.t 24) (.t 34) (.c (.bool false)), none⟩, none)]) (.cond (.t 35) (.seq (.seq (.dreg [(⟨some 36, .fldA 0 (.t 2), none⟩, none), (⟨some 37, .ld 1 false (.t 36), none⟩, none), (⟨some 38, .mv (.t 5), none⟩, none), (⟨some 39, .mv (.t 6), none⟩, none), (⟨some 40, .idxA 1 (.t 38) (.t 39), none⟩, none), (⟨some 41, .ld 1 false (.t 40), none⟩, none), (⟨some 42, .idxA 6 (.t 37) (.t 41), none⟩, none), (⟨some 43, .fldA 1 (.t 42), none⟩, none), (⟨some 44, .ld 1 false (.t 43), none⟩, none), (⟨some 45, .bin .eql (.t 44) (.c (.str [102, 111, 114, 109])), none⟩, none)]) (.cond (.t 45) (.seq (.reg [⟨some 46, .mv (.t 5), none⟩, ⟨some 47, .mv (.t 6), none⟩, ⟨some 48, .idxA 1 (.t 46) (.t 47), none⟩, ⟨some 49, .ld 1 false (.t 48), none⟩, ⟨some 4, .mv (.t 49), none⟩]) .ret) .skip)) (.seq (.reg [⟨some 4, .mv (.c (.int .i64 (-1))), none⟩]) .ret)) .skip))) (.reg [⟨some 16, .mv (.t 6), none⟩, ⟨some 17, .bin .add (.t 16) (.c (.int .i64 1)), none⟩, ⟨some 6, .mv (.t 17), none⟩])))))) (.seq (.reg [⟨some 4, .mv (.c (.int .i64 (-1))), none⟩]) .ret))) .skip)) (.seq (.seq (.reg [⟨some 50, .fldA 0 (.t 2), none⟩, ⟨some 51, .ld 1 false (.t 50), none⟩, ⟨some 52, .mv (.t 1), none⟩, ⟨some 53, .idxA 6 (.t 51) (.t 52), none⟩, ⟨some 54, .fldA 4 (.t 53), none⟩, ⟨some 55, .ld 1 false (.t 54), none⟩, ⟨some 1, .mv (.t 55), none⟩]) (.block 2 (.loop (.seq (.seq (.reg [⟨some 56, .mv (.t 1), none⟩, ⟨some 57, .bin .geq (.t 56) (.c (.int .i64 0)), none⟩]) (.cond (.t 57) .skip (.exit 2))) (.seq (.block 3 (.seq (.reg [⟨some 64, .fldA 0 (.t 2), none⟩, ⟨some 65, .ld 1 false (.t 64), none⟩, ⟨some 66, .mv (.t 1), none⟩, ⟨some 67, .idxA 6 (.t 65) (.t 66), none⟩, ⟨some 68, .fldA 0 (.t 67), none⟩, ⟨some 69, .ld 1 false (.t 68), none⟩, ⟨some 70, .bin .eql (.t 69) (.c (.int .i64 2)), none⟩, ⟨some 71, .mv (.t 70), none⟩, ⟨some 72, .fldA 0 (.t 2), some (71, true)⟩, ⟨some 73, .ld 1 false (.t 72), some (71, true)⟩, ⟨some 74, .mv (.t 1), some (71, true)⟩, ⟨some 75, .idxA 6 (.t 73) (.t 74), some (71, true)⟩, ⟨some 76, .fldA 1 (.t 75), some (71, true)⟩, ⟨some 77, .ld 1 false (.t 76), some (71, true)⟩, ⟨some 78, .bin .eql (.t 77) (.c (.str [102, 111, 114, 109])), some (71, true)⟩, ⟨some 79, .pick (.t 71) (.t 78) (.c (.bool false)), none⟩]) (.cond (.t 79) (.seq (.reg [⟨some 80, .mv (.t 1), none⟩, ⟨some 4, .mv (.t 80), none⟩]) .ret) .skip))) (.reg [⟨some 58, .fldA 0 (.t 2), none⟩, ⟨some 59, .ld 1 false (.t 58), none⟩, ⟨some 60, .mv (.t 1), none⟩, ⟨some 61, .idxA 6 (.t 59) (.t 60), none⟩, ⟨some 62, .fldA 4 (.t 61), none⟩, ⟨some 63, .ld 1 false (.t 62), none⟩, ⟨some 1, .mv (.t 63), none⟩])))))) (.seq (.reg [⟨some 4, .mv (.c (.int .i64 (-1))), none⟩]) .ret))), [.tmp 4]⟩
theorem hc20 : toSF Tryz.prog {pure := [49, 46, 44]} Tryz.f20 = some c20 := by kernel_rfl
theorem hn20 : (Tryz.f20.name == "runtime.NumGoroutine") = false := by kernel_rfl
theorem refOwner_ok (d : HDoc) (V : DV d) (sm : DocSm d) (n : Int) (hn : inD d n) : PCalls (Pg G) 20 [.agg (eDoc d), aInt n] (aInt (ownM d (below d 0) n)) := fun h => by
  have hl := V.len
  have n0 := hn.1
  have n1 := hn.2
  have e0 : ∀ k : Int, nth d.nodes k.toNat = nd d k := fun _ => rfl
  have cH := rhas_ok (G := G) d sm n hn [102, 111, 114, 109]
  have cA := ratt_ok (G := G) d sm n hn [102, 111, 114, 109]
  have cB := below_ok (G := G) d V sm 0 V.zero
  have gH := fun k hk => rhas_ok (G := G) d sm k hk [105, 100]
  have gA := fun k hk => ratt_ok (G := G) d sm k hk [105, 100]
  have bl := below_len V V.zero
  have bi := below_in V 0 V.zero
  unfold ownM
  generalize below d 0 = o at *
  have eD : ∀ x, (eDoc d = x) = (eDoc d = x) := fun _ => rfl
  have dE : eDoc d = [sl eNode d.nodes, .bool d.quirks] := rfl
  rw [dE] at cH cA cB
  cases hh : hasA d n [102, 111, 114, 109]
  · rw [hh] at cH
    rw [if_pos rfl]
    have hpar : ∀ k, inD d k → (nd d k).parent = -1 ∨ (inD d (nd d k).parent ∧ up d k = up d (nd d k).parent + 1) := fun k hk => by
      rcases V.par k hk with h1 | h1
      · exact .inl h1
      · exact .inr ⟨h1.1, V.up_par hk h1.1.1⟩
    have hdeep := V.deep
    refine dcalls_of_vc Tryz.func20 hn20 hc20 (by rw [Tryz.ntmps20]; simp) (by rw [Tryz.ntmps20]; decide) ?_
    simp -dsimp -implicitDefEqProofs (disch := omega) only [VCA, Nat.reduceEqDiff, Nat.reduceAdd, ↓reduceIte, c20, eDoc]
    repeat' (first | ((with_reducible refine brC (fun _ => ?_) fun _ => ?_) <;> try (exfalso; omega)) | (with_reducible apply pcallE.of; · exact cH) | (with_reducible refine And.intro ?_ ?_; · omega) | simp -dsimp -implicitDefEqProofs (disch := omega) only [VCA, Nat.reduceEqDiff, Nat.reduceAdd, Nat.reduceLeDiff, ↓reduceIte, eNode, e0])
    refine LoopVC.intro (fun m e h' => ∃ (c : Int) (g : Nat), m = g ∧ (c = -1 ∨ (inD d c ∧ up d c + 1 < g)) ∧ 0 < g ∧ e 1 = aInt c ∧ e 2 = .pin [sl eNode d.nodes, .bool d.quirks] ∧ h' = h ∧ abF g d (isN d [102, 111, 114, 109]) c = abM d (isN d [102, 111, 114, 109]) n) 42
      (by
        refine ⟨(nd d n).parent, 42, rfl, ?_, by omega, rfl, rfl, rfl, rfl⟩
        rcases hpar n hn with h1 | h1
        · exact .inl h1
        · have := hdeep _ h1.1; exact .inr ⟨h1.1, by omega⟩) ?_
    rintro m e h' ⟨c, g, rfl, hc, hg, e1, e2, rfl, hM⟩
    obtain ⟨g, rfl⟩ : ∃ k, m = k + 1 := ⟨m - 1, by omega⟩
    rw [abF] at hM
    by_cases h0 : 0 ≤ c
    · rcases hc with rfl | ⟨hc, hu⟩
      · omega
      · rw [if_neg (by omega)] at hM
        have c0 := hc.1
        have c1 := hc.2
        have d0 : decide (0 ≤ c) = true := decide_eq_true h0
        obtain ⟨b2, hb2⟩ : ∃ b, ((nd d c).kind == 2) = b := ⟨_, rfl⟩
        obtain ⟨b3, hb3⟩ : ∃ b, ((nd d c).name == [102, 111, 114, 109]) = b := ⟨_, rfl⟩
        have hi : isN d [102, 111, 114, 109] c = (b3 && b2) := by unfold isN; rw [hb2, hb3]
        rw [hi] at hM
        cases b2 <;> cases b3
        all_goals
          simp only [Bool.and_true, Bool.and_false, Bool.false_eq_true, if_false, if_true] at hM
          repeat' (first | ((with_reducible refine brC (fun _ => ?_) fun _ => ?_) <;> try (exfalso; omega)) | (with_reducible refine And.intro ?_ ?_; · omega) | simp -dsimp -implicitDefEqProofs (disch := omega) only [↓vcOps_sp 71, VCA, Nat.reduceEqDiff, Nat.reduceAdd, Nat.reduceLeDiff, ↓reduceIte, exists_eq_right_right, exists_eq_left', e1, e2, d0, eNode, e0, hb2, hb3])
        all_goals first
          | exact ⟨Sub.refl _, hM⟩
          | (refine ⟨g, by omega, (nd d c).parent, ?_, by omega, rfl, hM⟩
             rcases hpar c hc with h1 | h1
             · exact .inl h1
             · exact .inr ⟨h1.1, by omega⟩)
          | trace_state
    · have d0 : decide (0 ≤ c) = false := decide_eq_false h0
      have hcm : c = -1 := by
        rcases hc with rfl | ⟨hc, hu⟩
        · rfl
        · have := hc.1; omega
      rw [if_pos (by omega)] at hM
      repeat' (first | ((with_reducible refine brC (fun _ => ?_) fun _ => ?_) <;> try (exfalso; omega)) | (with_reducible refine And.intro ?_ ?_; · omega) | simp -dsimp -implicitDefEqProofs (disch := omega) only [VCA, ↓reduceIte, exists_eq_right_right, exists_eq_left', e1, d0])
      all_goals first | exact ⟨Sub.refl _, by rw [← hM, hcm]⟩ | (rw [← hM, hcm]; exact Sub.refl _) | trace_state
  · rw [hh] at cH
    rw [if_neg (by simp)]
    generalize attD d n [102, 111, 114, 109] = id at *
    refine dcalls_of_vc Tryz.func20 hn20 hc20 (by rw [Tryz.ntmps20]; simp) (by rw [Tryz.ntmps20]; decide) ?_
    simp -dsimp -implicitDefEqProofs (disch := omega) only [VCA, Nat.reduceEqDiff, Nat.reduceAdd, ↓reduceIte, c20, eDoc]
    repeat' (first | ((with_reducible refine brC (fun _ => ?_) fun _ => ?_) <;> try (exfalso; omega)) | (with_reducible apply pcallE.of; · exact cH) | (with_reducible apply pcallE.of; · exact cB) | (with_reducible refine And.intro ?_ ?_; · omega) | simp -dsimp -implicitDefEqProofs (disch := omega) only [VCA, Nat.reduceEqDiff, Nat.reduceAdd, ↓reduceIte])
    refine LoopVC.intro (fun m e h' => ∃ k : Nat, k ≤ o.length ∧ m = o.length - k ∧ e 1 = aInt n ∧ e 2 = .pin [sl eNode d.nodes, .bool d.quirks] ∧ e 5 = sl eInt o ∧ e 6 = aInt k ∧ h' = h ∧ o.find? (fun k => hasA d k [105, 100] && attD d k [105, 100] == id) = (o.drop k).find? (fun k => hasA d k [105, 100] && attD d k [105, 100] == id)) o.length
      (by exact ⟨0, by omega, by omega, rfl, rfl, rfl, rfl, rfl, rfl⟩) ?_
    rintro m e h' ⟨k, hk, rfl, e1, e2, e5, e6, rfl, hf⟩
    by_cases hlt : k < o.length
    · have d1 : decide ((k : Int) < (o.length : Int)) = true := decide_eq_true (by omega)
      rw [drop_cons' hlt, List.find?_cons] at hf
      obtain ⟨x, hx⟩ : ∃ x, nth o k = x := ⟨_, rfl⟩
      have hxo : inD d x := by rw [← hx]; exact bi _ (nth_mem' hlt)
      rw [hx] at hf
      have x0 := hxo.1
      have x1 := hxo.2
      have g1 := gH x hxo
      have g2 := gA x hxo
      rw [dE] at g1 g2
      cases hb : hasA d x [105, 100]
      · rw [hb] at g1
        rw [hb] at hf
        repeat' (first | ((with_reducible refine brC (fun _ => ?_) fun _ => ?_) <;> try (exfalso; omega)) | (with_reducible apply pcallE.of; · exact g1) | (with_reducible refine And.intro ?_ ?_; · omega) | simp -dsimp -implicitDefEqProofs (disch := omega) only [↓vcD_sp 24, VCA, Nat.reduceEqDiff, Nat.reduceAdd, ↓reduceIte, rsOf, rootsOf, rootL, eInt, e1, e2, e5, e6, d1, hx])
        all_goals first
          | exact ⟨_, by omega, k + 1, by omega, rfl, by omega, hf⟩
          | trace_state
      · rw [hb] at g1
        rw [hb] at hf
        have hk2 := has_el V hxo hb
        cases hc : (attD d x [105, 100] == id)
        · rw [hc] at hf
          repeat' (first | ((with_reducible refine brC (fun _ => ?_) fun _ => ?_) <;> try (exfalso; omega)) | (with_reducible apply pcallE.of; · exact g1) | (with_reducible apply pcallE.of; · exact g2) | (with_reducible apply pcallE.of; · exact cA) | (with_reducible refine And.intro ?_ ?_; · omega) | simp -dsimp -implicitDefEqProofs (disch := omega) only [↓vcD_sp 24, VCA, Nat.reduceEqDiff, Nat.reduceAdd, ↓reduceIte, rsOf, rootsOf, rootL, eInt, e1, e2, e5, e6, d1, hx, hc])
          all_goals first
            | exact ⟨_, by omega, k + 1, by omega, rfl, by omega, hf⟩
            | trace_state
        · rw [hc] at hf
          simp only [Bool.and_self] at hf
          rw [hf]
          have hi : isN d [102, 111, 114, 109] x = ((nd d x).name == [102, 111, 114, 109]) := by unfold isN; rw [hk2]; simp
          obtain ⟨b3, hb3⟩ : ∃ b, ((nd d x).name == [102, 111, 114, 109]) = b := ⟨_, rfl⟩
          simp only [hi, hb3]
          cases b3
          all_goals
            repeat' (first | ((with_reducible refine brC (fun _ => ?_) fun _ => ?_) <;> try (exfalso; omega)) | (with_reducible apply pcallE.of; · exact g1) | (with_reducible apply pcallE.of; · exact g2) | (with_reducible apply pcallE.of; · exact cA) | (with_reducible refine And.intro ?_ ?_; · omega) | simp -dsimp -implicitDefEqProofs (disch := omega) only [↓vcD_sp 24, VCA, Nat.reduceEqDiff, Nat.reduceAdd, Nat.reduceLeDiff, ↓reduceIte, rsOf, rootsOf, exists_eq_right, rootL, eInt, e1, e2, e5, e6, d1, hx, hc, hb3, eNode, e0])
          all_goals first | exact Sub.refl _ | exact ⟨Sub.refl _, rfl⟩ | trace_state
    · obtain rfl : k = o.length := by omega
      have d1 : decide ((o.length : Int) < (o.length : Int)) = false := decide_eq_false (by omega)
      rw [List.drop_length] at hf
      rw [hf]
      repeat' (first | ((with_reducible refine brC (fun _ => ?_) fun _ => ?_) <;> try (exfalso; omega)) | (with_reducible refine And.intro ?_ ?_; · omega) | simp -dsimp -implicitDefEqProofs (disch := omega) only [VCA, Nat.reduceEqDiff, ↓reduceIte, exists_eq_right_right, e5, e6, d1])
      all_goals first | exact Sub.refl _ | exact ⟨Sub.refl _, rfl⟩ | trace_state
end Go.Proofs.K
end
