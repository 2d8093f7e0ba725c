/- Texts of this claim, one behind the other. -/
import Derived.Test.YtkpaokgikhnpgaaGreatDoorM4
import Derived.Test.YtkpaokgikhnpgaaGreatDoorM3
import Derived.Shelf.Strings.Builder1
import Derived.Lib.RuneBytes
import Derived.Laws.BitsLemmas
import Derived.Lib.IndexMore
import Derived.Lib.MapLaws
import Derived.Lib.Join
set_option maxHeartbeats 4000000
set_option maxRecDepth 100000
section
set_option linter.unusedSimpArgs false
set_option linter.unusedVariables false
namespace Go.Proofs.K
open Go Go.Sim Go.Proofs Go.Shelf Go.RowKit Go.Lib
variable {G : T0}
def lowR (x : Int) : Int := if 65 <= x /\ x <= 90 then x + 32 else x
def lowU (s : List UInt8) : List UInt8 := Lib.mapD lowR s
theorem lower1_gives (w : World) : MapAtRunes Tryz.prog 115 #[] lowR w := fun W r hr _ => by
  unfold FnGives
  by_cases h1 : 65 <= r <;> by_cases h2 : r <= 90
  all_goals
    have z1 : (65 : Int) <= (r : Int) ↔ 65 <= r := by omega
    have z2 : (r : Int) <= 90 ↔ r <= 90 := by omega
    go_enter Tryz.func115, Tryz.ntmps115
    go_wp2
    all_goals first | (exfalso; omega) | (go_ret; refine ⟨?_, 0, rfl⟩; unfold lowR; (first | rw [if_pos (by omega)] | rw [if_neg (by omega)]) <;> rfl)
theorem fn0_inv {g : Ghost} {w : World} {u : Value} {f : Nat} (h : VRel g w u (.fn f [] [])) : u = .func (.func f) #[] #[] := by
  cases h with
  | fn _ fs cs _ _ hf hc _ _ =>
    obtain rfl : fs = #[] := Array.eq_empty_of_size_eq_zero hf
    obtain rfl : cs = #[] := Array.eq_empty_of_size_eq_zero hc
    rfl
theorem smap_ok (hT : QW G) (s : List UInt8) (hs : s.length <= 1073741824) : PCalls (Pg G) 114 [.fn 115 [] [], .str s] (.str (lowU s)) := by
  refine ofBelow ⟨_, Tryz.func114, by kernel_rfl, by kernel_rfl⟩ fun g w vs GR V => ?_
  obtain ⟨u, v, rfl, hu, hv⟩ := V.two_inv
  rw [fn0_inv hu, hv.str_inv']
  refine (Tryz.strings_Map_runes 115 #[] (enters_of Tryz.func115 (by kernel_rfl) rfl) lowR ⟨⟨s⟩⟩ w (by show s.length < _; omega) (lower1_gives w) (fun x hx => ?_) (tabs_of GR hT)).mono fun e w' ⟨he, hw⟩ => ⟨_, he, hw, fun g w => VRel.str_mk g w _⟩
  unfold lowR; split <;> omega
def c83 : SFun := ⟨.seq (.reg [o 2 (.mv (.c (.str [])))]) (.seq (.reg [o 3 (.mv (.t 0)), o 4 (.pcall 114 [.c (.fn 115 [] []), .t 3]), o 2 (.mv (.t 4))]) .ret), [.tmp 2]⟩
theorem hc83 : J1 Tryz.prog {pure := [114]} Tryz.f83 = some c83 := by kernel_rfl
theorem flower_ok (hT : QW G) (s : List UInt8) (hs : s.length <= 1073741824) : PCalls (Pg G) 83 [.str s] (.str (lowU s)) := fun h => by
  have c1 := smap_ok hT s hs
  refine Q1 Tryz.func83 (by kernel_rfl) hc83 (by rw [Tryz.ntmps83]; simp) (by rw [Tryz.ntmps83]; decide) ?_
  simp -dsimp -implicitDefEqProofs (disch := omega) only [VCA, ↓reduceIte, reduceCtorEq, c83]
  repeat' (first | ((with_reducible refine brC (fun _ => ?_) fun _ => ?_) <;> try (exfalso; omega)) | (with_reducible apply pcallE.of; · exact c1) | (with_reducible refine And.intro ?_ ?_; · omega) | simp -dsimp -implicitDefEqProofs (disch := omega) only [VCA, ↓reduceIte, exists_eq_right])
  all_goals exact Sub.refl _
end Go.Proofs.K
end
section
set_option linter.unusedSimpArgs false
set_option linter.unusedVariables false
namespace Go.Proofs.K
open Go Go.Sim Go.Proofs Go.Shelf
variable {G : T0}
def bren : Ren := ⟨fun | 240 => 103 | 276 => 125 | n => n, fun | 37 => 92 | 0 => 0 | 4 => 4 | 9 => 9 | 20 => 20 | 70 => 91 | 72 => 94 | 164 => 143 | n => n, fun n => n⟩
theorem lays240 : Lays.n240 Tryz.prog bren := {
  mixed := by kernel_rfl
  f240 := Tryz.func103.trans (congrArg some (by kernel_rfl))
  f276 := Tryz.func125.trans (congrArg some (by kernel_rfl))
  t0 := Tryz.underlying0
  a0 := Tryz.isAgg0
  z0 := Tryz.sizeOf0
  v0 := Tryz.zeroValue0
  t4 := Tryz.underlying4
  a4 := Tryz.isAgg4
  z4 := Tryz.sizeOf4
  v4 := Tryz.zeroValue4
  t9 := Tryz.underlying9
  a9 := Tryz.isAgg9
  z9 := Tryz.sizeOf9
  v9 := Tryz.zeroValue9
  t20 := Tryz.underlying20
  a20 := Tryz.isAgg20
  z20 := Tryz.sizeOf20
  v20 := Tryz.zeroValue20
  t70 := Tryz.underlying91
  a70 := Tryz.isAgg91
  z70 := Tryz.sizeOf91
  v70 := Tryz.zeroValue91
  t72 := Tryz.underlying94
  a72 := Tryz.isAgg94
  z72 := Tryz.sizeOf94
  v72 := Tryz.zeroValue94
  t164 := Tryz.underlying143
  a164 := Tryz.isAgg143
  z164 := Tryz.sizeOf143
  v164 := Tryz.zeroValue143 }
theorem x72 : Builder.X72 Tryz.prog bren := {
  sizeBuilder := by kernel_rfl
  liesBuilder := by kernel_rfl }
abbrev Tb : Nat := 94
abbrev Tu : Nat := 5
def BP (rb : Nat) (p : AVal) : Prop := p = .prim (.pointer none) \/ p = .vp rb 0
theorem prim_inv {g : Ghost} {w : World} {u v : Value} (h : VRel g w u (.prim v)) : u = v := by cases h; rfl
theorem copyCheck_ok (rb : Nat) (h : Q2) (p buf : AVal) (hp : BP rb p) (hr : h rb = some ⟨Tb, 2, [[p, buf]]⟩) {K : AVal -> Q2 -> Prop} (hk : K (.tup []) (upd h rb (some ⟨Tb, 2, [[.vp rb 0, buf]]⟩))) :
    DCalls (Pg G) 103 [.vp rb 0] h K := by
  refine ⟨⟨_, Tryz.func103, by kernel_rfl, by kernel_rfl⟩, fun g w vs H GR V => ?_⟩
  obtain ⟨v, rfl, hv⟩ := V.one_inv
  obtain ⟨hlt, ⟨hb, hc⟩, rfl⟩ := hv.vp_inv
  have O := H.obj rb _ hr
  rcases O.block with h0 | ⟨hl, hf, cur, hcur, hsz, hcell⟩
  · omega
  obtain ⟨lo, hi, hq, hlh⟩ := id hcur
  have hcs : cur.size = 2 := by have h1 : g.bo rb + g.cap rb * 2 = cur.size := hsz; omega
  obtain ⟨u, hu, ho, hvu⟩ := hcell 0 0 _ p rfl rfl
  obtain ⟨u2, hu2, ho2, hvu2⟩ := hcell 0 1 _ buf rfl rfl
  simp only [hb] at hu hu2
  have hw0 : w.cell? ⟨g.eta rb, 0, none⟩ = some u := by
    rw [hcur.cell]; exact hu
  rcases hp with rfl | rfl
  · rw [prim_inv hvu] at hw0
    refine (Any.Builder_copyCheck_fresh lays240 x72 (g.eta rb) w hw0 ?_ ?_).mono ?_
    · simp only [World.shape?, hq]; show some (Tb, cur.size) = some (Tb, 2); rw [hcs]
    · simp [World.frozen?, hq]; omega
    · rintro e w' ⟨rfl, rfl⟩
      rw [setCell_eq_setRow w _ _ cur _ _ _ hq]
      obtain ⟨S, H'⟩ := root_write H hr hcur (by omega) (cur.setIfInBounds 0 (.pointer (some ⟨g.eta rb, 0, none⟩))) (by simp) (es' := [[.vp rb 0, buf]]) (by simp) (by simp; omega) (fun i j e x he hx => by
        cases i with
        | succ i => simp at he
        | zero =>
          simp at he; subst he
          cases j with
          | zero => simp at hx; subst hx; exact ⟨_, by simp [hb, hcs], rfl, .vp rb 0 hlt hb hc⟩
          | succ j =>
            cases j with
            | zero => simp at hx; subst hx; exact ⟨u2, by simpa [hb] using hu2, ho2, hvu2⟩
            | succ j => simp at hx)
      exact ⟨_, _, _, g, rfl, hk, H', .tup #[] [] rfl (fun j u a hu => by simp at hu), S⟩
  · obtain ⟨_, _, hu'⟩ := hvu.vp_inv
    rw [hu'] at hw0
    refine (Any.Builder_copyCheck_used lays240 x72 (g.eta rb) w hw0).mono ?_
    rintro e w' ⟨rfl, rfl⟩
    have : upd h rb (some ⟨Tb, 2, [[.vp rb 0, buf]]⟩) = h := upd_id hr
    rw [this] at hk
    exact ⟨_, _, h, g, rfl, hk, H, .tup #[] [] rfl (fun j u a hu => by simp at hu), GS.refl g _⟩
def Bl (h0 : Q2) (rb : Nat) (s : List UInt8) (h : Q2) : Prop := h0 rb = none /\ ∃ p buf, BP rb p /\ (buf ≠ .emp -> s ≠ []) /\ Acc (upd h0 rb (some ⟨Tb, 2, [[p, buf]]⟩)) Tu 1 (Y0 s) buf h /\ Sub (upd h0 rb (some ⟨Tb, 2, [[p, buf]]⟩)) h
theorem acc_at {h0 h : Q2} {rb ty sz : Nat} {x y : AObj} {cells : List (List AVal)} {a : AVal} (A : Acc (upd h0 rb (some x)) ty sz cells a h) : Acc (upd h0 rb (some y)) ty sz cells a (upd h rb (some y)) := by
  rcases A with h | ⟨r, h1, h2, h3⟩
  · exact .inl h
  · have hne : r ≠ rb := by rintro rfl; simp at h1
    refine .inr ⟨r, ?_, ?_, h3⟩
    · unfold Sim.upd at h1 ⊢; simpa [hne] using h1
    · unfold Sim.upd; simpa [hne] using h2
theorem sub_at {h0 h : Q2} {rb : Nat} {x y : AObj} (S : Sub (upd h0 rb (some x)) h) : Sub (upd h0 rb (some y)) (upd h rb (some y)) := by
  intro t o ht
  by_cases hne : t = rb
  · subst hne; simpa [Sim.upd] using ht
  · have := S t o (by simpa [Sim.upd, hne] using ht)
    simpa [Sim.upd, hne] using this
theorem WJ {h0 h : Q2} {rb : Nat} {x : AObj} (S : Sub (upd h0 rb (some x)) h) : h rb = some x := S rb x (by simp [Sim.upd])
theorem sub_off {h0 h : Q2} {rb : Nat} {x : AObj} (h1 : h0 rb = none) (S : Sub (upd h0 rb (some x)) h) : Sub h0 h := by
  intro t o ht
  have hne : t ≠ rb := by rintro rfl; rw [h1] at ht; cases ht
  exact S t o (by simpa [Sim.upd, hne] using ht)
theorem Bl.new (h : Q2) (rb : Nat) (h0 : h rb = none) : Bl h rb [] (upd h rb (some ⟨Tb, 2, [[.prim (.pointer none), .emp]]⟩)) :=
  ⟨h0, _, _, .inl rfl, fun h => absurd rfl h, Acc.nil, Sub.refl _⟩
def c63 : SFun := ⟨.seq (.reg [o 4 (.mv (.c (.prim .nilIface)))]) (.seq (.reg [o 5 (.mv (.t 0)), o 6 (.call (.c (.fn 103 [] [])) [.t 5])]) (.seq (.reg [o 7 (.mv (.t 0)), o 8 (.mv (.t 0)), o 9 (.fldA 0 (.t 8)), o 10 (.fldA 1 (.t 9)), o 11 (.ld 1 false (.t 10)), o 12 (.mv (.t 1)), o 13 (.bldF 5 1 [.t 12]), o 14 (.app 5 1 1 (.t 11) (.t 13)), o 15 (.fldA 0 (.t 7)), o 16 (.fldA 1 (.t 15)), ⟨none, .st 1 (.t 16) (.t 14), none⟩]) (.seq (.reg [o 4 (.mv (.c (.prim .nilIface)))]) .ret))), [.tmp 4]⟩
theorem hc63 : J1 Tryz.prog {} Tryz.f63 = some c63 := by kernel_rfl
theorem writeByte_ok {h0 h : Q2} {rb : Nat} {s : List UInt8} (b : UInt8) (B : Bl h0 rb s h) (hs : s.length < 140737488355328) :
    DCalls (Pg G) 63 [.vp rb 0, .int .u8 b.toNat] h fun a h' => a = .prim .nilIface /\ Bl h0 rb (s ++ [b]) h' := by
  obtain ⟨hn, p, buf, hp, hne, A, S⟩ := B
  refine Q1 Tryz.func63 (by kernel_rfl) hc63 (by rw [Tryz.ntmps63]; simp) (by rw [Tryz.ntmps63]; decide) ?_
  simp -dsimp -implicitDefEqProofs (disch := omega) only [VCA, ↓reduceIte, reduceCtorEq, c63]
  refine copyCheck_ok rb h p buf hp (WJ S) ?_
  simp -dsimp -implicitDefEqProofs (disch := omega) only [VCA, Nat.reduceEqDiff, Nat.reduceAdd, Nat.reduceLT, ↓reduceIte, reduceCtorEq, Z2, forall_eq, exists_eq_left, exists_eq_left']
  refine (acc_at A).app (sub_at S) (by simp [Y0]; omega) (by simp [Y0]; omega) fun a' h3 A' S' => ?_
  obtain ⟨r, h1, h2, rfl⟩ := A'.pos (by simp)
  simp -dsimp -implicitDefEqProofs (disch := omega) only [VCA, Nat.reduceEqDiff, Nat.reduceAdd, Nat.reduceLT, ↓reduceIte, Y7, exists_eq_left', WJ S']
  exact ⟨_, Sub.refl _, hn, _, _, .inr rfl, fun _ => by simp, by simpa [Y0] using acc_at A', sub_at S'⟩
def c65 : SFun := ⟨.seq (.reg [o 2 (.mv (.c (.str [])))]) (.seq (.dreg [(o 3 (.mv (.t 0)), none), (o 4 (.fldA 0 (.t 3)), none), (o 5 (.fldA 1 (.t 4)), none), (o 6 (.ld 1 false (.t 5)), none), (o 8 (.mv (.t 0)), none), (o 9 (.fldA 0 (.t 8)), none), (o 10 (.fldA 1 (.t 9)), none), (o 11 (.ld 1 false (.t 10)), none), (o 12 (.len (.t 11)), none), (o 7 (.usd (.t 6)), (some [6])), (o 13 (.ustr 5 (.t 7) (.t 12)), (some [6, 11])), (o 2 (.mv (.t 13)), none)]) .ret), [.tmp 2]⟩
theorem hc65 : J1 Tryz.prog {} Tryz.f65 = some c65 := by kernel_rfl
theorem string_ok {h0 h : Q2} {rb : Nat} {s : List UInt8} (B : Bl h0 rb s h) (hs : s.length < 140737488355328) :
    DCalls (Pg G) 65 [.vp rb 0] h fun a h' => a = .str s /\ Sub h0 h' := by
  obtain ⟨hn, p, buf, hp, hne, A, S⟩ := B
  refine Q1 Tryz.func65 (by kernel_rfl) hc65 (by rw [Tryz.ntmps65]; simp) (by rw [Tryz.ntmps65]; decide) ?_
  rcases A with ⟨he, rfl⟩ | ⟨r, h1, h2, rfl⟩
  · have hs0 : s = [] := by simpa [Y0] using he
    subst hs0
    simp -dsimp -implicitDefEqProofs (disch := omega) only [VCA, Nat.reduceEqDiff, Nat.reduceBEq, Nat.reduceAdd, Nat.reduceLT, ↓reduceIte, reduceCtorEq, Y6, Q9, SOp.rd, SI.rd, SX.rd, implies_true, exists_eq_left', Z7, c65, WJ S]
    exact ⟨_, Sub.refl _, sub_off hn S⟩
  · have hs1 : s ≠ [] := hne (by intro h; cases h)
    have hs2 : 0 < s.length := List.length_pos_iff.2 hs1
    have h1' : h0 r = none /\ r ≠ rb := by
      have hne : r ≠ rb := by rintro rfl; simp at h1
      exact ⟨by simpa [Sim.upd, hne] using h1, hne⟩
    simp -dsimp -implicitDefEqProofs (disch := omega) only [VCA, Nat.reduceEqDiff, Nat.reduceBEq, Nat.reduceAdd, Nat.reduceLT, ↓reduceIte, reduceCtorEq, Y6, Q9, SOp.rd, SI.rd, SX.rd, implies_true, ne_eq, exists_eq_left', Z7, c65, WJ S]
    have hl : (Y0 s).length = s.length := by simp [Y0]
    refine ⟨by omega, s, _, h2, rfl, rfl, by simp [Y0], List.take_of_length_le (by simp [Y0]), by simp [Y0], hs1, by omega, ?_⟩
    simp -dsimp -implicitDefEqProofs (disch := omega) only [VCA]
    first
      | exact ⟨_, Sub.refl _, Sub.del (sub_off hn S) h1'.1⟩
      | (refine ⟨?_, _, Sub.refl _, Sub.del (sub_off hn S) h1'.1⟩; rw [<- WJ S]; simp [Sim.del, Ne.symm h1'.2])
theorem f128 (x : Int) : QZ .or .u8 128 (QZ .and .u8 (IntKind.u8.wrap x) 63) = 128 + x % 64 := by
  rw [IntKind.wrap_u8]
  have h1 : QZ .and .u8 (x % 256) 63 = x % 256 % 64 := u8_and63 _ (by omega) (by omega)
  have h2 : QZ .or .u8 128 (x % 256 % 64) = 128 + x % 256 % 64 := u8_or128 _ (by omega) (by omega)
  rw [h1, h2]; omega
end Go.Proofs.K
end
section
set_option linter.unusedSimpArgs false
set_option linter.unusedVariables false
namespace Go.Proofs.K
open Go Go.Sim Go.Proofs
variable {G : T0}
def YT (r : Int) : List AVal := [.int .i32 r]
instance : LenE YT 1 := ⟨fun _ => rfl⟩
def Y4 (b : Int) : Int × Int × Int :=
  if b < 128 then (0, 128, 191)
  else if 194 <= b /\ b <= 223 then (1, 128, 191)
  else if 224 <= b /\ b <= 239 then (2, if b = 224 then 160 else 128, if b = 237 then 159 else 191)
  else if 240 <= b /\ b <= 244 then (3, if b = 240 then 144 else 128, if b = 244 then 143 else 191)
  else (-1, 128, 191)
def c139 : SFun := ⟨.seq (.reg [o 2 (.mv (.c (.int .i64 0))), o 3 (.mv (.c (.int .u8 0))), o 4 (.mv (.c (.int .u8 0)))]) (.seq (.reg [o 3 (.mv (.c (.int .u8 128))), o 4 (.mv (.c (.int .u8 191)))]) (.seq (.block 0 (.seq (.reg [o 8 (.mv (.t 0)), o 9 (.bin .lss (.t 8) (.c (.int .u8 128))), o 7 (.mv (.t 9))]) (.cond (.t 7) (.seq (.reg [o 10 (.mv (.t 3)), o 11 (.mv (.t 4)), o 2 (.mv (.c (.int .i64 0))), o 3 (.mv (.t 10)), o 4 (.mv (.t 11))]) .ret) (.seq (.reg [o 13 (.mv (.t 0)), o 14 (.bin .geq (.t 13) (.c (.int .u8 194))), o 15 (.mv (.t 14)), ⟨some 16, .mv (.t 0), some (15, true)⟩, ⟨some 17, .bin .leq (.t 16) (.c (.int .u8 223)), some (15, true)⟩, o 18 (.pick (.t 15) (.t 17) (.c (.bool false))), o 12 (.mv (.t 18))]) (.cond (.t 12) (.seq (.reg [o 19 (.mv (.t 3)), o 20 (.mv (.t 4)), o 2 (.mv (.c (.int .i64 1))), o 3 (.mv (.t 19)), o 4 (.mv (.t 20))]) .ret) (.seq (.reg [o 22 (.mv (.t 0)), o 23 (.bin .geq (.t 22) (.c (.int .u8 224))), o 24 (.mv (.t 23)), ⟨some 25, .mv (.t 0), some (24, true)⟩, ⟨some 26, .bin .leq (.t 25) (.c (.int .u8 239)), some (24, true)⟩, o 27 (.pick (.t 24) (.t 26) (.c (.bool false))), o 21 (.mv (.t 27))]) (.cond (.t 21) (.reg [o 2 (.mv (.c (.int .i64 2)))]) (.seq (.reg [o 29 (.mv (.t 0)), o 30 (.bin .geq (.t 29) (.c (.int .u8 240))), o 31 (.mv (.t 30)), ⟨some 32, .mv (.t 0), some (31, true)⟩, ⟨some 33, .bin .leq (.t 32) (.c (.int .u8 244)), some (31, true)⟩, o 34 (.pick (.t 31) (.t 33) (.c (.bool false))), o 28 (.mv (.t 34))]) (.cond (.t 28) (.reg [o 2 (.mv (.c (.int .i64 3)))]) (.seq (.reg [o 5 (.mv (.t 3)), o 6 (.mv (.t 4)), o 2 (.mv (.c (.int .i64 (-1)))), o 3 (.mv (.t 5)), o 4 (.mv (.t 6))]) .ret)))))))))) (.seq (.seq (.reg [o 35 (.mv (.t 0))]) (.block 1 (.seq (.reg [o 37 (.bin .eql (.t 35) (.c (.int .u8 224))), o 36 (.mv (.t 37))]) (.cond (.t 36) (.reg [o 3 (.mv (.c (.int .u8 160)))]) (.seq (.reg [o 39 (.bin .eql (.t 35) (.c (.int .u8 237))), o 38 (.mv (.t 39))]) (.cond (.t 38) (.reg [o 4 (.mv (.c (.int .u8 159)))]) (.seq (.reg [o 41 (.bin .eql (.t 35) (.c (.int .u8 240))), o 40 (.mv (.t 41))]) (.cond (.t 40) (.reg [o 3 (.mv (.c (.int .u8 144)))]) (.seq (.reg [o 43 (.bin .eql (.t 35) (.c (.int .u8 244))), o 42 (.mv (.t 43))]) (.cond (.t 42) (.reg [o 4 (.mv (.c (.int .u8 143)))]) .skip)))))))))) (.seq (.reg [o 44 (.mv (.t 2)), o 45 (.mv (.t 3)), o 46 (.mv (.t 4)), o 2 (.mv (.t 44)), o 3 (.mv (.t 45)), o 4 (.mv (.t 46))]) .ret)))), [.tmp 2, .tmp 3, .tmp 4]⟩
theorem hc139 : J1 Tryz.prog {} Tryz.f139 = some c139 := by kernel_rfl
theorem lead_ok (b : Int) (h0 : 0 <= b) (h1 : b < 256) : PCalls (Pg G) 139 [.int .u8 b] (.tup [Q4 (Y4 b).1, .int .u8 (Y4 b).2.1, .int .u8 (Y4 b).2.2]) := fun h => by
  refine Q1 Tryz.func139 (by kernel_rfl) hc139 (by rw [Tryz.ntmps139]; simp) (by rw [Tryz.ntmps139]; decide) ?_
  rcases (by omega : (0 <= b /\ b <= 127) \/ (128 <= b /\ b <= 193) \/ (194 <= b /\ b <= 223) \/ (224 <= b /\ b <= 224) \/ (225 <= b /\ b <= 236) \/ (237 <= b /\ b <= 237) \/ (238 <= b /\ b <= 239) \/ (240 <= b /\ b <= 240) \/ (241 <= b /\ b <= 243) \/ (244 <= b /\ b <= 244) \/ (245 <= b /\ b <= 255)) with hc | hc | hc | hc | hc | hc | hc | hc | hc | hc | hc
  · have hm : Y4 b = (0, 128, 191) := by
      unfold Y4; repeat' split
      all_goals first | omega | (simp; omega) | rfl
    have f0 : decide (b < 128) = true := by simp; omega
    have f1 : decide (194 <= b) = false := by simp; omega
    have f2 : decide (224 <= b) = false := by simp; omega
    have f3 : decide (240 <= b) = false := by simp; omega
    have f4 : decide (b <= 223) = true := by simp; omega
    have f5 : decide (b <= 239) = true := by simp; omega
    have f6 : decide (b <= 244) = true := by simp; omega
    have f7 : (b == 224) = false := by simp; omega
    have f8 : (b == 237) = false := by simp; omega
    have f9 : (b == 240) = false := by simp; omega
    have f10 : (b == 244) = false := by simp; omega
    rw [hm]
    simp -dsimp -implicitDefEqProofs (disch := omega) only [VCA, Nat.reduceEqDiff, ↓reduceIte, reduceCtorEq, exists_eq_right, c139, f0]
    exact Sub.refl _
  · have hm : Y4 b = (-1, 128, 191) := by
      unfold Y4; repeat' split
      all_goals first | omega | (simp; omega) | rfl
    have f0 : decide (b < 128) = false := by simp; omega
    have f1 : decide (194 <= b) = false := by simp; omega
    have f2 : decide (224 <= b) = false := by simp; omega
    have f3 : decide (240 <= b) = false := by simp; omega
    have f4 : decide (b <= 223) = true := by simp; omega
    have f5 : decide (b <= 239) = true := by simp; omega
    have f6 : decide (b <= 244) = true := by simp; omega
    have f7 : (b == 224) = false := by simp; omega
    have f8 : (b == 237) = false := by simp; omega
    have f9 : (b == 240) = false := by simp; omega
    have f10 : (b == 244) = false := by simp; omega
    rw [hm]
    simp -dsimp -implicitDefEqProofs (disch := omega) only [↓Q0 15, ↓Q0 24, ↓Q0 31, VCA, Nat.reduceEqDiff, ↓reduceIte, reduceCtorEq, exists_eq_right, c139, f0, f1, f2, f3]
    exact Sub.refl _
  · have hm : Y4 b = (1, 128, 191) := by
      unfold Y4; repeat' split
      all_goals first | omega | (simp; omega) | rfl
    have f0 : decide (b < 128) = false := by simp; omega
    have f1 : decide (194 <= b) = true := by simp; omega
    have f2 : decide (224 <= b) = false := by simp; omega
    have f3 : decide (240 <= b) = false := by simp; omega
    have f4 : decide (b <= 223) = true := by simp; omega
    have f5 : decide (b <= 239) = true := by simp; omega
    have f6 : decide (b <= 244) = true := by simp; omega
    have f7 : (b == 224) = false := by simp; omega
    have f8 : (b == 237) = false := by simp; omega
    have f9 : (b == 240) = false := by simp; omega
    have f10 : (b == 244) = false := by simp; omega
    rw [hm]
    simp -dsimp -implicitDefEqProofs (disch := omega) only [↓Q0 15, VCA, Nat.reduceEqDiff, ↓reduceIte, reduceCtorEq, exists_eq_right, c139, f0, f1, f4]
    exact Sub.refl _
  · have hm : Y4 b = (2, 160, 191) := by
      unfold Y4; repeat' split
      all_goals first | omega | (simp; omega) | rfl
    have f0 : decide (b < 128) = false := by simp; omega
    have f1 : decide (194 <= b) = true := by simp; omega
    have f2 : decide (224 <= b) = true := by simp; omega
    have f3 : decide (240 <= b) = false := by simp; omega
    have f4 : decide (b <= 223) = false := by simp; omega
    have f5 : decide (b <= 239) = true := by simp; omega
    have f6 : decide (b <= 244) = true := by simp; omega
    have f7 : (b == 224) = true := by simp; omega
    have f8 : (b == 237) = false := by simp; omega
    have f9 : (b == 240) = false := by simp; omega
    have f10 : (b == 244) = false := by simp; omega
    rw [hm]
    simp -dsimp -implicitDefEqProofs (disch := omega) only [↓Q0 15, ↓Q0 24, VCA, Nat.reduceEqDiff, ↓reduceIte, reduceCtorEq, exists_eq_right, c139, f0, f1, f2, f4, f5, f7]
    exact Sub.refl _
  · have hm : Y4 b = (2, 128, 191) := by
      unfold Y4; repeat' split
      all_goals first | omega | (simp; omega) | rfl
    have f0 : decide (b < 128) = false := by simp; omega
    have f1 : decide (194 <= b) = true := by simp; omega
    have f2 : decide (224 <= b) = true := by simp; omega
    have f3 : decide (240 <= b) = false := by simp; omega
    have f4 : decide (b <= 223) = false := by simp; omega
    have f5 : decide (b <= 239) = true := by simp; omega
    have f6 : decide (b <= 244) = true := by simp; omega
    have f7 : (b == 224) = false := by simp; omega
    have f8 : (b == 237) = false := by simp; omega
    have f9 : (b == 240) = false := by simp; omega
    have f10 : (b == 244) = false := by simp; omega
    rw [hm]
    simp -dsimp -implicitDefEqProofs (disch := omega) only [↓Q0 15, ↓Q0 24, VCA, Nat.reduceEqDiff, ↓reduceIte, reduceCtorEq, exists_eq_right, c139, f0, f1, f2, f4, f5, f7, f8, f9, f10]
    exact Sub.refl _
  · have hm : Y4 b = (2, 128, 159) := by
      unfold Y4; repeat' split
      all_goals first | omega | (simp; omega) | rfl
    have f0 : decide (b < 128) = false := by simp; omega
    have f1 : decide (194 <= b) = true := by simp; omega
    have f2 : decide (224 <= b) = true := by simp; omega
    have f3 : decide (240 <= b) = false := by simp; omega
    have f4 : decide (b <= 223) = false := by simp; omega
    have f5 : decide (b <= 239) = true := by simp; omega
    have f6 : decide (b <= 244) = true := by simp; omega
    have f7 : (b == 224) = false := by simp; omega
    have f8 : (b == 237) = true := by simp; omega
    have f9 : (b == 240) = false := by simp; omega
    have f10 : (b == 244) = false := by simp; omega
    rw [hm]
    simp -dsimp -implicitDefEqProofs (disch := omega) only [↓Q0 15, ↓Q0 24, VCA, Nat.reduceEqDiff, ↓reduceIte, reduceCtorEq, exists_eq_right, c139, f0, f1, f2, f4, f5, f7, f8]
    exact Sub.refl _
  · have hm : Y4 b = (2, 128, 191) := by
      unfold Y4; repeat' split
      all_goals first | omega | (simp; omega) | rfl
    have f0 : decide (b < 128) = false := by simp; omega
    have f1 : decide (194 <= b) = true := by simp; omega
    have f2 : decide (224 <= b) = true := by simp; omega
    have f3 : decide (240 <= b) = false := by simp; omega
    have f4 : decide (b <= 223) = false := by simp; omega
    have f5 : decide (b <= 239) = true := by simp; omega
    have f6 : decide (b <= 244) = true := by simp; omega
    have f7 : (b == 224) = false := by simp; omega
    have f8 : (b == 237) = false := by simp; omega
    have f9 : (b == 240) = false := by simp; omega
    have f10 : (b == 244) = false := by simp; omega
    rw [hm]
    simp -dsimp -implicitDefEqProofs (disch := omega) only [↓Q0 15, ↓Q0 24, VCA, Nat.reduceEqDiff, ↓reduceIte, reduceCtorEq, exists_eq_right, c139, f0, f1, f2, f4, f5, f7, f8, f9, f10]
    exact Sub.refl _
  · have hm : Y4 b = (3, 144, 191) := by
      unfold Y4; repeat' split
      all_goals first | omega | (simp; omega) | rfl
    have f0 : decide (b < 128) = false := by simp; omega
    have f1 : decide (194 <= b) = true := by simp; omega
    have f2 : decide (224 <= b) = true := by simp; omega
    have f3 : decide (240 <= b) = true := by simp; omega
    have f4 : decide (b <= 223) = false := by simp; omega
    have f5 : decide (b <= 239) = false := by simp; omega
    have f6 : decide (b <= 244) = true := by simp; omega
    have f7 : (b == 224) = false := by simp; omega
    have f8 : (b == 237) = false := by simp; omega
    have f9 : (b == 240) = true := by simp; omega
    have f10 : (b == 244) = false := by simp; omega
    rw [hm]
    simp -dsimp -implicitDefEqProofs (disch := omega) only [↓Q0 15, ↓Q0 24, ↓Q0 31, VCA, Nat.reduceEqDiff, ↓reduceIte, reduceCtorEq, exists_eq_right, c139, f0, f1, f2, f3, f4, f5, f6, f7, f8, f9]
    exact Sub.refl _
  · have hm : Y4 b = (3, 128, 191) := by
      unfold Y4; repeat' split
      all_goals first | omega | (simp; omega) | rfl
    have f0 : decide (b < 128) = false := by simp; omega
    have f1 : decide (194 <= b) = true := by simp; omega
    have f2 : decide (224 <= b) = true := by simp; omega
    have f3 : decide (240 <= b) = true := by simp; omega
    have f4 : decide (b <= 223) = false := by simp; omega
    have f5 : decide (b <= 239) = false := by simp; omega
    have f6 : decide (b <= 244) = true := by simp; omega
    have f7 : (b == 224) = false := by simp; omega
    have f8 : (b == 237) = false := by simp; omega
    have f9 : (b == 240) = false := by simp; omega
    have f10 : (b == 244) = false := by simp; omega
    rw [hm]
    simp -dsimp -implicitDefEqProofs (disch := omega) only [↓Q0 15, ↓Q0 24, ↓Q0 31, VCA, Nat.reduceEqDiff, ↓reduceIte, reduceCtorEq, exists_eq_right, c139, f0, f1, f2, f3, f4, f5, f6, f7, f8, f9, f10]
    exact Sub.refl _
  · have hm : Y4 b = (3, 128, 143) := by
      unfold Y4; repeat' split
      all_goals first | omega | (simp; omega) | rfl
    have f0 : decide (b < 128) = false := by simp; omega
    have f1 : decide (194 <= b) = true := by simp; omega
    have f2 : decide (224 <= b) = true := by simp; omega
    have f3 : decide (240 <= b) = true := by simp; omega
    have f4 : decide (b <= 223) = false := by simp; omega
    have f5 : decide (b <= 239) = false := by simp; omega
    have f6 : decide (b <= 244) = true := by simp; omega
    have f7 : (b == 224) = false := by simp; omega
    have f8 : (b == 237) = false := by simp; omega
    have f9 : (b == 240) = false := by simp; omega
    have f10 : (b == 244) = true := by simp; omega
    rw [hm]
    simp -dsimp -implicitDefEqProofs (disch := omega) only [↓Q0 15, ↓Q0 24, ↓Q0 31, VCA, Nat.reduceEqDiff, ↓reduceIte, reduceCtorEq, exists_eq_right, c139, f0, f1, f2, f3, f4, f5, f6, f7, f8, f9, f10]
    exact Sub.refl _
  · have hm : Y4 b = (-1, 128, 191) := by
      unfold Y4; repeat' split
      all_goals first | omega | (simp; omega) | rfl
    have f0 : decide (b < 128) = false := by simp; omega
    have f1 : decide (194 <= b) = true := by simp; omega
    have f2 : decide (224 <= b) = true := by simp; omega
    have f3 : decide (240 <= b) = true := by simp; omega
    have f4 : decide (b <= 223) = false := by simp; omega
    have f5 : decide (b <= 239) = false := by simp; omega
    have f6 : decide (b <= 244) = false := by simp; omega
    have f7 : (b == 224) = false := by simp; omega
    have f8 : (b == 237) = false := by simp; omega
    have f9 : (b == 240) = false := by simp; omega
    have f10 : (b == 244) = false := by simp; omega
    rw [hm]
    simp -dsimp -implicitDefEqProofs (disch := omega) only [↓Q0 15, ↓Q0 24, ↓Q0 31, VCA, Nat.reduceEqDiff, ↓reduceIte, reduceCtorEq, exists_eq_right, c139, f0, f1, f2, f3, f4, f5, f6]
    exact Sub.refl _
def bt (s : List UInt8) (i : Nat) : Int := ((s.getD i 0).toNat : Int)
theorem U6 (s : List UInt8) (i : Nat) : 0 <= bt s i /\ bt s i < 256 := by
  unfold bt; have := (s.getD i 0).toNat_lt; omega
def JY (s : List UInt8) (more : Nat) : Nat -> Nat -> Int -> Int -> Int -> Int × Nat
  | 0, _, _, _, n => (n, more + 1)
  | f + 1, i, low, high, n => if i = s.length \/ bt s i < low \/ high < bt s i then (65533, i) else JY s more f (i + 1) 128 191 (n * 64 + bt s i % 64)
def JQ (s : List UInt8) : Int × Nat :=
  let p := Y4 (bt s 0)
  if p.1 < 0 then (65533, 1) else if p.1 = 0 then (bt s 0, 1)
  else JY s p.1.toNat p.1.toNat 1 p.2.1 p.2.2 (bt s 0 % 2 ^ (6 - p.1.toNat))
theorem leadM_cases (b : Int) : (Y4 b).1 = -1 \/ (Y4 b).1 = 0 \/ ∃ m : Nat, 1 <= m /\ m <= 3 /\ (Y4 b).1 = m := by
  unfold Y4; repeat' split
  all_goals first | exact .inl rfl | exact .inr (.inl rfl) | exact .inr (.inr ⟨1, by omega, by omega, rfl⟩) | exact .inr (.inr ⟨2, by omega, by omega, rfl⟩) | exact .inr (.inr ⟨3, by omega, by omega, rfl⟩)
theorem mask_ok {m : Nat} (h1 : 1 <= m) (h3 : m <= 3) {b : Int} (h0 : 0 <= b) (hb : b < 256) :
    QZ .and .i32 (IntKind.i32.wrap b) (IntKind.i32.wrap (IntKind.i32.wrap (1 * 2 ^ min (6 - (m : Int)).toNat IntKind.i32.bits) - 1)) = b % 2 ^ (6 - m) := by
  have hw : IntKind.i32.wrap b = b := by rw [IntKind.wrap_i32]; omega
  rw [hw]
  rcases (by omega : m = 1 \/ m = 2 \/ m = 3) with rfl | rfl | rfl
  · exact bits_mask .i32 31 (by decide) wraps_i32 5 (by decide) b h0 (by omega)
  · exact bits_mask .i32 31 (by decide) wraps_i32 4 (by decide) b h0 (by omega)
  · exact bits_mask .i32 31 (by decide) wraps_i32 3 (by decide) b h0 (by omega)
theorem join_ok {n b : Int} (h0 : 0 <= n) (h1 : n < 33554432) (hb : 0 <= b) (hb1 : b < 256) :
    QZ .or .i32 (IntKind.i32.wrap (n * 2 ^ min (6 : Int).toNat IntKind.i32.bits)) (IntKind.i32.wrap (QZ .and .u8 b 63)) = n * 64 + b % 64 := by
  have e : (2 : Int) ^ min (6 : Int).toNat IntKind.i32.bits = 64 := rfl
  have e2 : QZ .and .u8 b 63 = b % 64 := u8_and63 _ hb hb1
  have hw : IntKind.i32.wrap (n * 64) = n * 64 := by rw [IntKind.wrap_i32]; omega
  have hw2 : IntKind.i32.wrap (b % 64) = b % 64 := by rw [IntKind.wrap_i32]; omega
  rw [e, e2, hw, hw2]
  exact i32_or6 _ _ (by omega) (by omega) (by omega) (by omega) (by omega)
def c120 : SFun := ⟨.seq (.reg [o 2 (.mv (.c (.int .i32 0))), o 3 (.mv (.c (.int .i64 0)))]) (.seq (.reg [o 10 (.mv (.t 0)), o 11 (.idxS (.t 10) (.c (.int .i64 0))), o 12 (.pcall 139 [.t 11]), o 9 (.mv (.t 12)), o 13 (.ext (.t 9) 0), o 14 (.ext (.t 9) 1), o 15 (.ext (.t 9) 2), o 4 (.mv (.t 13)), o 5 (.mv (.t 14)), o 6 (.mv (.t 15))]) (.seq (.seq (.reg [o 16 (.mv (.t 4)), o 17 (.bin .lss (.t 16) (.c (.int .i64 0)))]) (.cond (.t 17) (.seq (.reg [o 2 (.mv (.c (.int .i32 65533))), o 3 (.mv (.c (.int .i64 1)))]) .ret) .skip)) (.seq (.seq (.reg [o 18 (.mv (.t 4)), o 19 (.bin .eql (.t 18) (.c (.int .i64 0)))]) (.cond (.t 19) (.seq (.reg [o 20 (.mv (.t 0)), o 21 (.idxS (.t 20) (.c (.int .i64 0))), o 22 (.cvi .i32 (.t 21)), o 2 (.mv (.t 22)), o 3 (.mv (.c (.int .i64 1)))]) .ret) .skip)) (.seq (.dreg [(o 23 (.mv (.t 0)), none), (o 24 (.idxS (.t 23) (.c (.int .i64 0))), none), (o 25 (.cvi .i32 (.t 24)), none), (o 26 (.mv (.t 4)), none), (o 27 (.bin .sub (.c (.int .i64 6)) (.t 26)), none), (o 28 (.bin .shl (.c (.int .i32 1)) (.t 27)), none), (o 29 (.bin .sub (.t 28) (.c (.int .i32 1))), none), (o 30 (.bin .and (.t 25) (.t 29)), none), (o 7 (.mv (.t 30)), none)]) (.seq (.seq (.reg [o 8 (.mv (.c (.int .i64 1)))]) (.block 0 (.loop (.seq (.seq (.reg [o 31 (.mv (.t 8)), o 32 (.mv (.t 4)), o 33 (.bin .leq (.t 31) (.t 32))]) (.cond (.t 33) .skip (.exit 0))) (.seq (.block 1 (.seq (.seq (.reg [o 36 (.mv (.t 8)), o 37 (.mv (.t 0)), o 38 (.lenS (.t 37)), o 39 (.bin .eql (.t 36) (.t 38)), o 40 (.mv (.t 39)), ⟨some 41, .mv (.t 0), some (40, false)⟩, ⟨some 42, .mv (.t 8), some (40, false)⟩, ⟨some 43, .idxS (.t 41) (.t 42), some (40, false)⟩, ⟨some 44, .mv (.t 5), some (40, false)⟩, ⟨some 45, .bin .lss (.t 43) (.t 44), some (40, false)⟩, o 46 (.pick (.t 40) (.c (.bool true)) (.t 45)), o 47 (.mv (.t 46)), ⟨some 48, .mv (.t 0), some (47, false)⟩, ⟨some 49, .mv (.t 8), some (47, false)⟩, ⟨some 50, .idxS (.t 48) (.t 49), some (47, false)⟩, ⟨some 51, .mv (.t 6), some (47, false)⟩, ⟨some 52, .bin .gtr (.t 50) (.t 51), some (47, false)⟩, o 53 (.pick (.t 47) (.c (.bool true)) (.t 52))]) (.cond (.t 53) (.seq (.reg [o 54 (.mv (.t 8)), o 2 (.mv (.c (.int .i32 65533))), o 3 (.mv (.t 54))]) .ret) .skip)) (.seq (.reg [o 55 (.mv (.t 7)), o 56 (.bin .shl (.t 55) (.c (.int .u64 6))), o 57 (.mv (.t 0)), o 58 (.mv (.t 8)), o 59 (.idxS (.t 57) (.t 58)), o 60 (.bin .and (.t 59) (.c (.int .u8 63))), o 61 (.cvi .i32 (.t 60)), o 62 (.bin .or (.t 56) (.t 61)), o 7 (.mv (.t 62))]) (.reg [o 5 (.mv (.c (.int .u8 128))), o 6 (.mv (.c (.int .u8 191)))])))) (.reg [o 34 (.mv (.t 8)), o 35 (.bin .add (.t 34) (.c (.int .i64 1))), o 8 (.mv (.t 35))])))))) (.seq (.reg [o 63 (.mv (.t 7)), o 64 (.mv (.t 4)), o 65 (.bin .add (.t 64) (.c (.int .i64 1))), o 2 (.mv (.t 63)), o 3 (.mv (.t 65))]) .ret)))))), [.tmp 2, .tmp 3]⟩
theorem hc120 : J1 Tryz.prog {pure := [139]} Tryz.f120 = some c120 := by kernel_rfl
theorem one_ok (s : List UInt8) (hs : s ≠ []) (hl : s.length <= 1073741824) : PCalls (Pg G) 120 [.str s] (.tup [.int .i32 (JQ s).1, Q4 (JQ s).2]) := fun h => by
  have hp : 0 < s.length := List.length_pos_iff.2 hs
  have hb := U6 s 0
  refine Q1 Tryz.func120 (by kernel_rfl) hc120 (by rw [Tryz.ntmps120]; simp) (by rw [Tryz.ntmps120]; decide) ?_
  simp -dsimp -implicitDefEqProofs (disch := omega) only [VCA, ↓reduceIte, reduceCtorEq, c120]
  refine ⟨by omega, ?_⟩
  refine pcallE.of (lead_ok (bt s 0) hb.1 hb.2) ?_; simp -dsimp -implicitDefEqProofs (disch := omega) only [VCA, Nat.reduceEqDiff, Nat.reduceAdd, Nat.reduceLT, ↓reduceIte]
  have hmo := leadM_cases (bt s 0)
  have hO : JQ s = if (Y4 (bt s 0)).1 < 0 then (65533, 1) else if (Y4 (bt s 0)).1 = 0 then (bt s 0, 1) else JY s (Y4 (bt s 0)).1.toNat (Y4 (bt s 0)).1.toNat 1 (Y4 (bt s 0)).2.1 (Y4 (bt s 0)).2.2 (bt s 0 % 2 ^ (6 - (Y4 (bt s 0)).1.toNat)) := rfl
  generalize Y4 (bt s 0) = q at hmo hO
  obtain ⟨m, lo, hi⟩ := q
  simp only at hO
  simp only at hmo
  rcases hmo with rfl | rfl | ⟨m, hm1, hm3, rfl⟩
  · have a1 : decide ((-1 : Int) < 0) = true := rfl
    simp -dsimp -implicitDefEqProofs (disch := omega) only [VCA, Nat.reduceEqDiff, ↓reduceIte, exists_eq_right_right, a1]
    rw [hO, if_pos (by decide)]
    exact ⟨Sub.refl _, rfl⟩
  · have a2 : decide ((0 : Int) < 0) = false := rfl
    have b2 : ((0 : Int) == 0) = true := rfl
    simp -dsimp -implicitDefEqProofs (disch := omega) only [VCA, Nat.reduceEqDiff, ↓reduceIte, reduceCtorEq, exists_eq_right_right, a2, b2]
    refine ⟨⟨by omega, by omega⟩, Sub.refl _, ?_⟩
    rw [hO, if_neg (by decide), if_pos rfl]
    have : IntKind.i32.wrap (bt s 0) = bt s 0 := by rw [IntKind.wrap_i32]; omega
    exact congrArg (fun z => AVal.tup [AVal.int IntKind.i32 z, AVal.int IntKind.i64 1]) this
  · have a3 : decide ((m : Int) < 0) = false := by simp
    have b3 : ((m : Int) == 0) = false := by simp; omega
    have e3 : ¬ (m : Int) < 0 := by omega
    have e4 : ¬ (m : Int) = 0 := by omega
    simp -dsimp -implicitDefEqProofs (disch := omega) only [VCA, Nat.reduceEqDiff, ↓reduceIte, reduceCtorEq, Y6, Q9, Z7, a3, b3]
    refine ⟨⟨by omega, by omega⟩, by omega, ?_⟩
    have hmk := mask_ok hm1 hm3 hb.1 hb.2
    rw [if_neg e3, if_neg e4, Int.toNat_natCast] at hO
    have hn1 : 0 <= bt s 0 % 2 ^ (6 - m) /\ bt s 0 % 2 ^ (6 - m) < 32 := by
      rcases (by omega : m = 1 \/ m = 2 \/ m = 3) with rfl | rfl | rfl <;> (simp only [Nat.reduceSub]; omega)
    refine LoopVC.intro (fun q e h' => ∃ (f i : Nat) (lo' hi' n : Int), q = f /\ i + f = m + 1 /\ 1 <= i /\ e 0 = .str s /\ e 4 = Q4 m /\ e 5 = .int .u8 lo' /\ e 6 = .int .u8 hi' /\ e 7 = .int .i32 n /\ e 8 = Q4 i /\ i <= s.length /\
      JY s m f i lo' hi' n = JQ s /\ 0 <= n /\ (i = 1 -> n < 32) /\ (i = 2 -> n < 2048) /\ (i = 3 -> n < 131072) /\ (i = 4 -> n < 8388608) /\ h' = h) m ⟨m, 1, lo, hi, bt s 0 % 2 ^ (6 - m), rfl, by omega, by omega, rfl, rfl, rfl, rfl, ?_, rfl, by omega, hO.symm, by omega, by omega, by omega, by omega, by omega, rfl⟩ ?_
    · exact congrArg (AVal.int .i32) hmk
    · rintro q e h' ⟨f, i, lo', hi', n, rfl, hif, hi1, he0, he4, he5, he6, he7, he8, his, hC, hn0, hn1, hn2, hn3, hn4, rfl⟩
      simp -dsimp -implicitDefEqProofs (disch := omega) only [VCA, Nat.reduceEqDiff, ↓reduceIte, he4, he8]
      refine Br.dec (fun hlt => ?_) (fun hge => ?_)
      · obtain ⟨f, rfl⟩ : ∃ f', q = f' + 1 := ⟨q - 1, by omega⟩
        unfold JY at hC
        simp -dsimp -implicitDefEqProofs (disch := omega) only [↓Q0 40, VCA, Nat.reduceEqDiff, ↓reduceIte, reduceCtorEq, he0, he8]
        refine Br.eq (fun h2 => ?_) (fun h2 => ?_)
        · rw [if_pos (.inl (by omega))] at hC
          simp -dsimp -implicitDefEqProofs (disch := omega) only [↓Q0 47, VCA, Nat.reduceEqDiff, ↓reduceIte, exists_eq_right_right, he8]
          refine ⟨Sub.refl _, ?_⟩
          rw [<- hC]
        · have hbi := U6 s i
          simp -dsimp -implicitDefEqProofs (disch := omega) only [↓Q0 47, VCA, Nat.reduceEqDiff, ↓reduceIte, reduceCtorEq, he0, he5, he8]
          refine ⟨by omega, ?_⟩
          refine Br.dec (fun h3 => ?_) (fun h3 => ?_)
          · rw [if_pos (.inr (.inl h3))] at hC
            simp -dsimp -implicitDefEqProofs (disch := omega) only [VCA, Nat.reduceEqDiff, ↓reduceIte, exists_eq_right_right, he8]
            refine ⟨Sub.refl _, ?_⟩
            rw [<- hC]
          · simp -dsimp -implicitDefEqProofs (disch := omega) only [VCA, Nat.reduceEqDiff, ↓reduceIte, reduceCtorEq, he0, he6, he8]
            refine ⟨by omega, ?_⟩
            refine Br.dec (fun h4 => ?_) (fun h4 => ?_)
            · rw [if_pos (.inr (.inr h4))] at hC
              simp -dsimp -implicitDefEqProofs (disch := omega) only [VCA, Nat.reduceEqDiff, ↓reduceIte, exists_eq_right_right, he8]
              refine ⟨Sub.refl _, ?_⟩
              rw [<- hC]
            · have hno : ¬ (i = s.length \/ bt s i < lo' \/ hi' < bt s i) := not_or.2 ⟨by omega, not_or.2 ⟨h3, h4⟩⟩
              rw [if_neg hno] at hC
              have hj := join_ok (n := n) (b := bt s i) hn0 (by
                rcases (by omega : i = 1 \/ i = 2 \/ i = 3) with h | h | h
                · have := hn1 h; omega
                · have := hn2 h; omega
                · have := hn3 h; omega) hbi.1 hbi.2
              simp -dsimp -implicitDefEqProofs (disch := omega) only [VCA, Nat.reduceEqDiff, ↓reduceIte, reduceCtorEq, he0, he4, he7, he8]
              refine ⟨by omega, by omega, ⟨f, by omega, f, i + 1, 128, 191, n * 64 + bt s i % 64, rfl, by omega, by omega, rfl, rfl, ?_, by omega, by omega, hC, by omega, by omega, fun h => ?_, fun h => ?_, fun h => ?_⟩⟩
              · exact hj
              · have := hn1 (by omega); omega
              · have := hn2 (by omega); omega
              · have := hn3 (by omega); omega
      · simp -dsimp -implicitDefEqProofs (disch := omega) only [VCA, Nat.reduceEqDiff, ↓reduceIte, exists_eq_right_right, he4, he7]
        obtain rfl : q = 0 := by omega
        unfold JY at hC
        refine ⟨Sub.refl _, ?_⟩
        rw [<- hC]
        rfl
def firstF (q : Nat -> Bool) : Nat -> Nat -> Nat
  | 0, a => a
  | f + 1, a => if q a = true then a else firstF q f (a + 1)
def UQ (q : Nat -> Bool) (n a : Nat) : Nat := firstF q (n - a) a
theorem first_on {q : Nat -> Bool} {n a : Nat} (h : a < n) (hq : q a = false) : UQ q n a = UQ q n (a + 1) := by
  unfold UQ
  obtain ⟨f, hf⟩ : ∃ f, n - a = f + 1 := ⟨n - a - 1, by omega⟩
  rw [hf, show n - (a + 1) = f by omega, firstF, hq, if_neg (by simp)]
theorem first_off {q : Nat -> Bool} {n a : Nat} (hq : q a = true) (h : a < n) : UQ q n a = a := by
  unfold UQ
  obtain ⟨f, hf⟩ : ∃ f, n - a = f + 1 := ⟨n - a - 1, by omega⟩
  rw [hf, firstF, hq, if_pos rfl]
theorem first_end {q : Nat -> Bool} {n a : Nat} (h : n <= a) : UQ q n a = a := by
  unfold UQ
  rw [show n - a = 0 by omega]; rfl
structure FirstIs (q : Nat -> Bool) (n a k : Nat) : Prop where
  ge : a <= k
  le : k <= n
  hit : k < n -> q k = true
  no : ∀ j, a <= j -> j < k -> q j = false
theorem first_is {q : Nat -> Bool} {n : Nat} : ∀ m a, n - a = m -> a <= n -> FirstIs q n a (UQ q n a)
  | 0, a, hm, h => by
    obtain rfl : a = n := by omega
    rw [first_end (Nat.le_refl _)]
    exact ⟨Nat.le_refl _, Nat.le_refl _, fun h => absurd h (Nat.lt_irrefl _), fun j h1 h2 => by omega⟩
  | m + 1, a, hm, h => by
    cases hq : q a with
    | true =>
      rw [first_off hq (by omega)]
      exact ⟨Nat.le_refl _, h, fun _ => hq, fun j h1 h2 => by omega⟩
    | false =>
      rw [first_on (by omega) hq]
      obtain ⟨h1, h2, h3, h4⟩ := first_is (q := q) (n := n) m (a + 1) (by omega) (by omega)
      refine ⟨by omega, h2, h3, fun j g1 g2 => ?_⟩
      by_cases e : j = a
      · rw [e]; exact hq
      · exact h4 j (by omega) g2
theorem fstI {q : Nat -> Bool} {n a : Nat} (h : a <= n) : FirstIs q n a (UQ q n a) := first_is _ a rfl h
theorem FirstIs.eq {q : Nat -> Bool} {n a k : Nat} (h : FirstIs q n a k) : UQ q n a = k := by
  have g := fstI (q := q) (n := n) (a := a) (Nat.le_trans h.ge h.le)
  rcases Nat.lt_trichotomy (UQ q n a) k with hl | he | hl
  · have h1 := h.no _ g.ge hl
    rw [g.hit (Nat.lt_of_lt_of_le hl h.le)] at h1; cases h1
  · exact he
  · have h1 := g.no _ h.ge hl
    rw [h.hit (Nat.lt_of_lt_of_le hl g.le)] at h1; cases h1
structure HEnt where
  name : List UInt8
  value : List UInt8
deriving DecidableEq, Inhabited
def JK (x : HEnt) : List AVal := [.str x.name, .str x.value]
instance : LenE JK 2 := ⟨fun _ => rfl⟩
def VW (b : Int) : Int := if 48 <= b /\ b <= 57 then b - 48 else if 97 <= b /\ b <= 102 then b - 97 + 10 else if 65 <= b /\ b <= 70 then b - 65 + 10 else 99
def plainI (b : Int) : Bool := (decide (48 <= b) && decide (b <= 57)) || (decide (97 <= b) && decide (b <= 122)) || (decide (65 <= b) && decide (b <= 90)) || b == 42 || b == 45 || b == 46 || b == 95
def hexC (n : Nat) : UInt8 := if n < 10 then UInt8.ofNat (48 + n) else UInt8.ofNat (55 + n)
def encB (b : UInt8) : List UInt8 := if plainI b.toNat = true then [b] else if b.toNat = 32 then [43] else [37, hexC (b.toNat / 16), hexC (b.toNat % 16)]
def encF (s : List UInt8) : List UInt8 := s.flatMap encB
theorem encB_len (b : UInt8) : (encB b).length <= 3 := by unfold encB; (repeat' split) <;> simp
theorem KV : ∀ s : List UInt8, (encF s).length <= 3 * s.length
  | [] => Nat.le_refl _
  | b :: r => by
    have h1 := KV r
    have h2 := encB_len b
    unfold encF at h1 ⊢
    rw [List.flatMap_cons, List.length_append, List.length_cons]; omega
theorem encF_snoc (s : List UInt8) (b : UInt8) : encF (s ++ [b]) = encF s ++ encB b := by unfold encF; rw [List.flatMap_append]; simp
def pct (s : List UInt8) (i : Nat) : Bool := decide (bt s i = 37) && decide (i + 2 < s.length) && decide (VW (bt s (i + 1)) < 16) && decide (VW (bt s (i + 2)) < 16)
def decG (s : List UInt8) : Nat -> Nat -> List UInt8
  | 0, _ => []
  | f + 1, i => if s.length <= i then [] else if bt s i = 43 then 32 :: decG s f (i + 1) else if pct s i = true then UInt8.ofNat (16 * (VW (bt s (i + 1))) + VW (bt s (i + 2))).toNat :: decG s f (i + 3) else s.getD i 0 :: decG s f (i + 1)
def decF (s : List UInt8) (i : Nat) : List UInt8 := decG s (s.length - i) i
theorem decG_more (s : List UInt8) : ∀ f i, s.length - i <= f -> decG s f i = decG s (s.length - i) i := fun f => by
  induction f using Nat.strongRecOn with
  | _ f ih =>
    intro i h
    by_cases hl : s.length <= i
    · have e0 : s.length - i = 0 := by omega
      rw [e0, show decG s 0 i = [] from rfl]
      cases f with
      | zero => rfl
      | succ f => rw [decG, if_pos hl]
    · obtain ⟨g, hg⟩ : ∃ g, s.length - i = g + 1 := ⟨s.length - i - 1, by omega⟩
      cases f with
      | zero => omega
      | succ f =>
        rw [hg, decG, decG, if_neg hl, if_neg hl]
        have h1 : ∀ j, i < j -> decG s f j = decG s g j := fun j hj => by
          rw [ih f (Nat.lt_succ_self f) j (by omega)]
          by_cases hgf : g = f
          · rw [hgf, ih f (Nat.lt_succ_self f) j (by omega)]
          · rw [ih g (by omega) j (by omega)]
        rw [h1 (i + 1) (by omega), h1 (i + 3) (by omega)]
theorem decF_end {s : List UInt8} {i : Nat} (h : s.length <= i) : decF s i = [] := by
  unfold decF; rw [show s.length - i = 0 by omega]; rfl
theorem decF_is {s : List UInt8} {i : Nat} (h : i < s.length) : decF s i = if bt s i = 43 then 32 :: decF s (i + 1) else if pct s i = true then UInt8.ofNat (16 * (VW (bt s (i + 1))) + VW (bt s (i + 2))).toNat :: decF s (i + 3) else s.getD i 0 :: decF s (i + 1) := by
  unfold decF
  obtain ⟨g, hg⟩ : ∃ g, s.length - i = g + 1 := ⟨s.length - i - 1, by omega⟩
  rw [hg, decG, if_neg (by omega), decG_more s g (i + 1) (by omega), decG_more s g (i + 3) (by omega)]
def pcs (c : UInt8) : List UInt8 -> List (List UInt8)
  | [] => [[]]
  | b :: r => if b = c then [] :: pcs c r else match pcs c r with
    | [] => [[b]]
    | p :: q => (b :: p) :: q
theorem pcs_none (c : UInt8) : ∀ s : List UInt8, c ∉ s -> pcs c s = [s]
  | [], _ => rfl
  | b :: r, h => by
    have h1 : b ≠ c := fun e => h (by rw [e]; exact List.mem_cons_self)
    have h2 : c ∉ r := fun e => h (List.mem_cons_of_mem _ e)
    rw [pcs, if_neg h1, pcs_none c r h2]
theorem pcs_cut (c : UInt8) : ∀ (p r : List UInt8), c ∉ p -> pcs c (p ++ c :: r) = p :: pcs c r
  | [], r, _ => by rw [List.nil_append, pcs, if_pos rfl]
  | b :: p, r, h => by
    have h1 : b ≠ c := fun e => h (by rw [e]; exact List.mem_cons_self)
    have h2 : c ∉ p := fun e => h (List.mem_cons_of_mem _ e)
    rw [List.cons_append, pcs, if_neg h1, pcs_cut c p r h2]
def entM (p : List UInt8) : HEnt := ⟨decF (p.takeWhile (· != 61)) 0, decF ((p.dropWhile (· != 61)).drop 1) 0⟩
def entsM (s : List UInt8) : List HEnt := ((pcs 38 s).filter (fun p => p != [])).map entM
def decoded (s : List UInt8) : List HEnt × Int := if 4000 < s.length then ([], 2) else if 100 < (entsM s).length then ([], 2) else (entsM s, 0)
def TZ : List (List UInt8) -> List UInt8
  | [] => []
  | [x] => x
  | x :: y :: r => x ++ 38 :: TZ (y :: r)
def QV (x : HEnt) : List UInt8 := encF x.name ++ 61 :: encF x.value
def coded (l : List HEnt) : List UInt8 × Int := if 100 < l.length then ([], 2) else if 4000 < (TZ (l.map QV)).length then ([], 2) else (TZ (l.map QV), 0)
theorem tk_while {c : UInt8} : ∀ {p r : List UInt8}, c ∉ p -> (p ++ c :: r).takeWhile (· != c) = p /\ (p ++ c :: r).dropWhile (· != c) = c :: r
  | [], r, _ => by simp
  | b :: p, r, h => by
    have h1 : b ≠ c := fun e => h (by rw [e]; exact List.mem_cons_self)
    obtain ⟨g1, g2⟩ := tk_while (p := p) (r := r) fun e => h (List.mem_cons_of_mem _ e)
    have hb : (b != c) = true := by simpa using h1
    rw [List.cons_append, List.takeWhile_cons, List.dropWhile_cons, hb, if_pos rfl, if_pos rfl, g1, g2]
    exact ⟨rfl, rfl⟩
theorem tk_none {c : UInt8} : ∀ {p : List UInt8}, c ∉ p -> p.takeWhile (· != c) = p /\ p.dropWhile (· != c) = []
  | [], _ => ⟨rfl, rfl⟩
  | b :: p, h => by
    have h1 : b ≠ c := fun e => h (by rw [e]; exact List.mem_cons_self)
    obtain ⟨g1, g2⟩ := tk_none (p := p) fun e => h (List.mem_cons_of_mem _ e)
    have hb : (b != c) = true := by simpa using h1
    rw [List.takeWhile_cons, List.dropWhile_cons, hb, if_pos rfl, if_pos rfl, g1, g2]
    exact ⟨rfl, rfl⟩
theorem index1 (c : UInt8) : ∀ s : List UInt8, (c ∉ s /\ Lib.index s [c] = -1) \/ ∃ p r, s = p ++ c :: r /\ c ∉ p /\ Lib.index s [c] = p.length
  | [] => .inl ⟨by simp, rfl⟩
  | b :: l => by
    rw [Lib.index]
    by_cases h : b = c
    · subst h
      have hp : [b].isPrefixOf (b :: l) = true := by simp [List.isPrefixOf]
      rw [if_pos hp]
      exact .inr ⟨[], l, rfl, by simp, rfl⟩
    · have hp : ¬ [c].isPrefixOf (b :: l) = true := by
        simp only [List.isPrefixOf, Bool.and_true, beq_iff_eq]; exact fun e => h e.symm
      rw [if_neg hp]
      rcases index1 c l with ⟨h1, h2⟩ | ⟨p, r, h1, h2, h3⟩
      · refine .inl ⟨fun e => ?_, by rw [h2]; rfl⟩
        rcases List.mem_cons.1 e with e | e
        · exact h e.symm
        · exact h1 e
      · refine .inr ⟨b :: p, r, by rw [h1]; rfl, fun e => ?_, ?_⟩
        · rcases List.mem_cons.1 e with e | e
          · exact h e.symm
          · exact h2 e
        · have hn : (Lib.index l [c] == -1) = false := by rw [h3]; simp
          rw [hn, h3, List.length_cons]; simp
theorem cut1 (c : UInt8) (s : List UInt8) : (Lib.cut s [c]).1 = s.takeWhile (· != c) /\ (Lib.cut s [c]).2.1 = (s.dropWhile (· != c)).drop 1 := by
  unfold Lib.cut
  rcases index1 c s with ⟨h1, h2⟩ | ⟨p, r, h1, h2, h3⟩
  · obtain ⟨g1, g2⟩ := tk_none h1
    rw [h2, if_neg (by decide), g1, g2]; exact ⟨rfl, rfl⟩
  · have g := tk_while (r := r) h2
    rw [<- h1] at g
    rw [h3, if_pos (by omega), g.1, g.2]
    constructor
    · show s.take ((p.length : Int)).toNat = p
      rw [h1]; simp
    · show s.drop (((p.length : Int)).toNat + 1) = _
      rw [h1]; simp
end Go.Proofs.K
end
section
set_option linter.unusedSimpArgs false
set_option linter.unusedVariables false
namespace Go.Proofs.K
open Go Go.Sim Go.Proofs Go.Shelf
variable {G : T0}
def hexU : List UInt8 := [48, 49, 50, 51, 52, 53, 54, 55, 56, 57, 65, 66, 67, 68, 69, 70]
def plainS : List UInt8 := [97, 98, 99, 100, 101, 102, 103, 104, 105, 106, 107, 108, 109, 110, 111, 112, 113, 114, 115, 116, 117, 118, 119, 120, 121, 122, 65, 66, 67, 68, 69, 70, 71, 72, 73, 74, 75, 76, 77, 78, 79, 80, 81, 82, 83, 84, 85, 86, 87, 88, 89, 90, 48, 49, 50, 51, 52, 53, 54, 55, 56, 57, 42, 45, 46, 95]
theorem plain_is (b : UInt8) : decide (0 <= Lib.indexByte plainS b) = plainI b.toNat := of_decide_eq_true (u8_all (p := fun b => decide (decide (0 <= Lib.indexByte plainS b) = plainI b.toNat)) (by decide +kernel) b)
theorem hexU_is (n : Nat) (h : n < 16) : hexU.getD n 0 = hexC n := by
  rcases (show n = 0 \/ n = 1 \/ n = 2 \/ n = 3 \/ n = 4 \/ n = 5 \/ n = 6 \/ n = 7 \/ n = 8 \/ n = 9 \/ n = 10 \/ n = 11 \/ n = 12 \/ n = 13 \/ n = 14 \/ n = 15 by omega) with h | h | h | h | h | h | h | h | h | h | h | h | h | h | h | h <;> subst h <;> rfl
def c64 : SFun := ⟨.seq (.reg [o 4 (.mv (.c (.int .i64 0))), o 5 (.mv (.c (.prim .nilIface)))]) (.seq (.reg [o 6 (.mv (.t 0)), o 7 (.call (.c (.fn 103 [] [])) [.t 6])]) (.seq (.reg [o 8 (.mv (.t 0)), o 9 (.mv (.t 0)), o 10 (.fldA 0 (.t 9)), o 11 (.fldA 1 (.t 10)), o 12 (.ld 1 false (.t 11)), o 13 (.mv (.t 1)), o 14 (.app 5 1 1 (.t 12) (.t 13)), o 15 (.fldA 0 (.t 8)), o 16 (.fldA 1 (.t 15)), ⟨none, .st 1 (.t 16) (.t 14), none⟩]) (.seq (.reg [o 17 (.mv (.t 1)), o 18 (.len (.t 17)), o 4 (.mv (.t 18)), o 5 (.mv (.c (.prim .nilIface)))]) .ret))), [.tmp 4, .tmp 5]⟩
theorem hc64 : J1 Tryz.prog {} Tryz.f64 = some c64 := by kernel_rfl
theorem bwrite_ok {h0 h : Q2} {rb : Nat} {s : List UInt8} (t : List UInt8) (B : Bl h0 rb s h) (ht : t ≠ []) (hs : s.length + t.length <= 1000000000) :
    DCalls (Pg G) 64 [.vp rb 0, .slc (Y0 t)] h fun a h' => Bl h0 rb (s ++ t) h' := by
  obtain ⟨hn, p, buf, hp, hnb, A, S⟩ := B
  have hl : (Y0 t).length = t.length := by simp [Y0]
  refine Q1 Tryz.func64 (by kernel_rfl) hc64 (by rw [Tryz.ntmps64]; simp) (by rw [Tryz.ntmps64]; decide) ?_
  simp -dsimp -implicitDefEqProofs (disch := omega) only [VCA, ↓reduceIte, reduceCtorEq, c64]
  refine copyCheck_ok rb h p buf hp (WJ S) ?_
  simp -dsimp -implicitDefEqProofs (disch := omega) only [VCA, Nat.reduceEqDiff, Nat.reduceAdd, Nat.reduceLT, ↓reduceIte, reduceCtorEq, exists_eq_left']
  have hl2 : (Y0 s).length = s.length := by simp [Y0]
  refine ⟨_, ⟨rfl, fun e he => by obtain ⟨x, _, rfl⟩ := List.mem_map.1 he; rfl⟩, ?_⟩
  refine (acc_at A).app (b := 1) (sub_at S) (by rw [hl, hl2]; omega) (by rw [hl, hl2]; omega) fun a' h3 A' S' => ?_
  obtain ⟨r, h1, h2, rfl⟩ := A'.pos (by simp [Y0]; have := List.length_pos_iff.2 ht; omega)
  simp -dsimp -implicitDefEqProofs (disch := omega) only [VCA, Nat.reduceEqDiff, Nat.reduceAdd, Nat.reduceLT, ↓reduceIte, Y7, exists_eq_left', WJ S']
  exact ⟨_, Sub.refl _, hn, _, _, .inr rfl, fun _ => by simp [ht], by simpa [Y0] using acc_at A', sub_at S'⟩
def digV (b : Int) : Int := if VW b < 16 then VW b else -1
theorem digV_is (b : UInt8) : Lib.indexByte hexU (if 97 <= b.toNat /\ b.toNat <= 102 then b - 32 else b) = digV b.toNat := of_decide_eq_true (u8_all (p := fun b => decide (Lib.indexByte hexU (if 97 <= b.toNat /\ b.toNat <= 102 then b - 32 else b) = digV b.toNat)) (by decide +kernel) b)
def c70 : SFun := ⟨.seq (.reg [o 2 (.mv (.c (.int .i64 0)))]) (.seq (.seq (.reg [o 3 (.mv (.t 0)), o 4 (.bin .geq (.t 3) (.c (.int .u8 97))), o 5 (.mv (.t 4)), ⟨some 6, .mv (.t 0), some (5, true)⟩, ⟨some 7, .bin .leq (.t 6) (.c (.int .u8 102)), some (5, true)⟩, o 8 (.pick (.t 5) (.t 7) (.c (.bool false)))]) (.cond (.t 8) (.reg [o 9 (.mv (.t 0)), o 10 (.bin .sub (.t 9) (.c (.int .u8 32))), o 0 (.mv (.t 10))]) .skip)) (.seq (.reg [o 11 (.mv (.t 0)), o 12 (.pcall 62 [.c (.str [48, 49, 50, 51, 52, 53, 54, 55, 56, 57, 65, 66, 67, 68, 69, 70]), .t 11]), o 2 (.mv (.t 12))]) .ret)), [.tmp 2]⟩
theorem hc70 : J1 Tryz.prog {pure := [62]} Tryz.f70 = some c70 := by kernel_rfl
theorem fdigit_ok (b : UInt8) : PCalls (Pg G) 70 [.int .u8 b.toNat] (Q4 (digV b.toNat)) := fun h => by
  have hd := digV_is b
  by_cases hb : 97 <= b.toNat /\ b.toNat <= 102
  · rw [if_pos hb] at hd
    have cI := KZ (G := G) hexU (b - 32)
    rw [hd] at cI
    have hw : IntKind.u8.wrap ((b.toNat : Int) - 32) = ((b - 32).toNat : Int) := by
      rw [IntKind.wrap_u8, UInt8.toNat_sub]; simp; omega
    unfold hexU at cI
    refine Q1 Tryz.func70 (by kernel_rfl) hc70 (by rw [Tryz.ntmps70]; simp) (by rw [Tryz.ntmps70]; decide) ?_
    simp -dsimp -implicitDefEqProofs (disch := omega) only [↓Q0 5, VCA, ↓reduceIte, reduceCtorEq, c70]
    repeat' (first | ((with_reducible refine brC (fun _ => ?_) fun _ => ?_) <;> try (exfalso; omega)) | (with_reducible apply pcallE.of; · exact cI) | (with_reducible refine And.intro ?_ ?_; · omega) | simp -dsimp -implicitDefEqProofs (disch := omega) only [VCA, Nat.reduceEqDiff, ↓reduceIte, reduceCtorEq, exists_eq_right, hw])
    all_goals first | exact Sub.refl _ | exact ⟨Sub.refl _, rfl⟩
  · rw [if_neg hb] at hd
    have cI := KZ (G := G) hexU b
    rw [hd] at cI
    unfold hexU at cI
    refine Q1 Tryz.func70 (by kernel_rfl) hc70 (by rw [Tryz.ntmps70]; simp) (by rw [Tryz.ntmps70]; decide) ?_
    simp -dsimp -implicitDefEqProofs (disch := omega) only [↓Q0 5, VCA, ↓reduceIte, reduceCtorEq, c70]
    repeat' (first | ((with_reducible refine brC (fun _ => ?_) fun _ => ?_) <;> try (exfalso; omega)) | (with_reducible apply pcallE.of; · exact cI) | (with_reducible refine And.intro ?_ ?_; · omega) | simp -dsimp -implicitDefEqProofs (disch := omega) only [VCA, Nat.reduceEqDiff, ↓reduceIte, reduceCtorEq, exists_eq_right])
    all_goals first | exact Sub.refl _ | exact ⟨Sub.refl _, rfl⟩
theorem shr4 (b : UInt8) : (b.toNat : Int).fdiv (2 ^ min (Int.toNat 4) IntKind.u8.bits) = ((b.toNat / 16 : Nat) : Int) := of_decide_eq_true (u8_all (p := fun b => decide ((b.toNat : Int).fdiv (2 ^ min (Int.toNat 4) IntKind.u8.bits) = ((b.toNat / 16 : Nat) : Int))) (by decide +kernel) b)
theorem and15 (b : UInt8) : QZ .and .u8 (b.toNat : Int) 15 = ((b.toNat % 16 : Nat) : Int) := of_decide_eq_true (u8_all (p := fun b => decide (QZ .and .u8 (b.toNat : Int) 15 = ((b.toNat % 16 : Nat) : Int))) (by decide +kernel) b)
def k23_1 : List UInt8 := [97, 98, 99, 100, 101, 102, 103, 104, 105, 106, 107, 108, 109, 110, 111, 112, 113, 114, 115, 116, 117, 118, 119, 120, 121, 122, 65, 66, 67, 68, 69, 70, 71, 72, 73, 74, 75, 76, 77, 78, 79, 80, 81, 82, 83, 84, 85, 86, 87, 88, 89, 90, 48, 49, 50, 51, 52, 53, 54, 55, 56, 57, 42, 45, 46, 95]
def c23 : SFun := ⟨.seq (.reg [o 2 (.mv (.c (.str [])))]) (.seq (.reg [o 3 (.new 94 2 [.prim (Value.pointer none), .emp])]) (.seq (.seq (.reg [o 6 (.mv (.t 0)), o 7 (.lenS (.t 6)), o 8 (.mv (.c (.int .i64 0)))]) (.block 0 (.loop (.seq (.reg [o 9 (.bin .lss (.t 8) (.t 7))]) (.seq (.cond (.t 9) .skip (.exit 0)) (.seq (.block 1 (.seq (.reg [o 10 (.mv (.t 8)), o 4 (.mv (.t 10))]) (.seq (.reg [o 11 (.mv (.t 0)), o 12 (.mv (.t 4)), o 13 (.idxS (.t 11) (.t 12)), o 5 (.mv (.t 13))]) (.block 2 (.seq (.reg [o 23 (.mv (.t 5)), o 24 (.call (.c (.fn 62 [] [])) [.c (.str k23_1), .t 23]), o 25 (.bin .geq (.t 24) (.c (.int .i64 0))), o 22 (.mv (.t 25))]) (.cond (.t 22) (.reg [o 26 (.mv (.t 5)), o 27 (.call (.c (.fn 63 [] [])) [.t 3, .t 26])]) (.seq (.reg [o 29 (.mv (.t 5)), o 30 (.bin .eql (.t 29) (.c (.int .u8 32))), o 28 (.mv (.t 30))]) (.cond (.t 28) (.reg [o 31 (.call (.c (.fn 63 [] [])) [.t 3, .c (.int .u8 43)])]) (.dreg [(o 14 (.mv (.t 5)), none), (o 15 (.bin .shr (.t 14) (.c (.int .u64 4))), none), (o 16 (.idxS (.c (.str [48, 49, 50, 51, 52, 53, 54, 55, 56, 57, 65, 66, 67, 68, 69, 70])) (.t 15)), none), (o 17 (.mv (.t 5)), none), (o 18 (.bin .and (.t 17) (.c (.int .u8 15))), none), (o 19 (.idxS (.c (.str [48, 49, 50, 51, 52, 53, 54, 55, 56, 57, 65, 66, 67, 68, 69, 70])) (.t 18)), none), (o 20 (.bldF 5 1 [.c (.int .u8 37), .t 16, .t 19]), none), (o 21 (.call (.c (.fn 64 [] [])) [.t 3, .t 20]), (some []))]))))))))) (.reg [o 32 (.bin .add (.t 8) (.c (.int .i64 1))), o 8 (.mv (.t 32))]))))))) (.seq (.reg [o 33 (.call (.c (.fn 65 [] [])) [.t 3]), o 2 (.mv (.t 33))]) .ret))), [.tmp 2]⟩
theorem hc23 : J1 Tryz.prog {} Tryz.f23 = some c23 := by kernel_rfl
theorem fencode_ok (s : List UInt8) (hs : s.length <= 1000000) : PCalls (Pg G) 23 [.str s] (.str (encF s)) := fun h => by
  refine Q1 Tryz.func23 (by kernel_rfl) hc23 (by rw [Tryz.ntmps23]; simp) (by rw [Tryz.ntmps23]; decide) ?_
  simp -dsimp -implicitDefEqProofs (disch := omega) only [VCA, ↓reduceIte, reduceCtorEq, c23]
  intro rb hrb
  refine LoopVC.intro (fun m e h' => ∃ i : Nat, i <= s.length /\ m = s.length - i /\ e 0 = .str s /\ e 3 = .vp rb 0 /\ e 7 = Q4 s.length /\ e 8 = Q4 i /\ Bl h rb (encF (s.take i)) h') s.length
    (by exact ⟨0, by omega, by omega, rfl, rfl, rfl, rfl, Bl.new h rb hrb⟩) ?_
  rintro m e h' ⟨i, hi, rfl, e0, e3, e7, e8, B⟩
  simp -dsimp -implicitDefEqProofs (disch := omega) only [VCA, ↓reduceIte, e7, e8]
  refine Br.dec (fun hlt => ?_) (fun hge => ?_)
  · have hi' : i < s.length := by omega
    obtain ⟨b, hb⟩ : ∃ b, s.getD i 0 = b := ⟨_, rfl⟩
    have tk : s.take (i + 1) = s.take i ++ [b] := by
      rw [List.take_add_one, <- hb, List.getD_eq_getElem?_getD, List.getElem?_eq_getElem hi']; rfl
    have hen := encF_snoc (s.take i) b
    rw [<- tk] at hen
    have hl := KV (s.take i)
    rw [List.length_take] at hl
    have cI := KZ (G := G) plainS b
    have hp := plain_is b
    obtain ⟨z, hz⟩ : ∃ z, Lib.indexByte plainS b = z := ⟨_, rfl⟩
    rw [hz] at cI hp
    unfold plainS at cI
    cases hq : plainI b.toNat
    · rw [hq] at hp
      by_cases h32 : b.toNat = 32
      · have eb : encB b = [43] := by unfold encB; rw [hq, if_neg (by decide), if_pos h32]
        have d1 : ((b.toNat : Int) == 32) = true := by rw [beq_iff_eq]; omega
        have cW := writeByte_ok (G := G) 43 B (by omega)
        have e43 : ((43 : UInt8).toNat : Int) = 43 := rfl
        rw [e43] at cW
        rw [eb] at hen
        repeat' (first | ((with_reducible refine brC (fun _ => ?_) fun _ => ?_) <;> try (exfalso; omega)) | ((refine PCalls.of cI ?_)) | ((refine DCalls.of cW ?_; rintro _ h5 ⟨rfl, B5⟩)) | (with_reducible refine And.intro ?_ ?_; · omega) | simp -dsimp -implicitDefEqProofs (disch := omega) only [VCA, Nat.reduceEqDiff, ↓reduceIte, reduceCtorEq, e0, e3, e7, e8, hb, hp, d1])
        all_goals exact ⟨_, by omega, i + 1, by omega, rfl, by omega, by rw [hen]; exact B5⟩
      · have eb : encB b = [37, hexC (b.toNat / 16), hexC (b.toNat % 16)] := by unfold encB; rw [hq, if_neg (by decide), if_neg h32]
        have d1 : ((b.toNat : Int) == 32) = false := by rw [beq_eq_false_iff_ne]; omega
        have hb256 := b.toNat_lt
        have s1 := shr4 b
        have s2 := and15 b
        have x1 := hexU_is (b.toNat / 16) (by have := b.toNat_lt; omega)
        have x2 := hexU_is (b.toNat % 16) (by omega)
        have cW := bwrite_ok (G := G) [37, hexC (b.toNat / 16), hexC (b.toNat % 16)] B (by simp) (by simp only [List.length_cons, List.length_nil]; omega)
        unfold hexU at x1 x2
        rw [eb] at hen
        repeat' (first | ((with_reducible refine brC (fun _ => ?_) fun _ => ?_) <;> try (exfalso; omega)) | ((refine PCalls.of cI ?_)) | (with_reducible refine And.intro ?_ ?_; · omega) | simp -dsimp -implicitDefEqProofs (disch := omega) only [VCA, Nat.reduceEqDiff, Nat.reduceAdd, ↓reduceIte, reduceCtorEq, Y6, Q9, Z2, Z7, e0, e3, e8, hb, hp, d1, s1, s2, x1, x2])
        refine DCalls.of cW ?_
        rintro v h5 B5
        refine ⟨fun p hp => (by cases hp), ?_⟩
        simp -dsimp -implicitDefEqProofs (disch := omega) only [VCA, Nat.reduceEqDiff, ↓reduceIte, reduceCtorEq, SOp.rd, SI.rd, SX.rd, rdL, e0, e3, e7, e8]
        exact ⟨_, by omega, i + 1, by omega, rfl, by omega, by rw [hen]; exact B5⟩
    · rw [hq] at hp
      have eb : encB b = [b] := by unfold encB; rw [hq, if_pos rfl]
      have cW := writeByte_ok (G := G) b B (by omega)
      rw [eb] at hen
      repeat' (first | ((with_reducible refine brC (fun _ => ?_) fun _ => ?_) <;> try (exfalso; omega)) | ((refine PCalls.of cI ?_)) | ((refine DCalls.of cW ?_; rintro _ h5 ⟨rfl, B5⟩)) | (with_reducible refine And.intro ?_ ?_; · omega) | simp -dsimp -implicitDefEqProofs (disch := omega) only [VCA, Nat.reduceEqDiff, ↓reduceIte, reduceCtorEq, e0, e3, e7, e8, hb, hp])
      all_goals exact ⟨_, by omega, i + 1, by omega, rfl, by omega, by rw [hen]; exact B5⟩
  · obtain rfl : i = s.length := by omega
    rw [List.take_length] at B
    have hl := KV s
    have cS := string_ok (G := G) B (by omega)
    simp -dsimp -implicitDefEqProofs (disch := omega) only [VCA, Nat.reduceEqDiff, ↓reduceIte, e3]
    refine DCalls.of cS ?_
    rintro _ h5 ⟨rfl, S5⟩
    simp -dsimp -implicitDefEqProofs (disch := omega) only [VCA, ↓reduceIte, exists_eq_right]
    exact S5
theorem hexV_lo (b : UInt8) : 0 <= VW b.toNat /\ VW b.toNat <= 99 := by unfold VW; (repeat' split) <;> omega
theorem digV_pos (b : Int) (h0 : 0 <= VW b) : decide (0 <= digV b) = decide (VW b < 16) := by
  unfold digV
  by_cases h : VW b < 16
  · rw [if_pos h, decide_eq_true h, decide_eq_true h0]
  · rw [if_neg h, decide_eq_false h]; rfl
theorem hexV_cases (b : UInt8) (h : VW b.toNat < 16) : ∃ n : Nat, n < 16 /\ VW b.toNat = n := ⟨(VW b.toNat).toNat, by have := hexV_lo b; omega, by have := hexV_lo b; omega⟩
theorem or4 (m n : Nat) (hm : m < 16) (hn : n < 16) : IntKind.u8.wrap (QZ .or .i64 (IntKind.i64.wrap ((m : Int) * 2 ^ min (Int.toNat 4) IntKind.i64.bits)) (n : Int)) = ((16 * m + n : Nat) : Int) := by
  have : ∀ m : Fin 16, ∀ n : Fin 16, IntKind.u8.wrap (QZ .or .i64 (IntKind.i64.wrap ((m.val : Int) * 2 ^ min (Int.toNat 4) IntKind.i64.bits)) (n.val : Int)) = ((16 * m.val + n.val : Nat) : Int) := by decide +kernel
  exact this ⟨m, hm⟩ ⟨n, hn⟩
theorem Acc_rd1 {h h' : Q2} {ty sz : Nat} {cells : List (List AVal)} {a : AVal} (A : Acc h ty sz cells a h') : Rd h' sz a cells := by
  rcases A with ⟨rfl, rfl⟩ | ⟨r, _, g1, rfl⟩
  · rfl
  · exact ⟨rfl, _, g1, by simp, by simp only [List.drop_zero, List.take_length]⟩
def c27 : SFun := ⟨.seq (.reg [o 2 (.mv (.c (.str [])))]) (.seq (.reg [o 3 (.mv (.c .emp))]) (.seq (.seq (.reg [o 4 (.mv (.c (.int .i64 0)))]) (.block 0 (.loop (.seq (.seq (.reg [o 5 (.mv (.t 4)), o 6 (.mv (.t 0)), o 7 (.lenS (.t 6)), o 8 (.bin .lss (.t 5) (.t 7))]) (.cond (.t 8) .skip (.exit 0))) (.seq (.block 1 (.block 2 (.seq (.reg [o 18 (.mv (.t 0)), o 19 (.mv (.t 4)), o 20 (.idxS (.t 18) (.t 19)), o 21 (.bin .eql (.t 20) (.c (.int .u8 43))), o 17 (.mv (.t 21))]) (.cond (.t 17) (.reg [o 22 (.mv (.t 3)), o 23 (.bldF 5 1 [.c (.int .u8 32)]), o 24 (.app 5 1 1 (.t 22) (.t 23)), o 3 (.mv (.t 24))]) (.seq (.reg [o 26 (.mv (.t 0)), o 27 (.mv (.t 4)), o 28 (.idxS (.t 26) (.t 27)), o 29 (.bin .eql (.t 28) (.c (.int .u8 37))), o 30 (.mv (.t 29)), ⟨some 31, .mv (.t 4), some (30, true)⟩, ⟨some 32, .bin .add (.t 31) (.c (.int .i64 2)), some (30, true)⟩, ⟨some 33, .mv (.t 0), some (30, true)⟩, ⟨some 34, .lenS (.t 33), some (30, true)⟩, ⟨some 35, .bin .lss (.t 32) (.t 34), some (30, true)⟩, o 36 (.pick (.t 30) (.t 35) (.c (.bool false))), o 37 (.mv (.t 36)), ⟨some 38, .mv (.t 0), some (37, true)⟩, ⟨some 39, .mv (.t 4), some (37, true)⟩, ⟨some 40, .bin .add (.t 39) (.c (.int .i64 1)), some (37, true)⟩, ⟨some 41, .idxS (.t 38) (.t 40), some (37, true)⟩, ⟨some 42, .pcall 70 [.t 41], some (37, true)⟩, ⟨some 43, .bin .geq (.t 42) (.c (.int .i64 0)), some (37, true)⟩, o 44 (.pick (.t 37) (.t 43) (.c (.bool false))), o 45 (.mv (.t 44)), ⟨some 46, .mv (.t 0), some (45, true)⟩, ⟨some 47, .mv (.t 4), some (45, true)⟩, ⟨some 48, .bin .add (.t 47) (.c (.int .i64 2)), some (45, true)⟩, ⟨some 49, .idxS (.t 46) (.t 48), some (45, true)⟩, ⟨some 50, .pcall 70 [.t 49], some (45, true)⟩, ⟨some 51, .bin .geq (.t 50) (.c (.int .i64 0)), some (45, true)⟩, o 52 (.pick (.t 45) (.t 51) (.c (.bool false))), o 25 (.mv (.t 52))]) (.cond (.t 25) (.seq (.dreg [(o 53 (.mv (.t 3)), none), (o 54 (.mv (.t 0)), none), (o 55 (.mv (.t 4)), none), (o 56 (.bin .add (.t 55) (.c (.int .i64 1))), none), (o 57 (.idxS (.t 54) (.t 56)), none), (o 58 (.pcall 70 [.t 57]), none), (o 59 (.bin .shl (.t 58) (.c (.int .u64 4))), none), (o 60 (.mv (.t 0)), none), (o 61 (.mv (.t 4)), none), (o 62 (.bin .add (.t 61) (.c (.int .i64 2))), none), (o 63 (.idxS (.t 60) (.t 62)), none), (o 64 (.pcall 70 [.t 63]), none), (o 65 (.bin .or (.t 59) (.t 64)), none), (o 66 (.cvi .u8 (.t 65)), none), (o 67 (.bldF 5 1 [.t 66]), none), (o 68 (.app 5 1 1 (.t 53) (.t 67)), (some [])), (o 3 (.mv (.t 68)), (some []))]) (.reg [o 69 (.mv (.t 4)), o 70 (.bin .add (.t 69) (.c (.int .i64 2))), o 4 (.mv (.t 70))])) (.reg [o 11 (.mv (.t 3)), o 12 (.mv (.t 0)), o 13 (.mv (.t 4)), o 14 (.idxS (.t 12) (.t 13)), o 15 (.bldF 5 1 [.t 14]), o 16 (.app 5 1 1 (.t 11) (.t 15)), o 3 (.mv (.t 16))]))))))) (.reg [o 9 (.mv (.t 4)), o 10 (.bin .add (.t 9) (.c (.int .i64 1))), o 4 (.mv (.t 10))])))))) (.seq (.reg [o 71 (.mv (.t 3)), o 72 (.b2s (.t 71)), o 2 (.mv (.t 72))]) .ret))), [.tmp 2]⟩
theorem hc27 : J1 Tryz.prog {pure := [70]} Tryz.f27 = some c27 := by kernel_rfl
theorem fdecode_ok (s : List UInt8) (hs : s.length <= 1000000) : PCalls (Pg G) 27 [.str s] (.str (decF s 0)) := fun h => by
  refine Q1 Tryz.func27 (by kernel_rfl) hc27 (by rw [Tryz.ntmps27]; simp) (by rw [Tryz.ntmps27]; decide) ?_
  simp -dsimp -implicitDefEqProofs (disch := omega) only [VCA, c27]
  refine LoopVC.intro (fun m e h' => ∃ (i : Nat) (o : List UInt8), m = s.length - i /\ i <= s.length + 3 /\ o.length <= i /\ e 0 = .str s /\ e 4 = Q4 i /\ o ++ decF s i = decF s 0 /\ Acc h 5 1 (Y0 o) (e 3) h' /\ Sim.Sub h h') s.length
    (by exact ⟨0, [], by omega, by omega, Nat.le_refl _, rfl, rfl, rfl, .nil, Sub.refl _⟩) ?_
  rintro m e h' ⟨i, o, rfl, hi3, hol, e0, e4, ho, A, S⟩
  have hsl : ∀ l : List UInt8, (Y0 l).length = l.length := fun l => by simp [Y0]
  have sapp : ∀ (l : List UInt8) (b : UInt8), Y0 (l ++ [b]) = Y0 l ++ [[.int .u8 b.toNat]] := fun l b => by simp [Y0]
  simp -dsimp -implicitDefEqProofs (disch := omega) only [VCA, Nat.reduceEqDiff, ↓reduceIte, reduceCtorEq, e0, e4]
  refine Br.dec (fun hlt => ?_) (fun hge => ?_)
  · have hi' : i < s.length := by omega
    have hde := decF_is hi'
    obtain ⟨b, hb⟩ : ∃ b, s.getD i 0 = b := ⟨_, rfl⟩
    have ebt : bt s i = (b.toNat : Int) := by unfold bt; rw [hb]
    by_cases h43 : b.toNat = 43
    · have d1 : ((b.toNat : Int) == 43) = true := by rw [beq_iff_eq]; omega
      rw [ebt, if_pos (by omega)] at hde
      repeat' (first | ((with_reducible refine brC (fun _ => ?_) fun _ => ?_) <;> try (exfalso; omega)) | ((refine A.app (b := 1) S (by rw [hsl]; simp only [List.length_cons, List.length_nil]; omega) (by rw [hsl]; simp only [List.length_cons, List.length_nil]; omega) (fun a' h3 A' S' => ?_))) | (with_reducible refine And.intro ?_ ?_; · omega) | simp -dsimp -implicitDefEqProofs (disch := omega) only [VCA, Nat.reduceEqDiff, ↓reduceIte, reduceCtorEq, Z2, forall_eq, exists_eq_left, e0, e4, hb, d1])
      all_goals exact ⟨_, by omega, i + 1, o ++ [32], rfl, by omega, by simp; omega, by omega, by rw [<- ho, hde]; simp, by rw [sapp]; exact A', S'⟩
    · have d1 : ((b.toNat : Int) == 43) = false := by rw [beq_eq_false_iff_ne]; omega
      rw [ebt, if_neg (by omega)] at hde
      by_cases h37 : b.toNat = 37
      · have d2 : ((b.toNat : Int) == 37) = true := by rw [beq_iff_eq]; omega
        by_cases h2 : i + 2 < s.length
        · have d3 : decide ((i : Int) + 2 < (s.length : Int)) = true := decide_eq_true (by omega)
          obtain ⟨x, hx⟩ : ∃ x, s.getD (i + 1) 0 = x := ⟨_, rfl⟩
          obtain ⟨y, hy⟩ : ∃ y, s.getD (i + 2) 0 = y := ⟨_, rfl⟩
          have ex : bt s (i + 1) = (x.toNat : Int) := by unfold bt; rw [hx]
          have ey : bt s (i + 2) = (y.toNat : Int) := by unfold bt; rw [hy]
          have t1 : ((i : Int) + 1).toNat = i + 1 := by omega
          have t2 : ((i : Int) + 2).toNat = i + 2 := by omega
          have cX := fdigit_ok (G := G) x
          have cY := fdigit_ok (G := G) y
          have pX := digV_pos x.toNat (hexV_lo x).1
          have pY := digV_pos y.toNat (hexV_lo y).1
          have hpct : pct s i = (decide (VW x.toNat < 16) && decide (VW y.toNat < 16)) := by
            unfold pct; rw [ebt, ex, ey, decide_eq_true (by omega : (b.toNat : Int) = 37), decide_eq_true h2]; rfl
          cases qx : decide (VW x.toNat < 16)
          · rw [qx] at pX hpct
            rw [hpct, Bool.false_and, if_neg (by decide)] at hde
            repeat' (first | ((with_reducible refine brC (fun _ => ?_) fun _ => ?_) <;> try (exfalso; omega)) | (with_reducible apply pcallE.of; · exact cX) | (with_reducible apply pcallE.of; · exact cY) | ((refine A.app (b := 1) S (by rw [hsl]; simp only [List.length_cons, List.length_nil]; omega) (by rw [hsl]; simp only [List.length_cons, List.length_nil]; omega) (fun a' h3 A' S' => ?_))) | (with_reducible refine And.intro ?_ ?_; · omega) | simp -dsimp -implicitDefEqProofs (disch := omega) only [↓Q0 30, ↓Q0 37, ↓Q0 45, VCA, Nat.reduceEqDiff, ↓reduceIte, reduceCtorEq, Z2, forall_eq, exists_eq_left, e0, e4, hb, d1, d2, d3, hx, t1, pX])
            all_goals exact ⟨_, by omega, i + 1, o ++ [b], rfl, by omega, by simp; omega, by omega, by rw [<- ho, hde, hb]; simp, by rw [sapp]; exact A', S'⟩
          · cases qy : decide (VW y.toNat < 16)
            · rw [qx] at pX hpct
              rw [qy] at pY hpct
              rw [hpct, Bool.true_and, if_neg (by decide)] at hde
              repeat' (first | ((with_reducible refine brC (fun _ => ?_) fun _ => ?_) <;> try (exfalso; omega)) | (with_reducible apply pcallE.of; · exact cX) | (with_reducible apply pcallE.of; · exact cY) | ((refine A.app (b := 1) S (by rw [hsl]; simp only [List.length_cons, List.length_nil]; omega) (by rw [hsl]; simp only [List.length_cons, List.length_nil]; omega) (fun a' h3 A' S' => ?_))) | (with_reducible refine And.intro ?_ ?_; · omega) | simp -dsimp -implicitDefEqProofs (disch := omega) only [↓Q0 30, ↓Q0 37, ↓Q0 45, VCA, Nat.reduceEqDiff, ↓reduceIte, reduceCtorEq, Z2, forall_eq, exists_eq_left, e0, e4, hb, d1, d2, d3, hx, hy, t1, t2, pX, pY])
              all_goals exact ⟨_, by omega, i + 1, o ++ [b], rfl, by omega, by simp; omega, by omega, by rw [<- ho, hde, hb]; simp, by rw [sapp]; exact A', S'⟩
            · rw [qx] at pX hpct
              rw [qy] at pY hpct
              rw [hpct, Bool.true_and, if_pos rfl, ex, ey] at hde
              obtain ⟨m, hm, em⟩ := hexV_cases x (of_decide_eq_true qx)
              obtain ⟨n, hn, en⟩ := hexV_cases y (of_decide_eq_true qy)
              have dX : digV x.toNat = m := by unfold digV; rw [em, if_pos (by omega)]
              have dY : digV y.toNat = n := by unfold digV; rw [en, if_pos (by omega)]
              have ho4 := or4 m n hm hn
              rw [em, en] at hde
              rw [dX] at cX pX
              rw [dY] at cY pY
              repeat' (first | ((with_reducible refine brC (fun _ => ?_) fun _ => ?_) <;> try (exfalso; omega)) | (with_reducible apply pcallE.of; · exact cX) | (with_reducible apply pcallE.of; · exact cY) | (with_reducible refine And.intro ?_ ?_; · omega) | simp -dsimp -implicitDefEqProofs (disch := omega) only [↓Q0 30, ↓Q0 37, ↓Q0 45, VCA, Nat.reduceEqDiff, ↓reduceIte, reduceCtorEq, Y6, Q9, Z2, forall_eq, exists_eq_left, Z7, e0, e4, hb, d1, d2, d3, hx, hy, t1, t2, pX, pY, ho4])
              have hc : (UInt8.ofNat ((16 : Int) * (m : Int) + (n : Int)).toNat).toNat = 16 * m + n := by
                rw [show ((16 : Int) * (m : Int) + (n : Int)).toNat = 16 * m + n by omega]
                simp; omega
              refine A.app (b := 1) S (by rw [hsl]; simp only [List.length_cons, List.length_nil]; omega) (by rw [hsl]; simp only [List.length_cons, List.length_nil]; omega) (fun a' h3 A' S' => ?_)
              refine ⟨fun p hp => (by cases hp), ?_⟩
              simp -dsimp -implicitDefEqProofs (disch := omega) only [VCA, Nat.reduceEqDiff, ↓reduceIte, reduceCtorEq, SOp.rd, SI.rd, SX.rd, e0, e4]
              refine ⟨_, ?_, i + 3, o ++ [UInt8.ofNat ((16 : Int) * (m : Int) + (n : Int)).toNat], rfl, by omega, by simp; omega, by omega, by rw [<- ho, hde]; simp, ?_, S'⟩
              · omega
              · rw [sapp, hc]; exact A'
        · have d3 : decide ((i : Int) + 2 < (s.length : Int)) = false := decide_eq_false (by omega)
          have hpct : pct s i = false := by unfold pct; rw [decide_eq_false h2]; simp
          rw [hpct, if_neg (by decide)] at hde
          repeat' (first | ((with_reducible refine brC (fun _ => ?_) fun _ => ?_) <;> try (exfalso; omega)) | ((refine A.app (b := 1) S (by rw [hsl]; simp only [List.length_cons, List.length_nil]; omega) (by rw [hsl]; simp only [List.length_cons, List.length_nil]; omega) (fun a' h3 A' S' => ?_))) | (with_reducible refine And.intro ?_ ?_; · omega) | simp -dsimp -implicitDefEqProofs (disch := omega) only [↓Q0 30, ↓Q0 37, ↓Q0 45, VCA, Nat.reduceEqDiff, ↓reduceIte, reduceCtorEq, Z2, forall_eq, exists_eq_left, e0, e4, hb, d1, d2, d3])
          all_goals exact ⟨_, by omega, i + 1, o ++ [b], rfl, by omega, by simp; omega, by omega, by rw [<- ho, hde, hb]; simp, by rw [sapp]; exact A', S'⟩
      · have d2 : ((b.toNat : Int) == 37) = false := by rw [beq_eq_false_iff_ne]; omega
        have hpct : pct s i = false := by unfold pct; rw [ebt, decide_eq_false (by omega : ¬ (b.toNat : Int) = 37)]; rfl
        rw [hpct, if_neg (by decide)] at hde
        repeat' (first | ((with_reducible refine brC (fun _ => ?_) fun _ => ?_) <;> try (exfalso; omega)) | ((refine A.app (b := 1) S (by rw [hsl]; simp only [List.length_cons, List.length_nil]; omega) (by rw [hsl]; simp only [List.length_cons, List.length_nil]; omega) (fun a' h3 A' S' => ?_))) | (with_reducible refine And.intro ?_ ?_; · omega) | simp -dsimp -implicitDefEqProofs (disch := omega) only [↓Q0 30, ↓Q0 37, ↓Q0 45, VCA, Nat.reduceEqDiff, ↓reduceIte, reduceCtorEq, Z2, forall_eq, exists_eq_left, e0, e4, hb, d1, d2])
        all_goals exact ⟨_, by omega, i + 1, o ++ [b], rfl, by omega, by simp; omega, by omega, by rw [<- ho, hde, hb]; simp, by rw [sapp]; exact A', S'⟩
  · have hn := decF_end (s := s) (i := i) (by omega)
    rw [hn, List.append_nil] at ho
    simp -dsimp -implicitDefEqProofs (disch := omega) only [VCA, Nat.reduceEqDiff, ↓reduceIte, exists_eq_right_right]
    exact ⟨by rw [<- ho]; exact Acc_rd1 A, S⟩
end Go.Proofs.K
end
section
set_option linter.unusedVariables false
namespace Go.Proofs.K
open Go Go.Sim
def pL : SCode -> SCode
  | .seq a _ => a
  | c => c
def pR : SCode -> SCode
  | .seq _ b => b
  | c => c
def pB : SCode -> SCode
  | .block _ c => c
  | .range _ _ _ c => c
  | c => c
def pA : SCode -> SCode
  | .range _ _ a _ => a
  | c => c
end Go.Proofs.K
end
section
set_option linter.unusedSimpArgs false
set_option linter.unusedVariables false
namespace Go.Proofs.K
open Go Go.Sim Go.Proofs
variable {G : T0}
theorem cut_ok (hG : X1 G) (s t : List UInt8) (hs : s.length < 4294967281) : PCalls (Pg G) 26 [.str s, .str t] (.tup [.str (Lib.cut s t).1, .str (Lib.cut s t).2.1, .bool (Lib.cut s t).2.2]) := by
  obtain ⟨m, hG⟩ := hG
  refine ofBelow ⟨_, Tryz.func26, by kernel_rfl, by kernel_rfl⟩ fun g w vs GR V => ?_
  obtain ⟨u, v, rfl, hu, hv⟩ := V.two_inv
  rw [hu.str_inv', hv.str_inv']
  refine (Tryz.strings_Cut ⟨⟨s⟩⟩ ⟨⟨t⟩⟩ m w hs (GR.int hG)).mono fun e w' ⟨he, n, hw⟩ => ⟨_, he, ?_, fun g w => ?_⟩
  · rw [hw]; exact ⟨rfl, rfl, rfl, Nat.le_refl _, fun _ _ => rfl⟩
  · refine .tup _ _ rfl fun j u a hu ha => ?_
    match j with
    | 0 => simp at hu ha; subst hu ha; exact VRel.str_mk g w _
    | 1 => simp at hu ha; subst hu ha; exact VRel.str_mk g w _
    | 2 => simp at hu ha; subst hu ha; exact .bool _
    | j + 3 => simp at hu
end Go.Proofs.K
end
section
set_option linter.unusedSimpArgs false
set_option linter.unusedVariables false
namespace Go.Proofs.K
open Go Go.Sim Go.Proofs
section
variable {d : HDoc}
section
variable {a t : Int} {i : Nat}
end
section
variable {n : Int} {i : Nat}
end
end
end Go.Proofs.K
end
section
set_option linter.unusedSimpArgs false
set_option linter.unusedVariables false
namespace Go.Proofs.K
open Go Go.Sim Go.Proofs
structure HEdit where
  do' : Int
  at' : Int
  into : Int
  before : Int
  name : List UInt8
  value : List UInt8
  node : HNode
deriving DecidableEq, Inhabited
def eEdit (e : HEdit) : List AVal := [Q4 e.do', Q4 e.at', Q4 e.into, Q4 e.before, .str e.name, .str e.value, Q4 e.node.kind, .str e.node.name, sl X6 e.node.attrs, .str e.node.text, Q4 e.node.parent, sl Z3 e.node.kids]
instance : LenE eEdit 12 := ⟨fun _ => rfl⟩
theorem attrAt_spec (l : List HAttr) (name : List UInt8) (h : 0 <= V3 l name) : (V3 l name).toNat < l.length /\ (nth l (V3 l name).toNat).name = name /\ ((V3 l name).toNat : Int) = V3 l name := by
  unfold V3 WV at *
  cases hf : l.findIdx? (fun a : HAttr => a.name == name) with
  | none => rw [hf] at h; simp at h
  | some i =>
    simp only [hf] at h ⊢
    rw [List.findIdx?_eq_some_iff_getElem] at hf
    obtain ⟨h1, h2, _⟩ := hf
    refine ⟨by simpa using h1, ?_, by simp⟩
    have : nth l i = l[i] := by unfold nth; rw [List.getD_eq_getElem?_getD, List.getElem?_eq_getElem h1]; rfl
    show (nth l ((i : Int)).toNat).name = name
    rw [show ((i : Int)).toNat = i by simp, this]
    simpa using h2
theorem nodeE_iff (x : HNode) : ZV x = 0 ↔ (1 <= x.kind /\ x.kind <= 5) /\ JZ x = true /\ (x.kind = 2 -> U7 true x.name = true) /\ QT x.attrs = 0 /\ x.text.length <= 400 /\ x.name.length <= 400 := by
  unfold ZV
  constructor
  · intro h
    split at h
    · omega
    · rename_i h1
      simp only [not_or] at h1
      split at h
      · omega
      · rename_i h2
        split at h
        · rename_i h3; exact absurd h h3
        · rename_i h3
          split at h
          · omega
          · rename_i h4
            refine ⟨by omega, by simpa using h1.2.2, fun h5 => ?_, by simpa using h3, by omega, by omega⟩
            cases hn : U7 true x.name with
            | true => rfl
            | false => exact absurd ⟨h5, hn⟩ h2
  · rintro ⟨h1, h2, h3, h4, h5, h6⟩
    rw [if_neg (by rw [h2]; simp; omega), if_neg (by rintro ⟨h7, h8⟩; rw [h3 h7] at h8; cases h8), if_neg (by simpa using h4), if_neg (by omega)]
section
variable {d : HDoc}
end
section
variable {d : HDoc}
end
end Go.Proofs.K
end
section
set_option linter.unusedSimpArgs false
set_option linter.unusedVariables false
namespace Go.Proofs.K
open Go Go.Sim Go.Proofs
variable {G : T0}
def U3 : AVal -> Option Nat
  | .osl r _ _ _ => some r
  | _ => none
def OwnS (h : Q2) (ty sz : Nat) (cells : List (List AVal)) (a : AVal) : Prop :=
  (cells = [] /\ a = .emp) \/ (a = .slc cells /\ ∀ e ∈ cells, e.length = sz) \/ ∃ r es, a = .osl r sz 0 cells.length /\ h r = some ⟨ty, sz, es⟩ /\ cells.length <= es.length /\ es.take cells.length = cells
def Mut (a : AVal) : Prop := ∀ es, a ≠ .slc es
theorem OwnS.keep {h h2 : Q2} {ty sz : Nat} {cells : List (List AVal)} {a : AVal} (O : OwnS h ty sz cells a) (hk : ∀ r o, U3 a = some r -> h r = some o -> h2 r = some o) : OwnS h2 ty sz cells a := by
  rcases O with O | O | ⟨r, es, ha, hr, h1, h2⟩
  · exact .inl O
  · exact .inr (.inl O)
  · exact .inr (.inr ⟨r, es, ha, hk r _ (by rw [ha]; rfl) hr, h1, h2⟩)
theorem OwnS.of_acc {h h' : Q2} {ty sz : Nat} {cells : List (List AVal)} {a : AVal} (A : Acc h ty sz cells a h') : OwnS h' ty sz cells a /\ (∀ r, U3 a = some r -> h r = none) /\ Mut a := by
  rcases A with ⟨h1, h2⟩ | ⟨r, h0, h1, h2⟩
  · exact ⟨.inl ⟨h1, h2⟩, fun r hr => by (rw [h2] at hr; cases hr), fun es e => by rw [h2] at e; cases e⟩
  · exact ⟨.inr (.inr ⟨r, _, h2, h1, Nat.le_refl _, by rw [List.take_length]⟩), fun r' hr => by (rw [h2] at hr; cases hr; exact h0), fun es e => by rw [h2] at e; cases e⟩
theorem OwnS.isV {h : Q2} {ty sz : Nat} {cells : List (List AVal)} {a : AVal} (O : OwnS h ty sz cells a) : isV a = true /\ cellsOf a = [a] := by
  rcases O with ⟨h1, h2⟩ | ⟨h2, _⟩ | ⟨r, es, ha, _⟩
  · subst h2; exact ⟨rfl, rfl⟩
  · subst h2; exact ⟨rfl, rfl⟩
  · subst ha; exact ⟨rfl, rfl⟩
theorem OwnS.vw {α : Type} [Inhabited α] {enc : α -> List AVal} {h : Q2} {ty sz : Nat} [LenE enc sz] {l : List α} {a : AVal} (O : OwnS h ty sz (l.map enc) a) : Vw h a (sl enc l) := by
  rcases O with ⟨h1, h2⟩ | ⟨h2, _⟩ | ⟨r, es, ha, hr, h1, h2⟩
  · have : l = [] := by simpa using h1
    subst this; subst h2; exact .emp
  · subst h2; exact .refl _
  · subst ha
    refine .osl r sz 0 _ ⟨ty, sz, es⟩ (l.map enc) hr (by simpa using h1) rfl (fun f hf => by obtain ⟨x, _, rfl⟩ := List.mem_map.1 hf; exact LenE.len x) fun k j e f x y he hf hx hy => ?_
    have hk : k < (l.map enc).length := (List.getElem?_eq_some_iff.1 hf).1
    simp only [Nat.zero_add] at he
    have he' : (es.take (l.map enc).length)[k]? = some e := by rw [List.getElem?_take, if_pos hk]; exact he
    rw [h2] at he'
    rw [he'] at hf
    cases hf
    rw [hx] at hy; cases hy; exact .refl _
theorem _root_.Go.Sim.Acc.re {h1 h2 h1' h2' : Q2} {ty : TypeId} {sz : Nat} {cells : List (List AVal)} {a : AVal} (A : Acc h1 ty sz cells a h2) (hd : ∀ r o, h1 r = none -> h2 r = some o -> h1' r = none /\ h2' r = some o) : Acc h1' ty sz cells a h2' := by
  rcases A with h | ⟨r, h0, h1, h2⟩
  · exact .inl h
  · exact .inr ⟨r, (hd r _ h0 h1).1, (hd r _ h0 h1).2, h2⟩
theorem _root_.Go.Sim.Acc.keepA {h h1 : Q2} {ty : TypeId} {sz : Nat} {cells : List (List AVal)} {a : AVal} (A : Acc h ty sz cells a h1) {r2 : Nat} (hn : U3 a ≠ some r2) (o : Option AObj) : Acc h ty sz cells a (upd h1 r2 o) := by
  rcases A with q | ⟨r, q0, q1, q2⟩
  · exact .inl q
  · have : r ≠ r2 := fun e => hn (by rw [q2, e]; rfl)
    exact .inr ⟨r, q0, by rw [J9 _ _ this]; exact q1, q2⟩
theorem _root_.Go.Sim.Acc.appW {h h' : Q2} {ty : TypeId} {sz b : Nat} {cells es2 : List (List AVal)} {a : AVal} {K : AVal -> Q2 -> Prop} (A : Acc h ty sz cells a h') (S : Sub h h')
    (h1 : (cells.length + es2.length) * b <= 140737488355328) (h2 : cells.length + es2.length <= 140737488355328)
    (hk : ∀ a' h'', Acc h ty sz (cells ++ es2) a' h'' -> Sub h h'' -> (∀ r o, h' r = some o -> U3 a ≠ some r -> h'' r = some o /\ U3 a' ≠ some r) -> K a' h'') : Hd (appE ty sz b a es2 h') K .mk := by
  rcases A with ⟨rfl, rfl⟩ | ⟨r, h0, hr, rfl⟩
  · refine ⟨by simpa using h1, by simpa using h2, fun r hr => hk _ _ ?_ (S.upd (S.none hr)) fun x o hx _ => ?_⟩
    · exact .inr ⟨r, S.none hr, by simp, rfl⟩
    · have : x ≠ r := fun e => by rw [e, hr] at hx; cases hx
      exact ⟨by rw [J9 _ _ this]; exact hx, fun e => this (by cases e; rfl)⟩
  · refine ⟨rfl, _, hr, rfl, by simp, h1, h2, fun r' hr' => hk _ _ ?_ ?_ fun x o hx hn => ?_⟩
    · have hn : h r' = none := (S.del h0).none hr'
      refine .inr ⟨r', hn, by simp, by simp⟩
    · exact (S.del h0).upd ((S.del h0).none hr')
    · have hxr : x ≠ r := fun e => hn (by rw [e]; rfl)
      have hd : del h' r x = some o := by unfold del; rw [if_neg hxr]; exact hx
      have : x ≠ r' := fun e => by rw [e, hr'] at hd; cases hd
      exact ⟨by rw [J9 _ _ this]; exact hd, fun e => this (by cases e; rfl)⟩
end Go.Proofs.K
end
section
set_option linter.unusedSimpArgs false
set_option linter.unusedVariables false
namespace Go.Proofs.K
open Go Go.Sim Go.Proofs Go.Shelf
variable {G : T0}
def c68 : SFun := ⟨.seq (.reg [o 3 (.box 9 1 (.t 0)), o 4 (.boxF 9 1 (.t 1)), o 5 (.boxF 3 1 (.t 2)), o 6 (.mv (.c (.prim .nilFunc)))]) (.seq (.reg [o 7 (.mkf 105 [] [.t 4, .t 3, .t 5]), o 6 (.mv (.t 7))]) .ret), [.tmp 6]⟩
theorem hc68 : J1 Tryz.prog {how := [(3, 6)]} Tryz.f68 = some c68 := by kernel_rfl
theorem splitSeq0_ok {h : Q2} (s t : List UInt8) (n : Int) : DCalls (Pg G) 68 [.str s, .str t, Q4 n] h fun r h' => ∃ rb, h rb = none /\ r = .fn 105 [] [.pin [.str t], .vp rb 0, .pin [Q4 n]] /\ h' = upd h rb (some ⟨.t 9, 1, [[.str s]]⟩) := by
  refine Q1 Tryz.func68 (by kernel_rfl) hc68 (by rw [Tryz.ntmps68]; simp) (by rw [Tryz.ntmps68]; decide) ?_
  simp -dsimp -implicitDefEqProofs (disch := omega) only [VCA, Nat.reduceEqDiff, ↓reduceIte, c68]
  intro rb hrb
  exact ⟨_, Sub.refl _, rb, hrb, rfl, rfl⟩
def c25 : SFun := ⟨.seq (.reg [o 4 (.mv (.c (.prim .nilFunc)))]) (.seq (.reg [o 5 (.mv (.t 0)), o 6 (.mv (.t 1)), o 7 (.call (.c (.fn 68 [] [])) [.t 5, .t 6, .c (.int .i64 0)]), o 4 (.mv (.t 7))]) .ret), [.tmp 4]⟩
theorem hc25 : J1 Tryz.prog {} Tryz.f25 = some c25 := by kernel_rfl
theorem splitSeq_ok {h : Q2} (s t : List UInt8) : DCalls (Pg G) 25 [.str s, .str t] h fun r h' => ∃ rb, h rb = none /\ r = .fn 105 [] [.pin [.str t], .vp rb 0, .pin [Q4 0]] /\ h' = upd h rb (some ⟨.t 9, 1, [[.str s]]⟩) := by
  refine Q1 Tryz.func25 (by kernel_rfl) hc25 (by rw [Tryz.ntmps25]; simp) (by rw [Tryz.ntmps25]; decide) ?_
  simp -dsimp -implicitDefEqProofs (disch := omega) only [VCA, Nat.reduceEqDiff, ↓reduceIte, reduceCtorEq, c25]
  refine DCalls.of (splitSeq0_ok s t 0) ?_
  rintro r h1 ⟨rb, hb, rfl, rfl⟩
  simp -dsimp -implicitDefEqProofs (disch := omega) only [VCA, ↓reduceIte]
  exact ⟨_, Sub.refl _, rb, hb, rfl, rfl⟩
def EM (l : List (List UInt8)) : List HEnt := (l.filter (fun p => p != [])).map entM
theorem EM_cons (p : List UInt8) (l : List (List UInt8)) : EM (p :: l) = EM [p] ++ EM l := by
  unfold EM
  by_cases h : p = []
  · subst h; rfl
  · have : (p != []) = true := by simpa using h
    rw [List.filter_cons, if_pos this, List.filter_cons, if_pos this]; rfl
theorem OwnS.vwN {α : Type} [Inhabited α] {enc : α -> List AVal} {h0 h : Q2} {ty sz : Nat} [LenE enc sz] {l : List α} {a : AVal} (O : OwnS h ty sz (l.map enc) a) (hf : ∀ r, U3 a = some r -> h0 r = none) : Vw (newH h0 h) a (sl enc l) :=
  OwnS.vw (O.keep fun r o hr ho => by rw [newH_none (hf r hr)]; exact ho)
structure SD (h0 h : Q2) (r4 rb : Nat) (L : List HEnt) (cur : List UInt8) (ao : AVal) : Prop where
  c4 : h r4 = some ⟨.t 22, 1, [[ao]]⟩
  cb : h rb = some ⟨.t 9, 1, [[.str cur]]⟩
  acc : Acc h0 25 2 (L.map JK) ao h
  sub : Sim.Sub h0 h
  f4 : h0 r4 = none
  fb : h0 rb = none
  ne : r4 ≠ rb
  n4 : U3 ao ≠ some r4
  nb : U3 ao ≠ some rb
theorem SD.cut {h0 h : Q2} {r4 rb : Nat} {L : List HEnt} {cur : List UInt8} {ao : AVal} (S : SD h0 h r4 rb L cur ao) (c2 : List UInt8) : SD h0 (upd h rb (some ⟨.t 9, 1, [[.str c2]]⟩)) r4 rb L c2 ao :=
  ⟨by rw [J9 _ _ S.ne]; exact S.c4, J7 _ _ _, S.acc.keepA S.nb _, S.sub.upd S.fb, S.f4, S.fb, S.ne, S.n4, S.nb⟩
theorem SD.add {h0 h h2 : Q2} {r4 rb : Nat} {L : List HEnt} {cur : List UInt8} {ao a2 : AVal} {x : HEnt} (S : SD h0 h r4 rb L cur ao) (A2 : Acc h0 25 2 (L.map JK ++ [JK x]) a2 h2) (S2 : Sim.Sub h0 h2) (kp : ∀ r o, h r = some o -> U3 ao ≠ some r -> h2 r = some o /\ U3 a2 ≠ some r) :
    SD h0 (upd h2 r4 (some ⟨.t 22, 1, [[a2]]⟩)) r4 rb (L ++ [x]) cur a2 := by
  have p4 := kp _ _ S.c4 S.n4
  have pb := kp _ _ S.cb S.nb
  refine ⟨J7 _ _ _, by rw [J9 _ _ (fun e => S.ne e.symm)]; exact pb.1, ?_, S2.upd S.f4, S.f4, S.fb, S.ne, p4.2, pb.2⟩
  rw [List.map_append]
  exact A2.keepA p4.2 _
def c8 : SFun := ⟨.seq (.reg [o 2 (.mv (.c .emp)), o 3 (.mv (.c (.int .i64 0)))]) (.seq (.seq (.reg [o 9 (.mv (.t 0)), o 10 (.lenS (.t 9)), o 11 (.bin .gtr (.t 10) (.c (.int .i64 4000)))]) (.cond (.t 11) (.seq (.reg [o 2 (.mv (.c .emp)), o 3 (.mv (.c (.int .i64 2)))]) .ret) .skip)) (.seq (.reg [o 4 (.new 22 1 [.emp])]) (.seq (.seq (.reg [o 12 (.mv (.t 0)), o 13 (.call (.c (.fn 25 [] [])) [.t 12, .c (.str [38])])]) (.block 0 (.range (.t 13) [14] (.reg [o 5 (.mv (.t 14))]) (.block 1 (.seq (.seq (.reg [o 15 (.mv (.t 5)), o 16 (.bin .eql (.t 15) (.c (.str [])))]) (.cond (.t 16) (.exit 1) .skip)) (.seq (.reg [o 18 (.mv (.t 5)), o 19 (.pcall 26 [.t 18, .c (.str [61])]), o 17 (.mv (.t 19)), o 20 (.ext (.t 17) 0), o 21 (.ext (.t 17) 1), o 22 (.ext (.t 17) 2), o 6 (.mv (.t 20)), o 7 (.mv (.t 21)), o 8 (.mv (.t 22))]) (.dreg [(o 23 (.ld 1 false (.t 4)), none), (o 24 (.mv (.t 6)), none), (o 25 (.pcall 27 [.t 24]), none), (o 26 (.mv (.t 7)), none), (o 27 (.pcall 27 [.t 26]), none), (o 28 (.bld [.str [], .str []] [(0, (1, (.t 25))), (1, (1, (.t 27)))]), none), (o 29 (.bldF 25 2 [.t 28]), none), (o 30 (.app 25 2 32 (.t 23) (.t 29)), (some [23])), (⟨none, .st 1 (.t 4) (.t 30), none⟩, (some [23]))]))))))) (.seq (.seq (.reg [o 31 (.ld 1 false (.t 4)), o 32 (.len (.t 31)), o 33 (.bin .gtr (.t 32) (.c (.int .i64 100)))]) (.cond (.t 33) (.seq (.reg [o 2 (.mv (.c .emp)), o 3 (.mv (.c (.int .i64 2)))]) .ret) .skip)) (.seq (.reg [o 34 (.ld 1 false (.t 4)), o 2 (.mv (.t 34)), o 3 (.mv (.c (.int .i64 0)))]) .ret))))), [.tmp 2, .tmp 3]⟩
theorem hc8 : J1 Tryz.prog {pure := [27, 26]} Tryz.f8 = some c8 := by kernel_rfl
def rngD : SCode := pB (pR (pL (pR (pR (pR c8.code)))))
theorem takeW_le (q : UInt8 -> Bool) (p : List UInt8) : (p.takeWhile q).length <= p.length := (List.takeWhile_sublist _).length_le
theorem dropW_le (q : UInt8 -> Bool) (p : List UInt8) : ((p.dropWhile q).drop 1).length <= p.length := by
  rw [List.length_drop]; have := (List.dropWhile_sublist q (l := p)).length_le; omega
theorem dbdy_ok (hG : X1 G) {h0 h : Q2} {r4 rb : Nat} {L : List HEnt} {cur p : List UInt8} {ao : AVal} {e : Env} {R : SExit -> Q2 -> Prop} (S : SD h0 h r4 rb L cur ao) (e4 : e 4 = .vp r4 0) (hp : p.length <= 5000) (hL : L.length <= 100000)
    (hR : ∀ h' ao', SD h0 h' r4 rb (L ++ EM [p]) cur ao' -> R .normal h') : bdy [14] (vc (Pg G) (pA rngD)) (vc (Pg G) (pB rngD)) e [.str p] h R := by
  have g4 := S.c4
  skip
  by_cases h0 : p = []
  · subst h0
    have e0 : EM [([] : List UInt8)] = [] := rfl
    have d0 : (([] : List UInt8) == []) = true := rfl
    rw [e0] at hR
    simp -dsimp -implicitDefEqProofs (disch := omega) only [VCA, ↓reduceIte, MT3, bdy_is, rngD, pA, pB, pL, pR, c8, d0]
    refine hR h ao ?_
    rw [List.append_nil]; exact S
  · have d0 : (p == []) = false := by simpa using h0
    have cC := cut_ok (G := G) hG p [61] (by omega)
    have hc := cut1 61 p
    rw [hc.1, hc.2] at cC
    have t1 := takeW_le (· != 61) p
    have t2 := dropW_le (· != 61) p
    have em : EM [p] = [entM p] := by unfold EM; rw [List.filter_cons, if_pos (by simpa using h0)]; rfl
    rw [em] at hR
    unfold entM at hR
    obtain ⟨u, hu⟩ : ∃ u, p.takeWhile (· != 61) = u := ⟨_, rfl⟩
    obtain ⟨v, hv⟩ : ∃ v, (p.dropWhile (· != 61)).drop 1 = v := ⟨_, rfl⟩
    rw [hu] at cC t1 hR
    rw [hv] at cC t2 hR
    have c1 := fdecode_ok (G := G) u (by omega)
    have c2 := fdecode_ok (G := G) v (by omega)
    simp -dsimp -implicitDefEqProofs (disch := omega) only [VCA, Nat.reduceEqDiff, ↓reduceIte, bdy_is, rngD, pA, pB, pL, pR, c8, d0]
    repeat' (first | ((with_reducible refine brC (fun _ => ?_) fun _ => ?_) <;> try (exfalso; omega)) | (with_reducible apply pcallE.of; · exact cC) | (with_reducible apply pcallE.of; · exact c1) | (with_reducible apply pcallE.of; · exact c2) | (with_reducible refine And.intro ?_ ?_; · omega) | simp -dsimp -implicitDefEqProofs (disch := omega) only [VCA, Nat.reduceEqDiff, Nat.reduceAdd, Nat.reduceLT, Nat.reduceLeDiff, ↓reduceIte, Y6, Q9, Z2, K7, X0, forall_eq, exists_eq_left, exists_eq_left', Z7, e4, g4])
    refine S.acc.appW S.sub (by simp only [List.length_map, List.length_cons, List.length_nil]; omega) (by simp only [List.length_map, List.length_cons, List.length_nil]; omega) fun a2 h4 A4 S4 kp => ?_
    refine ⟨fun q hq hc => ?_, ?_⟩
    · rw [List.mem_singleton] at hq; subst hq; simp at hc
    have g4' := (kp _ _ g4 S.n4).1
    have iv := (OwnS.of_acc A4).1.isV
    simp -dsimp -implicitDefEqProofs (disch := omega) only [VCA, Nat.reduceEqDiff, Nat.reduceBEq, Nat.reduceLT, ↓reduceIte, SOp.rd, SI.rd, SX.rd, Y7, exists_eq_left', MT3, e4, g4']
    refine ⟨iv.1, by rw [iv.2]; rfl, ?_⟩
    rw [iv.2]
    exact hR _ _ (S.add (x := ⟨decF u 0, decF v 0⟩) A4 S4 kp)
def c105 : MCode := (.seq (.seq (.reg [.op (o 9 (.ld 1 false (.t 1))), .op (o 10 (.lenS (.t 9))), .op (o 11 (.bin .eql (.t 10) (.c (.int .i64 0))))]) (.cond (.t 11) (.seq (.block 0 (.loop (.seq (.seq (.reg [.op (o 12 (.ld 1 false (.t 2))), .op (o 13 (.lenS (.t 12))), .op (o 14 (.bin .gtr (.t 13) (.c (.int .i64 0))))]) (.cond (.t 14) .skip (.exit 0))) (.block 1 (.seq (.reg [.op (o 16 (.ld 1 false (.t 2))), .op (o 17 (.pcall 106 [.t 16])), .op (o 15 (.mv (.t 17))), .op (o 18 (.ext (.t 15) 0)), .op (o 19 (.ext (.t 15) 1)), .op (o 5 (.mv (.t 18))), .op (o 6 (.mv (.t 19)))]) (.seq (.seq (.reg [.op (o 20 (.mv (.t 0))), .op (o 21 (.ld 1 false (.t 2))), .op (o 22 (.mv (.t 6))), .op (o 23 (.slS (.t 21) none (some (.t 22)))), .yld (some 24) (.t 20) [.t 23], .op (o 25 (.un .not (.t 24)))]) (.cond (.t 25) .ret .skip)) (.reg [.op (o 26 (.ld 1 false (.t 2))), .op (o 27 (.mv (.t 6))), .op (o 28 (.slS (.t 26) (some (.t 27)) none)), .op ⟨none, .st 1 (.t 2) (.t 28), none⟩]))))))) .ret) .skip)) (.seq (.block 2 (.loop (.block 3 (.seq (.reg [.op (o 29 (.ld 1 false (.t 2))), .op (o 30 (.ld 1 false (.t 1))), .op (o 31 (.pcall 107 [.t 29, .t 30])), .op (o 7 (.mv (.t 31)))]) (.seq (.seq (.reg [.op (o 32 (.mv (.t 7))), .op (o 33 (.bin .lss (.t 32) (.c (.int .i64 0))))]) (.cond (.t 33) (.exit 2) .skip)) (.seq (.reg [.op (o 34 (.ld 1 false (.t 2))), .op (o 35 (.mv (.t 7))), .op (o 36 (.ld 1 false (.t 3))), .op (o 37 (.bin .add (.t 35) (.t 36))), .op (o 38 (.slS (.t 34) none (some (.t 37)))), .op (o 8 (.mv (.t 38)))]) (.seq (.seq (.reg [.op (o 39 (.mv (.t 0))), .op (o 40 (.mv (.t 8))), .yld (some 41) (.t 39) [.t 40], .op (o 42 (.un .not (.t 41)))]) (.cond (.t 42) .ret .skip)) (.reg [.op (o 43 (.ld 1 false (.t 2))), .op (o 44 (.mv (.t 7))), .op (o 45 (.ld 1 false (.t 1))), .op (o 46 (.lenS (.t 45))), .op (o 47 (.bin .add (.t 44) (.t 46))), .op (o 48 (.slS (.t 43) (some (.t 47)) none)), .op ⟨none, .st 1 (.t 2) (.t 48), none⟩])))))))) (.reg [.op (o 49 (.mv (.t 0))), .op (o 50 (.ld 1 false (.t 2))), .yld (some 51) (.t 49) [.t 50]])))
theorem hc105 : toMF Tryz.prog {pure := [107, 106]} Tryz.f105 = some c105 := by kernel_rfl
theorem pcs_len (c : UInt8) : ∀ s : List UInt8, (pcs c s).length <= s.length + 1
  | [] => Nat.le_refl _
  | b :: r => by
    have h := pcs_len c r
    rw [pcs]
    split
    · simp only [List.length_cons]; omega
    · split
      · simp
      · rename_i p q hq
        rw [hq] at h
        simp only [List.length_cons] at h ⊢; omega
theorem entsM_len (s : List UInt8) : (entsM s).length <= s.length + 1 := by
  unfold entsM; rw [List.length_map]; exact Nat.le_trans (List.length_filter_le _ _) (pcs_len 38 s)
theorem decoded_long {s : List UInt8} (h : 4000 < s.length) : Go.Proofs.K.decoded s = ([], 2) := if_pos h
theorem fDecode_ok (hG : X1 G) (s : List UInt8) (hs : s.length <= 1073741824) : PCalls (Pg G) 8 [.str s] (.tup [sl JK (decoded s).1, Q4 (decoded s).2]) := PCalls.outV fun h => by
  by_cases h4 : 4000 < s.length
  · have d0 : decide ((4000 : Int) < (s.length : Int)) = true := decide_eq_true (by omega)
    rw [decoded_long h4]
    refine Q1 Tryz.func8 (by kernel_rfl) hc8 (by rw [Tryz.ntmps8]; simp) (by rw [Tryz.ntmps8]; decide) ?_
    simp -dsimp -implicitDefEqProofs (disch := omega) only [VCA, Nat.reduceEqDiff, ↓reduceIte, reduceCtorEq, c8, d0]
    repeat' (first | ((with_reducible refine brC (fun _ => ?_) fun _ => ?_) <;> try (exfalso; omega)) | (with_reducible refine And.intro ?_ ?_; · omega) | simp -dsimp -implicitDefEqProofs (disch := omega) only [VCA, TX, ↓U5, Nat.reduceEqDiff, Nat.reduceBEq, Nat.reduceAdd, Nat.reduceSub, Nat.reduceMul, Nat.reduceLT, Nat.reduceLeDiff, ↓reduceIte, reduceCtorEq, Y6, Q9, SOp.rd, SI.rd, SX.rd, rdL, rdO, rdP, Z2, Y3, J6, K7, X0, Y7, implies_true, forall_const, forall_eq, ne_eq, exists_eq_right_right, exists_eq_right, exists_eq_left, exists_eq_left', Z7, Z3, ZJ, JK, ZX, MT1, MT2, MT3, d0])
    all_goals exact ⟨_, Sub.refl _, Sub.refl _, .tup' (.cons .emp (.cons (.refl _) .nil))⟩
  · have d0 : decide ((4000 : Int) < (s.length : Int)) = false := decide_eq_false (by omega)
    refine Q1 Tryz.func8 (by kernel_rfl) hc8 (by rw [Tryz.ntmps8]; simp) (by rw [Tryz.ntmps8]; decide) ?_
    simp -dsimp -implicitDefEqProofs (disch := omega) only [VCA, ↓reduceIte, reduceCtorEq, c8, d0]
    repeat' (first | ((with_reducible refine brC (fun _ => ?_) fun _ => ?_) <;> try (exfalso; omega)) | (with_reducible refine And.intro ?_ ?_; · omega) | simp -dsimp -implicitDefEqProofs (disch := omega) only [VCA, TX, ↓U5, Nat.reduceEqDiff, Nat.reduceBEq, Nat.reduceAdd, Nat.reduceSub, Nat.reduceMul, Nat.reduceLT, Nat.reduceLeDiff, ↓reduceIte, reduceCtorEq, Y6, Q9, SOp.rd, SI.rd, SX.rd, rdL, rdO, rdP, Z2, Y3, J6, K7, X0, Y7, implies_true, forall_const, forall_eq, ne_eq, exists_eq_right_right, exists_eq_right, exists_eq_left, exists_eq_left', Z7, Z3, ZJ, JK, ZX, MT1, MT2, MT3, d0])
    intro r4 hr4
    refine DCalls.of (splitSeq_ok s [38]) ?_
    rintro v h1 ⟨rb, hrb, rfl, rfl⟩
    have hne : rb ≠ r4 := fun e => by rw [e, J7] at hrb; cases hrb
    have hbn : h rb = none := by rw [J9 _ _ hne] at hrb; exact hrb
    have S0 : SD h (upd (upd h r4 (some ⟨.t 22, 1, [[.emp]]⟩)) rb (some ⟨.t 9, 1, [[.str s]]⟩)) r4 rb [] s .emp :=
      ⟨by rw [J9 _ _ hne.symm]; exact J7 _ _ _, J7 _ _ _, .nil, ((Sub.refl h).upd hr4).upd hbn, hr4, hbn, hne.symm, (fun e => by cases e), (fun e => by cases e)⟩
    simp -dsimp -implicitDefEqProofs (disch := omega) only [VCA]
    refine RangeVC.introI (iterS_of_mtv Tryz.func105 (by kernel_rfl) hc105 (by rw [Tryz.ntmps105]; simp) (by rw [Tryz.ntmps105]; decide)) rfl (fun lY => ?_)
    have l1 : (([38] : List UInt8).length : Int) = 1 := rfl
    simp -dsimp -implicitDefEqProofs (disch := omega) only [VCA, ↓reduceIte, MT1, MT2, c105]
    repeat' (first | ((with_reducible refine brC (fun _ => ?_) fun _ => ?_) <;> try (exfalso; omega)) | (with_reducible refine And.intro ?_ ?_; · omega) | simp -dsimp -implicitDefEqProofs (disch := omega) only [MT1, MT2])
    refine mtLoop.intro (fun m st e h' => ∃ (L : List HEnt) (cur : List UInt8) (ao : AVal), st = none /\ e 0 = .prim (.func (.yield lY) #[] #[]) /\ e 1 = .pin [.str [38]] /\ e 2 = .vp rb 0 /\ e 3 = .pin [Q4 0] /\ SD h h' r4 rb L cur ao /\ L ++ EM (pcs 38 cur) = entsM s /\ cur.length <= s.length /\ m = cur.length) s.length
      (by exact ⟨[], s, .emp, rfl, rfl, rfl, rfl, rfl, S0, rfl, Nat.le_refl _, rfl⟩) ?_
    clear S0
    rintro m st e h' ⟨L, cur, ao, rfl, e0, e1, e2, e3, S, hL, hcl, rfl⟩
    have gb := S.cb
    have cI := index_ok (G := G) hG cur [38] (by omega)
    have hLl : L.length <= s.length + 1 := by
      have h1 := entsM_len s
      rw [<- hL, List.length_append] at h1; omega
    rcases index1 38 cur with ⟨i1, i2⟩ | ⟨p, r, i1, i2, i3⟩
    · rw [i2] at cI
      have dn : decide ((-1 : Int) < 0) = true := rfl
      have hp1 := pcs_none 38 cur i1
      rw [hp1] at hL
      repeat' (first | ((with_reducible refine brC (fun _ => ?_) fun _ => ?_) <;> try (exfalso; omega)) | (with_reducible apply pcallE.of; · exact cI) | (with_reducible refine And.intro ?_ ?_; · omega) | simp -dsimp -implicitDefEqProofs (disch := omega) only [VCA, Nat.reduceEqDiff, Nat.reduceLT, ↓reduceIte, reduceCtorEq, exists_eq_left', MT1, MT2, MT3, e0, e1, e2, gb, dn])
      refine dbdy_ok (G := G) hG S rfl (by omega) (by omega) fun h5 ao5 S5 => ?_
      rw [hL] at S5
      have g5 := S5.c4
      have hel := entsM_len s
      have lenA := S5.acc.len
      have hv := (OwnS.of_acc S5.acc).1.vwN fun r hr => (OwnS.of_acc S5.acc).2.1 r hr
      simp only [List.length_map] at lenA
      by_cases h100 : 100 < (entsM s).length
      · have d1 : decide ((100 : Int) < ((entsM s).length : Int)) = true := decide_eq_true (by omega)
        have hdec : Go.Proofs.K.decoded s = ([], 2) := by unfold Go.Proofs.K.decoded; rw [if_neg h4, if_pos h100]
        rw [hdec]
        repeat' (first | ((with_reducible refine brC (fun _ => ?_) fun _ => ?_) <;> try (exfalso; omega)) | (with_reducible refine And.intro ?_ ?_; · omega) | simp -dsimp -implicitDefEqProofs (disch := omega) only [VCA, Nat.reduceEqDiff, Nat.reduceLT, ↓reduceIte, exists_eq_left', MT3, g5, lenA.1, lenA.2, d1])
        all_goals exact ⟨_, Sub.refl _, S5.sub, .tup' (.cons .emp (.cons (.refl _) .nil))⟩
      · have d1 : decide ((100 : Int) < ((entsM s).length : Int)) = false := decide_eq_false (by omega)
        have hdec : Go.Proofs.K.decoded s = (entsM s, 0) := by unfold Go.Proofs.K.decoded; rw [if_neg h4, if_neg h100]
        rw [hdec]
        repeat' (first | ((with_reducible refine brC (fun _ => ?_) fun _ => ?_) <;> try (exfalso; omega)) | (with_reducible refine And.intro ?_ ?_; · omega) | simp -dsimp -implicitDefEqProofs (disch := omega) only [VCA, Nat.reduceEqDiff, Nat.reduceLT, ↓reduceIte, exists_eq_left', MT3, g5, lenA.1, lenA.2, d1])
        all_goals exact ⟨_, Sub.refl _, S5.sub, .tup' (.cons hv (.cons (.refl _) .nil))⟩
    · rw [i3] at cI
      have dn : decide ((p.length : Int) < 0) = false := decide_eq_false (by omega)
      have hp1 := pcs_cut 38 p r i2
      rw [<- i1] at hp1
      rw [hp1, EM_cons] at hL
      have htk : cur.take p.length = p := by rw [i1]; simp
      have hdr : cur.drop (p.length + 1) = r := by rw [i1]; simp
      have hln : cur.length = p.length + r.length + 1 := by rw [i1]; simp; omega
      repeat' (first | ((with_reducible refine brC (fun _ => ?_) fun _ => ?_) <;> try (exfalso; omega)) | (with_reducible apply pcallE.of; · exact cI) | (with_reducible refine And.intro ?_ ?_; · omega) | simp -dsimp -implicitDefEqProofs (disch := omega) only [VCA, Nat.reduceEqDiff, Nat.reduceLT, ↓reduceIte, reduceCtorEq, exists_eq_left', MT1, MT2, e0, e1, e2, e3, gb, dn])
      rw [show ((p.length : Int) + 0).toNat = p.length by omega, htk]
      refine dbdy_ok (G := G) hG S rfl (by omega) (by omega) fun h5 ao5 S5 => ?_
      have gb5 := S5.cb
      have l1 : (([38] : List UInt8).length : Int) = 1 := rfl
      have hdr2 : cur.drop ((p.length : Int) + 1).toNat = r := by rw [show ((p.length : Int) + 1).toNat = p.length + 1 by omega, hdr]
      repeat' (first | ((with_reducible refine brC (fun _ => ?_) fun _ => ?_) <;> try (exfalso; omega)) | (with_reducible refine And.intro ?_ ?_; · omega) | simp -dsimp -implicitDefEqProofs (disch := omega) only [VCA, Nat.reduceEqDiff, Nat.reduceLT, ↓reduceIte, reduceCtorEq, Y7, exists_eq_left', MT1, MT2, MT3, e0, e1, e2, e3, gb5])
      have hdr3 : ∀ k : Int, k = (p.length : Int) + 1 -> cur.drop k.toNat = r := fun k hk => by rw [hk]; exact hdr2
      refine ⟨_, ?_, L ++ EM [p], _, ao5, S5.cut _, ?_, ?_, rfl⟩
      · rw [hdr3 _ (by omega)]; omega
      · rw [hdr3 _ (by omega), List.append_assoc]; exact hL
      · rw [hdr3 _ (by omega)]; omega
def lwB (b : UInt8) : UInt8 := if 65 <= b.toNat /\ b.toNat <= 90 then b + 32 else b
def c91 : SFun := ⟨.seq (.reg [o 2 (.mv (.c (.int .u8 0)))]) (.seq (.seq (.reg [o 3 (.mv (.t 0)), o 4 (.bin .geq (.t 3) (.c (.int .u8 65))), o 5 (.mv (.t 4)), ⟨some 6, .mv (.t 0), some (5, true)⟩, ⟨some 7, .bin .leq (.t 6) (.c (.int .u8 90)), some (5, true)⟩, o 8 (.pick (.t 5) (.t 7) (.c (.bool false)))]) (.cond (.t 8) (.seq (.reg [o 9 (.mv (.t 0)), o 10 (.bin .sub (.t 9) (.c (.int .u8 65))), o 11 (.bin .add (.t 10) (.c (.int .u8 97))), o 2 (.mv (.t 11))]) .ret) .skip)) (.seq (.reg [o 12 (.mv (.t 0)), o 2 (.mv (.t 12))]) .ret)), [.tmp 2]⟩
theorem hc91 : J1 Tryz.prog {} Tryz.f91 = some c91 := by kernel_rfl
theorem lwB_ok (b : UInt8) : PCalls (Pg G) 91 [.int .u8 b.toNat] (.int .u8 (lwB b).toNat) := fun h => by
  by_cases hb : 65 <= b.toNat /\ b.toNat <= 90
  · have e1 : lwB b = b + 32 := if_pos hb
    have w1 : IntKind.u8.wrap ((b.toNat : Int) - 65) = (b.toNat : Int) - 65 := by rw [IntKind.wrap_u8]; omega
    have w2 : IntKind.u8.wrap ((b.toNat : Int) - 65 + 97) = ((b + 32).toNat : Int) := by
      rw [IntKind.wrap_u8, UInt8.toNat_add]; simp; omega
    rw [e1]
    refine Q1 Tryz.func91 (by kernel_rfl) hc91 (by rw [Tryz.ntmps91]; simp) (by rw [Tryz.ntmps91]; decide) ?_
    simp -dsimp -implicitDefEqProofs (disch := omega) only [↓Q0 5, VCA, ↓reduceIte, reduceCtorEq, c91]
    repeat' (first | ((with_reducible refine brC (fun _ => ?_) fun _ => ?_) <;> try (exfalso; omega)) | (with_reducible refine And.intro ?_ ?_; · omega) | simp -dsimp -implicitDefEqProofs (disch := omega) only [VCA, Nat.reduceEqDiff, ↓reduceIte, reduceCtorEq, exists_eq_right, w1, w2])
    all_goals first | exact Sub.refl _ | exact ⟨Sub.refl _, rfl⟩ | (exfalso; omega)
  · have e1 : lwB b = b := if_neg hb
    rw [e1]
    refine Q1 Tryz.func91 (by kernel_rfl) hc91 (by rw [Tryz.ntmps91]; simp) (by rw [Tryz.ntmps91]; decide) ?_
    simp -dsimp -implicitDefEqProofs (disch := omega) only [↓Q0 5, VCA, ↓reduceIte, reduceCtorEq, c91]
    repeat' (first | ((with_reducible refine brC (fun _ => ?_) fun _ => ?_) <;> try (exfalso; omega)) | (with_reducible refine And.intro ?_ ?_; · omega) | simp -dsimp -implicitDefEqProofs (disch := omega) only [VCA, Nat.reduceEqDiff, ↓reduceIte, reduceCtorEq, exists_eq_right])
    all_goals first | exact Sub.refl _ | exact ⟨Sub.refl _, rfl⟩ | (exfalso; omega)
end Go.Proofs.K
end
section
set_option linter.unusedSimpArgs false
set_option linter.unusedVariables false
namespace Go.Proofs.K
open Go Go.Sim Go.Proofs
variable {G : T0}
def inW (nm s : List UInt8) : Bool := (Z6 32 [] s).any (· == nm)
theorem one_in (hG : X1 G) (nm s : List UInt8) (hs : ((Z6 32 [] s).any (· == [])) = false) (hn : nm.length < 4294967281) (hl : s.length < 4294967200) : PCalls (Pg G) 34 [.str nm, .str (32 :: (s ++ [32]))] (.bool (inW nm s)) := by
  have h := oneW_ok hG nm (32 :: (s ++ [32])) hn (by simp; omega)
  rw [oneM_split s nm (fun h => by rw [List.any_eq_false] at hs; exact hs _ h rfl)] at h
  exact h
theorem inW_append (nm s t : List UInt8) : inW nm (s ++ 32 :: t) = (inW nm s || inW nm t) := by
  have : ∀ cur : List UInt8, Z6 32 cur (s ++ 32 :: t) = Z6 32 cur s ++ Z6 32 [] t := by
    induction s with
    | nil => intro cur; simp [Z6]
    | cons c r ih =>
      intro cur
      by_cases h : c = 32
      · simp [Z6, h, ih]
      · simp [Z6, h, ih]
  simp [inW, this]
theorem inW_two (nm a b : List UInt8) (ha : Z6 32 [] a = [a]) (hb : Z6 32 [] b = [b]) : inW nm (a ++ 32 :: b) = (nm == a || nm == b) := by
  rw [inW_append, inW, inW, ha, hb]
  simp [BEq.comm]
end Go.Proofs.K
end
section
set_option linter.unusedSimpArgs false
set_option linter.unusedVariables false
namespace Go.Proofs.K
open Go Go.Sim Go.Proofs Go.Lib
theorem enc_hi (x : Int) (hx : 128 <= x) : ∃ c ∈ encodeRune x, 128 <= c.toNat := by
  have h : ∃ z ∈ encodeRuneZ x, 128 <= z := by
    by_cases h2 : x <= 2047
    · rw [encodeRuneZ_two hx h2]; exact ⟨_, List.mem_cons_self, by omega⟩
    · by_cases h3 : (2048 <= x /\ x < 55296) \/ (57343 < x /\ x <= 65535)
      · rw [encodeRuneZ_three h3]; exact ⟨_, List.mem_cons_self, by omega⟩
      · by_cases h4 : 65536 <= x /\ x <= 1114111
        · rw [encodeRuneZ_four h4.1 h4.2]; exact ⟨_, List.mem_cons_self, by omega⟩
        · rw [encodeRuneZ_bad (by omega)]; exact ⟨_, List.mem_cons_self, by omega⟩
  obtain ⟨z, hz, h1⟩ := h
  have hb := encodeRuneZ_byte x z hz
  refine ⟨z.toNat.toUInt8, List.mem_map.2 ⟨z, hz, rfl⟩, ?_⟩
  have : z.toNat.toUInt8.toNat = z.toNat := by
    show (UInt8.ofNat z.toNat).toNat = _
    rw [UInt8.toNat_ofNat']; omega
  omega
theorem dec_lo (b : UInt8) (r : List UInt8) (hb : b.toNat < 128) : decodeL (b :: r) = (b.toNat, 1) := by
  rw [decodeL_N]
  show decodeN _ b.toNat _ _ _ = _
  unfold decodeN
  rw [if_pos hb]
theorem low_lo (b : UInt8) (hb : b.toNat < 128) : (if 0 <= lowR (b.toNat : Int) then encodeRune (lowR (b.toNat : Int)) else []) = [lwB b] := by
  have h := u8_all (p := fun b => decide (b.toNat < 128 -> (if 0 <= lowR (b.toNat : Int) then encodeRune (lowR (b.toNat : Int)) else []) = [lwB b])) (by decide +kernel) b
  exact of_decide_eq_true h hb
theorem lowU_cons (b : UInt8) (r : List UInt8) (hb : b.toNat < 128) : lowU (b :: r) = lwB b :: lowU r := by
  unfold lowU
  rw [mapD_step _ _ (by simp), dec_lo b r hb]
  show (if 0 <= lowR (b.toNat : Int) then encodeRune (lowR (b.toNat : Int)) else []) ++ _ = _
  rw [low_lo b hb]
  rfl
theorem lowU_lo : ∀ v : List UInt8, (∀ b ∈ v, b.toNat < 128) -> lowU v = v.map lwB
  | [], _ => rfl
  | b :: r, h => by rw [lowU_cons b r (h b List.mem_cons_self), lowU_lo r fun c hc => h c (List.mem_cons_of_mem _ hc)]; rfl
theorem lowU_hi : ∀ v : List UInt8, (∃ b ∈ v, 128 <= b.toNat) -> ∃ c ∈ lowU v, 128 <= c.toNat
  | [], h => by obtain ⟨b, hb, _⟩ := h; cases hb
  | b :: r, h => by
    by_cases hb : b.toNat < 128
    · have h2 : ∃ c ∈ r, 128 <= c.toNat := by
        obtain ⟨c, hc, h1⟩ := h
        rcases List.mem_cons.1 hc with rfl | hc
        · omega
        · exact ⟨c, hc, h1⟩
      obtain ⟨c, hc, h1⟩ := lowU_hi r h2
      rw [lowU_cons b r hb]
      exact ⟨c, List.mem_cons_of_mem _ hc, h1⟩
    · have hx : 128 <= (decodeL (b :: r)).1 := by
        have g : ((b :: r).getD 0 0).toNat = b.toNat := rfl
        rw [decodeL_N]
        rcases decodeN_shape (b :: r).length ((b :: r).getD 0 0).toNat ((b :: r).getD 1 0).toNat ((b :: r).getD 2 0).toNat ((b :: r).getD 3 0).toNat with ⟨c, e⟩ | ⟨c1, c2, c3, cv, e⟩ | ⟨c1, c2, c3, c4, cv, cs, e⟩ | ⟨c1, c2, c3, c4, c5, cv, cw, e⟩ | e
        · rw [g] at c; omega
        all_goals rw [e]; simp only; omega
      have hl : lowR ((decodeL (b :: r)).1 : Int) = ((decodeL (b :: r)).1 : Int) := if_neg (by omega)
      obtain ⟨c, hc, h1⟩ := enc_hi ((decodeL (b :: r)).1 : Int) (by omega)
      unfold lowU
      rw [mapD_step _ _ (by simp), hl, if_pos (by omega)]
      exact ⟨c, List.mem_append_left _ hc, h1⟩
def V6 : List UInt8 := [105, 110, 112, 117, 116, 32, 116, 101, 120, 116, 97, 114, 101, 97, 32, 115, 101, 108, 101, 99, 116, 32, 98, 117, 116, 116, 111, 110]
def typS : List UInt8 := [104, 105, 100, 100, 101, 110, 32, 116, 101, 120, 116, 32, 110, 117, 109, 98, 101, 114, 32, 99, 104, 101, 99, 107, 98, 111, 120, 32, 114, 97, 100, 105, 111, 32, 115, 117, 98, 109, 105, 116, 32, 114, 101, 115, 101, 116, 32, 98, 117, 116, 116, 111, 110, 32, 105, 109, 97, 103, 101, 32, 102, 105, 108, 101]
def subS : List UInt8 := [115, 117, 98, 109, 105, 116, 32, 114, 101, 115, 101, 116, 32, 98, 117, 116, 116, 111, 110, 32, 105, 109, 97, 103, 101, 32, 102, 105, 108, 101]
theorem typ_word {x : List UInt8} (h : inW x typS = true) : x.length <= 8 /\ ∀ c ∈ x, c.toNat < 128 := by
  unfold inW at h
  obtain ⟨w, hw, he⟩ := List.any_eq_true.1 h
  have he : w = x := by simpa using he
  subst he
  have ha : (Z6 32 [] typS).all (fun w => decide (w.length <= 8) && w.all fun c => decide (c.toNat < 128)) = true := by decide +kernel
  have := List.all_eq_true.1 ha w hw
  simp only [Bool.and_eq_true, decide_eq_true_eq, List.all_eq_true] at this
  exact this
def typM (v : List UInt8) : List UInt8 := if inW (v.map lwB) typS = true then v.map lwB else [116, 101, 120, 116]
theorem typ_is (v : List UInt8) : (if v.length <= 8 /\ inW (lowU v) typS = true then lowU v else [116, 101, 120, 116]) = typM v := by
  unfold typM
  by_cases h : ∀ b ∈ v, b.toNat < 128
  · rw [lowU_lo v h]
    by_cases h1 : inW (v.map lwB) typS = true
    · have := (typ_word h1).1
      rw [List.length_map] at this
      rw [if_pos ⟨this, h1⟩, if_pos h1]
    · rw [if_neg (fun q => h1 q.2), if_neg h1]
  · have h2 : ∃ b ∈ v, 128 <= b.toNat := by
      simp only [Classical.not_forall] at h
      obtain ⟨b, hb, h3⟩ := h
      exact ⟨b, hb, by omega⟩
    obtain ⟨c, hc, h3⟩ := lowU_hi v h2
    have n1 : ¬ inW (lowU v) typS = true := fun q => by have := (typ_word q).2 c hc; omega
    obtain ⟨b, hb, h4⟩ := h2
    have h5 : lwB b = b := if_neg (by omega)
    have n2 : ¬ inW (v.map lwB) typS = true := fun q => by
      have := (typ_word q).2 b (List.mem_map.2 ⟨b, hb, h5⟩); omega
    rw [if_neg (fun q => n1 q.2), if_neg n2]
theorem lowU_len (v : List UInt8) : (lowU v).length <= 4 * v.length := by
  have : ∀ n (l : List UInt8), l.length <= n -> (mapD lowR l).length <= 4 * l.length := by
    intro n
    induction n with
    | zero => intro l hl; obtain rfl : l = [] := List.eq_nil_of_length_eq_zero (by omega); exact Nat.le_refl _
    | succ n ih =>
      intro l hl
      by_cases hne : l = []
      · subst hne; exact Nat.le_refl _
      · have hw := decodeL_width l
        have h0 : 0 < l.length := List.length_pos_iff.2 hne
        rw [mapD_step _ _ hne, List.length_append]
        have h1 := ih (l.drop (decodeL l).2) (by rw [List.length_drop]; omega)
        rw [List.length_drop] at h1
        have h2 : (if 0 <= lowR ((decodeL l).1 : Int) then encodeRune (lowR ((decodeL l).1 : Int)) else []).length <= 4 := by
          split
          · unfold encodeRune; rw [List.length_map]; exact (encodeRuneZ_length _).2
          · simp
        omega
  exact this _ v (Nat.le_refl _)
end Go.Proofs.K
end
section
set_option linter.unusedSimpArgs false
set_option linter.unusedVariables false
namespace Go.Proofs.K
open Go Go.Sim Go.Proofs
section
variable {d : HDoc}
end
end Go.Proofs.K
end
section
set_option linter.unusedSimpArgs false
set_option linter.unusedVariables false
namespace Go.Proofs.K
open Go Go.Sim Go.Proofs
variable {G : T0}
section
variable {d : HDoc}
end
def c111 : SFun := ⟨.seq (.reg [o 4 (.mv (.c (.int .i64 0)))]) (.seq (.seq (.reg [o 6 (.mv (.t 0)), o 7 (.len (.t 6)), o 8 (.mv (.c (.int .i64 0)))]) (.block 0 (.loop (.seq (.reg [o 9 (.bin .lss (.t 8) (.t 7))]) (.seq (.cond (.t 9) .skip (.exit 0)) (.seq (.block 1 (.seq (.reg [o 10 (.mv (.t 8)), o 5 (.mv (.t 10))]) (.seq (.reg [o 11 (.mv (.t 1)), o 12 (.mv (.t 0)), o 13 (.mv (.t 5)), o 14 (.idxA 1 (.t 12) (.t 13)), o 15 (.ld 1 false (.t 14)), o 16 (.bin .eql (.t 11) (.t 15))]) (.cond (.t 16) (.seq (.reg [o 17 (.mv (.t 5)), o 4 (.mv (.t 17))]) .ret) .skip)))) (.reg [o 18 (.bin .add (.t 8) (.c (.int .i64 1))), o 8 (.mv (.t 18))]))))))) (.seq (.reg [o 4 (.mv (.c (.int .i64 (-1))))]) .ret)), [.tmp 4]⟩
theorem hc111 : J1 Tryz.prog {} Tryz.f111 = some c111 := by kernel_rfl
theorem hasII_ok (l : List Int) (x : Int) (hl : l.length <= 1073741824) : PCalls (Pg G) 111 [sl Z3 l, Q4 x] (Q4 (WV (· == x) l)) := by
  intro h
  refine Q1 Tryz.func111 (by kernel_rfl) hc111 (by rw [Tryz.ntmps111]; simp) (by rw [Tryz.ntmps111]; decide) ?_
  simp -dsimp -implicitDefEqProofs (disch := omega) only [VCA, ↓reduceIte, reduceCtorEq, c111]
  refine LoopVC.intro (fun m e h' => ∃ k : Nat, k <= l.length /\ m = l.length - k /\ e 0 = sl Z3 l /\ e 1 = Q4 x /\ e 7 = Q4 l.length /\ e 8 = Q4 k /\ h' = h /\ ∀ j, j < k -> (nth l j == x) = false) l.length ⟨0, by omega, by omega, rfl, rfl, rfl, rfl, rfl, fun j hj => absurd hj (Nat.not_lt_zero j)⟩ ?_
  rintro m e h' ⟨k, hk, rfl, he0, he1, he7, he8, rfl, hj⟩
  simp -dsimp -implicitDefEqProofs (disch := omega) only [VCA, ↓reduceIte, he7, he8]
  refine Br.dec (fun hlt => ?_) (fun hge => ?_)
  · simp -dsimp -implicitDefEqProofs (disch := omega) only [VCA, Nat.reduceEqDiff, ↓reduceIte, reduceCtorEq, Z3, he0, he1, he8]
    refine ⟨by omega, Br.eq (fun ht => ?_) (fun hf => ?_)⟩
    · simp -dsimp -implicitDefEqProofs (disch := omega) only [VCA, Nat.reduceEqDiff, ↓reduceIte, exists_eq_right_right]
      rw [WT (k := k) (by omega) hj (by simp [ht])]; exact ⟨Sub.refl _, rfl⟩
    · simp -dsimp -implicitDefEqProofs (disch := omega) only [VCA, Nat.reduceEqDiff, ↓reduceIte, reduceCtorEq, he0, he1, he7, he8]
      refine ⟨_, ?_, k + 1, by omega, rfl, by omega, fun j hj' => ?_⟩
      · omega
      · by_cases h1 : j = k
        · subst h1; simpa using fun e => hf e.symm
        · exact hj j (by omega)
  · simp -dsimp -implicitDefEqProofs (disch := omega) only [VCA, ↓reduceIte, exists_eq_right_right]
    rw [WW (fun j hj' => hj j (by omega))]; exact ⟨Sub.refl _, rfl⟩
def c75 : SFun := ⟨.seq (.reg [o 4 (.mv (.c (.bool false)))]) (.seq (.reg [o 5 (.mv (.t 0)), o 6 (.mv (.t 1)), o 7 (.pcall 111 [.t 5, .t 6]), o 8 (.bin .geq (.t 7) (.c (.int .i64 0))), o 4 (.mv (.t 8))]) .ret), [.tmp 4]⟩
theorem hc75 : J1 Tryz.prog {pure := [111]} Tryz.f75 = some c75 := by kernel_rfl
theorem hasI_ok (l : List Int) (x : Int) (hl : l.length <= 1073741824) : PCalls (Pg G) 75 [sl Z3 l, Q4 x] (.bool (l.any (· == x))) := by
  intro h
  refine Q1 Tryz.func75 (by kernel_rfl) hc75 (by rw [Tryz.ntmps75]; simp) (by rw [Tryz.ntmps75]; decide) ?_
  simp -dsimp -implicitDefEqProofs (disch := omega) only [VCA, Nat.reduceEqDiff, ↓reduceIte, reduceCtorEq, c75]
  refine pcallE.of (hasII_ok l x hl) ?_; simp -dsimp -implicitDefEqProofs (disch := omega) only [VCA, ↓reduceIte, exists_eq_right_right]
  exact ⟨Sub.refl _, idxM_any _ l⟩
end Go.Proofs.K
end
section
set_option linter.unusedSimpArgs false
set_option linter.unusedVariables false
namespace Go.Proofs.K
open Go Go.Sim Go.Proofs
variable {G : T0}
theorem eDoc_len (d : HDoc) : (Q7 d).length = 2 := rfl
theorem eDoc_take (d : HDoc) : (Q7 d).take 2 = Q7 d := rfl
theorem VQ {d : HDoc} (h : KU d = 0) : DV d := (docE_iff d).1 h
section
variable {d : HDoc} {n : Int} {A B : List Int}
end
theorem DCalls.res {P : PG} {f : Nat} {args : List AVal} {h : Q2} {K K' : AVal -> Q2 -> Prop} (hd : DCalls P f args h K) (hk : ∀ a h', K a h' -> ∃ b, Wk a b /\ K' b h') : DCalls P f args h K' :=
  ⟨hd.1, fun g w vs H GR V => (hd.2 g w vs H GR V).mono fun e w' ⟨v', a, h', g', he, k0, H', Va, S⟩ => by
    obtain ⟨b, hb, k1⟩ := hk a h' k0
    exact ⟨v', b, h', g', he, k1, H', hb.rel Va, S⟩⟩
end Go.Proofs.K
end
section
set_option linter.unusedSimpArgs false
set_option linter.unusedVariables false
namespace Go.Proofs.K
open Go Go.Sim Go.Proofs
variable {G : T0}
section
variable {d : HDoc}
def WZ (d : HDoc) (n : Int) : List Int := (U2 d n).reverse
theorem path_len (V : DV d) {n : Int} (hn : inD d n) : (WZ d n).length = up d n + 1 := by unfold WZ; rw [List.length_reverse, chain_len V n hn]
theorem path_up (V : DV d) {n : Int} (hn : inD d n) (hp : 0 <= (nd d n).parent) : WZ d n = WZ d (nd d n).parent ++ [n] := by unfold WZ; rw [ZQ V hn hp, List.reverse_cons]
theorem path_top (V : DV d) {n : Int} (hp : ¬ 0 <= (nd d n).parent) : WZ d n = [n] := by unfold WZ; rw [YK V hp]; rfl
theorem nth_snoc_lt {l : List Int} {x : Int} {j : Nat} (h : j < l.length) : nth (l ++ [x]) j = nth l j := by
  unfold nth; rw [List.getD_eq_getElem?_getD, List.getElem?_append_left h, <- List.getD_eq_getElem?_getD]
theorem nth_snoc_eq {l : List Int} {x : Int} : nth (l ++ [x]) l.length = x := by simp [nth, List.getD_eq_getElem?_getD]
theorem path_at (V : DV d) : ∀ n, inD d n -> ∀ j, j <= up d n -> nth (WZ d n) j ∈ U2 d n /\ up d (nth (WZ d n) j) = j := V.rise fun n hn ih j hj => by
  by_cases hp : 0 <= (nd d n).parent
  · have hu := V.up_par hn hp
    have hl := path_len V (V.par_in hn hp).1
    rw [path_up V hn hp]
    by_cases h1 : j = up d n
    · have : j = (WZ d (nd d n).parent).length := by omega
      rw [this, nth_snoc_eq]; exact ⟨KK _ _, by omega⟩
    · obtain ⟨h2, h3⟩ := ih hp j (by omega)
      rw [nth_snoc_lt (by omega)]
      exact ⟨by rw [ZQ V hn hp]; exact List.mem_cons_of_mem _ h2, h3⟩
  · have hu := V.up_top hp
    obtain rfl : j = 0 := by omega
    rw [path_top V hp]; exact ⟨KK _ _, hu⟩
structure Part (d : HDoc) (a b : Int) (i : Nat) : Prop where
  pos : 1 <= i
  la : i <= (WZ d a).length
  lb : i <= (WZ d b).length
  eq : ∀ j, j < i -> nth (WZ d a) j = nth (WZ d b) j
  ne : ¬ (i < (WZ d a).length /\ i < (WZ d b).length /\ nth (WZ d a) i = nth (WZ d b) i)
variable {a b : Int} {i : Nat}
theorem Part.node (V : DV d) (ha : inD d a) (hb : inD d b) (p : Part d a b i) : nth (WZ d a) (i - 1) ∈ U2 d a /\ nth (WZ d a) (i - 1) ∈ U2 d b /\ up d (nth (WZ d a) (i - 1)) = i - 1 := by
  have h1 := path_at V a ha (i - 1) (by have := p.la; rw [path_len V ha] at this; omega)
  have h2 := path_at V b hb (i - 1) (by have := p.lb; rw [path_len V hb] at this; omega)
  exact ⟨h1.1, by rw [p.eq _ (by have := p.pos; omega)]; exact h2.1, h1.2⟩
end
end Go.Proofs.K
end
section
set_option linter.unusedSimpArgs false
set_option linter.unusedVariables false
namespace Go.Proofs.K
open Go Go.Sim Go.Proofs
variable {G : T0}
structure HPoint where
  node : Int
  at' : Int
deriving DecidableEq, Inhabited
def eP (p : HPoint) : List AVal := [Q4 p.node, Q4 p.at']
instance : LenE eP 2 := ⟨fun _ => rfl⟩
structure HSpan where
  a : HPoint
  b : HPoint
deriving DecidableEq, Inhabited
def eS (s : HSpan) : List AVal := [Q4 s.a.node, Q4 s.a.at', Q4 s.b.node, Q4 s.b.at']
instance : LenE eS 4 := ⟨fun _ => rfl⟩
theorem drop_cons' {l : List Int} {i : Nat} (h : i < l.length) : l.drop i = nth l i :: l.drop (i + 1) := by
  have : nth l i = l[i] := by unfold nth; rw [List.getD_eq_getElem?_getD, List.getElem?_eq_getElem h]; rfl
  rw [this, List.getElem_cons_drop]
def rkey (d : HDoc) (n : Int) : List Int := ((U2 d n).filter (fun m => decide (0 < m))).map fun m => 2 * WV (· == m) (nd d (nd d m).parent).kids + 1
section
variable {d : HDoc}
end
end Go.Proofs.K
end
section
set_option linter.unusedSimpArgs false
set_option linter.unusedVariables false
namespace Go.Proofs.K
open Go Go.Sim Go.Proofs
section
variable {d : HDoc}
def pre (d : HDoc) (n : Int) : List Int := (rkey d n).reverse
end
end Go.Proofs.K
end
section
set_option linter.unusedSimpArgs false
set_option linter.unusedVariables false
namespace Go.Proofs.K
open Go Go.Sim Go.Proofs
variable {G : T0}
def c110 : SFun := ⟨.seq (.reg [o 3 (.boxF 36 2 (.t 0)), o 6 (.mv (.c .emp))]) (.seq (.reg [o 9 (.mv (.t 2)), o 10 (.mv (.t 1)), o 11 (.bldF 3 1 [.t 10]), o 12 (.app 3 1 8 (.t 9) (.t 11)), o 2 (.mv (.t 12))]) (.seq (.seq (.reg [o 13 (.fldA 0 (.t 3)), o 14 (.ld 1 false (.t 13)), o 15 (.mv (.t 1)), o 16 (.idxA 6 (.t 14) (.t 15)), o 17 (.fldA 5 (.t 16)), o 18 (.ld 1 false (.t 17)), o 19 (.len (.t 18)), o 20 (.mv (.c (.int .i64 0)))]) (.block 0 (.loop (.seq (.reg [o 21 (.bin .lss (.t 20) (.t 19))]) (.seq (.cond (.t 21) .skip (.exit 0)) (.seq (.block 1 (.seq (.reg [o 22 (.idxA 1 (.t 18) (.t 20)), o 23 (.ld 1 false (.t 22)), o 8 (.mv (.t 23))]) (.reg [o 24 (.ld 2 true (.t 3)), o 25 (.mv (.t 8)), o 26 (.mv (.t 2)), o 27 (.call (.c (.fn 110 [] [])) [.t 24, .t 25, .t 26]), o 2 (.mv (.t 27))]))) (.reg [o 28 (.bin .add (.t 20) (.c (.int .i64 1))), o 20 (.mv (.t 28))]))))))) (.seq (.reg [o 29 (.mv (.t 2)), o 6 (.mv (.t 29))]) .ret))), [.tmp 6]⟩
theorem hc110 : J1 Tryz.prog {} Tryz.f110 = some c110 := by kernel_rfl
theorem walk_ok (d : HDoc) (V : DV d) (sm : DocSm d) : ∀ n, inD d n -> ∀ (h h1 : Q2) (L : List Int) (a : AVal), Acc h 3 1 (L.map Z3) a h1 -> Sim.Sub h h1 -> L.length + (Z4 d n).length <= 1000000 ->
    DCalls (Pg G) 110 [.agg (Q7 d), Q4 n, a] h1 fun r h2 => Acc h 3 1 ((L ++ Z4 d n).map Z3) r h2 /\ Sim.Sub h h2 := V.down fun n hn ih h h1 L a A S hL => by
  have hl := V.len
  have n0 := hn.1
  have n1 := hn.2
  have e0 : nth d.nodes n.toNat = nd d n := rfl
  have kl := (sm.nd n).kids
  have bl := U1 V hn
  have be := W5 V hn
  refine Q1 Tryz.func110 (by kernel_rfl) hc110 (by rw [Tryz.ntmps110]; simp) (by rw [Tryz.ntmps110]; decide) ?_
  simp -dsimp -implicitDefEqProofs (disch := omega) only [VCA, Nat.reduceEqDiff, Nat.reduceAdd, ↓reduceIte, Z2, forall_eq, exists_eq_left, c110, Q7]
  refine A.app S (by simp only [List.length_map, List.length_cons, List.length_nil]; omega) (by simp only [List.length_map, List.length_cons, List.length_nil]; omega) fun a2 h2 A2 S2 => ?_
  simp -dsimp -implicitDefEqProofs (disch := omega) only [VCA, Nat.reduceEqDiff, Nat.reduceAdd, Nat.reduceLeDiff, ↓reduceIte, Q5, e0]
  refine ⟨by omega, ?_⟩
  have A0 : Acc h 3 1 ((L ++ n :: ((nd d n).kids.take 0).flatMap (Z4 d)).map Z3) a2 h2 := by simpa [Z3] using A2
  have bel : (Z4 d n).length = 1 + ((nd d n).kids.flatMap (Z4 d)).length := by rw [be, List.length_cons]; omega
  refine LoopVC.intro (fun m e h' => ∃ k : Nat, k <= (nd d n).kids.length /\ m = (nd d n).kids.length - k /\ e 3 = .pin (Q7 d) /\ e 18 = sl Z3 (nd d n).kids /\ e 19 = Q4 (nd d n).kids.length /\ e 20 = Q4 k /\ Acc h 3 1 ((L ++ n :: ((nd d n).kids.take k).flatMap (Z4 d)).map Z3) (e 2) h' /\ Sim.Sub h h') _ ⟨0, by omega, rfl, rfl, rfl, rfl, rfl, A0, S2⟩ ?_
  clear A0 A2 S2 A S
  rintro m e h' ⟨k, hk, rfl, he3, he18, he19, he20, A, S⟩
  simp -dsimp -implicitDefEqProofs (disch := omega) only [VCA, ↓reduceIte, he19, he20]
  refine Br.dec (fun hlt => ?_) (fun hge => ?_)
  · have hk' : k < (nd d n).kids.length := by omega
    have hfl : (((nd d n).kids.take (k + 1)).flatMap (Z4 d)).length <= ((nd d n).kids.flatMap (Z4 d)).length := by
      conv => rhs; rw [<- List.take_append_drop (k + 1) (nd d n).kids, List.flatMap_append, List.length_append]
      omega
    rw [X4 hk', List.flatMap_append, List.length_append] at hfl
    simp only [List.flatMap_cons, List.flatMap_nil, List.append_nil] at hfl
    have hI := ih _ (Y2 hk') h h' (L ++ n :: ((nd d n).kids.take k).flatMap (Z4 d)) (e 2) A S (by rw [List.length_append, List.length_cons]; omega)
    simp -dsimp -implicitDefEqProofs (disch := omega) only [VCA, Nat.reduceEqDiff, ↓reduceIte, Z3, he3, he18, he20, eDoc_len, eDoc_take]
    refine ⟨by omega, ?_⟩
    refine DCalls.of hI ?_
    rintro r h3 ⟨A3, S3⟩
    have A4 : Acc h 3 1 ((L ++ n :: ((nd d n).kids.take (k + 1)).flatMap (Z4 d)).map Z3) r h3 := by
      rw [X4 hk', List.flatMap_append]
      simpa using A3
    simp -dsimp -implicitDefEqProofs (disch := omega) only [VCA, Nat.reduceEqDiff, ↓reduceIte, he3, he18, he19, he20]
    exact ⟨_, by omega, k + 1, by omega, rfl, by omega, A4, S3⟩
  · obtain rfl : k = (nd d n).kids.length := by omega
    rw [List.take_length, <- be] at A
    simp -dsimp -implicitDefEqProofs (disch := omega) only [VCA, Nat.reduceEqDiff, ↓reduceIte]
    exact ⟨_, Sub.refl _, A, S⟩
theorem walk0_ok (d : HDoc) (V : DV d) (sm : DocSm d) (n : Int) (hn : inD d n) : PCalls (Pg G) 110 [.agg (Q7 d), Q4 n, .emp] (sl Z3 (Z4 d n)) := PCalls.acc (ty := 3) (sz := 1) fun h =>
  (walk_ok (G := G) d V sm n hn h h [] .emp .nil (Sub.refl _) (by have := U1 V hn; have := V.len; simp; omega)).mono fun r h' hh => by rw [List.nil_append] at hh; exact hh
def c74 : SFun := ⟨.seq (.reg [o 1 (.boxF 36 2 (.t 0)), o 2 (.mv (.c .emp)), o 3 (.mv (.c (.int .i64 0)))]) (.seq (.seq (.reg [o 5 (.ld 2 true (.t 1)), o 6 (.pcall 109 [.t 5]), o 4 (.mv (.t 6))]) (.seq (.reg [o 7 (.mv (.t 4)), o 8 (.bin .neq (.t 7) (.c (.int .i64 0)))]) (.cond (.t 8) (.seq (.reg [o 9 (.mv (.t 4)), o 2 (.mv (.c .emp)), o 3 (.mv (.t 9))]) .ret) .skip))) (.seq (.reg [o 10 (.ld 2 true (.t 1)), o 11 (.pcall 110 [.t 10, .c (.int .i64 0), .c .emp]), o 2 (.mv (.t 11)), o 3 (.mv (.c (.int .i64 0)))]) .ret)), [.tmp 2, .tmp 3]⟩
theorem hc74 : J1 Tryz.prog {pure := [109, 110]} Tryz.f74 = some c74 := by kernel_rfl
theorem domOrder_ok (d : HDoc) (V : DV d) (h0 : KU d = 0) (sm : DocSm d) : PCalls (Pg G) 74 [.agg (Q7 d)] (.tup [sl Z3 (Z4 d 0), Q4 0]) := fun h => by
  have hC := check_ok (G := G) d sm
  have hW := walk0_ok (G := G) d V sm 0 V.zero
  rw [h0] at hC
  refine Q1 Tryz.func74 (by kernel_rfl) hc74 (by rw [Tryz.ntmps74]; simp) (by rw [Tryz.ntmps74]; decide) ?_
  simp -dsimp -implicitDefEqProofs (disch := omega) only [VCA, Nat.reduceEqDiff, ↓reduceIte, c74, eDoc_len, eDoc_take]
  repeat' (first | ((with_reducible refine brC (fun _ => ?_) fun _ => ?_) <;> try (exfalso; omega)) | (with_reducible apply pcallE.of; · exact hC) | (with_reducible apply pcallE.of; · exact hW) | (with_reducible refine And.intro ?_ ?_; · omega) | simp -dsimp -implicitDefEqProofs (disch := omega) only [VCA, Nat.reduceEqDiff, ↓reduceIte, exists_eq_right, eDoc_len, eDoc_take])
  all_goals exact Sub.refl _
def W8 (d : HDoc) : List Int := if KU d = 0 then Z4 d 0 else []
theorem order2_ok (d : HDoc) (sm : DocSm d) : PCalls (Pg G) 74 [.agg (Q7 d)] (.tup [sl Z3 (W8 d), Q4 (KU d)]) := by
  by_cases h1 : KU d = 0
  · have h := domOrder_ok (G := G) d (VQ h1) h1 sm
    unfold W8
    rw [if_pos h1, h1]
    exact h
  · intro h
    have hC := check_ok (G := G) d sm
    refine DCalls.res (K := fun a h' => a = .tup [.emp, Q4 (KU d)] /\ h' = h) ?_ ?_
    · refine Q1 Tryz.func74 (by kernel_rfl) hc74 (by rw [Tryz.ntmps74]; simp) (by rw [Tryz.ntmps74]; decide) ?_
      simp -dsimp -implicitDefEqProofs (disch := omega) only [VCA, Nat.reduceEqDiff, ↓reduceIte, c74, eDoc_len, eDoc_take]
      repeat' (first | ((with_reducible refine brC (fun _ => ?_) fun _ => ?_) <;> try (exfalso; omega)) | (with_reducible apply pcallE.of; · exact hC) | (with_reducible refine And.intro ?_ ?_; · omega) | simp -dsimp -implicitDefEqProofs (disch := omega) only [VCA, Nat.reduceEqDiff, ↓reduceIte, exists_eq_right])
      all_goals exact Sub.refl _
    · rintro a h' ⟨rfl, rfl⟩
      exact ⟨_, Wk.tup' (.cons (by unfold W8; rw [if_neg h1]; exact .emp) (.cons (.refl _) .nil)), rfl, rfl⟩
def Z9 (d : HDoc) (l : List Int) : List UInt8 := l.flatMap fun k => if (nd d k).kind = 3 then (nd d k).text else []
def YZ (d : HDoc) (n : Int) : List UInt8 := if (nd d n).kind = 3 \/ (nd d n).kind = 4 then (nd d n).text else Z9 d (Z4 d n)
theorem letters_len {d : HDoc} (V : DV d) : ∀ l : List Int, (∀ k ∈ l, inD d k) -> (Z9 d l).length <= 400 * l.length
  | [], _ => by simp [Z9]
  | n :: l, h => by
    have ih := letters_len V l fun k hk => h k (List.mem_cons_of_mem _ hk)
    have h1 := ((nodeE_iff _).1 (V.node n (h n List.mem_cons_self))).2.2.2.2.1
    have h2 : (if (nd d n).kind = 3 then (nd d n).text else []).length <= 400 := by split; exact h1; simp
    unfold Z9 at *
    rw [List.flatMap_cons, List.length_append, List.length_cons]
    omega
theorem bare_kids {d : HDoc} (V : DV d) {n : Int} (hn : inD d n) (hk : 2 < (nd d n).kind) : (nd d n).kids = [] := by
  have hb := ((nodeE_iff _).1 (V.node n hn)).2.1
  unfold JZ at hb
  apply Classical.byContradiction
  intro h
  simp only [Bool.and_eq_true, Bool.or_eq_true, decide_eq_true_eq] at hb
  revert hb
  simp [h]
  omega
def W0 (d : HDoc) (k : Int) : List UInt8 := if (nd d k).kind ≠ 4 then YZ d k else []
theorem VJ (d : HDoc) (l m : List Int) : Z9 d (l ++ m) = Z9 d l ++ Z9 d m := by unfold Z9; rw [List.flatMap_append]
theorem letters_one {d : HDoc} (V : DV d) {n : Int} (hn : inD d n) (hk : 2 < (nd d n).kind) : Z9 d (Z4 d n) = if (nd d n).kind = 3 then (nd d n).text else [] := by
  rw [W5 V hn, bare_kids V hn hk]
  simp [Z9]
theorem letters_kid {d : HDoc} (V : DV d) {n : Int} (hn : inD d n) : Z9 d (Z4 d n) = W0 d n := by
  unfold W0 YZ
  by_cases h3 : (nd d n).kind = 3
  · rw [letters_one V hn (by omega), if_pos h3, if_pos (by omega), if_pos (.inl h3)]
  · by_cases h4 : (nd d n).kind = 4
    · rw [letters_one V hn (by omega), if_neg h3, if_neg (by simpa using h4)]
    · rw [if_pos h4, if_neg (by omega)]
theorem letters_flat {d : HDoc} (V : DV d) : ∀ l : List Int, (∀ k ∈ l, inD d k) -> Z9 d (l.flatMap (Z4 d)) = l.flatMap (W0 d)
  | [], _ => rfl
  | n :: l, h => by rw [List.flatMap_cons, List.flatMap_cons, VJ, letters_kid V (h n List.mem_cons_self), letters_flat V l fun k hk => h k (List.mem_cons_of_mem _ hk)]
theorem textU_eq {d : HDoc} (V : DV d) {n : Int} (hn : inD d n) (h : ¬ ((nd d n).kind = 3 \/ (nd d n).kind = 4)) : YZ d n = (nd d n).kids.flatMap (W0 d) := by
  unfold YZ
  rw [if_neg h, W5 V hn, <- letters_flat V _ fun k hk => (V.kid n hn k hk).1]
  show Z9 d ([n] ++ _) = _
  rw [VJ]
  have : Z9 d [n] = [] := by unfold Z9; simp; intro h3; exact absurd (.inl h3) h
  rw [this]; rfl
theorem textU_len {d : HDoc} (V : DV d) {n : Int} (hn : inD d n) : (YZ d n).length <= 80000 := by
  unfold YZ
  have h1 := ((nodeE_iff _).1 (V.node n hn)).2.2.2.2.1
  split
  · omega
  · have h2 := letters_len V (Z4 d n) fun k hk => T7 V n hn k hk
    have := U1 V hn
    have := V.len
    omega
def c58 : SFun := ⟨.seq (.reg [o 2 (.boxF 36 2 (.t 0)), o 4 (.mv (.c (.str [])))]) (.seq (.seq (.reg [o 8 (.fldA 0 (.t 2)), o 9 (.ld 1 false (.t 8)), o 10 (.mv (.t 1)), o 11 (.idxA 6 (.t 9) (.t 10)), o 12 (.fldA 0 (.t 11)), o 13 (.ld 1 false (.t 12)), o 14 (.bin .eql (.t 13) (.c (.int .i64 3))), o 15 (.mv (.t 14)), ⟨some 16, .fldA 0 (.t 2), some (15, false)⟩, ⟨some 17, .ld 1 false (.t 16), some (15, false)⟩, ⟨some 18, .mv (.t 1), some (15, false)⟩, ⟨some 19, .idxA 6 (.t 17) (.t 18), some (15, false)⟩, ⟨some 20, .fldA 0 (.t 19), some (15, false)⟩, ⟨some 21, .ld 1 false (.t 20), some (15, false)⟩, ⟨some 22, .bin .eql (.t 21) (.c (.int .i64 4)), some (15, false)⟩, o 23 (.pick (.t 15) (.c (.bool true)) (.t 22))]) (.cond (.t 23) (.seq (.reg [o 24 (.fldA 0 (.t 2)), o 25 (.ld 1 false (.t 24)), o 26 (.mv (.t 1)), o 27 (.idxA 6 (.t 25) (.t 26)), o 28 (.fldA 3 (.t 27)), o 29 (.ld 1 false (.t 28)), o 4 (.mv (.t 29))]) .ret) .skip)) (.seq (.reg [o 5 (.mv (.c (.str [])))]) (.seq (.seq (.reg [o 6 (.mv (.c (.int .i64 0)))]) (.block 0 (.loop (.seq (.seq (.reg [o 30 (.mv (.t 6)), o 31 (.fldA 0 (.t 2)), o 32 (.ld 1 false (.t 31)), o 33 (.mv (.t 1)), o 34 (.idxA 6 (.t 32) (.t 33)), o 35 (.fldA 5 (.t 34)), o 36 (.ld 1 false (.t 35)), o 37 (.len (.t 36)), o 38 (.bin .lss (.t 30) (.t 37))]) (.cond (.t 38) .skip (.exit 0))) (.seq (.block 1 (.seq (.reg [o 41 (.fldA 0 (.t 2)), o 42 (.ld 1 false (.t 41)), o 43 (.mv (.t 1)), o 44 (.idxA 6 (.t 42) (.t 43)), o 45 (.fldA 5 (.t 44)), o 46 (.ld 1 false (.t 45)), o 47 (.mv (.t 6)), o 48 (.idxA 1 (.t 46) (.t 47)), o 49 (.ld 1 false (.t 48)), o 7 (.mv (.t 49))]) (.seq (.reg [o 50 (.fldA 0 (.t 2)), o 51 (.ld 1 false (.t 50)), o 52 (.mv (.t 7)), o 53 (.idxA 6 (.t 51) (.t 52)), o 54 (.fldA 0 (.t 53)), o 55 (.ld 1 false (.t 54)), o 56 (.bin .neq (.t 55) (.c (.int .i64 4)))]) (.cond (.t 56) (.reg [o 57 (.mv (.t 5)), o 58 (.ld 2 true (.t 2)), o 59 (.mv (.t 7)), o 60 (.pcall 58 [.t 58, .t 59]), o 61 (.bin .add (.t 57) (.t 60)), o 5 (.mv (.t 61))]) .skip)))) (.reg [o 39 (.mv (.t 6)), o 40 (.bin .add (.t 39) (.c (.int .i64 1))), o 6 (.mv (.t 40))])))))) (.seq (.reg [o 62 (.mv (.t 5)), o 4 (.mv (.t 62))]) .ret)))), [.tmp 4]⟩
theorem hc58 : J1 Tryz.prog {pure := [58]} Tryz.f58 = some c58 := by kernel_rfl
theorem textUnder_ok (d : HDoc) (V : DV d) (sm : DocSm d) : ∀ n, inD d n -> PCalls (Pg G) 58 [.agg (Q7 d), Q4 n] (.str (YZ d n)) := V.down fun n hn ih h => by
  have hl := V.len
  have n0 := hn.1
  have n1 := hn.2
  have e0 : nth d.nodes n.toNat = nd d n := rfl
  have kl := (sm.nd n).kids
  have tl := textU_len V hn
  refine Q1 Tryz.func58 (by kernel_rfl) hc58 (by rw [Tryz.ntmps58]; simp) (by rw [Tryz.ntmps58]; decide) ?_
  by_cases h3 : (nd d n).kind = 3
  · have b3 : ((nd d n).kind == 3) = true := by simpa using h3
    have eT : YZ d n = (nd d n).text := by unfold YZ; rw [if_pos (.inl h3)]
    simp -dsimp -implicitDefEqProofs (disch := omega) only [↓Q0 15, VCA, Nat.reduceEqDiff, Nat.reduceAdd, Nat.reduceLeDiff, ↓reduceIte, exists_eq_right_right, c58, Q7, Q5, e0, b3]
    exact ⟨by omega, by omega, Sub.refl _, eT.symm⟩
  · have b3 : ((nd d n).kind == 3) = false := by simpa using h3
    by_cases h4 : (nd d n).kind = 4
    · have b4 : ((nd d n).kind == 4) = true := by simpa using h4
      have eT : YZ d n = (nd d n).text := by unfold YZ; rw [if_pos (.inr h4)]
      simp -dsimp -implicitDefEqProofs (disch := omega) only [↓Q0 15, VCA, Nat.reduceEqDiff, Nat.reduceAdd, Nat.reduceLeDiff, ↓reduceIte, exists_eq_right_right, c58, Q7, Q5, e0, b3, b4]
      exact ⟨by omega, by omega, by omega, Sub.refl _, eT.symm⟩
    · have b4 : ((nd d n).kind == 4) = false := by simpa using h4
      have eT := textU_eq V hn (by omega)
      have fl : ∀ k, k <= (nd d n).kids.length -> (((nd d n).kids.take k).flatMap (W0 d)).length <= 80000 := fun k hk => by
        have : (((nd d n).kids.take k).flatMap (W0 d)).length <= ((nd d n).kids.flatMap (W0 d)).length := by
          conv => rhs; rw [<- List.take_append_drop k (nd d n).kids, List.flatMap_append, List.length_append]
          omega
        rw [<- eT] at this; omega
      simp -dsimp -implicitDefEqProofs (disch := omega) only [↓Q0 15, VCA, Nat.reduceEqDiff, Nat.reduceAdd, Nat.reduceLeDiff, ↓reduceIte, c58, Q7, Q5, e0, b3, b4]
      refine ⟨by omega, by omega, ?_⟩
      refine LoopVC.intro (fun m e h' => ∃ k : Nat, k <= (nd d n).kids.length /\ m = (nd d n).kids.length - k /\ e 1 = Q4 n /\ e 2 = .pin (Q7 d) /\ e 5 = .str (((nd d n).kids.take k).flatMap (W0 d)) /\ e 6 = Q4 k /\ h' = h) (nd d n).kids.length ⟨0, by omega, by omega, rfl, rfl, rfl, rfl, rfl⟩ ?_
      rintro m e h' ⟨k, hk, rfl, e1, e2, e5, e6, rfl⟩
      simp -dsimp -implicitDefEqProofs (disch := omega) only [VCA, Nat.reduceEqDiff, Nat.reduceAdd, Nat.reduceLeDiff, ↓reduceIte, e1, e2, e6, Q7, Q5, e0]
      refine ⟨by omega, ?_⟩
      refine Br.dec (fun hlt => ?_) (fun hge => ?_)
      · have hk' : k < (nd d n).kids.length := by omega
        have hx := V.kid n hn _ (Y2 hk')
        have ihk := ih _ (Y2 hk')
        have f1 := fl (k + 1) (by omega)
        obtain ⟨x, hxx⟩ : ∃ x, nth (nd d n).kids k = x := ⟨_, rfl⟩
        rw [hxx] at hx ihk
        have x0 := hx.1.1
        have x1 := hx.1.2
        have ex : nth d.nodes x.toNat = nd d x := rfl
        have tk : ((nd d n).kids.take (k + 1)).flatMap (W0 d) = ((nd d n).kids.take k).flatMap (W0 d) ++ W0 d x := by rw [X4 hk', hxx, List.flatMap_append]; simp
        rw [tk, List.length_append] at f1
        unfold Q7 at ihk
        by_cases h5 : (nd d x).kind = 4
        · have b5 : ((nd d x).kind != 4) = false := by simpa using h5
          have tx : W0 d x = [] := by unfold W0; rw [if_neg (by simpa using h5)]
          simp -dsimp -implicitDefEqProofs (disch := omega) only [VCA, Nat.reduceEqDiff, Nat.reduceAdd, Nat.reduceLeDiff, ↓reduceIte, Z3, e1, e2, e5, e6, Q7, Q5, e0, hxx, ex, b5]
          exact ⟨by omega, by omega, by omega, _, by omega, k + 1, by omega, rfl, by rw [tk, tx, List.append_nil], by omega⟩
        · have b5 : ((nd d x).kind != 4) = true := by simpa using h5
          have tx : W0 d x = YZ d x := by unfold W0; rw [if_pos h5]
          rw [tx] at f1
          simp -dsimp -implicitDefEqProofs (disch := omega) only [VCA, Nat.reduceEqDiff, Nat.reduceAdd, Nat.reduceLeDiff, ↓reduceIte, Z3, e1, e2, e5, e6, Q7, Q5, e0, hxx, ex, b5]
          repeat' (first | ((with_reducible refine brC (fun _ => ?_) fun _ => ?_) <;> try (exfalso; omega)) | (with_reducible apply pcallE.of; · exact ihk) | (with_reducible refine And.intro ?_ ?_; · omega) | simp -dsimp -implicitDefEqProofs (disch := omega) only [VCA, Nat.reduceEqDiff, ↓reduceIte, e1, e2, e6, Q7])
          exact ⟨_, by omega, k + 1, by omega, rfl, by rw [tk, tx], by omega⟩
      · obtain rfl : k = (nd d n).kids.length := by omega
        simp -dsimp -implicitDefEqProofs (disch := omega) only [VCA, Nat.reduceEqDiff, ↓reduceIte, exists_eq_right_right, e5]
        exact ⟨Sub.refl _, eT.symm⟩
theorem strBA_map (xs : List (List UInt8)) : (xs.map fun x => (⟨⟨x⟩⟩ : ByteArray)).map (·.data.toList) = xs := by
  rw [List.map_map]; exact List.map_id' _
theorem libJoin_ok (xs : List (List UInt8)) (sep : List UInt8) (hN : xs.length <= 100000) (hl : (Lib.join xs sep).length <= 100000000) : PCalls (Pg G) 24 [sl ZJ xs, .str sep] (.str (Lib.join xs sep)) := by
  refine ofBelow ⟨_, Tryz.func24, by kernel_rfl, by kernel_rfl⟩ fun g w vs GR V => ?_
  obtain ⟨u, v, rfl, hu, hv⟩ := V.two_inv
  rw [hv.str_inv']
  obtain ⟨A, c, rfl, hin⟩ := VRel.slc_inv (es := xs.map ZJ) hu
  by_cases h0 : xs = []
  · subst h0
    exact (Tryz.strings_Join_none A c ⟨⟨sep⟩⟩ w).mono fun e w' ⟨he, hw⟩ => ⟨_, he, by rw [hw]; exact RowKit.Below.refl _ _, fun g w => VRel.str_mk g w _⟩
  · have hp : 0 < (xs.map ZJ).length := by rw [List.length_map]; exact List.length_pos_iff.2 h0
    obtain ⟨hc, ad, sz, rfl, hs, hf, hsz, hcell⟩ := hin hp
    obtain ⟨bk, o, sp⟩ := ad
    have hs : sp = none := hs
    subst hs
    have h1 : sz = 1 := by
      have := hsz ((xs.map ZJ)[0]) (List.getElem_mem hp)
      rw [<- this, List.getElem_map]; rfl
    subst h1
    have cells : ∀ (j : Nat) (x : ByteArray), (xs.map fun x => (⟨⟨x⟩⟩ : ByteArray))[j]? = some x -> w.cell? ⟨bk, o + j, none⟩ = some (.string x) := fun j x hx => by
      rw [List.getElem?_map, Option.map_eq_some_iff] at hx
      obtain ⟨y, hy, rfl⟩ := hx
      obtain ⟨u, q1, q2, q3⟩ := hcell j 0 (ZJ y) (.str y) (by rw [List.getElem?_map, hy]; rfl) rfl
      rw [q3.str_inv', Addr.add_lit] at q1
      rw [<- q1]; congr 2; omega
    have hbk : bk < w.heap.size := by
      obtain ⟨u, q1, _⟩ := hcell 0 0 (ZJ (nth xs 0)) (.str (nth xs 0)) (by rw [List.getElem?_map, T9 (List.length_pos_iff.2 h0)]; rfl) rfl
      rw [Addr.add_lit] at q1
      refine Classical.byContradiction fun hc => ?_
      have hn : w.heap[bk]? = none := Array.getElem?_eq_none (by omega)
      simp [World.cell?, hn] at q1
    have hj := Tryz.strings_Join bk o c (xs.map fun x => (⟨⟨x⟩⟩ : ByteArray)) ⟨⟨sep⟩⟩ w cells hbk (by rw [List.length_map]; omega) (by rw [List.length_map]; rw [List.length_map] at hc; exact hc) (by rw [strBA_map]; show (Lib.join xs sep).length <= _; omega)
    rw [strBA_map, List.length_map] at hj
    rw [List.length_map]
    exact hj.mono fun e w' ⟨he, hw⟩ => ⟨_, he, hw, fun g w => VRel.str_mk g w _⟩
theorem join_is : ∀ xs : List (List UInt8), Lib.join xs [38] = TZ xs
  | [] => rfl
  | [x] => Lib.join_one x [38]
  | x :: y :: r => by
    have h := join_is (y :: r)
    unfold Lib.join at h ⊢
    rw [TZ, <- h]
    simp [List.intercalate, List.intersperse]
end Go.Proofs.K
end
section
set_option linter.unusedSimpArgs false
set_option linter.unusedVariables false
namespace Go.Proofs.K
open Go Go.Sim Go.Proofs Go.Shelf
variable {G : T0}
structure EntSm (x : HEnt) : Prop where
  name : x.name.length <= 1000
  value : x.value.length <= 1000
theorem pairM_len {x : HEnt} (h : EntSm x) : (QV x).length <= 6001 := by
  have h1 := KV x.name
  have h2 := KV x.value
  have h3 := h.name
  have h4 := h.value
  unfold QV
  rw [List.length_append, List.length_cons]; omega
theorem joinM_len : ∀ l : List (List UInt8), (∀ x ∈ l, x.length <= 6001) -> (TZ l).length <= 6002 * l.length
  | [], _ => Nat.le_refl _
  | [x], h => by have := h x List.mem_cons_self; simp only [TZ, List.length_cons, List.length_nil]; omega
  | x :: y :: r, h => by
    have h1 := h x List.mem_cons_self
    have h2 := joinM_len (y :: r) fun z hz => h z (List.mem_cons_of_mem _ hz)
    rw [TZ, List.length_append]
    simp only [List.length_cons] at h2 ⊢
    omega
def c7 : SFun := ⟨.seq (.reg [o 2 (.mv (.c (.str []))), o 3 (.mv (.c (.int .i64 0)))]) (.seq (.seq (.reg [o 8 (.mv (.t 0)), o 9 (.len (.t 8)), o 10 (.bin .gtr (.t 9) (.c (.int .i64 100)))]) (.cond (.t 10) (.seq (.reg [o 2 (.mv (.c (.str []))), o 3 (.mv (.c (.int .i64 2)))]) .ret) .skip)) (.seq (.reg [o 4 (.mv (.c .emp))]) (.seq (.seq (.reg [o 11 (.mv (.t 0)), o 12 (.len (.t 11)), o 13 (.mv (.c (.int .i64 0)))]) (.block 0 (.loop (.seq (.reg [o 14 (.bin .lss (.t 13) (.t 12))]) (.seq (.cond (.t 14) .skip (.exit 0)) (.seq (.block 1 (.seq (.reg [o 15 (.idxA 2 (.t 11) (.t 13)), o 16 (.ld 2 true (.t 15)), o 6 (.new 25 2 [.str [], .str []]), ⟨none, .st 2 (.t 6) (.t 16), none⟩]) (.dreg [(o 17 (.mv (.t 4)), none), (o 18 (.fldA 0 (.t 6)), none), (o 19 (.ld 1 false (.t 18)), none), (o 20 (.pcall 23 [.t 19]), none), (o 21 (.bin .add (.t 20) (.c (.str [61]))), none), (o 22 (.fldA 1 (.t 6)), none), (o 23 (.ld 1 false (.t 22)), none), (o 24 (.pcall 23 [.t 23]), none), (o 25 (.bin .add (.t 21) (.t 24)), none), (o 26 (.bldF 9 1 [.t 25]), none), (o 27 (.app 9 1 16 (.t 17) (.t 26)), (some [23, 19])), (o 4 (.mv (.t 27)), (some [23, 19]))]))) (.reg [o 28 (.bin .add (.t 13) (.c (.int .i64 1))), o 13 (.mv (.t 28))]))))))) (.seq (.reg [o 29 (.frz (.t 4)), o 30 (.pcall 24 [.t 29, .c (.str [38])]), o 7 (.mv (.t 30))]) (.seq (.seq (.reg [o 31 (.mv (.t 7)), o 32 (.lenS (.t 31)), o 33 (.bin .gtr (.t 32) (.c (.int .i64 4000)))]) (.cond (.t 33) (.seq (.reg [o 2 (.mv (.c (.str []))), o 3 (.mv (.c (.int .i64 2)))]) .ret) .skip)) (.seq (.reg [o 34 (.mv (.t 7)), o 2 (.mv (.t 34)), o 3 (.mv (.c (.int .i64 0)))]) .ret)))))), [.tmp 2, .tmp 3]⟩
theorem hc7 : J1 Tryz.prog {pure := [23, 24], how := [(29, 8)]} Tryz.f7 = some c7 := by kernel_rfl
theorem _root_.Go.Sim.Acc.frz {h0 h' : Q2} {ty : TypeId} {sz : Nat} {cells : List (List AVal)} {a : AVal} {K : AVal -> Q2 -> Prop} (A : Acc h0 ty sz cells a h') (S : Sim.Sub h0 h') (hk : ∀ h'', Sim.Sub h0 h'' -> K (.slc cells) h'') : Hd (frzE a h') K .mk := by
  rcases A with ⟨rfl, rfl⟩ | ⟨r, q0, q1, rfl⟩
  · exact hk _ S
  · refine ⟨_, q1, by simp, ?_⟩
    have e : ((cells.drop 0).take cells.length) = cells := by simp
    show K (.slc ((cells.drop 0).take cells.length)) (del h' r)
    rw [e]
    exact hk _ (S.del q0)
theorem fEncode_ok (l : List HEnt) (hl : l.length <= 1000) (hs : ∀ x ∈ l, EntSm x) : PCalls (Pg G) 7 [sl JK l] (.tup [.str (coded l).1, Q4 (coded l).2]) := fun h => by
  unfold coded
  by_cases h1 : 100 < l.length
  · have d1 : decide ((100 : Int) < (l.length : Int)) = true := decide_eq_true (by omega)
    rw [if_pos h1]
    refine Q1 Tryz.func7 (by kernel_rfl) hc7 (by rw [Tryz.ntmps7]; simp) (by rw [Tryz.ntmps7]; decide) ?_
    simp -dsimp -implicitDefEqProofs (disch := omega) only [VCA, ↓reduceIte, reduceCtorEq, c7]
    repeat' (first | ((with_reducible refine brC (fun _ => ?_) fun _ => ?_) <;> try (exfalso; omega)) | (with_reducible refine And.intro ?_ ?_; · omega) | simp -dsimp -implicitDefEqProofs (disch := omega) only [VCA, Nat.reduceEqDiff, ↓reduceIte, exists_eq_right, d1])
    all_goals exact Sub.refl _
  · have d1 : decide ((100 : Int) < (l.length : Int)) = false := decide_eq_false (by omega)
    rw [if_neg h1]
    have hjl := joinM_len (l.map QV) fun x hx => by
      obtain ⟨y, hy, rfl⟩ := List.mem_map.1 hx
      exact pairM_len (hs y hy)
    rw [List.length_map] at hjl
    have hji := join_is (l.map QV)
    have cJ := libJoin_ok (G := G) (l.map QV) [38] (by rw [List.length_map]; omega) (by rw [hji]; omega)
    rw [hji] at cJ
    refine Q1 Tryz.func7 (by kernel_rfl) hc7 (by rw [Tryz.ntmps7]; simp) (by rw [Tryz.ntmps7]; decide) ?_
    simp -dsimp -implicitDefEqProofs (disch := omega) only [VCA, ↓reduceIte, reduceCtorEq, c7]
    repeat' (first | ((with_reducible refine brC (fun _ => ?_) fun _ => ?_) <;> try (exfalso; omega)) | (with_reducible refine And.intro ?_ ?_; · omega) | simp -dsimp -implicitDefEqProofs (disch := omega) only [VCA, ↓reduceIte, reduceCtorEq, d1])
    refine LoopVC.intro (fun m e h' => ∃ i : Nat, i <= l.length /\ m = l.length - i /\ e 11 = sl JK l /\ e 12 = Q4 l.length /\ e 13 = Q4 i /\ Acc h 9 1 (((l.take i).map QV).map ZJ) (e 4) h' /\ Sim.Sub h h') l.length
      (by exact ⟨0, by omega, by omega, rfl, rfl, rfl, .nil, Sub.refl _⟩) ?_
    rintro m e h' ⟨i, hi, rfl, e11, e12, e13, A, S⟩
    simp -dsimp -implicitDefEqProofs (disch := omega) only [VCA, ↓reduceIte, e12, e13]
    refine Br.dec (fun hlt => ?_) (fun hge => ?_)
    · have hi' : i < l.length := by omega
      have hsx := hs _ (Y2 hi')
      have n1 := hsx.name
      have n2 := hsx.value
      have c1 := fencode_ok (G := G) (nth l i).name (by omega)
      have c2 := fencode_ok (G := G) (nth l i).value (by omega)
      have l1 := KV (nth l i).name
      have l2 := KV (nth l i).value
      have hll : ((l.take i).map QV).length = i := by rw [List.length_map, List.length_take]; omega
      repeat' (first | ((with_reducible refine brC (fun _ => ?_) fun _ => ?_) <;> try (exfalso; omega)) | (with_reducible apply pcallE.of; · exact c1) | (with_reducible apply pcallE.of; · exact c2) | (with_reducible refine And.intro ?_ ?_; · omega) | simp -dsimp -implicitDefEqProofs (disch := omega) only [VCA, Nat.reduceEqDiff, Nat.reduceAdd, Nat.reduceLT, Nat.reduceLeDiff, ↓reduceIte, Y6, Q9, Y7, exists_eq_left', Z7, JK, e11, e13, JK])
      intro r6 hr6
      have pm : QV (nth l i) = (encF (nth l i).name ++ [61]) ++ encF (nth l i).value := by unfold QV; rw [List.append_assoc]; rfl
      repeat' (first | ((with_reducible refine brC (fun _ => ?_) fun _ => ?_) <;> try (exfalso; omega)) | (with_reducible apply pcallE.of; · exact c1) | (with_reducible apply pcallE.of; · exact c2) | (with_reducible refine And.intro ?_ ?_; · omega) | simp -dsimp -implicitDefEqProofs (disch := omega) only [VCA, Nat.reduceEqDiff, Nat.reduceAdd, Nat.reduceLT, Nat.reduceLeDiff, ↓reduceIte, Y6, Q9, Z2, forall_eq, exists_eq_left, exists_eq_left', Z7])
      have A1 := fun o => A.re (h1' := h) (h2' := upd h' r6 (some o)) fun r ob q1 q2 => ⟨q1, by rw [J9 _ _ (fun e => by rw [e, hr6] at q2; cases q2)]; exact q2⟩
      refine ⟨by rw [List.length_append]; simp only [List.length_cons, List.length_nil]; omega, ?_⟩
      refine (A1 _).appW (b := 16) (S.upd (S.none hr6)) (by simp only [List.length_map, List.length_cons, List.length_nil] at hll ⊢; omega) (by simp only [List.length_map, List.length_cons, List.length_nil] at hll ⊢; omega) fun a2 h3 A2 S2 kp => ?_
      refine ⟨fun q hq hc => ?_, ?_⟩
      · rcases List.mem_cons.1 hq with rfl | hq
        · simp at hc
        · rw [List.mem_singleton] at hq; subst hq; simp at hc
      simp -dsimp -implicitDefEqProofs (disch := omega) only [VCA, Nat.reduceEqDiff, Nat.reduceBEq, ↓reduceIte, SOp.rd, SI.rd, SX.rd, e11, e12, e13]
      refine ⟨_, by omega, i + 1, by omega, rfl, by omega, ?_, S2⟩
      rw [X4 hi', List.map_append, List.map_append]
      show Acc h _ 1 (((l.take i).map QV).map ZJ ++ [[.str (QV (nth l i))]]) _ _
      rw [pm]
      exact A2
    · obtain rfl : i = l.length := by omega
      rw [List.take_length] at A
      by_cases h4 : 4000 < (TZ (l.map QV)).length
      · have d4 : decide ((4000 : Int) < ((TZ (l.map QV)).length : Int)) = true := decide_eq_true (by omega)
        rw [if_pos h4]
        generalize TZ (l.map QV) = J at *
        repeat' (first | ((with_reducible refine brC (fun _ => ?_) fun _ => ?_) <;> try (exfalso; omega)) | ((refine A.frz S (fun h5 S5 => ?_))) | (with_reducible refine And.intro ?_ ?_; · omega) | simp -dsimp -implicitDefEqProofs (disch := omega) only [VCA, Nat.reduceEqDiff, ↓reduceIte])
        rw [show AVal.slc (List.map ZJ (List.map QV l)) = sl ZJ (l.map QV) from rfl]
        repeat' (first | ((with_reducible refine brC (fun _ => ?_) fun _ => ?_) <;> try (exfalso; omega)) | (with_reducible apply pcallE.of; · exact cJ) | (with_reducible refine And.intro ?_ ?_; · omega) | simp -dsimp -implicitDefEqProofs (disch := omega) only [VCA, Nat.reduceEqDiff, ↓reduceIte, exists_eq_right, d4])
        all_goals exact S5
      · have d4 : decide ((4000 : Int) < ((TZ (l.map QV)).length : Int)) = false := decide_eq_false (by omega)
        rw [if_neg h4]
        generalize TZ (l.map QV) = J at *
        repeat' (first | ((with_reducible refine brC (fun _ => ?_) fun _ => ?_) <;> try (exfalso; omega)) | ((refine A.frz S (fun h5 S5 => ?_))) | (with_reducible refine And.intro ?_ ?_; · omega) | simp -dsimp -implicitDefEqProofs (disch := omega) only [VCA, Nat.reduceEqDiff, ↓reduceIte])
        rw [show AVal.slc (List.map ZJ (List.map QV l)) = sl ZJ (l.map QV) from rfl]
        repeat' (first | ((with_reducible refine brC (fun _ => ?_) fun _ => ?_) <;> try (exfalso; omega)) | (with_reducible apply pcallE.of; · exact cJ) | (with_reducible refine And.intro ?_ ?_; · omega) | simp -dsimp -implicitDefEqProofs (disch := omega) only [VCA, Nat.reduceEqDiff, ↓reduceIte, exists_eq_right, d4])
        all_goals exact S5
def c9 : SFun := ⟨.seq (.reg [o 2 (.mv (.c (.str []))), o 3 (.mv (.c (.int .i64 0)))]) (.seq (.reg [o 4 (.mv (.c (.str [])))]) (.seq (.seq (.reg [o 5 (.mv (.c (.int .i64 0)))]) (.block 0 (.loop (.seq (.seq (.reg [o 6 (.mv (.t 5)), o 7 (.mv (.t 0)), o 8 (.len (.t 7)), o 9 (.bin .lss (.t 6) (.t 8))]) (.cond (.t 9) .skip (.exit 0))) (.seq (.block 1 (.seq (.seq (.reg [o 12 (.mv (.t 5)), o 13 (.bin .gtr (.t 12) (.c (.int .i64 0)))]) (.cond (.t 13) (.reg [o 14 (.mv (.t 4)), o 15 (.bin .add (.t 14) (.c (.str [38]))), o 4 (.mv (.t 15))]) .skip)) (.dreg [(o 16 (.mv (.t 4)), none), (o 17 (.mv (.t 0)), none), (o 18 (.mv (.t 5)), none), (o 19 (.idxA 2 (.t 17) (.t 18)), none), (o 20 (.fldA 0 (.t 19)), none), (o 21 (.ld 1 false (.t 20)), none), (o 22 (.pcall 28 [.t 21]), none), (o 23 (.bin .add (.t 22) (.c (.str [61]))), none), (o 24 (.mv (.t 0)), none), (o 25 (.mv (.t 5)), none), (o 26 (.idxA 2 (.t 24) (.t 25)), none), (o 27 (.fldA 1 (.t 26)), none), (o 28 (.ld 1 false (.t 27)), none), (o 29 (.pcall 28 [.t 28]), none), (o 30 (.bin .add (.t 23) (.t 29)), none), (o 31 (.bin .add (.t 16) (.t 30)), none), (o 4 (.mv (.t 31)), (some [28, 21]))]))) (.reg [o 10 (.mv (.t 5)), o 11 (.bin .add (.t 10) (.c (.int .i64 1))), o 5 (.mv (.t 11))])))))) (.seq (.seq (.reg [o 32 (.mv (.t 0)), o 33 (.len (.t 32)), o 34 (.bin .gtr (.t 33) (.c (.int .i64 100))), o 35 (.mv (.t 34)), ⟨some 36, .mv (.t 4), some (35, false)⟩, ⟨some 37, .lenS (.t 36), some (35, false)⟩, ⟨some 38, .bin .gtr (.t 37) (.c (.int .i64 4000)), some (35, false)⟩, o 39 (.pick (.t 35) (.c (.bool true)) (.t 38))]) (.cond (.t 39) (.seq (.reg [o 2 (.mv (.c (.str []))), o 3 (.mv (.c (.int .i64 2)))]) .ret) .skip)) (.seq (.reg [o 40 (.mv (.t 4)), o 2 (.mv (.t 40)), o 3 (.mv (.c (.int .i64 0)))]) .ret)))), [.tmp 2, .tmp 3]⟩
end Go.Proofs.K
end
section
set_option linter.unusedSimpArgs false
set_option linter.unusedVariables false
namespace Go.Proofs.K
open Go Go.Sim Go.Proofs
variable {G : T0}
def c6 : SFun := ⟨.seq (.reg [o 4 (.mv (.c (.str [])))]) (.seq (.reg [o 5 (.mv (.t 0)), o 6 (.mv (.t 0)), o 7 (.lenS (.t 6)), o 8 (.mv (.t 1)), o 9 (.min2 (.t 7) (.t 8)), o 10 (.slS (.t 5) none (some (.t 9))), o 4 (.mv (.t 10))]) .ret), [.tmp 4]⟩
end Go.Proofs.K
end
section
set_option linter.unusedSimpArgs false
set_option linter.unusedVariables false
namespace Go.Proofs.K
open Go Go.Sim Go.Proofs Go.Shelf
variable {G : T0}
def c12 : SFun := ⟨.seq (.reg [o 4 (.mv (.c (.bool false)))]) (.seq (.seq (.reg [o 6 (.mv (.t 0)), o 7 (.len (.t 6)), o 8 (.mv (.t 1)), o 9 (.len (.t 8)), o 10 (.bin .neq (.t 7) (.t 9))]) (.cond (.t 10) (.seq (.reg [o 4 (.mv (.c (.bool false)))]) .ret) .skip)) (.seq (.seq (.reg [o 5 (.mv (.c (.int .i64 0)))]) (.block 0 (.loop (.seq (.seq (.reg [o 11 (.mv (.t 5)), o 12 (.mv (.t 0)), o 13 (.len (.t 12)), o 14 (.bin .lss (.t 11) (.t 13))]) (.cond (.t 14) .skip (.exit 0))) (.seq (.block 1 (.seq (.dreg [(o 17 (.mv (.t 0)), none), (o 18 (.mv (.t 5)), none), (o 19 (.idxA 2 (.t 17) (.t 18)), none), (o 20 (.ld 2 true (.t 19)), none), (o 21 (.mv (.t 1)), none), (o 22 (.mv (.t 5)), none), (o 23 (.idxA 2 (.t 21) (.t 22)), none), (o 24 (.ld 2 true (.t 23)), none), (o 25 (.eqs true [1, 1] (.t 20) (.t 24)), none)]) (.cond (.t 25) (.seq (.reg [o 4 (.mv (.c (.bool false)))]) .ret) .skip))) (.reg [o 15 (.mv (.t 5)), o 16 (.bin .add (.t 15) (.c (.int .i64 1))), o 5 (.mv (.t 16))])))))) (.seq (.reg [o 4 (.mv (.c (.bool true)))]) .ret))), [.tmp 4]⟩
theorem hc12 : J1 Tryz.prog {} Tryz.f12 = some c12 := by kernel_rfl
theorem sameEnt_ok (a : List HEnt) (ha : a.length <= 1073741824) : PCalls (Pg G) 12 [sl JK a, sl JK a] (.bool true) := fun h => by
  refine Q1 Tryz.func12 (by kernel_rfl) hc12 (by rw [Tryz.ntmps12]; simp) (by rw [Tryz.ntmps12]; decide) ?_
  have hne : ((a.length : Int) != (a.length : Int)) = false := by simp
  simp -dsimp -implicitDefEqProofs (disch := omega) only [VCA, Nat.reduceEqDiff, ↓reduceIte, reduceCtorEq, c12, hne]
  repeat' (first | ((with_reducible refine brC (fun _ => ?_) fun _ => ?_) <;> try (exfalso; omega)) | (with_reducible refine And.intro ?_ ?_; · omega) | simp -dsimp -implicitDefEqProofs (disch := omega) only [VCA, TX, ↓U5, Nat.reduceEqDiff, Nat.reduceBEq, Nat.reduceAdd, Nat.reduceSub, Nat.reduceMul, Nat.reduceLT, Nat.reduceLeDiff, ↓reduceIte, reduceCtorEq, Y6, Q9, SOp.rd, SI.rd, SX.rd, rdL, rdO, rdP, Z2, Y3, J6, K7, X0, Y7, implies_true, forall_const, forall_eq, ne_eq, exists_eq_right_right, exists_eq_right, exists_eq_left, exists_eq_left', Z7, Z3, ZJ, ZX, hne])
  refine LoopVC.intro (fun m e h' => ∃ k : Nat, k <= a.length /\ m = a.length - k /\ e 0 = sl JK a /\ e 1 = sl JK a /\ e 5 = Q4 k /\ h' = h) a.length
    (by exact ⟨0, by omega, by omega, rfl, rfl, rfl, rfl⟩) ?_
  rintro m e h' ⟨k, hk, rfl, e0, e1, e5, rfl⟩
  by_cases hlt : k < a.length
  · have d1 : decide ((k : Int) < (a.length : Int)) = true := decide_eq_true (by omega)
    repeat' (first | ((with_reducible refine brC (fun _ => ?_) fun _ => ?_) <;> try (exfalso; omega)) | (with_reducible refine And.intro ?_ ?_; · omega) | simp -dsimp -implicitDefEqProofs (disch := omega) only [VCA, Nat.reduceEqDiff, Nat.reduceAdd, ↓reduceIte, reduceCtorEq, Y6, Q9, Y3, J6, exists_eq_right_right, Z7, e0, e1, e5, d1, JK])
    all_goals first
      | exact ⟨_, by omega, k + 1, by omega, rfl, by omega⟩
      | (rename_i q; simp at q)
  · have d1 : decide ((k : Int) < (a.length : Int)) = false := decide_eq_false (by omega)
    repeat' (first | ((with_reducible refine brC (fun _ => ?_) fun _ => ?_) <;> try (exfalso; omega)) | (with_reducible refine And.intro ?_ ?_; · omega) | simp -dsimp -implicitDefEqProofs (disch := omega) only [VCA, Nat.reduceEqDiff, ↓reduceIte, reduceCtorEq, exists_eq_right, e0, e5, d1])
    all_goals exact Sub.refl _
def c3 : SFun := ⟨.seq (.reg [o 4 (.mv (.c (.bool false)))]) (.seq (.reg [o 14 (.mv (.t 0)), o 15 (.mv (.t 0)), o 16 (.len (.t 15)), o 17 (.min2 (.t 16) (.c (.int .i64 110))), o 18 (.slA 2 (.t 14) none (some (.t 17))), o 0 (.mv (.t 18))]) (.seq (.seq (.reg [o 5 (.mv (.c (.int .i64 0)))]) (.block 0 (.loop (.seq (.seq (.reg [o 19 (.mv (.t 5)), o 20 (.mv (.t 0)), o 21 (.len (.t 20)), o 22 (.bin .lss (.t 19) (.t 21))]) (.cond (.t 22) .skip (.exit 0))) (.seq (.block 1 (.dreg [(o 25 (.bldF 25 2 []), none), (o 26 (.mv (.t 0)), none), (o 27 (.mv (.t 5)), none), (o 28 (.slA 2 (.t 26) none (some (.t 27))), none), (o 30 (.mv (.t 0)), none), (o 31 (.mv (.t 5)), none), (o 32 (.idxA 2 (.t 30) (.t 31)), none), (o 33 (.fldA 0 (.t 32)), none), (o 34 (.ld 1 false (.t 33)), none), (o 36 (.mv (.t 0)), none), (o 37 (.mv (.t 5)), none), (o 38 (.idxA 2 (.t 36) (.t 37)), none), (o 39 (.fldA 1 (.t 38)), none), (o 40 (.ld 1 false (.t 39)), none), (o 45 (.mv (.t 0)), none), (o 46 (.mv (.t 5)), none), (o 47 (.bin .add (.t 46) (.c (.int .i64 1))), none), (o 48 (.slA 2 (.t 45) (some (.t 47)) none), none), (o 29 (.app 25 2 32 (.t 25) (.t 28)), (some [])), (o 35 (.pcall 6 [.t 34, .c (.int .i64 60)]), none), (o 41 (.pcall 6 [.t 40, .c (.int .i64 60)]), none), (o 42 (.bld [.str [], .str []] [(0, (1, (.t 35))), (1, (1, (.t 41)))]), none), (o 43 (.bldF 25 2 [.t 42]), none), (o 44 (.app 25 2 32 (.t 29) (.t 43)), (some [40, 34])), (o 49 (.appF 25 2 32 (.t 44) (.t 48)), (some [40, 34])), (o 0 (.mv (.t 49)), (some [40, 34]))])) (.reg [o 23 (.mv (.t 5)), o 24 (.bin .add (.t 23) (.c (.int .i64 1))), o 5 (.mv (.t 24))])))))) (.seq (.reg [o 51 (.mv (.t 0)), o 52 (.pcall 7 [.t 51]), o 50 (.mv (.t 52)), o 53 (.ext (.t 50) 0), o 54 (.ext (.t 50) 1), o 6 (.mv (.t 53)), o 7 (.mv (.t 54))]) (.seq (.reg [o 56 (.mv (.t 1)), o 57 (.pcall 8 [.t 56]), o 55 (.mv (.t 57)), o 58 (.ext (.t 55) 0), o 59 (.ext (.t 55) 1), o 8 (.mv (.t 58)), o 9 (.mv (.t 59))]) (.seq (.reg [o 61 (.mv (.t 0)), o 62 (.pcall 9 [.t 61]), o 60 (.mv (.t 62)), o 63 (.ext (.t 60) 0), o 64 (.ext (.t 60) 1), o 10 (.mv (.t 63)), o 11 (.mv (.t 64))]) (.seq (.seq (.reg [o 65 (.mv (.t 1)), o 66 (.lenS (.t 65)), o 67 (.bin .gtr (.t 66) (.c (.int .i64 4000)))]) (.cond (.t 67) (.seq (.reg [o 68 (.pcall 10 []), o 69 (.mv (.t 68)), ⟨some 70, .mv (.t 6), some (69, true)⟩, ⟨some 71, .mv (.t 10), some (69, true)⟩, ⟨some 72, .bin .eql (.t 70) (.t 71), some (69, true)⟩, o 73 (.pick (.t 69) (.t 72) (.c (.bool false))), o 74 (.mv (.t 73)), ⟨some 75, .mv (.t 7), some (74, true)⟩, ⟨some 76, .mv (.t 11), some (74, true)⟩, ⟨some 77, .bin .eql (.t 75) (.t 76), some (74, true)⟩, o 78 (.pick (.t 74) (.t 77) (.c (.bool false))), o 79 (.mv (.t 78)), ⟨some 80, .mv (.t 9), some (79, true)⟩, ⟨some 81, .bin .eql (.t 80) (.c (.int .i64 2)), some (79, true)⟩, o 82 (.pick (.t 79) (.t 81) (.c (.bool false))), o 83 (.mv (.t 82)), ⟨some 84, .mv (.t 8), some (83, true)⟩, ⟨some 85, .len (.t 84), some (83, true)⟩, ⟨some 86, .bin .eql (.t 85) (.c (.int .i64 0)), some (83, true)⟩, o 87 (.pick (.t 83) (.t 86) (.c (.bool false))), o 4 (.mv (.t 87))]) .ret) .skip)) (.seq (.reg [o 88 (.mv (.t 1)), o 89 (.pcall 6 [.t 88, .c (.int .i64 600)]), o 1 (.mv (.t 89))]) (.seq (.reg [o 91 (.mv (.t 1)), o 92 (.pcall 8 [.t 91]), o 90 (.mv (.t 92)), o 93 (.ext (.t 90) 0), o 94 (.ext (.t 90) 1), o 8 (.mv (.t 93)), o 9 (.mv (.t 94))]) (.seq (.reg [o 96 (.mv (.t 1)), o 97 (.pcall 11 [.t 96]), o 95 (.mv (.t 97)), o 98 (.ext (.t 95) 0), o 99 (.ext (.t 95) 1), o 12 (.mv (.t 98)), o 13 (.mv (.t 99))]) (.seq (.reg [o 100 (.pcall 10 []), o 101 (.mv (.t 100)), ⟨some 102, .mv (.t 6), some (101, true)⟩, ⟨some 103, .mv (.t 10), some (101, true)⟩, ⟨some 104, .bin .eql (.t 102) (.t 103), some (101, true)⟩, o 105 (.pick (.t 101) (.t 104) (.c (.bool false))), o 106 (.mv (.t 105)), ⟨some 107, .mv (.t 7), some (106, true)⟩, ⟨some 108, .mv (.t 11), some (106, true)⟩, ⟨some 109, .bin .eql (.t 107) (.t 108), some (106, true)⟩, o 110 (.pick (.t 106) (.t 109) (.c (.bool false))), o 111 (.mv (.t 110)), ⟨some 112, .mv (.t 8), some (111, true)⟩, ⟨some 113, .mv (.t 12), some (111, true)⟩, ⟨some 114, .pcall 12 [.t 112, .t 113], some (111, true)⟩, o 115 (.pick (.t 111) (.t 114) (.c (.bool false))), o 116 (.mv (.t 115)), ⟨some 117, .mv (.t 9), some (116, true)⟩, ⟨some 118, .mv (.t 13), some (116, true)⟩, ⟨some 119, .bin .eql (.t 117) (.t 118), some (116, true)⟩, o 120 (.pick (.t 116) (.t 119) (.c (.bool false))), o 4 (.mv (.t 120))]) .ret)))))))))), [.tmp 4]⟩
end Go.Proofs.K
end
section
set_option linter.unusedSimpArgs false
set_option linter.unusedVariables false
namespace Go.Proofs.K
open Go Go.Sim Go.Proofs
variable {d : HDoc}
def V5 (d : HDoc) (n : Int) (nm : List UInt8) : Int := if KU d ≠ 0 then KU d else if ¬ inD d n then 1 else if (nd d n).kind ≠ 2 \/ inW (nd d n).name nm = false then 7 else if 0 ∈ U2 d n then 0 else 5
def ownM (d : HDoc) (o : List Int) (n : Int) : Int :=
  if X2 d n [102, 111, 114, 109] = false then abM d (isN d [102, 111, 114, 109]) n
  else match o.find? (fun k => X2 d k [105, 100] && X5 d k [105, 100] == X5 d n [102, 111, 114, 109]) with
  | some k => if isN d [102, 111, 114, 109] k = true then k else -1
  | none => -1
def TV (k : List UInt8) : Bool := k == [99, 104, 101, 99, 107, 98, 111, 120] || k == [114, 97, 100, 105, 111]
def Y1 (d : HDoc) (n : Int) : List UInt8 := if (nd d n).name = [105, 110, 112, 117, 116] then typM (X5 d n [116, 121, 112, 101]) else (nd d n).name
def optV (d : HDoc) (k : Int) : List UInt8 := if X2 d k [118, 97, 108, 117, 101] = true then X5 d k [118, 97, 108, 117, 101] else Z9 d (Z4 d k)
def belO (d : HDoc) (nm : List UInt8) (n : Int) : List Int := ((Z4 d n).drop 1).filter (isN d nm)
def JJ (d : HDoc) (n : Int) : List Int :=
  if (belO d [111, 112, 116, 105, 111, 110] n).filter (fun k => X2 d k [115, 101, 108, 101, 99, 116, 101, 100]) ≠ [] \/ X2 d n [109, 117, 108, 116, 105, 112, 108, 101] = true then (belO d [111, 112, 116, 105, 111, 110] n).filter (fun k => X2 d k [115, 101, 108, 101, 99, 116, 101, 100])
  else ((belO d [111, 112, 116, 105, 111, 110] n).filter fun k => !X2 d k [100, 105, 115, 97, 98, 108, 101, 100]).take 1
def X7 (d : HDoc) (n : Int) : List UInt8 :=
  if (nd d n).name = [116, 101, 120, 116, 97, 114, 101, 97] then Z9 d (Z4 d n)
  else if (nd d n).name = [115, 101, 108, 101, 99, 116] then (if JJ d n = [] then [] else optV d (nth (JJ d n) ((JJ d n).length - 1)))
  else if TV (Y1 d n) = true /\ X2 d n [118, 97, 108, 117, 101] = false then [111, 110] else X5 d n [118, 97, 108, 117, 101]
def offM (d : HDoc) (k : Int) : Bool := isN d [102, 105, 101, 108, 100, 115, 101, 116] k && X2 d k [100, 105, 115, 97, 98, 108, 101, 100]
def toldM (d : HDoc) (n : Int) : Bool :=
  !(X5 d n [110, 97, 109, 101] == [] || (X2 d n [100, 105, 115, 97, 98, 108, 101, 100] || decide (0 <= abM d (offM d) n))) && (!(inW (Y1 d n) subS) && (!TV (Y1 d n) || X2 d n [99, 104, 101, 99, 107, 101, 100]))
def JU (d : HDoc) (n : Int) : List HEnt :=
  if (nd d n).name = [115, 101, 108, 101, 99, 116] then ((if X2 d n [109, 117, 108, 116, 105, 112, 108, 101] = true then JJ d n else (JJ d n).drop ((JJ d n).length - 1)).map fun k => ⟨X5 d n [110, 97, 109, 101], optV d k⟩)
  else [⟨X5 d n [110, 97, 109, 101], X7 d n⟩]
def YQ (d : HDoc) (f n : Int) : Bool := inW (nd d n).name V6 && (ownM d (Z4 d 0) n == f && toldM d n)
def radM (d : HDoc) (n : Int) : Bool := Y1 d n == [114, 97, 100, 105, 111]
def lateM (d : HDoc) (f : Int) (r : List Int) (n : Int) : Bool := radM d n && r.any fun k => YQ d f k && (radM d k && X5 d k [110, 97, 109, 101] == X5 d n [110, 97, 109, 101])
def KW (d : HDoc) (f : Int) : List Int -> List HEnt
  | [] => []
  | n :: r => (if YQ d f n = true /\ lateM d f r n = false then JU d n else []) ++ KW d f r
theorem T6 (V : DV d) {n : Int} (hn : inD d n) (nm : List UInt8) : (X5 d n nm).length <= 400 := by
  have h := V.node n hn
  unfold ZV at h
  have ha : QT (nd d n).attrs = 0 := by
    by_cases h1 : (nd d n).kind < 1 \/ 5 < (nd d n).kind \/ JZ (nd d n) = false
    · rw [if_pos h1] at h; omega
    · rw [if_neg h1] at h
      by_cases h2 : (nd d n).kind = 2 /\ U7 true (nd d n).name = false
      · rw [if_pos h2] at h; omega
      · rw [if_neg h2] at h
        by_cases h3 : QT (nd d n).attrs = 0
        · exact h3
        · rw [if_pos h3] at h; exact absurd h h3
  unfold X5 attV
  split
  · rename_i h0
    have hb := (attrAt_spec (nd d n).attrs nm h0).1
    unfold QT at ha
    split at ha
    · omega
    have hE := fe_zero ha _ hb
    unfold XV at hE
    split at hE
    · omega
    split at hE
    · omega
    · omega
  · simp
theorem name_len (V : DV d) {n : Int} (hn : inD d n) : (nd d n).name.length <= 400 := by
  have h := V.node n hn
  unfold ZV at h
  repeat' split at h
  all_goals omega
theorem lett_len (V : DV d) {n : Int} (hn : inD d n) : (Z9 d (Z4 d n)).length <= 80000 := by
  have h1 := letters_len V (Z4 d n) (T7 V n hn)
  have h2 := U1 V hn
  have h3 := V.len
  have : 400 * (Z4 d n).length <= 400 * 200 := Nat.mul_le_mul_left _ (by omega)
  omega
theorem belO_in (V : DV d) {n : Int} (hn : inD d n) {nm : List UInt8} : ∀ k ∈ belO d nm n, inD d k := fun k hk =>
  T7 V n hn k (List.mem_of_mem_drop (List.mem_filter.1 hk).1)
theorem belO_len (V : DV d) {n : Int} (hn : inD d n) {nm : List UInt8} : (belO d nm n).length <= 200 := by
  have h1 := U1 V hn
  have h2 := V.len
  have h3 := List.length_filter_le (isN d nm) ((Z4 d n).drop 1)
  rw [List.length_drop] at h3
  unfold belO; omega
theorem chosM_in (V : DV d) {n : Int} (hn : inD d n) : ∀ k ∈ JJ d n, inD d k := fun k hk => by
  unfold JJ at hk
  split at hk
  · exact belO_in V hn k (List.mem_filter.1 hk).1
  · exact belO_in V hn k (List.mem_filter.1 (List.mem_of_mem_take hk)).1
theorem chosM_len (V : DV d) {n : Int} (hn : inD d n) : (JJ d n).length <= 200 := by
  have h := belO_len V hn (nm := [111, 112, 116, 105, 111, 110])
  unfold JJ
  split
  · exact Nat.le_trans (List.length_filter_le _ _) h
  · rw [List.length_take]; have := List.length_filter_le (fun k => !X2 d k [100, 105, 115, 97, 98, 108, 101, 100]) (belO d [111, 112, 116, 105, 111, 110] n); omega
theorem optV_len (V : DV d) {n : Int} (hn : inD d n) : (optV d n).length <= 80000 := by
  unfold optV
  split
  · have := T6 V hn [118, 97, 108, 117, 101]; omega
  · exact lett_len V hn
theorem fvalM_len (V : DV d) {n : Int} (hn : inD d n) : (X7 d n).length <= 80000 := by
  unfold X7
  split
  · exact lett_len V hn
  split
  · split
    · simp
    · rename_i h
      exact optV_len V (chosM_in V hn _ (Y2 (by have := List.length_pos_iff.2 h; omega)))
  split
  · simp
  · have := T6 V hn [118, 97, 108, 117, 101]; omega
theorem entsOf_len (V : DV d) {n : Int} (hn : inD d n) : (JU d n).length <= 200 := by
  have h := chosM_len V hn
  unfold JU
  split
  · rw [List.length_map]
    split
    · exact h
    · rw [List.length_drop]; omega
  · simp
theorem entL_len (V : DV d) (f : Int) : ∀ l : List Int, (∀ k ∈ l, inD d k) -> (KW d f l).length <= 200 * l.length
  | [], _ => by simp [KW]
  | n :: r, h => by
    have h1 := entL_len V f r fun k hk => h k (List.mem_cons_of_mem _ hk)
    have h2 := entsOf_len V (h n List.mem_cons_self)
    rw [KW, List.length_append, List.length_cons]
    split <;> simp <;> omega
theorem attrs_el (V : DV d) {n : Int} (hn : inD d n) (h : (nd d n).attrs ≠ []) : (nd d n).kind = 2 := by
  have h1 := V.node n hn
  unfold ZV at h1
  split at h1
  · omega
  · rename_i h2
    have hb : JZ (nd d n) = true := by
      cases hq : JZ (nd d n)
      · exact absurd (.inr (.inr hq)) h2
      · rfl
    unfold JZ at hb
    simp only [Bool.and_eq_true, Bool.or_eq_true, decide_eq_true_eq] at hb
    rcases hb.1.1.2 with h3 | h3
    · exact h3
    · exact absurd h3 h
theorem has_el (V : DV d) {n : Int} (hn : inD d n) {nm : List UInt8} (h : X2 d n nm = true) : (nd d n).kind = 2 := by
  refine attrs_el V hn fun h0 => ?_
  unfold X2 at h
  rw [h0] at h
  simp [V3, WV] at h
end Go.Proofs.K
end
section
set_option linter.unusedSimpArgs false
set_option linter.unusedVariables false
namespace Go.Proofs.K
open Go Go.Sim Go.Proofs
variable {G : T0}
def UV (b : UInt8) : Bool := decide (48 <= b.toNat) && decide (b.toNat <= 57)
def dgN (s : List UInt8) : List UInt8 := if s.head? = some 45 then s.drop 1 else s
def vN (l : List UInt8) : Int := l.foldl (fun n b => 10 * n + ((b.toNat : Int) - 48)) 0
def XX (s : List UInt8) : Int × Bool :=
  if dgN s = [] \/ 9 < (dgN s).length \/ (dgN s).all UV = false then (0, false) else (if s.head? = some 45 then -(vN (dgN s)) else vN (dgN s), true)
theorem vN_snoc (l : List UInt8) (b : UInt8) : vN (l ++ [b]) = 10 * vN l + ((b.toNat : Int) - 48) := by unfold vN; rw [List.foldl_append]; rfl
theorem vN_bound (l : List UInt8) (h : l.all UV = true) : 0 <= vN l /\ vN l < 10 ^ l.length := by
  obtain ⟨k, hk⟩ : ∃ k, l.length = k := ⟨_, rfl⟩
  induction k generalizing l with
  | zero => obtain rfl := List.eq_nil_of_length_eq_zero hk; decide
  | succ k ih =>
    rcases List.eq_nil_or_concat l with rfl | ⟨L, b, rfl⟩
    · cases hk
    · rw [List.concat_eq_append] at h hk ⊢
      rw [List.all_append, Bool.and_eq_true] at h
      rw [List.length_append, List.length_singleton] at hk
      obtain ⟨h1, h2⟩ := ih L h.1 (by omega)
      have hb : UV b = true := by simpa using h.2
      unfold UV at hb
      simp only [Bool.and_eq_true, decide_eq_true_eq] at hb
      rw [vN_snoc, List.length_append, List.length_singleton, Int.pow_succ]
      omega
theorem dig_in (b : UInt8) : ([48, 49, 50, 51, 52, 53, 54, 55, 56, 57] : List UInt8).contains b = UV b :=
  of_decide_eq_true (u8_all (p := fun b => decide (([48, 49, 50, 51, 52, 53, 54, 55, 56, 57] : List UInt8).contains b = UV b)) (by decide +kernel) b)
theorem dig_trim (s : List UInt8) : (Lib.trimS s [48, 49, 50, 51, 52, 53, 54, 55, 56, 57] != []) = !(s.all UV) := by
  have h := trim_all s [48, 49, 50, 51, 52, 53, 54, 55, 56, 57]
  have e : s.all (([48, 49, 50, 51, 52, 53, 54, 55, 56, 57] : List UInt8).contains ·) = s.all UV := by congr 1; funext b; exact dig_in b
  rw [e] at h
  cases hd : s.all UV
  · rw [hd] at h
    simp only [Bool.not_false, bne_iff_ne, ne_eq]
    exact fun q => by have := h.1 q; cases this
  · rw [hd] at h
    rw [h.2 rfl]; rfl
def c153 : SFun := ⟨.seq (.reg [o 4 (.mv (.c (.bool false)))]) (.seq (.reg [o 5 (.mv (.t 0)), o 6 (.lenS (.t 5)), o 7 (.mv (.t 1)), o 8 (.lenS (.t 7)), o 9 (.bin .geq (.t 6) (.t 8)), o 10 (.mv (.t 9)), ⟨some 11, .mv (.t 0), some (10, true)⟩, ⟨some 12, .mv (.t 1), some (10, true)⟩, ⟨some 13, .lenS (.t 12), some (10, true)⟩, ⟨some 14, .slS (.t 11) none (some (.t 13)), some (10, true)⟩, ⟨some 15, .mv (.t 1), some (10, true)⟩, ⟨some 16, .bin .eql (.t 14) (.t 15), some (10, true)⟩, o 17 (.pick (.t 10) (.t 16) (.c (.bool false))), o 4 (.mv (.t 17))]) .ret), [.tmp 4]⟩
theorem hc153 : J1 Tryz.prog {} Tryz.f153 = some c153 := by kernel_rfl
theorem hasPre_ok (s : List UInt8) (hs : s.length <= 1073741824) : PCalls (Pg G) 153 [.str s, .str [45]] (.bool (s.head? == some 45)) := fun h => by
  have l1 : (([45] : List UInt8).length : Int) = 1 := rfl
  cases s with
  | nil =>
    have d0 : decide ((1 : Int) <= (([] : List UInt8).length : Int)) = false := rfl
    refine Q1 Tryz.func153 (by kernel_rfl) hc153 (by rw [Tryz.ntmps153]; simp) (by rw [Tryz.ntmps153]; decide) ?_
    simp -dsimp -implicitDefEqProofs (disch := omega) only [↓Q0 10, VCA, Nat.reduceEqDiff, ↓reduceIte, reduceCtorEq, c153]
    repeat' (first | ((with_reducible refine brC (fun _ => ?_) fun _ => ?_) <;> try (exfalso; omega)) | (with_reducible refine And.intro ?_ ?_; · omega) | simp -dsimp -implicitDefEqProofs (disch := omega) only [VCA, Nat.reduceEqDiff, ↓reduceIte, exists_eq_right_right])
    all_goals first | exact Sub.refl _ | exact ⟨Sub.refl _, rfl⟩ | trace_state
  | cons b r =>
    have d0 : decide ((1 : Int) <= ((b :: r).length : Int)) = true := decide_eq_true (by rw [List.length_cons]; omega)
    obtain ⟨v, hv⟩ : ∃ v, (([b] : List UInt8) == [45]) = v := ⟨_, rfl⟩
    have hv2 : ((b :: r).head? == some 45) = v := by rw [<- hv]; simp
    rw [hv2]
    have tk : (b :: r).take 1 = [b] := rfl
    refine Q1 Tryz.func153 (by kernel_rfl) hc153 (by rw [Tryz.ntmps153]; simp) (by rw [Tryz.ntmps153]; decide) ?_
    simp -dsimp -implicitDefEqProofs (disch := omega) only [↓Q0 10, VCA, Nat.reduceEqDiff, ↓reduceIte, reduceCtorEq, c153]
    repeat' (first | ((with_reducible refine brC (fun _ => ?_) fun _ => ?_) <;> try (exfalso; omega)) | (with_reducible refine And.intro ?_ ?_; · omega) | simp -dsimp -implicitDefEqProofs (disch := omega) only [VCA, Nat.reduceEqDiff, ↓reduceIte, reduceCtorEq, exists_eq_right, tk, hv])
    all_goals first | exact Sub.refl _ | exact ⟨Sub.refl _, rfl⟩ | trace_state
def c140 : SFun := ⟨.seq (.reg [o 4 (.mv (.c (.str [])))]) (.seq (.seq (.reg [o 5 (.mv (.t 0)), o 6 (.mv (.t 1)), o 7 (.pcall 153 [.t 5, .t 6])]) (.cond (.t 7) (.seq (.reg [o 8 (.mv (.t 0)), o 9 (.mv (.t 1)), o 10 (.lenS (.t 9)), o 11 (.slS (.t 8) (some (.t 10)) none), o 4 (.mv (.t 11))]) .ret) .skip)) (.seq (.reg [o 12 (.mv (.t 0)), o 4 (.mv (.t 12))]) .ret)), [.tmp 4]⟩
theorem hc140 : J1 Tryz.prog {pure := [153]} Tryz.f140 = some c140 := by kernel_rfl
theorem trimPre0_ok (s : List UInt8) (hs : s.length <= 1073741824) : PCalls (Pg G) 140 [.str s, .str [45]] (.str (dgN s)) := fun h => by
  have c1 := hasPre_ok (G := G) s hs
  have l1 : (([45] : List UInt8).length : Int) = 1 := rfl
  unfold dgN
  by_cases h1 : s.head? = some 45
  · have e1 : (s.head? == some 45) = true := by rw [h1]; rfl
    have hp : 0 < s.length := by cases s with
      | nil => cases h1
      | cons _ _ => simp
    rw [e1] at c1
    rw [if_pos h1]
    refine Q1 Tryz.func140 (by kernel_rfl) hc140 (by rw [Tryz.ntmps140]; simp) (by rw [Tryz.ntmps140]; decide) ?_
    simp -dsimp -implicitDefEqProofs (disch := omega) only [VCA, Nat.reduceEqDiff, ↓reduceIte, reduceCtorEq, c140]
    repeat' (first | ((with_reducible refine brC (fun _ => ?_) fun _ => ?_) <;> try (exfalso; omega)) | (with_reducible apply pcallE.of; · exact c1) | (with_reducible refine And.intro ?_ ?_; · omega) | simp -dsimp -implicitDefEqProofs (disch := omega) only [VCA, Nat.reduceEqDiff, ↓reduceIte, reduceCtorEq, exists_eq_right])
    all_goals first | exact Sub.refl _ | exact ⟨Sub.refl _, rfl⟩ | trace_state
  · have e1 : (s.head? == some 45) = false := by simpa using h1
    rw [e1] at c1
    rw [if_neg h1]
    refine Q1 Tryz.func140 (by kernel_rfl) hc140 (by rw [Tryz.ntmps140]; simp) (by rw [Tryz.ntmps140]; decide) ?_
    simp -dsimp -implicitDefEqProofs (disch := omega) only [VCA, Nat.reduceEqDiff, ↓reduceIte, reduceCtorEq, c140]
    repeat' (first | ((with_reducible refine brC (fun _ => ?_) fun _ => ?_) <;> try (exfalso; omega)) | (with_reducible apply pcallE.of; · exact c1) | (with_reducible refine And.intro ?_ ?_; · omega) | simp -dsimp -implicitDefEqProofs (disch := omega) only [VCA, ↓reduceIte, reduceCtorEq, exists_eq_right])
    all_goals first | exact Sub.refl _ | exact ⟨Sub.refl _, rfl⟩ | trace_state
def c122 : SFun := ⟨.seq (.reg [o 4 (.mv (.c (.str [])))]) (.seq (.reg [o 5 (.mv (.t 0)), o 6 (.mv (.t 1)), o 7 (.pcall 140 [.t 5, .t 6]), o 4 (.mv (.t 7))]) .ret), [.tmp 4]⟩
theorem hc122 : J1 Tryz.prog {pure := [140]} Tryz.f122 = some c122 := by kernel_rfl
theorem trimPre_ok (s : List UInt8) (hs : s.length <= 1073741824) : PCalls (Pg G) 122 [.str s, .str [45]] (.str (dgN s)) := fun h => by
  have c1 := trimPre0_ok (G := G) s hs
  refine Q1 Tryz.func122 (by kernel_rfl) hc122 (by rw [Tryz.ntmps122]; simp) (by rw [Tryz.ntmps122]; decide) ?_
  simp -dsimp -implicitDefEqProofs (disch := omega) only [VCA, Nat.reduceEqDiff, ↓reduceIte, reduceCtorEq, c122]
  repeat' (first | ((with_reducible refine brC (fun _ => ?_) fun _ => ?_) <;> try (exfalso; omega)) | (with_reducible apply pcallE.of; · exact c1) | (with_reducible refine And.intro ?_ ?_; · omega) | simp -dsimp -implicitDefEqProofs (disch := omega) only [VCA, ↓reduceIte, exists_eq_right])
  all_goals exact Sub.refl _
theorem dgN_ne (s : List UInt8) : (dgN s != s) = (s.head? == some 45) := by
  unfold dgN
  by_cases h : s.head? = some 45
  · rw [if_pos h, h]
    cases s with
    | nil => cases h
    | cons b r =>
      simp
  · rw [if_neg h]; simp [h]
theorem dgN_len (s : List UInt8) : (dgN s).length <= s.length := by unfold dgN; split <;> simp
def c96 : SFun := ⟨.seq (.reg [o 2 (.mv (.c (.int .i64 0))), o 3 (.mv (.c (.bool false)))]) (.seq (.reg [o 6 (.mv (.t 0)), o 7 (.pcall 122 [.t 6, .c (.str [45])]), o 4 (.mv (.t 7))]) (.seq (.seq (.reg [o 8 (.mv (.t 4)), o 9 (.bin .eql (.t 8) (.c (.str []))), o 10 (.mv (.t 9)), ⟨some 11, .mv (.t 4), some (10, false)⟩, ⟨some 12, .lenS (.t 11), some (10, false)⟩, ⟨some 13, .bin .gtr (.t 12) (.c (.int .i64 9)), some (10, false)⟩, o 14 (.pick (.t 10) (.c (.bool true)) (.t 13)), o 15 (.mv (.t 14)), ⟨some 16, .mv (.t 4), some (15, false)⟩, ⟨some 17, .pcall 123 [.t 16, .c (.str [48, 49, 50, 51, 52, 53, 54, 55, 56, 57])], some (15, false)⟩, ⟨some 18, .bin .neq (.t 17) (.c (.str [])), some (15, false)⟩, o 19 (.pick (.t 15) (.c (.bool true)) (.t 18))]) (.cond (.t 19) (.seq (.reg [o 2 (.mv (.c (.int .i64 0))), o 3 (.mv (.c (.bool false)))]) .ret) .skip)) (.seq (.seq (.reg [o 20 (.mv (.t 4)), o 21 (.lenS (.t 20)), o 22 (.mv (.c (.int .i64 0)))]) (.block 0 (.loop (.seq (.reg [o 23 (.bin .lss (.t 22) (.t 21))]) (.seq (.cond (.t 23) .skip (.exit 0)) (.seq (.block 1 (.seq (.reg [o 24 (.mv (.t 22)), o 5 (.mv (.t 24))]) (.reg [o 25 (.mv (.t 2)), o 26 (.bin .mul (.c (.int .i64 10)) (.t 25)), o 27 (.mv (.t 4)), o 28 (.mv (.t 5)), o 29 (.idxS (.t 27) (.t 28)), o 30 (.bin .sub (.t 29) (.c (.int .u8 48))), o 31 (.cvi .i64 (.t 30)), o 32 (.bin .add (.t 26) (.t 31)), o 2 (.mv (.t 32))]))) (.reg [o 33 (.bin .add (.t 22) (.c (.int .i64 1))), o 22 (.mv (.t 33))]))))))) (.seq (.seq (.reg [o 34 (.mv (.t 4)), o 35 (.mv (.t 0)), o 36 (.bin .neq (.t 34) (.t 35))]) (.cond (.t 36) (.reg [o 37 (.mv (.t 2)), o 38 (.un .neg (.t 37)), o 2 (.mv (.t 38))]) .skip)) (.seq (.reg [o 39 (.mv (.t 2)), o 2 (.mv (.t 39)), o 3 (.mv (.c (.bool true)))]) .ret))))), [.tmp 2, .tmp 3]⟩
theorem hc96 : J1 Tryz.prog {pure := [122, 123]} Tryz.f96 = some c96 := by kernel_rfl
theorem hn96 : (Tryz.f96.name == "runtime.NumGoroutine") = false := by kernel_rfl
theorem number_ok (s : List UInt8) (hs : s.length <= 1073741824) : PCalls (Pg G) 96 [.str s] (.tup [Q4 (XX s).1, .bool (XX s).2]) := fun h => by
  have c1 := trimPre_ok (G := G) s hs
  have c2 := trim_ok (G := G) (dgN s) [48, 49, 50, 51, 52, 53, 54, 55, 56, 57] (by have := dgN_len s; omega) (by decide) (by decide)
  have dt := dig_trim (dgN s)
  have dn := dgN_ne s
  unfold XX
  generalize dgN s = D at *
  by_cases h1 : D = []
  · have b1 : (D == []) = true := by simpa using h1
    rw [if_pos (.inl h1)]
    refine Q1 Tryz.func96 hn96 hc96 (by rw [Tryz.ntmps96]; simp) (by rw [Tryz.ntmps96]; decide) ?_
    simp -dsimp -implicitDefEqProofs (disch := omega) only [VCA, ↓reduceIte, reduceCtorEq, c96]
    repeat' (first | ((with_reducible refine brC (fun _ => ?_) fun _ => ?_) <;> try (exfalso; omega)) | (with_reducible apply pcallE.of; · exact c1) | (with_reducible refine And.intro ?_ ?_; · omega) | simp -dsimp -implicitDefEqProofs (disch := omega) only [↓Q0 10, ↓Q0 15, VCA, Nat.reduceEqDiff, ↓reduceIte, exists_eq_right, b1])
    all_goals first | exact Sub.refl _ | exact ⟨Sub.refl _, rfl⟩ | trace_state
  · have b1 : (D == []) = false := by simpa using h1
    by_cases h2 : 9 < D.length
    · have d2 : decide ((9 : Int) < (D.length : Int)) = true := decide_eq_true (by omega)
      rw [if_pos (.inr (.inl h2))]
      refine Q1 Tryz.func96 hn96 hc96 (by rw [Tryz.ntmps96]; simp) (by rw [Tryz.ntmps96]; decide) ?_
      simp -dsimp -implicitDefEqProofs (disch := omega) only [VCA, ↓reduceIte, reduceCtorEq, c96]
      repeat' (first | ((with_reducible refine brC (fun _ => ?_) fun _ => ?_) <;> try (exfalso; omega)) | (with_reducible apply pcallE.of; · exact c1) | (with_reducible refine And.intro ?_ ?_; · omega) | simp -dsimp -implicitDefEqProofs (disch := omega) only [↓Q0 10, ↓Q0 15, VCA, Nat.reduceEqDiff, ↓reduceIte, exists_eq_right, b1, d2])
      all_goals first | exact Sub.refl _ | exact ⟨Sub.refl _, rfl⟩ | trace_state
    · have d2 : decide ((9 : Int) < (D.length : Int)) = false := decide_eq_false (by omega)
      cases h3 : D.all UV
      · rw [h3] at dt
        rw [if_pos (.inr (.inr rfl))]
        simp only [Bool.not_false] at dt
        refine Q1 Tryz.func96 hn96 hc96 (by rw [Tryz.ntmps96]; simp) (by rw [Tryz.ntmps96]; decide) ?_
        simp -dsimp -implicitDefEqProofs (disch := omega) only [VCA, ↓reduceIte, reduceCtorEq, c96]
        repeat' (first | ((with_reducible refine brC (fun _ => ?_) fun _ => ?_) <;> try (exfalso; omega)) | (with_reducible apply pcallE.of; · exact c1) | (with_reducible apply pcallE.of; · exact c2) | (with_reducible refine And.intro ?_ ?_; · omega) | simp -dsimp -implicitDefEqProofs (disch := omega) only [↓Q0 10, ↓Q0 15, VCA, Nat.reduceEqDiff, ↓reduceIte, exists_eq_right, b1, d2, dt])
        all_goals first | exact Sub.refl _ | exact ⟨Sub.refl _, rfl⟩ | trace_state
      · rw [h3] at dt
        simp only [Bool.not_true] at dt
        rw [if_neg (by simp [h1, h2])]
        have hall : ∀ k, (D.take k).all UV = true := fun k => List.all_eq_true.2 fun b hb => List.all_eq_true.1 h3 b (List.mem_of_mem_take hb)
        have hbd : ∀ k, k <= D.length -> 0 <= vN (D.take k) /\ vN (D.take k) < 1000000000 := fun k hk => by
          have h4 := vN_bound _ (hall k)
          have h5 : (D.take k).length <= 9 := by rw [List.length_take]; omega
          have h6 : (10 : Int) ^ (D.take k).length <= 10 ^ 9 := by
            exact_mod_cast Nat.pow_le_pow_right (by decide : 0 < 10) h5
          have h7 : (10 : Int) ^ 9 = 1000000000 := by decide
          omega
        refine Q1 Tryz.func96 hn96 hc96 (by rw [Tryz.ntmps96]; simp) (by rw [Tryz.ntmps96]; decide) ?_
        simp -dsimp -implicitDefEqProofs (disch := omega) only [VCA, ↓reduceIte, reduceCtorEq, c96]
        repeat' (first | ((with_reducible refine brC (fun _ => ?_) fun _ => ?_) <;> try (exfalso; omega)) | (with_reducible apply pcallE.of; · exact c1) | (with_reducible apply pcallE.of; · exact c2) | (with_reducible refine And.intro ?_ ?_; · omega) | simp -dsimp -implicitDefEqProofs (disch := omega) only [↓Q0 10, ↓Q0 15, VCA, Nat.reduceEqDiff, ↓reduceIte, b1, d2, dt])
        refine LoopVC.intro (fun m e h' => ∃ k : Nat, k <= D.length /\ m = D.length - k /\ e 0 = .str s /\ e 2 = Q4 (vN (D.take k)) /\ e 4 = .str D /\ e 21 = Q4 D.length /\ e 22 = Q4 k /\ h' = h) D.length
          (by exact ⟨0, by omega, by omega, rfl, rfl, rfl, rfl, rfl, rfl⟩) ?_
        rintro m e h' ⟨k, hk, rfl, e0, e2, e4, e21, e22, rfl⟩
        by_cases hlt : k < D.length
        · have d1 : decide ((k : Int) < (D.length : Int)) = true := decide_eq_true (by omega)
          obtain ⟨b, hb⟩ : ∃ b, D.getD k 0 = b := ⟨_, rfl⟩
          have hbm : b ∈ D := by rw [<- hb, List.getD_eq_getElem?_getD, List.getElem?_eq_getElem hlt]; exact List.getElem_mem hlt
          have hbd2 := List.all_eq_true.1 h3 b hbm
          unfold UV at hbd2
          simp only [Bool.and_eq_true, decide_eq_true_eq] at hbd2
          have w1 : IntKind.u8.wrap ((b.toNat : Int) - 48) = (b.toNat : Int) - 48 := by rw [IntKind.wrap_u8]; omega
          have tk : vN (D.take (k + 1)) = 10 * vN (D.take k) + ((b.toNat : Int) - 48) := by
            rw [<- vN_snoc, List.take_succ_eq_append_getElem hlt, <- hb, List.getD_eq_getElem?_getD, List.getElem?_eq_getElem hlt]; rfl
          have b3 := hbd k hk
          obtain ⟨x, hx⟩ : ∃ x, vN (D.take k) = x := ⟨_, rfl⟩
          rw [hx] at e2 tk b3
          repeat' (first | ((with_reducible refine brC (fun _ => ?_) fun _ => ?_) <;> try (exfalso; omega)) | (with_reducible refine And.intro ?_ ?_; · omega) | simp -dsimp -implicitDefEqProofs (disch := omega) only [VCA, Nat.reduceEqDiff, ↓reduceIte, reduceCtorEq, e0, e2, e4, e21, e22, d1, hb, w1])
          all_goals first
            | exact ⟨_, by omega, k + 1, by omega, rfl, tk.symm, by omega⟩
            | trace_state
        · obtain rfl : k = D.length := by omega
          have d1 : decide ((D.length : Int) < (D.length : Int)) = false := decide_eq_false (by omega)
          have b3 := hbd D.length (Nat.le_refl _)
          rw [List.take_length] at e2 b3
          obtain ⟨x, hx⟩ : ∃ x, vN D = x := ⟨_, rfl⟩
          rw [hx] at e2 b3 ⊢
          by_cases h4 : s.head? = some 45
          · have dn1 : (D != s) = true := by rw [dn, h4]; rfl
            rw [if_pos h4]
            repeat' (first | ((with_reducible refine brC (fun _ => ?_) fun _ => ?_) <;> try (exfalso; omega)) | (with_reducible refine And.intro ?_ ?_; · omega) | simp -dsimp -implicitDefEqProofs (disch := omega) only [VCA, Nat.reduceEqDiff, ↓reduceIte, reduceCtorEq, exists_eq_right_right, e0, e2, e4, e21, e22, d1, dn1])
            all_goals exact ⟨Sub.refl _, by rw [Int.zero_sub]⟩
          · have dn1 : (D != s) = false := by rw [dn]; simpa using h4
            rw [if_neg h4]
            repeat' (first | ((with_reducible refine brC (fun _ => ?_) fun _ => ?_) <;> try (exfalso; omega)) | (with_reducible refine And.intro ?_ ?_; · omega) | simp -dsimp -implicitDefEqProofs (disch := omega) only [VCA, Nat.reduceEqDiff, ↓reduceIte, reduceCtorEq, exists_eq_right, e0, e2, e4, e21, e22, d1, dn1])
            all_goals first | exact Sub.refl _ | exact ⟨Sub.refl _, rfl⟩ | trace_state
def c61_s3 : SCode := (.seq (.seq (.reg [o 16 (.mv (.t 0)), o 17 (.lenS (.t 16)), o 18 (.bin .lss (.t 17) (.c (.int .i64 1))), o 19 (.mv (.t 18)), ⟨some 20, .mv (.t 0), some (19, false)⟩, ⟨some 21, .lenS (.t 20), some (19, false)⟩, ⟨some 22, .bin .gtr (.t 21) (.c (.int .i64 9)), some (19, false)⟩, o 23 (.pick (.t 19) (.c (.bool true)) (.t 22))]) (.cond (.t 23) (.seq (.reg [o 2 (.mv (.c (.int .i64 0))), o 3 (.mv (.c (.bool false)))]) .ret) .skip)) (.seq (.reg [o 5 (.mv (.c (.int .i64 0)))]) (.seq (.seq (.reg [o 6 (.mv (.c (.int .i64 0)))]) (.block 0 (.loop (.seq (.seq (.reg [o 24 (.mv (.t 6)), o 25 (.mv (.t 0)), o 26 (.lenS (.t 25)), o 27 (.bin .lss (.t 24) (.t 26))]) (.cond (.t 27) .skip (.exit 0))) (.seq (.block 1 (.seq (.seq (.reg [o 30 (.mv (.t 0)), o 31 (.mv (.t 6)), o 32 (.idxS (.t 30) (.t 31)), o 33 (.bin .lss (.t 32) (.c (.int .u8 48))), o 34 (.mv (.t 33)), ⟨some 35, .mv (.t 0), some (34, false)⟩, ⟨some 36, .mv (.t 6), some (34, false)⟩, ⟨some 37, .idxS (.t 35) (.t 36), some (34, false)⟩, ⟨some 38, .bin .gtr (.t 37) (.c (.int .u8 57)), some (34, false)⟩, o 39 (.pick (.t 34) (.c (.bool true)) (.t 38))]) (.cond (.t 39) (.seq (.reg [o 2 (.mv (.c (.int .i64 0))), o 3 (.mv (.c (.bool false)))]) .ret) .skip)) (.reg [o 40 (.mv (.t 5)), o 41 (.bin .mul (.c (.int .i64 10)) (.t 40)), o 42 (.mv (.t 0)), o 43 (.mv (.t 6)), o 44 (.idxS (.t 42) (.t 43)), o 45 (.bin .sub (.t 44) (.c (.int .u8 48))), o 46 (.cvi .i64 (.t 45)), o 47 (.bin .add (.t 41) (.t 46)), o 5 (.mv (.t 47))]))) (.reg [o 28 (.mv (.t 6)), o 29 (.bin .add (.t 28) (.c (.int .i64 1))), o 6 (.mv (.t 29))])))))) (.seq (.reg [o 48 (.mv (.t 4)), o 49 (.mv (.t 5)), o 50 (.bin .mul (.t 48) (.t 49)), o 2 (.mv (.t 50)), o 3 (.mv (.c (.bool true)))]) .ret))))
def c61 : SFun := ⟨.seq (.reg [o 2 (.mv (.c (.int .i64 0))), o 3 (.mv (.c (.bool false)))]) (.seq (.reg [o 4 (.mv (.c (.int .i64 1)))]) (.seq (.seq (.reg [o 7 (.mv (.t 0)), o 8 (.bin .neq (.t 7) (.c (.str []))), o 9 (.mv (.t 8)), ⟨some 10, .mv (.t 0), some (9, true)⟩, ⟨some 11, .idxS (.t 10) (.c (.int .i64 0)), some (9, true)⟩, ⟨some 12, .bin .eql (.t 11) (.c (.int .u8 45)), some (9, true)⟩, o 13 (.pick (.t 9) (.t 12) (.c (.bool false)))]) (.cond (.t 13) (.seq (.reg [o 4 (.mv (.c (.int .i64 (-1))))]) (.reg [o 14 (.mv (.t 0)), o 15 (.slS (.t 14) (some (.c (.int .i64 1))) none), o 0 (.mv (.t 15))])) .skip)) c61_s3)), [.tmp 2, .tmp 3]⟩
theorem hc61 : J1 Tryz.prog {} Tryz.f61 = some c61 := by kernel_rfl
theorem hn61 : (Tryz.f61.name == "runtime.NumGoroutine") = false := by kernel_rfl
theorem numOf_s3 {h : Q2} (D : List UInt8) (sg : Int) (hsg : sg = 1 \/ sg = -1) (E : Env) (e0 : E 0 = .str D) (e4 : E 4 = Q4 sg) (hs : D.length <= 1073741824) (R : Int × Bool)
    (hR : R = if D = [] \/ 9 < D.length \/ D.all UV = false then (0, false) else (sg * vN D, true)) :
    vc (Pg G) c61_s3 (retK [.tmp 2, .tmp 3] fun r h' => r = .tup [Q4 R.1, .bool R.2] /\ h' = h) E h := by
  unfold c61_s3
  skip
  by_cases h1 : D = []
  · rw [if_pos (.inl h1)] at hR
    have d1 : decide ((D.length : Int) < 1) = true := decide_eq_true (by rw [h1]; simp)
    subst hR
    repeat' (first | ((with_reducible refine brC (fun _ => ?_) fun _ => ?_) <;> try (exfalso; omega)) | (with_reducible refine And.intro ?_ ?_; · omega) | simp -dsimp -implicitDefEqProofs (disch := omega) only [↓Q0 19, VCA, Nat.reduceEqDiff, ↓reduceIte, exists_eq_right, e0, d1])
    all_goals first | exact Sub.refl _ | exact ⟨Sub.refl _, rfl⟩ | trace_state
  · have hp := List.length_pos_iff.2 h1
    have d1 : decide ((D.length : Int) < 1) = false := decide_eq_false (by omega)
    by_cases h2 : 9 < D.length
    · have d2 : decide ((9 : Int) < (D.length : Int)) = true := decide_eq_true (by omega)
      rw [if_pos (.inr (.inl h2))] at hR
      subst hR
      repeat' (first | ((with_reducible refine brC (fun _ => ?_) fun _ => ?_) <;> try (exfalso; omega)) | (with_reducible refine And.intro ?_ ?_; · omega) | simp -dsimp -implicitDefEqProofs (disch := omega) only [↓Q0 19, VCA, Nat.reduceEqDiff, ↓reduceIte, reduceCtorEq, exists_eq_right, e0, d1, d2])
      all_goals first | exact Sub.refl _ | exact ⟨Sub.refl _, rfl⟩ | trace_state
    · have d2 : decide ((9 : Int) < (D.length : Int)) = false := decide_eq_false (by omega)
      repeat' (first | ((with_reducible refine brC (fun _ => ?_) fun _ => ?_) <;> try (exfalso; omega)) | (with_reducible refine And.intro ?_ ?_; · omega) | simp -dsimp -implicitDefEqProofs (disch := omega) only [↓Q0 19, VCA, Nat.reduceEqDiff, ↓reduceIte, reduceCtorEq, e0, d1, d2])
      refine LoopVC.intro (fun m e h' => ∃ k : Nat, k <= D.length /\ m = D.length - k /\ e 0 = .str D /\ e 4 = Q4 sg /\ e 5 = Q4 (vN (D.take k)) /\ e 6 = Q4 k /\ h' = h /\ (D.take k).all UV = true) D.length
        (by exact ⟨0, by omega, by omega, e0, e4, rfl, rfl, rfl, rfl⟩) ?_
      rintro m e h' ⟨k, hk, rfl, e0, e4, e5, e6, rfl, hall⟩
      have b3 : 0 <= vN (D.take k) /\ vN (D.take k) < 1000000000 := by
        have h4 := vN_bound _ hall
        have h5 : (D.take k).length <= 9 := by rw [List.length_take]; omega
        have h6 : (10 : Int) ^ (D.take k).length <= 10 ^ 9 := by
          exact_mod_cast Nat.pow_le_pow_right (by decide : 0 < 10) h5
        have h7 : (10 : Int) ^ 9 = 1000000000 := by decide
        omega
      by_cases hlt : k < D.length
      · have d3 : decide ((k : Int) < (D.length : Int)) = true := decide_eq_true (by omega)
        obtain ⟨b, hb⟩ : ∃ b, D.getD k 0 = b := ⟨_, rfl⟩
        have tke : D.take (k + 1) = D.take k ++ [b] := by
          rw [List.take_succ_eq_append_getElem hlt, <- hb, List.getD_eq_getElem?_getD, List.getElem?_eq_getElem hlt]; rfl
        have tk : vN (D.take (k + 1)) = 10 * vN (D.take k) + ((b.toNat : Int) - 48) := by rw [tke, vN_snoc]
        have bb := b.toNat_lt
        cases hdg : UV b
        · have hno : D.all UV = false := by
            cases hq : D.all UV
            · rfl
            · have hbm : b ∈ D := by rw [<- hb, List.getD_eq_getElem?_getD, List.getElem?_eq_getElem hlt]; exact List.getElem_mem hlt
              rw [List.all_eq_true.1 hq b hbm] at hdg; cases hdg
          rw [if_pos (.inr (.inr hno))] at hR
          subst hR
          by_cases hlo : b.toNat < 48
          · have c1 : decide ((b.toNat : Int) < 48) = true := decide_eq_true (by omega)
            repeat' (first | ((with_reducible refine brC (fun _ => ?_) fun _ => ?_) <;> try (exfalso; omega)) | (with_reducible refine And.intro ?_ ?_; · omega) | simp -dsimp -implicitDefEqProofs (disch := omega) only [↓Q0 34, VCA, Nat.reduceEqDiff, ↓reduceIte, reduceCtorEq, exists_eq_right, e0, e6, d3, hb, c1])
            all_goals first | exact Sub.refl _ | exact ⟨Sub.refl _, rfl⟩ | trace_state
          · have c1 : decide ((b.toNat : Int) < 48) = false := decide_eq_false (by omega)
            have c2 : decide ((57 : Int) < (b.toNat : Int)) = true := decide_eq_true (by
              unfold UV at hdg
              simp only [Bool.and_eq_false_iff, decide_eq_false_iff_not] at hdg
              omega)
            repeat' (first | ((with_reducible refine brC (fun _ => ?_) fun _ => ?_) <;> try (exfalso; omega)) | (with_reducible refine And.intro ?_ ?_; · omega) | simp -dsimp -implicitDefEqProofs (disch := omega) only [↓Q0 34, VCA, Nat.reduceEqDiff, ↓reduceIte, reduceCtorEq, exists_eq_right, e0, e6, d3, hb, c1, c2])
            all_goals first | exact Sub.refl _ | exact ⟨Sub.refl _, rfl⟩ | trace_state
        · have hbd2 := hdg
          unfold UV at hbd2
          simp only [Bool.and_eq_true, decide_eq_true_eq] at hbd2
          have c1 : decide ((b.toNat : Int) < 48) = false := decide_eq_false (by omega)
          have c2 : decide ((57 : Int) < (b.toNat : Int)) = false := decide_eq_false (by omega)
          have w1 : IntKind.u8.wrap ((b.toNat : Int) - 48) = (b.toNat : Int) - 48 := by rw [IntKind.wrap_u8]; omega
          obtain ⟨x, hx⟩ : ∃ x, vN (D.take k) = x := ⟨_, rfl⟩
          rw [hx] at e5 tk b3
          repeat' (first | ((with_reducible refine brC (fun _ => ?_) fun _ => ?_) <;> try (exfalso; omega)) | (with_reducible refine And.intro ?_ ?_; · omega) | simp -dsimp -implicitDefEqProofs (disch := omega) only [↓Q0 34, VCA, Nat.reduceEqDiff, ↓reduceIte, reduceCtorEq, e0, e4, e5, e6, d3, hb, c1, c2, w1])
          all_goals first
            | exact ⟨_, by omega, k + 1, by omega, rfl, tk.symm, by omega, by rw [tke, List.all_append, hall]; simp [hdg]⟩
            | trace_state
      · obtain rfl : k = D.length := by omega
        have d3 : decide ((D.length : Int) < (D.length : Int)) = false := decide_eq_false (by omega)
        rw [List.take_length] at e5 hall b3
        rw [if_neg (by simp [h1, h2, hall])] at hR
        obtain ⟨x, hx⟩ : ∃ x, vN D = x := ⟨_, rfl⟩
        rw [hx] at e5 hR b3
        subst hR
        rcases hsg with rfl | rfl
        all_goals
          repeat' (first | ((with_reducible refine brC (fun _ => ?_) fun _ => ?_) <;> try (exfalso; omega)) | (with_reducible refine And.intro ?_ ?_; · omega) | simp -dsimp -implicitDefEqProofs (disch := omega) only [VCA, Nat.reduceEqDiff, ↓reduceIte, reduceCtorEq, exists_eq_right, e0, e4, e5, e6, d3])
        all_goals first | exact Sub.refl _ | exact ⟨Sub.refl _, rfl⟩ | trace_state
theorem XZ (s : List UInt8) (hs : s.length <= 1073741824) : PCalls (Pg G) 61 [.str s] (.tup [Q4 (XX s).1, .bool (XX s).2]) := fun h => by
  have dl := dgN_len s
  cases s with
  | nil =>
    have hR : XX [] = if ([] : List UInt8) = [] \/ 9 < ([] : List UInt8).length \/ ([] : List UInt8).all UV = false then (0, false) else (1 * vN [], true) := rfl
    have b0 : (([] : List UInt8) != []) = false := rfl
    refine Q1 Tryz.func61 hn61 hc61 (by rw [Tryz.ntmps61]; simp) (by rw [Tryz.ntmps61]; decide) ?_
    simp -dsimp -implicitDefEqProofs (disch := omega) only [↓Q0 9, VCA, Nat.reduceEqDiff, ↓reduceIte, reduceCtorEq, c61, b0]
    refine numOf_s3 [] 1 (.inl rfl) _ rfl rfl (by simp) (XX []) hR
  | cons b r =>
    have b0 : ((b :: r) != []) = true := rfl
    have g0 : (b :: r).getD 0 0 = b := rfl
    by_cases hd : b = 45
    · have hD : dgN (b :: r) = r := by unfold dgN; rw [hd]; rfl
      have hR : XX (b :: r) = if r = [] \/ 9 < r.length \/ r.all UV = false then (0, false) else (-1 * vN r, true) := by
        unfold XX; rw [hD, hd]; simp
      have bb : ((b.toNat : Int) == 45) = true := by rw [hd]; rfl
      refine Q1 Tryz.func61 hn61 hc61 (by rw [Tryz.ntmps61]; simp) (by rw [Tryz.ntmps61]; decide) ?_
      simp -dsimp -implicitDefEqProofs (disch := omega) only [↓Q0 9, VCA, Nat.reduceEqDiff, ↓reduceIte, reduceCtorEq, c61, b0, g0, bb]
      repeat' (first | ((with_reducible refine brC (fun _ => ?_) fun _ => ?_) <;> try (exfalso; omega)) | (with_reducible refine And.intro ?_ ?_; · omega) | simp -dsimp -implicitDefEqProofs (disch := omega) only [↓Q0 9, ↓Z0 9, ↓Q0 19, ↓Z0 19, ↓Q0 34, ↓Z0 34, VCA, TX, ↓U5, Nat.reduceEqDiff, Nat.reduceBEq, Nat.reduceAdd, Nat.reduceSub, Nat.reduceMul, Nat.reduceLT, Nat.reduceLeDiff, ↓reduceIte, reduceCtorEq, Y6, Q9, SOp.rd, SI.rd, SX.rd, rdL, rdO, rdP, Z2, Y3, J6, K7, X0, Y7, implies_true, forall_const, forall_eq, ne_eq, exists_eq_right_right, exists_eq_right, exists_eq_left, exists_eq_left', Z7, Z3, ZJ, ZX, b0, g0, bb])
      exact numOf_s3 r (-1) (.inr rfl) _ rfl rfl (by rw [List.length_cons] at hs; omega) (XX (b :: r)) hR
    · have hD : dgN (b :: r) = b :: r := by unfold dgN; rw [if_neg (by simpa using hd)]
      have hR : XX (b :: r) = if (b :: r) = [] \/ 9 < (b :: r).length \/ (b :: r).all UV = false then (0, false) else (1 * vN (b :: r), true) := by
        unfold XX; rw [hD, if_neg (show ¬ (b :: r).head? = some 45 by simpa using hd), Int.one_mul]
      have bb : ((b.toNat : Int) == 45) = false := by
        simp only [beq_eq_false_iff_ne, ne_eq]
        have h45 : (45 : UInt8).toNat = 45 := rfl
        exact fun q => hd (UInt8.toNat_inj.1 (by omega))
      refine Q1 Tryz.func61 hn61 hc61 (by rw [Tryz.ntmps61]; simp) (by rw [Tryz.ntmps61]; decide) ?_
      simp -dsimp -implicitDefEqProofs (disch := omega) only [↓Q0 9, VCA, Nat.reduceEqDiff, ↓reduceIte, reduceCtorEq, c61, b0, g0, bb]
      repeat' (first | ((with_reducible refine brC (fun _ => ?_) fun _ => ?_) <;> try (exfalso; omega)) | (with_reducible refine And.intro ?_ ?_; · omega) | simp -dsimp -implicitDefEqProofs (disch := omega) only [↓Q0 9, ↓Z0 9, ↓Q0 19, ↓Z0 19, ↓Q0 34, ↓Z0 34, VCA, TX, ↓U5, Nat.reduceEqDiff, Nat.reduceBEq, Nat.reduceAdd, Nat.reduceSub, Nat.reduceMul, Nat.reduceLT, Nat.reduceLeDiff, ↓reduceIte, reduceCtorEq, Y6, Q9, SOp.rd, SI.rd, SX.rd, rdL, rdO, rdP, Z2, Y3, J6, K7, X0, Y7, implies_true, forall_const, forall_eq, ne_eq, exists_eq_right_right, exists_eq_right, exists_eq_left, exists_eq_left', Z7, Z3, ZJ, ZX, b0, g0, bb])
      exact numOf_s3 (b :: r) 1 (.inl rfl) _ rfl rfl hs (XX (b :: r)) hR
end Go.Proofs.K
end
