/- strings.Builder: contracts. -/
import Derived.Test.YtlehoolkjkdncaaDoorLst
import Derived.Test.YtlehoolkjkdncaaDoorSimLaw
import Derived.Shelf.Strings.Builder1
import Derived.Lib.RuneBytes
import Derived.Laws.BitsLemmas
set_option linter.unusedSimpArgs false
set_option linter.unusedVariables false
namespace Go.Proofs.K
open Go Go.Sim Go.Proofs Go.Shelf
variable {G : Glob}

def bren : Ren := ⟨fun | 240 => 45 | 276 => 58 | n => n, fun | 37 => 36 | 0 => 0 | 4 => 4 | 9 => 9 | 20 => 20 | 70 => 35 | 72 => 38 | 164 => 83 | n => n, fun n => n⟩
theorem lays240 : Lays.n240 Tryd.prog bren := {
  mixed := by kernel_rfl
  f240 := Tryd.func45.trans (congrArg some (by kernel_rfl))
  f276 := Tryd.func58.trans (congrArg some (by kernel_rfl))
  t0 := Tryd.underlying0
  a0 := Tryd.isAgg0
  z0 := Tryd.sizeOf0
  v0 := Tryd.zeroValue0
  t4 := Tryd.underlying4
  a4 := Tryd.isAgg4
  z4 := Tryd.sizeOf4
  v4 := Tryd.zeroValue4
  t9 := Tryd.underlying9
  a9 := Tryd.isAgg9
  z9 := Tryd.sizeOf9
  v9 := Tryd.zeroValue9
  t20 := Tryd.underlying20
  a20 := Tryd.isAgg20
  z20 := Tryd.sizeOf20
  v20 := Tryd.zeroValue20
  t70 := Tryd.underlying35
  a70 := Tryd.isAgg35
  z70 := Tryd.sizeOf35
  v70 := Tryd.zeroValue35
  t72 := Tryd.underlying38
  a72 := Tryd.isAgg38
  z72 := Tryd.sizeOf38
  v72 := Tryd.zeroValue38
  t164 := Tryd.underlying83
  a164 := Tryd.isAgg83
  z164 := Tryd.sizeOf83
  v164 := Tryd.zeroValue83 }
theorem x72 : Builder.X72 Tryd.prog bren := {
  sizeBuilder := by kernel_rfl
  liesBuilder := by kernel_rfl }

abbrev Tb : Nat := 38
abbrev Tu : Nat := 5
/-- nothing is in it yet, or it points at itself -/
def BP (rb : Nat) (p : AVal) : Prop := p = .prim (.pointer none) ∨ p = .vp rb 0
theorem prim_inv {g : Ghost} {w : World} {u v : Value} (h : VRel g w u (.prim v)) : u = v := by cases h; rfl
theorem copyCheck_ok (rb : Nat) (h : Heap) (p buf : AVal) (hp : BP rb p) (hr : h rb = some ⟨Tb, 2, [[p, buf]]⟩) {K : AVal → Heap → Prop} (hk : K (.tup []) (upd h rb (some ⟨Tb, 2, [[.vp rb 0, buf]]⟩))) :
    DCalls (Pg G) 45 [.vp rb 0] h K := by
  refine ⟨⟨_, Tryd.func45, by kernel_rfl, by kernel_rfl⟩, fun g w vs H GR V => ?_⟩
  obtain ⟨v, rfl, hv⟩ := V.one_inv
  obtain ⟨hlt, ⟨hb, hc⟩, rfl⟩ := hv.vp_inv
  have O := H.obj rb _ hr
  rcases O.block with h0 | ⟨hl, hf, cur, hcur, hsz, hcell⟩
  · omega
  have hcs : cur.size = 2 := by have h1 : g.bo rb + g.cap rb * 2 = cur.size := hsz; omega
  obtain ⟨u, hu, ho, hvu⟩ := hcell 0 0 _ p rfl rfl
  obtain ⟨u2, hu2, ho2, hvu2⟩ := hcell 0 1 _ buf rfl rfl
  simp only [hb] at hu hu2
  have hw0 : w.cell? ⟨g.eta rb, 0, none⟩ = some u := by
    rw [cell_of_row w _ _ cur _ _ hcur]; exact hu
  rcases hp with rfl | rfl
  · rw [prim_inv hvu] at hw0
    refine (Any.Builder_copyCheck_fresh lays240 x72 (g.eta rb) w hw0 ?_ ?_).mono ?_
    · simp only [World.shape?, hcur]; show some (Tb, cur.size) = some (Tb, 2); rw [hcs]
    · simp [World.frozen?, hcur]
    · rintro e w' ⟨rfl, rfl⟩
      rw [setCell_eq_setRow w _ _ cur _ _ _ hcur]
      obtain ⟨S, H'⟩ := root_write H hr hcur (by omega) (cur.setIfInBounds 0 (.pointer (some ⟨g.eta rb, 0, none⟩))) (by simp) (es' := [[.vp rb 0, buf]]) (by simp) (by simp; omega) (fun i j e x he hx => by
        cases i with
        | succ i => simp at he
        | zero =>
          simp at he; subst he
          cases j with
          | zero => simp at hx; subst hx; exact ⟨_, by simp [hb, hcs], rfl, .vp rb 0 hlt hb hc⟩
          | succ j =>
            cases j with
            | zero => simp at hx; subst hx; exact ⟨u2, by simpa [hb] using hu2, ho2, hvu2⟩
            | succ j => simp at hx)
      exact ⟨_, _, _, g, rfl, hk, H', .tup #[] [] rfl (fun j u a hu => by simp at hu), S⟩
  · obtain ⟨_, _, hu'⟩ := hvu.vp_inv
    rw [hu'] at hw0
    refine (Any.Builder_copyCheck_used lays240 x72 (g.eta rb) w hw0).mono ?_
    rintro e w' ⟨rfl, rfl⟩
    have : upd h rb (some ⟨Tb, 2, [[.vp rb 0, buf]]⟩) = h := upd_id hr
    rw [this] at hk
    exact ⟨_, _, h, g, rfl, hk, H, .tup #[] [] rfl (fun j u a hu => by simp at hu), GS.refl g _⟩

/-- a builder at rb with s in it; what h0 has lies as it lay -/
def Bl (h0 : Heap) (rb : Nat) (s : List UInt8) (h : Heap) : Prop := h0 rb = none ∧ ∃ p buf, BP rb p ∧ (buf ≠ .emp → s ≠ []) ∧ Acc (upd h0 rb (some ⟨Tb, 2, [[p, buf]]⟩)) Tu 1 (strEs s) buf h ∧ Sub (upd h0 rb (some ⟨Tb, 2, [[p, buf]]⟩)) h
theorem acc_at {h0 h : Heap} {rb ty sz : Nat} {x y : AObj} {cells : List (List AVal)} {a : AVal} (A : Acc (upd h0 rb (some x)) ty sz cells a h) : Acc (upd h0 rb (some y)) ty sz cells a (upd h rb (some y)) := by
  rcases A with h | ⟨r, h1, h2, h3⟩
  · exact .inl h
  · have hne : r ≠ rb := by rintro rfl; simp at h1
    refine .inr ⟨r, ?_, ?_, h3⟩
    · unfold Sim.upd at h1 ⊢; simpa [hne] using h1
    · unfold Sim.upd; simpa [hne] using h2
theorem sub_at {h0 h : Heap} {rb : Nat} {x y : AObj} (S : Sub (upd h0 rb (some x)) h) : Sub (upd h0 rb (some y)) (upd h rb (some y)) := by
  intro t o ht
  by_cases hne : t = rb
  · subst hne; simpa [Sim.upd] using ht
  · have := S t o (by simpa [Sim.upd, hne] using ht)
    simpa [Sim.upd, hne] using this
theorem sub_is {h0 h : Heap} {rb : Nat} {x : AObj} (S : Sub (upd h0 rb (some x)) h) : h rb = some x := S rb x (by simp [Sim.upd])
theorem sub_off {h0 h : Heap} {rb : Nat} {x : AObj} (h1 : h0 rb = none) (S : Sub (upd h0 rb (some x)) h) : Sub h0 h := by
  intro t o ht
  have hne : t ≠ rb := by rintro rfl; rw [h1] at ht; cases ht
  exact S t o (by simpa [Sim.upd, hne] using ht)
theorem Bl.new (h : Heap) (rb : Nat) (h0 : h rb = none) : Bl h rb [] (upd h rb (some ⟨Tb, 2, [[.prim (.pointer none), .emp]]⟩)) :=
  ⟨h0, _, _, .inl rfl, fun h => absurd rfl h, Acc.nil, Sub.refl _⟩
theorem Bl.sub {h0 h : Heap} {rb : Nat} {s : List UInt8} (B : Bl h0 rb s h) : Sub h0 h := by
  obtain ⟨h1, p, buf, _, _, _, S⟩ := B
  exact sub_off h1 S

def c35 : SFun := ⟨(.seq (.reg [⟨(some 4), (.mv (.c (.prim .nilIface))), none⟩]) (.seq (.reg [⟨(some 5), (.mv (.t 0)), none⟩, ⟨(some 6), (.call (.c (.fn 45 [] [])) [(.t 5)]), none⟩]) (.seq (.reg [⟨(some 7), (.mv (.t 0)), none⟩, ⟨(some 8), (.mv (.t 0)), none⟩, ⟨(some 9), (.fldA 0 (.t 8)), none⟩, ⟨(some 10), (.fldA 1 (.t 9)), none⟩, ⟨(some 11), (.ld 1 false (.t 10)), none⟩, ⟨(some 12), (.mv (.t 1)), none⟩, ⟨(some 13), (.bldF 5 1 [(.t 12)]), none⟩, ⟨(some 14), (.app 5 1 1 (.t 11) (.t 13)), none⟩, ⟨(some 15), (.fldA 0 (.t 7)), none⟩, ⟨(some 16), (.fldA 1 (.t 15)), none⟩, ⟨none, (.st 1 (.t 16) (.t 14)), none⟩]) (.seq (.reg [⟨(some 4), (.mv (.c (.prim .nilIface))), none⟩]) .ret)))), [(.tmp 4)]⟩
theorem hc35 : toSF Tryd.prog {} Tryd.f35 = some c35 := by kernel_rfl
theorem hn35 : (Tryd.f35.name == "runtime.NumGoroutine") = false := by kernel_rfl
theorem writeByte_ok {h0 h : Heap} {rb : Nat} {s : List UInt8} (b : UInt8) (B : Bl h0 rb s h) (hs : s.length < 140737488355328) :
    DCalls (Pg G) 35 [.vp rb 0, .int .u8 b.toNat] h fun a h' => a = .prim .nilIface ∧ Bl h0 rb (s ++ [b]) h' := by
  obtain ⟨hn, p, buf, hp, hne, A, S⟩ := B
  refine dcalls_of_vc Tryd.func35 hn35 hc35 (by rw [Tryd.ntmps35]; simp) (by rw [Tryd.ntmps35]; decide) ?_
  simp -dsimp -implicitDefEqProofs (disch := omega) only [VCA, pg_gl, ↓upd_none, Nat.reduceEqDiff, Nat.reduceBEq, Nat.reduceAdd, Nat.reduceSub, Nat.reduceMul, Nat.reduceLT, Nat.reduceLeDiff, ↓reduceIte, reduceCtorEq, rsOf, rootsOf, SOp.rd, SI.rd, SX.rd, rdL, rdO, rdP, okParts, eqCells, okEqCells, fillA, okFill, setAt, implies_true, forall_const, forall_eq, ne_eq, exists_eq_right_right, exists_eq_right, exists_eq_left, exists_eq_left', c35]
  refine copyCheck_ok rb h p buf hp (sub_is S) ?_
  simp -dsimp -implicitDefEqProofs (disch := omega) only [VCA, pg_gl, ↓upd_none, Nat.reduceEqDiff, Nat.reduceBEq, Nat.reduceAdd, Nat.reduceSub, Nat.reduceMul, Nat.reduceLT, Nat.reduceLeDiff, ↓reduceIte, reduceCtorEq, rsOf, rootsOf, SOp.rd, SI.rd, SX.rd, rdL, rdO, rdP, okParts, eqCells, okEqCells, fillA, okFill, setAt, implies_true, forall_const, forall_eq, ne_eq, exists_eq_right_right, exists_eq_right, exists_eq_left, exists_eq_left']
  refine (acc_at A).app (sub_at S) (by simp [strEs]; omega) (by simp [strEs]; omega) fun a' h3 A' S' => ?_
  obtain ⟨r, h1, h2, rfl⟩ := A'.pos (by simp)
  simp -dsimp -implicitDefEqProofs (disch := omega) only [VCA, pg_gl, ↓upd_none, Nat.reduceEqDiff, Nat.reduceBEq, Nat.reduceAdd, Nat.reduceSub, Nat.reduceMul, Nat.reduceLT, Nat.reduceLeDiff, ↓reduceIte, reduceCtorEq, rsOf, rootsOf, SOp.rd, SI.rd, SX.rd, rdL, rdO, rdP, okParts, eqCells, okEqCells, fillA, okFill, setAt, implies_true, forall_const, forall_eq, ne_eq, exists_eq_right_right, exists_eq_right, exists_eq_left, exists_eq_left', sub_is S']
  exact ⟨_, Sub.refl _, hn, _, _, .inr rfl, fun _ => by simp, by simpa [strEs] using acc_at A', sub_at S'⟩

def c39 : SFun := ⟨(.seq (.reg [⟨(some 4), (.mv (.c (.int .i64 (0)))), none⟩, ⟨(some 5), (.mv (.c (.prim .nilIface))), none⟩]) (.seq (.reg [⟨(some 6), (.mv (.t 0)), none⟩, ⟨(some 7), (.call (.c (.fn 45 [] [])) [(.t 6)]), none⟩]) (.seq (.reg [⟨(some 8), (.mv (.t 0)), none⟩, ⟨(some 9), (.mv (.t 0)), none⟩, ⟨(some 10), (.fldA 0 (.t 9)), none⟩, ⟨(some 11), (.fldA 1 (.t 10)), none⟩, ⟨(some 12), (.ld 1 false (.t 11)), none⟩, ⟨(some 13), (.mv (.t 1)), none⟩, ⟨(some 14), (.appS 5 1 (.t 12) (.t 13)), none⟩, ⟨(some 15), (.fldA 0 (.t 8)), none⟩, ⟨(some 16), (.fldA 1 (.t 15)), none⟩, ⟨none, (.st 1 (.t 16) (.t 14)), none⟩]) (.seq (.reg [⟨(some 17), (.mv (.t 1)), none⟩, ⟨(some 18), (.lenS (.t 17)), none⟩, ⟨(some 4), (.mv (.t 18)), none⟩, ⟨(some 5), (.mv (.c (.prim .nilIface))), none⟩]) .ret)))), [(.tmp 4), (.tmp 5)]⟩
theorem hc39 : toSF Tryd.prog {} Tryd.f39 = some c39 := by kernel_rfl
theorem hn39 : (Tryd.f39.name == "runtime.NumGoroutine") = false := by kernel_rfl
theorem writeString_ok {h0 h : Heap} {rb : Nat} {s : List UInt8} (t : List UInt8) (B : Bl h0 rb s h) (hne : s ++ t ≠ []) (hs : s.length + t.length ≤ 140737488355328) :
    DCalls (Pg G) 39 [.vp rb 0, .str t] h fun a h' => a = .tup [aInt t.length, .prim .nilIface] ∧ Bl h0 rb (s ++ t) h' := by
  obtain ⟨hn, p, buf, hp, hnb, A, S⟩ := B
  refine dcalls_of_vc Tryd.func39 hn39 hc39 (by rw [Tryd.ntmps39]; simp) (by rw [Tryd.ntmps39]; decide) ?_
  simp -dsimp -implicitDefEqProofs (disch := omega) only [VCA, pg_gl, ↓upd_none, Nat.reduceEqDiff, Nat.reduceBEq, Nat.reduceAdd, Nat.reduceSub, Nat.reduceMul, Nat.reduceLT, Nat.reduceLeDiff, ↓reduceIte, reduceCtorEq, rsOf, rootsOf, SOp.rd, SI.rd, SX.rd, rdL, rdO, rdP, okParts, eqCells, okEqCells, fillA, okFill, setAt, implies_true, forall_const, forall_eq, ne_eq, exists_eq_right_right, exists_eq_right, exists_eq_left, exists_eq_left', c39]
  refine copyCheck_ok rb h p buf hp (sub_is S) ?_
  simp -dsimp -implicitDefEqProofs (disch := omega) only [VCA, pg_gl, ↓upd_none, Nat.reduceEqDiff, Nat.reduceBEq, Nat.reduceAdd, Nat.reduceSub, Nat.reduceMul, Nat.reduceLT, Nat.reduceLeDiff, ↓reduceIte, reduceCtorEq, rsOf, rootsOf, SOp.rd, SI.rd, SX.rd, rdL, rdO, rdP, okParts, eqCells, okEqCells, fillA, okFill, setAt, implies_true, forall_const, forall_eq, ne_eq, exists_eq_right_right, exists_eq_right, exists_eq_left, exists_eq_left']
  refine (acc_at A).app (sub_at S) (by simp [strEs]; omega) (by simp [strEs]; omega) fun a' h3 A' S' => ?_
  obtain ⟨hv, hc⟩ : isV a' = true ∧ cellsOf a' = [a'] := by
    rcases A' with ⟨_, rfl⟩ | ⟨r, _, _, rfl⟩ <;> exact ⟨rfl, rfl⟩
  simp -dsimp -implicitDefEqProofs (disch := omega) only [VCA, pg_gl, ↓upd_none, Nat.reduceEqDiff, Nat.reduceBEq, Nat.reduceAdd, Nat.reduceSub, Nat.reduceMul, Nat.reduceLT, Nat.reduceLeDiff, ↓reduceIte, reduceCtorEq, rsOf, rootsOf, SOp.rd, SI.rd, SX.rd, rdL, rdO, rdP, okParts, eqCells, okEqCells, fillA, okFill, setAt, implies_true, forall_const, forall_eq, ne_eq, exists_eq_right_right, exists_eq_right, exists_eq_left, exists_eq_left', sub_is S', hv, hc]
  exact ⟨_, Sub.refl _, hn, _, _, .inr rfl, fun _ => hne, by simpa [strEs] using acc_at A', sub_at S'⟩

/-- what is in it -/
def c21 : SFun := ⟨(.seq (.reg [⟨(some 2), (.mv (.c (.str []))), none⟩]) (.seq (.dreg [(⟨(some 3), (.mv (.t 0)), none⟩, false), (⟨(some 4), (.fldA 0 (.t 3)), none⟩, false), (⟨(some 5), (.fldA 1 (.t 4)), none⟩, false), (⟨(some 6), (.ld 1 false (.t 5)), none⟩, false), (⟨(some 8), (.mv (.t 0)), none⟩, false), (⟨(some 9), (.fldA 0 (.t 8)), none⟩, false), (⟨(some 10), (.fldA 1 (.t 9)), none⟩, false), (⟨(some 11), (.ld 1 false (.t 10)), none⟩, false), (⟨(some 12), (.len (.t 11)), none⟩, false), (⟨(some 7), (.usd (.t 6)), none⟩, true), (⟨(some 13), (.ustr 5 (.t 7) (.t 12)), none⟩, true), (⟨(some 2), (.mv (.t 13)), none⟩, false)]) .ret)), [(.tmp 2)]⟩
theorem hc21 : toSF Tryd.prog {} Tryd.f21 = some c21 := by kernel_rfl
theorem hn21 : (Tryd.f21.name == "runtime.NumGoroutine") = false := by kernel_rfl
theorem string_ok {h0 h : Heap} {rb : Nat} {s : List UInt8} (B : Bl h0 rb s h) (hs : s.length < 140737488355328) :
    DCalls (Pg G) 21 [.vp rb 0] h fun a h' => a = .str s ∧ Sub h0 h' := by
  obtain ⟨hn, p, buf, hp, hne, A, S⟩ := B
  refine dcalls_of_vc Tryd.func21 hn21 hc21 (by rw [Tryd.ntmps21]; simp) (by rw [Tryd.ntmps21]; decide) ?_
  rcases A with ⟨he, rfl⟩ | ⟨r, h1, h2, rfl⟩
  · have hs0 : s = [] := by simpa [strEs] using he
    subst hs0
    simp -dsimp -implicitDefEqProofs (disch := omega) only [VCA, pg_gl, ↓upd_none, Nat.reduceEqDiff, Nat.reduceBEq, Nat.reduceAdd, Nat.reduceSub, Nat.reduceMul, Nat.reduceLT, Nat.reduceLeDiff, ↓reduceIte, reduceCtorEq, rsOf, rootsOf, SOp.rd, SI.rd, SX.rd, rdL, rdO, rdP, okParts, eqCells, okEqCells, fillA, okFill, setAt, implies_true, forall_const, forall_eq, ne_eq, exists_eq_right_right, exists_eq_right, exists_eq_left, exists_eq_left', c21, sub_is S]
    exact ⟨_, Sub.refl _, sub_off hn S⟩
  · have hs1 : s ≠ [] := hne (by intro h; cases h)
    have hs2 : 0 < s.length := List.length_pos_iff.2 hs1
    have h1' : h0 r = none ∧ r ≠ rb := by
      have hne : r ≠ rb := by rintro rfl; simp at h1
      exact ⟨by simpa [Sim.upd, hne] using h1, hne⟩
    simp -dsimp -implicitDefEqProofs (disch := omega) only [VCA, pg_gl, ↓upd_none, Nat.reduceEqDiff, Nat.reduceBEq, Nat.reduceAdd, Nat.reduceSub, Nat.reduceMul, Nat.reduceLT, Nat.reduceLeDiff, ↓reduceIte, reduceCtorEq, rsOf, rootsOf, SOp.rd, SI.rd, SX.rd, rdL, rdO, rdP, okParts, eqCells, okEqCells, fillA, okFill, setAt, implies_true, forall_const, forall_eq, ne_eq, exists_eq_right_right, exists_eq_right, exists_eq_left, exists_eq_left', c21, sub_is S]
    have hl : (strEs s).length = s.length := by simp [strEs]
    refine ⟨by omega, s, _, h2, rfl, rfl, by simp [strEs], List.take_of_length_le (by simp [strEs]), by simp [strEs], hs1, by omega, ?_⟩
    simp -dsimp -implicitDefEqProofs (disch := omega) only [VCA, pg_gl, ↓upd_none, Nat.reduceEqDiff, Nat.reduceBEq, Nat.reduceAdd, Nat.reduceSub, Nat.reduceMul, Nat.reduceLT, Nat.reduceLeDiff, ↓reduceIte, reduceCtorEq, rsOf, rootsOf, SOp.rd, SI.rd, SX.rd, rdL, rdO, rdP, okParts, eqCells, okEqCells, fillA, okFill, setAt, implies_true, forall_const, forall_eq, ne_eq, exists_eq_right_right, exists_eq_right, exists_eq_left, exists_eq_left', sub_is S]
    refine ⟨?_, _, Sub.refl _, Sub.del (sub_off hn S) h1'.1⟩
    rw [← sub_is S]; simp [Sim.del, Ne.symm h1'.2]

/-! ## runes -/
theorem u32_pos {r : Int} (h0 : 0 ≤ r) (h2 : r ≤ 2147483647) : IntKind.u32.wrap r = r := by
  simp [IntKind.wrap, IntKind.bits, IntKind.signed]; omega
theorem u32_neg {r : Int} (h0 : r < 0) (h1 : -2147483648 ≤ r) : IntKind.u32.wrap r = r + 4294967296 := by
  simp [IntKind.wrap, IntKind.bits, IntKind.signed]; omega
theorem str_rune (r : Int) : strEs (Lib.encodeRune r) = (Lib.encodeRuneZ r).map fun x => [.int .u8 x] := by
  have h := Lib.encodeRuneZ_byte r
  simp only [strEs, Lib.encodeRune, List.map_map]
  refine List.map_congr_left fun x hx => ?_
  obtain ⟨h0, h1⟩ := h x hx
  simp only [Function.comp, List.cons.injEq, AVal.int.injEq, and_true, true_and]
  have : x.toNat.toUInt8.toNat = x.toNat := by simp; omega
  rw [this]; omega
theorem f128 (x : Int) : bitF .or .u8 128 (bitF .and .u8 (IntKind.u8.wrap x) 63) = 128 + x % 64 := by
  rw [IntKind.wrap_u8]
  have h1 : bitF .and .u8 (x % 256) 63 = x % 256 % 64 := u8_and63 _ (by omega) (by omega)
  have h2 : bitF .or .u8 128 (x % 256 % 64) = 128 + x % 256 % 64 := u8_or128 _ (by omega) (by omega)
  rw [h1, h2]; omega
theorem f192 {x : Int} (h0 : 0 ≤ x) (h1 : x < 32) : bitF .or .u8 192 (IntKind.u8.wrap x) = 192 + x := by
  rw [IntKind.wrap_u8, Int.emod_eq_of_lt h0 (by omega)]; exact u8_or192 _ h0 h1
theorem f224 {x : Int} (h0 : 0 ≤ x) (h1 : x < 16) : bitF .or .u8 224 (IntKind.u8.wrap x) = 224 + x := by
  rw [IntKind.wrap_u8, Int.emod_eq_of_lt h0 (by omega)]; exact u8_or224 _ h0 h1
theorem f240 {x : Int} (h0 : 0 ≤ x) (h1 : x < 8) : bitF .or .u8 240 (IntKind.u8.wrap x) = 240 + x := by
  rw [IntKind.wrap_u8, Int.emod_eq_of_lt h0 (by omega)]; exact u8_or240 _ h0 h1
theorem fd6 (x : Int) : x.fdiv 64 = x / 64 := Int.fdiv_eq_ediv_of_nonneg _ (by omega)
theorem fd12 (x : Int) : x.fdiv 4096 = x / 4096 := Int.fdiv_eq_ediv_of_nonneg _ (by omega)
theorem fd18 (x : Int) : x.fdiv 262144 = x / 262144 := Int.fdiv_eq_ediv_of_nonneg _ (by omega)
def c59 : SFun := ⟨(.seq (.reg [⟨(some 4), (.mv (.c .emp)), none⟩]) (.seq (.reg [⟨(some 6), (.mv (.t 1)), none⟩, ⟨(some 7), (.cvi .u32 (.t 6)), none⟩, ⟨(some 5), (.mv (.t 7)), none⟩]) (.block 0 (.seq (.reg [⟨(some 12), (.mv (.t 5)), none⟩, ⟨(some 13), (.bin .leq (.t 12) (.c (.int .u32 (2047)))), none⟩, ⟨(some 11), (.mv (.t 13)), none⟩]) (.cond (.t 11) (.seq (.reg [⟨(some 14), (.mv (.t 0)), none⟩, ⟨(some 15), (.mv (.t 1)), none⟩, ⟨(some 16), (.bin .shr (.t 15) (.c (.int .u64 (6)))), none⟩, ⟨(some 17), (.cvi .u8 (.t 16)), none⟩, ⟨(some 18), (.bin .or (.c (.int .u8 (192))) (.t 17)), none⟩, ⟨(some 19), (.mv (.t 1)), none⟩, ⟨(some 20), (.cvi .u8 (.t 19)), none⟩, ⟨(some 21), (.bin .and (.t 20) (.c (.int .u8 (63)))), none⟩, ⟨(some 22), (.bin .or (.c (.int .u8 (128))) (.t 21)), none⟩, ⟨(some 23), (.bldF 5 1 [(.t 18), (.t 22)]), none⟩, ⟨(some 24), (.app 5 1 1 (.t 14) (.t 23)), none⟩, ⟨(some 4), (.mv (.t 24)), none⟩]) .ret) (.seq (.seq (.reg [⟨(some 26), (.mv (.t 5)), none⟩, ⟨(some 27), (.bin .lss (.t 26) (.c (.int .u32 (55296)))), none⟩, ⟨(some 25), (.mv (.t 27)), none⟩]) (.cond (.t 25) .skip (.reg [⟨(some 28), (.mv (.t 5)), none⟩, ⟨(some 29), (.bin .lss (.c (.int .u32 (57343))) (.t 28)), none⟩, ⟨(some 30), (.mv (.t 29)), none⟩, ⟨(some 31), (.mv (.t 5)), (some (30, true))⟩, ⟨(some 32), (.bin .leq (.t 31) (.c (.int .u32 (65535)))), (some (30, true))⟩, ⟨(some 33), (.pick (.t 30) (.t 32) (.c (.bool false))), none⟩, ⟨(some 25), (.mv (.t 33)), none⟩]))) (.cond (.t 25) (.seq (.reg [⟨(some 34), (.mv (.t 0)), none⟩, ⟨(some 35), (.mv (.t 1)), none⟩, ⟨(some 36), (.bin .shr (.t 35) (.c (.int .u64 (12)))), none⟩, ⟨(some 37), (.cvi .u8 (.t 36)), none⟩, ⟨(some 38), (.bin .or (.c (.int .u8 (224))) (.t 37)), none⟩, ⟨(some 39), (.mv (.t 1)), none⟩, ⟨(some 40), (.bin .shr (.t 39) (.c (.int .u64 (6)))), none⟩, ⟨(some 41), (.cvi .u8 (.t 40)), none⟩, ⟨(some 42), (.bin .and (.t 41) (.c (.int .u8 (63)))), none⟩, ⟨(some 43), (.bin .or (.c (.int .u8 (128))) (.t 42)), none⟩, ⟨(some 44), (.mv (.t 1)), none⟩, ⟨(some 45), (.cvi .u8 (.t 44)), none⟩, ⟨(some 46), (.bin .and (.t 45) (.c (.int .u8 (63)))), none⟩, ⟨(some 47), (.bin .or (.c (.int .u8 (128))) (.t 46)), none⟩, ⟨(some 48), (.bldF 5 1 [(.t 38), (.t 43), (.t 47)]), none⟩, ⟨(some 49), (.app 5 1 1 (.t 34) (.t 48)), none⟩, ⟨(some 4), (.mv (.t 49)), none⟩]) .ret) (.seq (.reg [⟨(some 51), (.mv (.t 5)), none⟩, ⟨(some 52), (.bin .gtr (.t 51) (.c (.int .u32 (65535)))), none⟩, ⟨(some 53), (.mv (.t 52)), none⟩, ⟨(some 54), (.mv (.t 5)), (some (53, true))⟩, ⟨(some 55), (.bin .leq (.t 54) (.c (.int .u32 (1114111)))), (some (53, true))⟩, ⟨(some 56), (.pick (.t 53) (.t 55) (.c (.bool false))), none⟩, ⟨(some 50), (.mv (.t 56)), none⟩]) (.cond (.t 50) (.seq (.reg [⟨(some 57), (.mv (.t 0)), none⟩, ⟨(some 58), (.mv (.t 1)), none⟩, ⟨(some 59), (.bin .shr (.t 58) (.c (.int .u64 (18)))), none⟩, ⟨(some 60), (.cvi .u8 (.t 59)), none⟩, ⟨(some 61), (.bin .or (.c (.int .u8 (240))) (.t 60)), none⟩, ⟨(some 62), (.mv (.t 1)), none⟩, ⟨(some 63), (.bin .shr (.t 62) (.c (.int .u64 (12)))), none⟩, ⟨(some 64), (.cvi .u8 (.t 63)), none⟩, ⟨(some 65), (.bin .and (.t 64) (.c (.int .u8 (63)))), none⟩, ⟨(some 66), (.bin .or (.c (.int .u8 (128))) (.t 65)), none⟩, ⟨(some 67), (.mv (.t 1)), none⟩, ⟨(some 68), (.bin .shr (.t 67) (.c (.int .u64 (6)))), none⟩, ⟨(some 69), (.cvi .u8 (.t 68)), none⟩, ⟨(some 70), (.bin .and (.t 69) (.c (.int .u8 (63)))), none⟩, ⟨(some 71), (.bin .or (.c (.int .u8 (128))) (.t 70)), none⟩, ⟨(some 72), (.mv (.t 1)), none⟩, ⟨(some 73), (.cvi .u8 (.t 72)), none⟩, ⟨(some 74), (.bin .and (.t 73) (.c (.int .u8 (63)))), none⟩, ⟨(some 75), (.bin .or (.c (.int .u8 (128))) (.t 74)), none⟩, ⟨(some 76), (.bldF 5 1 [(.t 61), (.t 66), (.t 71), (.t 75)]), none⟩, ⟨(some 77), (.app 5 1 1 (.t 57) (.t 76)), none⟩, ⟨(some 4), (.mv (.t 77)), none⟩]) .ret) (.seq (.reg [⟨(some 8), (.mv (.t 0)), none⟩, ⟨(some 9), (.bldF 5 1 [(.c (.int .u8 (239))), (.c (.int .u8 (191))), (.c (.int .u8 (189)))]), none⟩, ⟨(some 10), (.app 5 1 1 (.t 8) (.t 9)), none⟩, ⟨(some 4), (.mv (.t 10)), none⟩]) .ret)))))))))), [(.tmp 4)]⟩
theorem hc59 : toSF Tryd.prog {} Tryd.f59 = some c59 := by kernel_rfl
theorem hn59 : (Tryd.f59.name == "runtime.NumGoroutine") = false := by kernel_rfl
theorem appNon_ok {h0 h : Heap} {cells : List (List AVal)} {a : AVal} (r : Int) (A : Acc h0 Tu 1 cells a h) (S : Sub h0 h) (hr : r < 0 ∨ 127 < r) (h1 : -2147483648 ≤ r) (h2 : r ≤ 2147483647) (hs : cells.length + 4 ≤ 140737488355328) :
    DCalls (Pg G) 59 [a, .int .i32 r] h fun a' h' => Acc h0 Tu 1 (cells ++ strEs (Lib.encodeRune r)) a' h' ∧ Sub h0 h' := by
  refine dcalls_of_vc Tryd.func59 hn59 hc59 (by rw [Tryd.ntmps59]; simp) (by rw [Tryd.ntmps59]; decide) ?_
  have e6 : (2 : Int) ^ (min 6 IntKind.i32.bits) = 64 := rfl
  have e12 : (2 : Int) ^ (min 12 IntKind.i32.bits) = 4096 := rfl
  have e18 : (2 : Int) ^ (min 18 IntKind.i32.bits) = 262144 := rfl
  rcases (by omega : r < 0 ∨ (128 ≤ r ∧ r ≤ 2047) ∨ (2048 ≤ r ∧ r < 55296) ∨ (55296 ≤ r ∧ r ≤ 57343) ∨ (57343 < r ∧ r ≤ 65535) ∨ (65536 ≤ r ∧ r ≤ 1114111) ∨ 1114111 < r) with hc | hc | hc | hc | hc | hc | hc
  · have hw : IntKind.u32.wrap r = r + 4294967296 := u32_neg (by omega) h1
    have d1 : decide ((r + 4294967296) ≤ 2047) = false := by simp; omega
    have d2 : decide ((r + 4294967296) < 55296) = false := by simp; omega
    have d3 : decide (57343 < (r + 4294967296)) = true := by simp; omega
    have d4 : decide ((r + 4294967296) ≤ 65535) = false := by simp; omega
    have d5 : decide (65535 < (r + 4294967296)) = true := by simp; omega
    have d6 : decide ((r + 4294967296) ≤ 1114111) = false := by simp; omega
    simp -dsimp -implicitDefEqProofs (disch := omega) only [↓vcOps_sp 30, ↓vcD_sp 30, ↓vcOps_sp 53, ↓vcD_sp 53, VCA, pg_gl, ↓upd_none, Nat.reduceEqDiff, Nat.reduceBEq, Nat.reduceAdd, Nat.reduceSub, Nat.reduceMul, Nat.reduceLT, Nat.reduceLeDiff, ↓reduceIte, reduceCtorEq, rsOf, rootsOf, SOp.rd, SI.rd, SX.rd, rdL, rdO, rdP, okParts, eqCells, okEqCells, fillA, okFill, setAt, implies_true, forall_const, forall_eq, ne_eq, exists_eq_right_right, exists_eq_right, exists_eq_left, exists_eq_left', c59, hw, d1, d2, d3, d4, d5, d6]
    refine ⟨_, ⟨rfl, by intro e he; rcases he with rfl | rfl | rfl <;> rfl⟩, ?_⟩
    refine A.app S (by simp; omega) (by simp; omega) fun a' h3 A' S' => ?_
    simp -dsimp -implicitDefEqProofs (disch := omega) only [↓vcOps_sp 30, ↓vcD_sp 30, ↓vcOps_sp 53, ↓vcD_sp 53, VCA, pg_gl, ↓upd_none, Nat.reduceEqDiff, Nat.reduceBEq, Nat.reduceAdd, Nat.reduceSub, Nat.reduceMul, Nat.reduceLT, Nat.reduceLeDiff, ↓reduceIte, reduceCtorEq, rsOf, rootsOf, SOp.rd, SI.rd, SX.rd, rdL, rdO, rdP, okParts, eqCells, okEqCells, fillA, okFill, setAt, implies_true, forall_const, forall_eq, ne_eq, exists_eq_right_right, exists_eq_right, exists_eq_left, exists_eq_left', hw, d1, d2, d3, d4, d5, d6]
    refine ⟨_, Sub.refl _, ?_, S'⟩
    rw [str_rune, Lib.encodeRuneZ_bad (.inl hc)]
    simpa using A'
  · have hw : IntKind.u32.wrap r = r := u32_pos (by omega) h2
    have d1 : decide (r ≤ 2047) = true := by simp; omega
    simp -dsimp -implicitDefEqProofs (disch := omega) only [↓vcOps_sp 30, ↓vcD_sp 30, ↓vcOps_sp 53, ↓vcD_sp 53, VCA, pg_gl, ↓upd_none, Nat.reduceEqDiff, Nat.reduceBEq, Nat.reduceAdd, Nat.reduceSub, Nat.reduceMul, Nat.reduceLT, Nat.reduceLeDiff, ↓reduceIte, reduceCtorEq, rsOf, rootsOf, SOp.rd, SI.rd, SX.rd, rdL, rdO, rdP, okParts, eqCells, okEqCells, fillA, okFill, setAt, implies_true, forall_const, forall_eq, ne_eq, exists_eq_right_right, exists_eq_right, exists_eq_left, exists_eq_left', c59, hw, d1]
    refine ⟨by omega, _, ⟨rfl, by intro e he; simp at he; rcases he with rfl | rfl <;> rfl⟩, ?_⟩
    refine A.app S (by simp; omega) (by simp; omega) fun a' h3 A' S' => ?_
    simp -dsimp -implicitDefEqProofs (disch := omega) only [↓vcOps_sp 30, ↓vcD_sp 30, ↓vcOps_sp 53, ↓vcD_sp 53, VCA, pg_gl, ↓upd_none, Nat.reduceEqDiff, Nat.reduceBEq, Nat.reduceAdd, Nat.reduceSub, Nat.reduceMul, Nat.reduceLT, Nat.reduceLeDiff, ↓reduceIte, reduceCtorEq, rsOf, rootsOf, SOp.rd, SI.rd, SX.rd, rdL, rdO, rdP, okParts, eqCells, okEqCells, fillA, okFill, setAt, implies_true, forall_const, forall_eq, ne_eq, exists_eq_right_right, exists_eq_right, exists_eq_left, exists_eq_left', hw, d1]
    refine ⟨_, Sub.refl _, ?_, S'⟩
    rw [str_rune, Lib.encodeRuneZ_two hc.1 hc.2]
    simp only [f128] at A'
    simpa [fd6, fd12, fd18, e6, e12, e18, f192 (x := r / 64) (by omega) (by omega)] using A'
  · have hw : IntKind.u32.wrap r = r := u32_pos (by omega) h2
    have d1 : decide (r ≤ 2047) = false := by simp; omega
    have d2 : decide (r < 55296) = true := by simp; omega
    simp -dsimp -implicitDefEqProofs (disch := omega) only [↓vcOps_sp 30, ↓vcD_sp 30, ↓vcOps_sp 53, ↓vcD_sp 53, VCA, pg_gl, ↓upd_none, Nat.reduceEqDiff, Nat.reduceBEq, Nat.reduceAdd, Nat.reduceSub, Nat.reduceMul, Nat.reduceLT, Nat.reduceLeDiff, ↓reduceIte, reduceCtorEq, rsOf, rootsOf, SOp.rd, SI.rd, SX.rd, rdL, rdO, rdP, okParts, eqCells, okEqCells, fillA, okFill, setAt, implies_true, forall_const, forall_eq, ne_eq, exists_eq_right_right, exists_eq_right, exists_eq_left, exists_eq_left', c59, hw, d1, d2]
    refine ⟨by omega, by omega, _, ⟨rfl, by intro e he; simp at he; rcases he with rfl | rfl | rfl <;> rfl⟩, ?_⟩
    refine A.app S (by simp; omega) (by simp; omega) fun a' h3 A' S' => ?_
    simp -dsimp -implicitDefEqProofs (disch := omega) only [↓vcOps_sp 30, ↓vcD_sp 30, ↓vcOps_sp 53, ↓vcD_sp 53, VCA, pg_gl, ↓upd_none, Nat.reduceEqDiff, Nat.reduceBEq, Nat.reduceAdd, Nat.reduceSub, Nat.reduceMul, Nat.reduceLT, Nat.reduceLeDiff, ↓reduceIte, reduceCtorEq, rsOf, rootsOf, SOp.rd, SI.rd, SX.rd, rdL, rdO, rdP, okParts, eqCells, okEqCells, fillA, okFill, setAt, implies_true, forall_const, forall_eq, ne_eq, exists_eq_right_right, exists_eq_right, exists_eq_left, exists_eq_left', hw, d1, d2]
    refine ⟨_, Sub.refl _, ?_, S'⟩
    rw [str_rune, Lib.encodeRuneZ_three (.inl hc)]
    simp only [f128] at A'
    simpa [fd6, fd12, fd18, e6, e12, e18, f224 (x := r / 4096) (by omega) (by omega)] using A'
  · have hw : IntKind.u32.wrap r = r := u32_pos (by omega) h2
    have d1 : decide (r ≤ 2047) = false := by simp; omega
    have d2 : decide (r < 55296) = false := by simp; omega
    have d3 : decide (57343 < r) = false := by simp; omega
    have d4 : decide (r ≤ 65535) = true := by simp; omega
    have d5 : decide (65535 < r) = false := by simp; omega
    simp -dsimp -implicitDefEqProofs (disch := omega) only [↓vcOps_sp 30, ↓vcD_sp 30, ↓vcOps_sp 53, ↓vcD_sp 53, VCA, pg_gl, ↓upd_none, Nat.reduceEqDiff, Nat.reduceBEq, Nat.reduceAdd, Nat.reduceSub, Nat.reduceMul, Nat.reduceLT, Nat.reduceLeDiff, ↓reduceIte, reduceCtorEq, rsOf, rootsOf, SOp.rd, SI.rd, SX.rd, rdL, rdO, rdP, okParts, eqCells, okEqCells, fillA, okFill, setAt, implies_true, forall_const, forall_eq, ne_eq, exists_eq_right_right, exists_eq_right, exists_eq_left, exists_eq_left', c59, hw, d1, d2, d3, d4, d5]
    refine ⟨_, ⟨rfl, by intro e he; rcases he with rfl | rfl | rfl <;> rfl⟩, ?_⟩
    refine A.app S (by simp; omega) (by simp; omega) fun a' h3 A' S' => ?_
    simp -dsimp -implicitDefEqProofs (disch := omega) only [↓vcOps_sp 30, ↓vcD_sp 30, ↓vcOps_sp 53, ↓vcD_sp 53, VCA, pg_gl, ↓upd_none, Nat.reduceEqDiff, Nat.reduceBEq, Nat.reduceAdd, Nat.reduceSub, Nat.reduceMul, Nat.reduceLT, Nat.reduceLeDiff, ↓reduceIte, reduceCtorEq, rsOf, rootsOf, SOp.rd, SI.rd, SX.rd, rdL, rdO, rdP, okParts, eqCells, okEqCells, fillA, okFill, setAt, implies_true, forall_const, forall_eq, ne_eq, exists_eq_right_right, exists_eq_right, exists_eq_left, exists_eq_left', hw, d1, d2, d3, d4, d5]
    refine ⟨_, Sub.refl _, ?_, S'⟩
    rw [str_rune, Lib.encodeRuneZ_bad (.inr (.inl hc))]
    simpa using A'
  · have hw : IntKind.u32.wrap r = r := u32_pos (by omega) h2
    have d1 : decide (r ≤ 2047) = false := by simp; omega
    have d2 : decide (r < 55296) = false := by simp; omega
    have d3 : decide (57343 < r) = true := by simp; omega
    have d4 : decide (r ≤ 65535) = true := by simp; omega
    simp -dsimp -implicitDefEqProofs (disch := omega) only [↓vcOps_sp 30, ↓vcD_sp 30, ↓vcOps_sp 53, ↓vcD_sp 53, VCA, pg_gl, ↓upd_none, Nat.reduceEqDiff, Nat.reduceBEq, Nat.reduceAdd, Nat.reduceSub, Nat.reduceMul, Nat.reduceLT, Nat.reduceLeDiff, ↓reduceIte, reduceCtorEq, rsOf, rootsOf, SOp.rd, SI.rd, SX.rd, rdL, rdO, rdP, okParts, eqCells, okEqCells, fillA, okFill, setAt, implies_true, forall_const, forall_eq, ne_eq, exists_eq_right_right, exists_eq_right, exists_eq_left, exists_eq_left', c59, hw, d1, d2, d3, d4]
    refine ⟨by omega, by omega, _, ⟨rfl, by intro e he; simp at he; rcases he with rfl | rfl | rfl <;> rfl⟩, ?_⟩
    refine A.app S (by simp; omega) (by simp; omega) fun a' h3 A' S' => ?_
    simp -dsimp -implicitDefEqProofs (disch := omega) only [↓vcOps_sp 30, ↓vcD_sp 30, ↓vcOps_sp 53, ↓vcD_sp 53, VCA, pg_gl, ↓upd_none, Nat.reduceEqDiff, Nat.reduceBEq, Nat.reduceAdd, Nat.reduceSub, Nat.reduceMul, Nat.reduceLT, Nat.reduceLeDiff, ↓reduceIte, reduceCtorEq, rsOf, rootsOf, SOp.rd, SI.rd, SX.rd, rdL, rdO, rdP, okParts, eqCells, okEqCells, fillA, okFill, setAt, implies_true, forall_const, forall_eq, ne_eq, exists_eq_right_right, exists_eq_right, exists_eq_left, exists_eq_left', hw, d1, d2, d3, d4]
    refine ⟨_, Sub.refl _, ?_, S'⟩
    rw [str_rune, Lib.encodeRuneZ_three (.inr hc)]
    simp only [f128] at A'
    simpa [fd6, fd12, fd18, e6, e12, e18, f224 (x := r / 4096) (by omega) (by omega)] using A'
  · have hw : IntKind.u32.wrap r = r := u32_pos (by omega) h2
    have d1 : decide (r ≤ 2047) = false := by simp; omega
    have d2 : decide (r < 55296) = false := by simp; omega
    have d3 : decide (57343 < r) = true := by simp; omega
    have d4 : decide (r ≤ 65535) = false := by simp; omega
    have d5 : decide (65535 < r) = true := by simp; omega
    have d6 : decide (r ≤ 1114111) = true := by simp; omega
    simp -dsimp -implicitDefEqProofs (disch := omega) only [↓vcOps_sp 30, ↓vcD_sp 30, ↓vcOps_sp 53, ↓vcD_sp 53, VCA, pg_gl, ↓upd_none, Nat.reduceEqDiff, Nat.reduceBEq, Nat.reduceAdd, Nat.reduceSub, Nat.reduceMul, Nat.reduceLT, Nat.reduceLeDiff, ↓reduceIte, reduceCtorEq, rsOf, rootsOf, SOp.rd, SI.rd, SX.rd, rdL, rdO, rdP, okParts, eqCells, okEqCells, fillA, okFill, setAt, implies_true, forall_const, forall_eq, ne_eq, exists_eq_right_right, exists_eq_right, exists_eq_left, exists_eq_left', c59, hw, d1, d2, d3, d4, d5, d6]
    refine ⟨by omega, by omega, by omega, _, ⟨rfl, by intro e he; simp at he; rcases he with rfl | rfl | rfl | rfl <;> rfl⟩, ?_⟩
    refine A.app S (by simp; omega) (by simp; omega) fun a' h3 A' S' => ?_
    simp -dsimp -implicitDefEqProofs (disch := omega) only [↓vcOps_sp 30, ↓vcD_sp 30, ↓vcOps_sp 53, ↓vcD_sp 53, VCA, pg_gl, ↓upd_none, Nat.reduceEqDiff, Nat.reduceBEq, Nat.reduceAdd, Nat.reduceSub, Nat.reduceMul, Nat.reduceLT, Nat.reduceLeDiff, ↓reduceIte, reduceCtorEq, rsOf, rootsOf, SOp.rd, SI.rd, SX.rd, rdL, rdO, rdP, okParts, eqCells, okEqCells, fillA, okFill, setAt, implies_true, forall_const, forall_eq, ne_eq, exists_eq_right_right, exists_eq_right, exists_eq_left, exists_eq_left', hw, d1, d2, d3, d4, d5, d6]
    refine ⟨_, Sub.refl _, ?_, S'⟩
    rw [str_rune, Lib.encodeRuneZ_four hc.1 hc.2]
    simp only [f128] at A'
    simpa [fd6, fd12, fd18, e6, e12, e18, f240 (x := r / 262144) (by omega) (by omega)] using A'
  · have hw : IntKind.u32.wrap r = r := u32_pos (by omega) h2
    have d1 : decide (r ≤ 2047) = false := by simp; omega
    have d2 : decide (r < 55296) = false := by simp; omega
    have d3 : decide (57343 < r) = true := by simp; omega
    have d4 : decide (r ≤ 65535) = false := by simp; omega
    have d5 : decide (65535 < r) = true := by simp; omega
    have d6 : decide (r ≤ 1114111) = false := by simp; omega
    simp -dsimp -implicitDefEqProofs (disch := omega) only [↓vcOps_sp 30, ↓vcD_sp 30, ↓vcOps_sp 53, ↓vcD_sp 53, VCA, pg_gl, ↓upd_none, Nat.reduceEqDiff, Nat.reduceBEq, Nat.reduceAdd, Nat.reduceSub, Nat.reduceMul, Nat.reduceLT, Nat.reduceLeDiff, ↓reduceIte, reduceCtorEq, rsOf, rootsOf, SOp.rd, SI.rd, SX.rd, rdL, rdO, rdP, okParts, eqCells, okEqCells, fillA, okFill, setAt, implies_true, forall_const, forall_eq, ne_eq, exists_eq_right_right, exists_eq_right, exists_eq_left, exists_eq_left', c59, hw, d1, d2, d3, d4, d5, d6]
    refine ⟨_, ⟨rfl, by intro e he; rcases he with rfl | rfl | rfl <;> rfl⟩, ?_⟩
    refine A.app S (by simp; omega) (by simp; omega) fun a' h3 A' S' => ?_
    simp -dsimp -implicitDefEqProofs (disch := omega) only [↓vcOps_sp 30, ↓vcD_sp 30, ↓vcOps_sp 53, ↓vcD_sp 53, VCA, pg_gl, ↓upd_none, Nat.reduceEqDiff, Nat.reduceBEq, Nat.reduceAdd, Nat.reduceSub, Nat.reduceMul, Nat.reduceLT, Nat.reduceLeDiff, ↓reduceIte, reduceCtorEq, rsOf, rootsOf, SOp.rd, SI.rd, SX.rd, rdL, rdO, rdP, okParts, eqCells, okEqCells, fillA, okFill, setAt, implies_true, forall_const, forall_eq, ne_eq, exists_eq_right_right, exists_eq_right, exists_eq_left, exists_eq_left', hw, d1, d2, d3, d4, d5, d6]
    refine ⟨_, Sub.refl _, ?_, S'⟩
    rw [str_rune, Lib.encodeRuneZ_bad (.inr (.inr hc))]
    simpa using A'
def c46 : SFun := ⟨(.seq (.reg [⟨(some 4), (.mv (.c .emp)), none⟩]) (.seq (.seq (.reg [⟨(some 5), (.mv (.t 1)), none⟩, ⟨(some 6), (.cvi .u32 (.t 5)), none⟩, ⟨(some 7), (.bin .leq (.t 6) (.c (.int .u32 (127)))), none⟩]) (.cond (.t 7) (.seq (.reg [⟨(some 8), (.mv (.t 0)), none⟩, ⟨(some 9), (.mv (.t 1)), none⟩, ⟨(some 10), (.cvi .u8 (.t 9)), none⟩, ⟨(some 11), (.bldF 5 1 [(.t 10)]), none⟩, ⟨(some 12), (.app 5 1 1 (.t 8) (.t 11)), none⟩, ⟨(some 4), (.mv (.t 12)), none⟩]) .ret) .skip)) (.seq (.reg [⟨(some 13), (.mv (.t 0)), none⟩, ⟨(some 14), (.mv (.t 1)), none⟩, ⟨(some 15), (.call (.c (.fn 59 [] [])) [(.t 13), (.t 14)]), none⟩, ⟨(some 4), (.mv (.t 15)), none⟩]) .ret))), [(.tmp 4)]⟩
theorem hc46 : toSF Tryd.prog {} Tryd.f46 = some c46 := by kernel_rfl
theorem hn46 : (Tryd.f46.name == "runtime.NumGoroutine") = false := by kernel_rfl
theorem appRune_ok {h0 h : Heap} {cells : List (List AVal)} {a : AVal} (r : Int) (A : Acc h0 Tu 1 cells a h) (S : Sub h0 h) (h1 : -2147483648 ≤ r) (h2 : r ≤ 2147483647) (hs : cells.length + 4 ≤ 140737488355328) :
    DCalls (Pg G) 46 [a, .int .i32 r] h fun a' h' => Acc h0 Tu 1 (cells ++ strEs (Lib.encodeRune r)) a' h' ∧ Sub h0 h' := by
  refine dcalls_of_vc Tryd.func46 hn46 hc46 (by rw [Tryd.ntmps46]; simp) (by rw [Tryd.ntmps46]; decide) ?_
  by_cases hc : 0 ≤ r ∧ r ≤ 127
  · have hw := u32_pos hc.1 h2
    have d1 : decide (r ≤ 127) = true := by simp; omega
    simp -dsimp -implicitDefEqProofs (disch := omega) only [VCA, pg_gl, ↓upd_none, Nat.reduceEqDiff, Nat.reduceBEq, Nat.reduceAdd, Nat.reduceSub, Nat.reduceMul, Nat.reduceLT, Nat.reduceLeDiff, ↓reduceIte, reduceCtorEq, rsOf, rootsOf, SOp.rd, SI.rd, SX.rd, rdL, rdO, rdP, okParts, eqCells, okEqCells, fillA, okFill, setAt, implies_true, forall_const, forall_eq, ne_eq, exists_eq_right_right, exists_eq_right, exists_eq_left, exists_eq_left', c46, hw, d1]
    refine A.app S (by simp; omega) (by simp; omega) fun a' h3 A' S' => ?_
    simp -dsimp -implicitDefEqProofs (disch := omega) only [VCA, pg_gl, ↓upd_none, Nat.reduceEqDiff, Nat.reduceBEq, Nat.reduceAdd, Nat.reduceSub, Nat.reduceMul, Nat.reduceLT, Nat.reduceLeDiff, ↓reduceIte, reduceCtorEq, rsOf, rootsOf, SOp.rd, SI.rd, SX.rd, rdL, rdO, rdP, okParts, eqCells, okEqCells, fillA, okFill, setAt, implies_true, forall_const, forall_eq, ne_eq, exists_eq_right_right, exists_eq_right, exists_eq_left, exists_eq_left', hw, d1]
    refine ⟨_, Sub.refl _, ?_, S'⟩
    rw [str_rune, Lib.encodeRuneZ_one hc.1 hc.2]
    rw [IntKind.wrap_u8, Int.emod_eq_of_lt hc.1 (by omega)] at A'
    simpa using A'
  · have d1 : decide (IntKind.u32.wrap r ≤ 127) = false := by
      rcases (by omega : r < 0 ∨ 0 ≤ r) with h | h
      · rw [u32_neg h h1]; simp; omega
      · rw [u32_pos h h2]; simp; omega
    simp -dsimp -implicitDefEqProofs (disch := omega) only [VCA, pg_gl, ↓upd_none, Nat.reduceEqDiff, Nat.reduceBEq, Nat.reduceAdd, Nat.reduceSub, Nat.reduceMul, Nat.reduceLT, Nat.reduceLeDiff, ↓reduceIte, reduceCtorEq, rsOf, rootsOf, SOp.rd, SI.rd, SX.rd, rdL, rdO, rdP, okParts, eqCells, okEqCells, fillA, okFill, setAt, implies_true, forall_const, forall_eq, ne_eq, exists_eq_right_right, exists_eq_right, exists_eq_left, exists_eq_left', c46, d1]
    refine DCalls.of (appNon_ok r A S (by omega) h1 h2 hs) ?_
    rintro a' h3 ⟨A', S'⟩
    simp -dsimp -implicitDefEqProofs (disch := omega) only [VCA, pg_gl, ↓upd_none, Nat.reduceEqDiff, Nat.reduceBEq, Nat.reduceAdd, Nat.reduceSub, Nat.reduceMul, Nat.reduceLT, Nat.reduceLeDiff, ↓reduceIte, reduceCtorEq, rsOf, rootsOf, SOp.rd, SI.rd, SX.rd, rdL, rdO, rdP, okParts, eqCells, okEqCells, fillA, okFill, setAt, implies_true, forall_const, forall_eq, ne_eq, exists_eq_right_right, exists_eq_right, exists_eq_left, exists_eq_left']
    exact ⟨_, Sub.refl _, A', S'⟩

def c34 : SFun := ⟨(.seq (.reg [⟨(some 4), (.mv (.c (.int .i64 (0)))), none⟩, ⟨(some 5), (.mv (.c (.prim .nilIface))), none⟩]) (.seq (.reg [⟨(some 7), (.mv (.t 0)), none⟩, ⟨(some 8), (.call (.c (.fn 45 [] [])) [(.t 7)]), none⟩]) (.seq (.reg [⟨(some 9), (.mv (.t 0)), none⟩, ⟨(some 10), (.fldA 0 (.t 9)), none⟩, ⟨(some 11), (.fldA 1 (.t 10)), none⟩, ⟨(some 12), (.ld 1 false (.t 11)), none⟩, ⟨(some 13), (.len (.t 12)), none⟩, ⟨(some 6), (.mv (.t 13)), none⟩]) (.seq (.reg [⟨(some 14), (.mv (.t 0)), none⟩, ⟨(some 15), (.mv (.t 0)), none⟩, ⟨(some 16), (.fldA 0 (.t 15)), none⟩, ⟨(some 17), (.fldA 1 (.t 16)), none⟩, ⟨(some 18), (.ld 1 false (.t 17)), none⟩, ⟨(some 19), (.mv (.t 1)), none⟩, ⟨(some 20), (.call (.c (.fn 46 [] [])) [(.t 18), (.t 19)]), none⟩, ⟨(some 21), (.fldA 0 (.t 14)), none⟩, ⟨(some 22), (.fldA 1 (.t 21)), none⟩, ⟨none, (.st 1 (.t 22) (.t 20)), none⟩]) (.seq (.reg [⟨(some 23), (.mv (.t 0)), none⟩, ⟨(some 24), (.fldA 0 (.t 23)), none⟩, ⟨(some 25), (.fldA 1 (.t 24)), none⟩, ⟨(some 26), (.ld 1 false (.t 25)), none⟩, ⟨(some 27), (.len (.t 26)), none⟩, ⟨(some 28), (.mv (.t 6)), none⟩, ⟨(some 29), (.bin .sub (.t 27) (.t 28)), none⟩, ⟨(some 4), (.mv (.t 29)), none⟩, ⟨(some 5), (.mv (.c (.prim .nilIface))), none⟩]) .ret))))), [(.tmp 4), (.tmp 5)]⟩
theorem hc34 : toSF Tryd.prog {} Tryd.f34 = some c34 := by kernel_rfl
theorem hn34 : (Tryd.f34.name == "runtime.NumGoroutine") = false := by kernel_rfl
theorem writeRune_ok {h0 h : Heap} {rb : Nat} {s : List UInt8} (r : Int) (B : Bl h0 rb s h) (h1 : -2147483648 ≤ r) (h2 : r ≤ 2147483647) (hs : s.length + 4 ≤ 140737488355328) :
    DCalls (Pg G) 34 [.vp rb 0, .int .i32 r] h fun a h' => (∃ n, a = .tup [n, .prim .nilIface]) ∧ Bl h0 rb (s ++ Lib.encodeRune r) h' := by
  obtain ⟨hn, p, buf, hp, hne, A, S⟩ := B
  refine dcalls_of_vc Tryd.func34 hn34 hc34 (by rw [Tryd.ntmps34]; simp) (by rw [Tryd.ntmps34]; decide) ?_
  simp -dsimp -implicitDefEqProofs (disch := omega) only [VCA, pg_gl, ↓upd_none, Nat.reduceEqDiff, Nat.reduceBEq, Nat.reduceAdd, Nat.reduceSub, Nat.reduceMul, Nat.reduceLT, Nat.reduceLeDiff, ↓reduceIte, reduceCtorEq, rsOf, rootsOf, SOp.rd, SI.rd, SX.rd, rdL, rdO, rdP, okParts, eqCells, okEqCells, fillA, okFill, setAt, implies_true, forall_const, forall_eq, ne_eq, exists_eq_right_right, exists_eq_right, exists_eq_left, exists_eq_left', c34]
  refine copyCheck_ok rb h p buf hp (sub_is S) ?_
  have L := (acc_at (y := ⟨Tb, 2, [[.vp rb 0, buf]]⟩) A).len
  simp -dsimp -implicitDefEqProofs (disch := omega) only [VCA, pg_gl, ↓upd_none, Nat.reduceEqDiff, Nat.reduceBEq, Nat.reduceAdd, Nat.reduceSub, Nat.reduceMul, Nat.reduceLT, Nat.reduceLeDiff, ↓reduceIte, reduceCtorEq, rsOf, rootsOf, SOp.rd, SI.rd, SX.rd, rdL, rdO, rdP, okParts, eqCells, okEqCells, fillA, okFill, setAt, implies_true, forall_const, forall_eq, ne_eq, exists_eq_right_right, exists_eq_right, exists_eq_left, exists_eq_left', L.1, L.2]
  refine DCalls.of (appRune_ok r (acc_at A) (sub_at S) h1 h2 (by simp [strEs]; omega)) ?_
  rintro a' h3 ⟨A', S'⟩
  obtain ⟨hv, hc⟩ : isV a' = true ∧ cellsOf a' = [a'] := by
    rcases A' with ⟨_, rfl⟩ | ⟨r, _, _, rfl⟩ <;> exact ⟨rfl, rfl⟩
  have L' := A'.len
  have hne' : Lib.encodeRune r ≠ [] := by
    unfold Lib.encodeRune Lib.encodeRuneZ; repeat' split
    all_goals simp
  simp -dsimp -implicitDefEqProofs (disch := omega) only [VCA, pg_gl, ↓upd_none, Nat.reduceEqDiff, Nat.reduceBEq, Nat.reduceAdd, Nat.reduceSub, Nat.reduceMul, Nat.reduceLT, Nat.reduceLeDiff, ↓reduceIte, reduceCtorEq, rsOf, rootsOf, SOp.rd, SI.rd, SX.rd, rdL, rdO, rdP, okParts, eqCells, okEqCells, fillA, okFill, setAt, implies_true, forall_const, forall_eq, ne_eq, exists_eq_right_right, exists_eq_right, exists_eq_left, exists_eq_left', sub_is S', hv, hc, L'.1, L'.2]
  exact ⟨_, Sub.refl _, ⟨_, rfl⟩, hn, _, _, .inr rfl, fun _ => by simp [hne'], by simpa [strEs] using acc_at A', sub_at S'⟩
end Go.Proofs.K
