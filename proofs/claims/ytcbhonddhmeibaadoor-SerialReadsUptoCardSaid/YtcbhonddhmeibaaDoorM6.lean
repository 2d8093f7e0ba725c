/- Texts of this claim, one behind the other. -/
import Derived.Test.YtcbhonddhmeibaaDoorM5
import Derived.Test.YtcbhonddhmeibaaDoorM4
import Derived.Lib.Repeat
import Derived.Lib.TrimByte
import Derived.Test.YtcbhonddhmeibaaDoorM3
section
set_option linter.unusedSimpArgs false
set_option linter.unusedVariables false
namespace Go.Proofs.K
open Go Go.Sim Go.Proofs
variable {G : Glob}
def c9 : SFun := ⟨.seq (.reg [⟨some 2, .mv (.c (.int .i64 0)), none⟩]) (.seq (.seq (.reg [⟨some 3, .mv (.t 0), none⟩]) (.block 0 (.seq (.seq (.reg [⟨some 5, .bin .eql (.t 3) (.c (.str [115, 99, 114, 105, 112, 116])), none⟩, ⟨some 4, .mv (.t 5), none⟩]) (.cond (.t 4) .skip (.reg [⟨some 6, .bin .eql (.t 3) (.c (.str [115, 116, 121, 108, 101])), none⟩, ⟨some 4, .mv (.t 6), none⟩]))) (.cond (.t 4) (.seq (.reg [⟨some 2, .mv (.c (.int .i64 1)), none⟩]) .ret) (.seq (.seq (.reg [⟨some 8, .bin .eql (.t 3) (.c (.str [116, 101, 120, 116, 97, 114, 101, 97])), none⟩, ⟨some 7, .mv (.t 8), none⟩]) (.cond (.t 7) .skip (.reg [⟨some 9, .bin .eql (.t 3) (.c (.str [116, 105, 116, 108, 101])), none⟩, ⟨some 7, .mv (.t 9), none⟩]))) (.cond (.t 7) (.seq (.reg [⟨some 2, .mv (.c (.int .i64 2)), none⟩]) .ret) .skip)))))) (.seq (.reg [⟨some 2, .mv (.c (.int .i64 0)), none⟩]) .ret)), [.tmp 2]⟩
theorem hc9 : toSF Tryd.prog {} Tryd.f9 = some c9 := by kernel_rfl
theorem hn9 : (Tryd.f9.name == "runtime.NumGoroutine") = false := by kernel_rfl
theorem raw_ok (nm : List UInt8) : PCalls (Pg G) 9 [.str nm] (aInt (rawM nm)) := fun h => by
  unfold rawM
  refine dcalls_of_vc Tryd.func9 hn9 hc9 (by rw [Tryd.ntmps9]; simp) (by rw [Tryd.ntmps9]; decide) ?_
  simp -dsimp -implicitDefEqProofs (disch := omega) only [VCA, pg_gl, ↓upd_none, Nat.reduceEqDiff, Nat.reduceBEq, Nat.reduceAdd, Nat.reduceSub, Nat.reduceMul, Nat.reduceLT, Nat.reduceLeDiff, ↓reduceIte, reduceCtorEq, rsOf, rootsOf, SOp.rd, SI.rd, SX.rd, rdL, rdO, rdP, okParts, eqCells, okEqCells, fillA, okFill, setAt, implies_true, forall_const, forall_eq, ne_eq, exists_eq_right_right, exists_eq_right, exists_eq_left, exists_eq_left', rootL, eAttr, eInt, eBool, lit_eq, c9]
  repeat' (first | ((with_reducible refine brC (fun _ => ?_) fun _ => ?_) <;> try (exfalso; omega)) | (with_reducible refine And.intro ?_ ?_; · omega) | simp -dsimp -implicitDefEqProofs (disch := omega) only [VCA, pg_gl, ↓upd_none, Nat.reduceEqDiff, Nat.reduceBEq, Nat.reduceAdd, Nat.reduceSub, Nat.reduceMul, Nat.reduceLT, Nat.reduceLeDiff, ↓reduceIte, reduceCtorEq, rsOf, rootsOf, SOp.rd, SI.rd, SX.rd, rdL, rdO, rdP, okParts, eqCells, okEqCells, fillA, okFill, setAt, implies_true, forall_const, forall_eq, ne_eq, exists_eq_right_right, exists_eq_right, exists_eq_left, exists_eq_left', rootL, eAttr, eInt, eBool, lit_eq])
  all_goals (refine ⟨Sub.refl _, ?_⟩; simp_all)
abbrev WD (d : HDoc) := BlE (sl eNode d.nodes) (.bool d.quirks)
def textH (d : HDoc) (x : HNode) : List UInt8 := if 0 ≤ x.parent ∧ rawM (nd d x.parent).name = 1 then x.text else escD false x.text
theorem textH_len (d : HDoc) {x : HNode} (Z : NodeSz x) : (textH d x).length ≤ 2400 := by
  have := esc_len false _ x.text (Nat.le_refl _)
  have := Z.text
  unfold textH; split <;> omega
def c72 : SFun := ⟨.seq (.reg [⟨some 3, .boxF 53 6 (.t 1), none⟩]) (.seq (.seq (.dreg [(⟨some 4, .fldA 4 (.t 3), none⟩, none), (⟨some 5, .ld 1 false (.t 4), none⟩, none), (⟨some 6, .bin .geq (.t 5) (.c (.int .i64 0)), none⟩, none), (⟨some 7, .mv (.t 6), none⟩, none), (⟨some 8, .mv (.t 0), some (7, true)⟩, none), (⟨some 9, .fldA 0 (.t 8), some (7, true)⟩, none), (⟨some 10, .fldA 2 (.t 9), some (7, true)⟩, none), (⟨some 11, .fldA 0 (.t 10), some (7, true)⟩, none), (⟨some 12, .ld 1 false (.t 11), some (7, true)⟩, none), (⟨some 13, .fldA 4 (.t 3), some (7, true)⟩, none), (⟨some 14, .ld 1 false (.t 13), some (7, true)⟩, none), (⟨some 15, .idxA 6 (.t 12) (.t 14), some (7, true)⟩, none), (⟨some 16, .fldA 1 (.t 15), some (7, true)⟩, none), (⟨some 17, .ld 1 false (.t 16), some (7, true)⟩, none), (⟨some 18, .pcall 9 [.t 17], some (7, true)⟩, none), (⟨some 19, .bin .eql (.t 18) (.c (.int .i64 1)), some (7, true)⟩, none), (⟨some 20, .pick (.t 7) (.t 19) (.c (.bool false)), none⟩, none)]) (.cond (.t 20) (.seq (.dreg [(⟨some 21, .mv (.t 0), none⟩, none), (⟨some 22, .fldA 0 (.t 21), none⟩, none), (⟨some 23, .fldA 0 (.t 22), none⟩, none), (⟨some 24, .fldA 3 (.t 3), none⟩, none), (⟨some 25, .ld 1 false (.t 24), none⟩, none), (⟨some 26, .call (.c (.fn 41 [] [])) [.t 23, .t 25], none⟩, (some [25]))]) .ret) .skip)) (.dreg [(⟨some 27, .mv (.t 0), none⟩, none), (⟨some 28, .fldA 0 (.t 27), none⟩, none), (⟨some 29, .fldA 0 (.t 28), none⟩, none), (⟨some 30, .fldA 3 (.t 3), none⟩, none), (⟨some 31, .ld 1 false (.t 30), none⟩, none), (⟨some 32, .pcall 96 [.t 31, .c (.bool false)], none⟩, none), (⟨some 33, .call (.c (.fn 41 [] [])) [.t 29, .t 32], none⟩, (some [31]))])), []⟩
theorem hc72 : toSF Tryd.prog {pure := [9, 96]} Tryd.f72 = some c72 := by kernel_rfl
theorem hn72 : (Tryd.f72.name == "runtime.NumGoroutine") = false := by kernel_rfl
theorem wtext_ok (hG : MaxOK G) (d : HDoc) {x : HNode} (Z : NodeSz x) (hpar : 0 ≤ x.parent → inD d x.parent) {h0 h : Heap} {rb : Nat} {s : List UInt8} (B : WD d h0 rb s h) (hne : s ++ textH d x ≠ []) (hs : s.length ≤ 100000000) :
    DCalls (Pg G) 72 [.vp rb 0, .agg (eNode x)] h fun a h' => a = .tup [] ∧ WD d h0 rb (s ++ textH d x) h' := by
  obtain ⟨p, buf, hat⟩ := B.at
  have hE := escape_ok (G := G) hG x.text false (by have := Z.text; omega)
  have hl := textH_len d Z
  have hW := writeStringE_ok (G := G) (textH d x) B hne (by omega)
  have hR := raw_ok (G := G) (nd d x.parent).name
  by_cases hp : 0 ≤ x.parent
  · have hi := hpar hp
    have i0 := hi.1
    have i1 := hi.2
    have e0 : nth d.nodes x.parent.toNat = nd d x.parent := rfl
    by_cases hr : rawM (nd d x.parent).name = 1
    · have e : textH d x = x.text := if_pos ⟨hp, hr⟩
      rw [e] at hW ⊢
      refine dcalls_of_vc Tryd.func72 hn72 hc72 (by rw [Tryd.ntmps72]; simp) (by rw [Tryd.ntmps72]; decide) ?_
      simp -dsimp -implicitDefEqProofs (disch := omega) only [↓vcOps_sp 7, ↓vcD_sp 7, VCA, pg_gl, ↓upd_none, Nat.reduceEqDiff, Nat.reduceBEq, Nat.reduceAdd, Nat.reduceSub, Nat.reduceMul, Nat.reduceLT, Nat.reduceLeDiff, ↓reduceIte, reduceCtorEq, rsOf, rootsOf, SOp.rd, SI.rd, SX.rd, rdL, rdO, rdP, okParts, eqCells, okEqCells, fillA, okFill, setAt, implies_true, forall_const, forall_eq, ne_eq, exists_eq_right_right, exists_eq_right, exists_eq_left, exists_eq_left', rootL, eAttr, eInt, eBool, lit_eq, c72, eNode, hat]
      repeat' (first | ((with_reducible refine brC (fun _ => ?_) fun _ => ?_) <;> try (exfalso; omega)) | (with_reducible apply pcallE.of; · exact hR) | (with_reducible refine And.intro ?_ ?_; · omega) | simp -dsimp -implicitDefEqProofs (disch := omega) only [↓vcOps_sp 7, ↓vcD_sp 7, VCA, pg_gl, ↓upd_none, Nat.reduceEqDiff, Nat.reduceBEq, Nat.reduceAdd, Nat.reduceSub, Nat.reduceMul, Nat.reduceLT, Nat.reduceLeDiff, ↓reduceIte, reduceCtorEq, rsOf, rootsOf, SOp.rd, SI.rd, SX.rd, rdL, rdO, rdP, okParts, eqCells, okEqCells, fillA, okFill, setAt, implies_true, forall_const, forall_eq, ne_eq, exists_eq_right_right, exists_eq_right, exists_eq_left, exists_eq_left', rootL, eAttr, eInt, eBool, lit_eq, eNode, hat, e0, hr])
      refine DCalls.of hW ?_
      rintro a h2 ⟨rfl, B'⟩
      simp -dsimp -implicitDefEqProofs (disch := omega) only [↓vcOps_sp 7, ↓vcD_sp 7, VCA, pg_gl, ↓upd_none, Nat.reduceEqDiff, Nat.reduceBEq, Nat.reduceAdd, Nat.reduceSub, Nat.reduceMul, Nat.reduceLT, Nat.reduceLeDiff, ↓reduceIte, reduceCtorEq, rsOf, rootsOf, SOp.rd, SI.rd, SX.rd, rdL, rdO, rdP, okParts, eqCells, okEqCells, fillA, okFill, setAt, implies_true, forall_const, forall_eq, ne_eq, exists_eq_right_right, exists_eq_right, exists_eq_left, exists_eq_left', rootL, eAttr, eInt, eBool, lit_eq, eNode]
      exact ⟨_, Sub.refl _, B'⟩
    · have e : textH d x = escD false x.text := if_neg (fun h => hr h.2)
      rw [e] at hW ⊢
      refine dcalls_of_vc Tryd.func72 hn72 hc72 (by rw [Tryd.ntmps72]; simp) (by rw [Tryd.ntmps72]; decide) ?_
      simp -dsimp -implicitDefEqProofs (disch := omega) only [↓vcOps_sp 7, ↓vcD_sp 7, VCA, pg_gl, ↓upd_none, Nat.reduceEqDiff, Nat.reduceBEq, Nat.reduceAdd, Nat.reduceSub, Nat.reduceMul, Nat.reduceLT, Nat.reduceLeDiff, ↓reduceIte, reduceCtorEq, rsOf, rootsOf, SOp.rd, SI.rd, SX.rd, rdL, rdO, rdP, okParts, eqCells, okEqCells, fillA, okFill, setAt, implies_true, forall_const, forall_eq, ne_eq, exists_eq_right_right, exists_eq_right, exists_eq_left, exists_eq_left', rootL, eAttr, eInt, eBool, lit_eq, c72, eNode, hat]
      repeat' (first | ((with_reducible refine brC (fun _ => ?_) fun _ => ?_) <;> try (exfalso; omega)) | (with_reducible apply pcallE.of; · exact hR) | (with_reducible apply pcallE.of; · exact hE) | (with_reducible refine And.intro ?_ ?_; · omega) | simp -dsimp -implicitDefEqProofs (disch := omega) only [↓vcOps_sp 7, ↓vcD_sp 7, VCA, pg_gl, ↓upd_none, Nat.reduceEqDiff, Nat.reduceBEq, Nat.reduceAdd, Nat.reduceSub, Nat.reduceMul, Nat.reduceLT, Nat.reduceLeDiff, ↓reduceIte, reduceCtorEq, rsOf, rootsOf, SOp.rd, SI.rd, SX.rd, rdL, rdO, rdP, okParts, eqCells, okEqCells, fillA, okFill, setAt, implies_true, forall_const, forall_eq, ne_eq, exists_eq_right_right, exists_eq_right, exists_eq_left, exists_eq_left', rootL, eAttr, eInt, eBool, lit_eq, eNode, hat, e0])
      refine DCalls.of hW ?_
      rintro a h2 ⟨rfl, B'⟩
      simp -dsimp -implicitDefEqProofs (disch := omega) only [↓vcOps_sp 7, ↓vcD_sp 7, VCA, pg_gl, ↓upd_none, Nat.reduceEqDiff, Nat.reduceBEq, Nat.reduceAdd, Nat.reduceSub, Nat.reduceMul, Nat.reduceLT, Nat.reduceLeDiff, ↓reduceIte, reduceCtorEq, rsOf, rootsOf, SOp.rd, SI.rd, SX.rd, rdL, rdO, rdP, okParts, eqCells, okEqCells, fillA, okFill, setAt, implies_true, forall_const, forall_eq, ne_eq, exists_eq_right_right, exists_eq_right, exists_eq_left, exists_eq_left', rootL, eAttr, eInt, eBool, lit_eq, eNode]
      exact ⟨_, Sub.refl _, B'⟩
  · have e : textH d x = escD false x.text := if_neg (fun h => hp h.1)
    rw [e] at hW ⊢
    refine dcalls_of_vc Tryd.func72 hn72 hc72 (by rw [Tryd.ntmps72]; simp) (by rw [Tryd.ntmps72]; decide) ?_
    simp -dsimp -implicitDefEqProofs (disch := omega) only [↓vcOps_sp 7, ↓vcD_sp 7, VCA, pg_gl, ↓upd_none, Nat.reduceEqDiff, Nat.reduceBEq, Nat.reduceAdd, Nat.reduceSub, Nat.reduceMul, Nat.reduceLT, Nat.reduceLeDiff, ↓reduceIte, reduceCtorEq, rsOf, rootsOf, SOp.rd, SI.rd, SX.rd, rdL, rdO, rdP, okParts, eqCells, okEqCells, fillA, okFill, setAt, implies_true, forall_const, forall_eq, ne_eq, exists_eq_right_right, exists_eq_right, exists_eq_left, exists_eq_left', rootL, eAttr, eInt, eBool, lit_eq, c72, eNode, hat]
    repeat' (first | ((with_reducible refine brC (fun _ => ?_) fun _ => ?_) <;> try (exfalso; omega)) | (with_reducible apply pcallE.of; · exact hE) | (with_reducible refine And.intro ?_ ?_; · omega) | simp -dsimp -implicitDefEqProofs (disch := omega) only [↓vcOps_sp 7, ↓vcD_sp 7, VCA, pg_gl, ↓upd_none, Nat.reduceEqDiff, Nat.reduceBEq, Nat.reduceAdd, Nat.reduceSub, Nat.reduceMul, Nat.reduceLT, Nat.reduceLeDiff, ↓reduceIte, reduceCtorEq, rsOf, rootsOf, SOp.rd, SI.rd, SX.rd, rdL, rdO, rdP, okParts, eqCells, okEqCells, fillA, okFill, setAt, implies_true, forall_const, forall_eq, ne_eq, exists_eq_right_right, exists_eq_right, exists_eq_left, exists_eq_left', rootL, eAttr, eInt, eBool, lit_eq, eNode, hat])
    refine DCalls.of hW ?_
    rintro a h2 ⟨rfl, B'⟩
    simp -dsimp -implicitDefEqProofs (disch := omega) only [↓vcOps_sp 7, ↓vcD_sp 7, VCA, pg_gl, ↓upd_none, Nat.reduceEqDiff, Nat.reduceBEq, Nat.reduceAdd, Nat.reduceSub, Nat.reduceMul, Nat.reduceLT, Nat.reduceLeDiff, ↓reduceIte, reduceCtorEq, rsOf, rootsOf, SOp.rd, SI.rd, SX.rd, rdL, rdO, rdP, okParts, eqCells, okEqCells, fillA, okFill, setAt, implies_true, forall_const, forall_eq, ne_eq, exists_eq_right_right, exists_eq_right, exists_eq_left, exists_eq_left', rootL, eAttr, eInt, eBool, lit_eq, eNode]
    exact ⟨_, Sub.refl _, B'⟩
def NodeC (G : Glob) (d : HDoc) (n : Int) : Prop := ∀ (h0 h : Heap) (rb : Nat) (s : List UInt8), WD d h0 rb s h → (s ≠ [] ∨ (nd d n).kind ≠ 3) → s.length + (htmlM d n).length ≤ 100000000 →
  DCalls (Pg G) 49 [.vp rb 0, aInt n] h fun a h' => a = .tup [] ∧ WD d h0 rb (s ++ htmlM d n) h'
def c71 : SFun := ⟨.seq (.reg [⟨some 6, .mv (.t 0), none⟩, ⟨some 7, .fldA 0 (.t 6), none⟩, ⟨some 8, .fldA 2 (.t 7), none⟩, ⟨some 9, .fldA 0 (.t 8), none⟩, ⟨some 10, .ld 1 false (.t 9), none⟩, ⟨some 11, .mv (.t 1), none⟩, ⟨some 12, .idxA 6 (.t 10) (.t 11), none⟩, ⟨some 13, .fldA 5 (.t 12), none⟩, ⟨some 14, .ld 1 false (.t 13), none⟩, ⟨some 15, .len (.t 14), none⟩, ⟨some 16, .mv (.c (.int .i64 0)), none⟩]) (.block 0 (.loop (.seq (.reg [⟨some 17, .bin .lss (.t 16) (.t 15), none⟩]) (.seq (.cond (.t 17) .skip (.exit 0)) (.seq (.block 1 (.seq (.reg [⟨some 18, .idxA 1 (.t 14) (.t 16), none⟩, ⟨some 19, .ld 1 false (.t 18), none⟩, ⟨some 5, .mv (.t 19), none⟩]) (.reg [⟨some 20, .mv (.t 0), none⟩, ⟨some 21, .mv (.t 5), none⟩, ⟨some 22, .call (.c (.fn 49 [] [])) [.t 20, .t 21], none⟩]))) (.reg [⟨some 23, .bin .add (.t 16) (.c (.int .i64 1)), none⟩, ⟨some 16, .mv (.t 23), none⟩])))))), []⟩
theorem hc71 : toSF Tryd.prog {} Tryd.f71 = some c71 := by kernel_rfl
theorem hn71 : (Tryd.f71.name == "runtime.NumGoroutine") = false := by kernel_rfl
theorem wkids_ok (d : HDoc) (V : DV d) (n : Int) (hn : inD d n) (ih : ∀ k ∈ (nd d n).kids, NodeC G d k) {h0 h : Heap} {rb : Nat} {s : List UInt8} (B : WD d h0 rb s h) (hc : s ≠ [] ∨ n = 0) (hs : s.length + ((nd d n).kids.flatMap (htmlM d)).length ≤ 100000000) :
    DCalls (Pg G) 71 [.vp rb 0, aInt n] h fun a h' => a = .tup [] ∧ WD d h0 rb (s ++ (nd d n).kids.flatMap (htmlM d)) h' := by
  obtain ⟨p, buf, hat⟩ := B.at
  have i0 := hn.1
  have i1 := hn.2
  have e0 : nth d.nodes n.toNat = nd d n := rfl
  have kl : (nd d n).kids.length ≤ 200 := by
    have := nodup_len d.nodes.length (nd d n).kids (V.nodup n hn) fun k hk => (V.kid n hn k hk).1
    have := V.len; omega
  refine dcalls_of_vc Tryd.func71 hn71 hc71 (by rw [Tryd.ntmps71]; simp) (by rw [Tryd.ntmps71]; decide) ?_
  simp -dsimp -implicitDefEqProofs (disch := omega) only [VCA, pg_gl, ↓upd_none, Nat.reduceEqDiff, Nat.reduceBEq, Nat.reduceAdd, Nat.reduceSub, Nat.reduceMul, Nat.reduceLT, Nat.reduceLeDiff, ↓reduceIte, reduceCtorEq, rsOf, rootsOf, SOp.rd, SI.rd, SX.rd, rdL, rdO, rdP, okParts, eqCells, okEqCells, fillA, okFill, setAt, implies_true, forall_const, forall_eq, ne_eq, exists_eq_right_right, exists_eq_right, exists_eq_left, exists_eq_left', rootL, eAttr, eInt, eBool, lit_eq, c71, hat]
  repeat' (first | ((with_reducible refine brC (fun _ => ?_) fun _ => ?_) <;> try (exfalso; omega)) | (with_reducible refine And.intro ?_ ?_; · omega) | simp -dsimp -implicitDefEqProofs (disch := omega) only [VCA, pg_gl, ↓upd_none, Nat.reduceEqDiff, Nat.reduceBEq, Nat.reduceAdd, Nat.reduceSub, Nat.reduceMul, Nat.reduceLT, Nat.reduceLeDiff, ↓reduceIte, reduceCtorEq, rsOf, rootsOf, SOp.rd, SI.rd, SX.rd, rdL, rdO, rdP, okParts, eqCells, okEqCells, fillA, okFill, setAt, implies_true, forall_const, forall_eq, ne_eq, exists_eq_right_right, exists_eq_right, exists_eq_left, exists_eq_left', rootL, eAttr, eInt, eBool, lit_eq, hat, e0, eNode])
  refine LoopVC.intro (fun m e h' => ∃ k : Nat, k ≤ (nd d n).kids.length ∧ m = (nd d n).kids.length - k ∧ e 0 = .vp rb 0 ∧ e 14 = sl eInt (nd d n).kids ∧ e 15 = aInt (nd d n).kids.length ∧ e 16 = aInt k ∧ WD d h0 rb (s ++ ((nd d n).kids.take k).flatMap (htmlM d)) h') (nd d n).kids.length
    ⟨0, by omega, by omega, rfl, rfl, rfl, rfl, by simpa using B⟩ ?_
  rintro m e h' ⟨k, hk, rfl, e0', e14, e15, e16, B'⟩
  by_cases hlt : k < (nd d n).kids.length
  · obtain ⟨c, hcc⟩ : ∃ c, nth (nd d n).kids k = c := ⟨_, rfl⟩
    have hm : c ∈ (nd d n).kids := hcc ▸ nth_mem' hlt
    have ts : ((nd d n).kids.take (k + 1)).flatMap (htmlM d) = ((nd d n).kids.take k).flatMap (htmlM d) ++ htmlM d c := by
      rw [take_snoc hlt, List.flatMap_append, List.flatMap_cons, List.flatMap_nil, List.append_nil, hcc]
    have hlen : (((nd d n).kids.take (k + 1)).flatMap (htmlM d)).length ≤ ((nd d n).kids.flatMap (htmlM d)).length := by
      conv => rhs; rw [← List.take_append_drop (k + 1) (nd d n).kids, List.flatMap_append, List.length_append]
      omega
    rw [ts, List.length_append] at hlen
    have hN := ih c hm h0 h' rb _ B' (by
      rcases hc with hc | hc
      · exact .inl fun e => hc (List.append_eq_nil_iff.1 e).1
      · subst hc; exact .inr (V.top c hm)) (by rw [List.length_append]; omega)
    repeat' (first | ((with_reducible refine brC (fun _ => ?_) fun _ => ?_) <;> try (exfalso; omega)) | (with_reducible refine And.intro ?_ ?_; · omega) | simp -dsimp -implicitDefEqProofs (disch := omega) only [VCA, pg_gl, ↓upd_none, Nat.reduceEqDiff, Nat.reduceBEq, Nat.reduceAdd, Nat.reduceSub, Nat.reduceMul, Nat.reduceLT, Nat.reduceLeDiff, ↓reduceIte, reduceCtorEq, rsOf, rootsOf, SOp.rd, SI.rd, SX.rd, rdL, rdO, rdP, okParts, eqCells, okEqCells, fillA, okFill, setAt, implies_true, forall_const, forall_eq, ne_eq, exists_eq_right_right, exists_eq_right, exists_eq_left, exists_eq_left', rootL, eAttr, eInt, eBool, lit_eq, e0', e14, e15, e16, hcc])
    refine DCalls.of hN ?_
    rintro a h2 ⟨rfl, B2⟩
    simp -dsimp -implicitDefEqProofs (disch := omega) only [VCA, pg_gl, ↓upd_none, Nat.reduceEqDiff, Nat.reduceBEq, Nat.reduceAdd, Nat.reduceSub, Nat.reduceMul, Nat.reduceLT, Nat.reduceLeDiff, ↓reduceIte, reduceCtorEq, rsOf, rootsOf, SOp.rd, SI.rd, SX.rd, rdL, rdO, rdP, okParts, eqCells, okEqCells, fillA, okFill, setAt, implies_true, forall_const, forall_eq, ne_eq, exists_eq_right_right, exists_eq_right, exists_eq_left, exists_eq_left', rootL, eAttr, eInt, eBool, lit_eq, e0', e14, e15, e16]
    exact ⟨_, by omega, k + 1, by omega, rfl, by omega, by rw [ts, ← List.append_assoc]; exact B2⟩
  · obtain rfl : k = (nd d n).kids.length := by omega
    repeat' (first | ((with_reducible refine brC (fun _ => ?_) fun _ => ?_) <;> try (exfalso; omega)) | (with_reducible refine And.intro ?_ ?_; · omega) | simp -dsimp -implicitDefEqProofs (disch := omega) only [VCA, pg_gl, ↓upd_none, Nat.reduceEqDiff, Nat.reduceBEq, Nat.reduceAdd, Nat.reduceSub, Nat.reduceMul, Nat.reduceLT, Nat.reduceLeDiff, ↓reduceIte, reduceCtorEq, rsOf, rootsOf, SOp.rd, SI.rd, SX.rd, rdL, rdO, rdP, okParts, eqCells, okEqCells, fillA, okFill, setAt, implies_true, forall_const, forall_eq, ne_eq, exists_eq_right_right, exists_eq_right, exists_eq_left, exists_eq_left', rootL, eAttr, eInt, eBool, lit_eq, e0', e14, e15, e16])
    rw [List.take_length] at B'
    exact ⟨_, Sub.refl _, B'⟩
def c73_s6 : SCode := (.seq (.reg [⟨some 104, .mv (.t 0), none⟩, ⟨some 105, .mv (.t 1), none⟩, ⟨some 106, .call (.c (.fn 71 [] [])) [.t 104, .t 105], none⟩]) (.dreg [(⟨some 107, .mv (.t 0), none⟩, none), (⟨some 108, .fldA 0 (.t 107), none⟩, none), (⟨some 109, .fldA 0 (.t 108), none⟩, none), (⟨some 110, .fldA 1 (.t 4), none⟩, none), (⟨some 111, .ld 1 false (.t 110), none⟩, none), (⟨some 112, .bin .add (.c (.str [60, 47])) (.t 111), none⟩, none), (⟨some 113, .bin .add (.t 112) (.c (.str [62])), none⟩, none), (⟨some 114, .call (.c (.fn 41 [] [])) [.t 109, .t 113], none⟩, (some [111]))]))
def c73_s5 : SCode := (.seq (.seq (.dreg [(⟨some 56, .fldA 1 (.t 4), none⟩, none), (⟨some 57, .ld 1 false (.t 56), none⟩, none), (⟨some 58, .bin .eql (.t 57) (.c (.str [112, 114, 101])), none⟩, none), (⟨some 59, .mv (.t 58), none⟩, none), (⟨some 60, .fldA 1 (.t 4), some (59, false)⟩, none), (⟨some 61, .ld 1 false (.t 60), some (59, false)⟩, none), (⟨some 62, .bin .eql (.t 61) (.c (.str [116, 101, 120, 116, 97, 114, 101, 97])), some (59, false)⟩, none), (⟨some 63, .pick (.t 59) (.c (.bool true)) (.t 62), none⟩, none), (⟨some 64, .mv (.t 63), none⟩, none), (⟨some 65, .fldA 5 (.t 4), some (64, true)⟩, none), (⟨some 66, .ld 1 false (.t 65), some (64, true)⟩, none), (⟨some 67, .len (.t 66), some (64, true)⟩, none), (⟨some 68, .bin .gtr (.t 67) (.c (.int .i64 0)), some (64, true)⟩, none), (⟨some 69, .pick (.t 64) (.t 68) (.c (.bool false)), none⟩, none), (⟨some 70, .mv (.t 69), none⟩, none), (⟨some 71, .mv (.t 0), some (70, true)⟩, none), (⟨some 72, .fldA 0 (.t 71), some (70, true)⟩, none), (⟨some 73, .fldA 2 (.t 72), some (70, true)⟩, none), (⟨some 74, .fldA 0 (.t 73), some (70, true)⟩, none), (⟨some 75, .ld 1 false (.t 74), some (70, true)⟩, none), (⟨some 76, .fldA 5 (.t 4), some (70, true)⟩, none), (⟨some 77, .ld 1 false (.t 76), some (70, true)⟩, none), (⟨some 78, .idxA 1 (.t 77) (.c (.int .i64 0)), some (70, true)⟩, none), (⟨some 79, .ld 1 false (.t 78), some (70, true)⟩, none), (⟨some 80, .idxA 6 (.t 75) (.t 79), some (70, true)⟩, none), (⟨some 81, .fldA 3 (.t 80), some (70, true)⟩, none), (⟨some 82, .ld 1 false (.t 81), some (70, true)⟩, none), (⟨some 83, .pcall 18 [.t 82, .c (.str [10])], some (70, true)⟩, none), (⟨some 84, .pick (.t 70) (.t 83) (.c (.bool false)), none⟩, none), (⟨some 85, .mv (.t 84), none⟩, none), (⟨some 86, .mv (.t 0), some (85, true)⟩, none), (⟨some 87, .fldA 0 (.t 86), some (85, true)⟩, none), (⟨some 88, .fldA 2 (.t 87), some (85, true)⟩, none), (⟨some 89, .fldA 0 (.t 88), some (85, true)⟩, none), (⟨some 90, .ld 1 false (.t 89), some (85, true)⟩, none), (⟨some 91, .fldA 5 (.t 4), some (85, true)⟩, none), (⟨some 92, .ld 1 false (.t 91), some (85, true)⟩, none), (⟨some 93, .idxA 1 (.t 92) (.c (.int .i64 0)), some (85, true)⟩, none), (⟨some 94, .ld 1 false (.t 93), some (85, true)⟩, none), (⟨some 95, .idxA 6 (.t 90) (.t 94), some (85, true)⟩, none), (⟨some 96, .fldA 0 (.t 95), some (85, true)⟩, none), (⟨some 97, .ld 1 false (.t 96), some (85, true)⟩, none), (⟨some 98, .bin .eql (.t 97) (.c (.int .i64 3)), some (85, true)⟩, none), (⟨some 99, .pick (.t 85) (.t 98) (.c (.bool false)), none⟩, none)]) (.cond (.t 99) (.reg [⟨some 100, .mv (.t 0), none⟩, ⟨some 101, .fldA 0 (.t 100), none⟩, ⟨some 102, .fldA 0 (.t 101), none⟩, ⟨some 103, .call (.c (.fn 41 [] [])) [.t 102, .c (.str [10])], none⟩]) .skip)) c73_s6)
def c73_s3 : SCode := (.seq (.reg [⟨some 43, .mv (.t 0), none⟩, ⟨some 44, .fldA 0 (.t 43), none⟩, ⟨some 45, .fldA 0 (.t 44), none⟩, ⟨some 46, .call (.c (.fn 41 [] [])) [.t 45, .c (.str [62])], none⟩]) (.seq (.seq (.reg [⟨some 47, .fldA 1 (.t 4), none⟩, ⟨some 48, .ld 1 false (.t 47), none⟩, ⟨some 49, .pcall 97 [.t 48], none⟩, ⟨some 50, .mv (.t 49), none⟩, ⟨some 51, .fldA 5 (.t 4), some (50, true)⟩, ⟨some 52, .ld 1 false (.t 51), some (50, true)⟩, ⟨some 53, .len (.t 52), some (50, true)⟩, ⟨some 54, .bin .eql (.t 53) (.c (.int .i64 0)), some (50, true)⟩, ⟨some 55, .pick (.t 50) (.t 54) (.c (.bool false)), none⟩]) (.cond (.t 55) .ret .skip)) c73_s5))
def c73 : SFun := ⟨.seq (.reg [⟨some 7, .mv (.t 0), none⟩, ⟨some 8, .fldA 0 (.t 7), none⟩, ⟨some 9, .fldA 2 (.t 8), none⟩, ⟨some 10, .fldA 0 (.t 9), none⟩, ⟨some 11, .ld 1 false (.t 10), none⟩, ⟨some 12, .mv (.t 1), none⟩, ⟨some 13, .idxA 6 (.t 11) (.t 12), none⟩, ⟨some 14, .ld 6 true (.t 13), none⟩, ⟨some 4, .new 53 6 [.int .i64 0, .str [], .emp, .str [], .int .i64 0, .emp], none⟩, ⟨none, .st 6 (.t 4) (.t 14), none⟩]) (.seq (.dreg [(⟨some 15, .mv (.t 0), none⟩, none), (⟨some 16, .fldA 0 (.t 15), none⟩, none), (⟨some 17, .fldA 0 (.t 16), none⟩, none), (⟨some 18, .fldA 1 (.t 4), none⟩, none), (⟨some 19, .ld 1 false (.t 18), none⟩, none), (⟨some 20, .bin .add (.c (.str [60])) (.t 19), none⟩, none), (⟨some 21, .call (.c (.fn 41 [] [])) [.t 17, .t 20], none⟩, (some [19]))]) (.seq (.seq (.reg [⟨some 22, .fldA 2 (.t 4), none⟩, ⟨some 23, .ld 1 false (.t 22), none⟩, ⟨some 24, .len (.t 23), none⟩, ⟨some 25, .mv (.c (.int .i64 0)), none⟩]) (.block 0 (.loop (.seq (.reg [⟨some 26, .bin .lss (.t 25) (.t 24), none⟩]) (.seq (.cond (.t 26) .skip (.exit 0)) (.seq (.block 1 (.seq (.reg [⟨some 27, .idxA 2 (.t 23) (.t 25), none⟩, ⟨some 28, .ld 2 true (.t 27), none⟩, ⟨some 6, .new 43 2 [.str [], .str []], none⟩, ⟨none, .st 2 (.t 6) (.t 28), none⟩]) (.dreg [(⟨some 29, .mv (.t 0), none⟩, none), (⟨some 30, .fldA 0 (.t 29), none⟩, none), (⟨some 31, .fldA 0 (.t 30), none⟩, none), (⟨some 32, .fldA 0 (.t 6), none⟩, none), (⟨some 33, .ld 1 false (.t 32), none⟩, none), (⟨some 34, .bin .add (.c (.str [32])) (.t 33), none⟩, none), (⟨some 35, .bin .add (.t 34) (.c (.str [61, 34])), none⟩, none), (⟨some 36, .fldA 1 (.t 6), none⟩, none), (⟨some 37, .ld 1 false (.t 36), none⟩, none), (⟨some 38, .pcall 96 [.t 37, .c (.bool true)], none⟩, none), (⟨some 39, .bin .add (.t 35) (.t 38), none⟩, none), (⟨some 40, .bin .add (.t 39) (.c (.str [34])), none⟩, none), (⟨some 41, .call (.c (.fn 41 [] [])) [.t 31, .t 40], none⟩, (some [33, 37]))]))) (.reg [⟨some 42, .bin .add (.t 25) (.c (.int .i64 1)), none⟩, ⟨some 25, .mv (.t 42), none⟩]))))))) c73_s3)), []⟩
theorem hc73 : toSF Tryd.prog {pure := [96, 97, 18]} Tryd.f73 = some c73 := by kernel_rfl
theorem hn73 : (Tryd.f73.name == "runtime.NumGoroutine") = false := by kernel_rfl
theorem pre1 (s : List UInt8) : hasPre s [10] = (s != [] && bt s 0 == 10) := by
  cases s with
  | nil => rfl
  | cons c r =>
    rw [Bool.eq_iff_iff]
    unfold hasPre bt
    simp
    constructor
    · rintro rfl; rfl
    · intro h
      have : c.toNat = (10 : UInt8).toNat := by simp; omega
      exact UInt8.toNat_inj.1 this
set_option maxHeartbeats 1000000 in
theorem el_last (d : HDoc) (V : DV d) (n : Int) (hn : inD d n) {x : HNode} (hx : nd d n = x) (ih : ∀ k ∈ (nd d n).kids, NodeC G d k) {h0 h : Heap} {rb r4 : Nat} {s : List UInt8} (h4 : h0 r4 = none)
    (B : WD d (upd h0 r4 (some ⟨.t 53, 6, [eNode x]⟩)) rb s h) (hne : s ≠ []) (hs : s.length + (x.kids.flatMap (htmlM d)).length + x.name.length ≤ 100000000) {e : Env} (e0' : e 0 = .vp rb 0) (e1 : e 1 = aInt n) (e4 : e 4 = .vp r4 0) :
    vc (Pg G) c73_s6 (retK [] fun a h' => a = .tup [] ∧ WD d h0 rb (s ++ x.kids.flatMap (htmlM d) ++ (60 :: 47 :: (x.name ++ [62]))) h') e h := by
  have hK := wkids_ok (G := G) d V n hn ih B (.inl hne) (by rw [hx]; omega)
  rw [hx] at hK
  skip
  repeat' (first | ((with_reducible refine brC (fun _ => ?_) fun _ => ?_) <;> try (exfalso; omega)) | (with_reducible refine And.intro ?_ ?_; · omega) | simp -dsimp -implicitDefEqProofs (disch := omega) only [↓vcOps_sp 50, ↓vcD_sp 50, ↓vcOps_sp 59, ↓vcD_sp 59, ↓vcOps_sp 64, ↓vcD_sp 64, ↓vcOps_sp 70, ↓vcD_sp 70, ↓vcOps_sp 85, ↓vcD_sp 85, VCA, pg_gl, ↓upd_none, Nat.reduceEqDiff, Nat.reduceBEq, Nat.reduceAdd, Nat.reduceSub, Nat.reduceMul, Nat.reduceLT, Nat.reduceLeDiff, ↓reduceIte, reduceCtorEq, rsOf, rootsOf, SOp.rd, SI.rd, SX.rd, rdL, rdO, rdP, okParts, eqCells, okEqCells, fillA, okFill, setAt, implies_true, forall_const, forall_eq, ne_eq, exists_eq_right_right, exists_eq_right, exists_eq_left, exists_eq_left', rootL, eAttr, eInt, eBool, lit_eq, c73_s6, e0', e1, e4])
  refine DCalls.of hK ?_
  rintro a h5 ⟨rfl, B5⟩
  have f5 := B5.has
  unfold eNode at f5
  have hW := writeStringE_ok (G := G) (60 :: 47 :: (x.name ++ [62])) B5 (by simp) (by simp only [List.length_append, List.length_cons, List.length_nil]; omega)
  repeat' (first | ((with_reducible refine brC (fun _ => ?_) fun _ => ?_) <;> try (exfalso; omega)) | (with_reducible refine And.intro ?_ ?_; · omega) | simp -dsimp -implicitDefEqProofs (disch := omega) only [↓vcOps_sp 50, ↓vcD_sp 50, ↓vcOps_sp 59, ↓vcD_sp 59, ↓vcOps_sp 64, ↓vcD_sp 64, ↓vcOps_sp 70, ↓vcD_sp 70, ↓vcOps_sp 85, ↓vcD_sp 85, VCA, pg_gl, ↓upd_none, Nat.reduceEqDiff, Nat.reduceBEq, Nat.reduceAdd, Nat.reduceSub, Nat.reduceMul, Nat.reduceLT, Nat.reduceLeDiff, ↓reduceIte, reduceCtorEq, rsOf, rootsOf, SOp.rd, SI.rd, SX.rd, rdL, rdO, rdP, okParts, eqCells, okEqCells, fillA, okFill, setAt, implies_true, forall_const, forall_eq, ne_eq, exists_eq_right_right, exists_eq_right, exists_eq_left, exists_eq_left', rootL, eAttr, eInt, eBool, lit_eq, e0', e1, e4, f5])
  refine DCalls.of hW ?_
  rintro a h7 ⟨rfl, B7⟩
  simp -dsimp -implicitDefEqProofs (disch := omega) only [↓vcOps_sp 50, ↓vcD_sp 50, ↓vcOps_sp 59, ↓vcD_sp 59, ↓vcOps_sp 64, ↓vcD_sp 64, ↓vcOps_sp 70, ↓vcD_sp 70, ↓vcOps_sp 85, ↓vcD_sp 85, VCA, pg_gl, ↓upd_none, Nat.reduceEqDiff, Nat.reduceBEq, Nat.reduceAdd, Nat.reduceSub, Nat.reduceMul, Nat.reduceLT, Nat.reduceLeDiff, ↓reduceIte, reduceCtorEq, rsOf, rootsOf, SOp.rd, SI.rd, SX.rd, rdL, rdO, rdP, okParts, eqCells, okEqCells, fillA, okFill, setAt, implies_true, forall_const, forall_eq, ne_eq, exists_eq_right_right, exists_eq_right, exists_eq_left, exists_eq_left', rootL, eAttr, eInt, eBool, lit_eq, e0', e1, e4]
  exact ⟨_, Sub.refl _, B7.less h4⟩
set_option maxHeartbeats 1000000 in
theorem el_mid (d : HDoc) (V : DV d) (n : Int) (hn : inD d n) {x : HNode} (hx : nd d n = x) (ih : ∀ k ∈ (nd d n).kids, NodeC G d k) {h0 h : Heap} {rb r4 : Nat} {s : List UInt8} (h4 : h0 r4 = none)
    (B : WD d (upd h0 r4 (some ⟨.t 53, 6, [eNode x]⟩)) rb s h) (hne : s ≠ []) (hs : s.length + (x.kids.flatMap (htmlM d)).length + x.name.length ≤ 99999999) {e : Env} (e0' : e 0 = .vp rb 0) (e1 : e 1 = aInt n) (e4 : e 4 = .vp r4 0) :
    vc (Pg G) c73_s5 (retK [] fun a h' => a = .tup [] ∧ WD d h0 rb (s ++ (if lineFirst d x = true then [10] else []) ++ x.kids.flatMap (htmlM d) ++ (60 :: 47 :: (x.name ++ [62]))) h') e h := by
  have f4 := B.has
  unfold eNode at f4
  obtain ⟨p5, buf5, hat⟩ := B.at
  have n4 : ¬ rb = r4 := fun q => by rw [← q, hat] at f4; cases f4
  have hW := writeStringE_ok (G := G) [10] B (by simp) (by simp only [List.length_cons, List.length_nil]; omega)
  have fin : ∀ (b : Bool) (e' : Env), lineFirst d x = b → e' 0 = .vp rb 0 → e' 1 = aInt n → e' 4 = .vp r4 0 → ∀ h', WD d (upd h0 r4 (some ⟨.t 53, 6, [eNode x]⟩)) rb (s ++ (if b = true then [10] else [])) h' →
      vc (Pg G) c73_s6 (retK [] fun a h' => a = .tup [] ∧ WD d h0 rb (s ++ (if lineFirst d x = true then [10] else []) ++ x.kids.flatMap (htmlM d) ++ (60 :: 47 :: (x.name ++ [62]))) h') e' h' := by
    intro b e' hb q0 q1 q4 h' B'
    rw [hb]
    exact el_last d V n hn hx ih h4 B' (fun q => hne (List.append_eq_nil_iff.1 q).1) (by
      rw [List.length_append]
      have : (if b = true then [10] else [] : List UInt8).length ≤ 1 := by split <;> simp
      omega) q0 q1 q4
  have hL : lineFirst d x = ((x.name == [112, 114, 101] || x.name == [116, 101, 120, 116, 97, 114, 101, 97]) && (decide (0 < x.kids.length) && (hasPre (nd d (nth x.kids 0)).text [10] && (nd d (nth x.kids 0)).kind == 3))) := by
    unfold lineFirst
    rw [pre1, show decide (0 < x.kids.length) = decide (x.kids ≠ []) from by rw [decide_eq_decide, List.length_pos_iff]]
    cases (nd d (nth x.kids 0)).kind == 3 <;> simp
  by_cases c1 : x.name = [112, 114, 101] ∨ x.name = [116, 101, 120, 116, 97, 114, 101, 97]
  · by_cases c2 : 0 < x.kids.length
    · obtain ⟨k, hk⟩ : ∃ k, nth x.kids 0 = k := ⟨_, rfl⟩
      have hki := (V.kid n hn k (by rw [hx, ← hk]; exact nth_mem' c2)).1
      have k0 := hki.1
      have k1 := hki.2
      have ek : nth d.nodes k.toNat = nd d k := rfl
      have Zk := nodeE_sz (V.node k hki)
      have hP := hasPre_ok (G := G) (nd d k).text [10] (by have := Zk.text; omega) (by decide)
      rw [hk] at hL
      have c1b : (x.name == [112, 114, 101] || x.name == [116, 101, 120, 116, 97, 114, 101, 97]) = true := by simpa using c1
      rw [c1b, decide_eq_true c2] at hL
      by_cases c3 : hasPre (nd d k).text [10] = true
      · rw [c3] at hL hP
        by_cases c4 : (nd d k).kind = 3
        · have hF : lineFirst d x = true := by rw [hL, c4]; rfl
          skip
          repeat' (first | ((with_reducible refine brC (fun _ => ?_) fun _ => ?_) <;> try (exfalso; omega)) | (with_reducible apply pcallE.of; · exact hP) | (with_reducible refine And.intro ?_ ?_; · omega) | simp -dsimp -implicitDefEqProofs (disch := omega) only [↓vcOps_sp 50, ↓vcD_sp 50, ↓vcOps_sp 59, ↓vcD_sp 59, ↓vcOps_sp 64, ↓vcD_sp 64, ↓vcOps_sp 70, ↓vcD_sp 70, ↓vcOps_sp 85, ↓vcD_sp 85, VCA, pg_gl, ↓upd_none, Nat.reduceEqDiff, Nat.reduceBEq, Nat.reduceAdd, Nat.reduceSub, Nat.reduceMul, Nat.reduceLT, Nat.reduceLeDiff, ↓reduceIte, reduceCtorEq, rsOf, rootsOf, SOp.rd, SI.rd, SX.rd, rdL, rdO, rdP, okParts, eqCells, okEqCells, fillA, okFill, setAt, implies_true, forall_const, forall_eq, ne_eq, exists_eq_right_right, exists_eq_right, exists_eq_left, exists_eq_left', rootL, eAttr, eInt, eBool, lit_eq, c73_s5, e0', e1, e4, f4, hat, hk, ek, c4, eNode])
          all_goals first
            | (refine DCalls.of hW ?_
               rintro a h7 ⟨rfl, B7⟩
               simp -dsimp -implicitDefEqProofs (disch := omega) only [↓vcOps_sp 50, ↓vcD_sp 50, ↓vcOps_sp 59, ↓vcD_sp 59, ↓vcOps_sp 64, ↓vcD_sp 64, ↓vcOps_sp 70, ↓vcD_sp 70, ↓vcOps_sp 85, ↓vcD_sp 85, VCA, pg_gl, ↓upd_none, Nat.reduceEqDiff, Nat.reduceBEq, Nat.reduceAdd, Nat.reduceSub, Nat.reduceMul, Nat.reduceLT, Nat.reduceLeDiff, ↓reduceIte, reduceCtorEq, rsOf, rootsOf, SOp.rd, SI.rd, SX.rd, rdL, rdO, rdP, okParts, eqCells, okEqCells, fillA, okFill, setAt, implies_true, forall_const, forall_eq, ne_eq, exists_eq_right_right, exists_eq_right, exists_eq_left, exists_eq_left', rootL, eAttr, eInt, eBool, lit_eq, e0', e1, e4]
               exact fin true _ hF (by simp [upd, e0']) (by simp [upd, e1]) (by simp [upd, e4]) _ (by simpa using B7))
            | (exfalso; simp_all; done)
        · have hF : lineFirst d x = false := by rw [hL]; simpa using c4
          have c4b : ((nd d k).kind == 3) = false := by simpa using c4
          skip
          repeat' (first | ((with_reducible refine brC (fun _ => ?_) fun _ => ?_) <;> try (exfalso; omega)) | (with_reducible apply pcallE.of; · exact hP) | (with_reducible refine And.intro ?_ ?_; · omega) | simp -dsimp -implicitDefEqProofs (disch := omega) only [↓vcOps_sp 50, ↓vcD_sp 50, ↓vcOps_sp 59, ↓vcD_sp 59, ↓vcOps_sp 64, ↓vcD_sp 64, ↓vcOps_sp 70, ↓vcD_sp 70, ↓vcOps_sp 85, ↓vcD_sp 85, VCA, pg_gl, ↓upd_none, Nat.reduceEqDiff, Nat.reduceBEq, Nat.reduceAdd, Nat.reduceSub, Nat.reduceMul, Nat.reduceLT, Nat.reduceLeDiff, ↓reduceIte, reduceCtorEq, rsOf, rootsOf, SOp.rd, SI.rd, SX.rd, rdL, rdO, rdP, okParts, eqCells, okEqCells, fillA, okFill, setAt, implies_true, forall_const, forall_eq, ne_eq, exists_eq_right_right, exists_eq_right, exists_eq_left, exists_eq_left', rootL, eAttr, eInt, eBool, lit_eq, c73_s5, e0', e1, e4, f4, hat, hk, ek, c4b, eNode])
          all_goals first
      | (refine fin false _ hF ?_ ?_ ?_ _ (by simpa using B) <;> first | (simp [upd, e0']; done) | (simp [upd, e1]; done) | (simp [upd, e4]; done))
      | (exfalso; simp_all; done)
      · have c3 : hasPre (nd d k).text [10] = false := by simpa using c3
        rw [c3] at hL hP
        have hF : lineFirst d x = false := by rw [hL]; rfl
        skip
        repeat' (first | ((with_reducible refine brC (fun _ => ?_) fun _ => ?_) <;> try (exfalso; omega)) | (with_reducible apply pcallE.of; · exact hP) | (with_reducible refine And.intro ?_ ?_; · omega) | simp -dsimp -implicitDefEqProofs (disch := omega) only [↓vcOps_sp 50, ↓vcD_sp 50, ↓vcOps_sp 59, ↓vcD_sp 59, ↓vcOps_sp 64, ↓vcD_sp 64, ↓vcOps_sp 70, ↓vcD_sp 70, ↓vcOps_sp 85, ↓vcD_sp 85, VCA, pg_gl, ↓upd_none, Nat.reduceEqDiff, Nat.reduceBEq, Nat.reduceAdd, Nat.reduceSub, Nat.reduceMul, Nat.reduceLT, Nat.reduceLeDiff, ↓reduceIte, reduceCtorEq, rsOf, rootsOf, SOp.rd, SI.rd, SX.rd, rdL, rdO, rdP, okParts, eqCells, okEqCells, fillA, okFill, setAt, implies_true, forall_const, forall_eq, ne_eq, exists_eq_right_right, exists_eq_right, exists_eq_left, exists_eq_left', rootL, eAttr, eInt, eBool, lit_eq, c73_s5, e0', e1, e4, f4, hat, hk, ek, eNode])
        all_goals first
      | (refine fin false _ hF ?_ ?_ ?_ _ (by simpa using B) <;> first | (simp [upd, e0']; done) | (simp [upd, e1]; done) | (simp [upd, e4]; done))
      | (exfalso; simp_all; done)
    · have hF : lineFirst d x = false := by rw [hL, decide_eq_false c2]; simp
      have hP := hasPre_ok (G := G) [] [10] (by decide) (by decide)
      skip
      repeat' (first | ((with_reducible refine brC (fun _ => ?_) fun _ => ?_) <;> try (exfalso; omega)) | (with_reducible apply pcallE.of; · exact hP) | (with_reducible refine And.intro ?_ ?_; · omega) | simp -dsimp -implicitDefEqProofs (disch := omega) only [↓vcOps_sp 50, ↓vcD_sp 50, ↓vcOps_sp 59, ↓vcD_sp 59, ↓vcOps_sp 64, ↓vcD_sp 64, ↓vcOps_sp 70, ↓vcD_sp 70, ↓vcOps_sp 85, ↓vcD_sp 85, VCA, pg_gl, ↓upd_none, Nat.reduceEqDiff, Nat.reduceBEq, Nat.reduceAdd, Nat.reduceSub, Nat.reduceMul, Nat.reduceLT, Nat.reduceLeDiff, ↓reduceIte, reduceCtorEq, rsOf, rootsOf, SOp.rd, SI.rd, SX.rd, rdL, rdO, rdP, okParts, eqCells, okEqCells, fillA, okFill, setAt, implies_true, forall_const, forall_eq, ne_eq, exists_eq_right_right, exists_eq_right, exists_eq_left, exists_eq_left', rootL, eAttr, eInt, eBool, lit_eq, c73_s5, e0', e1, e4, f4, hat, eNode])
      all_goals first
      | (refine fin false _ hF ?_ ?_ ?_ _ (by simpa using B) <;> first | (simp [upd, e0']; done) | (simp [upd, e1]; done) | (simp [upd, e4]; done))
      | (exfalso; simp_all; done)
  · have c1b : (x.name == [112, 114, 101] || x.name == [116, 101, 120, 116, 97, 114, 101, 97]) = false := by simpa using c1
    have hF : lineFirst d x = false := by rw [hL, c1b]; simp
    have hP := hasPre_ok (G := G) [] [10] (by decide) (by decide)
    skip
    repeat' (first | ((with_reducible refine brC (fun _ => ?_) fun _ => ?_) <;> try (exfalso; omega)) | (with_reducible apply pcallE.of; · exact hP) | (with_reducible refine And.intro ?_ ?_; · omega) | simp -dsimp -implicitDefEqProofs (disch := omega) only [↓vcOps_sp 50, ↓vcD_sp 50, ↓vcOps_sp 59, ↓vcD_sp 59, ↓vcOps_sp 64, ↓vcD_sp 64, ↓vcOps_sp 70, ↓vcD_sp 70, ↓vcOps_sp 85, ↓vcD_sp 85, VCA, pg_gl, ↓upd_none, Nat.reduceEqDiff, Nat.reduceBEq, Nat.reduceAdd, Nat.reduceSub, Nat.reduceMul, Nat.reduceLT, Nat.reduceLeDiff, ↓reduceIte, reduceCtorEq, rsOf, rootsOf, SOp.rd, SI.rd, SX.rd, rdL, rdO, rdP, okParts, eqCells, okEqCells, fillA, okFill, setAt, implies_true, forall_const, forall_eq, ne_eq, exists_eq_right_right, exists_eq_right, exists_eq_left, exists_eq_left', rootL, eAttr, eInt, eBool, lit_eq, c73_s5, e0', e1, e4, f4, hat, eNode])
    all_goals first
      | (refine fin false _ hF ?_ ?_ ?_ _ (by simpa using B) <;> first | (simp [upd, e0']; done) | (simp [upd, e1]; done) | (simp [upd, e4]; done))
      | (exfalso; simp_all; done)
theorem openH_app (x : HNode) (s : List UInt8) : s ++ (60 :: x.name) ++ x.attrs.flatMap attrH ++ [62] = s ++ openH x := by
  unfold openH; simp
set_option maxHeartbeats 1000000 in
theorem el_end (hG : MaxOK G) (d : HDoc) (V : DV d) (n : Int) (hn : inD d n) {x : HNode} (hx : nd d n = x) (h2 : x.kind = 2) (ih : ∀ k ∈ (nd d n).kids, NodeC G d k) {h0 h : Heap} {rb r4 : Nat} {s : List UInt8} (h4 : h0 r4 = none)
    (B : WD d (upd h0 r4 (some ⟨.t 53, 6, [eNode x]⟩)) rb (s ++ (60 :: x.name) ++ x.attrs.flatMap attrH) h) (hs : s.length + (htmlM d n).length ≤ 100000000) {e : Env} (e0' : e 0 = .vp rb 0) (e1 : e 1 = aInt n) (e4 : e 4 = .vp r4 0) :
    vc (Pg G) c73_s3 (retK [] fun a h' => a = .tup [] ∧ WD d h0 rb (s ++ htmlM d n) h') e h := by
  have Z := nodeE_sz (V.node n hn)
  have he := html_eq V hn
  rw [hx] at Z he
  have z1 := Z.name
  have f4 := B.has
  unfold eNode at f4
  have hoa := openH_app x s
  have hoL : (openH x).length ≤ 40000 := by
    unfold openH
    have := flat_le (f := attrH) (k := 2500) x.attrs fun a ha => by
      have h1 := Z.each a ha
      have h2 := esc_len true _ a.value (Nat.le_refl _)
      unfold attrH
      simp only [List.length_append, List.length_cons, List.length_nil]
      omega
    have := Z.attrs
    simp only [List.length_append, List.length_cons, List.length_nil]
    omega
  have hW := writeStringE_ok (G := G) [62] B (by simp) (by
    have := congrArg List.length hoa
    simp only [List.length_append, List.length_cons, List.length_nil] at this ⊢; omega)
  have hV := void_ok (G := G) hG x.name (by omega)
  have hnz : openH x ≠ [] := by unfold openH; simp
  skip
  repeat' (first | ((with_reducible refine brC (fun _ => ?_) fun _ => ?_) <;> try (exfalso; omega)) | (with_reducible refine And.intro ?_ ?_; · omega) | simp -dsimp -implicitDefEqProofs (disch := omega) only [↓vcOps_sp 50, ↓vcD_sp 50, ↓vcOps_sp 59, ↓vcD_sp 59, ↓vcOps_sp 64, ↓vcD_sp 64, ↓vcOps_sp 70, ↓vcD_sp 70, ↓vcOps_sp 85, ↓vcD_sp 85, VCA, pg_gl, ↓upd_none, Nat.reduceEqDiff, Nat.reduceBEq, Nat.reduceAdd, Nat.reduceSub, Nat.reduceMul, Nat.reduceLT, Nat.reduceLeDiff, ↓reduceIte, reduceCtorEq, rsOf, rootsOf, SOp.rd, SI.rd, SX.rd, rdL, rdO, rdP, okParts, eqCells, okEqCells, fillA, okFill, setAt, implies_true, forall_const, forall_eq, ne_eq, exists_eq_right_right, exists_eq_right, exists_eq_left, exists_eq_left', rootL, eAttr, eInt, eBool, lit_eq, c73_s3, e0', e1, e4])
  refine DCalls.of hW ?_
  rintro a h5 ⟨rfl, B5⟩
  rw [hoa] at B5
  have f5 := B5.has
  unfold eNode at f5
  obtain ⟨p5, buf5, hat5⟩ := B5.at
  have eH : htmlM d n = if inW x.name voidS = true ∧ x.kids = [] then openH x else openH x ++ (if lineFirst d x = true then [10] else []) ++ x.kids.flatMap (htmlM d) ++ [60, 47] ++ x.name ++ [62] := by
    rw [he]; unfold htG
    rw [if_neg (by omega), if_neg (by omega), if_neg (by omega), if_neg (by omega)]
  by_cases hv : inW x.name voidS = true
  · by_cases hk : x.kids = []
    · rw [if_pos ⟨hv, hk⟩] at eH
      rw [hv] at hV
      rw [eH]
      repeat' (first | ((with_reducible refine brC (fun _ => ?_) fun _ => ?_) <;> try (exfalso; omega)) | (with_reducible apply pcallE.of; · exact hV) | (with_reducible refine And.intro ?_ ?_; · omega) | simp -dsimp -implicitDefEqProofs (disch := omega) only [↓vcOps_sp 50, ↓vcD_sp 50, ↓vcOps_sp 59, ↓vcD_sp 59, ↓vcOps_sp 64, ↓vcD_sp 64, ↓vcOps_sp 70, ↓vcD_sp 70, ↓vcOps_sp 85, ↓vcD_sp 85, VCA, pg_gl, ↓upd_none, Nat.reduceEqDiff, Nat.reduceBEq, Nat.reduceAdd, Nat.reduceSub, Nat.reduceMul, Nat.reduceLT, Nat.reduceLeDiff, ↓reduceIte, reduceCtorEq, rsOf, rootsOf, SOp.rd, SI.rd, SX.rd, rdL, rdO, rdP, okParts, eqCells, okEqCells, fillA, okFill, setAt, implies_true, forall_const, forall_eq, ne_eq, exists_eq_right_right, exists_eq_right, exists_eq_left, exists_eq_left', rootL, eAttr, eInt, eBool, lit_eq, e0', e1, e4, f5, hk])
      exact ⟨_, Sub.refl _, B5.less h4⟩
    · rw [if_neg (fun h => hk h.2)] at eH
      rw [hv] at hV
      have hkp : 0 < x.kids.length := List.length_pos_iff.2 hk
      rw [eH]
      have hs' := hs
      rw [eH] at hs'
      have hmid : ∀ e' : Env, e' 0 = .vp rb 0 → e' 1 = aInt n → e' 4 = .vp r4 0 → vc (Pg G) c73_s5 (retK [] fun a h' => a = .tup [] ∧ WD d h0 rb (s ++ (openH x ++ (if lineFirst d x = true then [10] else []) ++ x.kids.flatMap (htmlM d) ++ [60, 47] ++ x.name ++ [62])) h') e' h5 := fun e' q0 q1 q4 => by
        have := el_mid d V n hn hx ih h4 B5 (fun q => hnz (List.append_eq_nil_iff.1 q).2) (by
          simp only [List.length_append, List.length_cons, List.length_nil] at hs' ⊢; omega) q0 q1 q4
        simpa using this
      repeat' (first | ((with_reducible refine brC (fun _ => ?_) fun _ => ?_) <;> try (exfalso; omega)) | (with_reducible apply pcallE.of; · exact hV) | (with_reducible refine And.intro ?_ ?_; · omega) | simp -dsimp -implicitDefEqProofs (disch := omega) only [↓vcOps_sp 50, ↓vcD_sp 50, ↓vcOps_sp 59, ↓vcD_sp 59, ↓vcOps_sp 64, ↓vcD_sp 64, ↓vcOps_sp 70, ↓vcD_sp 70, ↓vcOps_sp 85, ↓vcD_sp 85, VCA, pg_gl, ↓upd_none, Nat.reduceEqDiff, Nat.reduceBEq, Nat.reduceAdd, Nat.reduceSub, Nat.reduceMul, Nat.reduceLT, Nat.reduceLeDiff, ↓reduceIte, reduceCtorEq, rsOf, rootsOf, SOp.rd, SI.rd, SX.rd, rdL, rdO, rdP, okParts, eqCells, okEqCells, fillA, okFill, setAt, implies_true, forall_const, forall_eq, ne_eq, exists_eq_right_right, exists_eq_right, exists_eq_left, exists_eq_left', rootL, eAttr, eInt, eBool, lit_eq, e0', e1, e4, f5, lenp, hk])
      all_goals (refine hmid _ ?_ ?_ ?_ <;> first | (simp [upd, e0']; done) | (simp [upd, e1]; done) | (simp [upd, e4]; done))
  · have hv : inW x.name voidS = false := by simpa using hv
    rw [if_neg (fun h => by rw [hv] at h; cases h.1)] at eH
    rw [hv] at hV
    rw [eH]
    have hs' := hs
    rw [eH] at hs'
    have hmid : ∀ e' : Env, e' 0 = .vp rb 0 → e' 1 = aInt n → e' 4 = .vp r4 0 → vc (Pg G) c73_s5 (retK [] fun a h' => a = .tup [] ∧ WD d h0 rb (s ++ (openH x ++ (if lineFirst d x = true then [10] else []) ++ x.kids.flatMap (htmlM d) ++ [60, 47] ++ x.name ++ [62])) h') e' h5 := fun e' q0 q1 q4 => by
      have := el_mid d V n hn hx ih h4 B5 (fun q => hnz (List.append_eq_nil_iff.1 q).2) (by
        simp only [List.length_append, List.length_cons, List.length_nil] at hs' ⊢; omega) q0 q1 q4
      simpa using this
    repeat' (first | ((with_reducible refine brC (fun _ => ?_) fun _ => ?_) <;> try (exfalso; omega)) | (with_reducible apply pcallE.of; · exact hV) | (with_reducible refine And.intro ?_ ?_; · omega) | simp -dsimp -implicitDefEqProofs (disch := omega) only [↓vcOps_sp 50, ↓vcD_sp 50, ↓vcOps_sp 59, ↓vcD_sp 59, ↓vcOps_sp 64, ↓vcD_sp 64, ↓vcOps_sp 70, ↓vcD_sp 70, ↓vcOps_sp 85, ↓vcD_sp 85, VCA, pg_gl, ↓upd_none, Nat.reduceEqDiff, Nat.reduceBEq, Nat.reduceAdd, Nat.reduceSub, Nat.reduceMul, Nat.reduceLT, Nat.reduceLeDiff, ↓reduceIte, reduceCtorEq, rsOf, rootsOf, SOp.rd, SI.rd, SX.rd, rdL, rdO, rdP, okParts, eqCells, okEqCells, fillA, okFill, setAt, implies_true, forall_const, forall_eq, ne_eq, exists_eq_right_right, exists_eq_right, exists_eq_left, exists_eq_left', rootL, eAttr, eInt, eBool, lit_eq, e0', e1, e4, f5])
    all_goals (refine hmid _ ?_ ?_ ?_ <;> first | (simp [upd, e0']; done) | (simp [upd, e1]; done) | (simp [upd, e4]; done))
set_option maxHeartbeats 1000000 in
theorem welement_ok (hG : MaxOK G) (d : HDoc) (V : DV d) (n : Int) (hn : inD d n) (h2 : (nd d n).kind = 2) (ih : ∀ k ∈ (nd d n).kids, NodeC G d k) {h0 h : Heap} {rb : Nat} {s : List UInt8} (B : WD d h0 rb s h) (hs : s.length + (htmlM d n).length ≤ 100000000) :
    DCalls (Pg G) 73 [.vp rb 0, aInt n] h fun a h' => a = .tup [] ∧ WD d h0 rb (s ++ htmlM d n) h' := by
  obtain ⟨p, buf, hat⟩ := B.at
  have i0 := hn.1
  have i1 := hn.2
  have e0 : nth d.nodes n.toNat = nd d n := rfl
  have Z := nodeE_sz (V.node n hn)
  have he := html_eq V hn
  obtain ⟨x, hx⟩ : ∃ x, nd d n = x := ⟨_, rfl⟩
  rw [hx] at e0 Z he h2
  have z1 := Z.name
  have z5 := Z.attrs
  have hle : (openH x).length ≤ 40000 := by
    unfold openH
    have := flat_le (f := attrH) (k := 2500) x.attrs fun a ha => by
      have h1 := Z.each a ha
      have h2 := esc_len true _ a.value (Nat.le_refl _)
      unfold attrH
      simp only [List.length_append, List.length_cons, List.length_nil]
      omega
    simp only [List.length_append, List.length_cons, List.length_nil]
    omega
  refine dcalls_of_vc Tryd.func73 hn73 hc73 (by rw [Tryd.ntmps73]; simp) (by rw [Tryd.ntmps73]; decide) ?_
  simp -dsimp -implicitDefEqProofs (disch := omega) only [↓vcOps_sp 50, ↓vcD_sp 50, ↓vcOps_sp 59, ↓vcD_sp 59, ↓vcOps_sp 64, ↓vcD_sp 64, ↓vcOps_sp 70, ↓vcD_sp 70, ↓vcOps_sp 85, ↓vcD_sp 85, VCA, pg_gl, ↓upd_none, Nat.reduceEqDiff, Nat.reduceBEq, Nat.reduceAdd, Nat.reduceSub, Nat.reduceMul, Nat.reduceLT, Nat.reduceLeDiff, ↓reduceIte, reduceCtorEq, rsOf, rootsOf, SOp.rd, SI.rd, SX.rd, rdL, rdO, rdP, okParts, eqCells, okEqCells, fillA, okFill, setAt, implies_true, forall_const, forall_eq, ne_eq, exists_eq_right_right, exists_eq_right, exists_eq_left, exists_eq_left', rootL, eAttr, eInt, eBool, lit_eq, c73, hat]
  repeat' (first | ((with_reducible refine brC (fun _ => ?_) fun _ => ?_) <;> try (exfalso; omega)) | (with_reducible refine And.intro ?_ ?_; · omega) | simp -dsimp -implicitDefEqProofs (disch := omega) only [↓vcOps_sp 50, ↓vcD_sp 50, ↓vcOps_sp 59, ↓vcD_sp 59, ↓vcOps_sp 64, ↓vcD_sp 64, ↓vcOps_sp 70, ↓vcD_sp 70, ↓vcOps_sp 85, ↓vcD_sp 85, VCA, pg_gl, ↓upd_none, Nat.reduceEqDiff, Nat.reduceBEq, Nat.reduceAdd, Nat.reduceSub, Nat.reduceMul, Nat.reduceLT, Nat.reduceLeDiff, ↓reduceIte, reduceCtorEq, rsOf, rootsOf, SOp.rd, SI.rd, SX.rd, rdL, rdO, rdP, okParts, eqCells, okEqCells, fillA, okFill, setAt, implies_true, forall_const, forall_eq, ne_eq, exists_eq_right_right, exists_eq_right, exists_eq_left, exists_eq_left', rootL, eAttr, eInt, eBool, lit_eq, hat, e0, eNode])
  intro r4 hr4
  have n4 : ¬ rb = r4 := fun e => by rw [← e, hat] at hr4; cases hr4
  have n4' : ¬ r4 = rb := fun e => n4 e.symm
  have B4 := B.more hr4 ⟨53, 6, [eNode x]⟩
  have hW := writeStringE_ok (G := G) (60 :: x.name) B4 (by simp) (by simp; omega)
  have h4 := B.free hr4
  repeat' (first | ((with_reducible refine brC (fun _ => ?_) fun _ => ?_) <;> try (exfalso; omega)) | (with_reducible refine And.intro ?_ ?_; · omega) | simp -dsimp -implicitDefEqProofs (disch := omega) only [↓vcOps_sp 50, ↓vcD_sp 50, ↓vcOps_sp 59, ↓vcD_sp 59, ↓vcOps_sp 64, ↓vcD_sp 64, ↓vcOps_sp 70, ↓vcD_sp 70, ↓vcOps_sp 85, ↓vcD_sp 85, VCA, pg_gl, ↓upd_none, Nat.reduceEqDiff, Nat.reduceBEq, Nat.reduceAdd, Nat.reduceSub, Nat.reduceMul, Nat.reduceLT, Nat.reduceLeDiff, ↓reduceIte, reduceCtorEq, rsOf, rootsOf, SOp.rd, SI.rd, SX.rd, rdL, rdO, rdP, okParts, eqCells, okEqCells, fillA, okFill, setAt, implies_true, forall_const, forall_eq, ne_eq, exists_eq_right_right, exists_eq_right, exists_eq_left, exists_eq_left', rootL, eAttr, eInt, eBool, lit_eq, hat, e0, eNode, upd_same, n4, n4'])
  refine DCalls.of hW ?_
  rintro a h5 ⟨rfl, B5⟩
  have f4 := B5.has
  unfold eNode at f4
  simp -dsimp -implicitDefEqProofs (disch := omega) only [↓vcOps_sp 50, ↓vcD_sp 50, ↓vcOps_sp 59, ↓vcD_sp 59, ↓vcOps_sp 64, ↓vcD_sp 64, ↓vcOps_sp 70, ↓vcD_sp 70, ↓vcOps_sp 85, ↓vcD_sp 85, VCA, pg_gl, ↓upd_none, Nat.reduceEqDiff, Nat.reduceBEq, Nat.reduceAdd, Nat.reduceSub, Nat.reduceMul, Nat.reduceLT, Nat.reduceLeDiff, ↓reduceIte, reduceCtorEq, rsOf, rootsOf, SOp.rd, SI.rd, SX.rd, rdL, rdO, rdP, okParts, eqCells, okEqCells, fillA, okFill, setAt, implies_true, forall_const, forall_eq, ne_eq, exists_eq_right_right, exists_eq_right, exists_eq_left, exists_eq_left', rootL, eAttr, eInt, eBool, lit_eq, hat, e0, eNode, f4]
  refine LoopVC.intro (fun m e h' => ∃ k : Nat, k ≤ x.attrs.length ∧ m = x.attrs.length - k ∧ e 0 = .vp rb 0 ∧ e 1 = aInt n ∧ e 4 = .vp r4 0 ∧ e 23 = sl eAttr x.attrs ∧ e 24 = aInt x.attrs.length ∧ e 25 = aInt k ∧
      WD d (upd h0 r4 (some ⟨.t 53, 6, [eNode x]⟩)) rb (s ++ (60 :: x.name) ++ (x.attrs.take k).flatMap attrH) h') x.attrs.length
    ⟨0, by omega, by omega, rfl, rfl, rfl, rfl, rfl, rfl, by simpa using B5⟩ ?_
  rintro m e h' ⟨k, hk, rfl, e0', e1, e4, e23, e24, e25, B'⟩
  have f4' := B'.has
  unfold eNode at f4'
  obtain ⟨p', buf', hat'⟩ := B'.at
  by_cases hlt : k < x.attrs.length
  · obtain ⟨c, hcc⟩ : ∃ c, nth x.attrs k = c := ⟨_, rfl⟩
    have hm : c ∈ x.attrs := hcc ▸ nth_mem' hlt
    have zc := Z.each c hm
    have ts : (x.attrs.take (k + 1)).flatMap attrH = (x.attrs.take k).flatMap attrH ++ attrH c := by
      rw [take_snoc hlt, List.flatMap_append, List.flatMap_cons, List.flatMap_nil, List.append_nil, hcc]
    have hE := escape_ok (G := G) hG c.value true (by omega)
    have hEl := esc_len true _ c.value (Nat.le_refl _)
    have hfl := flat_le (f := attrH) (k := 2500) (x.attrs.take k) fun a ha => by
      have h1 := Z.each a (List.mem_of_mem_take ha)
      have h2 := esc_len true _ a.value (Nat.le_refl _)
      unfold attrH
      simp only [List.length_append, List.length_cons, List.length_nil]
      omega
    rw [List.length_take] at hfl
    repeat' (first | ((with_reducible refine brC (fun _ => ?_) fun _ => ?_) <;> try (exfalso; omega)) | (with_reducible refine And.intro ?_ ?_; · omega) | simp -dsimp -implicitDefEqProofs (disch := omega) only [↓vcOps_sp 50, ↓vcD_sp 50, ↓vcOps_sp 59, ↓vcD_sp 59, ↓vcOps_sp 64, ↓vcD_sp 64, ↓vcOps_sp 70, ↓vcD_sp 70, ↓vcOps_sp 85, ↓vcD_sp 85, VCA, pg_gl, ↓upd_none, Nat.reduceEqDiff, Nat.reduceBEq, Nat.reduceAdd, Nat.reduceSub, Nat.reduceMul, Nat.reduceLT, Nat.reduceLeDiff, ↓reduceIte, reduceCtorEq, rsOf, rootsOf, SOp.rd, SI.rd, SX.rd, rdL, rdO, rdP, okParts, eqCells, okEqCells, fillA, okFill, setAt, implies_true, forall_const, forall_eq, ne_eq, exists_eq_right_right, exists_eq_right, exists_eq_left, exists_eq_left', rootL, eAttr, eInt, eBool, lit_eq, e0', e1, e4, e23, e24, e25, hcc, eAttr])
    intro r6 hr6
    have n6 : ¬ rb = r6 := fun q => by rw [← q, hat'] at hr6; cases hr6
    have n6' : ¬ r6 = rb := fun q => n6 q.symm
    have B6 := B'.more hr6 ⟨43, 2, [eAttr c]⟩
    have h6 := B'.free hr6
    have hal : (attrH c).length ≤ 2500 := by
      unfold attrH
      simp only [List.length_append, List.length_cons, List.length_nil]
      omega
    have hW6 := writeStringE_ok (G := G) (attrH c) B6 (by simp) (by simp only [List.length_append, List.length_cons]; omega)
    have ea : attrH c = 32 :: (c.name ++ [61, 34]) ++ escD true c.value ++ [34] := by unfold attrH; simp
    rw [ea] at hW6
    repeat' (first | ((with_reducible refine brC (fun _ => ?_) fun _ => ?_) <;> try (exfalso; omega)) | (with_reducible apply pcallE.of; · exact hE) | (with_reducible refine And.intro ?_ ?_; · omega) | simp -dsimp -implicitDefEqProofs (disch := omega) only [↓vcOps_sp 50, ↓vcD_sp 50, ↓vcOps_sp 59, ↓vcD_sp 59, ↓vcOps_sp 64, ↓vcD_sp 64, ↓vcOps_sp 70, ↓vcD_sp 70, ↓vcOps_sp 85, ↓vcD_sp 85, VCA, pg_gl, ↓upd_none, Nat.reduceEqDiff, Nat.reduceBEq, Nat.reduceAdd, Nat.reduceSub, Nat.reduceMul, Nat.reduceLT, Nat.reduceLeDiff, ↓reduceIte, reduceCtorEq, rsOf, rootsOf, SOp.rd, SI.rd, SX.rd, rdL, rdO, rdP, okParts, eqCells, okEqCells, fillA, okFill, setAt, implies_true, forall_const, forall_eq, ne_eq, exists_eq_right_right, exists_eq_right, exists_eq_left, exists_eq_left', rootL, eAttr, eInt, eBool, lit_eq, e0', e1, e4, e23, e24, e25, hcc, eAttr, upd_same, n6, n6'])
    refine ⟨by simp only [List.length_append, List.length_cons, List.length_nil]; omega, by simp only [List.length_append, List.length_cons, List.length_nil]; omega, DCalls.of hW6 ?_⟩
    rintro a h7 ⟨rfl, B7⟩
    simp -dsimp -implicitDefEqProofs (disch := omega) only [↓vcOps_sp 50, ↓vcD_sp 50, ↓vcOps_sp 59, ↓vcD_sp 59, ↓vcOps_sp 64, ↓vcD_sp 64, ↓vcOps_sp 70, ↓vcD_sp 70, ↓vcOps_sp 85, ↓vcD_sp 85, VCA, pg_gl, ↓upd_none, Nat.reduceEqDiff, Nat.reduceBEq, Nat.reduceAdd, Nat.reduceSub, Nat.reduceMul, Nat.reduceLT, Nat.reduceLeDiff, ↓reduceIte, reduceCtorEq, rsOf, rootsOf, SOp.rd, SI.rd, SX.rd, rdL, rdO, rdP, okParts, eqCells, okEqCells, fillA, okFill, setAt, implies_true, forall_const, forall_eq, ne_eq, exists_eq_right_right, exists_eq_right, exists_eq_left, exists_eq_left', rootL, eAttr, eInt, eBool, lit_eq, e0', e1, e4, e23, e24, e25]
    exact ⟨_, by omega, k + 1, by omega, rfl, by omega, by rw [ts, ← List.append_assoc, ea]; exact B7.less h6⟩
  · obtain rfl : k = x.attrs.length := by omega
    rw [List.take_length] at B'
    repeat' (first | ((with_reducible refine brC (fun _ => ?_) fun _ => ?_) <;> try (exfalso; omega)) | (with_reducible refine And.intro ?_ ?_; · omega) | simp -dsimp -implicitDefEqProofs (disch := omega) only [↓vcOps_sp 50, ↓vcD_sp 50, ↓vcOps_sp 59, ↓vcD_sp 59, ↓vcOps_sp 64, ↓vcD_sp 64, ↓vcOps_sp 70, ↓vcD_sp 70, ↓vcOps_sp 85, ↓vcD_sp 85, VCA, pg_gl, ↓upd_none, Nat.reduceEqDiff, Nat.reduceBEq, Nat.reduceAdd, Nat.reduceSub, Nat.reduceMul, Nat.reduceLT, Nat.reduceLeDiff, ↓reduceIte, reduceCtorEq, rsOf, rootsOf, SOp.rd, SI.rd, SX.rd, rdL, rdO, rdP, okParts, eqCells, okEqCells, fillA, okFill, setAt, implies_true, forall_const, forall_eq, ne_eq, exists_eq_right_right, exists_eq_right, exists_eq_left, exists_eq_left', rootL, eAttr, eInt, eBool, lit_eq, e0', e1, e4, e23, e24, e25])
    exact el_end hG d V n hn hx h2 ih h4 B' hs (by simpa [upd] using e0') (by simpa [upd] using e1) (by simpa [upd] using e4)
end Go.Proofs.K
end
section
set_option linter.unusedSimpArgs false
set_option linter.unusedVariables false
namespace Go.Proofs.K
open Go Go.Sim Go.Proofs
variable {G : Glob}
def hexS : List UInt8 := [48, 49, 50, 51, 52, 53, 54, 55, 56, 57, 97, 98, 99, 100, 101, 102]
theorem hex_hi (c : UInt8) : hexS.getD ((c.toNat : Int).fdiv (2 ^ min (4 : Int).toNat IntKind.u8.bits)).toNat 0 = hexD (c.toNat / 16) ∧ 0 ≤ (c.toNat : Int).fdiv (2 ^ min (4 : Int).toNat IntKind.u8.bits) ∧ (c.toNat : Int).fdiv (2 ^ min (4 : Int).toNat IntKind.u8.bits) < 16 :=
  of_decide_eq_true (u8_all (p := fun c => decide (hexS.getD ((c.toNat : Int).fdiv (2 ^ min (4 : Int).toNat IntKind.u8.bits)).toNat 0 = hexD (c.toNat / 16) ∧ 0 ≤ (c.toNat : Int).fdiv (2 ^ min (4 : Int).toNat IntKind.u8.bits) ∧ (c.toNat : Int).fdiv (2 ^ min (4 : Int).toNat IntKind.u8.bits) < 16)) (by decide +kernel) c)
theorem hex_lo (c : UInt8) : hexS.getD (bitF .and .u8 (c.toNat : Int) 15).toNat 0 = hexD (c.toNat % 16) ∧ 0 ≤ bitF .and .u8 (c.toNat : Int) 15 ∧ bitF .and .u8 (c.toNat : Int) 15 < 16 :=
  of_decide_eq_true (u8_all (p := fun c => decide (hexS.getD (bitF .and .u8 (c.toNat : Int) 15).toNat 0 = hexD (c.toNat % 16) ∧ 0 ≤ bitF .and .u8 (c.toNat : Int) 15 ∧ bitF .and .u8 (c.toNat : Int) 15 < 16)) (by decide +kernel) c)
theorem strEs_app (a b : List UInt8) : strEs (a ++ b) = strEs a ++ strEs b := by simp [strEs]
theorem plain_iff (c : UInt8) : plainB c = true ↔ ¬ ((c.toNat : Int) < 32 ∨ 126 < (c.toNat : Int) ∨ (c.toNat : Int) = 34 ∨ (c.toNat : Int) = 92) := by
  have := u8_all (p := fun c => decide (plainB c = true ↔ ¬ ((c.toNat : Int) < 32 ∨ 126 < (c.toNat : Int) ∨ (c.toNat : Int) = 34 ∨ (c.toNat : Int) = 92))) (by decide +kernel) c
  exact of_decide_eq_true this
def c94 : SFun := ⟨.seq (.reg [⟨some 2, .mv (.c (.str [])), none⟩]) (.seq (.reg [⟨some 6, .bldR 5 1 [.c (.int .u8 34)], none⟩, ⟨some 3, .mv (.t 6), none⟩]) (.seq (.seq (.reg [⟨some 7, .mv (.t 0), none⟩, ⟨some 8, .lenS (.t 7), none⟩, ⟨some 9, .mv (.c (.int .i64 0)), none⟩]) (.block 0 (.loop (.seq (.reg [⟨some 10, .bin .lss (.t 9) (.t 8), none⟩]) (.seq (.cond (.t 10) .skip (.exit 0)) (.seq (.block 1 (.seq (.reg [⟨some 11, .mv (.t 9), none⟩, ⟨some 4, .mv (.t 11), none⟩]) (.seq (.reg [⟨some 12, .mv (.t 0), none⟩, ⟨some 13, .mv (.t 4), none⟩, ⟨some 14, .idxS (.t 12) (.t 13), none⟩, ⟨some 5, .mv (.t 14), none⟩]) (.seq (.reg [⟨some 15, .mv (.t 5), none⟩, ⟨some 16, .bin .lss (.t 15) (.c (.int .u8 32)), none⟩, ⟨some 17, .mv (.t 16), none⟩, ⟨some 18, .mv (.t 5), some (17, false)⟩, ⟨some 19, .bin .gtr (.t 18) (.c (.int .u8 126)), some (17, false)⟩, ⟨some 20, .pick (.t 17) (.c (.bool true)) (.t 19), none⟩, ⟨some 21, .mv (.t 20), none⟩, ⟨some 22, .mv (.t 5), some (21, false)⟩, ⟨some 23, .bin .eql (.t 22) (.c (.int .u8 34)), some (21, false)⟩, ⟨some 24, .pick (.t 21) (.c (.bool true)) (.t 23), none⟩, ⟨some 25, .mv (.t 24), none⟩, ⟨some 26, .mv (.t 5), some (25, false)⟩, ⟨some 27, .bin .eql (.t 26) (.c (.int .u8 92)), some (25, false)⟩, ⟨some 28, .pick (.t 25) (.c (.bool true)) (.t 27), none⟩]) (.cond (.t 28) (.dreg [(⟨some 29, .mv (.t 3), none⟩, none), (⟨some 30, .mv (.t 5), none⟩, none), (⟨some 31, .bin .shr (.t 30) (.c (.int .u64 4)), none⟩, none), (⟨some 32, .idxS (.c (.str [48, 49, 50, 51, 52, 53, 54, 55, 56, 57, 97, 98, 99, 100, 101, 102])) (.t 31), none⟩, none), (⟨some 33, .mv (.t 5), none⟩, none), (⟨some 34, .bin .and (.t 33) (.c (.int .u8 15)), none⟩, none), (⟨some 35, .idxS (.c (.str [48, 49, 50, 51, 52, 53, 54, 55, 56, 57, 97, 98, 99, 100, 101, 102])) (.t 34), none⟩, none), (⟨some 36, .bldF 5 1 [.c (.int .u8 92), .t 32, .t 35], none⟩, none), (⟨some 37, .app 5 1 1 (.t 29) (.t 36), none⟩, (some [])), (⟨some 3, .mv (.t 37), none⟩, (some []))]) (.reg [⟨some 38, .mv (.t 3), none⟩, ⟨some 39, .mv (.t 5), none⟩, ⟨some 40, .bldF 5 1 [.t 39], none⟩, ⟨some 41, .app 5 1 1 (.t 38) (.t 40), none⟩, ⟨some 3, .mv (.t 41), none⟩])))))) (.reg [⟨some 42, .bin .add (.t 9) (.c (.int .i64 1)), none⟩, ⟨some 9, .mv (.t 42), none⟩]))))))) (.seq (.reg [⟨some 43, .mv (.t 3), none⟩, ⟨some 44, .bldF 5 1 [.c (.int .u8 34)], none⟩, ⟨some 45, .app 5 1 1 (.t 43) (.t 44), none⟩, ⟨some 46, .b2s (.t 45), none⟩, ⟨some 2, .mv (.t 46), none⟩]) .ret))), [.tmp 2]⟩
theorem hc94 : toSF Tryd.prog {how := [(6, 2)]} Tryd.f94 = some c94 := by kernel_rfl
theorem hn94 : (Tryd.f94.name == "runtime.NumGoroutine") = false := by kernel_rfl
theorem quoted_ok (s : List UInt8) (hs : s.length ≤ 1073741824) : PCalls (Pg G) 94 [.str s] (.str (quoteM s)) := fun h => by
  refine dcalls_of_vc Tryd.func94 hn94 hc94 (by rw [Tryd.ntmps94]; simp) (by rw [Tryd.ntmps94]; decide) ?_
  simp -dsimp -implicitDefEqProofs (disch := omega) only [↓vcOps_sp 17, ↓vcD_sp 17, ↓vcOps_sp 21, ↓vcD_sp 21, ↓vcOps_sp 25, ↓vcD_sp 25, VCA, pg_gl, ↓upd_none, Nat.reduceEqDiff, Nat.reduceBEq, Nat.reduceAdd, Nat.reduceSub, Nat.reduceMul, Nat.reduceLT, Nat.reduceLeDiff, ↓reduceIte, reduceCtorEq, rsOf, rootsOf, SOp.rd, SI.rd, SX.rd, rdL, rdO, rdP, okParts, eqCells, okEqCells, fillA, okFill, setAt, implies_true, forall_const, forall_eq, ne_eq, exists_eq_right_right, exists_eq_right, exists_eq_left, exists_eq_left', rootL, eAttr, eInt, eBool, lit_eq, c94]
  intro r hr
  refine LoopVC.intro (fun m e h' => ∃ (k : Nat) (a : AVal), k ≤ s.length ∧ m = s.length - k ∧ e 0 = .str s ∧ e 8 = aInt s.length ∧ e 9 = aInt k ∧ e 3 = a ∧ Acc h 5 1 (strEs (34 :: (s.take k).flatMap quoB)) a h' ∧ Sub h h') s.length
    ⟨0, _, by omega, by omega, rfl, rfl, rfl, rfl, .inr ⟨r, hr, upd_same _ _ _, rfl⟩, (Sub.refl _).upd hr⟩ ?_
  rintro m e h' ⟨k, a, hk, rfl, e0, e8, e9, e3, A, S⟩
  have bl : (strEs (34 :: (s.take k).flatMap quoB)).length ≤ 3 * k + 1 := by
    have h1 := flat_le (f := quoB) (k := 3) (s.take k) fun b _ => by unfold quoB; split <;> simp
    rw [List.length_take] at h1
    simp [strEs]; simp at h1; omega
  by_cases hlt : k < s.length
  · obtain ⟨c, hc⟩ : ∃ c, s.getD k 0 = c := ⟨_, rfl⟩
    have ts : (s.take (k + 1)).flatMap quoB = (s.take k).flatMap quoB ++ quoB c := by
      rw [take_snoc hlt, List.flatMap_append, List.flatMap_cons, List.flatMap_nil, List.append_nil]
      have : nth s k = c := hc
      rw [this]
    have fin : ∀ a' h3, Acc h 5 1 (strEs (34 :: (s.take k).flatMap quoB) ++ strEs (quoB c)) a' h3 → Sub h h3 → ∃ m', m' < s.length - k ∧ ∃ (k' : Nat) (a'' : AVal), k' ≤ s.length ∧ m' = s.length - k' ∧ AVal.str s = .str s ∧ aInt s.length = aInt s.length ∧ aInt ((k : Int) + 1) = aInt k' ∧ a' = a'' ∧ Acc h 5 1 (strEs (34 :: (s.take k').flatMap quoB)) a'' h3 ∧ Sub h h3 := fun a' h3 A' S' =>
      ⟨_, by omega, k + 1, a', by omega, rfl, rfl, rfl, rfl, rfl, by rw [ts, show (34 :: ((s.take k).flatMap quoB ++ quoB c)) = (34 :: (s.take k).flatMap quoB) ++ quoB c from rfl, strEs_app]; exact A', S'⟩
    have hp := plain_iff c
    have h1 := hex_hi c
    have h2 := hex_lo c
    unfold hexS at h1 h2
    cases hq : plainB c with
    | true =>
      have hp := hp.1 hq
      rw [show quoB c = [c] from if_pos hq] at fin
      repeat' (first | ((with_reducible refine brC (fun _ => ?_) fun _ => ?_) <;> try (exfalso; omega)) | ((refine A.app S (by simp [strEs] at bl ⊢; omega) (by simp [strEs] at bl ⊢; omega) (fun a' h3 A' S' => ?_))) | (with_reducible refine And.intro ?_ ?_; · omega) | simp -dsimp -implicitDefEqProofs (disch := omega) only [↓vcOps_sp 17, ↓vcD_sp 17, ↓vcOps_sp 21, ↓vcD_sp 21, ↓vcOps_sp 25, ↓vcD_sp 25, VCA, pg_gl, ↓upd_none, Nat.reduceEqDiff, Nat.reduceBEq, Nat.reduceAdd, Nat.reduceSub, Nat.reduceMul, Nat.reduceLT, Nat.reduceLeDiff, ↓reduceIte, reduceCtorEq, rsOf, rootsOf, SOp.rd, SI.rd, SX.rd, rdL, rdO, rdP, okParts, eqCells, okEqCells, fillA, okFill, setAt, implies_true, forall_const, forall_eq, ne_eq, exists_eq_right_right, exists_eq_right, exists_eq_left, exists_eq_left', rootL, eAttr, eInt, eBool, lit_eq, e0, e8, e9, e3, hc])
      obtain ⟨m', q1, k', a'', q2, q3, _, _, q4, q5, q6, q7⟩ := fin a' h3 A' S'
      exact ⟨m', q1, k', a'', q2, q3, by injection q4, q5, q6, q7⟩
    | false =>
      have hp' : (c.toNat : Int) < 32 ∨ 126 < (c.toNat : Int) ∨ (c.toNat : Int) = 34 ∨ (c.toNat : Int) = 92 := Classical.byContradiction fun hh => by rw [hp.2 hh] at hq; cases hq
      rw [show quoB c = [92, hexD (c.toNat / 16), hexD (c.toNat % 16)] from if_neg (by rw [hq]; simp)] at fin
      repeat' (first | ((with_reducible refine brC (fun _ => ?_) fun _ => ?_) <;> try (exfalso; omega)) | (with_reducible refine And.intro ?_ ?_; · omega) | simp -dsimp -implicitDefEqProofs (disch := omega) only [↓vcOps_sp 17, ↓vcD_sp 17, ↓vcOps_sp 21, ↓vcD_sp 21, ↓vcOps_sp 25, ↓vcD_sp 25, VCA, pg_gl, ↓upd_none, Nat.reduceEqDiff, Nat.reduceBEq, Nat.reduceAdd, Nat.reduceSub, Nat.reduceMul, Nat.reduceLT, Nat.reduceLeDiff, ↓reduceIte, reduceCtorEq, rsOf, rootsOf, SOp.rd, SI.rd, SX.rd, rdL, rdO, rdP, okParts, eqCells, okEqCells, fillA, okFill, setAt, implies_true, forall_const, forall_eq, ne_eq, exists_eq_right_right, exists_eq_right, exists_eq_left, exists_eq_left', rootL, eAttr, eInt, eBool, lit_eq, e0, e8, e9, e3, hc, h1.1, h2.1])
      all_goals refine ⟨_, ⟨rfl, (by rintro e (rfl | rfl | rfl) <;> rfl)⟩, A.app S (by simp [strEs] at bl ⊢; omega) (by simp [strEs] at bl ⊢; omega) (fun a' h3 A' S' => ?_)⟩
      all_goals simp -dsimp -implicitDefEqProofs (disch := omega) only [↓vcOps_sp 17, ↓vcD_sp 17, ↓vcOps_sp 21, ↓vcD_sp 21, ↓vcOps_sp 25, ↓vcD_sp 25, VCA, pg_gl, ↓upd_none, Nat.reduceEqDiff, Nat.reduceBEq, Nat.reduceAdd, Nat.reduceSub, Nat.reduceMul, Nat.reduceLT, Nat.reduceLeDiff, ↓reduceIte, reduceCtorEq, rsOf, rootsOf, SOp.rd, SI.rd, SX.rd, rdL, rdO, rdP, okParts, eqCells, okEqCells, fillA, okFill, setAt, implies_true, forall_const, forall_eq, ne_eq, exists_eq_right_right, exists_eq_right, exists_eq_left, exists_eq_left', rootL, eAttr, eInt, eBool, lit_eq, e0, e8, e9, e3, hc]
      all_goals obtain ⟨m', q1, k', a'', q2, q3, _, _, q4, q5, q6, q7⟩ := fin a' h3 A' S'
      all_goals exact ⟨m', q1, k', a'', q2, q3, by injection q4, q5, q6, q7⟩
  · obtain rfl : k = s.length := by omega
    repeat' (first | ((with_reducible refine brC (fun _ => ?_) fun _ => ?_) <;> try (exfalso; omega)) | ((refine A.app S (by simp [strEs] at bl ⊢; omega) (by simp [strEs] at bl ⊢; omega) (fun a' h3 A' S' => ?_))) | (with_reducible refine And.intro ?_ ?_; · omega) | simp -dsimp -implicitDefEqProofs (disch := omega) only [↓vcOps_sp 17, ↓vcD_sp 17, ↓vcOps_sp 21, ↓vcD_sp 21, ↓vcOps_sp 25, ↓vcD_sp 25, VCA, pg_gl, ↓upd_none, Nat.reduceEqDiff, Nat.reduceBEq, Nat.reduceAdd, Nat.reduceSub, Nat.reduceMul, Nat.reduceLT, Nat.reduceLeDiff, ↓reduceIte, reduceCtorEq, rsOf, rootsOf, SOp.rd, SI.rd, SX.rd, rdL, rdO, rdP, okParts, eqCells, okEqCells, fillA, okFill, setAt, implies_true, forall_const, forall_eq, ne_eq, exists_eq_right_right, exists_eq_right, exists_eq_left, exists_eq_left', rootL, eAttr, eInt, eBool, lit_eq, e0, e8, e9, e3])
    obtain ⟨r', g0, g1, rfl⟩ := A'.pos (by simp)
    refine ⟨⟨rfl, _, g1, by simp, ?_⟩, S'⟩
    simp only [List.take_length, List.drop_zero]
    simp [strEs, quoteM]
def c67 : SFun := ⟨.seq (.reg [⟨some 1, .boxF 53 6 (.t 0), none⟩, ⟨some 2, .mv (.c (.str [])), none⟩]) (.seq (.seq (.reg [⟨some 6, .fldA 0 (.t 1), none⟩, ⟨some 7, .ld 1 false (.t 6), none⟩]) (.block 0 (.seq (.reg [⟨some 9, .bin .eql (.t 7) (.c (.int .i64 5)), none⟩, ⟨some 8, .mv (.t 9), none⟩]) (.cond (.t 8) (.seq (.reg [⟨some 10, .fldA 1 (.t 1), none⟩, ⟨some 11, .ld 1 false (.t 10), none⟩, ⟨some 12, .pcall 94 [.t 11], none⟩, ⟨some 13, .bin .add (.c (.str [33])) (.t 12), none⟩, ⟨some 2, .mv (.t 13), none⟩]) .ret) (.seq (.reg [⟨some 15, .bin .eql (.t 7) (.c (.int .i64 3)), none⟩, ⟨some 14, .mv (.t 15), none⟩]) (.cond (.t 14) (.seq (.reg [⟨some 16, .fldA 3 (.t 1), none⟩, ⟨some 17, .ld 1 false (.t 16), none⟩, ⟨some 18, .pcall 94 [.t 17], none⟩, ⟨some 2, .mv (.t 18), none⟩]) .ret) (.seq (.reg [⟨some 20, .bin .eql (.t 7) (.c (.int .i64 4)), none⟩, ⟨some 19, .mv (.t 20), none⟩]) (.cond (.t 19) (.seq (.reg [⟨some 21, .fldA 3 (.t 1), none⟩, ⟨some 22, .ld 1 false (.t 21), none⟩, ⟨some 23, .pcall 94 [.t 22], none⟩, ⟨some 24, .bin .add (.c (.str [45])) (.t 23), none⟩, ⟨some 2, .mv (.t 24), none⟩]) .ret) .skip)))))))) (.seq (.reg [⟨some 25, .fldA 1 (.t 1), none⟩, ⟨some 26, .ld 1 false (.t 25), none⟩, ⟨some 3, .mv (.t 26), none⟩]) (.seq (.seq (.reg [⟨some 27, .fldA 2 (.t 1), none⟩, ⟨some 28, .ld 1 false (.t 27), none⟩, ⟨some 29, .len (.t 28), none⟩, ⟨some 30, .mv (.c (.int .i64 0)), none⟩]) (.block 1 (.loop (.seq (.reg [⟨some 31, .bin .lss (.t 30) (.t 29), none⟩]) (.seq (.cond (.t 31) .skip (.exit 1)) (.seq (.block 2 (.seq (.reg [⟨some 32, .idxA 2 (.t 28) (.t 30), none⟩, ⟨some 33, .ld 2 true (.t 32), none⟩, ⟨some 5, .new 43 2 [.str [], .str []], none⟩, ⟨none, .st 2 (.t 5) (.t 33), none⟩]) (.dreg [(⟨some 34, .mv (.t 3), none⟩, none), (⟨some 35, .fldA 0 (.t 5), none⟩, none), (⟨some 36, .ld 1 false (.t 35), none⟩, none), (⟨some 37, .bin .add (.c (.str [32])) (.t 36), none⟩, none), (⟨some 38, .bin .add (.t 37) (.c (.str [61])), none⟩, none), (⟨some 39, .fldA 1 (.t 5), none⟩, none), (⟨some 40, .ld 1 false (.t 39), none⟩, none), (⟨some 41, .pcall 94 [.t 40], none⟩, none), (⟨some 42, .bin .add (.t 38) (.t 41), none⟩, none), (⟨some 43, .bin .add (.t 34) (.t 42), none⟩, none), (⟨some 3, .mv (.t 43), none⟩, (some [36, 40]))]))) (.reg [⟨some 44, .bin .add (.t 30) (.c (.int .i64 1)), none⟩, ⟨some 30, .mv (.t 44), none⟩]))))))) (.seq (.reg [⟨some 45, .mv (.t 3), none⟩, ⟨some 2, .mv (.t 45), none⟩]) .ret)))), [.tmp 2]⟩
theorem hc67 : toSF Tryd.prog {pure := [94]} Tryd.f67 = some c67 := by kernel_rfl
theorem hn67 : (Tryd.f67.name == "runtime.NumGoroutine") = false := by kernel_rfl
theorem line_ok (x : HNode) (Z : NodeSz x) : PCalls (Pg G) 67 [.agg (eNode x)] (.str (lineM x)) := fun h => by
  have hq : ∀ s : List UInt8, s.length ≤ 400 → PCalls (Pg G) 94 [.str s] (.str (quoteM s)) := fun s hs => quoted_ok s (by omega)
  have zn := hq _ Z.name
  have zt := hq _ Z.text
  have za := Z.attrs
  have z1 := Z.name
  have z2 := Z.text
  have z3 := quote_len x.name
  have z4 := quote_len x.text
  unfold lineM
  by_cases h5 : x.kind = 5
  · rw [if_pos h5]
    refine dcalls_of_vc Tryd.func67 hn67 hc67 (by rw [Tryd.ntmps67]; simp) (by rw [Tryd.ntmps67]; decide) ?_
    simp -dsimp -implicitDefEqProofs (disch := omega) only [VCA, pg_gl, ↓upd_none, Nat.reduceEqDiff, Nat.reduceBEq, Nat.reduceAdd, Nat.reduceSub, Nat.reduceMul, Nat.reduceLT, Nat.reduceLeDiff, ↓reduceIte, reduceCtorEq, rsOf, rootsOf, SOp.rd, SI.rd, SX.rd, rdL, rdO, rdP, okParts, eqCells, okEqCells, fillA, okFill, setAt, implies_true, forall_const, forall_eq, ne_eq, exists_eq_right_right, exists_eq_right, exists_eq_left, exists_eq_left', rootL, eAttr, eInt, eBool, lit_eq, c67, eNode]
    repeat' (first | ((with_reducible refine brC (fun _ => ?_) fun _ => ?_) <;> try (exfalso; omega)) | (with_reducible apply pcallE.of; · exact zn) | (with_reducible refine And.intro ?_ ?_; · omega) | simp -dsimp -implicitDefEqProofs (disch := omega) only [VCA, pg_gl, ↓upd_none, Nat.reduceEqDiff, Nat.reduceBEq, Nat.reduceAdd, Nat.reduceSub, Nat.reduceMul, Nat.reduceLT, Nat.reduceLeDiff, ↓reduceIte, reduceCtorEq, rsOf, rootsOf, SOp.rd, SI.rd, SX.rd, rdL, rdO, rdP, okParts, eqCells, okEqCells, fillA, okFill, setAt, implies_true, forall_const, forall_eq, ne_eq, exists_eq_right_right, exists_eq_right, exists_eq_left, exists_eq_left', rootL, eAttr, eInt, eBool, lit_eq, eNode, h5])
    all_goals first | exact Sub.refl _ | exact ⟨by omega, Sub.refl _⟩
  rw [if_neg h5]
  by_cases h3 : x.kind = 3
  · rw [if_pos h3]
    refine dcalls_of_vc Tryd.func67 hn67 hc67 (by rw [Tryd.ntmps67]; simp) (by rw [Tryd.ntmps67]; decide) ?_
    simp -dsimp -implicitDefEqProofs (disch := omega) only [VCA, pg_gl, ↓upd_none, Nat.reduceEqDiff, Nat.reduceBEq, Nat.reduceAdd, Nat.reduceSub, Nat.reduceMul, Nat.reduceLT, Nat.reduceLeDiff, ↓reduceIte, reduceCtorEq, rsOf, rootsOf, SOp.rd, SI.rd, SX.rd, rdL, rdO, rdP, okParts, eqCells, okEqCells, fillA, okFill, setAt, implies_true, forall_const, forall_eq, ne_eq, exists_eq_right_right, exists_eq_right, exists_eq_left, exists_eq_left', rootL, eAttr, eInt, eBool, lit_eq, c67, eNode]
    repeat' (first | ((with_reducible refine brC (fun _ => ?_) fun _ => ?_) <;> try (exfalso; omega)) | (with_reducible apply pcallE.of; · exact zt) | (with_reducible refine And.intro ?_ ?_; · omega) | simp -dsimp -implicitDefEqProofs (disch := omega) only [VCA, pg_gl, ↓upd_none, Nat.reduceEqDiff, Nat.reduceBEq, Nat.reduceAdd, Nat.reduceSub, Nat.reduceMul, Nat.reduceLT, Nat.reduceLeDiff, ↓reduceIte, reduceCtorEq, rsOf, rootsOf, SOp.rd, SI.rd, SX.rd, rdL, rdO, rdP, okParts, eqCells, okEqCells, fillA, okFill, setAt, implies_true, forall_const, forall_eq, ne_eq, exists_eq_right_right, exists_eq_right, exists_eq_left, exists_eq_left', rootL, eAttr, eInt, eBool, lit_eq, eNode, h3])
    all_goals first | exact Sub.refl _ | exact ⟨by omega, Sub.refl _⟩
  rw [if_neg h3]
  by_cases h4 : x.kind = 4
  · rw [if_pos h4]
    refine dcalls_of_vc Tryd.func67 hn67 hc67 (by rw [Tryd.ntmps67]; simp) (by rw [Tryd.ntmps67]; decide) ?_
    simp -dsimp -implicitDefEqProofs (disch := omega) only [VCA, pg_gl, ↓upd_none, Nat.reduceEqDiff, Nat.reduceBEq, Nat.reduceAdd, Nat.reduceSub, Nat.reduceMul, Nat.reduceLT, Nat.reduceLeDiff, ↓reduceIte, reduceCtorEq, rsOf, rootsOf, SOp.rd, SI.rd, SX.rd, rdL, rdO, rdP, okParts, eqCells, okEqCells, fillA, okFill, setAt, implies_true, forall_const, forall_eq, ne_eq, exists_eq_right_right, exists_eq_right, exists_eq_left, exists_eq_left', rootL, eAttr, eInt, eBool, lit_eq, c67, eNode]
    repeat' (first | ((with_reducible refine brC (fun _ => ?_) fun _ => ?_) <;> try (exfalso; omega)) | (with_reducible apply pcallE.of; · exact zt) | (with_reducible refine And.intro ?_ ?_; · omega) | simp -dsimp -implicitDefEqProofs (disch := omega) only [VCA, pg_gl, ↓upd_none, Nat.reduceEqDiff, Nat.reduceBEq, Nat.reduceAdd, Nat.reduceSub, Nat.reduceMul, Nat.reduceLT, Nat.reduceLeDiff, ↓reduceIte, reduceCtorEq, rsOf, rootsOf, SOp.rd, SI.rd, SX.rd, rdL, rdO, rdP, okParts, eqCells, okEqCells, fillA, okFill, setAt, implies_true, forall_const, forall_eq, ne_eq, exists_eq_right_right, exists_eq_right, exists_eq_left, exists_eq_left', rootL, eAttr, eInt, eBool, lit_eq, eNode, h4])
    all_goals first | exact Sub.refl _ | exact ⟨by omega, Sub.refl _⟩
  rw [if_neg h4]
  have b5 : (x.kind == 5) = false := by simpa using h5
  have b3 : (x.kind == 3) = false := by simpa using h3
  have b4 : (x.kind == 4) = false := by simpa using h4
  refine dcalls_of_vc Tryd.func67 hn67 hc67 (by rw [Tryd.ntmps67]; simp) (by rw [Tryd.ntmps67]; decide) ?_
  simp -dsimp -implicitDefEqProofs (disch := omega) only [VCA, pg_gl, ↓upd_none, Nat.reduceEqDiff, Nat.reduceBEq, Nat.reduceAdd, Nat.reduceSub, Nat.reduceMul, Nat.reduceLT, Nat.reduceLeDiff, ↓reduceIte, reduceCtorEq, rsOf, rootsOf, SOp.rd, SI.rd, SX.rd, rdL, rdO, rdP, okParts, eqCells, okEqCells, fillA, okFill, setAt, implies_true, forall_const, forall_eq, ne_eq, exists_eq_right_right, exists_eq_right, exists_eq_left, exists_eq_left', rootL, eAttr, eInt, eBool, lit_eq, c67, eNode]
  repeat' (first | ((with_reducible refine brC (fun _ => ?_) fun _ => ?_) <;> try (exfalso; omega)) | (with_reducible refine And.intro ?_ ?_; · omega) | simp -dsimp -implicitDefEqProofs (disch := omega) only [VCA, pg_gl, ↓upd_none, Nat.reduceEqDiff, Nat.reduceBEq, Nat.reduceAdd, Nat.reduceSub, Nat.reduceMul, Nat.reduceLT, Nat.reduceLeDiff, ↓reduceIte, reduceCtorEq, rsOf, rootsOf, SOp.rd, SI.rd, SX.rd, rdL, rdO, rdP, okParts, eqCells, okEqCells, fillA, okFill, setAt, implies_true, forall_const, forall_eq, ne_eq, exists_eq_right_right, exists_eq_right, exists_eq_left, exists_eq_left', rootL, eAttr, eInt, eBool, lit_eq, eNode, b5, b3, b4])
  refine LoopVC.intro (fun m e h' => ∃ k : Nat, k ≤ x.attrs.length ∧ m = x.attrs.length - k ∧ e 28 = sl eAttr x.attrs ∧ e 29 = aInt x.attrs.length ∧ e 30 = aInt k ∧ e 3 = .str (x.name ++ (x.attrs.take k).flatMap attrL) ∧ Sub h h') x.attrs.length
    ⟨0, by omega, by omega, rfl, rfl, rfl, by simp; rfl, Sub.refl _⟩ ?_
  rintro m e h' ⟨k, hk, rfl, e28, e29, e30, e3, S⟩
  by_cases hlt : k < x.attrs.length
  · obtain ⟨a, ha⟩ : ∃ a, nth x.attrs k = a := ⟨_, rfl⟩
    have hz := Z.each a (ha ▸ nth_mem' hlt)
    have zv := hq a.value hz.2.1
    have ts : (x.attrs.take (k + 1)).flatMap attrL = (x.attrs.take k).flatMap attrL ++ attrL a := by
      rw [take_snoc hlt, List.flatMap_append, List.flatMap_cons, List.flatMap_nil, List.append_nil, ha]
    have q5 := quote_len a.value
    have q6 := flat_le (f := attrL) (k := 1300) (x.attrs.take k) fun a ha => by
      have h1 := Z.each a (List.mem_of_mem_take ha)
      have h2 := quote_len a.value
      unfold attrL
      simp only [List.length_append, List.length_cons, List.length_nil]; omega
    rw [List.length_take] at q6
    repeat' (first | ((with_reducible refine brC (fun _ => ?_) fun _ => ?_) <;> try (exfalso; omega)) | (with_reducible refine And.intro ?_ ?_; · omega) | simp -dsimp -implicitDefEqProofs (disch := omega) only [VCA, pg_gl, ↓upd_none, Nat.reduceEqDiff, Nat.reduceBEq, Nat.reduceAdd, Nat.reduceSub, Nat.reduceMul, Nat.reduceLT, Nat.reduceLeDiff, ↓reduceIte, reduceCtorEq, rsOf, rootsOf, SOp.rd, SI.rd, SX.rd, rdL, rdO, rdP, okParts, eqCells, okEqCells, fillA, okFill, setAt, implies_true, forall_const, forall_eq, ne_eq, exists_eq_right_right, exists_eq_right, exists_eq_left, exists_eq_left', rootL, eAttr, eInt, eBool, lit_eq, e28, e29, e30, e3, ha, eAttr])
    intro r hr
    have n1 : ∀ o, upd h' r o r = o := fun o => upd_same _ _ _
    repeat' (first | ((with_reducible refine brC (fun _ => ?_) fun _ => ?_) <;> try (exfalso; omega)) | (with_reducible apply pcallE.of; · exact zv) | (with_reducible refine And.intro ?_ ?_; · omega) | simp -dsimp -implicitDefEqProofs (disch := omega) only [VCA, pg_gl, ↓upd_none, Nat.reduceEqDiff, Nat.reduceBEq, Nat.reduceAdd, Nat.reduceSub, Nat.reduceMul, Nat.reduceLT, Nat.reduceLeDiff, ↓reduceIte, reduceCtorEq, rsOf, rootsOf, SOp.rd, SI.rd, SX.rd, rdL, rdO, rdP, okParts, eqCells, okEqCells, fillA, okFill, setAt, implies_true, forall_const, forall_eq, ne_eq, exists_eq_right_right, exists_eq_right, exists_eq_left, exists_eq_left', rootL, eAttr, eInt, eBool, lit_eq, e28, e29, e30, e3, ha, eAttr, upd_same])
    refine ⟨by simp only [List.length_append, List.length_cons, List.length_nil]; omega, by simp only [List.length_append, List.length_cons, List.length_nil]; omega, _, by omega, k + 1, by omega, rfl, by omega, ?_, S.upd (S.none hr)⟩
    rw [ts]
    unfold attrL
    simp
  · obtain rfl : k = x.attrs.length := by omega
    repeat' (first | ((with_reducible refine brC (fun _ => ?_) fun _ => ?_) <;> try (exfalso; omega)) | (with_reducible refine And.intro ?_ ?_; · omega) | simp -dsimp -implicitDefEqProofs (disch := omega) only [VCA, pg_gl, ↓upd_none, Nat.reduceEqDiff, Nat.reduceBEq, Nat.reduceAdd, Nat.reduceSub, Nat.reduceMul, Nat.reduceLT, Nat.reduceLeDiff, ↓reduceIte, reduceCtorEq, rsOf, rootsOf, SOp.rd, SI.rd, SX.rd, rdL, rdO, rdP, okParts, eqCells, okEqCells, fillA, okFill, setAt, implies_true, forall_const, forall_eq, ne_eq, exists_eq_right_right, exists_eq_right, exists_eq_left, exists_eq_left', rootL, eAttr, eInt, eBool, lit_eq, e28, e29, e30, e3, eAttr])
    exact S
end Go.Proofs.K
end
section
set_option linter.unusedSimpArgs false
set_option linter.unusedVariables false
namespace Go.Proofs.K
open Go Go.Sim Go.Proofs
variable {G : Glob}
def c49 : SFun := ⟨.seq (.reg [⟨some 5, .mv (.t 0), none⟩, ⟨some 6, .fldA 0 (.t 5), none⟩, ⟨some 7, .fldA 2 (.t 6), none⟩, ⟨some 8, .fldA 0 (.t 7), none⟩, ⟨some 9, .ld 1 false (.t 8), none⟩, ⟨some 10, .mv (.t 1), none⟩, ⟨some 11, .idxA 6 (.t 9) (.t 10), none⟩, ⟨some 12, .ld 6 true (.t 11), none⟩, ⟨some 4, .new 53 6 [.int .i64 0, .str [], .emp, .str [], .int .i64 0, .emp], none⟩, ⟨none, .st 6 (.t 4) (.t 12), none⟩]) (.seq (.reg [⟨some 13, .fldA 0 (.t 4), none⟩, ⟨some 14, .ld 1 false (.t 13), none⟩]) (.block 0 (.seq (.reg [⟨some 19, .bin .eql (.t 14) (.c (.int .i64 1)), none⟩, ⟨some 18, .mv (.t 19), none⟩]) (.cond (.t 18) (.reg [⟨some 20, .mv (.t 0), none⟩, ⟨some 21, .mv (.t 1), none⟩, ⟨some 22, .call (.c (.fn 71 [] [])) [.t 20, .t 21], none⟩]) (.seq (.reg [⟨some 24, .bin .eql (.t 14) (.c (.int .i64 5)), none⟩, ⟨some 23, .mv (.t 24), none⟩]) (.cond (.t 23) (.dreg [(⟨some 25, .mv (.t 0), none⟩, none), (⟨some 26, .fldA 0 (.t 25), none⟩, none), (⟨some 27, .fldA 0 (.t 26), none⟩, none), (⟨some 28, .fldA 1 (.t 4), none⟩, none), (⟨some 29, .ld 1 false (.t 28), none⟩, none), (⟨some 30, .bin .add (.c (.str [60, 33, 68, 79, 67, 84, 89, 80, 69, 32])) (.t 29), none⟩, none), (⟨some 31, .bin .add (.t 30) (.c (.str [62])), none⟩, none), (⟨some 32, .call (.c (.fn 41 [] [])) [.t 27, .t 31], none⟩, (some [29]))]) (.seq (.reg [⟨some 34, .bin .eql (.t 14) (.c (.int .i64 4)), none⟩, ⟨some 33, .mv (.t 34), none⟩]) (.cond (.t 33) (.dreg [(⟨some 35, .mv (.t 0), none⟩, none), (⟨some 36, .fldA 0 (.t 35), none⟩, none), (⟨some 37, .fldA 0 (.t 36), none⟩, none), (⟨some 38, .fldA 3 (.t 4), none⟩, none), (⟨some 39, .ld 1 false (.t 38), none⟩, none), (⟨some 40, .bin .add (.c (.str [60, 33, 45, 45])) (.t 39), none⟩, none), (⟨some 41, .bin .add (.t 40) (.c (.str [45, 45, 62])), none⟩, none), (⟨some 42, .call (.c (.fn 41 [] [])) [.t 37, .t 41], none⟩, (some [39]))]) (.seq (.reg [⟨some 44, .bin .eql (.t 14) (.c (.int .i64 3)), none⟩, ⟨some 43, .mv (.t 44), none⟩]) (.cond (.t 43) (.reg [⟨some 45, .mv (.t 0), none⟩, ⟨some 46, .ld 6 true (.t 4), none⟩, ⟨some 47, .call (.c (.fn 72 [] [])) [.t 45, .t 46], none⟩]) (.reg [⟨some 15, .mv (.t 0), none⟩, ⟨some 16, .mv (.t 1), none⟩, ⟨some 17, .call (.c (.fn 73 [] [])) [.t 15, .t 16], none⟩]))))))))))), []⟩
theorem hc49 : toSF Tryd.prog {} Tryd.f49 = some c49 := by kernel_rfl
theorem hn49 : (Tryd.f49.name == "runtime.NumGoroutine") = false := by kernel_rfl
set_option maxHeartbeats 1000000 in
theorem wnode_ok (hG : MaxOK G) (d : HDoc) (V : DV d) : ∀ n, inD d n → NodeC G d n := V.down fun n hn ih h0 h rb s B hc hs => by
  obtain ⟨p, buf, hat⟩ := B.at
  have i0 := hn.1
  have i1 := hn.2
  have e0 : nth d.nodes n.toNat = nd d n := rfl
  have Z := nodeE_sz (V.node n hn)
  have he := html_eq V hn
  have hk1 := V.kind n hn
  have hE := fun (h2 : (nd d n).kind = 2) (h0 h : Heap) (rb : Nat) (s : List UInt8) (B : WD d h0 rb s h) => welement_ok (G := G) hG d V n hn h2 ih B
  have hK := fun (h0 h : Heap) (rb : Nat) (s : List UInt8) (B : WD d h0 rb s h) => wkids_ok (G := G) d V n hn ih B
  obtain ⟨x, hx⟩ : ∃ x, nd d n = x := ⟨_, rfl⟩
  rw [hx] at e0 Z he hc hk1 hE hK
  have z1 := Z.name
  have z2 := Z.text
  have hzk := Z.kind
  unfold htG at he
  have n4 : ∀ r4, h r4 = none → ¬ rb = r4 ∧ ¬ r4 = rb := fun r4 hr4 => ⟨(fun e => by rw [← e, hat] at hr4; cases hr4), (fun e => by rw [e, hat] at hr4; cases hr4)⟩
  by_cases h1 : x.kind = 1
  · have b1 : (x.kind == 1) = true := by simpa using h1
    rw [if_pos h1] at he
    rw [he] at hs ⊢
    have hn0 := hk1.1 h1
    refine dcalls_of_vc Tryd.func49 hn49 hc49 (by rw [Tryd.ntmps49]; simp) (by rw [Tryd.ntmps49]; decide) ?_
    simp -dsimp -implicitDefEqProofs (disch := omega) only [VCA, pg_gl, ↓upd_none, Nat.reduceEqDiff, Nat.reduceBEq, Nat.reduceAdd, Nat.reduceSub, Nat.reduceMul, Nat.reduceLT, Nat.reduceLeDiff, ↓reduceIte, reduceCtorEq, rsOf, rootsOf, SOp.rd, SI.rd, SX.rd, rdL, rdO, rdP, okParts, eqCells, okEqCells, fillA, okFill, setAt, implies_true, forall_const, forall_eq, ne_eq, exists_eq_right_right, exists_eq_right, exists_eq_left, exists_eq_left', rootL, eAttr, eInt, eBool, lit_eq, c49, hat]
    repeat' (first | ((with_reducible refine brC (fun _ => ?_) fun _ => ?_) <;> try (exfalso; omega)) | (with_reducible refine And.intro ?_ ?_; · omega) | simp -dsimp -implicitDefEqProofs (disch := omega) only [VCA, pg_gl, ↓upd_none, Nat.reduceEqDiff, Nat.reduceBEq, Nat.reduceAdd, Nat.reduceSub, Nat.reduceMul, Nat.reduceLT, Nat.reduceLeDiff, ↓reduceIte, reduceCtorEq, rsOf, rootsOf, SOp.rd, SI.rd, SX.rd, rdL, rdO, rdP, okParts, eqCells, okEqCells, fillA, okFill, setAt, implies_true, forall_const, forall_eq, ne_eq, exists_eq_right_right, exists_eq_right, exists_eq_left, exists_eq_left', rootL, eAttr, eInt, eBool, lit_eq, hat, e0, eNode, b1])
    intro r4 hr4
    obtain ⟨m1, m2⟩ := n4 r4 hr4
    have B4 := B.more hr4 ⟨53, 6, [eNode x]⟩
    have h4 := B.free hr4
    repeat' (first | ((with_reducible refine brC (fun _ => ?_) fun _ => ?_) <;> try (exfalso; omega)) | (with_reducible refine And.intro ?_ ?_; · omega) | simp -dsimp -implicitDefEqProofs (disch := omega) only [VCA, pg_gl, ↓upd_none, Nat.reduceEqDiff, Nat.reduceBEq, Nat.reduceAdd, Nat.reduceSub, Nat.reduceMul, Nat.reduceLT, Nat.reduceLeDiff, ↓reduceIte, reduceCtorEq, rsOf, rootsOf, SOp.rd, SI.rd, SX.rd, rdL, rdO, rdP, okParts, eqCells, okEqCells, fillA, okFill, setAt, implies_true, forall_const, forall_eq, ne_eq, exists_eq_right_right, exists_eq_right, exists_eq_left, exists_eq_left', rootL, eAttr, eInt, eBool, lit_eq, hat, e0, eNode, upd_same, m1, m2, b1])
    refine DCalls.of (hK _ _ _ _ B4 (.inr hn0) hs) ?_
    rintro a h5 ⟨rfl, B5⟩
    simp -dsimp -implicitDefEqProofs (disch := omega) only [VCA, pg_gl, ↓upd_none, Nat.reduceEqDiff, Nat.reduceBEq, Nat.reduceAdd, Nat.reduceSub, Nat.reduceMul, Nat.reduceLT, Nat.reduceLeDiff, ↓reduceIte, reduceCtorEq, rsOf, rootsOf, SOp.rd, SI.rd, SX.rd, rdL, rdO, rdP, okParts, eqCells, okEqCells, fillA, okFill, setAt, implies_true, forall_const, forall_eq, ne_eq, exists_eq_right_right, exists_eq_right, exists_eq_left, exists_eq_left', rootL, eAttr, eInt, eBool, lit_eq]
    exact ⟨_, Sub.refl _, B5.less h4⟩
  rw [if_neg h1] at he
  have b1 : (x.kind == 1) = false := by simpa using h1
  by_cases h5 : x.kind = 5
  · have b5 : (x.kind == 5) = true := by simpa using h5
    rw [if_pos h5] at he
    rw [he] at hs ⊢
    refine dcalls_of_vc Tryd.func49 hn49 hc49 (by rw [Tryd.ntmps49]; simp) (by rw [Tryd.ntmps49]; decide) ?_
    simp -dsimp -implicitDefEqProofs (disch := omega) only [VCA, pg_gl, ↓upd_none, Nat.reduceEqDiff, Nat.reduceBEq, Nat.reduceAdd, Nat.reduceSub, Nat.reduceMul, Nat.reduceLT, Nat.reduceLeDiff, ↓reduceIte, reduceCtorEq, rsOf, rootsOf, SOp.rd, SI.rd, SX.rd, rdL, rdO, rdP, okParts, eqCells, okEqCells, fillA, okFill, setAt, implies_true, forall_const, forall_eq, ne_eq, exists_eq_right_right, exists_eq_right, exists_eq_left, exists_eq_left', rootL, eAttr, eInt, eBool, lit_eq, c49, hat]
    repeat' (first | ((with_reducible refine brC (fun _ => ?_) fun _ => ?_) <;> try (exfalso; omega)) | (with_reducible refine And.intro ?_ ?_; · omega) | simp -dsimp -implicitDefEqProofs (disch := omega) only [VCA, pg_gl, ↓upd_none, Nat.reduceEqDiff, Nat.reduceBEq, Nat.reduceAdd, Nat.reduceSub, Nat.reduceMul, Nat.reduceLT, Nat.reduceLeDiff, ↓reduceIte, reduceCtorEq, rsOf, rootsOf, SOp.rd, SI.rd, SX.rd, rdL, rdO, rdP, okParts, eqCells, okEqCells, fillA, okFill, setAt, implies_true, forall_const, forall_eq, ne_eq, exists_eq_right_right, exists_eq_right, exists_eq_left, exists_eq_left', rootL, eAttr, eInt, eBool, lit_eq, hat, e0, eNode, b1, b5])
    intro r4 hr4
    obtain ⟨m1, m2⟩ := n4 r4 hr4
    have B4 := B.more hr4 ⟨53, 6, [eNode x]⟩
    have h4 := B.free hr4
    have hW := writeStringE_ok (G := G) ([60, 33, 68, 79, 67, 84, 89, 80, 69, 32] ++ x.name ++ [62]) B4 (by simp) (by simp only [List.length_append, List.length_cons, List.length_nil] at hs ⊢; omega)
    simp only [List.cons_append, List.nil_append] at hW
    repeat' (first | ((with_reducible refine brC (fun _ => ?_) fun _ => ?_) <;> try (exfalso; omega)) | (with_reducible refine And.intro ?_ ?_; · omega) | simp -dsimp -implicitDefEqProofs (disch := omega) only [VCA, pg_gl, ↓upd_none, Nat.reduceEqDiff, Nat.reduceBEq, Nat.reduceAdd, Nat.reduceSub, Nat.reduceMul, Nat.reduceLT, Nat.reduceLeDiff, ↓reduceIte, reduceCtorEq, rsOf, rootsOf, SOp.rd, SI.rd, SX.rd, rdL, rdO, rdP, okParts, eqCells, okEqCells, fillA, okFill, setAt, implies_true, forall_const, forall_eq, ne_eq, exists_eq_right_right, exists_eq_right, exists_eq_left, exists_eq_left', rootL, eAttr, eInt, eBool, lit_eq, hat, e0, eNode, upd_same, m1, m2, b1, b5])
    refine DCalls.of hW ?_
    rintro a h6 ⟨rfl, B6⟩
    simp -dsimp -implicitDefEqProofs (disch := omega) only [VCA, pg_gl, ↓upd_none, Nat.reduceEqDiff, Nat.reduceBEq, Nat.reduceAdd, Nat.reduceSub, Nat.reduceMul, Nat.reduceLT, Nat.reduceLeDiff, ↓reduceIte, reduceCtorEq, rsOf, rootsOf, SOp.rd, SI.rd, SX.rd, rdL, rdO, rdP, okParts, eqCells, okEqCells, fillA, okFill, setAt, implies_true, forall_const, forall_eq, ne_eq, exists_eq_right_right, exists_eq_right, exists_eq_left, exists_eq_left', rootL, eAttr, eInt, eBool, lit_eq]
    first | exact ⟨_, Sub.refl _, B6.less h4⟩ | exact ⟨_, Sub.refl _, by simpa using B6.less h4⟩
  rw [if_neg h5] at he
  have b5 : (x.kind == 5) = false := by simpa using h5
  by_cases h4 : x.kind = 4
  · have b4 : (x.kind == 4) = true := by simpa using h4
    rw [if_pos h4] at he
    rw [he] at hs ⊢
    refine dcalls_of_vc Tryd.func49 hn49 hc49 (by rw [Tryd.ntmps49]; simp) (by rw [Tryd.ntmps49]; decide) ?_
    simp -dsimp -implicitDefEqProofs (disch := omega) only [VCA, pg_gl, ↓upd_none, Nat.reduceEqDiff, Nat.reduceBEq, Nat.reduceAdd, Nat.reduceSub, Nat.reduceMul, Nat.reduceLT, Nat.reduceLeDiff, ↓reduceIte, reduceCtorEq, rsOf, rootsOf, SOp.rd, SI.rd, SX.rd, rdL, rdO, rdP, okParts, eqCells, okEqCells, fillA, okFill, setAt, implies_true, forall_const, forall_eq, ne_eq, exists_eq_right_right, exists_eq_right, exists_eq_left, exists_eq_left', rootL, eAttr, eInt, eBool, lit_eq, c49, hat]
    repeat' (first | ((with_reducible refine brC (fun _ => ?_) fun _ => ?_) <;> try (exfalso; omega)) | (with_reducible refine And.intro ?_ ?_; · omega) | simp -dsimp -implicitDefEqProofs (disch := omega) only [VCA, pg_gl, ↓upd_none, Nat.reduceEqDiff, Nat.reduceBEq, Nat.reduceAdd, Nat.reduceSub, Nat.reduceMul, Nat.reduceLT, Nat.reduceLeDiff, ↓reduceIte, reduceCtorEq, rsOf, rootsOf, SOp.rd, SI.rd, SX.rd, rdL, rdO, rdP, okParts, eqCells, okEqCells, fillA, okFill, setAt, implies_true, forall_const, forall_eq, ne_eq, exists_eq_right_right, exists_eq_right, exists_eq_left, exists_eq_left', rootL, eAttr, eInt, eBool, lit_eq, hat, e0, eNode, b1, b5, b4])
    intro r4 hr4
    obtain ⟨m1, m2⟩ := n4 r4 hr4
    have B4 := B.more hr4 ⟨53, 6, [eNode x]⟩
    have h4' := B.free hr4
    have hW := writeStringE_ok (G := G) ([60, 33, 45, 45] ++ x.text ++ [45, 45, 62]) B4 (by simp) (by simp only [List.length_append, List.length_cons, List.length_nil] at hs ⊢; omega)
    simp only [List.cons_append, List.nil_append] at hW
    repeat' (first | ((with_reducible refine brC (fun _ => ?_) fun _ => ?_) <;> try (exfalso; omega)) | (with_reducible refine And.intro ?_ ?_; · omega) | simp -dsimp -implicitDefEqProofs (disch := omega) only [VCA, pg_gl, ↓upd_none, Nat.reduceEqDiff, Nat.reduceBEq, Nat.reduceAdd, Nat.reduceSub, Nat.reduceMul, Nat.reduceLT, Nat.reduceLeDiff, ↓reduceIte, reduceCtorEq, rsOf, rootsOf, SOp.rd, SI.rd, SX.rd, rdL, rdO, rdP, okParts, eqCells, okEqCells, fillA, okFill, setAt, implies_true, forall_const, forall_eq, ne_eq, exists_eq_right_right, exists_eq_right, exists_eq_left, exists_eq_left', rootL, eAttr, eInt, eBool, lit_eq, hat, e0, eNode, upd_same, m1, m2, b1, b5, b4])
    refine DCalls.of hW ?_
    rintro a h6 ⟨rfl, B6⟩
    simp -dsimp -implicitDefEqProofs (disch := omega) only [VCA, pg_gl, ↓upd_none, Nat.reduceEqDiff, Nat.reduceBEq, Nat.reduceAdd, Nat.reduceSub, Nat.reduceMul, Nat.reduceLT, Nat.reduceLeDiff, ↓reduceIte, reduceCtorEq, rsOf, rootsOf, SOp.rd, SI.rd, SX.rd, rdL, rdO, rdP, okParts, eqCells, okEqCells, fillA, okFill, setAt, implies_true, forall_const, forall_eq, ne_eq, exists_eq_right_right, exists_eq_right, exists_eq_left, exists_eq_left', rootL, eAttr, eInt, eBool, lit_eq]
    first | exact ⟨_, Sub.refl _, B6.less h4'⟩ | exact ⟨_, Sub.refl _, by simpa using B6.less h4'⟩
  rw [if_neg h4] at he
  have b4 : (x.kind == 4) = false := by simpa using h4
  by_cases h3 : x.kind = 3
  · have b3 : (x.kind == 3) = true := by simpa using h3
    rw [if_pos h3] at he
    have hs0 : s ≠ [] := hc.resolve_right (fun q => q h3)
    have he : htmlM d n = textH d x := he
    rw [he] at hs ⊢
    refine dcalls_of_vc Tryd.func49 hn49 hc49 (by rw [Tryd.ntmps49]; simp) (by rw [Tryd.ntmps49]; decide) ?_
    simp -dsimp -implicitDefEqProofs (disch := omega) only [VCA, pg_gl, ↓upd_none, Nat.reduceEqDiff, Nat.reduceBEq, Nat.reduceAdd, Nat.reduceSub, Nat.reduceMul, Nat.reduceLT, Nat.reduceLeDiff, ↓reduceIte, reduceCtorEq, rsOf, rootsOf, SOp.rd, SI.rd, SX.rd, rdL, rdO, rdP, okParts, eqCells, okEqCells, fillA, okFill, setAt, implies_true, forall_const, forall_eq, ne_eq, exists_eq_right_right, exists_eq_right, exists_eq_left, exists_eq_left', rootL, eAttr, eInt, eBool, lit_eq, c49, hat]
    repeat' (first | ((with_reducible refine brC (fun _ => ?_) fun _ => ?_) <;> try (exfalso; omega)) | (with_reducible refine And.intro ?_ ?_; · omega) | simp -dsimp -implicitDefEqProofs (disch := omega) only [VCA, pg_gl, ↓upd_none, Nat.reduceEqDiff, Nat.reduceBEq, Nat.reduceAdd, Nat.reduceSub, Nat.reduceMul, Nat.reduceLT, Nat.reduceLeDiff, ↓reduceIte, reduceCtorEq, rsOf, rootsOf, SOp.rd, SI.rd, SX.rd, rdL, rdO, rdP, okParts, eqCells, okEqCells, fillA, okFill, setAt, implies_true, forall_const, forall_eq, ne_eq, exists_eq_right_right, exists_eq_right, exists_eq_left, exists_eq_left', rootL, eAttr, eInt, eBool, lit_eq, hat, e0, eNode, b1, b5, b4, b3])
    intro r4 hr4
    obtain ⟨m1, m2⟩ := n4 r4 hr4
    have B4 := B.more hr4 ⟨53, 6, [eNode x]⟩
    have h4' := B.free hr4
    have hT := wtext_ok (G := G) hG d Z (fun hp => by rw [← hx] at hp ⊢; exact (V.par_in hn hp).1) B4 (fun q => hs0 (List.append_eq_nil_iff.1 q).1) (by omega)
    unfold eNode at hT
    repeat' (first | ((with_reducible refine brC (fun _ => ?_) fun _ => ?_) <;> try (exfalso; omega)) | (with_reducible refine And.intro ?_ ?_; · omega) | simp -dsimp -implicitDefEqProofs (disch := omega) only [VCA, pg_gl, ↓upd_none, Nat.reduceEqDiff, Nat.reduceBEq, Nat.reduceAdd, Nat.reduceSub, Nat.reduceMul, Nat.reduceLT, Nat.reduceLeDiff, ↓reduceIte, reduceCtorEq, rsOf, rootsOf, SOp.rd, SI.rd, SX.rd, rdL, rdO, rdP, okParts, eqCells, okEqCells, fillA, okFill, setAt, implies_true, forall_const, forall_eq, ne_eq, exists_eq_right_right, exists_eq_right, exists_eq_left, exists_eq_left', rootL, eAttr, eInt, eBool, lit_eq, hat, e0, eNode, upd_same, m1, m2, b1, b5, b4, b3])
    refine DCalls.of hT ?_
    rintro a h6 ⟨rfl, B6⟩
    simp -dsimp -implicitDefEqProofs (disch := omega) only [VCA, pg_gl, ↓upd_none, Nat.reduceEqDiff, Nat.reduceBEq, Nat.reduceAdd, Nat.reduceSub, Nat.reduceMul, Nat.reduceLT, Nat.reduceLeDiff, ↓reduceIte, reduceCtorEq, rsOf, rootsOf, SOp.rd, SI.rd, SX.rd, rdL, rdO, rdP, okParts, eqCells, okEqCells, fillA, okFill, setAt, implies_true, forall_const, forall_eq, ne_eq, exists_eq_right_right, exists_eq_right, exists_eq_left, exists_eq_left', rootL, eAttr, eInt, eBool, lit_eq]
    first | exact ⟨_, Sub.refl _, B6.less h4'⟩ | exact ⟨_, Sub.refl _, by simpa using B6.less h4'⟩
  have h2 : x.kind = 2 := by omega
  have b3 : (x.kind == 3) = false := by simpa using h3
  refine dcalls_of_vc Tryd.func49 hn49 hc49 (by rw [Tryd.ntmps49]; simp) (by rw [Tryd.ntmps49]; decide) ?_
  simp -dsimp -implicitDefEqProofs (disch := omega) only [VCA, pg_gl, ↓upd_none, Nat.reduceEqDiff, Nat.reduceBEq, Nat.reduceAdd, Nat.reduceSub, Nat.reduceMul, Nat.reduceLT, Nat.reduceLeDiff, ↓reduceIte, reduceCtorEq, rsOf, rootsOf, SOp.rd, SI.rd, SX.rd, rdL, rdO, rdP, okParts, eqCells, okEqCells, fillA, okFill, setAt, implies_true, forall_const, forall_eq, ne_eq, exists_eq_right_right, exists_eq_right, exists_eq_left, exists_eq_left', rootL, eAttr, eInt, eBool, lit_eq, c49, hat]
  repeat' (first | ((with_reducible refine brC (fun _ => ?_) fun _ => ?_) <;> try (exfalso; omega)) | (with_reducible refine And.intro ?_ ?_; · omega) | simp -dsimp -implicitDefEqProofs (disch := omega) only [VCA, pg_gl, ↓upd_none, Nat.reduceEqDiff, Nat.reduceBEq, Nat.reduceAdd, Nat.reduceSub, Nat.reduceMul, Nat.reduceLT, Nat.reduceLeDiff, ↓reduceIte, reduceCtorEq, rsOf, rootsOf, SOp.rd, SI.rd, SX.rd, rdL, rdO, rdP, okParts, eqCells, okEqCells, fillA, okFill, setAt, implies_true, forall_const, forall_eq, ne_eq, exists_eq_right_right, exists_eq_right, exists_eq_left, exists_eq_left', rootL, eAttr, eInt, eBool, lit_eq, hat, e0, eNode, b1, b5, b4, b3])
  intro r4 hr4
  obtain ⟨m1, m2⟩ := n4 r4 hr4
  have B4 := B.more hr4 ⟨53, 6, [eNode x]⟩
  have h4' := B.free hr4
  repeat' (first | ((with_reducible refine brC (fun _ => ?_) fun _ => ?_) <;> try (exfalso; omega)) | (with_reducible refine And.intro ?_ ?_; · omega) | simp -dsimp -implicitDefEqProofs (disch := omega) only [VCA, pg_gl, ↓upd_none, Nat.reduceEqDiff, Nat.reduceBEq, Nat.reduceAdd, Nat.reduceSub, Nat.reduceMul, Nat.reduceLT, Nat.reduceLeDiff, ↓reduceIte, reduceCtorEq, rsOf, rootsOf, SOp.rd, SI.rd, SX.rd, rdL, rdO, rdP, okParts, eqCells, okEqCells, fillA, okFill, setAt, implies_true, forall_const, forall_eq, ne_eq, exists_eq_right_right, exists_eq_right, exists_eq_left, exists_eq_left', rootL, eAttr, eInt, eBool, lit_eq, hat, e0, eNode, upd_same, m1, m2, b1, b5, b4, b3])
  refine DCalls.of (hE h2 _ _ _ _ B4 hs) ?_
  rintro a h6 ⟨rfl, B6⟩
  simp -dsimp -implicitDefEqProofs (disch := omega) only [VCA, pg_gl, ↓upd_none, Nat.reduceEqDiff, Nat.reduceBEq, Nat.reduceAdd, Nat.reduceSub, Nat.reduceMul, Nat.reduceLT, Nat.reduceLeDiff, ↓reduceIte, reduceCtorEq, rsOf, rootsOf, SOp.rd, SI.rd, SX.rd, rdL, rdO, rdP, okParts, eqCells, okEqCells, fillA, okFill, setAt, implies_true, forall_const, forall_eq, ne_eq, exists_eq_right_right, exists_eq_right, exists_eq_left, exists_eq_left', rootL, eAttr, eInt, eBool, lit_eq]
  exact ⟨_, Sub.refl _, B6.less h4'⟩
def htmlV (d : HDoc) (n : Int) : List UInt8 × Int := if docE d ≠ 0 then ([], docE d) else if ¬ inD d n then ([], 1) else (htmlM d n, 0)
def c26 : SFun := ⟨.seq (.reg [⟨some 2, .boxF 29 2 (.t 0), none⟩, ⟨some 4, .mv (.c (.str [])), none⟩, ⟨some 5, .mv (.c (.int .i64 0)), none⟩]) (.seq (.seq (.reg [⟨some 8, .ld 2 true (.t 2), none⟩, ⟨some 9, .pcall 22 [.t 8], none⟩, ⟨some 6, .mv (.t 9), none⟩]) (.seq (.reg [⟨some 10, .mv (.t 6), none⟩, ⟨some 11, .bin .neq (.t 10) (.c (.int .i64 0)), none⟩]) (.cond (.t 11) (.seq (.reg [⟨some 12, .mv (.t 6), none⟩, ⟨some 4, .mv (.c (.str [])), none⟩, ⟨some 5, .mv (.t 12), none⟩]) .ret) .skip))) (.seq (.seq (.reg [⟨some 13, .mv (.t 1), none⟩, ⟨some 14, .bin .lss (.t 13) (.c (.int .i64 0)), none⟩, ⟨some 15, .mv (.t 14), none⟩, ⟨some 16, .mv (.t 1), some (15, false)⟩, ⟨some 17, .fldA 0 (.t 2), some (15, false)⟩, ⟨some 18, .ld 1 false (.t 17), some (15, false)⟩, ⟨some 19, .len (.t 18), some (15, false)⟩, ⟨some 20, .bin .geq (.t 16) (.t 19), some (15, false)⟩, ⟨some 21, .pick (.t 15) (.c (.bool true)) (.t 20), none⟩]) (.cond (.t 21) (.seq (.reg [⟨some 4, .mv (.c (.str [])), none⟩, ⟨some 5, .mv (.c (.int .i64 1)), none⟩]) .ret) .skip)) (.seq (.reg [⟨some 22, .ld 2 true (.t 2), none⟩, ⟨some 23, .bld [.prim (Value.pointer none), .emp, .emp, .bool false] [(2, (2, (.t 22)))], none⟩, ⟨some 24, .box 92 4 (.t 23), none⟩, ⟨some 7, .mv (.t 24), none⟩]) (.seq (.reg [⟨some 25, .mv (.t 7), none⟩, ⟨some 26, .mv (.t 1), none⟩, ⟨some 27, .call (.c (.fn 49 [] [])) [.t 25, .t 26], none⟩]) (.seq (.reg [⟨some 28, .mv (.t 7), none⟩, ⟨some 29, .fldA 0 (.t 28), none⟩, ⟨some 30, .fldA 0 (.t 29), none⟩, ⟨some 31, .call (.c (.fn 43 [] [])) [.t 30], none⟩, ⟨some 4, .mv (.t 31), none⟩, ⟨some 5, .mv (.c (.int .i64 0)), none⟩]) .ret))))), [.tmp 4, .tmp 5]⟩
theorem hc26 : toSF Tryd.prog {pure := [22], how := [(24, 6)]} Tryd.f26 = some c26 := by kernel_rfl
theorem hn26 : (Tryd.f26.name == "runtime.NumGoroutine") = false := by kernel_rfl
theorem html_ok (hG : MaxOK G) (d : HDoc) (sm : DocSm d) (n : Int) (h3 : docE d = 0 → inD d n → (nd d n).kind ≠ 3) : PCalls (Pg G) 26 [.agg (eDoc d), aInt n] (.tup [.str (htmlV d n).1, aInt (htmlV d n).2]) := fun h => by
  have hC := check_ok (G := G) d sm
  have hl := sm.len
  unfold eDoc at hC
  unfold htmlV
  by_cases hd : docE d = 0
  · rw [if_neg (by simpa using hd)]
    rw [hd] at hC
    have V := (docE_iff d).1 hd
    by_cases hn : inD d n
    · rw [if_neg (by simpa using hn)]
      have n0 := hn.1
      have n1 := hn.2
      have hN := wnode_ok (G := G) hG d V n hn
      have hlen := html_len V n hn
      have hbl := below_len V hn
      have vl := V.len
      refine dcalls_of_vc Tryd.func26 hn26 hc26 (by rw [Tryd.ntmps26]; simp) (by rw [Tryd.ntmps26]; decide) ?_
      simp -dsimp -implicitDefEqProofs (disch := omega) only [↓vcOps_sp 15, ↓vcD_sp 15, VCA, pg_gl, ↓upd_none, Nat.reduceEqDiff, Nat.reduceBEq, Nat.reduceAdd, Nat.reduceSub, Nat.reduceMul, Nat.reduceLT, Nat.reduceLeDiff, ↓reduceIte, reduceCtorEq, rsOf, rootsOf, SOp.rd, SI.rd, SX.rd, rdL, rdO, rdP, okParts, eqCells, okEqCells, fillA, okFill, setAt, implies_true, forall_const, forall_eq, ne_eq, exists_eq_right_right, exists_eq_right, exists_eq_left, exists_eq_left', rootL, eAttr, eInt, eBool, lit_eq, c26, eDoc]
      repeat' (first | ((with_reducible refine brC (fun _ => ?_) fun _ => ?_) <;> try (exfalso; omega)) | (with_reducible apply pcallE.of; · exact hC) | (with_reducible refine And.intro ?_ ?_; · omega) | simp -dsimp -implicitDefEqProofs (disch := omega) only [↓vcOps_sp 15, ↓vcD_sp 15, VCA, pg_gl, ↓upd_none, Nat.reduceEqDiff, Nat.reduceBEq, Nat.reduceAdd, Nat.reduceSub, Nat.reduceMul, Nat.reduceLT, Nat.reduceLeDiff, ↓reduceIte, reduceCtorEq, rsOf, rootsOf, SOp.rd, SI.rd, SX.rd, rdL, rdO, rdP, okParts, eqCells, okEqCells, fillA, okFill, setAt, implies_true, forall_const, forall_eq, ne_eq, exists_eq_right_right, exists_eq_right, exists_eq_left, exists_eq_left', rootL, eAttr, eInt, eBool, lit_eq, eDoc])
      intro rb hrb
      have B0 := BlE.new (x := sl eNode d.nodes) (y := .bool d.quirks) h rb hrb
      repeat' (first | ((with_reducible refine brC (fun _ => ?_) fun _ => ?_) <;> try (exfalso; omega)) | (with_reducible refine And.intro ?_ ?_; · omega) | simp -dsimp -implicitDefEqProofs (disch := omega) only [↓vcOps_sp 15, ↓vcD_sp 15, VCA, pg_gl, ↓upd_none, Nat.reduceEqDiff, Nat.reduceBEq, Nat.reduceAdd, Nat.reduceSub, Nat.reduceMul, Nat.reduceLT, Nat.reduceLeDiff, ↓reduceIte, reduceCtorEq, rsOf, rootsOf, SOp.rd, SI.rd, SX.rd, rdL, rdO, rdP, okParts, eqCells, okEqCells, fillA, okFill, setAt, implies_true, forall_const, forall_eq, ne_eq, exists_eq_right_right, exists_eq_right, exists_eq_left, exists_eq_left', rootL, eAttr, eInt, eBool, lit_eq, eDoc])
      refine DCalls.of (hN _ _ _ _ B0 (.inr (h3 hd hn)) (by simp only [List.length_nil]; omega)) ?_
      rintro a h5 ⟨rfl, B5⟩
      rw [List.nil_append] at B5
      repeat' (first | ((with_reducible refine brC (fun _ => ?_) fun _ => ?_) <;> try (exfalso; omega)) | (with_reducible refine And.intro ?_ ?_; · omega) | simp -dsimp -implicitDefEqProofs (disch := omega) only [↓vcOps_sp 15, ↓vcD_sp 15, VCA, pg_gl, ↓upd_none, Nat.reduceEqDiff, Nat.reduceBEq, Nat.reduceAdd, Nat.reduceSub, Nat.reduceMul, Nat.reduceLT, Nat.reduceLeDiff, ↓reduceIte, reduceCtorEq, rsOf, rootsOf, SOp.rd, SI.rd, SX.rd, rdL, rdO, rdP, okParts, eqCells, okEqCells, fillA, okFill, setAt, implies_true, forall_const, forall_eq, ne_eq, exists_eq_right_right, exists_eq_right, exists_eq_left, exists_eq_left', rootL, eAttr, eInt, eBool, lit_eq, eDoc])
      refine DCalls.of (stringE_ok B5 (by omega)) ?_
      rintro a h6 ⟨rfl, S⟩
      simp -dsimp -implicitDefEqProofs (disch := omega) only [↓vcOps_sp 15, ↓vcD_sp 15, VCA, pg_gl, ↓upd_none, Nat.reduceEqDiff, Nat.reduceBEq, Nat.reduceAdd, Nat.reduceSub, Nat.reduceMul, Nat.reduceLT, Nat.reduceLeDiff, ↓reduceIte, reduceCtorEq, rsOf, rootsOf, SOp.rd, SI.rd, SX.rd, rdL, rdO, rdP, okParts, eqCells, okEqCells, fillA, okFill, setAt, implies_true, forall_const, forall_eq, ne_eq, exists_eq_right_right, exists_eq_right, exists_eq_left, exists_eq_left', rootL, eAttr, eInt, eBool, lit_eq, eDoc]
      exact S
    · have hn' : n < 0 ∨ (d.nodes.length : Int) ≤ n := by unfold inD at hn; omega
      rw [if_pos (by simpa using hn)]
      refine dcalls_of_vc Tryd.func26 hn26 hc26 (by rw [Tryd.ntmps26]; simp) (by rw [Tryd.ntmps26]; decide) ?_
      simp -dsimp -implicitDefEqProofs (disch := omega) only [↓vcOps_sp 15, ↓vcD_sp 15, VCA, pg_gl, ↓upd_none, Nat.reduceEqDiff, Nat.reduceBEq, Nat.reduceAdd, Nat.reduceSub, Nat.reduceMul, Nat.reduceLT, Nat.reduceLeDiff, ↓reduceIte, reduceCtorEq, rsOf, rootsOf, SOp.rd, SI.rd, SX.rd, rdL, rdO, rdP, okParts, eqCells, okEqCells, fillA, okFill, setAt, implies_true, forall_const, forall_eq, ne_eq, exists_eq_right_right, exists_eq_right, exists_eq_left, exists_eq_left', rootL, eAttr, eInt, eBool, lit_eq, c26, eDoc]
      repeat' (first | ((with_reducible refine brC (fun _ => ?_) fun _ => ?_) <;> try (exfalso; omega)) | (with_reducible apply pcallE.of; · exact hC) | (with_reducible refine And.intro ?_ ?_; · omega) | simp -dsimp -implicitDefEqProofs (disch := omega) only [↓vcOps_sp 15, ↓vcD_sp 15, VCA, pg_gl, ↓upd_none, Nat.reduceEqDiff, Nat.reduceBEq, Nat.reduceAdd, Nat.reduceSub, Nat.reduceMul, Nat.reduceLT, Nat.reduceLeDiff, ↓reduceIte, reduceCtorEq, rsOf, rootsOf, SOp.rd, SI.rd, SX.rd, rdL, rdO, rdP, okParts, eqCells, okEqCells, fillA, okFill, setAt, implies_true, forall_const, forall_eq, ne_eq, exists_eq_right_right, exists_eq_right, exists_eq_left, exists_eq_left', rootL, eAttr, eInt, eBool, lit_eq, eDoc])
      all_goals first | exact Sub.refl _ | trace_state
  · rw [if_pos hd]
    have hd' : (docE d != 0) = true := by simpa using hd
    refine dcalls_of_vc Tryd.func26 hn26 hc26 (by rw [Tryd.ntmps26]; simp) (by rw [Tryd.ntmps26]; decide) ?_
    simp -dsimp -implicitDefEqProofs (disch := omega) only [↓vcOps_sp 15, ↓vcD_sp 15, VCA, pg_gl, ↓upd_none, Nat.reduceEqDiff, Nat.reduceBEq, Nat.reduceAdd, Nat.reduceSub, Nat.reduceMul, Nat.reduceLT, Nat.reduceLeDiff, ↓reduceIte, reduceCtorEq, rsOf, rootsOf, SOp.rd, SI.rd, SX.rd, rdL, rdO, rdP, okParts, eqCells, okEqCells, fillA, okFill, setAt, implies_true, forall_const, forall_eq, ne_eq, exists_eq_right_right, exists_eq_right, exists_eq_left, exists_eq_left', rootL, eAttr, eInt, eBool, lit_eq, c26, eDoc]
    repeat' (first | ((with_reducible refine brC (fun _ => ?_) fun _ => ?_) <;> try (exfalso; omega)) | (with_reducible apply pcallE.of; · exact hC) | (with_reducible refine And.intro ?_ ?_; · omega) | simp -dsimp -implicitDefEqProofs (disch := omega) only [↓vcOps_sp 15, ↓vcD_sp 15, VCA, pg_gl, ↓upd_none, Nat.reduceEqDiff, Nat.reduceBEq, Nat.reduceAdd, Nat.reduceSub, Nat.reduceMul, Nat.reduceLT, Nat.reduceLeDiff, ↓reduceIte, reduceCtorEq, rsOf, rootsOf, SOp.rd, SI.rd, SX.rd, rdL, rdO, rdP, okParts, eqCells, okEqCells, fillA, okFill, setAt, implies_true, forall_const, forall_eq, ne_eq, exists_eq_right_right, exists_eq_right, exists_eq_left, exists_eq_left', rootL, eAttr, eInt, eBool, lit_eq, eDoc, hd'])
    all_goals first | exact Sub.refl _ | trace_state
end Go.Proofs.K
end
section
set_option linter.unusedSimpArgs false
set_option linter.unusedVariables false
namespace Go.Proofs.K
open Go Go.Sim Go.Proofs
variable {G : Glob}
theorem repeat_ok (k : Nat) (hk : k ≤ 1000000) : PCalls (Pg G) 66 [.str [32], aInt k] (.str (List.replicate k 32)) := by
  refine ofBelow ⟨_, Tryd.func66, by kernel_rfl, by kernel_rfl⟩ fun g w vs GR V => ?_
  obtain ⟨u, v, rfl, hu, hv⟩ := V.two_inv
  rw [hu.str_inv', hv.int_inv']
  refine (Tryd.strings_Repeat ⟨⟨[32]⟩⟩ k w (by omega) (by show 1 * k ≤ _; omega)).mono fun e w' ⟨he, hw⟩ => ⟨_, he, hw, fun g w => ?_⟩
  have := Lib.repeatL_replicate 32 1 k
  rw [Nat.mul_one] at this
  show VRel g w (.string ⟨(Lib.repeatL (List.replicate 1 32) k).toArray⟩) _
  rw [this]; exact VRel.str_mk g w _
theorem cut_ok (hG : MaxLenOK G) (s t : List UInt8) (hs : s.length < 4294967281) : PCalls (Pg G) 19 [.str s, .str t] (.tup [.str (Lib.cut s t).1, .str (Lib.cut s t).2.1, .bool (Lib.cut s t).2.2]) := by
  obtain ⟨m, hG⟩ := hG
  refine ofBelow ⟨_, Tryd.func19, by kernel_rfl, by kernel_rfl⟩ fun g w vs GR V => ?_
  obtain ⟨u, v, rfl, hu, hv⟩ := V.two_inv
  rw [hu.str_inv', hv.str_inv']
  refine (Tryd.strings_Cut ⟨⟨s⟩⟩ ⟨⟨t⟩⟩ m w hs (GR.int hG)).mono fun e w' ⟨he, n, hw⟩ => ⟨_, he, ?_, fun g w => ?_⟩
  · rw [hw]; exact ⟨rfl, rfl, rfl, Nat.le_refl _, fun _ _ => rfl⟩
  · refine .tup _ _ rfl fun j u a hu ha => ?_
    match j with
    | 0 => simp at hu ha; subst hu ha; exact VRel.str_mk g w _
    | 1 => simp at hu ha; subst hu ha; exact VRel.str_mk g w _
    | 2 => simp at hu ha; subst hu ha; exact .bool _
    | j + 3 => simp at hu
theorem trimLeft_ok (s : List UInt8) (c : UInt8) (hc : c.toNat < 128) : PCalls (Pg G) 20 [.str s, .str [c]] (.str (s.dropWhile (· == c))) := by
  refine PCalls.ofRun ⟨_, Tryd.func20, by kernel_rfl, by kernel_rfl⟩ fun g w vs GR V => ?_
  obtain ⟨u, v, rfl, hu, hv⟩ := V.two_inv
  rw [hu.str_inv', hv.str_inv']
  exact (Tryd.strings_TrimLeft_one ⟨⟨s⟩⟩ c hc w).mono fun e w' ⟨he, hw⟩ => ⟨_, he, hw, VRel.str_mk g w _⟩
theorem cut_cutB (b : UInt8) (s : List UInt8) : Lib.cut s [b] = ((cutB b s).1, (cutB b s).2.getD [], (cutB b s).2.isSome) := by
  obtain ⟨h1, h2⟩ := cutB_is (b := b) s
  have hocc : ∀ i, Lib.occAt s [b] i = decide (s[i]? = some b) := fun i => by
    unfold Lib.occAt
    cases hd : s.drop i with
    | nil =>
      have := List.drop_eq_nil_iff.1 hd
      rw [List.getElem?_eq_none this]; rfl
    | cons c r =>
      have : s[i]? = some c := by rw [← List.head?_drop, hd]; rfl
      rw [this, Bool.eq_iff_iff]
      simp [List.isPrefixOf]
      exact ⟨fun h => h.symm, fun h => h.symm⟩
  unfold Lib.cut
  generalize (cutB b s).1 = x at h1 h2 ⊢
  cases hc : (cutB b s).2 with
  | none =>
    rw [hc] at h2
    simp only [List.append_nil] at h2
    have hi : Lib.index s [b] = -1 := Lib.index_none fun j hj => by
      rw [hocc]
      apply decide_eq_false
      intro h
      exact h1 (by rw [← h2]; exact List.mem_of_getElem? h)
    rw [hi, if_neg (by omega), ← h2]; rfl
  | some r =>
    rw [hc] at h2
    simp only at h2
    have hi : Lib.index s [b] = (x.length : Int) := Lib.index_first (by
        have := congrArg List.length h2
        simp only [List.length_append, List.length_cons] at this; omega) (by
        rw [hocc]
        apply decide_eq_true
        rw [h2]; simp) fun j hj => by
        rw [hocc]
        apply decide_eq_false
        intro h
        rw [h2, List.getElem?_append_left hj] at h
        exact h1 (List.mem_of_getElem? h)
    rw [hi, if_pos (by omega), Int.toNat_natCast]
    have e1 : s.take x.length = x := by conv => lhs; rw [h2]; rw [List.take_left' rfl]
    have e2 : s.drop (x.length + [b].length) = r := by
      have : s.drop (x.length + 1) = r := by
        rw [← List.drop_drop]
        conv => lhs; rw [h2]
        rw [List.drop_left' rfl]; rfl
      exact this
    rw [e1, e2]; rfl
end Go.Proofs.K
end
section
set_option linter.unusedSimpArgs false
set_option linter.unusedVariables false
namespace Go.Proofs.K
open Go Go.Sim Go.Proofs
variable {G : Glob}
def c42 : SFun := ⟨.seq (.reg [⟨some 4, .boxF 29 2 (.t 0), none⟩]) (.seq (.reg [⟨some 10, .fldA 0 (.t 4), none⟩, ⟨some 11, .ld 1 false (.t 10), none⟩, ⟨some 12, .mv (.t 1), none⟩, ⟨some 13, .idxA 6 (.t 11) (.t 12), none⟩, ⟨some 14, .fldA 5 (.t 13), none⟩, ⟨some 15, .ld 1 false (.t 14), none⟩, ⟨some 16, .len (.t 15), none⟩, ⟨some 17, .mv (.c (.int .i64 0)), none⟩]) (.block 0 (.loop (.seq (.reg [⟨some 18, .bin .lss (.t 17) (.t 16), none⟩]) (.seq (.cond (.t 18) .skip (.exit 0)) (.seq (.block 1 (.seq (.reg [⟨some 19, .idxA 1 (.t 15) (.t 17), none⟩, ⟨some 20, .ld 1 false (.t 19), none⟩, ⟨some 9, .mv (.t 20), none⟩]) (.seq (.dreg [(⟨some 21, .mv (.t 3), none⟩, none), (⟨some 22, .mv (.t 2), none⟩, none), (⟨some 23, .pcall 66 [.c (.str [32]), .t 22], none⟩, none), (⟨some 24, .fldA 0 (.t 4), none⟩, none), (⟨some 25, .ld 1 false (.t 24), none⟩, none), (⟨some 26, .mv (.t 9), none⟩, none), (⟨some 27, .idxA 6 (.t 25) (.t 26), none⟩, none), (⟨some 28, .ld 6 true (.t 27), none⟩, none), (⟨some 29, .pcall 67 [.t 28], none⟩, none), (⟨some 30, .bin .add (.t 23) (.t 29), none⟩, none), (⟨some 31, .bin .add (.t 30) (.c (.str [10])), none⟩, none), (⟨some 32, .call (.c (.fn 41 [] [])) [.t 21, .t 31], none⟩, (some [28, 25]))]) (.reg [⟨some 33, .ld 2 true (.t 4), none⟩, ⟨some 34, .mv (.t 9), none⟩, ⟨some 35, .mv (.t 2), none⟩, ⟨some 36, .bin .add (.t 35) (.c (.int .i64 1)), none⟩, ⟨some 37, .mv (.t 3), none⟩, ⟨some 38, .call (.c (.fn 42 [] [])) [.t 33, .t 34, .t 36, .t 37], none⟩])))) (.reg [⟨some 39, .bin .add (.t 17) (.c (.int .i64 1)), none⟩, ⟨some 17, .mv (.t 39), none⟩]))))))), []⟩
theorem hc42 : toSF Tryd.prog {pure := [66, 67]} Tryd.f42 = some c42 := by kernel_rfl
theorem hn42 : (Tryd.f42.name == "runtime.NumGoroutine") = false := by kernel_rfl
def LinesC (G : Glob) (d : HDoc) (n : Int) : Prop := ∀ (h0 h : Heap) (rb k : Nat) (s : List UInt8), Bl h0 rb s h → k ≤ up d n → s.length + (linesM d n k).length ≤ 100000000 →
  DCalls (Pg G) 42 [.agg (eDoc d), aInt n, aInt k, .vp rb 0] h fun a h' => a = .tup [] ∧ Bl h0 rb (s ++ linesM d n k) h'
theorem lines_ok (d : HDoc) (V : DV d) : ∀ n, inD d n → LinesC G d n := V.down fun n hn ih h0 h rb q s B hq hs => by
  have i0 := hn.1
  have i1 := hn.2
  have e0 : nth d.nodes n.toNat = nd d n := rfl
  have hup := V.deep n hn
  have kl : (nd d n).kids.length ≤ 200 := by
    have := nodup_len d.nodes.length (nd d n).kids (V.nodup n hn) fun k hk => (V.kid n hn k hk).1
    have := V.len; omega
  have hR := repeat_ok (G := G) q (by omega)
  have le := lines_eq V hn q
  rw [le] at hs ⊢
  refine dcalls_of_vc Tryd.func42 hn42 hc42 (by rw [Tryd.ntmps42]; simp) (by rw [Tryd.ntmps42]; decide) ?_
  simp -dsimp -implicitDefEqProofs (disch := omega) only [VCA, pg_gl, ↓upd_none, Nat.reduceEqDiff, Nat.reduceBEq, Nat.reduceAdd, Nat.reduceSub, Nat.reduceMul, Nat.reduceLT, Nat.reduceLeDiff, ↓reduceIte, reduceCtorEq, rsOf, rootsOf, SOp.rd, SI.rd, SX.rd, rdL, rdO, rdP, okParts, eqCells, okEqCells, fillA, okFill, setAt, implies_true, forall_const, forall_eq, ne_eq, exists_eq_right_right, exists_eq_right, exists_eq_left, exists_eq_left', rootL, eAttr, eInt, eBool, lit_eq, c42, eDoc]
  repeat' (first | ((with_reducible refine brC (fun _ => ?_) fun _ => ?_) <;> try (exfalso; omega)) | (with_reducible refine And.intro ?_ ?_; · omega) | simp -dsimp -implicitDefEqProofs (disch := omega) only [VCA, pg_gl, ↓upd_none, Nat.reduceEqDiff, Nat.reduceBEq, Nat.reduceAdd, Nat.reduceSub, Nat.reduceMul, Nat.reduceLT, Nat.reduceLeDiff, ↓reduceIte, reduceCtorEq, rsOf, rootsOf, SOp.rd, SI.rd, SX.rd, rdL, rdO, rdP, okParts, eqCells, okEqCells, fillA, okFill, setAt, implies_true, forall_const, forall_eq, ne_eq, exists_eq_right_right, exists_eq_right, exists_eq_left, exists_eq_left', rootL, eAttr, eInt, eBool, lit_eq, e0, eNode, eDoc])
  refine LoopVC.intro (fun m e h' => ∃ k : Nat, k ≤ (nd d n).kids.length ∧ m = (nd d n).kids.length - k ∧ e 2 = aInt q ∧ e 3 = .vp rb 0 ∧ e 4 = .pin (eDoc d) ∧ e 15 = sl eInt (nd d n).kids ∧ e 16 = aInt (nd d n).kids.length ∧ e 17 = aInt k ∧
      Bl h0 rb (s ++ ((nd d n).kids.take k).flatMap (fun m => rowL d q m ++ linesM d m (q + 1))) h') (nd d n).kids.length
    ⟨0, by omega, by omega, rfl, rfl, rfl, rfl, rfl, rfl, by simpa using B⟩ ?_
  rintro m e h' ⟨k, hk, rfl, e2, e3, e4, e15, e16, e17, B'⟩
  by_cases hlt : k < (nd d n).kids.length
  · obtain ⟨c, hcc⟩ : ∃ c, nth (nd d n).kids k = c := ⟨_, rfl⟩
    have hm : c ∈ (nd d n).kids := hcc ▸ nth_mem' hlt
    have hci := (V.kid n hn c hm).1
    have c0 := hci.1
    have c1 := hci.2
    have ec : nth d.nodes c.toNat = nd d c := rfl
    have Zc := nodeE_sz (V.node c hci)
    have hL := line_ok (G := G) (nd d c) Zc
    have hll := line_len Zc
    have ts : ((nd d n).kids.take (k + 1)).flatMap (fun m => rowL d q m ++ linesM d m (q + 1)) = ((nd d n).kids.take k).flatMap (fun m => rowL d q m ++ linesM d m (q + 1)) ++ (rowL d q c ++ linesM d c (q + 1)) := by
      rw [take_snoc hlt, List.flatMap_append, List.flatMap_cons, List.flatMap_nil, List.append_nil, hcc]
    have hlen : (((nd d n).kids.take (k + 1)).flatMap (fun m => rowL d q m ++ linesM d m (q + 1))).length ≤ ((nd d n).kids.flatMap (fun m => rowL d q m ++ linesM d m (q + 1))).length := by
      conv => rhs; rw [← List.take_append_drop (k + 1) (nd d n).kids, List.flatMap_append, List.length_append]
      omega
    rw [ts, List.length_append, List.length_append] at hlen
    have eL : (rowL d q c).length = q + (lineM (nd d c)).length + 1 := by unfold rowL; simp only [List.length_append, List.length_replicate, List.length_cons, List.length_nil]
    have hW := writeString_ok (G := G) (List.replicate q 32 ++ lineM (nd d c) ++ [10]) B' (by simp) (by simp only [List.length_append, List.length_replicate, List.length_cons, List.length_nil]; omega)
    have hu := V.up_kid hn hm
    unfold eNode at hL
    repeat' (first | ((with_reducible refine brC (fun _ => ?_) fun _ => ?_) <;> try (exfalso; omega)) | (with_reducible apply pcallE.of; · exact hR) | (with_reducible apply pcallE.of; · exact hL) | (with_reducible refine And.intro ?_ ?_; · omega) | simp -dsimp -implicitDefEqProofs (disch := omega) only [VCA, pg_gl, ↓upd_none, Nat.reduceEqDiff, Nat.reduceBEq, Nat.reduceAdd, Nat.reduceSub, Nat.reduceMul, Nat.reduceLT, Nat.reduceLeDiff, ↓reduceIte, reduceCtorEq, rsOf, rootsOf, SOp.rd, SI.rd, SX.rd, rdL, rdO, rdP, okParts, eqCells, okEqCells, fillA, okFill, setAt, implies_true, forall_const, forall_eq, ne_eq, exists_eq_right_right, exists_eq_right, exists_eq_left, exists_eq_left', rootL, eAttr, eInt, eBool, lit_eq, e2, e3, e4, e15, e16, e17, hcc, ec, eDoc, eNode])
    refine ⟨by rw [List.length_replicate]; omega, by rw [List.length_append, List.length_replicate]; omega, DCalls.of hW ?_⟩
    rintro a h5 ⟨rfl, B5⟩
    have hI := ih c hm h0 h5 rb (q + 1) _ B5 (by omega) (by
      simp only [List.length_append, List.length_replicate, List.length_cons, List.length_nil]; omega)
    unfold eDoc at hI
    have eq1 : ((q + 1 : Nat) : Int) = (q : Int) + 1 := by omega
    rw [eq1] at hI
    repeat' (first | ((with_reducible refine brC (fun _ => ?_) fun _ => ?_) <;> try (exfalso; omega)) | (with_reducible refine And.intro ?_ ?_; · omega) | simp -dsimp -implicitDefEqProofs (disch := omega) only [VCA, pg_gl, ↓upd_none, Nat.reduceEqDiff, Nat.reduceBEq, Nat.reduceAdd, Nat.reduceSub, Nat.reduceMul, Nat.reduceLT, Nat.reduceLeDiff, ↓reduceIte, reduceCtorEq, rsOf, rootsOf, SOp.rd, SI.rd, SX.rd, rdL, rdO, rdP, okParts, eqCells, okEqCells, fillA, okFill, setAt, implies_true, forall_const, forall_eq, ne_eq, exists_eq_right_right, exists_eq_right, exists_eq_left, exists_eq_left', rootL, eAttr, eInt, eBool, lit_eq, e2, e3, e4, e15, e16, e17, eDoc])
    refine DCalls.of hI ?_
    rintro a h6 ⟨rfl, B6⟩
    simp -dsimp -implicitDefEqProofs (disch := omega) only [VCA, pg_gl, ↓upd_none, Nat.reduceEqDiff, Nat.reduceBEq, Nat.reduceAdd, Nat.reduceSub, Nat.reduceMul, Nat.reduceLT, Nat.reduceLeDiff, ↓reduceIte, reduceCtorEq, rsOf, rootsOf, SOp.rd, SI.rd, SX.rd, rdL, rdO, rdP, okParts, eqCells, okEqCells, fillA, okFill, setAt, implies_true, forall_const, forall_eq, ne_eq, exists_eq_right_right, exists_eq_right, exists_eq_left, exists_eq_left', rootL, eAttr, eInt, eBool, lit_eq, e2, e3, e4, e15, e16, e17]
    exact ⟨_, by omega, k + 1, by omega, rfl, rfl, by omega, by rw [ts, show rowL d q c = List.replicate q 32 ++ lineM (nd d c) ++ [10] from rfl, ← List.append_assoc, ← List.append_assoc]; exact B6⟩
  · obtain rfl : k = (nd d n).kids.length := by omega
    rw [List.take_length] at B'
    repeat' (first | ((with_reducible refine brC (fun _ => ?_) fun _ => ?_) <;> try (exfalso; omega)) | (with_reducible refine And.intro ?_ ?_; · omega) | simp -dsimp -implicitDefEqProofs (disch := omega) only [VCA, pg_gl, ↓upd_none, Nat.reduceEqDiff, Nat.reduceBEq, Nat.reduceAdd, Nat.reduceSub, Nat.reduceMul, Nat.reduceLT, Nat.reduceLeDiff, ↓reduceIte, reduceCtorEq, rsOf, rootsOf, SOp.rd, SI.rd, SX.rd, rdL, rdO, rdP, okParts, eqCells, okEqCells, fillA, okFill, setAt, implies_true, forall_const, forall_eq, ne_eq, exists_eq_right_right, exists_eq_right, exists_eq_left, exists_eq_left', rootL, eAttr, eInt, eBool, lit_eq, e2, e3, e4, e15, e16, e17, eDoc])
    exact ⟨_, Sub.refl _, B'⟩
def c23 : SFun := ⟨.seq (.reg [⟨some 1, .boxF 29 2 (.t 0), none⟩, ⟨some 2, .mv (.c (.str [])), none⟩]) (.seq (.reg [⟨some 3, .new 79 2 [.prim (Value.pointer none), .emp], none⟩]) (.seq (.seq (.reg [⟨some 4, .fldA 1 (.t 1), none⟩, ⟨some 5, .ld 1 false (.t 4), none⟩]) (.cond (.t 5) (.reg [⟨some 6, .call (.c (.fn 41 [] [])) [.t 3, .c (.str [126, 10])], none⟩]) .skip)) (.seq (.reg [⟨some 7, .ld 2 true (.t 1), none⟩, ⟨some 8, .call (.c (.fn 42 [] [])) [.t 7, .c (.int .i64 0), .c (.int .i64 0), .t 3], none⟩]) (.seq (.reg [⟨some 9, .call (.c (.fn 43 [] [])) [.t 3], none⟩, ⟨some 2, .mv (.t 9), none⟩]) .ret)))), [.tmp 2]⟩
theorem hc23 : toSF Tryd.prog {} Tryd.f23 = some c23 := by kernel_rfl
theorem hn23 : (Tryd.f23.name == "runtime.NumGoroutine") = false := by kernel_rfl
theorem tree_ok (d : HDoc) (V : DV d) : PCalls (Pg G) 23 [.agg (eDoc d)] (.str (treeM d)) := fun h => by
  have hu : up d 0 = 0 := V.up_top (by rw [V.root]; omega)
  have hlen := lines_len V 0 V.zero 0 (Nat.zero_le _)
  have hbl := below_len V V.zero
  have vl := V.len
  have hL := lines_ok (G := G) d V 0 V.zero
  unfold treeM
  refine dcalls_of_vc Tryd.func23 hn23 hc23 (by rw [Tryd.ntmps23]; simp) (by rw [Tryd.ntmps23]; decide) ?_
  simp -dsimp -implicitDefEqProofs (disch := omega) only [VCA, pg_gl, ↓upd_none, Nat.reduceEqDiff, Nat.reduceBEq, Nat.reduceAdd, Nat.reduceSub, Nat.reduceMul, Nat.reduceLT, Nat.reduceLeDiff, ↓reduceIte, reduceCtorEq, rsOf, rootsOf, SOp.rd, SI.rd, SX.rd, rdL, rdO, rdP, okParts, eqCells, okEqCells, fillA, okFill, setAt, implies_true, forall_const, forall_eq, ne_eq, exists_eq_right_right, exists_eq_right, exists_eq_left, exists_eq_left', rootL, eAttr, eInt, eBool, lit_eq, c23, eDoc]
  intro rb hrb
  have B0 := Bl.new h rb hrb
  have hW := writeString_ok (G := G) [126, 10] B0 (by simp) (by simp)
  have fin : ∀ (s : List UInt8) (h1 : Heap), s.length ≤ 2 → Bl h rb s h1 → DCalls (Pg G) 42 [.agg [sl eNode d.nodes, .bool d.quirks], aInt 0, aInt 0, .vp rb 0] h1 fun a h' => a = .tup [] ∧ Bl h rb (s ++ linesM d 0 0) h' := fun s h1 hs B =>
    hL h h1 rb 0 s B (Nat.zero_le _) (by omega)
  cases hq : d.quirks with
  | true =>
    rw [hq] at fin
    repeat' (first | ((with_reducible refine brC (fun _ => ?_) fun _ => ?_) <;> try (exfalso; omega)) | (with_reducible refine And.intro ?_ ?_; · omega) | simp -dsimp -implicitDefEqProofs (disch := omega) only [VCA, pg_gl, ↓upd_none, Nat.reduceEqDiff, Nat.reduceBEq, Nat.reduceAdd, Nat.reduceSub, Nat.reduceMul, Nat.reduceLT, Nat.reduceLeDiff, ↓reduceIte, reduceCtorEq, rsOf, rootsOf, SOp.rd, SI.rd, SX.rd, rdL, rdO, rdP, okParts, eqCells, okEqCells, fillA, okFill, setAt, implies_true, forall_const, forall_eq, ne_eq, exists_eq_right_right, exists_eq_right, exists_eq_left, exists_eq_left', rootL, eAttr, eInt, eBool, lit_eq, hq])
    all_goals first
      | (refine DCalls.of hW ?_
         rintro a h5 ⟨rfl, B5⟩
         rw [List.nil_append] at B5
         repeat' (first | ((with_reducible refine brC (fun _ => ?_) fun _ => ?_) <;> try (exfalso; omega)) | (with_reducible refine And.intro ?_ ?_; · omega) | simp -dsimp -implicitDefEqProofs (disch := omega) only [VCA, pg_gl, ↓upd_none, Nat.reduceEqDiff, Nat.reduceBEq, Nat.reduceAdd, Nat.reduceSub, Nat.reduceMul, Nat.reduceLT, Nat.reduceLeDiff, ↓reduceIte, reduceCtorEq, rsOf, rootsOf, SOp.rd, SI.rd, SX.rd, rdL, rdO, rdP, okParts, eqCells, okEqCells, fillA, okFill, setAt, implies_true, forall_const, forall_eq, ne_eq, exists_eq_right_right, exists_eq_right, exists_eq_left, exists_eq_left', rootL, eAttr, eInt, eBool, lit_eq, hq])
         refine DCalls.of (fin _ h5 (by simp) B5) ?_
         rintro a h6 ⟨rfl, B6⟩
         repeat' (first | ((with_reducible refine brC (fun _ => ?_) fun _ => ?_) <;> try (exfalso; omega)) | (with_reducible refine And.intro ?_ ?_; · omega) | simp -dsimp -implicitDefEqProofs (disch := omega) only [VCA, pg_gl, ↓upd_none, Nat.reduceEqDiff, Nat.reduceBEq, Nat.reduceAdd, Nat.reduceSub, Nat.reduceMul, Nat.reduceLT, Nat.reduceLeDiff, ↓reduceIte, reduceCtorEq, rsOf, rootsOf, SOp.rd, SI.rd, SX.rd, rdL, rdO, rdP, okParts, eqCells, okEqCells, fillA, okFill, setAt, implies_true, forall_const, forall_eq, ne_eq, exists_eq_right_right, exists_eq_right, exists_eq_left, exists_eq_left', rootL, eAttr, eInt, eBool, lit_eq, hq])
         refine DCalls.of (string_ok B6 (by simp only [List.length_append, List.length_cons, List.length_nil]; omega)) ?_
         rintro a h7 ⟨rfl, S⟩
         simp -dsimp -implicitDefEqProofs (disch := omega) only [VCA, pg_gl, ↓upd_none, Nat.reduceEqDiff, Nat.reduceBEq, Nat.reduceAdd, Nat.reduceSub, Nat.reduceMul, Nat.reduceLT, Nat.reduceLeDiff, ↓reduceIte, reduceCtorEq, rsOf, rootsOf, SOp.rd, SI.rd, SX.rd, rdL, rdO, rdP, okParts, eqCells, okEqCells, fillA, okFill, setAt, implies_true, forall_const, forall_eq, ne_eq, exists_eq_right_right, exists_eq_right, exists_eq_left, exists_eq_left', rootL, eAttr, eInt, eBool, lit_eq, hq]
         exact S)
      | (exfalso; simp_all; done)
  | false =>
    rw [hq] at fin
    repeat' (first | ((with_reducible refine brC (fun _ => ?_) fun _ => ?_) <;> try (exfalso; omega)) | (with_reducible refine And.intro ?_ ?_; · omega) | simp -dsimp -implicitDefEqProofs (disch := omega) only [VCA, pg_gl, ↓upd_none, Nat.reduceEqDiff, Nat.reduceBEq, Nat.reduceAdd, Nat.reduceSub, Nat.reduceMul, Nat.reduceLT, Nat.reduceLeDiff, ↓reduceIte, reduceCtorEq, rsOf, rootsOf, SOp.rd, SI.rd, SX.rd, rdL, rdO, rdP, okParts, eqCells, okEqCells, fillA, okFill, setAt, implies_true, forall_const, forall_eq, ne_eq, exists_eq_right_right, exists_eq_right, exists_eq_left, exists_eq_left', rootL, eAttr, eInt, eBool, lit_eq, hq])
    all_goals first
      | (refine DCalls.of (fin _ _ (by simp) B0) ?_
         rintro a h6 ⟨rfl, B6⟩
         rw [List.nil_append] at B6
         repeat' (first | ((with_reducible refine brC (fun _ => ?_) fun _ => ?_) <;> try (exfalso; omega)) | (with_reducible refine And.intro ?_ ?_; · omega) | simp -dsimp -implicitDefEqProofs (disch := omega) only [VCA, pg_gl, ↓upd_none, Nat.reduceEqDiff, Nat.reduceBEq, Nat.reduceAdd, Nat.reduceSub, Nat.reduceMul, Nat.reduceLT, Nat.reduceLeDiff, ↓reduceIte, reduceCtorEq, rsOf, rootsOf, SOp.rd, SI.rd, SX.rd, rdL, rdO, rdP, okParts, eqCells, okEqCells, fillA, okFill, setAt, implies_true, forall_const, forall_eq, ne_eq, exists_eq_right_right, exists_eq_right, exists_eq_left, exists_eq_left', rootL, eAttr, eInt, eBool, lit_eq, hq])
         refine DCalls.of (string_ok B6 (by omega)) ?_
         rintro a h7 ⟨rfl, S⟩
         simp -dsimp -implicitDefEqProofs (disch := omega) only [VCA, pg_gl, ↓upd_none, Nat.reduceEqDiff, Nat.reduceBEq, Nat.reduceAdd, Nat.reduceSub, Nat.reduceMul, Nat.reduceLT, Nat.reduceLeDiff, ↓reduceIte, reduceCtorEq, rsOf, rootsOf, SOp.rd, SI.rd, SX.rd, rdL, rdO, rdP, okParts, eqCells, okEqCells, fillA, okFill, setAt, implies_true, forall_const, forall_eq, ne_eq, exists_eq_right_right, exists_eq_right, exists_eq_left, exists_eq_left', rootL, eAttr, eInt, eBool, lit_eq, hq]
         exact S)
      | (exfalso; simp_all; done)
end Go.Proofs.K
end
section
set_option linter.unusedSimpArgs false
set_option linter.unusedVariables false
namespace Go.Proofs.K
open Go Go.Sim Go.Proofs
variable {G : Glob}
theorem hexX_is (c : UInt8) : Lib.indexByte hexS c = hexX c := of_decide_eq_true (u8_all (p := fun c => decide (Lib.indexByte hexS c = hexX c)) (by decide +kernel) c)
theorem uq_other {c : UInt8} {t : List UInt8} (h1 : c ≠ 34) (h2 : c ≠ 92 ∨ t.length < 2) : uqL (c :: t) = (uqL t).map fun q => (c :: q.1, q.2) := by
  by_cases h : c = 92
  · subst h
    have hl := h2.resolve_left (fun h => h rfl)
    match t, hl with
    | [], _ => rfl
    | [a], _ =>
      unfold uqL
      rw [if_neg (by decide)]
      by_cases ha : a = 34
      · rw [if_pos ha, if_pos ha]; rfl
      · rw [if_neg ha, if_neg ha]; rfl
  · exact uq_cons h1 h
theorem uq_pair (a b : UInt8) (r : List UInt8) : uqL (92 :: a :: b :: r) = (uqL r).map fun q => (byteX a b :: q.1, q.2) := by rw [uqL, if_neg (by decide), if_pos rfl]
def outQ : Option (List UInt8 × List UInt8) → List UInt8 × List UInt8 × Bool
  | some q => (q.1, q.2, true)
  | none => ([], [], false)
def unqV (s : List UInt8) : List UInt8 × List UInt8 × Bool := outQ (inq uqL s)
theorem drop_at {s : List UInt8} {i : Nat} (h : i < s.length) : s.drop i = s.getD i 0 :: s.drop (i + 1) := by
  rw [List.drop_eq_getElem_cons h, List.getD_eq_getElem?_getD, List.getElem?_eq_getElem h]; rfl
theorem u8_of {n : Int} (h0 : 0 ≤ n) (h1 : n < 256) : ((UInt8.ofNat n.toNat).toNat : Int) = n := by simp; omega
theorem Acc_rd {h h' : Heap} {ty sz : Nat} {cells : List (List AVal)} {a : AVal} (A : Acc h ty sz cells a h') : Rd h' sz a cells := by
  rcases A with ⟨rfl, rfl⟩ | ⟨r, _, g1, rfl⟩
  · rfl
  · exact ⟨rfl, _, g1, by simp, by simp only [List.drop_zero, List.take_length]⟩
theorem byteX_cell (a b : UInt8) : (((byteX a b).toNat : Nat) : Int) = IntKind.u8.wrap (bitF .or .i64 (IntKind.i64.wrap (hexX a * 16)) (hexX b)) := by
  unfold byteX
  have h : ∀ x : Int, 0 ≤ IntKind.u8.wrap x ∧ IntKind.u8.wrap x < 256 := fun x => by rw [IntKind.wrap_u8]; omega
  exact u8_of (h _).1 (h _).2
def c37 : SFun := ⟨.seq (.reg [⟨some 2, .mv (.c (.str [])), none⟩, ⟨some 3, .mv (.c (.str [])), none⟩, ⟨some 4, .mv (.c (.bool false)), none⟩]) (.seq (.seq (.reg [⟨some 7, .mv (.t 0), none⟩, ⟨some 8, .bin .eql (.t 7) (.c (.str [])), none⟩, ⟨some 9, .mv (.t 8), none⟩, ⟨some 10, .mv (.t 0), some (9, false)⟩, ⟨some 11, .idxS (.t 10) (.c (.int .i64 0)), some (9, false)⟩, ⟨some 12, .bin .neq (.t 11) (.c (.int .u8 34)), some (9, false)⟩, ⟨some 13, .pick (.t 9) (.c (.bool true)) (.t 12), none⟩]) (.cond (.t 13) (.seq (.reg [⟨some 2, .mv (.c (.str [])), none⟩, ⟨some 3, .mv (.c (.str [])), none⟩, ⟨some 4, .mv (.c (.bool false)), none⟩]) .ret) .skip)) (.seq (.reg [⟨some 5, .mv (.c .emp), none⟩]) (.seq (.seq (.reg [⟨some 6, .mv (.c (.int .i64 1)), none⟩]) (.block 0 (.loop (.seq (.seq (.reg [⟨some 14, .mv (.t 6), none⟩, ⟨some 15, .mv (.t 0), none⟩, ⟨some 16, .lenS (.t 15), none⟩, ⟨some 17, .bin .lss (.t 14) (.t 16), none⟩]) (.cond (.t 17) .skip (.exit 0))) (.seq (.block 1 (.block 2 (.seq (.reg [⟨some 27, .mv (.t 0), none⟩, ⟨some 28, .mv (.t 6), none⟩, ⟨some 29, .idxS (.t 27) (.t 28), none⟩, ⟨some 30, .bin .eql (.t 29) (.c (.int .u8 34)), none⟩, ⟨some 26, .mv (.t 30), none⟩]) (.cond (.t 26) (.seq (.dreg [(⟨some 31, .mv (.t 5), none⟩, none), (⟨some 33, .mv (.t 0), none⟩, none), (⟨some 34, .mv (.t 6), none⟩, none), (⟨some 35, .bin .add (.t 34) (.c (.int .i64 1)), none⟩, none), (⟨some 36, .slS (.t 33) (some (.t 35)) none, none⟩, none), (⟨some 32, .b2s (.t 31), none⟩, (some [])), (⟨some 2, .mv (.t 32), none⟩, none), (⟨some 3, .mv (.t 36), none⟩, none), (⟨some 4, .mv (.c (.bool true)), none⟩, none)]) .ret) (.seq (.reg [⟨some 38, .mv (.t 0), none⟩, ⟨some 39, .mv (.t 6), none⟩, ⟨some 40, .idxS (.t 38) (.t 39), none⟩, ⟨some 41, .bin .eql (.t 40) (.c (.int .u8 92)), none⟩, ⟨some 42, .mv (.t 41), none⟩, ⟨some 43, .mv (.t 6), some (42, true)⟩, ⟨some 44, .bin .add (.t 43) (.c (.int .i64 2)), some (42, true)⟩, ⟨some 45, .mv (.t 0), some (42, true)⟩, ⟨some 46, .lenS (.t 45), some (42, true)⟩, ⟨some 47, .bin .lss (.t 44) (.t 46), some (42, true)⟩, ⟨some 48, .pick (.t 42) (.t 47) (.c (.bool false)), none⟩, ⟨some 37, .mv (.t 48), none⟩]) (.cond (.t 37) (.seq (.dreg [(⟨some 49, .mv (.t 5), none⟩, none), (⟨some 50, .mv (.t 0), none⟩, none), (⟨some 51, .mv (.t 6), none⟩, none), (⟨some 52, .bin .add (.t 51) (.c (.int .i64 1)), none⟩, none), (⟨some 53, .idxS (.t 50) (.t 52), none⟩, none), (⟨some 54, .pcall 61 [.c (.str [48, 49, 50, 51, 52, 53, 54, 55, 56, 57, 97, 98, 99, 100, 101, 102]), .t 53], none⟩, none), (⟨some 55, .bin .shl (.t 54) (.c (.int .u64 4)), none⟩, none), (⟨some 56, .mv (.t 0), none⟩, none), (⟨some 57, .mv (.t 6), none⟩, none), (⟨some 58, .bin .add (.t 57) (.c (.int .i64 2)), none⟩, none), (⟨some 59, .idxS (.t 56) (.t 58), none⟩, none), (⟨some 60, .pcall 61 [.c (.str [48, 49, 50, 51, 52, 53, 54, 55, 56, 57, 97, 98, 99, 100, 101, 102]), .t 59], none⟩, none), (⟨some 61, .bin .or (.t 55) (.t 60), none⟩, none), (⟨some 62, .cvi .u8 (.t 61), none⟩, none), (⟨some 63, .bldF 5 1 [.t 62], none⟩, none), (⟨some 64, .app 5 1 1 (.t 49) (.t 63), none⟩, (some [])), (⟨some 5, .mv (.t 64), none⟩, (some []))]) (.reg [⟨some 65, .mv (.t 6), none⟩, ⟨some 66, .bin .add (.t 65) (.c (.int .i64 2)), none⟩, ⟨some 6, .mv (.t 66), none⟩])) (.reg [⟨some 20, .mv (.t 5), none⟩, ⟨some 21, .mv (.t 0), none⟩, ⟨some 22, .mv (.t 6), none⟩, ⟨some 23, .idxS (.t 21) (.t 22), none⟩, ⟨some 24, .bldF 5 1 [.t 23], none⟩, ⟨some 25, .app 5 1 1 (.t 20) (.t 24), none⟩, ⟨some 5, .mv (.t 25), none⟩]))))))) (.reg [⟨some 18, .mv (.t 6), none⟩, ⟨some 19, .bin .add (.t 18) (.c (.int .i64 1)), none⟩, ⟨some 6, .mv (.t 19), none⟩])))))) (.seq (.reg [⟨some 2, .mv (.c (.str [])), none⟩, ⟨some 3, .mv (.c (.str [])), none⟩, ⟨some 4, .mv (.c (.bool false)), none⟩]) .ret)))), [.tmp 2, .tmp 3, .tmp 4]⟩
theorem hc37 : toSF Tryd.prog {pure := [61]} Tryd.f37 = some c37 := by kernel_rfl
theorem hn37 : (Tryd.f37.name == "runtime.NumGoroutine") = false := by kernel_rfl
set_option maxHeartbeats 1000000 in
theorem unquote_ok (s : List UInt8) (hs : s.length ≤ 1000000) : PCalls (Pg G) 37 [.str s] (.tup [.str (unqV s).1, .str (unqV s).2.1, .bool (unqV s).2.2]) := fun h => by
  unfold unqV
  cases s with
  | nil =>
    refine dcalls_of_vc Tryd.func37 hn37 hc37 (by rw [Tryd.ntmps37]; simp) (by rw [Tryd.ntmps37]; decide) ?_
    simp -dsimp -implicitDefEqProofs (disch := omega) only [↓vcOps_sp 9, ↓vcD_sp 9, ↓vcOps_sp 42, ↓vcD_sp 42, VCA, pg_gl, ↓upd_none, Nat.reduceEqDiff, Nat.reduceBEq, Nat.reduceAdd, Nat.reduceSub, Nat.reduceMul, Nat.reduceLT, Nat.reduceLeDiff, ↓reduceIte, reduceCtorEq, rsOf, rootsOf, SOp.rd, SI.rd, SX.rd, rdL, rdO, rdP, okParts, eqCells, okEqCells, fillA, okFill, setAt, implies_true, forall_const, forall_eq, ne_eq, exists_eq_right_right, exists_eq_right, exists_eq_left, exists_eq_left', rootL, eAttr, eInt, eBool, lit_eq, c37]
    repeat' (first | ((with_reducible refine brC (fun _ => ?_) fun _ => ?_) <;> try (exfalso; omega)) | (with_reducible refine And.intro ?_ ?_; · omega) | simp -dsimp -implicitDefEqProofs (disch := omega) only [↓vcOps_sp 9, ↓vcD_sp 9, ↓vcOps_sp 42, ↓vcD_sp 42, VCA, pg_gl, ↓upd_none, Nat.reduceEqDiff, Nat.reduceBEq, Nat.reduceAdd, Nat.reduceSub, Nat.reduceMul, Nat.reduceLT, Nat.reduceLeDiff, ↓reduceIte, reduceCtorEq, rsOf, rootsOf, SOp.rd, SI.rd, SX.rd, rdL, rdO, rdP, okParts, eqCells, okEqCells, fillA, okFill, setAt, implies_true, forall_const, forall_eq, ne_eq, exists_eq_right_right, exists_eq_right, exists_eq_left, exists_eq_left', rootL, eAttr, eInt, eBool, lit_eq])
    all_goals first | exact Sub.refl _ | exact ⟨Sub.refl _, rfl⟩ | (exfalso; simp_all; done)
  | cons c t =>
    by_cases hc : c = 34
    · subst hc
      have e1 : inq uqL ((34 : UInt8) :: t) = uqL t := by unfold inq; simp
      rw [e1]
      obtain ⟨s, hss⟩ : ∃ s, (34 : UInt8) :: t = s := ⟨_, rfl⟩
      have hd1 : s.drop 1 = t := by rw [← hss]; rfl
      have h34 : s.getD 0 0 = 34 := by rw [← hss]; rfl
      have hp : 0 < s.length := by rw [← hss]; simp
      have sb : (s == []) = false := by rw [← hss]; rfl
      have h34i : (((s.getD 0 0).toNat : Int) != 34) = false := by rw [h34]; rfl
      rw [hss] at hs ⊢
      refine dcalls_of_vc Tryd.func37 hn37 hc37 (by rw [Tryd.ntmps37]; simp) (by rw [Tryd.ntmps37]; decide) ?_
      simp -dsimp -implicitDefEqProofs (disch := omega) only [↓vcOps_sp 9, ↓vcD_sp 9, ↓vcOps_sp 42, ↓vcD_sp 42, VCA, pg_gl, ↓upd_none, Nat.reduceEqDiff, Nat.reduceBEq, Nat.reduceAdd, Nat.reduceSub, Nat.reduceMul, Nat.reduceLT, Nat.reduceLeDiff, ↓reduceIte, reduceCtorEq, rsOf, rootsOf, SOp.rd, SI.rd, SX.rd, rdL, rdO, rdP, okParts, eqCells, okEqCells, fillA, okFill, setAt, implies_true, forall_const, forall_eq, ne_eq, exists_eq_right_right, exists_eq_right, exists_eq_left, exists_eq_left', rootL, eAttr, eInt, eBool, lit_eq, c37, sb, h34i]
      repeat' (first | ((with_reducible refine brC (fun _ => ?_) fun _ => ?_) <;> try (exfalso; omega)) | (with_reducible refine And.intro ?_ ?_; · omega) | simp -dsimp -implicitDefEqProofs (disch := omega) only [↓vcOps_sp 9, ↓vcD_sp 9, ↓vcOps_sp 42, ↓vcD_sp 42, VCA, pg_gl, ↓upd_none, Nat.reduceEqDiff, Nat.reduceBEq, Nat.reduceAdd, Nat.reduceSub, Nat.reduceMul, Nat.reduceLT, Nat.reduceLeDiff, ↓reduceIte, reduceCtorEq, rsOf, rootsOf, SOp.rd, SI.rd, SX.rd, rdL, rdO, rdP, okParts, eqCells, okEqCells, fillA, okFill, setAt, implies_true, forall_const, forall_eq, ne_eq, exists_eq_right_right, exists_eq_right, exists_eq_left, exists_eq_left', rootL, eAttr, eInt, eBool, lit_eq, sb, h34i])
      refine LoopVC.intro (fun m e h' => ∃ (i : Nat) (D : List UInt8) (a : AVal), 1 ≤ i ∧ i ≤ s.length ∧ m = s.length - i ∧ e 0 = .str s ∧ e 6 = aInt i ∧ e 5 = a ∧ Acc h 5 1 (strEs D) a h' ∧ Sim.Sub h h' ∧ D.length ≤ i ∧
          uqL t = (uqL (s.drop i)).map (fun q => (D ++ q.1, q.2))) (s.length - 1)
        ⟨1, [], _, by omega, by omega, by omega, rfl, rfl, rfl, by exact .inl ⟨rfl, rfl⟩, Sub.refl _, by simp, by rw [hd1]; cases uqL t <;> rfl⟩ ?_
      rintro m e h' ⟨i, D, a, hi1, hi2, rfl, e0, e6, e5, A, S, hD, hq⟩
      have DL : (strEs D).length = D.length := by simp [strEs]
      by_cases hlt : i < s.length
      · obtain ⟨c, hcc⟩ : ∃ c, s.getD i 0 = c := ⟨_, rfl⟩
        have hdr := drop_at hlt
        rw [hcc] at hdr
        by_cases c34 : c = 34
        · have b34 : ((c.toNat : Int) == 34) = true := by rw [c34]; rfl
          rw [hdr, c34, uq_end] at hq
          rw [hq]
          repeat' (first | ((with_reducible refine brC (fun _ => ?_) fun _ => ?_) <;> try (exfalso; omega)) | (with_reducible refine And.intro ?_ ?_; · omega) | simp -dsimp -implicitDefEqProofs (disch := omega) only [↓vcOps_sp 9, ↓vcD_sp 9, ↓vcOps_sp 42, ↓vcD_sp 42, VCA, pg_gl, ↓upd_none, Nat.reduceEqDiff, Nat.reduceBEq, Nat.reduceAdd, Nat.reduceSub, Nat.reduceMul, Nat.reduceLT, Nat.reduceLeDiff, ↓reduceIte, reduceCtorEq, rsOf, rootsOf, SOp.rd, SI.rd, SX.rd, rdL, rdO, rdP, okParts, eqCells, okEqCells, fillA, okFill, setAt, implies_true, forall_const, forall_eq, ne_eq, exists_eq_right_right, exists_eq_right, exists_eq_left, exists_eq_left', rootL, eAttr, eInt, eBool, lit_eq, e0, e6, e5, hcc, b34])
          refine ⟨D, Acc_rd A, S, ?_⟩
          simp [outQ]
        · have b34 : ((c.toNat : Int) == 34) = false := by
            rw [beq_eq_false_iff_ne]; intro hh; exact c34 (bt_inj (by simpa using hh))
          by_cases h92 : c = 92 ∧ i + 2 < s.length
          · have b92 : ((c.toNat : Int) == 92) = true := by rw [h92.1]; rfl
            have hl2 := h92.2
            obtain ⟨a1, ha1⟩ : ∃ a1, s.getD (i + 1) 0 = a1 := ⟨_, rfl⟩
            obtain ⟨a2, ha2⟩ : ∃ a2, s.getD (i + 2) 0 = a2 := ⟨_, rfl⟩
            have d1 := drop_at (s := s) (i := i + 1) (by omega)
            have d2 := drop_at (s := s) (i := i + 2) (by omega)
            rw [ha1] at d1
            rw [ha2] at d2
            rw [hdr, d1, d2, h92.1, uq_pair] at hq
            have hA := indexByte_ok (G := G) hexS a1
            have hB := indexByte_ok (G := G) hexS a2
            rw [hexX_is] at hA hB
            unfold hexS at hA hB
            have hbx := byteX_cell a1 a2
            have t1 : ((i : Int) + 1).toNat = i + 1 := by omega
            have t2 : ((i : Int) + 2).toNat = i + 2 := by omega
            repeat' (first | ((with_reducible refine brC (fun _ => ?_) fun _ => ?_) <;> try (exfalso; omega)) | (with_reducible apply pcallE.of; · exact hA) | (with_reducible apply pcallE.of; · exact hB) | (with_reducible refine And.intro ?_ ?_; · omega) | simp -dsimp -implicitDefEqProofs (disch := omega) only [↓vcOps_sp 9, ↓vcD_sp 9, ↓vcOps_sp 42, ↓vcD_sp 42, VCA, pg_gl, ↓upd_none, Nat.reduceEqDiff, Nat.reduceBEq, Nat.reduceAdd, Nat.reduceSub, Nat.reduceMul, Nat.reduceLT, Nat.reduceLeDiff, ↓reduceIte, reduceCtorEq, rsOf, rootsOf, SOp.rd, SI.rd, SX.rd, rdL, rdO, rdP, okParts, eqCells, okEqCells, fillA, okFill, setAt, implies_true, forall_const, forall_eq, ne_eq, exists_eq_right_right, exists_eq_right, exists_eq_left, exists_eq_left', rootL, eAttr, eInt, eBool, lit_eq, e0, e6, e5, hcc, b34, b92, ha1, ha2, t1, t2])
            have hs4 : (2 : Int) ^ min (Int.toNat 4) IntKind.i64.bits = 16 := by decide
            rw [hs4, ← hbx]
            refine A.app S (by simp only [List.length_cons, List.length_nil]; omega) (by simp only [List.length_cons, List.length_nil]; omega) (fun a' h3 A' S' => ?_)
            repeat' (first | ((with_reducible refine brC (fun _ => ?_) fun _ => ?_) <;> try (exfalso; omega)) | (with_reducible refine And.intro ?_ ?_; · omega) | simp -dsimp -implicitDefEqProofs (disch := omega) only [↓vcOps_sp 9, ↓vcD_sp 9, ↓vcOps_sp 42, ↓vcD_sp 42, VCA, pg_gl, ↓upd_none, Nat.reduceEqDiff, Nat.reduceBEq, Nat.reduceAdd, Nat.reduceSub, Nat.reduceMul, Nat.reduceLT, Nat.reduceLeDiff, ↓reduceIte, reduceCtorEq, rsOf, rootsOf, SOp.rd, SI.rd, SX.rd, rdL, rdO, rdP, okParts, eqCells, okEqCells, fillA, okFill, setAt, implies_true, forall_const, forall_eq, ne_eq, exists_eq_right_right, exists_eq_right, exists_eq_left, exists_eq_left', rootL, eAttr, eInt, eBool, lit_eq, e0, e6, e5, hcc, b34, b92, ha1, ha2, t1, t2])
            refine ⟨_, by omega, i + 3, D ++ [byteX a1 a2], a', by omega, by omega, rfl, by omega, rfl, ?_, S', by simp; omega, ?_⟩
            · rw [strEs_app]; exact A'
            · rw [hq, Option.map_map]
              congr 1
              funext q
              simp
          · have hq2 : uqL t = (uqL (s.drop (i + 1))).map (fun q => ((D ++ [c]) ++ q.1, q.2)) := by
              rw [hq, hdr, uq_other c34 (by
                by_cases q : c = 92
                · refine .inr ?_
                  rw [List.length_drop]
                  have : ¬ i + 2 < s.length := fun hh => h92 ⟨q, hh⟩
                  omega
                · exact .inl q), Option.map_map]
              congr 1
              funext q
              simp
            repeat' (first | ((with_reducible refine brC (fun _ => ?_) fun _ => ?_) <;> try (exfalso; omega)) | ((refine A.app S (by simp [strEs]; omega) (by simp [strEs]; omega) (fun a' h3 A' S' => ?_))) | (with_reducible refine And.intro ?_ ?_; · omega) | simp -dsimp -implicitDefEqProofs (disch := omega) only [↓vcOps_sp 9, ↓vcD_sp 9, ↓vcOps_sp 42, ↓vcD_sp 42, VCA, pg_gl, ↓upd_none, Nat.reduceEqDiff, Nat.reduceBEq, Nat.reduceAdd, Nat.reduceSub, Nat.reduceMul, Nat.reduceLT, Nat.reduceLeDiff, ↓reduceIte, reduceCtorEq, rsOf, rootsOf, SOp.rd, SI.rd, SX.rd, rdL, rdO, rdP, okParts, eqCells, okEqCells, fillA, okFill, setAt, implies_true, forall_const, forall_eq, ne_eq, exists_eq_right_right, exists_eq_right, exists_eq_left, exists_eq_left', rootL, eAttr, eInt, eBool, lit_eq, e0, e6, e5, hcc, b34])
            all_goals first
              | (refine ⟨_, by omega, i + 1, D ++ [c], a', by omega, by omega, rfl, by omega, rfl, ?_, S', by simp; omega, hq2⟩
                 rw [strEs_app]; exact A')
              | (exfalso
                 have hx : (c.toNat : Int) = 92 := by assumption
                 exact h92 ⟨bt_inj (by simpa using hx), by omega⟩)
      · obtain rfl : i = s.length := by omega
        have hu : uqL (s.drop s.length) = none := by rw [List.drop_length]; rfl
        rw [hu] at hq
        rw [hq]
        repeat' (first | ((with_reducible refine brC (fun _ => ?_) fun _ => ?_) <;> try (exfalso; omega)) | (with_reducible refine And.intro ?_ ?_; · omega) | simp -dsimp -implicitDefEqProofs (disch := omega) only [↓vcOps_sp 9, ↓vcD_sp 9, ↓vcOps_sp 42, ↓vcD_sp 42, VCA, pg_gl, ↓upd_none, Nat.reduceEqDiff, Nat.reduceBEq, Nat.reduceAdd, Nat.reduceSub, Nat.reduceMul, Nat.reduceLT, Nat.reduceLeDiff, ↓reduceIte, reduceCtorEq, rsOf, rootsOf, SOp.rd, SI.rd, SX.rd, rdL, rdO, rdP, okParts, eqCells, okEqCells, fillA, okFill, setAt, implies_true, forall_const, forall_eq, ne_eq, exists_eq_right_right, exists_eq_right, exists_eq_left, exists_eq_left', rootL, eAttr, eInt, eBool, lit_eq, e0, e6, e5])
        first | exact ⟨S, rfl⟩ | exact S | rfl
    · have e1 : inq uqL (c :: t) = none := if_neg hc
      rw [e1]
      have hcb : ((c.toNat : Int) != 34) = true := by
        rw [bne_iff_ne]; intro hh; exact hc (bt_inj (by simpa using hh))
      refine dcalls_of_vc Tryd.func37 hn37 hc37 (by rw [Tryd.ntmps37]; simp) (by rw [Tryd.ntmps37]; decide) ?_
      simp -dsimp -implicitDefEqProofs (disch := omega) only [↓vcOps_sp 9, ↓vcD_sp 9, ↓vcOps_sp 42, ↓vcD_sp 42, VCA, pg_gl, ↓upd_none, Nat.reduceEqDiff, Nat.reduceBEq, Nat.reduceAdd, Nat.reduceSub, Nat.reduceMul, Nat.reduceLT, Nat.reduceLeDiff, ↓reduceIte, reduceCtorEq, rsOf, rootsOf, SOp.rd, SI.rd, SX.rd, rdL, rdO, rdP, okParts, eqCells, okEqCells, fillA, okFill, setAt, implies_true, forall_const, forall_eq, ne_eq, exists_eq_right_right, exists_eq_right, exists_eq_left, exists_eq_left', rootL, eAttr, eInt, eBool, lit_eq, c37]
      repeat' (first | ((with_reducible refine brC (fun _ => ?_) fun _ => ?_) <;> try (exfalso; omega)) | (with_reducible refine And.intro ?_ ?_; · omega) | simp -dsimp -implicitDefEqProofs (disch := omega) only [↓vcOps_sp 9, ↓vcD_sp 9, ↓vcOps_sp 42, ↓vcD_sp 42, VCA, pg_gl, ↓upd_none, Nat.reduceEqDiff, Nat.reduceBEq, Nat.reduceAdd, Nat.reduceSub, Nat.reduceMul, Nat.reduceLT, Nat.reduceLeDiff, ↓reduceIte, reduceCtorEq, rsOf, rootsOf, SOp.rd, SI.rd, SX.rd, rdL, rdO, rdP, okParts, eqCells, okEqCells, fillA, okFill, setAt, implies_true, forall_const, forall_eq, ne_eq, exists_eq_right_right, exists_eq_right, exists_eq_left, exists_eq_left', rootL, eAttr, eInt, eBool, lit_eq, hcb])
      all_goals first | exact Sub.refl _ | exact ⟨Sub.refl _, rfl⟩ | trace_state
end Go.Proofs.K
end
section
set_option linter.unusedSimpArgs false
set_option linter.unusedVariables false
namespace Go.Proofs.K
open Go Go.Sim Go.Proofs
variable {G : Glob}
def pairH (a b : UInt8) : Int := if hexN a < 16 ∧ hexN b < 16 then 16 * (hexN a : Int) + hexN b else -1
theorem hexM_is (a : UInt8) : (hexM a.toNat > 15 ∨ (a.toNat ≥ 65 ∧ a.toNat ≤ 70)) ↔ ¬ hexN a < 16 := of_decide_eq_true (u8_all (p := fun a => decide ((hexM a.toNat > 15 ∨ (a.toNat ≥ 65 ∧ a.toNat ≤ 70)) ↔ ¬ hexN a < 16)) (by decide +kernel) a)
theorem hexM_eq (a : UInt8) : hexN a < 16 → hexM a.toNat = hexN a := of_decide_eq_true (u8_all (p := fun a => decide (hexN a < 16 → hexM a.toNat = hexN a)) (by decide +kernel) a)
def c68 : SFun := ⟨.seq (.reg [⟨some 4, .mv (.c (.int .i64 0)), none⟩]) (.seq (.seq (.reg [⟨some 5, .mv (.t 0), none⟩, ⟨some 6, .pcall 95 [.t 5], none⟩, ⟨some 7, .bin .gtr (.t 6) (.c (.int .i64 15)), none⟩, ⟨some 8, .mv (.t 7), none⟩, ⟨some 9, .mv (.t 1), some (8, false)⟩, ⟨some 10, .pcall 95 [.t 9], some (8, false)⟩, ⟨some 11, .bin .gtr (.t 10) (.c (.int .i64 15)), some (8, false)⟩, ⟨some 12, .pick (.t 8) (.c (.bool true)) (.t 11), none⟩, ⟨some 13, .mv (.t 12), none⟩, ⟨some 14, .mv (.t 0), some (13, false)⟩, ⟨some 15, .bin .geq (.t 14) (.c (.int .u8 65)), some (13, false)⟩, ⟨some 16, .mv (.t 15), some (13, false)⟩, ⟨some 17, .mv (.t 0), some (16, true)⟩, ⟨some 18, .bin .leq (.t 17) (.c (.int .u8 70)), some (16, true)⟩, ⟨some 19, .pick (.t 16) (.t 18) (.c (.bool false)), some (13, false)⟩, ⟨some 20, .pick (.t 13) (.c (.bool true)) (.t 19), none⟩, ⟨some 21, .mv (.t 20), none⟩, ⟨some 22, .mv (.t 1), some (21, false)⟩, ⟨some 23, .bin .geq (.t 22) (.c (.int .u8 65)), some (21, false)⟩, ⟨some 24, .mv (.t 23), some (21, false)⟩, ⟨some 25, .mv (.t 1), some (24, true)⟩, ⟨some 26, .bin .leq (.t 25) (.c (.int .u8 70)), some (24, true)⟩, ⟨some 27, .pick (.t 24) (.t 26) (.c (.bool false)), some (21, false)⟩, ⟨some 28, .pick (.t 21) (.c (.bool true)) (.t 27), none⟩]) (.cond (.t 28) (.seq (.reg [⟨some 4, .mv (.c (.int .i64 (-1))), none⟩]) .ret) .skip)) (.seq (.reg [⟨some 29, .mv (.t 0), none⟩, ⟨some 30, .pcall 95 [.t 29], none⟩, ⟨some 31, .bin .mul (.c (.int .i64 16)) (.t 30), none⟩, ⟨some 32, .mv (.t 1), none⟩, ⟨some 33, .pcall 95 [.t 32], none⟩, ⟨some 34, .bin .add (.t 31) (.t 33), none⟩, ⟨some 4, .mv (.t 34), none⟩]) .ret)), [.tmp 4]⟩
theorem hc68 : toSF Tryd.prog {pure := [95]} Tryd.f68 = some c68 := by kernel_rfl
theorem hn68 : (Tryd.f68.name == "runtime.NumGoroutine") = false := by kernel_rfl
theorem hexPair_ok (a b : UInt8) : PCalls (Pg G) 68 [.int .u8 a.toNat, .int .u8 b.toNat] (aInt (pairH a b)) := fun h => by
  have la : a.toNat < 256 := a.toNat_lt
  have lb : b.toNat < 256 := b.toNat_lt
  have cA := hexOf_ok (G := G) a.toNat (by omega) (by omega)
  have cB := hexOf_ok (G := G) b.toNat (by omega) (by omega)
  have hA := hexM_is a
  have hB := hexM_is b
  have eA := hexM_eq a
  have eB := hexM_eq b
  have pd : pairH a b = if hexN a < 16 ∧ hexN b < 16 then 16 * (hexN a : Int) + hexN b else -1 := rfl
  generalize hexM (a.toNat : Int) = x at *
  generalize hexM (b.toNat : Int) = y at *
  refine dcalls_of_vc Tryd.func68 hn68 hc68 (by rw [Tryd.ntmps68]; simp) (by rw [Tryd.ntmps68]; decide) ?_
  simp -dsimp -implicitDefEqProofs (disch := omega) only [↓vcOps_sp 8, ↓vcD_sp 8, ↓vcOps_sp 13, ↓vcD_sp 13, ↓vcOps_sp 16, ↓vcD_sp 16, ↓vcOps_sp 21, ↓vcD_sp 21, ↓vcOps_sp 24, ↓vcD_sp 24, VCA, pg_gl, ↓upd_none, Nat.reduceEqDiff, Nat.reduceBEq, Nat.reduceAdd, Nat.reduceSub, Nat.reduceMul, Nat.reduceLT, Nat.reduceLeDiff, ↓reduceIte, reduceCtorEq, rsOf, rootsOf, SOp.rd, SI.rd, SX.rd, rdL, rdO, rdP, okParts, eqCells, okEqCells, fillA, okFill, setAt, implies_true, forall_const, forall_eq, ne_eq, exists_eq_right_right, exists_eq_right, exists_eq_left, exists_eq_left', rootL, eAttr, eInt, eBool, lit_eq, c68]
  repeat' (first | ((with_reducible refine brC (fun _ => ?_) fun _ => ?_) <;> try (exfalso; omega)) | (with_reducible apply pcallE.of; · exact cA) | (with_reducible apply pcallE.of; · exact cB) | (with_reducible refine And.intro ?_ ?_; · omega) | simp -dsimp -implicitDefEqProofs (disch := omega) only [↓vcOps_sp 8, ↓vcD_sp 8, ↓vcOps_sp 13, ↓vcD_sp 13, ↓vcOps_sp 16, ↓vcD_sp 16, ↓vcOps_sp 21, ↓vcD_sp 21, ↓vcOps_sp 24, ↓vcD_sp 24, VCA, pg_gl, ↓upd_none, Nat.reduceEqDiff, Nat.reduceBEq, Nat.reduceAdd, Nat.reduceSub, Nat.reduceMul, Nat.reduceLT, Nat.reduceLeDiff, ↓reduceIte, reduceCtorEq, rsOf, rootsOf, SOp.rd, SI.rd, SX.rd, rdL, rdO, rdP, okParts, eqCells, okEqCells, fillA, okFill, setAt, implies_true, forall_const, forall_eq, ne_eq, exists_eq_right_right, exists_eq_right, exists_eq_left, exists_eq_left', rootL, eAttr, eInt, eBool, lit_eq])
  all_goals (refine ⟨Sub.refl _, ?_⟩; rw [pd])
  all_goals first | (rw [if_neg (by omega)]; done) | (rw [if_neg (by omega)]) | (rw [if_pos (by omega), eA (by omega), eB (by omega)])
def outH (s : List UInt8) : Option (List UInt8 × List UInt8) → List UInt8 × Int
  | none => ([], -1)
  | some q => (q.1, (s.length : Int) - q.2.length)
def quotV (s : List UInt8) (at_ : Nat) : List UInt8 × Int := outH s (inq qtL (s.drop at_))
theorem pair_u8 (n : Int) (h0 : 0 ≤ n) (h1 : n < 256) : IntKind.u8.wrap n = ((UInt8.ofNat n.toNat).toNat : Int) := by
  rw [IntKind.wrap_u8]; simp; omega
theorem qt_pair (a b : UInt8) (r : List UInt8) : qtL (92 :: a :: b :: r) = if hexN a < 16 ∧ hexN b < 16 ∧ plainB (UInt8.ofNat (16 * hexN a + hexN b)) = false then (qtL r).map fun q => (UInt8.ofNat (16 * hexN a + hexN b) :: q.1, q.2) else none := by
  rw [qtL, if_neg (by decide), if_pos rfl]
theorem qt_short {t : List UInt8} (h : t.length < 2) : qtL (92 :: t) = none := by
  match t, h with
  | [], _ => rfl
  | [a], _ =>
    unfold qtL
    rw [if_neg (by decide), if_neg (by rw [plain92]; simp)]
def c44 : SFun := ⟨.seq (.reg [⟨some 4, .mv (.c (.str [])), none⟩, ⟨some 5, .mv (.c (.int .i64 0)), none⟩]) (.seq (.seq (.reg [⟨some 10, .mv (.t 1), none⟩, ⟨some 11, .mv (.t 0), none⟩, ⟨some 12, .lenS (.t 11), none⟩, ⟨some 13, .bin .geq (.t 10) (.t 12), none⟩, ⟨some 14, .mv (.t 13), none⟩, ⟨some 15, .mv (.t 0), some (14, false)⟩, ⟨some 16, .mv (.t 1), some (14, false)⟩, ⟨some 17, .idxS (.t 15) (.t 16), some (14, false)⟩, ⟨some 18, .bin .neq (.t 17) (.c (.int .u8 34)), some (14, false)⟩, ⟨some 19, .pick (.t 14) (.c (.bool true)) (.t 18), none⟩]) (.cond (.t 19) (.seq (.reg [⟨some 4, .mv (.c (.str [])), none⟩, ⟨some 5, .mv (.c (.int .i64 (-1))), none⟩]) .ret) .skip)) (.seq (.reg [⟨some 6, .mv (.c .emp), none⟩]) (.seq (.seq (.reg [⟨some 20, .mv (.t 1), none⟩, ⟨some 21, .bin .add (.t 20) (.c (.int .i64 1)), none⟩, ⟨some 7, .mv (.t 21), none⟩]) (.block 0 (.loop (.seq (.seq (.reg [⟨some 22, .mv (.t 7), none⟩, ⟨some 23, .mv (.t 0), none⟩, ⟨some 24, .lenS (.t 23), none⟩, ⟨some 25, .bin .lss (.t 22) (.t 24), none⟩]) (.cond (.t 25) .skip (.exit 0))) (.seq (.block 1 (.seq (.reg [⟨some 28, .mv (.t 0), none⟩, ⟨some 29, .mv (.t 7), none⟩, ⟨some 30, .idxS (.t 28) (.t 29), none⟩, ⟨some 8, .mv (.t 30), none⟩]) (.seq (.seq (.reg [⟨some 31, .mv (.t 8), none⟩, ⟨some 32, .bin .eql (.t 31) (.c (.int .u8 34)), none⟩]) (.cond (.t 32) (.seq (.reg [⟨some 33, .mv (.t 6), none⟩, ⟨some 34, .b2s (.t 33), none⟩, ⟨some 35, .mv (.t 7), none⟩, ⟨some 36, .bin .add (.t 35) (.c (.int .i64 1)), none⟩, ⟨some 4, .mv (.t 34), none⟩, ⟨some 5, .mv (.t 36), none⟩]) .ret) .skip)) (.seq (.seq (.reg [⟨some 37, .mv (.t 8), none⟩, ⟨some 38, .bin .eql (.t 37) (.c (.int .u8 92)), none⟩]) (.cond (.t 38) (.seq (.seq (.dreg [(⟨some 39, .mv (.t 7), none⟩, none), (⟨some 40, .bin .add (.t 39) (.c (.int .i64 2)), none⟩, none), (⟨some 41, .mv (.t 0), none⟩, none), (⟨some 42, .lenS (.t 41), none⟩, none), (⟨some 43, .bin .geq (.t 40) (.t 42), none⟩, none), (⟨some 44, .mv (.t 43), none⟩, none), (⟨some 45, .mv (.t 0), some (44, false)⟩, none), (⟨some 46, .mv (.t 7), some (44, false)⟩, none), (⟨some 47, .bin .add (.t 46) (.c (.int .i64 1)), some (44, false)⟩, none), (⟨some 48, .idxS (.t 45) (.t 47), some (44, false)⟩, none), (⟨some 49, .mv (.t 0), some (44, false)⟩, none), (⟨some 50, .mv (.t 7), some (44, false)⟩, none), (⟨some 51, .bin .add (.t 50) (.c (.int .i64 2)), some (44, false)⟩, none), (⟨some 52, .idxS (.t 49) (.t 51), some (44, false)⟩, none), (⟨some 53, .pcall 68 [.t 48, .t 52], some (44, false)⟩, none), (⟨some 54, .bin .lss (.t 53) (.c (.int .i64 0)), some (44, false)⟩, none), (⟨some 55, .pick (.t 44) (.c (.bool true)) (.t 54), none⟩, none)]) (.cond (.t 55) (.seq (.reg [⟨some 4, .mv (.c (.str [])), none⟩, ⟨some 5, .mv (.c (.int .i64 (-1))), none⟩]) .ret) .skip)) (.seq (.dreg [(⟨some 56, .mv (.t 0), none⟩, none), (⟨some 57, .mv (.t 7), none⟩, none), (⟨some 58, .bin .add (.t 57) (.c (.int .i64 1)), none⟩, none), (⟨some 59, .idxS (.t 56) (.t 58), none⟩, none), (⟨some 60, .mv (.t 0), none⟩, none), (⟨some 61, .mv (.t 7), none⟩, none), (⟨some 62, .bin .add (.t 61) (.c (.int .i64 2)), none⟩, none), (⟨some 63, .idxS (.t 60) (.t 62), none⟩, none), (⟨some 64, .pcall 68 [.t 59, .t 63], none⟩, none), (⟨some 9, .mv (.t 64), none⟩, none)]) (.seq (.seq (.reg [⟨some 65, .mv (.t 9), none⟩, ⟨some 66, .pcall 46 [.t 65, .c (.int .i64 32), .c (.int .i64 126)], none⟩, ⟨some 67, .mv (.t 66), none⟩, ⟨some 68, .mv (.t 9), some (67, true)⟩, ⟨some 69, .bin .neq (.t 68) (.c (.int .i64 34)), some (67, true)⟩, ⟨some 70, .pick (.t 67) (.t 69) (.c (.bool false)), none⟩, ⟨some 71, .mv (.t 70), none⟩, ⟨some 72, .mv (.t 9), some (71, true)⟩, ⟨some 73, .bin .neq (.t 72) (.c (.int .i64 92)), some (71, true)⟩, ⟨some 74, .pick (.t 71) (.t 73) (.c (.bool false)), none⟩]) (.cond (.t 74) (.seq (.reg [⟨some 4, .mv (.c (.str [])), none⟩, ⟨some 5, .mv (.c (.int .i64 (-1))), none⟩]) .ret) .skip)) (.seq (.reg [⟨some 75, .mv (.t 6), none⟩, ⟨some 76, .mv (.t 9), none⟩, ⟨some 77, .cvi .u8 (.t 76), none⟩, ⟨some 78, .bldF 5 1 [.t 77], none⟩, ⟨some 79, .app 5 1 1 (.t 75) (.t 78), none⟩, ⟨some 6, .mv (.t 79), none⟩]) (.seq (.reg [⟨some 80, .mv (.t 7), none⟩, ⟨some 81, .bin .add (.t 80) (.c (.int .i64 2)), none⟩, ⟨some 7, .mv (.t 81), none⟩]) (.exit 1)))))) .skip)) (.seq (.seq (.reg [⟨some 82, .mv (.t 8), none⟩, ⟨some 83, .bin .lss (.t 82) (.c (.int .u8 32)), none⟩, ⟨some 84, .mv (.t 83), none⟩, ⟨some 85, .mv (.t 8), some (84, false)⟩, ⟨some 86, .bin .gtr (.t 85) (.c (.int .u8 126)), some (84, false)⟩, ⟨some 87, .pick (.t 84) (.c (.bool true)) (.t 86), none⟩]) (.cond (.t 87) (.seq (.reg [⟨some 4, .mv (.c (.str [])), none⟩, ⟨some 5, .mv (.c (.int .i64 (-1))), none⟩]) .ret) .skip)) (.reg [⟨some 88, .mv (.t 6), none⟩, ⟨some 89, .mv (.t 8), none⟩, ⟨some 90, .bldF 5 1 [.t 89], none⟩, ⟨some 91, .app 5 1 1 (.t 88) (.t 90), none⟩, ⟨some 6, .mv (.t 91), none⟩])))))) (.reg [⟨some 26, .mv (.t 7), none⟩, ⟨some 27, .bin .add (.t 26) (.c (.int .i64 1)), none⟩, ⟨some 7, .mv (.t 27), none⟩])))))) (.seq (.reg [⟨some 4, .mv (.c (.str [])), none⟩, ⟨some 5, .mv (.c (.int .i64 (-1))), none⟩]) .ret)))), [.tmp 4, .tmp 5]⟩
theorem hc44 : toSF Tryd.prog {pure := [68, 46]} Tryd.f44 = some c44 := by kernel_rfl
theorem hn44 : (Tryd.f44.name == "runtime.NumGoroutine") = false := by kernel_rfl
set_option maxHeartbeats 1000000 in
theorem quotedAt_ok (s : List UInt8) (hs : s.length ≤ 1000000) (a : Nat) (ha : a ≤ 1000001) : PCalls (Pg G) 44 [.str s, aInt a] (.tup [.str (quotV s a).1, aInt (quotV s a).2]) := fun h => by
  unfold quotV
  by_cases hal : a < s.length
  · obtain ⟨c, hc⟩ : ∃ c, s.getD a 0 = c := ⟨_, rfl⟩
    have hd := drop_at hal
    rw [hc] at hd
    rw [hd]
    by_cases h34 : c = 34
    · subst h34
      have e1 : inq qtL ((34 : UInt8) :: s.drop (a + 1)) = qtL (s.drop (a + 1)) := by unfold inq; simp
      rw [e1]
      have b34 : ((34 : UInt8).toNat : Int) = 34 := rfl
      refine dcalls_of_vc Tryd.func44 hn44 hc44 (by rw [Tryd.ntmps44]; simp) (by rw [Tryd.ntmps44]; decide) ?_
      simp -dsimp -implicitDefEqProofs (disch := omega) only [↓vcOps_sp 14, ↓vcD_sp 14, ↓vcOps_sp 44, ↓vcD_sp 44, ↓vcOps_sp 67, ↓vcD_sp 67, ↓vcOps_sp 71, ↓vcD_sp 71, ↓vcOps_sp 84, ↓vcD_sp 84, VCA, pg_gl, ↓upd_none, Nat.reduceEqDiff, Nat.reduceBEq, Nat.reduceAdd, Nat.reduceSub, Nat.reduceMul, Nat.reduceLT, Nat.reduceLeDiff, ↓reduceIte, reduceCtorEq, rsOf, rootsOf, SOp.rd, SI.rd, SX.rd, rdL, rdO, rdP, okParts, eqCells, okEqCells, fillA, okFill, setAt, implies_true, forall_const, forall_eq, ne_eq, exists_eq_right_right, exists_eq_right, exists_eq_left, exists_eq_left', rootL, eAttr, eInt, eBool, lit_eq, c44, hc, b34]
      repeat' (first | ((with_reducible refine brC (fun _ => ?_) fun _ => ?_) <;> try (exfalso; omega)) | (with_reducible refine And.intro ?_ ?_; · omega) | simp -dsimp -implicitDefEqProofs (disch := omega) only [↓vcOps_sp 14, ↓vcD_sp 14, ↓vcOps_sp 44, ↓vcD_sp 44, ↓vcOps_sp 67, ↓vcD_sp 67, ↓vcOps_sp 71, ↓vcD_sp 71, ↓vcOps_sp 84, ↓vcD_sp 84, VCA, pg_gl, ↓upd_none, Nat.reduceEqDiff, Nat.reduceBEq, Nat.reduceAdd, Nat.reduceSub, Nat.reduceMul, Nat.reduceLT, Nat.reduceLeDiff, ↓reduceIte, reduceCtorEq, rsOf, rootsOf, SOp.rd, SI.rd, SX.rd, rdL, rdO, rdP, okParts, eqCells, okEqCells, fillA, okFill, setAt, implies_true, forall_const, forall_eq, ne_eq, exists_eq_right_right, exists_eq_right, exists_eq_left, exists_eq_left', rootL, eAttr, eInt, eBool, lit_eq, hc, b34])
      refine LoopVC.intro (fun m e h' => ∃ (i : Nat) (D : List UInt8) (x : AVal), a + 1 ≤ i ∧ i ≤ s.length ∧ m = s.length - i ∧ e 0 = .str s ∧ e 7 = aInt i ∧ e 6 = x ∧ Acc h 5 1 (strEs D) x h' ∧ Sim.Sub h h' ∧ D.length ≤ i ∧
          qtL (s.drop (a + 1)) = (qtL (s.drop i)).map (fun q => (D ++ q.1, q.2))) (s.length - (a + 1))
        ⟨a + 1, [], _, by omega, by omega, rfl, rfl, rfl, rfl, by exact .inl ⟨rfl, rfl⟩, Sub.refl _, by simp, by cases qtL (s.drop (a + 1)) <;> rfl⟩ ?_
      rintro m e h' ⟨i, D, x, hi1, hi2, rfl, e0, e7, e6, A, S, hD, hq⟩
      have DL : (strEs D).length = D.length := by simp [strEs]
      by_cases hlt : i < s.length
      · obtain ⟨c, hcc⟩ : ∃ c, s.getD i 0 = c := ⟨_, rfl⟩
        have hdr := drop_at hlt
        rw [hcc] at hdr
        have cl : c.toNat < 256 := c.toNat_lt
        by_cases c34 : c = 34
        · have b34 : ((c.toNat : Int) == 34) = true := by rw [c34]; rfl
          rw [hdr, c34, qt_end] at hq
          rw [hq]
          repeat' (first | ((with_reducible refine brC (fun _ => ?_) fun _ => ?_) <;> try (exfalso; omega)) | (with_reducible refine And.intro ?_ ?_; · omega) | simp -dsimp -implicitDefEqProofs (disch := omega) only [↓vcOps_sp 14, ↓vcD_sp 14, ↓vcOps_sp 44, ↓vcD_sp 44, ↓vcOps_sp 67, ↓vcD_sp 67, ↓vcOps_sp 71, ↓vcD_sp 71, ↓vcOps_sp 84, ↓vcD_sp 84, VCA, pg_gl, ↓upd_none, Nat.reduceEqDiff, Nat.reduceBEq, Nat.reduceAdd, Nat.reduceSub, Nat.reduceMul, Nat.reduceLT, Nat.reduceLeDiff, ↓reduceIte, reduceCtorEq, rsOf, rootsOf, SOp.rd, SI.rd, SX.rd, rdL, rdO, rdP, okParts, eqCells, okEqCells, fillA, okFill, setAt, implies_true, forall_const, forall_eq, ne_eq, exists_eq_right_right, exists_eq_right, exists_eq_left, exists_eq_left', rootL, eAttr, eInt, eBool, lit_eq, e0, e7, e6, hcc, b34])
          refine ⟨D, Acc_rd A, S, ?_⟩
          simp [outH]
          omega
        · have b34 : ((c.toNat : Int) == 34) = false := by
            rw [beq_eq_false_iff_ne]; intro hh; exact c34 (bt_inj (by simpa using hh))
          by_cases h92 : c = 92
          · have b92 : ((c.toNat : Int) == 92) = true := by rw [h92]; rfl
            by_cases hl2 : i + 2 < s.length
            · obtain ⟨a1, ha1⟩ : ∃ a1, s.getD (i + 1) 0 = a1 := ⟨_, rfl⟩
              obtain ⟨a2, ha2⟩ : ∃ a2, s.getD (i + 2) 0 = a2 := ⟨_, rfl⟩
              have d1 := drop_at (s := s) (i := i + 1) (by omega)
              have d2 := drop_at (s := s) (i := i + 2) (by omega)
              rw [ha1] at d1
              rw [ha2] at d2
              rw [hdr, d1, d2, h92, qt_pair] at hq
              have cP := hexPair_ok (G := G) a1 a2
              have pd : pairH a1 a2 = if hexN a1 < 16 ∧ hexN a2 < 16 then 16 * (hexN a1 : Int) + hexN a2 else -1 := rfl
              have t1 : ((i : Int) + 1).toNat = i + 1 := by omega
              have t2 : ((i : Int) + 2).toNat = i + 2 := by omega
              by_cases hx : hexN a1 < 16 ∧ hexN a2 < 16
              · rw [if_pos hx] at pd
                obtain ⟨N, hN⟩ : ∃ N, pairH a1 a2 = N := ⟨_, rfl⟩
                rw [hN] at cP pd
                have hN0 : 0 ≤ N ∧ N < 256 := by omega
                have cB := between_ok (G := G) N 32 126
                have u8 := pair_u8 N hN0.1 hN0.2
                have eN : UInt8.ofNat (16 * hexN a1 + hexN a2) = UInt8.ofNat N.toNat := by rw [show N.toNat = 16 * hexN a1 + hexN a2 by omega]
                rw [eN] at hq
                obtain ⟨y, hy⟩ : ∃ y, UInt8.ofNat N.toNat = y := ⟨_, rfl⟩
                rw [hy] at hq u8
                have yN : (y.toNat : Int) = N := by rw [← u8, IntKind.wrap_u8]; omega
                have hpl := plain_iff y
                have n0 : decide (N < 0) = false := decide_eq_false (by omega)
                by_cases hp : plainB y = true
                · rw [if_neg (fun q => by rw [hp] at q; cases q.2.2)] at hq
                  rw [hq]
                  have hv := hpl.1 hp
                  have bb : (decide (32 ≤ N) && decide (N ≤ 126)) = true := by simp; omega
                  have n34 : (N != 34) = true := by rw [bne_iff_ne]; omega
                  have n92 : (N != 92) = true := by rw [bne_iff_ne]; omega
                  repeat' (first | ((with_reducible refine brC (fun _ => ?_) fun _ => ?_) <;> try (exfalso; omega)) | (with_reducible apply pcallE.of; · exact cP) | (with_reducible apply pcallE.of; · exact cB) | (with_reducible refine And.intro ?_ ?_; · omega) | simp -dsimp -implicitDefEqProofs (disch := omega) only [↓vcOps_sp 14, ↓vcD_sp 14, ↓vcOps_sp 44, ↓vcD_sp 44, ↓vcOps_sp 67, ↓vcD_sp 67, ↓vcOps_sp 71, ↓vcD_sp 71, ↓vcOps_sp 84, ↓vcD_sp 84, VCA, pg_gl, ↓upd_none, Nat.reduceEqDiff, Nat.reduceBEq, Nat.reduceAdd, Nat.reduceSub, Nat.reduceMul, Nat.reduceLT, Nat.reduceLeDiff, ↓reduceIte, reduceCtorEq, rsOf, rootsOf, SOp.rd, SI.rd, SX.rd, rdL, rdO, rdP, okParts, eqCells, okEqCells, fillA, okFill, setAt, implies_true, forall_const, forall_eq, ne_eq, exists_eq_right_right, exists_eq_right, exists_eq_left, exists_eq_left', rootL, eAttr, eInt, eBool, lit_eq, e0, e7, e6, hcc, b34, b92, ha1, ha2, t1, t2, n0, bb, n34, n92])
                  all_goals first | rfl | exact ⟨S, rfl⟩
                · have hp' : plainB y = false := by simpa using hp
                  rw [if_pos ⟨hx.1, hx.2, hp'⟩] at hq
                  have hv := Classical.byContradiction fun q => hp (hpl.2 q)
                  have hq2 : qtL (s.drop (a + 1)) = (qtL (s.drop (i + 3))).map (fun q => ((D ++ [y]) ++ q.1, q.2)) := by
                    rw [hq, Option.map_map]; congr 1; funext q; simp
                  by_cases hb : 32 ≤ N ∧ N ≤ 126
                  · have bb : (decide (32 ≤ N) && decide (N ≤ 126)) = true := by simp; omega
                    by_cases n4 : N = 34
                    · have n34 : (N != 34) = false := by rw [bne_eq_false_iff_eq]; exact n4
                      repeat' (first | ((with_reducible refine brC (fun _ => ?_) fun _ => ?_) <;> try (exfalso; omega)) | (with_reducible apply pcallE.of; · exact cP) | (with_reducible apply pcallE.of; · exact cB) | ((refine A.app S (by simp [strEs]; omega) (by simp [strEs]; omega) (fun a' h3 A' S' => ?_))) | (with_reducible refine And.intro ?_ ?_; · omega) | simp -dsimp -implicitDefEqProofs (disch := omega) only [↓vcOps_sp 14, ↓vcD_sp 14, ↓vcOps_sp 44, ↓vcD_sp 44, ↓vcOps_sp 67, ↓vcD_sp 67, ↓vcOps_sp 71, ↓vcD_sp 71, ↓vcOps_sp 84, ↓vcD_sp 84, VCA, pg_gl, ↓upd_none, Nat.reduceEqDiff, Nat.reduceBEq, Nat.reduceAdd, Nat.reduceSub, Nat.reduceMul, Nat.reduceLT, Nat.reduceLeDiff, ↓reduceIte, reduceCtorEq, rsOf, rootsOf, SOp.rd, SI.rd, SX.rd, rdL, rdO, rdP, okParts, eqCells, okEqCells, fillA, okFill, setAt, implies_true, forall_const, forall_eq, ne_eq, exists_eq_right_right, exists_eq_right, exists_eq_left, exists_eq_left', rootL, eAttr, eInt, eBool, lit_eq, e0, e7, e6, hcc, b34, b92, ha1, ha2, t1, t2, n0, bb, n34, u8])
                      all_goals refine ⟨_, by omega, i + 3, D ++ [y], a', by omega, by omega, rfl, by omega, rfl, ?_, S', by simp; omega, hq2⟩
                      all_goals (rw [strEs_app]; exact A')
                    · have n34 : (N != 34) = true := by rw [bne_iff_ne]; exact n4
                      have n92 : (N != 92) = false := by rw [bne_eq_false_iff_eq]; omega
                      repeat' (first | ((with_reducible refine brC (fun _ => ?_) fun _ => ?_) <;> try (exfalso; omega)) | (with_reducible apply pcallE.of; · exact cP) | (with_reducible apply pcallE.of; · exact cB) | ((refine A.app S (by simp [strEs]; omega) (by simp [strEs]; omega) (fun a' h3 A' S' => ?_))) | (with_reducible refine And.intro ?_ ?_; · omega) | simp -dsimp -implicitDefEqProofs (disch := omega) only [↓vcOps_sp 14, ↓vcD_sp 14, ↓vcOps_sp 44, ↓vcD_sp 44, ↓vcOps_sp 67, ↓vcD_sp 67, ↓vcOps_sp 71, ↓vcD_sp 71, ↓vcOps_sp 84, ↓vcD_sp 84, VCA, pg_gl, ↓upd_none, Nat.reduceEqDiff, Nat.reduceBEq, Nat.reduceAdd, Nat.reduceSub, Nat.reduceMul, Nat.reduceLT, Nat.reduceLeDiff, ↓reduceIte, reduceCtorEq, rsOf, rootsOf, SOp.rd, SI.rd, SX.rd, rdL, rdO, rdP, okParts, eqCells, okEqCells, fillA, okFill, setAt, implies_true, forall_const, forall_eq, ne_eq, exists_eq_right_right, exists_eq_right, exists_eq_left, exists_eq_left', rootL, eAttr, eInt, eBool, lit_eq, e0, e7, e6, hcc, b34, b92, ha1, ha2, t1, t2, n0, bb, n34, n92, u8])
                      all_goals refine ⟨_, by omega, i + 3, D ++ [y], a', by omega, by omega, rfl, by omega, rfl, ?_, S', by simp; omega, hq2⟩
                      all_goals (rw [strEs_app]; exact A')
                  · have bb : (decide (32 ≤ N) && decide (N ≤ 126)) = false := by simp; omega
                    repeat' (first | ((with_reducible refine brC (fun _ => ?_) fun _ => ?_) <;> try (exfalso; omega)) | (with_reducible apply pcallE.of; · exact cP) | (with_reducible apply pcallE.of; · exact cB) | ((refine A.app S (by simp [strEs]; omega) (by simp [strEs]; omega) (fun a' h3 A' S' => ?_))) | (with_reducible refine And.intro ?_ ?_; · omega) | simp -dsimp -implicitDefEqProofs (disch := omega) only [↓vcOps_sp 14, ↓vcD_sp 14, ↓vcOps_sp 44, ↓vcD_sp 44, ↓vcOps_sp 67, ↓vcD_sp 67, ↓vcOps_sp 71, ↓vcD_sp 71, ↓vcOps_sp 84, ↓vcD_sp 84, VCA, pg_gl, ↓upd_none, Nat.reduceEqDiff, Nat.reduceBEq, Nat.reduceAdd, Nat.reduceSub, Nat.reduceMul, Nat.reduceLT, Nat.reduceLeDiff, ↓reduceIte, reduceCtorEq, rsOf, rootsOf, SOp.rd, SI.rd, SX.rd, rdL, rdO, rdP, okParts, eqCells, okEqCells, fillA, okFill, setAt, implies_true, forall_const, forall_eq, ne_eq, exists_eq_right_right, exists_eq_right, exists_eq_left, exists_eq_left', rootL, eAttr, eInt, eBool, lit_eq, e0, e7, e6, hcc, b34, b92, ha1, ha2, t1, t2, n0, bb, u8])
                    all_goals refine ⟨_, by omega, i + 3, D ++ [y], a', by omega, by omega, rfl, by omega, rfl, ?_, S', by simp; omega, hq2⟩
                    all_goals (rw [strEs_app]; exact A')
              · rw [if_neg hx] at pd
                rw [pd] at cP
                rw [if_neg (fun q => hx ⟨q.1, q.2.1⟩)] at hq
                rw [hq]
                repeat' (first | ((with_reducible refine brC (fun _ => ?_) fun _ => ?_) <;> try (exfalso; omega)) | (with_reducible apply pcallE.of; · exact cP) | (with_reducible refine And.intro ?_ ?_; · omega) | simp -dsimp -implicitDefEqProofs (disch := omega) only [↓vcOps_sp 14, ↓vcD_sp 14, ↓vcOps_sp 44, ↓vcD_sp 44, ↓vcOps_sp 67, ↓vcD_sp 67, ↓vcOps_sp 71, ↓vcD_sp 71, ↓vcOps_sp 84, ↓vcD_sp 84, VCA, pg_gl, ↓upd_none, Nat.reduceEqDiff, Nat.reduceBEq, Nat.reduceAdd, Nat.reduceSub, Nat.reduceMul, Nat.reduceLT, Nat.reduceLeDiff, ↓reduceIte, reduceCtorEq, rsOf, rootsOf, SOp.rd, SI.rd, SX.rd, rdL, rdO, rdP, okParts, eqCells, okEqCells, fillA, okFill, setAt, implies_true, forall_const, forall_eq, ne_eq, exists_eq_right_right, exists_eq_right, exists_eq_left, exists_eq_left', rootL, eAttr, eInt, eBool, lit_eq, e0, e7, e6, hcc, b34, b92, ha1, ha2, t1, t2])
                all_goals first | rfl | exact ⟨S, rfl⟩
            · rw [hdr, h92, qt_short (by rw [List.length_drop]; omega)] at hq
              rw [hq]
              repeat' (first | ((with_reducible refine brC (fun _ => ?_) fun _ => ?_) <;> try (exfalso; omega)) | (with_reducible refine And.intro ?_ ?_; · omega) | simp -dsimp -implicitDefEqProofs (disch := omega) only [↓vcOps_sp 14, ↓vcD_sp 14, ↓vcOps_sp 44, ↓vcD_sp 44, ↓vcOps_sp 67, ↓vcD_sp 67, ↓vcOps_sp 71, ↓vcD_sp 71, ↓vcOps_sp 84, ↓vcD_sp 84, VCA, pg_gl, ↓upd_none, Nat.reduceEqDiff, Nat.reduceBEq, Nat.reduceAdd, Nat.reduceSub, Nat.reduceMul, Nat.reduceLT, Nat.reduceLeDiff, ↓reduceIte, reduceCtorEq, rsOf, rootsOf, SOp.rd, SI.rd, SX.rd, rdL, rdO, rdP, okParts, eqCells, okEqCells, fillA, okFill, setAt, implies_true, forall_const, forall_eq, ne_eq, exists_eq_right_right, exists_eq_right, exists_eq_left, exists_eq_left', rootL, eAttr, eInt, eBool, lit_eq, e0, e7, e6, hcc, b34, b92])
              all_goals first | rfl | exact ⟨S, rfl⟩
          · have b92 : ((c.toNat : Int) == 92) = false := by
              rw [beq_eq_false_iff_ne]; intro hh; exact h92 (bt_inj (by simpa using hh))
            rw [hdr, qt_cons c34 h92] at hq
            have hpl := plain_iff c
            by_cases hp : plainB c = true
            · rw [if_pos hp] at hq
              have hq2 : qtL (s.drop (a + 1)) = (qtL (s.drop (i + 1))).map (fun q => ((D ++ [c]) ++ q.1, q.2)) := by
                rw [hq, Option.map_map]; congr 1; funext q; simp
              have hv := hpl.1 hp
              repeat' (first | ((with_reducible refine brC (fun _ => ?_) fun _ => ?_) <;> try (exfalso; omega)) | ((refine A.app S (by simp [strEs]; omega) (by simp [strEs]; omega) (fun a' h3 A' S' => ?_))) | (with_reducible refine And.intro ?_ ?_; · omega) | simp -dsimp -implicitDefEqProofs (disch := omega) only [↓vcOps_sp 14, ↓vcD_sp 14, ↓vcOps_sp 44, ↓vcD_sp 44, ↓vcOps_sp 67, ↓vcD_sp 67, ↓vcOps_sp 71, ↓vcD_sp 71, ↓vcOps_sp 84, ↓vcD_sp 84, VCA, pg_gl, ↓upd_none, Nat.reduceEqDiff, Nat.reduceBEq, Nat.reduceAdd, Nat.reduceSub, Nat.reduceMul, Nat.reduceLT, Nat.reduceLeDiff, ↓reduceIte, reduceCtorEq, rsOf, rootsOf, SOp.rd, SI.rd, SX.rd, rdL, rdO, rdP, okParts, eqCells, okEqCells, fillA, okFill, setAt, implies_true, forall_const, forall_eq, ne_eq, exists_eq_right_right, exists_eq_right, exists_eq_left, exists_eq_left', rootL, eAttr, eInt, eBool, lit_eq, e0, e7, e6, hcc, b34, b92])
              all_goals refine ⟨_, by omega, i + 1, D ++ [c], a', by omega, by omega, rfl, by omega, rfl, ?_, S', by simp; omega, hq2⟩
              all_goals (rw [strEs_app]; exact A')
            · rw [if_neg hp] at hq
              rw [hq]
              have hv := Classical.byContradiction fun q => hp (hpl.2 q)
              have z34 := beq_eq_false_iff_ne.1 b34
              have z92 := beq_eq_false_iff_ne.1 b92
              repeat' (first | ((with_reducible refine brC (fun _ => ?_) fun _ => ?_) <;> try (exfalso; omega)) | (with_reducible refine And.intro ?_ ?_; · omega) | simp -dsimp -implicitDefEqProofs (disch := omega) only [↓vcOps_sp 14, ↓vcD_sp 14, ↓vcOps_sp 44, ↓vcD_sp 44, ↓vcOps_sp 67, ↓vcD_sp 67, ↓vcOps_sp 71, ↓vcD_sp 71, ↓vcOps_sp 84, ↓vcD_sp 84, VCA, pg_gl, ↓upd_none, Nat.reduceEqDiff, Nat.reduceBEq, Nat.reduceAdd, Nat.reduceSub, Nat.reduceMul, Nat.reduceLT, Nat.reduceLeDiff, ↓reduceIte, reduceCtorEq, rsOf, rootsOf, SOp.rd, SI.rd, SX.rd, rdL, rdO, rdP, okParts, eqCells, okEqCells, fillA, okFill, setAt, implies_true, forall_const, forall_eq, ne_eq, exists_eq_right_right, exists_eq_right, exists_eq_left, exists_eq_left', rootL, eAttr, eInt, eBool, lit_eq, e0, e7, e6, hcc, b34, b92])
              all_goals first | rfl | exact ⟨S, rfl⟩ | (exfalso; omega) | trace_state
      · obtain rfl : i = s.length := by omega
        have hu : qtL (s.drop s.length) = none := by rw [List.drop_length]; rfl
        rw [hu] at hq
        rw [hq]
        repeat' (first | ((with_reducible refine brC (fun _ => ?_) fun _ => ?_) <;> try (exfalso; omega)) | (with_reducible refine And.intro ?_ ?_; · omega) | simp -dsimp -implicitDefEqProofs (disch := omega) only [↓vcOps_sp 14, ↓vcD_sp 14, ↓vcOps_sp 44, ↓vcD_sp 44, ↓vcOps_sp 67, ↓vcD_sp 67, ↓vcOps_sp 71, ↓vcD_sp 71, ↓vcOps_sp 84, ↓vcD_sp 84, VCA, pg_gl, ↓upd_none, Nat.reduceEqDiff, Nat.reduceBEq, Nat.reduceAdd, Nat.reduceSub, Nat.reduceMul, Nat.reduceLT, Nat.reduceLeDiff, ↓reduceIte, reduceCtorEq, rsOf, rootsOf, SOp.rd, SI.rd, SX.rd, rdL, rdO, rdP, okParts, eqCells, okEqCells, fillA, okFill, setAt, implies_true, forall_const, forall_eq, ne_eq, exists_eq_right_right, exists_eq_right, exists_eq_left, exists_eq_left', rootL, eAttr, eInt, eBool, lit_eq, e0, e7, e6])
        all_goals first | rfl | exact ⟨S, rfl⟩
    · have e1 : inq qtL (c :: s.drop (a + 1)) = none := by unfold inq; simp [h34]
      have b34 : ((c.toNat : Int) != 34) = true := by
        rw [bne_iff_ne]; intro hh; exact h34 (bt_inj (by simpa using hh))
      rw [e1]
      refine dcalls_of_vc Tryd.func44 hn44 hc44 (by rw [Tryd.ntmps44]; simp) (by rw [Tryd.ntmps44]; decide) ?_
      simp -dsimp -implicitDefEqProofs (disch := omega) only [↓vcOps_sp 14, ↓vcD_sp 14, ↓vcOps_sp 44, ↓vcD_sp 44, ↓vcOps_sp 67, ↓vcD_sp 67, ↓vcOps_sp 71, ↓vcD_sp 71, ↓vcOps_sp 84, ↓vcD_sp 84, VCA, pg_gl, ↓upd_none, Nat.reduceEqDiff, Nat.reduceBEq, Nat.reduceAdd, Nat.reduceSub, Nat.reduceMul, Nat.reduceLT, Nat.reduceLeDiff, ↓reduceIte, reduceCtorEq, rsOf, rootsOf, SOp.rd, SI.rd, SX.rd, rdL, rdO, rdP, okParts, eqCells, okEqCells, fillA, okFill, setAt, implies_true, forall_const, forall_eq, ne_eq, exists_eq_right_right, exists_eq_right, exists_eq_left, exists_eq_left', rootL, eAttr, eInt, eBool, lit_eq, c44, hc, b34]
      repeat' (first | ((with_reducible refine brC (fun _ => ?_) fun _ => ?_) <;> try (exfalso; omega)) | (with_reducible refine And.intro ?_ ?_; · omega) | simp -dsimp -implicitDefEqProofs (disch := omega) only [↓vcOps_sp 14, ↓vcD_sp 14, ↓vcOps_sp 44, ↓vcD_sp 44, ↓vcOps_sp 67, ↓vcD_sp 67, ↓vcOps_sp 71, ↓vcD_sp 71, ↓vcOps_sp 84, ↓vcD_sp 84, VCA, pg_gl, ↓upd_none, Nat.reduceEqDiff, Nat.reduceBEq, Nat.reduceAdd, Nat.reduceSub, Nat.reduceMul, Nat.reduceLT, Nat.reduceLeDiff, ↓reduceIte, reduceCtorEq, rsOf, rootsOf, SOp.rd, SI.rd, SX.rd, rdL, rdO, rdP, okParts, eqCells, okEqCells, fillA, okFill, setAt, implies_true, forall_const, forall_eq, ne_eq, exists_eq_right_right, exists_eq_right, exists_eq_left, exists_eq_left', rootL, eAttr, eInt, eBool, lit_eq, hc, b34])
      all_goals first | exact ⟨Sub.refl _, rfl⟩ | (exfalso; simp_all; done)
  · rw [List.drop_of_length_le (by omega)]
    refine dcalls_of_vc Tryd.func44 hn44 hc44 (by rw [Tryd.ntmps44]; simp) (by rw [Tryd.ntmps44]; decide) ?_
    simp -dsimp -implicitDefEqProofs (disch := omega) only [↓vcOps_sp 14, ↓vcD_sp 14, ↓vcOps_sp 44, ↓vcD_sp 44, ↓vcOps_sp 67, ↓vcD_sp 67, ↓vcOps_sp 71, ↓vcD_sp 71, ↓vcOps_sp 84, ↓vcD_sp 84, VCA, pg_gl, ↓upd_none, Nat.reduceEqDiff, Nat.reduceBEq, Nat.reduceAdd, Nat.reduceSub, Nat.reduceMul, Nat.reduceLT, Nat.reduceLeDiff, ↓reduceIte, reduceCtorEq, rsOf, rootsOf, SOp.rd, SI.rd, SX.rd, rdL, rdO, rdP, okParts, eqCells, okEqCells, fillA, okFill, setAt, implies_true, forall_const, forall_eq, ne_eq, exists_eq_right_right, exists_eq_right, exists_eq_left, exists_eq_left', rootL, eAttr, eInt, eBool, lit_eq, c44]
    repeat' (first | ((with_reducible refine brC (fun _ => ?_) fun _ => ?_) <;> try (exfalso; omega)) | (with_reducible refine And.intro ?_ ?_; · omega) | simp -dsimp -implicitDefEqProofs (disch := omega) only [↓vcOps_sp 14, ↓vcD_sp 14, ↓vcOps_sp 44, ↓vcD_sp 44, ↓vcOps_sp 67, ↓vcD_sp 67, ↓vcOps_sp 71, ↓vcD_sp 71, ↓vcOps_sp 84, ↓vcD_sp 84, VCA, pg_gl, ↓upd_none, Nat.reduceEqDiff, Nat.reduceBEq, Nat.reduceAdd, Nat.reduceSub, Nat.reduceMul, Nat.reduceLT, Nat.reduceLeDiff, ↓reduceIte, reduceCtorEq, rsOf, rootsOf, SOp.rd, SI.rd, SX.rd, rdL, rdO, rdP, okParts, eqCells, okEqCells, fillA, okFill, setAt, implies_true, forall_const, forall_eq, ne_eq, exists_eq_right_right, exists_eq_right, exists_eq_left, exists_eq_left', rootL, eAttr, eInt, eBool, lit_eq])
    all_goals first | exact ⟨Sub.refl _, rfl⟩ | (exfalso; omega)
end Go.Proofs.K
end
section
set_option linter.unusedSimpArgs false
set_option linter.unusedVariables false
namespace Go.Proofs.K
open Go Go.Sim Go.Proofs
section
variable {d : HDoc}
theorem upF_congr {d' : HDoc} (V : DV d) (h : ∀ m, inD d m → (nd d' m).parent = (nd d m).parent) : ∀ (f : Nat) (n : Int), inD d n → upF f d' n = upF f d n
  | 0, _, _ => rfl
  | f + 1, n, hn => by
    unfold upF
    rw [h n hn]
    by_cases hp : 0 ≤ (nd d n).parent
    · rw [if_pos hp, if_pos hp, upF_congr V h f _ (V.par_in hn hp).1]
    · rw [if_neg hp, if_neg hp]
def addN (d : HDoc) (x : HNode) : HDoc := ⟨d.nodes ++ [x], d.quirks⟩
theorem addN_len (x : HNode) : (addN d x).nodes.length = d.nodes.length + 1 := by simp [addN]
theorem nd_addN {x : HNode} {m : Int} (hm : inD d m) : nd (addN d x) m = nd d m := by
  have h := hm.nat
  unfold nd addN nth
  rw [List.getD_eq_getElem?_getD, List.getD_eq_getElem?_getD, List.getElem?_append_left h.1]
theorem nd_addN_new (x : HNode) : nd (addN d x) (d.nodes.length : Int) = x := by
  unfold nd addN nth
  rw [List.getD_eq_getElem?_getD]; simp
theorem inD_addN {x : HNode} {m : Int} : inD (addN d x) m ↔ inD d m ∨ m = d.nodes.length := by unfold inD; rw [addN_len]; omega
theorem up_addN (V : DV d) {x : HNode} {m : Int} (hm : inD d m) : up (addN d x) m = up d m := by
  have h1 : upF (d.nodes.length + 1 + 1) (addN d x) m = upF (d.nodes.length + 1 + 1) d m := upF_congr V (fun k hk => by rw [nd_addN hk]) _ m hm
  have h2 : up (addN d x) m = upF (d.nodes.length + 1 + 1) (addN d x) m := by unfold up; rw [addN_len]
  rw [h2, h1]
  have h3 := V.fin m hm
  exact upF_mono (f := d.nodes.length + 1) (by unfold up at h3; omega) (by omega)
theorem DV.add (V : DV d) {x : HNode} (hp : x.parent = -1) (hc : x.kids = []) (h1 : x.kind ≠ 1) : DV (addN d x) ↔ nodeE x = 0 ∧ d.nodes.length < 200 := by
  have new := nd_addN_new (d := d) x
  have inew : inD (addN d x) (d.nodes.length : Int) := inD_addN.2 (.inr rfl)
  constructor
  · intro W
    have h2 := W.node _ inew
    have h3 := W.len
    rw [new] at h2
    rw [addN_len] at h3
    exact ⟨h2, by omega⟩
  · rintro ⟨hx, hl⟩
    have z := V.pos
    have upn : up (addN d x) (d.nodes.length : Int) = 0 := by
      unfold up upF
      rw [new, if_neg (by omega)]
    refine ⟨by rw [addN_len]; omega, by rw [addN_len]; omega, fun m hm => ?_, fun m hm => ?_, fun m hm k hk' => ?_, fun m hm => ?_, fun k hk' => ?_, fun m hm => ?_, ?_, fun m hm => ?_, fun m hm => ?_⟩
    · rcases inD_addN.1 hm with hm | rfl
      · rw [nd_addN hm]; exact V.kind m hm
      · rw [new]; constructor
        · intro h; exact absurd h h1
        · intro h; omega
    · rcases inD_addN.1 hm with hm | rfl
      · rw [nd_addN hm]; exact V.node m hm
      · rw [new]; exact hx
    · rcases inD_addN.1 hm with hm | rfl
      · rw [nd_addN hm] at hk'
        obtain ⟨g1, g2⟩ := V.kid m hm k hk'
        exact ⟨inD_addN.2 (.inl g1), by rw [nd_addN g1]; exact g2⟩
      · rw [new, hc] at hk'; cases hk'
    · rcases inD_addN.1 hm with hm | rfl
      · rw [nd_addN hm]; exact V.nodup m hm
      · rw [new, hc]; exact .nil
    · rw [nd_addN V.zero] at hk'
      rw [nd_addN (V.kid 0 V.zero k hk').1]; exact V.top k hk'
    · rcases inD_addN.1 hm with hm | rfl
      · rw [nd_addN hm]
        rcases V.par m hm with h | ⟨g1, g2⟩
        · exact .inl h
        · exact .inr ⟨inD_addN.2 (.inl g1), by rw [nd_addN g1]; exact g2⟩
      · rw [new]; exact .inl hp
    · rw [nd_addN V.zero]; exact V.root
    · rcases inD_addN.1 hm with hm | rfl
      · rw [up_addN V hm, addN_len]; have := V.fin m hm; omega
      · rw [upn]; omega
    · rcases inD_addN.1 hm with hm | rfl
      · rw [up_addN V hm]; exact V.deep m hm
      · rw [upn]; omega
section
variable {a t : Int} {i : Nat}
end
section
variable {n : Int} {i : Nat}
end
end
end Go.Proofs.K
end
section
set_option linter.unusedSimpArgs false
set_option linter.unusedVariables false
namespace Go.Proofs.K
open Go Go.Sim Go.Proofs
structure HEdit where
  do' : Int
  at' : Int
  into : Int
  before : Int
  name : List UInt8
  value : List UInt8
  node : HNode
deriving DecidableEq, Inhabited
def eEdit (e : HEdit) : List AVal := [aInt e.do', aInt e.at', aInt e.into, aInt e.before, .str e.name, .str e.value, aInt e.node.kind, .str e.node.name, sl eAttr e.node.attrs, .str e.node.text, aInt e.node.parent, sl eInt e.node.kids]
instance : LenE eEdit 12 := ⟨fun _ => rfl⟩
structure EditSm (e : HEdit) : Prop where
  name : e.name.length ≤ 1073741824
  value : e.value.length ≤ 1073741824
  node : NodeSm e.node
section
variable {d : HDoc}
end
section
variable {d : HDoc}
end
end Go.Proofs.K
end
section
set_option linter.unusedSimpArgs false
set_option linter.unusedVariables false
namespace Go.Proofs.K
open Go Go.Sim Go.Proofs
variable {G : Glob}
def rootOf : AVal → Option Nat
  | .osl r _ _ _ => some r
  | _ => none
def OwnS (h : Heap) (ty sz : Nat) (cells : List (List AVal)) (a : AVal) : Prop :=
  (cells = [] ∧ a = .emp) ∨ (a = .slc cells ∧ ∀ e ∈ cells, e.length = sz) ∨ ∃ r es, a = .osl r sz 0 cells.length ∧ h r = some ⟨ty, sz, es⟩ ∧ cells.length ≤ es.length ∧ es.take cells.length = cells
def Mut (a : AVal) : Prop := ∀ es, a ≠ .slc es
theorem OwnS.live {h : Heap} {ty sz : Nat} {cells : List (List AVal)} {a : AVal} (O : OwnS h ty sz cells a) (M : Mut a) : (cells = [] ∧ a = .emp) ∨ ∃ r es, a = .osl r sz 0 cells.length ∧ h r = some ⟨ty, sz, es⟩ ∧ cells.length ≤ es.length ∧ es.take cells.length = cells := by
  rcases O with O | O | O
  · exact .inl O
  · exact absurd O.1 (M _)
  · exact .inr O
theorem OwnS.keep {h h2 : Heap} {ty sz : Nat} {cells : List (List AVal)} {a : AVal} (O : OwnS h ty sz cells a) (hk : ∀ r o, rootOf a = some r → h r = some o → h2 r = some o) : OwnS h2 ty sz cells a := by
  rcases O with O | O | ⟨r, es, ha, hr, h1, h2⟩
  · exact .inl O
  · exact .inr (.inl O)
  · exact .inr (.inr ⟨r, es, ha, hk r _ (by rw [ha]; rfl) hr, h1, h2⟩)
theorem OwnS.len {h : Heap} {ty sz : Nat} {cells : List (List AVal)} {a : AVal} (O : OwnS h ty sz cells a) : aLen a = aInt cells.length ∧ okLen a = True := by
  rcases O with ⟨h1, h2⟩ | ⟨h2, _⟩ | ⟨r, es, ha, _⟩
  · subst h1; subst h2; exact ⟨rfl, rfl⟩
  · subst h2; exact ⟨rfl, rfl⟩
  · subst ha; exact ⟨rfl, rfl⟩
theorem OwnS.isV {h : Heap} {ty sz : Nat} {cells : List (List AVal)} {a : AVal} (O : OwnS h ty sz cells a) : isV a = true ∧ cellsOf a = [a] := by
  rcases O with ⟨h1, h2⟩ | ⟨h2, _⟩ | ⟨r, es, ha, _⟩
  · subst h2; exact ⟨rfl, rfl⟩
  · subst h2; exact ⟨rfl, rfl⟩
  · subst ha; exact ⟨rfl, rfl⟩
theorem OwnS.root {h : Heap} {ty sz : Nat} {cells : List (List AVal)} {a : AVal} (O : OwnS h ty sz cells a) {r : Nat} (hr : rootOf a = some r) : ∃ o, h r = some o := by
  rcases O with ⟨h1, h2⟩ | ⟨h2, _⟩ | ⟨r', es, ha, h1, _⟩
  · subst h2; cases hr
  · subst h2; cases hr
  · subst ha; cases hr; exact ⟨_, h1⟩
theorem OwnS.vw {α : Type} [Inhabited α] {enc : α → List AVal} {h : Heap} {ty sz : Nat} [LenE enc sz] {l : List α} {a : AVal} (O : OwnS h ty sz (l.map enc) a) : Vw h a (sl enc l) := by
  rcases O with ⟨h1, h2⟩ | ⟨h2, _⟩ | ⟨r, es, ha, hr, h1, h2⟩
  · have : l = [] := by simpa using h1
    subst this; subst h2; exact .emp
  · subst h2; exact .refl _
  · subst ha
    refine .osl r sz 0 _ ⟨ty, sz, es⟩ (l.map enc) hr (by simpa using h1) rfl (fun f hf => by obtain ⟨x, _, rfl⟩ := List.mem_map.1 hf; exact LenE.len x) fun k j e f x y he hf hx hy => ?_
    have hk : k < (l.map enc).length := (List.getElem?_eq_some_iff.1 hf).1
    simp only [Nat.zero_add] at he
    have he' : (es.take (l.map enc).length)[k]? = some e := by rw [List.getElem?_take, if_pos hk]; exact he
    rw [h2] at he'
    rw [he'] at hf
    cases hf
    rw [hx] at hy; cases hy; exact .refl _
def rowA (x : HNode) (a k : AVal) : List AVal := [aInt x.kind, .str x.name, a, .str x.text, aInt x.parent, k]
def rowsA (d : HDoc) (sl : Nat → AVal) : List (List AVal) := (List.range d.nodes.length).map fun i => rowA (nth d.nodes i) (sl (2 * i)) (sl (2 * i + 1))
theorem rowsA_len (d : HDoc) (sl : Nat → AVal) : (rowsA d sl).length = d.nodes.length := by simp [rowsA]
theorem rowsA_get {d : HDoc} {sl : Nat → AVal} {i : Nat} (hi : i < d.nodes.length) : (rowsA d sl).getD i [] = rowA (nth d.nodes i) (sl (2 * i)) (sl (2 * i + 1)) := by
  rw [List.getD_eq_getElem?_getD, rowsA, List.getElem?_map, List.getElem?_range hi]; rfl
structure Dw (X : List Nat) (h0 h : Heap) (rN : Nat) (d : HDoc) (sl : Nat → AVal) : Prop where
  sub : Sim.Sub h0 h
  nodes : h rN = some ⟨.t 53, 6, rowsA d sl⟩
  new : h0 rN = none ∧ rN ∉ X
  own : ∀ i, i < d.nodes.length → OwnS h 43 2 ((nth d.nodes i).attrs.map eAttr) (sl (2 * i)) ∧ OwnS h 3 1 ((nth d.nodes i).kids.map eInt) (sl (2 * i + 1))
  fresh : ∀ k, k < 2 * d.nodes.length → ∀ r, rootOf (sl k) = some r → h0 r = none ∧ r ≠ rN ∧ r ∉ X
  sep : ∀ j k, j < 2 * d.nodes.length → k < 2 * d.nodes.length → j ≠ k → ∀ r, rootOf (sl j) = some r → rootOf (sl k) ≠ some r
  keep : ∀ r ∈ X, ∃ o, h r = some o
theorem Dw.slot {X : List Nat} {h0 h : Heap} {rN : Nat} {d : HDoc} {sl : Nat → AVal} (E : Dw X h0 h rN d sl) {k : Nat} (hk : k < 2 * d.nodes.length) {r : Nat} (hr : rootOf (sl k) = some r) : ∃ o, h r = some o := by
  have hi : k / 2 < d.nodes.length := by omega
  obtain ⟨h1, h2⟩ := E.own _ hi
  rcases (by omega : k = 2 * (k / 2) ∨ k = 2 * (k / 2) + 1) with h | h
  · rw [h] at hr; exact h1.root hr
  · rw [h] at hr; exact h2.root hr
theorem Dw.put {X : List Nat} {h0 h h2 : Heap} {rN : Nat} {d : HDoc} {sl sl' : Nat → AVal} (E : Dw X h0 h rN d sl) {i : Nat} (hi : i < d.nodes.length) {x' : HNode}
    (hs : ∀ j, j ≠ 2 * i → j ≠ 2 * i + 1 → sl' j = sl j)
    (hN : h2 rN = some ⟨.t 53, 6, (rowsA d sl).set i (rowA x' (sl' (2 * i)) (sl' (2 * i + 1)))⟩)
    (hk : ∀ r o, h r = some o → r ≠ rN → rootOf (sl (2 * i)) ≠ some r → rootOf (sl (2 * i + 1)) ≠ some r → h2 r = some o)
    (hA : OwnS h2 43 2 (x'.attrs.map eAttr) (sl' (2 * i))) (hK : OwnS h2 3 1 (x'.kids.map eInt) (sl' (2 * i + 1)))
    (hf : ∀ r, rootOf (sl' (2 * i)) = some r ∨ rootOf (sl' (2 * i + 1)) = some r → rootOf (sl (2 * i)) = some r ∨ rootOf (sl (2 * i + 1)) = some r ∨ h r = none)
    (hd : ∀ r, rootOf (sl' (2 * i)) = some r → rootOf (sl' (2 * i + 1)) ≠ some r) : Dw X h0 h2 rN ⟨d.nodes.set i x', d.quirks⟩ sl' := by
  have hl : (d.nodes.set i x').length = d.nodes.length := by simp
  have fr : ∀ r, rootOf (sl' (2 * i)) = some r ∨ rootOf (sl' (2 * i + 1)) = some r → h0 r = none ∧ r ≠ rN ∧ r ∉ X := fun r hr => by
    rcases hf r hr with h | h | h
    · exact E.fresh _ (by omega) r h
    · exact E.fresh _ (by omega) r h
    · refine ⟨E.sub.none h, fun e => ?_, fun hx => ?_⟩
      · rw [e, E.nodes] at h; cases h
      · obtain ⟨o, ho⟩ := E.keep r hx; rw [h] at ho; cases ho
  have oth : ∀ j, j < 2 * d.nodes.length → j ≠ 2 * i → j ≠ 2 * i + 1 → ∀ r, rootOf (sl j) = some r → rootOf (sl' (2 * i)) ≠ some r ∧ rootOf (sl' (2 * i + 1)) ≠ some r := fun j hj h1 h2 r hr => by
    have key : ¬ (rootOf (sl (2 * i)) = some r ∨ rootOf (sl (2 * i + 1)) = some r ∨ h r = none) := by
      rintro (h | h | h)
      · exact E.sep j (2 * i) hj (by omega) h1 r hr h
      · exact E.sep j (2 * i + 1) hj (by omega) h2 r hr h
      · obtain ⟨o, ho⟩ := E.slot hj hr; rw [h] at ho; cases ho
    exact ⟨fun h => key (hf r (.inl h)), fun h => key (hf r (.inr h))⟩
  refine ⟨fun t o ht => ?_, ?_, E.new, fun j hj => ?_, fun k hk' r hr => ?_, fun j k hj hk' hne r hr => ?_, fun r hr => ?_⟩
  · have hne : t ≠ rN := fun e => by rw [e, E.new.1] at ht; cases ht
    refine hk t o (E.sub t o ht) hne (fun h => ?_) (fun h => ?_)
    · have := (E.fresh _ (by omega) t h).1; rw [this] at ht; cases ht
    · have := (E.fresh _ (by omega) t h).1; rw [this] at ht; cases ht
  · rw [hN]
    congr 2
    apply List.ext_getElem?
    intro j
    rw [List.getElem?_set]
    show _ = (rowsA ⟨d.nodes.set i x', d.quirks⟩ sl')[j]?
    unfold rowsA
    simp only [hl]
    by_cases hij : i = j
    · subst hij
      rw [if_pos rfl, if_pos (by simpa using hi), List.getElem?_map, List.getElem?_range hi, Option.map_some, nth_set _ _ _ _ hi, if_pos rfl]
    · rw [if_neg hij]
      by_cases hj : j < d.nodes.length
      · rw [List.getElem?_map, List.getElem?_map, List.getElem?_range hj, Option.map_some, Option.map_some, nth_set _ _ _ _ hi, if_neg (fun e => hij e.symm), hs (2 * j) (by omega) (by omega), hs (2 * j + 1) (by omega) (by omega)]
      · rw [List.getElem?_eq_none (by simp; omega), List.getElem?_eq_none (by simp; omega)]
  · simp only [hl] at hj
    show OwnS h2 _ _ ((nth (d.nodes.set i x') j).attrs.map eAttr) _ ∧ OwnS h2 _ _ ((nth (d.nodes.set i x') j).kids.map eInt) _
    rw [nth_set _ _ _ _ hi]
    by_cases hij : j = i
    · subst hij; rw [if_pos rfl]; exact ⟨hA, hK⟩
    · rw [if_neg hij, hs (2 * j) (by omega) (by omega), hs (2 * j + 1) (by omega) (by omega)]
      obtain ⟨g1, g2⟩ := E.own j hj
      exact ⟨g1.keep fun r o hr ho => hk r o ho (E.fresh _ (by omega) r hr).2.1 (fun h => E.sep (2 * j) (2 * i) (by omega) (by omega) (by omega) r hr h) (fun h => E.sep (2 * j) (2 * i + 1) (by omega) (by omega) (by omega) r hr h),
        g2.keep fun r o hr ho => hk r o ho (E.fresh _ (by omega) r hr).2.1 (fun h => E.sep (2 * j + 1) (2 * i) (by omega) (by omega) (by omega) r hr h) (fun h => E.sep (2 * j + 1) (2 * i + 1) (by omega) (by omega) (by omega) r hr h)⟩
  · simp only [hl] at hk'
    by_cases e1 : k = 2 * i
    · subst e1; exact fr r (.inl hr)
    · by_cases e2 : k = 2 * i + 1
      · subst e2; exact fr r (.inr hr)
      · rw [hs k e1 e2] at hr; exact E.fresh k hk' r hr
  · simp only [hl] at hj hk'
    by_cases j1 : j = 2 * i <;> by_cases j2 : j = 2 * i + 1 <;> by_cases k1 : k = 2 * i <;> by_cases k2 : k = 2 * i + 1
    all_goals first
      | (exfalso; omega)
      | (subst j1; subst k2; exact hd r hr)
      | (subst j2; subst k1; exact fun h => hd r h hr)
      | (subst j1; rw [hs k k1 k2]; exact fun h => (oth k hk' k1 k2 r h).1 hr)
      | (subst j2; rw [hs k k1 k2]; exact fun h => (oth k hk' k1 k2 r h).2 hr)
      | (subst k1; rw [hs j j1 j2] at hr; exact (oth j hj j1 j2 r hr).1)
      | (subst k2; rw [hs j j1 j2] at hr; exact (oth j hj j1 j2 r hr).2)
      | (rw [hs j j1 j2] at hr; rw [hs k k1 k2]; exact E.sep j k hj hk' hne r hr)
  · obtain ⟨o, ho⟩ := E.keep r hr
    refine ⟨o, hk r o ho (fun e => E.new.2 (e ▸ hr)) (fun h => ?_) (fun h => ?_)⟩
    · exact (E.fresh _ (by omega) r h).2.2 hr
    · exact (E.fresh _ (by omega) r h).2.2 hr
theorem Dw.vw {X : List Nat} {h0 h : Heap} {rN : Nat} {d : HDoc} {sl' : Nat → AVal} (E : Dw X h0 h rN d sl') : Vw h (.osl rN 6 0 d.nodes.length) (sl eNode d.nodes) := by
  refine Vw.osl0 E.nodes (by simp) (by rw [rowsA_len]; exact Nat.le_refl _) (fun f hf => by obtain ⟨x, _, rfl⟩ := List.mem_map.1 hf; rfl) ?_
  show F2 (F2 (Vw h)) ((rowsA d sl').take d.nodes.length) (d.nodes.map eNode)
  rw [List.take_of_length_le (by rw [rowsA_len]; exact Nat.le_refl _)]
  have key : ∀ (i : Nat), i < d.nodes.length → F2 (Vw h) (rowA (nth d.nodes i) (sl' (2 * i)) (sl' (2 * i + 1))) (eNode (nth d.nodes i)) := fun i hi => by
    obtain ⟨g1, g2⟩ := E.own i hi
    exact .cons (.refl _) (.cons (.refl _) (.cons g1.vw (.cons (.refl _) (.cons (.refl _) (.cons g2.vw .nil)))))
  have e : d.nodes.map eNode = (List.range d.nodes.length).map fun i => eNode (nth d.nodes i) := by
    apply List.ext_getElem?
    intro j
    by_cases hj : j < d.nodes.length
    · rw [List.getElem?_map, List.getElem?_map, List.getElem?_range hj, nth_some hj]; rfl
    · rw [List.getElem?_eq_none (by simp; omega), List.getElem?_eq_none (by simp; omega)]
  rw [e]
  unfold rowsA
  have gen : ∀ l : List Nat, (∀ i ∈ l, i < d.nodes.length) → F2 (F2 (Vw h)) (l.map fun i => rowA (nth d.nodes i) (sl' (2 * i)) (sl' (2 * i + 1))) (l.map fun i => eNode (nth d.nodes i)) := fun l => by
    induction l with
    | nil => intro _; exact .nil
    | cons i l ih => intro hl; exact .cons (key i (hl i List.mem_cons_self)) (ih fun j hj => hl j (List.mem_cons_of_mem _ hj))
  exact gen _ fun i hi => List.mem_range.1 hi
theorem Dw.other {X : List Nat} {h0 h : Heap} {rN : Nat} {d : HDoc} {sl : Nat → AVal} (E : Dw X h0 h rN d sl) {r : Nat} (hr : r ∈ X) (h0r : h0 r = none) (o : AObj) : Dw X h0 (upd h r (some o)) rN d sl := by
  have hne : rN ≠ r := fun e => E.new.2 (e ▸ hr)
  refine ⟨E.sub.upd h0r, by rw [upd_ne _ _ hne]; exact E.nodes, E.new, fun i hi => ?_, E.fresh, E.sep, fun t ht => ?_⟩
  · obtain ⟨g1, g2⟩ := E.own i hi
    exact ⟨g1.keep fun t ob ht ho => by rw [upd_ne _ _ (fun e => (E.fresh _ (by omega) t ht).2.2 (by rw [e]; exact hr))]; exact ho, g2.keep fun t ob ht ho => by rw [upd_ne _ _ (fun e => (E.fresh _ (by omega) t ht).2.2 (by rw [e]; exact hr))]; exact ho⟩
  · by_cases e : t = r
    · subst e; exact ⟨o, upd_same _ _ _⟩
    · rw [upd_ne _ _ e]; exact E.keep t ht
theorem Dw.less {X X' : List Nat} {h0 h : Heap} {rN : Nat} {d : HDoc} {sl : Nat → AVal} (E : Dw X h0 h rN d sl) (hx : ∀ r ∈ X', r ∈ X) : Dw X' h0 h rN d sl :=
  ⟨E.sub, E.nodes, ⟨E.new.1, fun h => E.new.2 (hx _ h)⟩, E.own, fun k hk r hr => ⟨(E.fresh k hk r hr).1, (E.fresh k hk r hr).2.1, fun h => (E.fresh k hk r hr).2.2 (hx _ h)⟩, E.sep, fun r hr => E.keep r (hx r hr)⟩
theorem Dw.more {X : List Nat} {h0 h : Heap} {rN : Nat} {d : HDoc} {sl : Nat → AVal} (E : Dw X h0 h rN d sl) {r : Nat} (hr : h r = none) (o : AObj) : Dw (r :: X) h0 (upd h r (some o)) rN d sl := by
  have hne : rN ≠ r := fun e => by have := E.nodes; rw [e, hr] at this; cases this
  have sn : ∀ k, k < 2 * d.nodes.length → ∀ t, rootOf (sl k) = some t → t ≠ r := fun k hk t ht e => by
    obtain ⟨o', ho⟩ := E.slot hk ht; rw [e, hr] at ho; cases ho
  refine ⟨E.sub.upd (E.sub.none hr), by rw [upd_ne _ _ hne]; exact E.nodes, ⟨E.new.1, fun h => ?_⟩, fun i hi => ?_, fun k hk t ht => ⟨(E.fresh k hk t ht).1, (E.fresh k hk t ht).2.1, fun h => ?_⟩, E.sep, fun t ht => ?_⟩
  · rcases List.mem_cons.1 h with h | h
    · exact hne h
    · exact E.new.2 h
  · obtain ⟨g1, g2⟩ := E.own i hi
    exact ⟨g1.keep fun t ob ht ho => by rw [upd_ne _ _ (sn _ (by omega) t ht)]; exact ho, g2.keep fun t ob ht ho => by rw [upd_ne _ _ (sn _ (by omega) t ht)]; exact ho⟩
  · rcases List.mem_cons.1 h with h | h
    · exact sn k hk t ht h
    · exact (E.fresh k hk t ht).2.2 h
  · by_cases e : t = r
    · subst e; exact ⟨o, upd_same _ _ _⟩
    · rw [upd_ne _ _ e]; exact E.keep t ((List.mem_cons.1 ht).resolve_left e)
end Go.Proofs.K
end
section
set_option linter.unusedSimpArgs false
set_option linter.unusedVariables false
namespace Go.Proofs.K
open Go Go.Sim Go.Proofs
variable {G : Glob}
theorem _root_.Go.Sim.Acc.re {h1 h2 h1' h2' : Heap} {ty : TypeId} {sz : Nat} {cells : List (List AVal)} {a : AVal} (A : Acc h1 ty sz cells a h2) (hd : ∀ r o, h1 r = none → h2 r = some o → h1' r = none ∧ h2' r = some o) : Acc h1' ty sz cells a h2' := by
  rcases A with h | ⟨r, h0, h1, h2⟩
  · exact .inl h
  · exact .inr ⟨r, (hd r _ h0 h1).1, (hd r _ h0 h1).2, h2⟩
theorem _root_.Go.Sim.Acc.keepA {h h1 : Heap} {ty : TypeId} {sz : Nat} {cells : List (List AVal)} {a : AVal} (A : Acc h ty sz cells a h1) {r2 : Nat} (hn : rootOf a ≠ some r2) (o : Option AObj) : Acc h ty sz cells a (upd h1 r2 o) := by
  rcases A with q | ⟨r, q0, q1, q2⟩
  · exact .inl q
  · have : r ≠ r2 := fun e => hn (by rw [q2, e]; rfl)
    exact .inr ⟨r, q0, by rw [upd_ne _ _ this]; exact q1, q2⟩
theorem _root_.Go.Sim.Acc.vw {h h' : Heap} {ty : TypeId} {sz : Nat} {cells : List (List AVal)} {a : AVal} (A : Acc h ty sz cells a h') (hl : ∀ f ∈ cells, f.length = sz) : Vw (newH h h') a (.slc cells) := by
  rcases A with ⟨rfl, rfl⟩ | ⟨r, h0, h1, rfl⟩
  · exact .emp
  · exact Vw.osl0 (by rw [newH_none h0]; exact h1) rfl (Nat.le_refl _) hl (by rw [List.take_length]; exact F2.refl (F2.refl .refl) _)
theorem _root_.Go.Sim.Acc.appW {h h' : Heap} {ty : TypeId} {sz b : Nat} {cells es2 : List (List AVal)} {a : AVal} {K : AVal → Heap → Prop} (A : Acc h ty sz cells a h') (S : Sub h h')
    (h1 : (cells.length + es2.length) * b ≤ 140737488355328) (h2 : cells.length + es2.length ≤ 140737488355328)
    (hk : ∀ a' h'', Acc h ty sz (cells ++ es2) a' h'' → Sub h h'' → (∀ r o, h' r = some o → rootOf a ≠ some r → h'' r = some o ∧ rootOf a' ≠ some r) → K a' h'') : Hd (appE ty sz b a es2 h') K .mk := by
  rcases A with ⟨rfl, rfl⟩ | ⟨r, h0, hr, rfl⟩
  · refine ⟨by simpa using h1, by simpa using h2, fun r hr => hk _ _ ?_ (S.upd (S.none hr)) fun x o hx _ => ?_⟩
    · exact .inr ⟨r, S.none hr, by simp, rfl⟩
    · have : x ≠ r := fun e => by rw [e, hr] at hx; cases hx
      exact ⟨by rw [upd_ne _ _ this]; exact hx, fun e => this (by cases e; rfl)⟩
  · refine ⟨rfl, _, hr, rfl, by simp, h1, h2, fun r' hr' => hk _ _ ?_ ?_ fun x o hx hn => ?_⟩
    · have hn : h r' = none := (S.del h0).none hr'
      refine .inr ⟨r', hn, by simp, by simp⟩
    · exact (S.del h0).upd ((S.del h0).none hr')
    · have hxr : x ≠ r := fun e => hn (by rw [e]; rfl)
      have hd : del h' r x = some o := by unfold del; rw [if_neg hxr]; exact hx
      have : x ≠ r' := fun e => by rw [e, hr'] at hd; cases hd
      exact ⟨by rw [upd_ne _ _ this]; exact hd, fun e => this (by cases e; rfl)⟩
end Go.Proofs.K
end
section
set_option linter.unusedSimpArgs false
set_option linter.unusedVariables false
namespace Go.Proofs.K
open Go Go.Sim Go.Proofs
variable {G : Glob}
theorem outQ_fst (q : Option (List UInt8 × List UInt8)) : (outQ q).1 = fstQ q := by cases q <;> rfl
theorem preH (s : List UInt8) (c : UInt8) : hasPre s [c] = decide (s.head? = some c) := by
  cases s with
  | nil => rfl
  | cons b r =>
    rw [Bool.eq_iff_iff]
    unfold hasPre
    simp
theorem uq_len : ∀ (n : Nat) (t : List UInt8), t.length ≤ n → ∀ x r, uqL t = some (x, r) → r.length < t.length
  | _, [], _, x, r, h => by cases h
  | 0, c :: t, hn, _, _, _ => by simp at hn
  | n + 1, c :: t, hn, x, r, h => by
    simp only [List.length_cons] at hn ⊢
    by_cases h1 : c = 34
    · subst h1; rw [uq_end] at h; cases h; omega
    · by_cases h2 : c ≠ 92 ∨ t.length < 2
      · rw [uq_other h1 h2, Option.map_eq_some_iff] at h
        obtain ⟨⟨y, z⟩, hy, he⟩ := h
        cases he
        have := uq_len n t (by omega) y z hy
        show z.length < _
        omega
      · have h92 : c = 92 := Classical.byContradiction fun h => h2 (.inl h)
        subst h92
        match t, h2, h, hn with
        | [], h2, _, _ => exact absurd (.inr (by simp)) h2
        | [a], h2, _, _ => exact absurd (.inr (by simp)) h2
        | a :: b :: u, _, h, hn =>
          rw [uq_pair, Option.map_eq_some_iff] at h
          obtain ⟨⟨y, z⟩, hy, he⟩ := h
          cases he
          simp only [List.length_cons] at hn ⊢
          have := uq_len n u (by omega) y z hy
          show z.length < _
          omega
theorem inq_len {t x r : List UInt8} (h : inq uqL t = some (x, r)) : r.length < t.length := by
  cases t with
  | nil => cases h
  | cons c t =>
    unfold inq at h
    simp only at h
    split at h
    · have := uq_len _ t (Nat.le_refl _) x r h
      simp only [List.length_cons]; omega
    · cases h
theorem cutB_len (b : UInt8) (t : List UInt8) : (cutB b t).1.length ≤ t.length ∧ ((cutB b t).2.getD []).length ≤ t.length ∧ ∀ r, (cutB b t).2 = some r → r.length < t.length := by
  have h := congrArg List.length (cutB_is (b := b) t).2
  rw [List.length_append] at h
  cases hc : (cutB b t).2 with
  | none => rw [hc] at h; simp only [List.length_nil] at h; exact ⟨by omega, by simp, fun r hr => by cases hr⟩
  | some r =>
    rw [hc] at h
    simp only [List.length_cons] at h
    refine ⟨by omega, by simp only [Option.getD_some]; omega, fun r' hr => by cases hr; omega⟩
theorem atsP_on {f : Nat} {u x r : List UInt8} (h : inq uqL ((cutB 61 u).2.getD []) = some (x, r)) : atsP (f + 1) u = ⟨(cutB 61 u).1, x⟩ :: atsO f (cutB 32 r).2 := by
  rw [atsP, h]
  simp only
  cases (cutB 32 r).2 <;> rfl
theorem atsP_off {f : Nat} {u : List UInt8} (h : inq uqL ((cutB 61 u).2.getD []) = none) : atsP (f + 1) u = [] := by
  rw [atsP, h]
def rowE (x : HNode) : List AVal := rowA x (sl eAttr x.attrs) .emp
def c21 : SFun := ⟨.seq (.reg [⟨some 2, .new 53 6 [.int .i64 0, .str [], .emp, .str [], .int .i64 0, .emp], none⟩]) (.seq (.block 0 (.seq (.reg [⟨some 18, .mv (.t 0), none⟩, ⟨some 19, .pcall 18 [.t 18, .c (.str [33])], none⟩, ⟨some 17, .mv (.t 19), none⟩]) (.cond (.t 17) (.seq (.reg [⟨some 21, .mv (.t 0), none⟩, ⟨some 22, .slS (.t 21) (some (.c (.int .i64 1))) none, none⟩, ⟨some 23, .pcall 37 [.t 22], none⟩, ⟨some 20, .mv (.t 23), none⟩, ⟨some 24, .ext (.t 20) 0, none⟩, ⟨some 25, .ext (.t 20) 1, none⟩, ⟨some 26, .ext (.t 20) 2, none⟩, ⟨some 3, .mv (.t 24), none⟩, ⟨some 4, .mv (.t 25), none⟩, ⟨some 5, .mv (.t 26), none⟩]) (.seq (.reg [⟨some 27, .mv (.t 3), none⟩, ⟨some 28, .bld [.int .i64 0, .str [], .emp, .str [], .int .i64 0, .emp] [(0, (1, (.c (.int .i64 5)))), (1, (1, (.t 27)))], none⟩, ⟨none, .st 6 (.t 2) (.t 28), none⟩]) .ret)) (.seq (.reg [⟨some 30, .mv (.t 0), none⟩, ⟨some 31, .pcall 18 [.t 30, .c (.str [34])], none⟩, ⟨some 29, .mv (.t 31), none⟩]) (.cond (.t 29) (.seq (.reg [⟨some 33, .mv (.t 0), none⟩, ⟨some 34, .pcall 37 [.t 33], none⟩, ⟨some 32, .mv (.t 34), none⟩, ⟨some 35, .ext (.t 32) 0, none⟩, ⟨some 36, .ext (.t 32) 1, none⟩, ⟨some 37, .ext (.t 32) 2, none⟩, ⟨some 6, .mv (.t 35), none⟩, ⟨some 7, .mv (.t 36), none⟩, ⟨some 8, .mv (.t 37), none⟩]) (.seq (.reg [⟨some 38, .mv (.t 6), none⟩, ⟨some 39, .bld [.int .i64 0, .str [], .emp, .str [], .int .i64 0, .emp] [(0, (1, (.c (.int .i64 3)))), (3, (1, (.t 38)))], none⟩, ⟨none, .st 6 (.t 2) (.t 39), none⟩]) .ret)) (.seq (.reg [⟨some 41, .mv (.t 0), none⟩, ⟨some 42, .pcall 18 [.t 41, .c (.str [45])], none⟩, ⟨some 40, .mv (.t 42), none⟩]) (.cond (.t 40) (.seq (.reg [⟨some 44, .mv (.t 0), none⟩, ⟨some 45, .slS (.t 44) (some (.c (.int .i64 1))) none, none⟩, ⟨some 46, .pcall 37 [.t 45], none⟩, ⟨some 43, .mv (.t 46), none⟩, ⟨some 47, .ext (.t 43) 0, none⟩, ⟨some 48, .ext (.t 43) 1, none⟩, ⟨some 49, .ext (.t 43) 2, none⟩, ⟨some 9, .mv (.t 47), none⟩, ⟨some 10, .mv (.t 48), none⟩, ⟨some 11, .mv (.t 49), none⟩]) (.seq (.reg [⟨some 50, .mv (.t 9), none⟩, ⟨some 51, .bld [.int .i64 0, .str [], .emp, .str [], .int .i64 0, .emp] [(0, (1, (.c (.int .i64 4)))), (3, (1, (.t 50)))], none⟩, ⟨none, .st 6 (.t 2) (.t 51), none⟩]) .ret)) .skip))))))) (.seq (.reg [⟨some 53, .mv (.t 0), none⟩, ⟨some 54, .pcall 19 [.t 53, .c (.str [32])], none⟩, ⟨some 52, .mv (.t 54), none⟩, ⟨some 55, .ext (.t 52) 0, none⟩, ⟨some 56, .ext (.t 52) 1, none⟩, ⟨some 57, .ext (.t 52) 2, none⟩, ⟨some 12, .mv (.t 55), none⟩, ⟨some 13, .mv (.t 56), none⟩, ⟨some 14, .mv (.t 57), none⟩]) (.seq (.reg [⟨some 58, .mv (.t 12), none⟩, ⟨some 59, .bld [.int .i64 0, .str [], .emp, .str [], .int .i64 0, .emp] [(0, (1, (.c (.int .i64 2)))), (1, (1, (.t 58)))], none⟩, ⟨none, .st 6 (.t 2) (.t 59), none⟩]) (.seq (.block 1 (.loop (.seq (.seq (.reg [⟨some 60, .mv (.t 14), none⟩]) (.cond (.t 60) .skip (.exit 1))) (.block 2 (.seq (.reg [⟨some 15, .new 43 2 [.str [], .str []], none⟩]) (.seq (.reg [⟨some 16, .mv (.c (.bool false)), none⟩]) (.seq (.reg [⟨some 62, .mv (.t 13), none⟩, ⟨some 63, .pcall 19 [.t 62, .c (.str [61])], none⟩, ⟨some 61, .mv (.t 63), none⟩, ⟨some 64, .ext (.t 61) 0, none⟩, ⟨some 65, .ext (.t 61) 1, none⟩, ⟨some 66, .ext (.t 61) 2, none⟩, ⟨some 67, .fldA 0 (.t 15), none⟩, ⟨none, .st 1 (.t 67) (.t 64), none⟩, ⟨some 13, .mv (.t 65), none⟩]) (.seq (.seq (.reg [⟨some 69, .mv (.t 13), none⟩, ⟨some 70, .pcall 37 [.t 69], none⟩, ⟨some 68, .mv (.t 70), none⟩, ⟨some 71, .ext (.t 68) 0, none⟩, ⟨some 72, .ext (.t 68) 1, none⟩, ⟨some 73, .ext (.t 68) 2, none⟩, ⟨some 74, .fldA 1 (.t 15), none⟩, ⟨none, .st 1 (.t 74) (.t 71), none⟩, ⟨some 13, .mv (.t 72), none⟩, ⟨some 16, .mv (.t 73), none⟩]) (.seq (.reg [⟨some 75, .mv (.t 16), none⟩, ⟨some 76, .un .not (.t 75), none⟩]) (.cond (.t 76) (.exit 1) .skip))) (.seq (.reg [⟨some 77, .fldA 2 (.t 2), none⟩, ⟨some 78, .ld 1 false (.t 77), none⟩, ⟨some 79, .ld 2 true (.t 15), none⟩, ⟨some 80, .bldF 43 2 [.t 79], none⟩, ⟨some 81, .app 43 2 32 (.t 78) (.t 80), none⟩, ⟨some 82, .fldA 2 (.t 2), none⟩, ⟨none, .st 1 (.t 82) (.t 81), none⟩]) (.reg [⟨some 84, .mv (.t 13), none⟩, ⟨some 85, .pcall 19 [.t 84, .c (.str [32])], none⟩, ⟨some 83, .mv (.t 85), none⟩, ⟨some 86, .ext (.t 83) 0, none⟩, ⟨some 87, .ext (.t 83) 1, none⟩, ⟨some 88, .ext (.t 83) 2, none⟩, ⟨some 13, .mv (.t 87), none⟩, ⟨some 14, .mv (.t 88), none⟩])))))))))) (.seq (.reg [⟨some 89, .ld 6 true (.t 2), none⟩, ⟨none, .st 6 (.t 2) (.t 89), none⟩]) .ret))))), [.cell 2 6 true]⟩
theorem hc21 : toSF Tryd.prog {pure := [37, 18, 19]} Tryd.f21 = some c21 := by kernel_rfl
theorem hn21 : (Tryd.f21.name == "runtime.NumGoroutine") = false := by kernel_rfl
set_option maxHeartbeats 1000000 in
theorem snode_ok (hG : MaxLenOK G) (s : List UInt8) (hs : s.length ≤ 1000000) : PCalls (Pg G) 21 [.str s] (.agg (rowE (nodeU s))) := PCalls.outV fun h => by
  have h1 := hasPre_ok (G := G) s [33] (by omega) (by decide)
  have h2 := hasPre_ok (G := G) s [34] (by omega) (by decide)
  have h3 := hasPre_ok (G := G) s [45] (by omega) (by decide)
  rw [preH] at h1 h2 h3
  have ud : ((s.drop 1).length : Int) ≤ 1000000 := by rw [List.length_drop]; omega
  have u1 := unquote_ok (G := G) (s.drop 1) (by omega)
  have u0 := unquote_ok (G := G) s hs
  have cC := cut_ok (G := G) hG s [32] (by omega)
  rw [cut_cutB] at cC
  unfold nodeU
  by_cases c33 : s.head? = some 33
  · rw [if_pos c33]
    rw [decide_eq_true c33] at h1
    have hp : 0 < s.length := by cases s <;> simp at c33 ⊢
    unfold unqV at u1
    rw [outQ_fst] at u1
    refine dcalls_of_vc Tryd.func21 hn21 hc21 (by rw [Tryd.ntmps21]; simp) (by rw [Tryd.ntmps21]; decide) ?_
    simp -dsimp -implicitDefEqProofs (disch := omega) only [VCA, pg_gl, ↓upd_none, Nat.reduceEqDiff, Nat.reduceBEq, Nat.reduceAdd, Nat.reduceSub, Nat.reduceMul, Nat.reduceLT, Nat.reduceLeDiff, ↓reduceIte, reduceCtorEq, rsOf, rootsOf, SOp.rd, SI.rd, SX.rd, rdL, rdO, rdP, okParts, eqCells, okEqCells, fillA, okFill, setAt, implies_true, forall_const, forall_eq, ne_eq, exists_eq_right_right, exists_eq_right, exists_eq_left, exists_eq_left', rootL, eAttr, eInt, eBool, lit_eq, c21]
    intro r2 hr2
    have t1 : Int.toNat 1 = 1 := rfl
    repeat' (first | ((with_reducible refine brC (fun _ => ?_) fun _ => ?_) <;> try (exfalso; omega)) | (with_reducible apply pcallE.of; · exact h1) | (with_reducible apply pcallE.of; · exact u1) | (with_reducible refine And.intro ?_ ?_; · omega) | simp -dsimp -implicitDefEqProofs (disch := omega) only [VCA, pg_gl, ↓upd_none, Nat.reduceEqDiff, Nat.reduceBEq, Nat.reduceAdd, Nat.reduceSub, Nat.reduceMul, Nat.reduceLT, Nat.reduceLeDiff, ↓reduceIte, reduceCtorEq, rsOf, rootsOf, SOp.rd, SI.rd, SX.rd, rdL, rdO, rdP, okParts, eqCells, okEqCells, fillA, okFill, setAt, implies_true, forall_const, forall_eq, ne_eq, exists_eq_right_right, exists_eq_right, exists_eq_left, exists_eq_left', rootL, eAttr, eInt, eBool, lit_eq, upd_same, t1])
    exact ⟨_, Sub.refl _, (Sub.refl h).upd hr2, .one _ _ (.agg' (.cons (.refl _) (.cons (.refl _) (.cons .emp (.cons (.refl _) (.cons (.refl _) (.cons (.refl _) .nil)))))))⟩
  rw [if_neg c33]
  rw [decide_eq_false c33] at h1
  by_cases c34 : s.head? = some 34
  · rw [if_pos c34]
    rw [decide_eq_true c34] at h2
    unfold unqV at u0
    rw [outQ_fst] at u0
    refine dcalls_of_vc Tryd.func21 hn21 hc21 (by rw [Tryd.ntmps21]; simp) (by rw [Tryd.ntmps21]; decide) ?_
    simp -dsimp -implicitDefEqProofs (disch := omega) only [VCA, pg_gl, ↓upd_none, Nat.reduceEqDiff, Nat.reduceBEq, Nat.reduceAdd, Nat.reduceSub, Nat.reduceMul, Nat.reduceLT, Nat.reduceLeDiff, ↓reduceIte, reduceCtorEq, rsOf, rootsOf, SOp.rd, SI.rd, SX.rd, rdL, rdO, rdP, okParts, eqCells, okEqCells, fillA, okFill, setAt, implies_true, forall_const, forall_eq, ne_eq, exists_eq_right_right, exists_eq_right, exists_eq_left, exists_eq_left', rootL, eAttr, eInt, eBool, lit_eq, c21]
    intro r2 hr2
    repeat' (first | ((with_reducible refine brC (fun _ => ?_) fun _ => ?_) <;> try (exfalso; omega)) | (with_reducible apply pcallE.of; · exact h1) | (with_reducible apply pcallE.of; · exact h2) | (with_reducible apply pcallE.of; · exact u0) | (with_reducible refine And.intro ?_ ?_; · omega) | simp -dsimp -implicitDefEqProofs (disch := omega) only [VCA, pg_gl, ↓upd_none, Nat.reduceEqDiff, Nat.reduceBEq, Nat.reduceAdd, Nat.reduceSub, Nat.reduceMul, Nat.reduceLT, Nat.reduceLeDiff, ↓reduceIte, reduceCtorEq, rsOf, rootsOf, SOp.rd, SI.rd, SX.rd, rdL, rdO, rdP, okParts, eqCells, okEqCells, fillA, okFill, setAt, implies_true, forall_const, forall_eq, ne_eq, exists_eq_right_right, exists_eq_right, exists_eq_left, exists_eq_left', rootL, eAttr, eInt, eBool, lit_eq, upd_same])
    exact ⟨_, Sub.refl _, (Sub.refl h).upd hr2, .one _ _ (.agg' (.cons (.refl _) (.cons (.refl _) (.cons .emp (.cons (.refl _) (.cons (.refl _) (.cons (.refl _) .nil)))))))⟩
  rw [if_neg c34]
  rw [decide_eq_false c34] at h2
  by_cases c45 : s.head? = some 45
  · rw [if_pos c45]
    rw [decide_eq_true c45] at h3
    have hp : 0 < s.length := by cases s <;> simp at c45 ⊢
    unfold unqV at u1
    rw [outQ_fst] at u1
    refine dcalls_of_vc Tryd.func21 hn21 hc21 (by rw [Tryd.ntmps21]; simp) (by rw [Tryd.ntmps21]; decide) ?_
    simp -dsimp -implicitDefEqProofs (disch := omega) only [VCA, pg_gl, ↓upd_none, Nat.reduceEqDiff, Nat.reduceBEq, Nat.reduceAdd, Nat.reduceSub, Nat.reduceMul, Nat.reduceLT, Nat.reduceLeDiff, ↓reduceIte, reduceCtorEq, rsOf, rootsOf, SOp.rd, SI.rd, SX.rd, rdL, rdO, rdP, okParts, eqCells, okEqCells, fillA, okFill, setAt, implies_true, forall_const, forall_eq, ne_eq, exists_eq_right_right, exists_eq_right, exists_eq_left, exists_eq_left', rootL, eAttr, eInt, eBool, lit_eq, c21]
    intro r2 hr2
    have t1 : Int.toNat 1 = 1 := rfl
    repeat' (first | ((with_reducible refine brC (fun _ => ?_) fun _ => ?_) <;> try (exfalso; omega)) | (with_reducible apply pcallE.of; · exact h1) | (with_reducible apply pcallE.of; · exact h2) | (with_reducible apply pcallE.of; · exact h3) | (with_reducible apply pcallE.of; · exact u1) | (with_reducible refine And.intro ?_ ?_; · omega) | simp -dsimp -implicitDefEqProofs (disch := omega) only [VCA, pg_gl, ↓upd_none, Nat.reduceEqDiff, Nat.reduceBEq, Nat.reduceAdd, Nat.reduceSub, Nat.reduceMul, Nat.reduceLT, Nat.reduceLeDiff, ↓reduceIte, reduceCtorEq, rsOf, rootsOf, SOp.rd, SI.rd, SX.rd, rdL, rdO, rdP, okParts, eqCells, okEqCells, fillA, okFill, setAt, implies_true, forall_const, forall_eq, ne_eq, exists_eq_right_right, exists_eq_right, exists_eq_left, exists_eq_left', rootL, eAttr, eInt, eBool, lit_eq, upd_same, t1])
    exact ⟨_, Sub.refl _, (Sub.refl h).upd hr2, .one _ _ (.agg' (.cons (.refl _) (.cons (.refl _) (.cons .emp (.cons (.refl _) (.cons (.refl _) (.cons (.refl _) .nil)))))))⟩
  rw [if_neg c45]
  rw [decide_eq_false c45] at h3
  obtain ⟨nm, hnm⟩ : ∃ nm, (cutB 32 s).1 = nm := ⟨_, rfl⟩
  have hcl := cutB_len 32 s
  rw [hnm] at cC ⊢
  refine dcalls_of_vc Tryd.func21 hn21 hc21 (by rw [Tryd.ntmps21]; simp) (by rw [Tryd.ntmps21]; decide) ?_
  simp -dsimp -implicitDefEqProofs (disch := omega) only [VCA, pg_gl, ↓upd_none, Nat.reduceEqDiff, Nat.reduceBEq, Nat.reduceAdd, Nat.reduceSub, Nat.reduceMul, Nat.reduceLT, Nat.reduceLeDiff, ↓reduceIte, reduceCtorEq, rsOf, rootsOf, SOp.rd, SI.rd, SX.rd, rdL, rdO, rdP, okParts, eqCells, okEqCells, fillA, okFill, setAt, implies_true, forall_const, forall_eq, ne_eq, exists_eq_right_right, exists_eq_right, exists_eq_left, exists_eq_left', rootL, eAttr, eInt, eBool, lit_eq, c21]
  intro r2 hr2
  repeat' (first | ((with_reducible refine brC (fun _ => ?_) fun _ => ?_) <;> try (exfalso; omega)) | (with_reducible apply pcallE.of; · exact h1) | (with_reducible apply pcallE.of; · exact h2) | (with_reducible apply pcallE.of; · exact h3) | (with_reducible apply pcallE.of; · exact cC) | (with_reducible refine And.intro ?_ ?_; · omega) | simp -dsimp -implicitDefEqProofs (disch := omega) only [VCA, pg_gl, ↓upd_none, Nat.reduceEqDiff, Nat.reduceBEq, Nat.reduceAdd, Nat.reduceSub, Nat.reduceMul, Nat.reduceLT, Nat.reduceLeDiff, ↓reduceIte, reduceCtorEq, rsOf, rootsOf, SOp.rd, SI.rd, SX.rd, rdL, rdO, rdP, okParts, eqCells, okEqCells, fillA, okFill, setAt, implies_true, forall_const, forall_eq, ne_eq, exists_eq_right_right, exists_eq_right, exists_eq_left, exists_eq_left', rootL, eAttr, eInt, eBool, lit_eq, upd_same])
  refine LoopVC.intro (fun m e h' => ∃ (f : Nat) (D : List HAttr) (a : AVal) (u : List UInt8) (b : Bool), m = u.length + (if b = true then 1 else 0) ∧ u.length < f ∧ u.length ≤ s.length ∧ e 2 = .vp r2 0 ∧ e 13 = .str u ∧ e 14 = .bool b ∧
      h' r2 = some ⟨.t 53, 6, [[aInt 2, .str nm, a, .str [], aInt 0, .emp]]⟩ ∧ Acc h 43 2 (D.map eAttr) a h' ∧ rootOf a ≠ some r2 ∧ Sim.Sub h h' ∧ D.length + u.length ≤ s.length ∧
      D ++ (if b = true then atsP f u else []) = atsO (s.length + 1) (cutB 32 s).2) (((cutB 32 s).2.getD []).length + (if (cutB 32 s).2.isSome = true then 1 else 0))
    ?_ ?_
  · refine ⟨s.length + 1, [], .emp, (cutB 32 s).2.getD [], (cutB 32 s).2.isSome, rfl, by omega, hcl.2.1, rfl, rfl, rfl, by simp [upd], .nil, (fun e => by cases e), (Sub.refl h).upd hr2, by simpa using hcl.2.1, ?_⟩
    cases (cutB 32 s).2 <;> rfl
  · rintro m e h' ⟨f, D, a, u, b, rfl, hf, hu, e2, e13, e14, g2, A, na, S, hD, hE⟩
    obtain ⟨g, rfl⟩ : ∃ g, f = g + 1 := ⟨f - 1, by omega⟩
    have fin : ∀ (D : List HAttr) (a : AVal) (h3 : Heap), h3 r2 = some ⟨.t 53, 6, [[aInt 2, .str nm, a, .str [], aInt 0, .emp]]⟩ → Acc h 43 2 (D.map eAttr) a h3 → rootOf a ≠ some r2 → Sim.Sub h h3 → D = atsO (s.length + 1) (cutB 32 s).2 →
        ∃ h4, Sim.Sub h4 h3 ∧ Sim.Sub h h4 ∧ VwT (newH h h4) (.agg [aInt 2, .str nm, a, .str [], aInt 0, .emp]) (.agg (rowE ⟨2, nm, atsO (s.length + 1) (cutB 32 s).2, [], 0, []⟩)) := fun D a h3 g2 A na S hE => by
      rw [← hE]
      exact ⟨_, Sub.refl _, S, .one _ _ (.agg' (.cons (.refl _) (.cons (.refl _) (.cons (A.vw fun f hf => by obtain ⟨x, _, rfl⟩ := List.mem_map.1 hf; rfl) (.cons (.refl _) (.cons (.refl _) (.cons (.refl _) .nil)))))))⟩
    cases b with
    | false =>
      rw [if_neg (by simp), List.append_nil] at hE
      repeat' (first | ((with_reducible refine brC (fun _ => ?_) fun _ => ?_) <;> try (exfalso; omega)) | (with_reducible refine And.intro ?_ ?_; · omega) | simp -dsimp -implicitDefEqProofs (disch := omega) only [VCA, pg_gl, ↓upd_none, Nat.reduceEqDiff, Nat.reduceBEq, Nat.reduceAdd, Nat.reduceSub, Nat.reduceMul, Nat.reduceLT, Nat.reduceLeDiff, ↓reduceIte, reduceCtorEq, rsOf, rootsOf, SOp.rd, SI.rd, SX.rd, rdL, rdO, rdP, okParts, eqCells, okEqCells, fillA, okFill, setAt, implies_true, forall_const, forall_eq, ne_eq, exists_eq_right_right, exists_eq_right, exists_eq_left, exists_eq_left', rootL, eAttr, eInt, eBool, lit_eq, e2, e13, e14, g2, upd_same])
      rw [upd_id g2]
      exact fin D a h' g2 A na S hE
    | true =>
      rw [if_pos rfl] at hE
      have hl := cutB_len 61 u
      have cK := cut_ok (G := G) hG u [61] (by omega)
      rw [cut_cutB] at cK
      obtain ⟨v, hv⟩ : ∃ v, (cutB 61 u).2.getD [] = v := ⟨_, rfl⟩
      obtain ⟨w, hw⟩ : ∃ w, (cutB 61 u).1 = w := ⟨_, rfl⟩
      rw [hv, hw] at cK hl
      have uK := unquote_ok (G := G) v (by omega)
      unfold unqV at uK
      cases hq : inq uqL v with
      | none =>
        rw [hq] at uK
        rw [atsP_off (by rw [hv]; exact hq), List.append_nil] at hE
        repeat' (first | ((with_reducible refine brC (fun _ => ?_) fun _ => ?_) <;> try (exfalso; omega)) | (with_reducible refine And.intro ?_ ?_; · omega) | simp -dsimp -implicitDefEqProofs (disch := omega) only [VCA, pg_gl, ↓upd_none, Nat.reduceEqDiff, Nat.reduceBEq, Nat.reduceAdd, Nat.reduceSub, Nat.reduceMul, Nat.reduceLT, Nat.reduceLeDiff, ↓reduceIte, reduceCtorEq, rsOf, rootsOf, SOp.rd, SI.rd, SX.rd, rdL, rdO, rdP, okParts, eqCells, okEqCells, fillA, okFill, setAt, implies_true, forall_const, forall_eq, ne_eq, exists_eq_right_right, exists_eq_right, exists_eq_left, exists_eq_left', rootL, eAttr, eInt, eBool, lit_eq, e2, e13, e14, g2, upd_same])
        intro r15 hr15
        have n1 : ¬ r2 = r15 := fun q => by rw [← q, g2] at hr15; cases hr15
        have n2 : ¬ r15 = r2 := fun q => n1 q.symm
        repeat' (first | ((with_reducible refine brC (fun _ => ?_) fun _ => ?_) <;> try (exfalso; omega)) | (with_reducible apply pcallE.of; · exact cK) | (with_reducible apply pcallE.of; · exact uK) | (with_reducible refine And.intro ?_ ?_; · omega) | simp -dsimp -implicitDefEqProofs (disch := omega) only [VCA, pg_gl, ↓upd_none, Nat.reduceEqDiff, Nat.reduceBEq, Nat.reduceAdd, Nat.reduceSub, Nat.reduceMul, Nat.reduceLT, Nat.reduceLeDiff, ↓reduceIte, reduceCtorEq, rsOf, rootsOf, SOp.rd, SI.rd, SX.rd, rdL, rdO, rdP, okParts, eqCells, okEqCells, fillA, okFill, setAt, implies_true, forall_const, forall_eq, ne_eq, exists_eq_right_right, exists_eq_right, exists_eq_left, exists_eq_left', rootL, eAttr, eInt, eBool, lit_eq, e2, e13, e14, g2, upd_same, outQ, n1, n2])
        have hg : upd h' r15 (some ⟨.t 43, 2, [[.str w, .str []]]⟩) r2 = some ⟨.t 53, 6, [[aInt 2, .str nm, a, .str [], aInt 0, .emp]]⟩ := by rw [upd_ne _ _ n1]; exact g2
        rw [upd_id hg]
        exact fin D a _ hg (A.re fun t o q0 q1 => ⟨q0, by rw [upd_ne _ _ (fun e => by rw [e, hr15] at q1; cases q1)]; exact q1⟩) na (S.upd (S.none hr15)) hE
      | some q =>
        obtain ⟨x, r⟩ := q
        rw [hq] at uK
        have hr := inq_len hq
        have cR := cut_ok (G := G) hG r [32] (by omega)
        rw [cut_cutB] at cR
        have hl3 := cutB_len 32 r
        rw [atsP_on (by rw [hv]; exact hq), hw] at hE
        repeat' (first | ((with_reducible refine brC (fun _ => ?_) fun _ => ?_) <;> try (exfalso; omega)) | (with_reducible refine And.intro ?_ ?_; · omega) | simp -dsimp -implicitDefEqProofs (disch := omega) only [VCA, pg_gl, ↓upd_none, Nat.reduceEqDiff, Nat.reduceBEq, Nat.reduceAdd, Nat.reduceSub, Nat.reduceMul, Nat.reduceLT, Nat.reduceLeDiff, ↓reduceIte, reduceCtorEq, rsOf, rootsOf, SOp.rd, SI.rd, SX.rd, rdL, rdO, rdP, okParts, eqCells, okEqCells, fillA, okFill, setAt, implies_true, forall_const, forall_eq, ne_eq, exists_eq_right_right, exists_eq_right, exists_eq_left, exists_eq_left', rootL, eAttr, eInt, eBool, lit_eq, e2, e13, e14, g2, upd_same])
        intro r15 hr15
        have n1 : ¬ r2 = r15 := fun q => by rw [← q, g2] at hr15; cases hr15
        have n2 : ¬ r15 = r2 := fun q => n1 q.symm
        repeat' (first | ((with_reducible refine brC (fun _ => ?_) fun _ => ?_) <;> try (exfalso; omega)) | (with_reducible apply pcallE.of; · exact cK) | (with_reducible apply pcallE.of; · exact uK) | (with_reducible apply pcallE.of; · exact cR) | (with_reducible refine And.intro ?_ ?_; · omega) | simp -dsimp -implicitDefEqProofs (disch := omega) only [VCA, pg_gl, ↓upd_none, Nat.reduceEqDiff, Nat.reduceBEq, Nat.reduceAdd, Nat.reduceSub, Nat.reduceMul, Nat.reduceLT, Nat.reduceLeDiff, ↓reduceIte, reduceCtorEq, rsOf, rootsOf, SOp.rd, SI.rd, SX.rd, rdL, rdO, rdP, okParts, eqCells, okEqCells, fillA, okFill, setAt, implies_true, forall_const, forall_eq, ne_eq, exists_eq_right_right, exists_eq_right, exists_eq_left, exists_eq_left', rootL, eAttr, eInt, eBool, lit_eq, e2, e13, e14, g2, upd_same, outQ, n1, n2])
        have A1 : Acc h 43 2 (D.map eAttr) a (upd h' r15 (some ⟨.t 43, 2, [[.str w, .str x]]⟩)) := A.re fun t o q0 q1 => ⟨q0, by rw [upd_ne _ _ (fun e => by rw [e, hr15] at q1; cases q1)]; exact q1⟩
        refine A1.appW (S.upd (S.none hr15)) (by simp; omega) (by simp; omega) (fun a' h4 A' S' kp => ?_)
        obtain ⟨f2, p2⟩ := kp r2 ⟨53, 6, [[aInt 2, .str nm, a, .str [], aInt 0, .emp]]⟩ (by rw [upd_ne _ _ n1]; exact g2) na
        obtain ⟨va, ca⟩ : isV a' = true ∧ cellsOf a' = [a'] := by rcases A' with ⟨_, rfl⟩ | ⟨_, _, _, rfl⟩ <;> exact ⟨rfl, rfl⟩
        repeat' (first | ((with_reducible refine brC (fun _ => ?_) fun _ => ?_) <;> try (exfalso; omega)) | (with_reducible apply pcallE.of; · exact cR) | (with_reducible refine And.intro ?_ ?_; · omega) | simp -dsimp -implicitDefEqProofs (disch := omega) only [VCA, pg_gl, ↓upd_none, Nat.reduceEqDiff, Nat.reduceBEq, Nat.reduceAdd, Nat.reduceSub, Nat.reduceMul, Nat.reduceLT, Nat.reduceLeDiff, ↓reduceIte, reduceCtorEq, rsOf, rootsOf, SOp.rd, SI.rd, SX.rd, rdL, rdO, rdP, okParts, eqCells, okEqCells, fillA, okFill, setAt, implies_true, forall_const, forall_eq, ne_eq, exists_eq_right_right, exists_eq_right, exists_eq_left, exists_eq_left', rootL, eAttr, eInt, eBool, lit_eq, e2, e13, e14, f2, upd_same, outQ, n1, n2, va, ca])
        refine ⟨_, ?_, g, D ++ [⟨w, x⟩], a', (cutB 32 r).2.getD [], (cutB 32 r).2.isSome, rfl, by omega, by omega, rfl, rfl, rfl, by rw [List.map_append]; exact A'.keepA p2 _, p2, S'.upd hr2, ?_, ?_⟩
        · have := hl3.2.2
          cases hc : (cutB 32 r).2 with
          | none => simp
          | some z => have := this z hc; simp; omega
        · rw [List.length_append, List.length_singleton]; omega
        · rw [← hE]
          cases (cutB 32 r).2 <;> simp [atsO]
end Go.Proofs.K
end
