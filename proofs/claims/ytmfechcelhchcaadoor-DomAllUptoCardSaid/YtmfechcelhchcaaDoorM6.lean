/- Texts of this claim, one behind the other. -/
import Derived.Test.YtmfechcelhchcaaDoorM5
section
/- Ranges: paths of points, their order. -/
set_option linter.unusedSimpArgs false
set_option linter.unusedVariables false
namespace Go.Proofs.K
open Go Go.Sim Go.Proofs
variable {G : Glob}
structure HPoint where
  node : Int
  at' : Int
deriving DecidableEq, Inhabited
def eP (p : HPoint) : List AVal := [aInt p.node, aInt p.at']
instance : LenE eP 2 := ⟨fun _ => rfl⟩
structure HSpan where
  a : HPoint
  b : HPoint
deriving DecidableEq, Inhabited
def eS (s : HSpan) : List AVal := [aInt s.a.node, aInt s.a.at', aInt s.b.node, aInt s.b.at']
instance : LenE eS 4 := ⟨fun _ => rfl⟩
end Go.Proofs.K
end
section
/- Ranges: points, spans: contracts. -/
set_option linter.unusedSimpArgs false
set_option linter.unusedVariables false
namespace Go.Proofs.K
open Go Go.Sim Go.Proofs
variable {G : Glob}
section
variable {d : HDoc}
end
end Go.Proofs.K
end
section
/- Ranges: the order of points, plain law. -/
set_option linter.unusedSimpArgs false
set_option linter.unusedVariables false
namespace Go.Proofs.K
open Go Go.Sim Go.Proofs
/-! ## lists by their order -/
/-! ## all points of a tree, in their order -/
section
variable {d : HDoc}
end
end Go.Proofs.K
end
section
/- Ranges: order, points, span, Check, Less; the reference's errors. -/
set_option linter.unusedSimpArgs false
set_option linter.unusedVariables false
namespace Go.Proofs.K
open Go Go.Sim Go.Proofs
variable {G : Glob}
end Go.Proofs.K
end
section
/- Ranges: the reference's marks, SpanErr. -/
set_option linter.unusedSimpArgs false
set_option linter.unusedVariables false
namespace Go.Proofs.K
open Go Go.Sim Go.Proofs
variable {G : Glob}
end Go.Proofs.K
end
section
/- Ranges: the tree's order, as a list. -/
set_option linter.unusedSimpArgs false
set_option linter.unusedVariables false
namespace Go.Proofs.K
open Go Go.Sim Go.Proofs
variable {G : Glob}
def c109 : SFun := ⟨(.seq (.reg [⟨(some 3), (.boxF 24 2 (.t 0)), none⟩, ⟨(some 6), (.mv (.c .emp)), none⟩]) (.seq (.reg [⟨(some 9), (.mv (.t 2)), none⟩, ⟨(some 10), (.mv (.t 1)), none⟩, ⟨(some 11), (.bldF 3 1 [(.t 10)]), none⟩, ⟨(some 12), (.app 3 1 8 (.t 9) (.t 11)), none⟩, ⟨(some 2), (.mv (.t 12)), none⟩]) (.seq (.seq (.reg [⟨(some 13), (.fldA 0 (.t 3)), none⟩, ⟨(some 14), (.ld 1 false (.t 13)), none⟩, ⟨(some 15), (.mv (.t 1)), none⟩, ⟨(some 16), (.idxA 6 (.t 14) (.t 15)), none⟩, ⟨(some 17), (.fldA 5 (.t 16)), none⟩, ⟨(some 18), (.ld 1 false (.t 17)), none⟩, ⟨(some 19), (.len (.t 18)), none⟩, ⟨(some 20), (.mv (.c (.int .i64 (0)))), none⟩]) (.block 0 (.loop (.seq (.reg [⟨(some 21), (.bin .lss (.t 20) (.t 19)), none⟩]) (.seq (.cond (.t 21) .skip (.exit 0)) (.seq (.block 1 (.seq (.reg [⟨(some 22), (.idxA 1 (.t 18) (.t 20)), none⟩, ⟨(some 23), (.ld 1 false (.t 22)), none⟩, ⟨(some 8), (.mv (.t 23)), none⟩]) (.reg [⟨(some 24), (.ld 2 true (.t 3)), none⟩, ⟨(some 25), (.mv (.t 8)), none⟩, ⟨(some 26), (.mv (.t 2)), none⟩, ⟨(some 27), (.call (.c (.fn 109 [] [])) [(.t 24), (.t 25), (.t 26)]), none⟩, ⟨(some 2), (.mv (.t 27)), none⟩]))) (.reg [⟨(some 28), (.bin .add (.t 20) (.c (.int .i64 (1)))), none⟩, ⟨(some 20), (.mv (.t 28)), none⟩]))))))) (.seq (.reg [⟨(some 29), (.mv (.t 2)), none⟩, ⟨(some 6), (.mv (.t 29)), none⟩]) .ret)))), [(.tmp 6)]⟩
theorem hc109 : toSF Tryd.prog {} Tryd.f109 = some c109 := by kernel_rfl
theorem hn109 : (Tryd.f109.name == "runtime.NumGoroutine") = false := by kernel_rfl
theorem walk_ok (d : HDoc) (V : DV d) (sm : DocSm d) : ∀ n, inD d n → ∀ (h h1 : Heap) (L : List Int) (a : AVal), Acc h 3 1 (L.map eInt) a h1 → Sim.Sub h h1 → L.length + (below d n).length ≤ 1000000 →
    DCalls (Pg G) 109 [.agg (eDoc d), aInt n, a] h1 fun r h2 => Acc h 3 1 ((L ++ below d n).map eInt) r h2 ∧ Sim.Sub h h2 := V.down fun n hn ih h h1 L a A S hL => by
  have hl := V.len
  have n0 := hn.1
  have n1 := hn.2
  have e0 : nth d.nodes n.toNat = nd d n := rfl
  have kl := (sm.nd n).kids
  have bl := below_len V hn
  have be := below_eq V hn
  refine dcalls_of_vc Tryd.func109 hn109 hc109 (by rw [Tryd.ntmps109]; simp) (by rw [Tryd.ntmps109]; decide) ?_
  simp -dsimp -implicitDefEqProofs (disch := omega) only [VCA, pg_gl, ↓upd_none, Nat.reduceEqDiff, Nat.reduceBEq, Nat.reduceAdd, Nat.reduceSub, Nat.reduceMul, Nat.reduceLT, Nat.reduceLeDiff, ↓reduceIte, reduceCtorEq, rsOf, rootsOf, SOp.rd, SI.rd, SX.rd, rdL, rdO, rdP, okParts, eqCells, okEqCells, fillA, okFill, setAt, implies_true, forall_const, forall_eq, ne_eq, exists_eq_right_right, exists_eq_right, exists_eq_left, exists_eq_left', eInt, eBool, lit_eq, c109, eDoc, eNode]
  refine A.app S (by simp only [List.length_map, List.length_cons, List.length_nil]; omega) (by simp only [List.length_map, List.length_cons, List.length_nil]; omega) fun a2 h2 A2 S2 => ?_
  simp -dsimp -implicitDefEqProofs (disch := omega) only [VCA, pg_gl, ↓upd_none, Nat.reduceEqDiff, Nat.reduceBEq, Nat.reduceAdd, Nat.reduceSub, Nat.reduceMul, Nat.reduceLT, Nat.reduceLeDiff, ↓reduceIte, reduceCtorEq, rsOf, rootsOf, SOp.rd, SI.rd, SX.rd, rdL, rdO, rdP, okParts, eqCells, okEqCells, fillA, okFill, setAt, implies_true, forall_const, forall_eq, ne_eq, exists_eq_right_right, exists_eq_right, exists_eq_left, exists_eq_left', eInt, eBool, lit_eq, eDoc, eNode, e0]
  refine ⟨by omega, ?_⟩
  have A0 : Acc h 3 1 ((L ++ n :: ((nd d n).kids.take 0).flatMap (below d)).map eInt) a2 h2 := by simpa [eInt] using A2
  have bel : (below d n).length = 1 + ((nd d n).kids.flatMap (below d)).length := by rw [be, List.length_cons]; omega
  refine LoopVC.intro (fun m e h' => ∃ k : Nat, k ≤ (nd d n).kids.length ∧ m = (nd d n).kids.length - k ∧ e 3 = .pin (eDoc d) ∧ e 18 = sl eInt (nd d n).kids ∧ e 19 = aInt (nd d n).kids.length ∧ e 20 = aInt k ∧ Acc h 3 1 ((L ++ n :: ((nd d n).kids.take k).flatMap (below d)).map eInt) (e 2) h' ∧ Sim.Sub h h') _ ⟨0, by omega, rfl, rfl, rfl, rfl, rfl, A0, S2⟩ ?_
  clear A0 A2 S2 A S
  rintro m e h' ⟨k, hk, rfl, he3, he18, he19, he20, A, S⟩
  simp -dsimp -implicitDefEqProofs (disch := omega) only [VCA, pg_gl, ↓upd_none, Nat.reduceEqDiff, Nat.reduceBEq, Nat.reduceAdd, Nat.reduceSub, Nat.reduceMul, Nat.reduceLT, Nat.reduceLeDiff, ↓reduceIte, reduceCtorEq, rsOf, rootsOf, SOp.rd, SI.rd, SX.rd, rdL, rdO, rdP, okParts, eqCells, okEqCells, fillA, okFill, setAt, implies_true, forall_const, forall_eq, ne_eq, exists_eq_right_right, exists_eq_right, exists_eq_left, exists_eq_left', eInt, eBool, lit_eq, he3, he18, he19, he20]
  refine Br.dec (fun hlt => ?_) (fun hge => ?_)
  · have hk' : k < (nd d n).kids.length := by omega
    have hfl : (((nd d n).kids.take (k + 1)).flatMap (below d)).length ≤ ((nd d n).kids.flatMap (below d)).length := by
      conv => rhs; rw [← List.take_append_drop (k + 1) (nd d n).kids, List.flatMap_append, List.length_append]
      omega
    rw [take_snoc hk', List.flatMap_append, List.length_append] at hfl
    simp only [List.flatMap_cons, List.flatMap_nil, List.append_nil] at hfl
    have hI := ih _ (nth_mem' hk') h h' (L ++ n :: ((nd d n).kids.take k).flatMap (below d)) (e 2) A S (by rw [List.length_append, List.length_cons]; omega)
    simp -dsimp -implicitDefEqProofs (disch := omega) only [VCA, pg_gl, ↓upd_none, Nat.reduceEqDiff, Nat.reduceBEq, Nat.reduceAdd, Nat.reduceSub, Nat.reduceMul, Nat.reduceLT, Nat.reduceLeDiff, ↓reduceIte, reduceCtorEq, rsOf, rootsOf, SOp.rd, SI.rd, SX.rd, rdL, rdO, rdP, okParts, eqCells, okEqCells, fillA, okFill, setAt, implies_true, forall_const, forall_eq, ne_eq, exists_eq_right_right, exists_eq_right, exists_eq_left, exists_eq_left', eInt, eBool, lit_eq, he3, he18, he19, he20, eDoc_len, eDoc_take]
    refine ⟨by omega, ?_⟩
    refine DCalls.of hI ?_
    rintro r h3 ⟨A3, S3⟩
    have A4 : Acc h 3 1 ((L ++ n :: ((nd d n).kids.take (k + 1)).flatMap (below d)).map eInt) r h3 := by
      rw [take_snoc hk', List.flatMap_append]
      simpa using A3
    simp -dsimp -implicitDefEqProofs (disch := omega) only [VCA, pg_gl, ↓upd_none, Nat.reduceEqDiff, Nat.reduceBEq, Nat.reduceAdd, Nat.reduceSub, Nat.reduceMul, Nat.reduceLT, Nat.reduceLeDiff, ↓reduceIte, reduceCtorEq, rsOf, rootsOf, SOp.rd, SI.rd, SX.rd, rdL, rdO, rdP, okParts, eqCells, okEqCells, fillA, okFill, setAt, implies_true, forall_const, forall_eq, ne_eq, exists_eq_right_right, exists_eq_right, exists_eq_left, exists_eq_left', eInt, eBool, lit_eq, he3, he18, he19, he20]
    exact ⟨_, by omega, k + 1, by omega, rfl, by omega, A4, S3⟩
  · obtain rfl : k = (nd d n).kids.length := by omega
    rw [List.take_length, ← be] at A
    simp -dsimp -implicitDefEqProofs (disch := omega) only [VCA, pg_gl, ↓upd_none, Nat.reduceEqDiff, Nat.reduceBEq, Nat.reduceAdd, Nat.reduceSub, Nat.reduceMul, Nat.reduceLT, Nat.reduceLeDiff, ↓reduceIte, reduceCtorEq, rsOf, rootsOf, SOp.rd, SI.rd, SX.rd, rdL, rdO, rdP, okParts, eqCells, okEqCells, fillA, okFill, setAt, implies_true, forall_const, forall_eq, ne_eq, exists_eq_right_right, exists_eq_right, exists_eq_left, exists_eq_left', eInt, eBool, lit_eq]
    exact ⟨_, Sub.refl _, A, S⟩
theorem walk0_ok (d : HDoc) (V : DV d) (sm : DocSm d) (n : Int) (hn : inD d n) : PCalls (Pg G) 109 [.agg (eDoc d), aInt n, .emp] (sl eInt (below d n)) := PCalls.acc (ty := 3) (sz := 1) fun h =>
  (walk_ok (G := G) d V sm n hn h h [] .emp .nil (Sub.refl _) (by have := below_len V hn; have := V.len; simp; omega)).mono fun r h' hh => by rw [List.nil_append] at hh; exact hh
def c59 : SFun := ⟨(.seq (.reg [⟨(some 1), (.boxF 24 2 (.t 0)), none⟩, ⟨(some 2), (.mv (.c .emp)), none⟩, ⟨(some 3), (.mv (.c (.int .i64 (0)))), none⟩]) (.seq (.seq (.reg [⟨(some 5), (.ld 2 true (.t 1)), none⟩, ⟨(some 6), (.pcall 52 [(.t 5)]), none⟩, ⟨(some 4), (.mv (.t 6)), none⟩]) (.seq (.reg [⟨(some 7), (.mv (.t 4)), none⟩, ⟨(some 8), (.bin .neq (.t 7) (.c (.int .i64 (0)))), none⟩]) (.cond (.t 8) (.seq (.reg [⟨(some 9), (.mv (.t 4)), none⟩, ⟨(some 2), (.mv (.c .emp)), none⟩, ⟨(some 3), (.mv (.t 9)), none⟩]) .ret) .skip))) (.seq (.reg [⟨(some 10), (.ld 2 true (.t 1)), none⟩, ⟨(some 11), (.pcall 109 [(.t 10), (.c (.int .i64 (0))), (.c .emp)]), none⟩, ⟨(some 2), (.mv (.t 11)), none⟩, ⟨(some 3), (.mv (.c (.int .i64 (0)))), none⟩]) .ret))), [(.tmp 2), (.tmp 3)]⟩
theorem hc59 : toSF Tryd.prog {pure := [52, 109]} Tryd.f59 = some c59 := by kernel_rfl
theorem hn59 : (Tryd.f59.name == "runtime.NumGoroutine") = false := by kernel_rfl
theorem domOrder_ok (d : HDoc) (V : DV d) (h0 : docE d = 0) (sm : DocSm d) : PCalls (Pg G) 59 [.agg (eDoc d)] (.tup [sl eInt (below d 0), aInt 0]) := fun h => by
  have hC := check_ok (G := G) d sm
  have hW := walk0_ok (G := G) d V sm 0 V.zero
  rw [h0] at hC
  refine dcalls_of_vc Tryd.func59 hn59 hc59 (by rw [Tryd.ntmps59]; simp) (by rw [Tryd.ntmps59]; decide) ?_
  simp -dsimp -implicitDefEqProofs (disch := omega) only [VCA, pg_gl, ↓upd_none, Nat.reduceEqDiff, Nat.reduceBEq, Nat.reduceAdd, Nat.reduceSub, Nat.reduceMul, Nat.reduceLT, Nat.reduceLeDiff, ↓reduceIte, reduceCtorEq, rsOf, rootsOf, SOp.rd, SI.rd, SX.rd, rdL, rdO, rdP, okParts, eqCells, okEqCells, fillA, okFill, setAt, implies_true, forall_const, forall_eq, ne_eq, exists_eq_right_right, exists_eq_right, exists_eq_left, exists_eq_left', eInt, eBool, lit_eq, c59, eDoc_len, eDoc_take]
  repeat' (first | ((with_reducible refine Br.dec (fun _ => ?_) (fun _ => ?_)) <;> try (exfalso; omega)) | ((with_reducible refine Br.eq (fun _ => ?_) (fun _ => ?_)) <;> try (exfalso; omega)) | ((with_reducible refine Br.ne (fun _ => ?_) (fun _ => ?_)) <;> try (exfalso; omega)) | ((with_reducible refine brNdec (fun _ => ?_) (fun _ => ?_)) <;> try (exfalso; omega)) | ((with_reducible refine brNeq (fun _ => ?_) (fun _ => ?_)) <;> try (exfalso; omega)) | with_reducible refine Br.intro (fun _ => ?_) (fun _ => ?_) | (with_reducible apply pcallE.of; · exact hC) | (with_reducible apply pcallE.of; · exact hW) | (with_reducible refine And.intro ?_ ?_; · omega) | simp -dsimp -implicitDefEqProofs (disch := omega) only [VCA, pg_gl, ↓upd_none, Nat.reduceEqDiff, Nat.reduceBEq, Nat.reduceAdd, Nat.reduceSub, Nat.reduceMul, Nat.reduceLT, Nat.reduceLeDiff, ↓reduceIte, reduceCtorEq, rsOf, rootsOf, SOp.rd, SI.rd, SX.rd, rdL, rdO, rdP, okParts, eqCells, okEqCells, fillA, okFill, setAt, implies_true, forall_const, forall_eq, ne_eq, exists_eq_right_right, exists_eq_right, exists_eq_left, exists_eq_left', eInt, eBool, lit_eq, eDoc_len, eDoc_take])
  all_goals exact Sub.refl _
end Go.Proofs.K
end
section
/- Documents: what must be in any case; the law of checks. -/
set_option linter.unusedSimpArgs false
set_option linter.unusedVariables false
namespace Go.Proofs.K
open Go Go.Sim Go.Proofs
variable {G : Glob}
def newD : HDoc := ⟨[⟨1, [], [], [], -1, []⟩], false⟩
def newA : AVal := .agg [.slc [[.int .i64 1, .str [], .emp, .str [], .int .i64 (-1), .emp]], .bool false]
theorem newA_wk : Wk newA (.agg (eDoc newD)) := Wk.agg' (.cons (Wk.slc' (.cons (.cons (.refl _) (.cons (.refl _) (.cons .emp (.cons (.refl _) (.cons (.refl _) (.cons .emp .nil)))))) .nil)) (.cons (.refl _) .nil))
def c54 : SFun := ⟨(.seq (.reg [⟨(some 0), (.new 24 2 [.emp, (.bool false)]), none⟩]) (.seq (.reg [⟨(some 1), (.bld [(.int .i64 (0)), (.str []), .emp, (.str []), (.int .i64 (0)), .emp] [(0, (1, (.c (.int .i64 (1))))), (4, (1, (.c (.int .i64 (-1)))))]), none⟩, ⟨(some 2), (.bldF 43 6 [(.t 1)]), none⟩, ⟨(some 3), (.bld [.emp, (.bool false)] [(0, (1, (.t 2)))]), none⟩, ⟨none, (.st 2 (.t 0) (.t 3)), none⟩]) .ret)), [(.cell 0 2 true)]⟩
theorem hc54 : toSF Tryd.prog {} Tryd.f54 = some c54 := by kernel_rfl
theorem hn54 : (Tryd.f54.name == "runtime.NumGoroutine") = false := by kernel_rfl
theorem new_ok : PCalls (Pg G) 54 [] (.agg (eDoc newD)) := fun h => by
  refine DCalls.res (K := fun a h' => a = newA ∧ h' = h) ?_ ?_
  · refine dcalls_of_vc Tryd.func54 hn54 hc54 (by rw [Tryd.ntmps54]; simp) (by rw [Tryd.ntmps54]; decide) ?_
    simp -dsimp -implicitDefEqProofs (disch := omega) only [VCA, pg_gl, ↓upd_none, Nat.reduceEqDiff, Nat.reduceBEq, Nat.reduceAdd, Nat.reduceSub, Nat.reduceMul, Nat.reduceLT, Nat.reduceLeDiff, ↓reduceIte, reduceCtorEq, rsOf, rootsOf, SOp.rd, SI.rd, SX.rd, rdL, rdO, rdP, okParts, eqCells, okEqCells, fillA, okFill, setAt, implies_true, forall_const, forall_eq, ne_eq, exists_eq_right_right, exists_eq_right, exists_eq_left, exists_eq_left', eInt, eBool, lit_eq, c54]
    intro r hr
    repeat' (first | ((with_reducible refine Br.dec (fun _ => ?_) (fun _ => ?_)) <;> try (exfalso; omega)) | ((with_reducible refine Br.eq (fun _ => ?_) (fun _ => ?_)) <;> try (exfalso; omega)) | ((with_reducible refine Br.ne (fun _ => ?_) (fun _ => ?_)) <;> try (exfalso; omega)) | ((with_reducible refine brNdec (fun _ => ?_) (fun _ => ?_)) <;> try (exfalso; omega)) | ((with_reducible refine brNeq (fun _ => ?_) (fun _ => ?_)) <;> try (exfalso; omega)) | with_reducible refine Br.intro (fun _ => ?_) (fun _ => ?_) | (with_reducible refine And.intro ?_ ?_; · omega) | simp -dsimp -implicitDefEqProofs (disch := omega) only [VCA, pg_gl, ↓upd_none, Nat.reduceEqDiff, Nat.reduceBEq, Nat.reduceAdd, Nat.reduceSub, Nat.reduceMul, Nat.reduceLT, Nat.reduceLeDiff, ↓reduceIte, reduceCtorEq, rsOf, rootsOf, SOp.rd, SI.rd, SX.rd, rdL, rdO, rdP, okParts, eqCells, okEqCells, fillA, okFill, setAt, implies_true, forall_const, forall_eq, ne_eq, exists_eq_right_right, exists_eq_right, exists_eq_left, exists_eq_left', eInt, eBool, lit_eq, upd_same])
    exact ⟨(Sub.refl _).upd hr, rfl⟩
  · rintro a h' ⟨rfl, rfl⟩
    exact ⟨_, newA_wk, rfl, rfl⟩
theorem newD_sm : DocSm newD := ⟨by decide, fun x hx => by
  have : x = ⟨1, [], [], [], -1, []⟩ := by simpa [newD] using hx
  subst this
  exact ⟨by decide, by decide, (fun a ha => by cases ha), by decide, by decide⟩⟩
/-- an edit as it is written: no lists -/
theorem edit_wk (e : HEdit) (h1 : e.node.attrs = []) (h2 : e.node.kids = []) : Wk (.agg (eE0 e)) (.agg (eEdit e)) := Wk.agg' (by
  unfold eE0 eEdit
  rw [h1, h2]
  exact .cons (.refl _) (.cons (.refl _) (.cons (.refl _) (.cons (.refl _) (.cons (.refl _) (.cons (.refl _) (.cons (.refl _) (.cons (.refl _) (.cons .emp (.cons (.refl _) (.cons (.refl _) (.cons .emp .nil))))))))))))
def beg1 : HEdit := ⟨4, 0, 0, 0, [], [], ⟨2, [112], [], [], 0, []⟩⟩
def beg2 : HEdit := ⟨5, 0, 1, -1, [], [], ⟨0, [], [], [], 0, []⟩⟩
def begD1 : HDoc := ⟨[⟨1, [], [], [], -1, []⟩, ⟨2, [112], [], [], -1, []⟩], false⟩
def begD2 : HDoc := ⟨[⟨1, [], [], [], -1, [1]⟩, ⟨2, [112], [], [], 0, []⟩], false⟩
theorem beg_is : applyD newD beg1 = begD1 ∧ applyN newD beg1 = 1 ∧ applyE newD beg1 = 0 ∧ applyD begD1 beg2 = begD2 ∧ applyE begD1 beg2 = 0 ∧ docE begD2 = 0 ∧ below begD2 0 = [0, 1] ∧ docE noDoc = 3 := by decide +kernel
theorem beg_sm : EditSm beg1 ∧ EditSm beg2 ∧ DocSm begD1 ∧ DocSm begD2 := ⟨⟨by decide, by decide, by decide, by decide, (fun a ha => by cases ha), by decide, by decide⟩, ⟨by decide, by decide, by decide, by decide, (fun a ha => by cases ha), by decide, by decide⟩,
  ⟨by decide, fun x hx => by
    have : x = ⟨1, [], [], [], -1, []⟩ ∨ x = ⟨2, [112], [], [], -1, []⟩ := by simpa [begD1] using hx
    rcases this with rfl | rfl <;> exact ⟨by decide, by decide, (fun a ha => by cases ha), by decide, by decide⟩⟩,
  ⟨by decide, fun x hx => by
    have : x = ⟨1, [], [], [], -1, [1]⟩ ∨ x = ⟨2, [112], [], [], 0, []⟩ := by simpa [begD2] using hx
    rcases this with rfl | rfl <;> exact ⟨by decide, by decide, (fun a ha => by cases ha), by decide, by decide⟩⟩⟩
def c51 : SFun := ⟨(.seq (.reg [⟨(some 0), (.mv (.c (.bool false))), none⟩]) (.seq (.reg [⟨(some 9), (.pcall 54 []), none⟩, ⟨(some 10), (.bld [(.int .i64 (0)), (.str []), .emp, (.str []), (.int .i64 (0)), .emp] [(0, (1, (.c (.int .i64 (2))))), (1, (1, (.c (.str [112]))))]), none⟩, ⟨(some 11), (.bld [(.int .i64 (0)), (.int .i64 (0)), (.int .i64 (0)), (.int .i64 (0)), (.str []), (.str []), (.int .i64 (0)), (.str []), .emp, (.str []), (.int .i64 (0)), .emp] [(0, (1, (.c (.int .i64 (4))))), (6, (6, (.t 10)))]), none⟩, ⟨(some 12), (.pcall 55 [(.t 9), (.t 11)]), none⟩, ⟨(some 8), (.mv (.t 12)), none⟩, ⟨(some 13), (.ext (.t 8) 0), none⟩, ⟨(some 14), (.ext (.t 8) 1), none⟩, ⟨(some 15), (.ext (.t 8) 2), none⟩, ⟨(some 1), (.new 24 2 [.emp, (.bool false)]), none⟩, ⟨none, (.st 2 (.t 1) (.t 13)), none⟩, ⟨(some 2), (.mv (.t 14)), none⟩, ⟨(some 3), (.mv (.t 15)), none⟩]) (.seq (.reg [⟨(some 17), (.ld 2 true (.t 1)), none⟩, ⟨(some 18), (.mv (.t 2)), none⟩, ⟨(some 19), (.bld [(.int .i64 (0)), (.int .i64 (0)), (.int .i64 (0)), (.int .i64 (0)), (.str []), (.str []), (.int .i64 (0)), (.str []), .emp, (.str []), (.int .i64 (0)), .emp] [(0, (1, (.c (.int .i64 (5))))), (1, (1, (.c (.int .i64 (0))))), (2, (1, (.t 18))), (3, (1, (.c (.int .i64 (-1)))))]), none⟩, ⟨(some 20), (.pcall 55 [(.t 17), (.t 19)]), none⟩, ⟨(some 16), (.mv (.t 20)), none⟩, ⟨(some 21), (.ext (.t 16) 0), none⟩, ⟨(some 22), (.ext (.t 16) 1), none⟩, ⟨(some 23), (.ext (.t 16) 2), none⟩, ⟨none, (.st 2 (.t 1) (.t 21)), none⟩, ⟨(some 4), (.mv (.t 22)), none⟩, ⟨(some 5), (.mv (.t 23)), none⟩]) (.seq (.reg [⟨(some 25), (.ld 2 true (.t 1)), none⟩, ⟨(some 26), (.pcall 59 [(.t 25)]), none⟩, ⟨(some 24), (.mv (.t 26)), none⟩, ⟨(some 27), (.ext (.t 24) 0), none⟩, ⟨(some 28), (.ext (.t 24) 1), none⟩, ⟨(some 6), (.mv (.t 27)), none⟩, ⟨(some 7), (.mv (.t 28)), none⟩]) (.seq (.reg [⟨(some 29), (.mv (.t 2)), none⟩, ⟨(some 30), (.bin .eql (.t 29) (.c (.int .i64 (1)))), none⟩, ⟨(some 31), (.mv (.t 30)), none⟩, ⟨(some 32), (.mv (.t 3)), (some (31, true))⟩, ⟨(some 33), (.bin .eql (.t 32) (.c (.int .i64 (0)))), (some (31, true))⟩, ⟨(some 34), (.pick (.t 31) (.t 33) (.c (.bool false))), none⟩, ⟨(some 35), (.mv (.t 34)), none⟩, ⟨(some 36), (.mv (.t 5)), (some (35, true))⟩, ⟨(some 37), (.bin .eql (.t 36) (.c (.int .i64 (0)))), (some (35, true))⟩, ⟨(some 38), (.pick (.t 35) (.t 37) (.c (.bool false))), none⟩, ⟨(some 39), (.mv (.t 38)), none⟩, ⟨(some 40), (.mv (.t 7)), (some (39, true))⟩, ⟨(some 41), (.bin .eql (.t 40) (.c (.int .i64 (0)))), (some (39, true))⟩, ⟨(some 42), (.pick (.t 39) (.t 41) (.c (.bool false))), none⟩, ⟨(some 43), (.mv (.t 42)), none⟩, ⟨(some 44), (.mv (.t 6)), (some (43, true))⟩, ⟨(some 45), (.bldF 3 1 [(.c (.int .i64 (0))), (.c (.int .i64 (1)))]), (some (43, true))⟩, ⟨(some 46), (.pcall 30 [(.t 44), (.t 45)]), (some (43, true))⟩, ⟨(some 47), (.pick (.t 43) (.t 46) (.c (.bool false))), none⟩, ⟨(some 48), (.mv (.t 47)), none⟩, ⟨(some 49), (.bld [.emp, (.bool false)] []), (some (48, true))⟩, ⟨(some 50), (.pcall 52 [(.t 49)]), (some (48, true))⟩, ⟨(some 51), (.bin .eql (.t 50) (.c (.int .i64 (3)))), (some (48, true))⟩, ⟨(some 52), (.pick (.t 48) (.t 51) (.c (.bool false))), none⟩, ⟨(some 0), (.mv (.t 52)), none⟩]) .ret))))), [(.tmp 0)]⟩
theorem hc51 : toSF Tryd.prog {pure := [55, 54, 59, 30, 52]} Tryd.f51 = some c51 := by kernel_rfl
theorem hn51 : (Tryd.f51.name == "runtime.NumGoroutine") = false := by kernel_rfl
theorem domBegun_ok : PCalls (Pg G) 51 [] (.bool true) := fun h => by
  obtain ⟨b1, b2, b3, b4, b5, b6, b7, b8⟩ := beg_is
  obtain ⟨s1, s2, s3, s4⟩ := beg_sm
  have h1 : PCalls (Pg G) 55 [.agg (eDoc newD), .agg (eE0 beg1)] (.tup [.agg (eDoc begD1), aInt 1, aInt 0]) := by
    have h := (apply_ok (G := G) newD newD_sm beg1 s1).wk (args := [.agg (eDoc newD), .agg (eE0 beg1)]) (.cons (.refl _) (.cons (edit_wk beg1 rfl rfl) .nil))
    rw [b1, b2, b3] at h
    exact h
  have h2 : PCalls (Pg G) 55 [.agg (eDoc begD1), .agg (eE0 beg2)] (.tup [.agg (eDoc begD2), aInt (applyN begD1 beg2), aInt 0]) := by
    have h := (apply_ok (G := G) begD1 s3 beg2 s2).wk (args := [.agg (eDoc begD1), .agg (eE0 beg2)]) (.cons (.refl _) (.cons (edit_wk beg2 rfl rfl) .nil))
    rw [b4, b5] at h
    exact h
  have h3 : PCalls (Pg G) 59 [.agg (eDoc begD2)] (.tup [sl eInt [0, 1], aInt 0]) := by
    have h := domOrder_ok (G := G) begD2 (docE_DV b6) b6 s4
    rw [b7] at h
    exact h
  have h4 : PCalls (Pg G) 30 [sl eInt [0, 1], .slc [[.int .i64 0], [.int .i64 1]]] (.bool true) := sameN_ok (G := G) [0, 1] [0, 1] (by simp) (by simp)
  have h5 : PCalls (Pg G) 52 [.agg [.emp, .bool false]] (aInt 3) := by
    have h := (check_ok (G := G) noDoc ⟨by decide, fun x hx => by cases hx⟩).wk (args := [.agg [.emp, .bool false]]) (.cons (Wk.agg' (.cons .emp (.cons (.refl _) .nil))) .nil)
    rw [b8] at h
    exact h
  unfold eE0 beg1 at h1
  unfold eE0 beg2 at h2
  refine dcalls_of_vc Tryd.func51 hn51 hc51 (by rw [Tryd.ntmps51]; simp) (by rw [Tryd.ntmps51]; decide) ?_
  simp -dsimp -implicitDefEqProofs (disch := omega) only [↓vcOps_sp 31, ↓vcD_sp 31, ↓vcOps_sp 35, ↓vcD_sp 35, ↓vcOps_sp 39, ↓vcD_sp 39, ↓vcOps_sp 43, ↓vcD_sp 43, ↓vcOps_sp 48, ↓vcD_sp 48, VCA, pg_gl, ↓upd_none, Nat.reduceEqDiff, Nat.reduceBEq, Nat.reduceAdd, Nat.reduceSub, Nat.reduceMul, Nat.reduceLT, Nat.reduceLeDiff, ↓reduceIte, reduceCtorEq, rsOf, rootsOf, SOp.rd, SI.rd, SX.rd, rdL, rdO, rdP, okParts, eqCells, okEqCells, fillA, okFill, setAt, implies_true, forall_const, forall_eq, ne_eq, exists_eq_right_right, exists_eq_right, exists_eq_left, exists_eq_left', eInt, eBool, lit_eq, c51]
  repeat' (first | ((with_reducible refine Br.dec (fun _ => ?_) (fun _ => ?_)) <;> try (exfalso; omega)) | ((with_reducible refine Br.eq (fun _ => ?_) (fun _ => ?_)) <;> try (exfalso; omega)) | ((with_reducible refine Br.ne (fun _ => ?_) (fun _ => ?_)) <;> try (exfalso; omega)) | ((with_reducible refine brNdec (fun _ => ?_) (fun _ => ?_)) <;> try (exfalso; omega)) | ((with_reducible refine brNeq (fun _ => ?_) (fun _ => ?_)) <;> try (exfalso; omega)) | with_reducible refine Br.intro (fun _ => ?_) (fun _ => ?_) | (with_reducible apply pcallE.of; · exact new_ok (G := G)) | (with_reducible apply pcallE.of; · exact h1) | (with_reducible refine And.intro ?_ ?_; · omega) | simp -dsimp -implicitDefEqProofs (disch := omega) only [↓vcOps_sp 31, ↓vcD_sp 31, ↓vcOps_sp 35, ↓vcD_sp 35, ↓vcOps_sp 39, ↓vcD_sp 39, ↓vcOps_sp 43, ↓vcD_sp 43, ↓vcOps_sp 48, ↓vcD_sp 48, VCA, pg_gl, ↓upd_none, Nat.reduceEqDiff, Nat.reduceBEq, Nat.reduceAdd, Nat.reduceSub, Nat.reduceMul, Nat.reduceLT, Nat.reduceLeDiff, ↓reduceIte, reduceCtorEq, rsOf, rootsOf, SOp.rd, SI.rd, SX.rd, rdL, rdO, rdP, okParts, eqCells, okEqCells, fillA, okFill, setAt, implies_true, forall_const, forall_eq, ne_eq, exists_eq_right_right, exists_eq_right, exists_eq_left, exists_eq_left', eInt, eBool, lit_eq, upd_same])
  intro r hr
  repeat' (first | ((with_reducible refine Br.dec (fun _ => ?_) (fun _ => ?_)) <;> try (exfalso; omega)) | ((with_reducible refine Br.eq (fun _ => ?_) (fun _ => ?_)) <;> try (exfalso; omega)) | ((with_reducible refine Br.ne (fun _ => ?_) (fun _ => ?_)) <;> try (exfalso; omega)) | ((with_reducible refine brNdec (fun _ => ?_) (fun _ => ?_)) <;> try (exfalso; omega)) | ((with_reducible refine brNeq (fun _ => ?_) (fun _ => ?_)) <;> try (exfalso; omega)) | with_reducible refine Br.intro (fun _ => ?_) (fun _ => ?_) | (with_reducible apply pcallE.of; · exact h2) | (with_reducible apply pcallE.of; · exact h3) | (with_reducible apply pcallE.of; · exact h4) | (with_reducible apply pcallE.of; · exact h5) | (with_reducible refine And.intro ?_ ?_; · omega) | simp -dsimp -implicitDefEqProofs (disch := omega) only [↓vcOps_sp 31, ↓vcD_sp 31, ↓vcOps_sp 35, ↓vcD_sp 35, ↓vcOps_sp 39, ↓vcD_sp 39, ↓vcOps_sp 43, ↓vcD_sp 43, ↓vcOps_sp 48, ↓vcD_sp 48, VCA, pg_gl, ↓upd_none, Nat.reduceEqDiff, Nat.reduceBEq, Nat.reduceAdd, Nat.reduceSub, Nat.reduceMul, Nat.reduceLT, Nat.reduceLeDiff, ↓reduceIte, reduceCtorEq, rsOf, rootsOf, SOp.rd, SI.rd, SX.rd, rdL, rdO, rdP, okParts, eqCells, okEqCells, fillA, okFill, setAt, implies_true, forall_const, forall_eq, ne_eq, exists_eq_right_right, exists_eq_right, exists_eq_left, exists_eq_left', eInt, eBool, lit_eq, upd_same, eDoc_len, eDoc_take, eDoc_dr, List.append_nil])
  exact ⟨(Sub.refl h).upd hr, rfl⟩
end Go.Proofs.K
end
section
/- Edits: the law of DomEdits. -/
set_option linter.unusedSimpArgs false
set_option linter.unusedVariables false
namespace Go.Proofs.K
open Go Go.Sim Go.Proofs
variable {G : Glob}
end Go.Proofs.K
end
section
/- Edits one after another: the reference; the law of DomAll. -/
set_option linter.unusedSimpArgs false
set_option linter.unusedVariables false
namespace Go.Proofs.K
open Go Go.Sim Go.Proofs
variable {G : Glob}
def c58 : SFun := ⟨(.seq (.reg [⟨(some 2), (.box 24 2 (.t 0)), none⟩, ⟨(some 4), (.new 24 2 [.emp, (.bool false)]), none⟩, ⟨(some 5), (.mv (.c (.int .i64 (0)))), none⟩, ⟨(some 6), (.mv (.c (.int .i64 (0)))), none⟩]) (.seq (.reg [⟨(some 12), (.ld 2 true (.t 2)), none⟩, ⟨(some 13), (.pcall 17 [(.t 12)]), none⟩, ⟨(some 7), (.mv (.t 13)), none⟩]) (.seq (.seq (.reg [⟨(some 14), (.mv (.t 7)), none⟩, ⟨(some 15), (.bin .eql (.t 14) (.c (.int .i64 (0)))), none⟩, ⟨(some 16), (.mv (.t 15)), none⟩, ⟨(some 17), (.mv (.t 1)), (some (16, true))⟩, ⟨(some 18), (.len (.t 17)), (some (16, true))⟩, ⟨(some 19), (.bin .gtr (.t 18) (.c (.int .i64 (40)))), (some (16, true))⟩, ⟨(some 20), (.pick (.t 16) (.t 19) (.c (.bool false))), none⟩]) (.cond (.t 20) (.reg [⟨(some 7), (.mv (.c (.int .i64 (2)))), none⟩]) .skip)) (.seq (.seq (.reg [⟨(some 21), (.mv (.t 7)), none⟩, ⟨(some 22), (.bin .neq (.t 21) (.c (.int .i64 (0)))), none⟩]) (.cond (.t 22) (.seq (.reg [⟨(some 23), (.bld [.emp, (.bool false)] []), none⟩, ⟨(some 24), (.mv (.t 7)), none⟩, ⟨none, (.st 2 (.t 4) (.t 23)), none⟩, ⟨(some 5), (.mv (.c (.int .i64 (0)))), none⟩, ⟨(some 6), (.mv (.t 24)), none⟩]) .ret) .skip)) (.seq (.seq (.reg [⟨(some 8), (.mv (.c (.int .i64 (0)))), none⟩]) (.block 0 (.loop (.seq (.seq (.reg [⟨(some 25), (.mv (.t 8)), none⟩, ⟨(some 26), (.mv (.t 1)), none⟩, ⟨(some 27), (.len (.t 26)), none⟩, ⟨(some 28), (.bin .lss (.t 25) (.t 27)), none⟩]) (.cond (.t 28) .skip (.exit 0))) (.seq (.block 1 (.seq (.dreg [(⟨(some 32), (.ld 2 true (.t 2)), none⟩, none), (⟨(some 33), (.mv (.t 1)), none⟩, none), (⟨(some 34), (.mv (.t 8)), none⟩, none), (⟨(some 35), (.idxA 12 (.t 33) (.t 34)), none⟩, none), (⟨(some 36), (.ld 12 true (.t 35)), none⟩, none), (⟨(some 37), (.pcall 56 [(.t 32), (.t 36)]), none⟩, none), (⟨(some 31), (.mv (.t 37)), none⟩, none), (⟨(some 38), (.ext (.t 31) 0), none⟩, none), (⟨(some 39), (.ext (.t 31) 1), none⟩, none), (⟨(some 40), (.ext (.t 31) 2), none⟩, none), (⟨(some 9), (.new 24 2 [.emp, (.bool false)]), none⟩, (some [])), (⟨none, (.st 2 (.t 9) (.t 38)), none⟩, (some [32, 36])), (⟨(some 10), (.mv (.t 39)), none⟩, none), (⟨(some 11), (.mv (.t 40)), none⟩, none)]) (.seq (.seq (.reg [⟨(some 41), (.mv (.t 11)), none⟩, ⟨(some 42), (.bin .neq (.t 41) (.c (.int .i64 (0)))), none⟩]) (.cond (.t 42) (.seq (.reg [⟨(some 43), (.bld [.emp, (.bool false)] []), none⟩, ⟨(some 44), (.mv (.t 8)), none⟩, ⟨(some 45), (.mv (.t 11)), none⟩, ⟨none, (.st 2 (.t 4) (.t 43)), none⟩, ⟨(some 5), (.mv (.t 44)), none⟩, ⟨(some 6), (.mv (.t 45)), none⟩]) .ret) .skip)) (.reg [⟨(some 46), (.ld 2 true (.t 9)), none⟩, ⟨none, (.st 2 (.t 2) (.t 46)), none⟩])))) (.reg [⟨(some 29), (.mv (.t 8)), none⟩, ⟨(some 30), (.bin .add (.t 29) (.c (.int .i64 (1)))), none⟩, ⟨(some 8), (.mv (.t 30)), none⟩])))))) (.seq (.reg [⟨(some 47), (.ld 2 true (.t 2)), none⟩, ⟨none, (.st 2 (.t 4) (.t 47)), none⟩, ⟨(some 5), (.mv (.c (.int .i64 (0)))), none⟩, ⟨(some 6), (.mv (.c (.int .i64 (0)))), none⟩]) .ret)))))), [(.cell 4 2 true), (.tmp 5), (.tmp 6)]⟩
theorem hc58 : toSF Tryd.prog {pure := [17, 56], how := [(2, 6)]} Tryd.f58 = some c58 := by kernel_rfl
theorem hn58 : (Tryd.f58.name == "runtime.NumGoroutine") = false := by kernel_rfl
set_option maxHeartbeats 1000000 in
theorem editedAll_ok (d : HDoc) (sm : DocSm d) (l : List HEdit) (hl : ∀ e ∈ l, EditSm e) (ll : l.length ≤ 1073741824) : PCalls (Pg G) 58 [.agg (eDoc d), sl eEdit l] (allV (allM d l)) := PCalls.outV fun h => by
  have hC := docErr_ok (G := G) d sm
  refine dcalls_of_vc Tryd.func58 hn58 hc58 (by rw [Tryd.ntmps58]; simp) (by rw [Tryd.ntmps58]; decide) ?_
  simp -dsimp -implicitDefEqProofs (disch := omega) only [↓vcOps_sp 16, ↓vcD_sp 16, VCA, pg_gl, ↓upd_none, Nat.reduceEqDiff, Nat.reduceBEq, Nat.reduceAdd, Nat.reduceSub, Nat.reduceMul, Nat.reduceLT, Nat.reduceLeDiff, ↓reduceIte, reduceCtorEq, rsOf, rootsOf, SOp.rd, SI.rd, SX.rd, rdL, rdO, rdP, okParts, eqCells, okEqCells, fillA, okFill, setAt, implies_true, forall_const, forall_eq, ne_eq, exists_eq_right_right, exists_eq_right, exists_eq_left, exists_eq_left', eInt, eBool, lit_eq, c58, eDoc_len, eDoc_take, eDoc_dr, List.append_nil]
  intro r2 hr2 r4 hr4
  have m1 : ¬ r4 = r2 := hr4.1
  have m2 : ¬ r2 = r4 := fun h => m1 h.symm
  have S4 : ∀ x y, Sim.Sub h (upd (upd h r2 (some x)) r4 (some y)) := fun x y => ((Sub.refl h).upd hr2).upd hr4.2
  have nd0 := vw_noDoc
  by_cases h1 : docE d = 0
  · have V := docE_DV h1
    rw [h1] at hC
    by_cases h40 : 40 < l.length
    · have aM : allM d l = (noDoc, 0, 2) := by unfold allM; rw [if_neg (by simpa using h1), if_pos h40]
      rw [aM]
      repeat' (first | ((with_reducible refine Br.dec (fun _ => ?_) (fun _ => ?_)) <;> try (exfalso; omega)) | ((with_reducible refine Br.eq (fun _ => ?_) (fun _ => ?_)) <;> try (exfalso; omega)) | ((with_reducible refine Br.ne (fun _ => ?_) (fun _ => ?_)) <;> try (exfalso; omega)) | ((with_reducible refine brNdec (fun _ => ?_) (fun _ => ?_)) <;> try (exfalso; omega)) | ((with_reducible refine brNeq (fun _ => ?_) (fun _ => ?_)) <;> try (exfalso; omega)) | with_reducible refine Br.intro (fun _ => ?_) (fun _ => ?_) | (with_reducible apply pcallE.of; · exact hC) | (with_reducible refine And.intro ?_ ?_; · omega) | simp -dsimp -implicitDefEqProofs (disch := omega) only [↓vcOps_sp 16, ↓vcD_sp 16, VCA, pg_gl, ↓upd_none, Nat.reduceEqDiff, Nat.reduceBEq, Nat.reduceAdd, Nat.reduceSub, Nat.reduceMul, Nat.reduceLT, Nat.reduceLeDiff, ↓reduceIte, reduceCtorEq, rsOf, rootsOf, SOp.rd, SI.rd, SX.rd, rdL, rdO, rdP, okParts, eqCells, okEqCells, fillA, okFill, setAt, implies_true, forall_const, forall_eq, ne_eq, exists_eq_right_right, exists_eq_right, exists_eq_left, exists_eq_left', eInt, eBool, lit_eq, upd_same, eDoc_len, eDoc_take, eDoc_dr, List.append_nil, m1, m2])
      exact ⟨_, Sub.refl _, S4 _ _, .tup' (.cons (vw_noDoc _) (.cons (.refl _) (.cons (.refl _) .nil)))⟩
    · have aM : allM d l = runM d l 0 := by unfold allM; rw [if_neg (by simpa using h1), if_neg h40]
      rw [aM]
      repeat' (first | ((with_reducible refine Br.dec (fun _ => ?_) (fun _ => ?_)) <;> try (exfalso; omega)) | ((with_reducible refine Br.eq (fun _ => ?_) (fun _ => ?_)) <;> try (exfalso; omega)) | ((with_reducible refine Br.ne (fun _ => ?_) (fun _ => ?_)) <;> try (exfalso; omega)) | ((with_reducible refine brNdec (fun _ => ?_) (fun _ => ?_)) <;> try (exfalso; omega)) | ((with_reducible refine brNeq (fun _ => ?_) (fun _ => ?_)) <;> try (exfalso; omega)) | with_reducible refine Br.intro (fun _ => ?_) (fun _ => ?_) | (with_reducible apply pcallE.of; · exact hC) | (with_reducible refine And.intro ?_ ?_; · omega) | simp -dsimp -implicitDefEqProofs (disch := omega) only [↓vcOps_sp 16, ↓vcD_sp 16, VCA, pg_gl, ↓upd_none, Nat.reduceEqDiff, Nat.reduceBEq, Nat.reduceAdd, Nat.reduceSub, Nat.reduceMul, Nat.reduceLT, Nat.reduceLeDiff, ↓reduceIte, reduceCtorEq, rsOf, rootsOf, SOp.rd, SI.rd, SX.rd, rdL, rdO, rdP, okParts, eqCells, okEqCells, fillA, okFill, setAt, implies_true, forall_const, forall_eq, ne_eq, exists_eq_right_right, exists_eq_right, exists_eq_left, exists_eq_left', eInt, eBool, lit_eq, upd_same, eDoc_len, eDoc_take, eDoc_dr, List.append_nil, m1, m2])
      refine LoopVC.intro (fun m e h' => ∃ (k : Nat) (D : HDoc), k ≤ l.length ∧ m = l.length - k ∧ e 1 = sl eEdit l ∧ e 2 = .vp r2 0 ∧ e 4 = .vp r4 0 ∧ e 8 = aInt k ∧ h' r2 = some ⟨24, 2, [eDoc D]⟩ ∧ h' r4 = some ⟨24, 2, [[.emp, .bool false]]⟩ ∧ Sub h h' ∧ DV D ∧ DocSm D ∧ runM D (l.drop k) k = runM d l 0) l.length
        ⟨0, d, by omega, by omega, rfl, rfl, rfl, rfl, by rw [upd_ne _ _ m2, upd_same], upd_same _ _ _, S4 _ _, V, sm, rfl⟩ ?_
      rintro m e h' ⟨k, D, hk, rfl, e1, e2, e4, e8, g2, g4, S, W, smD, hr⟩
      simp -dsimp -implicitDefEqProofs (disch := omega) only [↓vcOps_sp 16, ↓vcD_sp 16, VCA, pg_gl, ↓upd_none, Nat.reduceEqDiff, Nat.reduceBEq, Nat.reduceAdd, Nat.reduceSub, Nat.reduceMul, Nat.reduceLT, Nat.reduceLeDiff, ↓reduceIte, reduceCtorEq, rsOf, rootsOf, SOp.rd, SI.rd, SX.rd, rdL, rdO, rdP, okParts, eqCells, okEqCells, fillA, okFill, setAt, implies_true, forall_const, forall_eq, ne_eq, exists_eq_right_right, exists_eq_right, exists_eq_left, exists_eq_left', eInt, eBool, lit_eq, e1, e2, e4, e8, g2, g4]
      refine Br.dec (fun hlt => ?_) (fun hge => ?_)
      · have hk' : k < l.length := by omega
        rw [runM_cons hk'] at hr
        have hx := hl _ (nth_mem' hk')
        obtain ⟨x, hxx⟩ : ∃ x, nth l k = x := ⟨_, rfl⟩
        rw [hxx] at hr hx
        have hE := edited_ok (G := G) D W smD x hx
        unfold edR at hE
        simp -dsimp -implicitDefEqProofs (disch := omega) only [↓vcOps_sp 16, ↓vcD_sp 16, VCA, pg_gl, ↓upd_none, Nat.reduceEqDiff, Nat.reduceBEq, Nat.reduceAdd, Nat.reduceSub, Nat.reduceMul, Nat.reduceLT, Nat.reduceLeDiff, ↓reduceIte, reduceCtorEq, rsOf, rootsOf, SOp.rd, SI.rd, SX.rd, rdL, rdO, rdP, okParts, eqCells, okEqCells, fillA, okFill, setAt, implies_true, forall_const, forall_eq, ne_eq, exists_eq_right_right, exists_eq_right, exists_eq_left, exists_eq_left', eInt, eBool, lit_eq, e1, e2, e4, e8, g2, g4, hxx, eEdit_len', eEdit_take', eDoc_len, eDoc_take, eDoc_dr, List.append_nil]
        refine ⟨by omega, ?_⟩
        by_cases h0 : applyE D x = 0
        · rw [if_neg (by simpa using h0)] at hr
          rw [h0] at hE
          obtain ⟨W2, sm2, _, _⟩ := apply_step W smD hx h0
          repeat' (first | ((with_reducible refine Br.dec (fun _ => ?_) (fun _ => ?_)) <;> try (exfalso; omega)) | ((with_reducible refine Br.eq (fun _ => ?_) (fun _ => ?_)) <;> try (exfalso; omega)) | ((with_reducible refine Br.ne (fun _ => ?_) (fun _ => ?_)) <;> try (exfalso; omega)) | ((with_reducible refine brNdec (fun _ => ?_) (fun _ => ?_)) <;> try (exfalso; omega)) | ((with_reducible refine brNeq (fun _ => ?_) (fun _ => ?_)) <;> try (exfalso; omega)) | with_reducible refine Br.intro (fun _ => ?_) (fun _ => ?_) | (with_reducible apply pcallE.of; · exact hE) | (with_reducible refine And.intro ?_ ?_; · omega) | simp -dsimp -implicitDefEqProofs (disch := omega) only [↓vcOps_sp 16, ↓vcD_sp 16, VCA, pg_gl, ↓upd_none, Nat.reduceEqDiff, Nat.reduceBEq, Nat.reduceAdd, Nat.reduceSub, Nat.reduceMul, Nat.reduceLT, Nat.reduceLeDiff, ↓reduceIte, reduceCtorEq, rsOf, rootsOf, SOp.rd, SI.rd, SX.rd, rdL, rdO, rdP, okParts, eqCells, okEqCells, fillA, okFill, setAt, implies_true, forall_const, forall_eq, ne_eq, exists_eq_right_right, exists_eq_right, exists_eq_left, exists_eq_left', eInt, eBool, lit_eq, e1, e2, e4, e8, g2, g4, hxx, eEdit_len', eEdit_take', eDoc_len, eDoc_take, eDoc_dr, List.append_nil])
          intro r9 hr9
          have k2 : ¬ r2 = r9 := fun e => by rw [← e, g2] at hr9; cases hr9
          have k4 : ¬ r4 = r9 := fun e => by rw [← e, g4] at hr9; cases hr9
          have k2' : ¬ r9 = r2 := fun e => k2 e.symm
          have k4' : ¬ r9 = r4 := fun e => k4 e.symm
          have n0 : ((0 : Int) != 0) = false := rfl
          repeat' (first | ((with_reducible refine Br.dec (fun _ => ?_) (fun _ => ?_)) <;> try (exfalso; omega)) | ((with_reducible refine Br.eq (fun _ => ?_) (fun _ => ?_)) <;> try (exfalso; omega)) | ((with_reducible refine Br.ne (fun _ => ?_) (fun _ => ?_)) <;> try (exfalso; omega)) | ((with_reducible refine brNdec (fun _ => ?_) (fun _ => ?_)) <;> try (exfalso; omega)) | ((with_reducible refine brNeq (fun _ => ?_) (fun _ => ?_)) <;> try (exfalso; omega)) | with_reducible refine Br.intro (fun _ => ?_) (fun _ => ?_) | (with_reducible refine And.intro ?_ ?_; · omega) | simp -dsimp -implicitDefEqProofs (disch := omega) only [↓vcOps_sp 16, ↓vcD_sp 16, VCA, pg_gl, ↓upd_none, Nat.reduceEqDiff, Nat.reduceBEq, Nat.reduceAdd, Nat.reduceSub, Nat.reduceMul, Nat.reduceLT, Nat.reduceLeDiff, ↓reduceIte, reduceCtorEq, rsOf, rootsOf, SOp.rd, SI.rd, SX.rd, rdL, rdO, rdP, okParts, eqCells, okEqCells, fillA, okFill, setAt, implies_true, forall_const, forall_eq, ne_eq, exists_eq_right_right, exists_eq_right, exists_eq_left, exists_eq_left', eInt, eBool, lit_eq, e1, e2, e4, e8, g2, g4, hxx, eEdit_len', eEdit_take', eDoc_len, eDoc_take, eDoc_dr, List.append_nil, k2, k4, k2', k4', upd_same, n0])
          all_goals try (exfalso; omega)
          refine ⟨_, by omega, k + 1, applyD D x, by omega, rfl, by omega, rfl, by rw [if_neg m1], (S.upd (S.none hr9)).upd hr2, W2, sm2, by rw [← hr]; congr 1⟩
        · rw [if_pos h0] at hr
          repeat' (first | ((with_reducible refine Br.dec (fun _ => ?_) (fun _ => ?_)) <;> try (exfalso; omega)) | ((with_reducible refine Br.eq (fun _ => ?_) (fun _ => ?_)) <;> try (exfalso; omega)) | ((with_reducible refine Br.ne (fun _ => ?_) (fun _ => ?_)) <;> try (exfalso; omega)) | ((with_reducible refine brNdec (fun _ => ?_) (fun _ => ?_)) <;> try (exfalso; omega)) | ((with_reducible refine brNeq (fun _ => ?_) (fun _ => ?_)) <;> try (exfalso; omega)) | with_reducible refine Br.intro (fun _ => ?_) (fun _ => ?_) | (with_reducible apply pcallE.of; · exact hE) | (with_reducible refine And.intro ?_ ?_; · omega) | simp -dsimp -implicitDefEqProofs (disch := omega) only [↓vcOps_sp 16, ↓vcD_sp 16, VCA, pg_gl, ↓upd_none, Nat.reduceEqDiff, Nat.reduceBEq, Nat.reduceAdd, Nat.reduceSub, Nat.reduceMul, Nat.reduceLT, Nat.reduceLeDiff, ↓reduceIte, reduceCtorEq, rsOf, rootsOf, SOp.rd, SI.rd, SX.rd, rdL, rdO, rdP, okParts, eqCells, okEqCells, fillA, okFill, setAt, implies_true, forall_const, forall_eq, ne_eq, exists_eq_right_right, exists_eq_right, exists_eq_left, exists_eq_left', eInt, eBool, lit_eq, e1, e2, e4, e8, g2, g4, hxx, h0, eEdit_len', eEdit_take', eDoc_len, eDoc_take, eDoc_dr, List.append_nil])
          intro r9 hr9
          have k2 : ¬ r2 = r9 := fun e => by rw [← e, g2] at hr9; cases hr9
          have k4 : ¬ r4 = r9 := fun e => by rw [← e, g4] at hr9; cases hr9
          have k2' : ¬ r9 = r2 := fun e => k2 e.symm
          have k4' : ¬ r9 = r4 := fun e => k4 e.symm
          have n0 : ((0 : Int) != 0) = false := rfl
          repeat' (first | ((with_reducible refine Br.dec (fun _ => ?_) (fun _ => ?_)) <;> try (exfalso; omega)) | ((with_reducible refine Br.eq (fun _ => ?_) (fun _ => ?_)) <;> try (exfalso; omega)) | ((with_reducible refine Br.ne (fun _ => ?_) (fun _ => ?_)) <;> try (exfalso; omega)) | ((with_reducible refine brNdec (fun _ => ?_) (fun _ => ?_)) <;> try (exfalso; omega)) | ((with_reducible refine brNeq (fun _ => ?_) (fun _ => ?_)) <;> try (exfalso; omega)) | with_reducible refine Br.intro (fun _ => ?_) (fun _ => ?_) | (with_reducible refine And.intro ?_ ?_; · omega) | simp -dsimp -implicitDefEqProofs (disch := omega) only [↓vcOps_sp 16, ↓vcD_sp 16, VCA, pg_gl, ↓upd_none, Nat.reduceEqDiff, Nat.reduceBEq, Nat.reduceAdd, Nat.reduceSub, Nat.reduceMul, Nat.reduceLT, Nat.reduceLeDiff, ↓reduceIte, reduceCtorEq, rsOf, rootsOf, SOp.rd, SI.rd, SX.rd, rdL, rdO, rdP, okParts, eqCells, okEqCells, fillA, okFill, setAt, implies_true, forall_const, forall_eq, ne_eq, exists_eq_right_right, exists_eq_right, exists_eq_left, exists_eq_left', eInt, eBool, lit_eq, e1, e2, e4, e8, g2, g4, hxx, eEdit_len', eEdit_take', eDoc_len, eDoc_take, eDoc_dr, List.append_nil, k2, k4, k2', k4', upd_same, n0, h0])
          all_goals try (exfalso; omega)
          rw [← hr]
          exact ⟨_, Sub.refl _, (S.upd (S.none hr9)).upd hr4.2, .tup' (.cons (vw_noDoc _) (.cons (.refl _) (.cons (.refl _) .nil)))⟩
      · obtain rfl : k = l.length := by omega
        rw [List.drop_length, runM] at hr
        rw [← hr]
        simp -dsimp -implicitDefEqProofs (disch := omega) only [↓vcOps_sp 16, ↓vcD_sp 16, VCA, pg_gl, ↓upd_none, Nat.reduceEqDiff, Nat.reduceBEq, Nat.reduceAdd, Nat.reduceSub, Nat.reduceMul, Nat.reduceLT, Nat.reduceLeDiff, ↓reduceIte, reduceCtorEq, rsOf, rootsOf, SOp.rd, SI.rd, SX.rd, rdL, rdO, rdP, okParts, eqCells, okEqCells, fillA, okFill, setAt, implies_true, forall_const, forall_eq, ne_eq, exists_eq_right_right, exists_eq_right, exists_eq_left, exists_eq_left', eInt, eBool, lit_eq, e1, e2, e4, e8, g2, g4, eDoc_len, eDoc_take, eDoc_dr, List.append_nil]
        exact ⟨_, Sub.refl _, S.upd hr4.2, .tup' (.cons (.refl _) (.cons (.refl _) (.cons (.refl _) .nil)))⟩
  · have aM : allM d l = (noDoc, 0, docE d) := by unfold allM; rw [if_pos h1]
    rw [aM]
    repeat' (first | ((with_reducible refine Br.dec (fun _ => ?_) (fun _ => ?_)) <;> try (exfalso; omega)) | ((with_reducible refine Br.eq (fun _ => ?_) (fun _ => ?_)) <;> try (exfalso; omega)) | ((with_reducible refine Br.ne (fun _ => ?_) (fun _ => ?_)) <;> try (exfalso; omega)) | ((with_reducible refine brNdec (fun _ => ?_) (fun _ => ?_)) <;> try (exfalso; omega)) | ((with_reducible refine brNeq (fun _ => ?_) (fun _ => ?_)) <;> try (exfalso; omega)) | with_reducible refine Br.intro (fun _ => ?_) (fun _ => ?_) | (with_reducible apply pcallE.of; · exact hC) | (with_reducible refine And.intro ?_ ?_; · omega) | simp -dsimp -implicitDefEqProofs (disch := omega) only [↓vcOps_sp 16, ↓vcD_sp 16, VCA, pg_gl, ↓upd_none, Nat.reduceEqDiff, Nat.reduceBEq, Nat.reduceAdd, Nat.reduceSub, Nat.reduceMul, Nat.reduceLT, Nat.reduceLeDiff, ↓reduceIte, reduceCtorEq, rsOf, rootsOf, SOp.rd, SI.rd, SX.rd, rdL, rdO, rdP, okParts, eqCells, okEqCells, fillA, okFill, setAt, implies_true, forall_const, forall_eq, ne_eq, exists_eq_right_right, exists_eq_right, exists_eq_left, exists_eq_left', eInt, eBool, lit_eq, h1, upd_same, eDoc_len, eDoc_take, eDoc_dr, List.append_nil, m1, m2])
    exact ⟨_, Sub.refl _, S4 _ _, .tup' (.cons (vw_noDoc _) (.cons (.refl _) (.cons (.refl _) .nil)))⟩
def c12 : SFun := ⟨(.seq (.reg [⟨(some 2), (.box 24 2 (.t 0)), none⟩, ⟨(some 4), (.mv (.c (.bool false))), none⟩]) (.seq (.dreg [(⟨(some 11), (.ld 2 true (.t 2)), none⟩, none), (⟨(some 12), (.pcall 15 [(.t 11), (.c (.int .i64 (60)))]), none⟩, none), (⟨(some 13), (.mv (.t 1)), none⟩, none), (⟨(some 14), (.mv (.t 1)), none⟩, none), (⟨(some 15), (.len (.t 14)), none⟩, none), (⟨(some 16), (.min2 (.t 15) (.c (.int .i64 (50)))), none⟩, none), (⟨(some 17), (.slA 12 (.t 13) none (some (.t 16))), none⟩, none), (⟨none, (.st 2 (.t 2) (.t 12)), none⟩, (some [11])), (⟨(some 1), (.mv (.t 17)), none⟩, (some [11]))]) (.seq (.reg [⟨(some 19), (.ld 2 true (.t 2)), none⟩, ⟨(some 20), (.mv (.t 1)), none⟩, ⟨(some 21), (.pcall 57 [(.t 19), (.t 20)]), none⟩, ⟨(some 18), (.mv (.t 21)), none⟩, ⟨(some 22), (.ext (.t 18) 0), none⟩, ⟨(some 23), (.ext (.t 18) 1), none⟩, ⟨(some 24), (.ext (.t 18) 2), none⟩, ⟨(some 5), (.new 24 2 [.emp, (.bool false)]), none⟩, ⟨none, (.st 2 (.t 5) (.t 22)), none⟩, ⟨(some 6), (.mv (.t 23)), none⟩, ⟨(some 7), (.mv (.t 24)), none⟩]) (.seq (.reg [⟨(some 26), (.ld 2 true (.t 2)), none⟩, ⟨(some 27), (.mv (.t 1)), none⟩, ⟨(some 28), (.pcall 58 [(.t 26), (.t 27)]), none⟩, ⟨(some 25), (.mv (.t 28)), none⟩, ⟨(some 29), (.ext (.t 25) 0), none⟩, ⟨(some 30), (.ext (.t 25) 1), none⟩, ⟨(some 31), (.ext (.t 25) 2), none⟩, ⟨(some 8), (.new 24 2 [.emp, (.bool false)]), none⟩, ⟨none, (.st 2 (.t 8) (.t 29)), none⟩, ⟨(some 9), (.mv (.t 30)), none⟩, ⟨(some 10), (.mv (.t 31)), none⟩]) (.seq (.reg [⟨(some 32), (.pcall 51 []), none⟩, ⟨(some 33), (.mv (.t 32)), none⟩, ⟨(some 34), (.ld 2 true (.t 5)), (some (33, true))⟩, ⟨(some 35), (.ld 2 true (.t 8)), (some (33, true))⟩, ⟨(some 36), (.pcall 53 [(.t 34), (.t 35)]), (some (33, true))⟩, ⟨(some 37), (.pick (.t 33) (.t 36) (.c (.bool false))), none⟩, ⟨(some 38), (.mv (.t 37)), none⟩, ⟨(some 39), (.mv (.t 6)), (some (38, true))⟩, ⟨(some 40), (.mv (.t 9)), (some (38, true))⟩, ⟨(some 41), (.bin .eql (.t 39) (.t 40)), (some (38, true))⟩, ⟨(some 42), (.pick (.t 38) (.t 41) (.c (.bool false))), none⟩, ⟨(some 43), (.mv (.t 42)), none⟩, ⟨(some 44), (.mv (.t 7)), (some (43, true))⟩, ⟨(some 45), (.mv (.t 10)), (some (43, true))⟩, ⟨(some 46), (.bin .eql (.t 44) (.t 45)), (some (43, true))⟩, ⟨(some 47), (.pick (.t 43) (.t 46) (.c (.bool false))), none⟩, ⟨(some 4), (.mv (.t 47)), none⟩]) .ret))))), [(.tmp 4)]⟩
theorem hc12 : toSF Tryd.prog {pure := [15, 51, 57, 58, 53], how := [(2, 6)]} Tryd.f12 = some c12 := by kernel_rfl
theorem hn12 : (Tryd.f12.name == "runtime.NumGoroutine") = false := by kernel_rfl
set_option maxHeartbeats 1000000 in
theorem domAll_ok (d : HDoc) (sm : DocSm d) (l : List HEdit) (hl : ∀ e ∈ l, EditSm e) (ll : l.length ≤ 1073741824) : PCalls (Pg G) 12 [.agg (eDoc d), sl eEdit l] (.bool true) := fun h => by
  have hF : PCalls (Pg G) 15 [.agg (eDoc d), .int .i64 60] (.agg (eDoc ⟨d.nodes.take 60, d.quirks⟩)) := few_ok (G := G) d 60 sm
  have fs := sm.few 60
  generalize (⟨d.nodes.take 60, d.quirks⟩ : HDoc) = f at *
  obtain ⟨L, hL⟩ : ∃ L, l.take (min (l.length : Int) 50).toNat = L := ⟨_, rfl⟩
  have hm : ∀ e ∈ L, EditSm e := fun e he => hl e (List.mem_of_mem_take (hL ▸ he))
  have ml : L.length ≤ 1073741824 := by rw [← hL, List.length_take]; omega
  have hA := all_ok (G := G) f fs L hm ml
  have hE := editedAll_ok (G := G) f fs L hm ml
  have asm := allM_sm fs hm
  unfold allV at hA hE
  generalize allM f L = D at *
  obtain ⟨D, N, X⟩ := D
  have hS2 : PCalls (Pg G) 53 [.agg (eDoc D), .agg (eDoc D)] (.bool true) := by
    have h := sameDoc_ok (G := G) D D asm asm
    rwa [show (D == D) = true by simp] at h
  have hB := domBegun_ok (G := G)
  have n1 : (N == N) = true := by simp
  have n2 : (X == X) = true := by simp
  refine dcalls_of_vc Tryd.func12 hn12 hc12 (by rw [Tryd.ntmps12]; simp) (by rw [Tryd.ntmps12]; decide) ?_
  simp -dsimp -implicitDefEqProofs (disch := omega) only [↓vcOps_sp 33, ↓vcD_sp 33, ↓vcOps_sp 38, ↓vcD_sp 38, ↓vcOps_sp 43, ↓vcD_sp 43, VCA, pg_gl, ↓upd_none, Nat.reduceEqDiff, Nat.reduceBEq, Nat.reduceAdd, Nat.reduceSub, Nat.reduceMul, Nat.reduceLT, Nat.reduceLeDiff, ↓reduceIte, reduceCtorEq, rsOf, rootsOf, SOp.rd, SI.rd, SX.rd, rdL, rdO, rdP, okParts, eqCells, okEqCells, fillA, okFill, setAt, implies_true, forall_const, forall_eq, ne_eq, exists_eq_right_right, exists_eq_right, exists_eq_left, exists_eq_left', eInt, eBool, lit_eq, c12, eDoc_len, eDoc_take, eDoc_dr, List.append_nil]
  intro r2 hr2
  repeat' (first | ((with_reducible refine Br.dec (fun _ => ?_) (fun _ => ?_)) <;> try (exfalso; omega)) | ((with_reducible refine Br.eq (fun _ => ?_) (fun _ => ?_)) <;> try (exfalso; omega)) | ((with_reducible refine Br.ne (fun _ => ?_) (fun _ => ?_)) <;> try (exfalso; omega)) | ((with_reducible refine brNdec (fun _ => ?_) (fun _ => ?_)) <;> try (exfalso; omega)) | ((with_reducible refine brNeq (fun _ => ?_) (fun _ => ?_)) <;> try (exfalso; omega)) | with_reducible refine Br.intro (fun _ => ?_) (fun _ => ?_) | (with_reducible apply pcallE.of; · exact hF) | (with_reducible apply pcallE.of; · exact hA) | (with_reducible refine And.intro ?_ ?_; · omega) | simp -dsimp -implicitDefEqProofs (disch := omega) only [↓vcOps_sp 33, ↓vcD_sp 33, ↓vcOps_sp 38, ↓vcD_sp 38, ↓vcOps_sp 43, ↓vcD_sp 43, VCA, pg_gl, ↓upd_none, Nat.reduceEqDiff, Nat.reduceBEq, Nat.reduceAdd, Nat.reduceSub, Nat.reduceMul, Nat.reduceLT, Nat.reduceLeDiff, ↓reduceIte, reduceCtorEq, rsOf, rootsOf, SOp.rd, SI.rd, SX.rd, rdL, rdO, rdP, okParts, eqCells, okEqCells, fillA, okFill, setAt, implies_true, forall_const, forall_eq, ne_eq, exists_eq_right_right, exists_eq_right, exists_eq_left, exists_eq_left', eInt, eBool, lit_eq, upd_same, eDoc_len, eDoc_take, eDoc_dr, List.append_nil, hL, n1, n2])
  intro r5 hr5
  have m1 : ¬ r5 = r2 := hr5.1
  have m2 : ¬ r2 = r5 := fun h => m1 h.symm
  repeat' (first | ((with_reducible refine Br.dec (fun _ => ?_) (fun _ => ?_)) <;> try (exfalso; omega)) | ((with_reducible refine Br.eq (fun _ => ?_) (fun _ => ?_)) <;> try (exfalso; omega)) | ((with_reducible refine Br.ne (fun _ => ?_) (fun _ => ?_)) <;> try (exfalso; omega)) | ((with_reducible refine brNdec (fun _ => ?_) (fun _ => ?_)) <;> try (exfalso; omega)) | ((with_reducible refine brNeq (fun _ => ?_) (fun _ => ?_)) <;> try (exfalso; omega)) | with_reducible refine Br.intro (fun _ => ?_) (fun _ => ?_) | (with_reducible apply pcallE.of; · exact hE) | (with_reducible refine And.intro ?_ ?_; · omega) | simp -dsimp -implicitDefEqProofs (disch := omega) only [↓vcOps_sp 33, ↓vcD_sp 33, ↓vcOps_sp 38, ↓vcD_sp 38, ↓vcOps_sp 43, ↓vcD_sp 43, VCA, pg_gl, ↓upd_none, Nat.reduceEqDiff, Nat.reduceBEq, Nat.reduceAdd, Nat.reduceSub, Nat.reduceMul, Nat.reduceLT, Nat.reduceLeDiff, ↓reduceIte, reduceCtorEq, rsOf, rootsOf, SOp.rd, SI.rd, SX.rd, rdL, rdO, rdP, okParts, eqCells, okEqCells, fillA, okFill, setAt, implies_true, forall_const, forall_eq, ne_eq, exists_eq_right_right, exists_eq_right, exists_eq_left, exists_eq_left', eInt, eBool, lit_eq, upd_same, eDoc_len, eDoc_take, eDoc_dr, List.append_nil, hL, n1, n2, m1, m2])
  intro r9 hr9
  have k1 : ¬ r9 = r2 := hr9.2.1
  have k2 : ¬ r2 = r9 := fun h => k1 h.symm
  have k3 : ¬ r9 = r5 := hr9.1
  have k4 : ¬ r5 = r9 := fun h => k3 h.symm
  repeat' (first | ((with_reducible refine Br.dec (fun _ => ?_) (fun _ => ?_)) <;> try (exfalso; omega)) | ((with_reducible refine Br.eq (fun _ => ?_) (fun _ => ?_)) <;> try (exfalso; omega)) | ((with_reducible refine Br.ne (fun _ => ?_) (fun _ => ?_)) <;> try (exfalso; omega)) | ((with_reducible refine brNdec (fun _ => ?_) (fun _ => ?_)) <;> try (exfalso; omega)) | ((with_reducible refine brNeq (fun _ => ?_) (fun _ => ?_)) <;> try (exfalso; omega)) | with_reducible refine Br.intro (fun _ => ?_) (fun _ => ?_) | (with_reducible apply pcallE.of; · exact hB) | (with_reducible apply pcallE.of; · exact hS2) | (with_reducible refine And.intro ?_ ?_; · omega) | simp -dsimp -implicitDefEqProofs (disch := omega) only [↓vcOps_sp 33, ↓vcD_sp 33, ↓vcOps_sp 38, ↓vcD_sp 38, ↓vcOps_sp 43, ↓vcD_sp 43, VCA, pg_gl, ↓upd_none, Nat.reduceEqDiff, Nat.reduceBEq, Nat.reduceAdd, Nat.reduceSub, Nat.reduceMul, Nat.reduceLT, Nat.reduceLeDiff, ↓reduceIte, reduceCtorEq, rsOf, rootsOf, SOp.rd, SI.rd, SX.rd, rdL, rdO, rdP, okParts, eqCells, okEqCells, fillA, okFill, setAt, implies_true, forall_const, forall_eq, ne_eq, exists_eq_right_right, exists_eq_right, exists_eq_left, exists_eq_left', eInt, eBool, lit_eq, upd_same, eDoc_len, eDoc_take, eDoc_dr, List.append_nil, hL, n1, n2, m1, m2, k1, k2, k3, k4])
  all_goals exact (((Sub.refl h).upd hr2).upd hr5.2).upd hr9.2.2
end Go.Proofs.K
end
