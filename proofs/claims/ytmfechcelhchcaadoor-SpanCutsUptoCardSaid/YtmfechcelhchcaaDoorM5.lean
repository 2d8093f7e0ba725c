/- Texts of this claim, one behind the other. -/
import Derived.Test.YtmfechcelhchcaaDoorM4
import Derived.Test.YtmfechcelhchcaaDoorM2
section
/- Ranges: text: contracts. -/
set_option linter.unusedSimpArgs false
set_option linter.unusedVariables false
namespace Go.Proofs.K
open Go Go.Sim Go.Proofs
variable {G : Glob}
def loM (s : HSpan) (n : Int) : Int := if s.a.node = n then s.a.at' else 0
def hiM (d : HDoc) (s : HSpan) (n : Int) : Int := if s.b.node = n then s.b.at' else (nd d n).text.length
def partM (d : HDoc) (n : Int) (s : HSpan) : List UInt8 :=
  if s.a.node ≠ n ∧ orderM d ⟨n, 0⟩ s.a < 0 then [] else if s.b.node ≠ n ∧ 0 < orderM d ⟨n, 0⟩ s.b then []
  else ((nd d n).text.take (hiM d s n).toNat).drop (loM s n).toNat
def c89 : SFun := ⟨(.seq (.reg [⟨(some 3), (.boxF 124 2 (.t 0)), none⟩, ⟨(some 5), (.boxF 52 4 (.t 2)), none⟩, ⟨(some 6), (.mv (.c (.str []))), none⟩]) (.seq (.reg [⟨(some 10), (.fldA 0 (.t 3)), none⟩, ⟨(some 11), (.fldA 0 (.t 10)), none⟩, ⟨(some 12), (.ld 1 false (.t 11)), none⟩, ⟨(some 13), (.mv (.t 1)), none⟩, ⟨(some 14), (.idxA 6 (.t 12) (.t 13)), none⟩, ⟨(some 15), (.fldA 3 (.t 14)), none⟩, ⟨(some 16), (.ld 1 false (.t 15)), none⟩, ⟨(some 7), (.mv (.t 16)), none⟩]) (.seq (.reg [⟨(some 17), (.mv (.t 7)), none⟩, ⟨(some 18), (.lenS (.t 17)), none⟩, ⟨(some 8), (.mv (.c (.int .i64 (0)))), none⟩, ⟨(some 9), (.mv (.t 18)), none⟩]) (.seq (.block 0 (.seq (.reg [⟨(some 20), (.fldA 0 (.t 5)), none⟩, ⟨(some 21), (.fldA 0 (.t 20)), none⟩, ⟨(some 22), (.ld 1 false (.t 21)), none⟩, ⟨(some 23), (.mv (.t 1)), none⟩, ⟨(some 24), (.bin .eql (.t 22) (.t 23)), none⟩, ⟨(some 19), (.mv (.t 24)), none⟩]) (.cond (.t 19) (.reg [⟨(some 25), (.fldA 0 (.t 5)), none⟩, ⟨(some 26), (.fldA 1 (.t 25)), none⟩, ⟨(some 27), (.ld 1 false (.t 26)), none⟩, ⟨(some 8), (.mv (.t 27)), none⟩]) (.seq (.reg [⟨(some 29), (.ld 2 true (.t 3)), none⟩, ⟨(some 30), (.mv (.t 1)), none⟩, ⟨(some 31), (.bld [(.int .i64 (0)), (.int .i64 (0))] [(0, (1, (.t 30)))]), none⟩, ⟨(some 32), (.fldA 0 (.t 5)), none⟩, ⟨(some 33), (.ld 2 true (.t 32)), none⟩, ⟨(some 34), (.pcall 88 [(.t 29), (.t 31), (.t 33)]), none⟩, ⟨(some 35), (.bin .lss (.t 34) (.c (.int .i64 (0)))), none⟩, ⟨(some 28), (.mv (.t 35)), none⟩]) (.cond (.t 28) (.seq (.reg [⟨(some 6), (.mv (.c (.str []))), none⟩]) .ret) .skip))))) (.seq (.block 1 (.seq (.reg [⟨(some 37), (.fldA 2 (.t 5)), none⟩, ⟨(some 38), (.fldA 0 (.t 37)), none⟩, ⟨(some 39), (.ld 1 false (.t 38)), none⟩, ⟨(some 40), (.mv (.t 1)), none⟩, ⟨(some 41), (.bin .eql (.t 39) (.t 40)), none⟩, ⟨(some 36), (.mv (.t 41)), none⟩]) (.cond (.t 36) (.reg [⟨(some 42), (.fldA 2 (.t 5)), none⟩, ⟨(some 43), (.fldA 1 (.t 42)), none⟩, ⟨(some 44), (.ld 1 false (.t 43)), none⟩, ⟨(some 9), (.mv (.t 44)), none⟩]) (.seq (.reg [⟨(some 46), (.ld 2 true (.t 3)), none⟩, ⟨(some 47), (.mv (.t 1)), none⟩, ⟨(some 48), (.bld [(.int .i64 (0)), (.int .i64 (0))] [(0, (1, (.t 47)))]), none⟩, ⟨(some 49), (.fldA 2 (.t 5)), none⟩, ⟨(some 50), (.ld 2 true (.t 49)), none⟩, ⟨(some 51), (.pcall 88 [(.t 46), (.t 48), (.t 50)]), none⟩, ⟨(some 52), (.bin .gtr (.t 51) (.c (.int .i64 (0)))), none⟩, ⟨(some 45), (.mv (.t 52)), none⟩]) (.cond (.t 45) (.seq (.reg [⟨(some 6), (.mv (.c (.str []))), none⟩]) .ret) .skip))))) (.seq (.reg [⟨(some 53), (.mv (.t 7)), none⟩, ⟨(some 54), (.mv (.t 8)), none⟩, ⟨(some 55), (.mv (.t 9)), none⟩, ⟨(some 56), (.slS (.t 53) (some (.t 54)) (some (.t 55))), none⟩, ⟨(some 6), (.mv (.t 56)), none⟩]) .ret)))))), [(.tmp 6)]⟩
theorem hc89 : toSF Tryd.prog {pure := [88]} Tryd.f89 = some c89 := by kernel_rfl
theorem hn89 : (Tryd.f89.name == "runtime.NumGoroutine") = false := by kernel_rfl
theorem part_ok (d : HDoc) (V : DV d) (sm : DocSm d) (n : Int) (s : HSpan) (hn : inD d n) (hc : 0 ∈ chain d n) (hk : (nd d n).kind = 3) (ha : pointE d s.a = 0) (hb : pointE d s.b = 0) (ho : orderM d s.a s.b ≤ 0) :
    PCalls (Pg G) 89 [.agg (eDoc d), aInt n, .agg (eS s)] (.str (partM d n s)) := fun h => by
  have hl := V.len
  have n0 := hn.1
  have n1 := hn.2
  have e0 : nth d.nodes n.toNat = nd d n := rfl
  have tl := (sm.nd n).text
  have hr : roomM d n = (nd d n).text.length := by unfold roomM; rw [if_pos (.inl hk)]
  obtain ⟨a1, a2, a3, a4, a5⟩ := point_marks V ha
  obtain ⟨b1, b2, b3, b4, b5⟩ := point_marks V hb
  have hp : pointE d ⟨n, 0⟩ = 0 := by unfold pointE; rw [if_neg (by simp [hn]), if_neg (by simpa using hc)]
  have oA := order_ok (G := G) d V sm ⟨n, 0⟩ s.a hp ha
  have oB := order_ok (G := G) d V sm ⟨n, 0⟩ s.b hp hb
  replace oA : PCalls (Pg G) 88 [.agg [sl eNode d.nodes, .bool d.quirks], .agg [aInt n, aInt 0], .agg [aInt s.a.node, aInt s.a.at']] (aInt (orderM d ⟨n, 0⟩ s.a)) := oA
  replace oB : PCalls (Pg G) 88 [.agg [sl eNode d.nodes, .bool d.quirks], .agg [aInt n, aInt 0], .agg [aInt s.b.node, aInt s.b.at']] (aInt (orderM d ⟨n, 0⟩ s.b)) := oB
  have c0 : nth d.nodes n.toNat = nd d n := rfl
  refine dcalls_of_vc Tryd.func89 hn89 hc89 (by rw [Tryd.ntmps89]; simp) (by rw [Tryd.ntmps89]; decide) ?_
  unfold partM loM hiM
  by_cases h1 : s.a.node = n
  · have ea := a3
    rw [h1, hr] at ea
    by_cases h2 : s.b.node = n
    · have eb := b3
      rw [h2, hr] at eb
      have hab : s.a.at' ≤ s.b.at' := by
        unfold orderM at ho
        rw [if_pos (by rw [h1, h2])] at ho
        unfold cmpI at ho
        split at ho <;> first | omega | (split at ho <;> omega)
      simp -dsimp -implicitDefEqProofs (disch := omega) only [VCA, pg_gl, ↓upd_none, Nat.reduceEqDiff, Nat.reduceBEq, Nat.reduceAdd, Nat.reduceSub, Nat.reduceMul, Nat.reduceLT, Nat.reduceLeDiff, ↓reduceIte, reduceCtorEq, rsOf, rootsOf, SOp.rd, SI.rd, SX.rd, rdL, rdO, rdP, okParts, eqCells, okEqCells, fillA, okFill, setAt, implies_true, forall_const, forall_eq, ne_eq, exists_eq_right_right, exists_eq_right, exists_eq_left, exists_eq_left', eInt, eBool, lit_eq, c89, eDoc, eNode, eS, h1, h2, c0]
      repeat' (first | ((with_reducible refine Br.dec (fun _ => ?_) (fun _ => ?_)) <;> try (exfalso; omega)) | ((with_reducible refine Br.eq (fun _ => ?_) (fun _ => ?_)) <;> try (exfalso; omega)) | ((with_reducible refine Br.ne (fun _ => ?_) (fun _ => ?_)) <;> try (exfalso; omega)) | ((with_reducible refine brNdec (fun _ => ?_) (fun _ => ?_)) <;> try (exfalso; omega)) | ((with_reducible refine brNeq (fun _ => ?_) (fun _ => ?_)) <;> try (exfalso; omega)) | with_reducible refine Br.intro (fun _ => ?_) (fun _ => ?_) | (with_reducible refine And.intro ?_ ?_; · omega) | simp -dsimp -implicitDefEqProofs (disch := omega) only [VCA, pg_gl, ↓upd_none, Nat.reduceEqDiff, Nat.reduceBEq, Nat.reduceAdd, Nat.reduceSub, Nat.reduceMul, Nat.reduceLT, Nat.reduceLeDiff, ↓reduceIte, reduceCtorEq, rsOf, rootsOf, SOp.rd, SI.rd, SX.rd, rdL, rdO, rdP, okParts, eqCells, okEqCells, fillA, okFill, setAt, implies_true, forall_const, forall_eq, ne_eq, exists_eq_right_right, exists_eq_right, exists_eq_left, exists_eq_left', eInt, eBool, lit_eq, eDoc, eNode, eS, h1, h2, c0])
      exact ⟨Sub.refl _, by simp⟩
    · generalize orderM d ⟨n, 0⟩ s.b = y at *
      simp -dsimp -implicitDefEqProofs (disch := omega) only [VCA, pg_gl, ↓upd_none, Nat.reduceEqDiff, Nat.reduceBEq, Nat.reduceAdd, Nat.reduceSub, Nat.reduceMul, Nat.reduceLT, Nat.reduceLeDiff, ↓reduceIte, reduceCtorEq, rsOf, rootsOf, SOp.rd, SI.rd, SX.rd, rdL, rdO, rdP, okParts, eqCells, okEqCells, fillA, okFill, setAt, implies_true, forall_const, forall_eq, ne_eq, exists_eq_right_right, exists_eq_right, exists_eq_left, exists_eq_left', eInt, eBool, lit_eq, c89, eDoc, eNode, eS, h1, h2, c0]
      repeat' (first | ((with_reducible refine Br.dec (fun _ => ?_) (fun _ => ?_)) <;> try (exfalso; omega)) | ((with_reducible refine Br.eq (fun _ => ?_) (fun _ => ?_)) <;> try (exfalso; omega)) | ((with_reducible refine Br.ne (fun _ => ?_) (fun _ => ?_)) <;> try (exfalso; omega)) | ((with_reducible refine brNdec (fun _ => ?_) (fun _ => ?_)) <;> try (exfalso; omega)) | ((with_reducible refine brNeq (fun _ => ?_) (fun _ => ?_)) <;> try (exfalso; omega)) | with_reducible refine Br.intro (fun _ => ?_) (fun _ => ?_) | (with_reducible apply pcallE.of; · exact oB) | (with_reducible refine And.intro ?_ ?_; · omega) | simp -dsimp -implicitDefEqProofs (disch := omega) only [VCA, pg_gl, ↓upd_none, Nat.reduceEqDiff, Nat.reduceBEq, Nat.reduceAdd, Nat.reduceSub, Nat.reduceMul, Nat.reduceLT, Nat.reduceLeDiff, ↓reduceIte, reduceCtorEq, rsOf, rootsOf, SOp.rd, SI.rd, SX.rd, rdL, rdO, rdP, okParts, eqCells, okEqCells, fillA, okFill, setAt, implies_true, forall_const, forall_eq, ne_eq, exists_eq_right_right, exists_eq_right, exists_eq_left, exists_eq_left', eInt, eBool, lit_eq, eDoc, eNode, eS, h1, h2, c0])
      all_goals refine ⟨Sub.refl _, ?_⟩
      all_goals clear oA oB
      all_goals repeat split
      all_goals first | rfl | (exfalso; simp_all; done) | (exfalso; omega)
  · generalize orderM d ⟨n, 0⟩ s.a = x at *
    by_cases h2 : s.b.node = n
    · have eb := b3
      rw [h2, hr] at eb
      simp -dsimp -implicitDefEqProofs (disch := omega) only [VCA, pg_gl, ↓upd_none, Nat.reduceEqDiff, Nat.reduceBEq, Nat.reduceAdd, Nat.reduceSub, Nat.reduceMul, Nat.reduceLT, Nat.reduceLeDiff, ↓reduceIte, reduceCtorEq, rsOf, rootsOf, SOp.rd, SI.rd, SX.rd, rdL, rdO, rdP, okParts, eqCells, okEqCells, fillA, okFill, setAt, implies_true, forall_const, forall_eq, ne_eq, exists_eq_right_right, exists_eq_right, exists_eq_left, exists_eq_left', eInt, eBool, lit_eq, c89, eDoc, eNode, eS, h1, h2, c0]
      repeat' (first | ((with_reducible refine Br.dec (fun _ => ?_) (fun _ => ?_)) <;> try (exfalso; omega)) | ((with_reducible refine Br.eq (fun _ => ?_) (fun _ => ?_)) <;> try (exfalso; omega)) | ((with_reducible refine Br.ne (fun _ => ?_) (fun _ => ?_)) <;> try (exfalso; omega)) | ((with_reducible refine brNdec (fun _ => ?_) (fun _ => ?_)) <;> try (exfalso; omega)) | ((with_reducible refine brNeq (fun _ => ?_) (fun _ => ?_)) <;> try (exfalso; omega)) | with_reducible refine Br.intro (fun _ => ?_) (fun _ => ?_) | (with_reducible apply pcallE.of; · exact oA) | (with_reducible refine And.intro ?_ ?_; · omega) | simp -dsimp -implicitDefEqProofs (disch := omega) only [VCA, pg_gl, ↓upd_none, Nat.reduceEqDiff, Nat.reduceBEq, Nat.reduceAdd, Nat.reduceSub, Nat.reduceMul, Nat.reduceLT, Nat.reduceLeDiff, ↓reduceIte, reduceCtorEq, rsOf, rootsOf, SOp.rd, SI.rd, SX.rd, rdL, rdO, rdP, okParts, eqCells, okEqCells, fillA, okFill, setAt, implies_true, forall_const, forall_eq, ne_eq, exists_eq_right_right, exists_eq_right, exists_eq_left, exists_eq_left', eInt, eBool, lit_eq, eDoc, eNode, eS, h1, h2, c0])
      all_goals refine ⟨Sub.refl _, ?_⟩
      all_goals clear oA oB
      all_goals repeat split
      all_goals first | rfl | (exfalso; simp_all; done) | (exfalso; omega)
    · generalize orderM d ⟨n, 0⟩ s.b = y at *
      simp -dsimp -implicitDefEqProofs (disch := omega) only [VCA, pg_gl, ↓upd_none, Nat.reduceEqDiff, Nat.reduceBEq, Nat.reduceAdd, Nat.reduceSub, Nat.reduceMul, Nat.reduceLT, Nat.reduceLeDiff, ↓reduceIte, reduceCtorEq, rsOf, rootsOf, SOp.rd, SI.rd, SX.rd, rdL, rdO, rdP, okParts, eqCells, okEqCells, fillA, okFill, setAt, implies_true, forall_const, forall_eq, ne_eq, exists_eq_right_right, exists_eq_right, exists_eq_left, exists_eq_left', eInt, eBool, lit_eq, c89, eDoc, eNode, eS, h1, h2, c0]
      repeat' (first | ((with_reducible refine Br.dec (fun _ => ?_) (fun _ => ?_)) <;> try (exfalso; omega)) | ((with_reducible refine Br.eq (fun _ => ?_) (fun _ => ?_)) <;> try (exfalso; omega)) | ((with_reducible refine Br.ne (fun _ => ?_) (fun _ => ?_)) <;> try (exfalso; omega)) | ((with_reducible refine brNdec (fun _ => ?_) (fun _ => ?_)) <;> try (exfalso; omega)) | ((with_reducible refine brNeq (fun _ => ?_) (fun _ => ?_)) <;> try (exfalso; omega)) | with_reducible refine Br.intro (fun _ => ?_) (fun _ => ?_) | (with_reducible apply pcallE.of; · exact oA) | (with_reducible apply pcallE.of; · exact oB) | (with_reducible refine And.intro ?_ ?_; · omega) | simp -dsimp -implicitDefEqProofs (disch := omega) only [VCA, pg_gl, ↓upd_none, Nat.reduceEqDiff, Nat.reduceBEq, Nat.reduceAdd, Nat.reduceSub, Nat.reduceMul, Nat.reduceLT, Nat.reduceLeDiff, ↓reduceIte, reduceCtorEq, rsOf, rootsOf, SOp.rd, SI.rd, SX.rd, rdL, rdO, rdP, okParts, eqCells, okEqCells, fillA, okFill, setAt, implies_true, forall_const, forall_eq, ne_eq, exists_eq_right_right, exists_eq_right, exists_eq_left, exists_eq_left', eInt, eBool, lit_eq, eDoc, eNode, eS, h1, h2, c0])
      all_goals refine ⟨Sub.refl _, ?_⟩
      all_goals clear oA oB
      all_goals repeat split
      all_goals first | rfl | (exfalso; simp_all; done) | (exfalso; omega)
def textS (d : HDoc) (s : HSpan) (l : List Int) : List UInt8 := l.flatMap fun n => if (nd d n).kind = 3 then partM d n s else []
theorem partM_len {d : HDoc} (V : DV d) (s : HSpan) {n : Int} (hn : inD d n) : (partM d n s).length ≤ 400 := by
  have := text_len V hn
  unfold partM
  split
  · simp
  · split
    · simp
    · rw [List.length_drop, List.length_take]; omega
theorem textS_len {d : HDoc} (V : DV d) (s : HSpan) : ∀ l : List Int, (∀ n ∈ l, inD d n) → (textS d s l).length ≤ 400 * l.length
  | [], _ => by simp [textS]
  | n :: l, h => by
    have h1 := textS_len V s l (fun m hm => h m (List.mem_cons_of_mem _ hm))
    have h2 : (if (nd d n).kind = 3 then partM d n s else []).length ≤ 400 := by
      split
      · exact partM_len V s (h n List.mem_cons_self)
      · simp
    have e : textS d s (n :: l) = (if (nd d n).kind = 3 then partM d n s else []) ++ textS d s l := rfl
    rw [e, List.length_append, List.length_cons]; omega
theorem spanE_zero {d : HDoc} {s : HSpan} (h : spanE d s = 0) : pointsE d [s.a, s.b] = 0 ∧ orderM d s.a s.b ≤ 0 := by
  unfold spanE at h
  split at h
  · contradiction
  · rename_i h1
    split at h
    · omega
    · exact ⟨by simpa using h1, by omega⟩
def c38 : SFun := ⟨(.seq (.reg [⟨(some 2), (.boxF 24 2 (.t 0)), none⟩, ⟨(some 3), (.boxF 52 4 (.t 1)), none⟩, ⟨(some 4), (.mv (.c (.str []))), none⟩, ⟨(some 5), (.mv (.c (.int .i64 (0)))), none⟩]) (.seq (.reg [⟨(some 14), (.ld 2 true (.t 2)), none⟩, ⟨(some 15), (.ld 4 true (.t 3)), none⟩, ⟨(some 16), (.pcall 82 [(.t 14), (.t 15)]), none⟩, ⟨(some 13), (.mv (.t 16)), none⟩, ⟨(some 17), (.ext (.t 13) 0), none⟩, ⟨(some 18), (.ext (.t 13) 1), none⟩, ⟨(some 6), (.new 124 2 [.emp, (.bool false)]), none⟩, ⟨none, (.st 2 (.t 6) (.t 17)), none⟩, ⟨(some 7), (.mv (.t 18)), none⟩]) (.seq (.seq (.reg [⟨(some 19), (.mv (.t 7)), none⟩, ⟨(some 20), (.bin .neq (.t 19) (.c (.int .i64 (0)))), none⟩]) (.cond (.t 20) (.seq (.reg [⟨(some 21), (.mv (.t 7)), none⟩, ⟨(some 4), (.mv (.c (.str []))), none⟩, ⟨(some 5), (.mv (.t 21)), none⟩]) .ret) .skip)) (.seq (.reg [⟨(some 23), (.ld 2 true (.t 2)), none⟩, ⟨(some 24), (.pcall 59 [(.t 23)]), none⟩, ⟨(some 22), (.mv (.t 24)), none⟩, ⟨(some 25), (.ext (.t 22) 0), none⟩, ⟨(some 26), (.ext (.t 22) 1), none⟩, ⟨(some 8), (.mv (.t 25)), none⟩, ⟨(some 9), (.mv (.t 26)), none⟩]) (.seq (.reg [⟨(some 10), (.mv (.c (.str []))), none⟩]) (.seq (.seq (.reg [⟨(some 27), (.mv (.t 8)), none⟩, ⟨(some 28), (.len (.t 27)), none⟩, ⟨(some 29), (.mv (.c (.int .i64 (0)))), none⟩]) (.block 0 (.loop (.seq (.reg [⟨(some 30), (.bin .lss (.t 29) (.t 28)), none⟩]) (.seq (.cond (.t 30) .skip (.exit 0)) (.seq (.block 1 (.seq (.reg [⟨(some 31), (.idxA 1 (.t 27) (.t 29)), none⟩, ⟨(some 32), (.ld 1 false (.t 31)), none⟩, ⟨(some 12), (.mv (.t 32)), none⟩]) (.seq (.reg [⟨(some 33), (.fldA 0 (.t 2)), none⟩, ⟨(some 34), (.ld 1 false (.t 33)), none⟩, ⟨(some 35), (.mv (.t 12)), none⟩, ⟨(some 36), (.idxA 6 (.t 34) (.t 35)), none⟩, ⟨(some 37), (.fldA 0 (.t 36)), none⟩, ⟨(some 38), (.ld 1 false (.t 37)), none⟩, ⟨(some 39), (.bin .eql (.t 38) (.c (.int .i64 (3)))), none⟩]) (.cond (.t 39) (.reg [⟨(some 40), (.mv (.t 10)), none⟩, ⟨(some 41), (.ld 2 true (.t 6)), none⟩, ⟨(some 42), (.mv (.t 12)), none⟩, ⟨(some 43), (.ld 4 true (.t 3)), none⟩, ⟨(some 44), (.pcall 89 [(.t 41), (.t 42), (.t 43)]), none⟩, ⟨(some 45), (.bin .add (.t 40) (.t 44)), none⟩, ⟨(some 10), (.mv (.t 45)), none⟩]) .skip)))) (.reg [⟨(some 46), (.bin .add (.t 29) (.c (.int .i64 (1)))), none⟩, ⟨(some 29), (.mv (.t 46)), none⟩]))))))) (.seq (.reg [⟨(some 47), (.mv (.t 10)), none⟩, ⟨(some 4), (.mv (.t 47)), none⟩, ⟨(some 5), (.mv (.c (.int .i64 (0)))), none⟩]) .ret))))))), [(.tmp 4), (.tmp 5)]⟩
theorem hc38 : toSF Tryd.prog {pure := [82, 59, 89]} Tryd.f38 = some c38 := by kernel_rfl
theorem hn38 : (Tryd.f38.name == "runtime.NumGoroutine") = false := by kernel_rfl
theorem stext_ok (d : HDoc) (sm : DocSm d) (s : HSpan) : PCalls (Pg G) 38 [.agg (eDoc d), .agg (eS s)] (.tup [.str (if spanE d s = 0 then textS d s (below d 0) else []), aInt (spanE d s)]) := fun h => by
  have hC := span_ok (G := G) d sm s
  refine dcalls_of_vc Tryd.func38 hn38 hc38 (by rw [Tryd.ntmps38]; simp) (by rw [Tryd.ntmps38]; decide) ?_
  simp -dsimp -implicitDefEqProofs (disch := omega) only [VCA, pg_gl, ↓upd_none, Nat.reduceEqDiff, Nat.reduceBEq, Nat.reduceAdd, Nat.reduceSub, Nat.reduceMul, Nat.reduceLT, Nat.reduceLeDiff, ↓reduceIte, reduceCtorEq, rsOf, rootsOf, SOp.rd, SI.rd, SX.rd, rdL, rdO, rdP, okParts, eqCells, okEqCells, fillA, okFill, setAt, implies_true, forall_const, forall_eq, ne_eq, exists_eq_right_right, exists_eq_right, exists_eq_left, exists_eq_left', eInt, eBool, lit_eq, c38, eDoc_len, eDoc_take, eDoc_drop, eS_len, eS_take, List.append_nil]
  refine pcallE.of (hC) ?_; simp -dsimp -implicitDefEqProofs (disch := omega) only [VCA, pg_gl, ↓upd_none, Nat.reduceEqDiff, Nat.reduceBEq, Nat.reduceAdd, Nat.reduceSub, Nat.reduceMul, Nat.reduceLT, Nat.reduceLeDiff, ↓reduceIte, reduceCtorEq, rsOf, rootsOf, SOp.rd, SI.rd, SX.rd, rdL, rdO, rdP, okParts, eqCells, okEqCells, fillA, okFill, setAt, implies_true, forall_const, forall_eq, ne_eq, exists_eq_right_right, exists_eq_right, exists_eq_left, exists_eq_left', eInt, eBool, lit_eq, eDoc_len, eDoc_take, eDoc_drop, List.append_nil]
  intro r hr
  by_cases h1 : spanE d s = 0
  · obtain ⟨hz, ho⟩ := spanE_zero h1
    obtain ⟨hd, hp, hq⟩ := pointsE_zero hz
    have V := docE_DV hd
    have hl := V.len
    have bl := below_len V V.zero
    have hO := domOrder_ok (G := G) d V hd sm
    have hin := below_in V 0 V.zero
    rw [h1, if_pos rfl]
    have g6 : (upd h r (some ⟨124, 2, [eDoc d]⟩)) r = some ⟨124, 2, [eDoc d]⟩ := upd_same _ _ _
    have S6 : Sim.Sub h (upd h r (some ⟨124, 2, [eDoc d]⟩)) := (Sub.refl h).upd hr
    have hmem := fun n hn => (mem_below V (hin n hn) V.zero).1 hn
    refine Br.ne (fun hh => absurd rfl hh) (fun _ => ?_)
    simp -dsimp -implicitDefEqProofs (disch := omega) only [VCA, pg_gl, ↓upd_none, Nat.reduceEqDiff, Nat.reduceBEq, Nat.reduceAdd, Nat.reduceSub, Nat.reduceMul, Nat.reduceLT, Nat.reduceLeDiff, ↓reduceIte, reduceCtorEq, rsOf, rootsOf, SOp.rd, SI.rd, SX.rd, rdL, rdO, rdP, okParts, eqCells, okEqCells, fillA, okFill, setAt, implies_true, forall_const, forall_eq, ne_eq, exists_eq_right_right, exists_eq_right, exists_eq_left, exists_eq_left', eInt, eBool, lit_eq, eDoc_len, eDoc_take, eDoc_drop, List.append_nil]
    refine pcallE.of (hO) ?_; simp -dsimp -implicitDefEqProofs (disch := omega) only [VCA, pg_gl, ↓upd_none, Nat.reduceEqDiff, Nat.reduceBEq, Nat.reduceAdd, Nat.reduceSub, Nat.reduceMul, Nat.reduceLT, Nat.reduceLeDiff, ↓reduceIte, reduceCtorEq, rsOf, rootsOf, SOp.rd, SI.rd, SX.rd, rdL, rdO, rdP, okParts, eqCells, okEqCells, fillA, okFill, setAt, implies_true, forall_const, forall_eq, ne_eq, exists_eq_right_right, exists_eq_right, exists_eq_left, exists_eq_left', eInt, eBool, lit_eq, eDoc_len, eDoc_take, eDoc_drop, List.append_nil]
    generalize below d 0 = L at *
    refine LoopVC.intro (fun m e h' => ∃ k : Nat, k ≤ L.length ∧ m = L.length - k ∧ e 2 = .pin (eDoc d) ∧ e 3 = .pin (eS s) ∧ e 6 = .vp r 0 ∧ e 10 = .str (textS d s (L.take k)) ∧ e 27 = sl eInt L ∧ e 28 = aInt L.length ∧ e 29 = aInt k ∧ h' = upd h r (some ⟨124, 2, [eDoc d]⟩)) L.length ⟨0, by omega, by omega, rfl, rfl, rfl, rfl, rfl, rfl, rfl, by rfl⟩ ?_
    rintro m e h' ⟨k, hk, rfl, he2, he3, he6, he10, he27, he28, he29, rfl⟩
    simp -dsimp -implicitDefEqProofs (disch := omega) only [VCA, pg_gl, ↓upd_none, Nat.reduceEqDiff, Nat.reduceBEq, Nat.reduceAdd, Nat.reduceSub, Nat.reduceMul, Nat.reduceLT, Nat.reduceLeDiff, ↓reduceIte, reduceCtorEq, rsOf, rootsOf, SOp.rd, SI.rd, SX.rd, rdL, rdO, rdP, okParts, eqCells, okEqCells, fillA, okFill, setAt, implies_true, forall_const, forall_eq, ne_eq, exists_eq_right_right, exists_eq_right, exists_eq_left, exists_eq_left', eInt, eBool, lit_eq, he2, he3, he6, he10, he27, he28, he29]
    refine Br.dec (fun hlt => ?_) (fun hge => ?_)
    · have hk' : k < L.length := by omega
      have hm := nth_mem' hk'
      have hn := hin _ hm
      have n0 := hn.1
      have n1 := hn.2
      have e0 : nth d.nodes (nth L k).toNat = nd d (nth L k) := rfl
      have ht : textS d s (L.take (k + 1)) = textS d s (L.take k) ++ (if (nd d (nth L k)).kind = 3 then partM d (nth L k) s else []) := by
        unfold textS; rw [take_snoc hk', List.flatMap_append]; simp
      have eL := eDoc_len d
      have eT := eDoc_take d
      by_cases h3 : (nd d (nth L k)).kind = 3
      · have hP := part_ok (G := G) d V sm (nth L k) s hn (hmem _ hm) h3 hp hq ho
        rw [if_pos h3] at ht
        unfold eDoc at hP
        simp -dsimp -implicitDefEqProofs (disch := omega) only [VCA, pg_gl, ↓upd_none, Nat.reduceEqDiff, Nat.reduceBEq, Nat.reduceAdd, Nat.reduceSub, Nat.reduceMul, Nat.reduceLT, Nat.reduceLeDiff, ↓reduceIte, reduceCtorEq, rsOf, rootsOf, SOp.rd, SI.rd, SX.rd, rdL, rdO, rdP, okParts, eqCells, okEqCells, fillA, okFill, setAt, implies_true, forall_const, forall_eq, ne_eq, exists_eq_right_right, exists_eq_right, exists_eq_left, exists_eq_left', eInt, eBool, lit_eq, he2, he3, he6, he10, he27, he28, he29]
        repeat' (first | ((with_reducible refine Br.dec (fun _ => ?_) (fun _ => ?_)) <;> try (exfalso; omega)) | ((with_reducible refine Br.eq (fun _ => ?_) (fun _ => ?_)) <;> try (exfalso; omega)) | ((with_reducible refine Br.ne (fun _ => ?_) (fun _ => ?_)) <;> try (exfalso; omega)) | ((with_reducible refine brNdec (fun _ => ?_) (fun _ => ?_)) <;> try (exfalso; omega)) | ((with_reducible refine brNeq (fun _ => ?_) (fun _ => ?_)) <;> try (exfalso; omega)) | with_reducible refine Br.intro (fun _ => ?_) (fun _ => ?_) | (with_reducible apply pcallE.of; · exact hP) | (with_reducible refine And.intro ?_ ?_; · omega) | simp -dsimp -implicitDefEqProofs (disch := omega) only [VCA, pg_gl, ↓upd_none, Nat.reduceEqDiff, Nat.reduceBEq, Nat.reduceAdd, Nat.reduceSub, Nat.reduceMul, Nat.reduceLT, Nat.reduceLeDiff, ↓reduceIte, reduceCtorEq, rsOf, rootsOf, SOp.rd, SI.rd, SX.rd, rdL, rdO, rdP, okParts, eqCells, okEqCells, fillA, okFill, setAt, implies_true, forall_const, forall_eq, ne_eq, exists_eq_right_right, exists_eq_right, exists_eq_left, exists_eq_left', eInt, eBool, lit_eq, he2, he3, he6, he10, he27, he28, he29, upd_same, eDoc, eNode, e0, h3, eS_len, eS_take])
        have t1 := textS_len V s (L.take k) (fun m hm => hin m (List.mem_of_mem_take hm))
        rw [List.length_take] at t1
        have t2 := partM_len V s hn
        exact ⟨by omega, _, by omega, k + 1, by omega, rfl, ht.symm, by omega⟩
      · rw [if_neg h3, List.append_nil] at ht
        simp -dsimp -implicitDefEqProofs (disch := omega) only [VCA, pg_gl, ↓upd_none, Nat.reduceEqDiff, Nat.reduceBEq, Nat.reduceAdd, Nat.reduceSub, Nat.reduceMul, Nat.reduceLT, Nat.reduceLeDiff, ↓reduceIte, reduceCtorEq, rsOf, rootsOf, SOp.rd, SI.rd, SX.rd, rdL, rdO, rdP, okParts, eqCells, okEqCells, fillA, okFill, setAt, implies_true, forall_const, forall_eq, ne_eq, exists_eq_right_right, exists_eq_right, exists_eq_left, exists_eq_left', eInt, eBool, lit_eq, he2, he3, he6, he10, he27, he28, he29]
        repeat' (first | ((with_reducible refine Br.dec (fun _ => ?_) (fun _ => ?_)) <;> try (exfalso; omega)) | ((with_reducible refine Br.eq (fun _ => ?_) (fun _ => ?_)) <;> try (exfalso; omega)) | ((with_reducible refine Br.ne (fun _ => ?_) (fun _ => ?_)) <;> try (exfalso; omega)) | ((with_reducible refine brNdec (fun _ => ?_) (fun _ => ?_)) <;> try (exfalso; omega)) | ((with_reducible refine brNeq (fun _ => ?_) (fun _ => ?_)) <;> try (exfalso; omega)) | with_reducible refine Br.intro (fun _ => ?_) (fun _ => ?_) | (with_reducible refine And.intro ?_ ?_; · omega) | simp -dsimp -implicitDefEqProofs (disch := omega) only [VCA, pg_gl, ↓upd_none, Nat.reduceEqDiff, Nat.reduceBEq, Nat.reduceAdd, Nat.reduceSub, Nat.reduceMul, Nat.reduceLT, Nat.reduceLeDiff, ↓reduceIte, reduceCtorEq, rsOf, rootsOf, SOp.rd, SI.rd, SX.rd, rdL, rdO, rdP, okParts, eqCells, okEqCells, fillA, okFill, setAt, implies_true, forall_const, forall_eq, ne_eq, exists_eq_right_right, exists_eq_right, exists_eq_left, exists_eq_left', eInt, eBool, lit_eq, he2, he3, he6, he10, he27, he28, he29, eDoc, eNode, e0, h3])
        exact ⟨_, by omega, k + 1, by omega, rfl, ht.symm, by omega⟩
    · obtain rfl : k = L.length := by omega
      rw [List.take_length] at he10
      simp -dsimp -implicitDefEqProofs (disch := omega) only [VCA, pg_gl, ↓upd_none, Nat.reduceEqDiff, Nat.reduceBEq, Nat.reduceAdd, Nat.reduceSub, Nat.reduceMul, Nat.reduceLT, Nat.reduceLeDiff, ↓reduceIte, reduceCtorEq, rsOf, rootsOf, SOp.rd, SI.rd, SX.rd, rdL, rdO, rdP, okParts, eqCells, okEqCells, fillA, okFill, setAt, implies_true, forall_const, forall_eq, ne_eq, exists_eq_right_right, exists_eq_right, exists_eq_left, exists_eq_left', eInt, eBool, lit_eq, he10]
      exact S6
  · repeat' (first | ((with_reducible refine Br.dec (fun _ => ?_) (fun _ => ?_)) <;> try (exfalso; omega)) | ((with_reducible refine Br.eq (fun _ => ?_) (fun _ => ?_)) <;> try (exfalso; omega)) | ((with_reducible refine Br.ne (fun _ => ?_) (fun _ => ?_)) <;> try (exfalso; omega)) | ((with_reducible refine brNdec (fun _ => ?_) (fun _ => ?_)) <;> try (exfalso; omega)) | ((with_reducible refine brNeq (fun _ => ?_) (fun _ => ?_)) <;> try (exfalso; omega)) | with_reducible refine Br.intro (fun _ => ?_) (fun _ => ?_) | (with_reducible refine And.intro ?_ ?_; · omega) | simp -dsimp -implicitDefEqProofs (disch := omega) only [VCA, pg_gl, ↓upd_none, Nat.reduceEqDiff, Nat.reduceBEq, Nat.reduceAdd, Nat.reduceSub, Nat.reduceMul, Nat.reduceLT, Nat.reduceLeDiff, ↓reduceIte, reduceCtorEq, rsOf, rootsOf, SOp.rd, SI.rd, SX.rd, rdL, rdO, rdP, okParts, eqCells, okEqCells, fillA, okFill, setAt, implies_true, forall_const, forall_eq, ne_eq, exists_eq_right_right, exists_eq_right, exists_eq_left, exists_eq_left', eInt, eBool, lit_eq, h1, upd_same, eDoc_len, eDoc_take, eDoc_drop, List.append_nil])
    exact (Sub.refl h).upd hr
end Go.Proofs.K
end
section
/- Ranges: text, plain law: node by node, or mark by mark. -/
set_option linter.unusedSimpArgs false
set_option linter.unusedVariables false
namespace Go.Proofs.K
open Go Go.Sim Go.Proofs
section
variable {d : HDoc}
theorem marks_ctx (V : DV d) {n : Int} {A B : List Int} (c : Ctx d n A B) : ∃ X Y, marks d 0 = X ++ (marks d n ++ Y) := by
  induction c with
  | root => exact ⟨[], [], by simp⟩
  | @kid n k A B K1 K2 c hk ih =>
    obtain ⟨X, Y, e⟩ := ih
    have hn := ctx_inD V c
    have hi : K1.length < (nd d n).kids.length := by rw [hk]; simp
    have hki : nth (nd d n).kids K1.length = k := by rw [hk]; simp [nth, List.getD_eq_getElem?_getD]
    obtain ⟨R1, R2, hR⟩ := List.append_of_mem (List.mem_range.2 hi)
    rw [marks_eq V hn, hR, List.flatMap_append, List.flatMap_cons, hki] at e
    exact ⟨_, _, by rw [e]; simp only [List.append_assoc, List.cons_append]; rw [← List.cons_append, ← List.append_assoc, ← List.append_assoc]⟩
theorem cmpI_cases (a b : Int) : (cmpI a b = -1 ∧ a < b) ∨ (cmpI a b = 0 ∧ a = b) ∨ (cmpI a b = 1 ∧ b < a) := by
  unfold cmpI
  by_cases h1 : a < b
  · rw [if_pos h1]; exact .inl ⟨rfl, h1⟩
  · rw [if_neg h1]
    by_cases h2 : b < a
    · rw [if_pos h2]; exact .inr (.inr ⟨rfl, h2⟩)
    · rw [if_neg h2]; exact .inr (.inl ⟨rfl, by omega⟩)
end
end Go.Proofs.K
end
section
/- Ranges: text, mark by mark: plain law. -/
set_option linter.unusedSimpArgs false
set_option linter.unusedVariables false
namespace Go.Proofs.K
open Go Go.Sim Go.Proofs
theorem split_nth {α : Type} [Inhabited α] {l : List α} {k : Nat} (hk : k < l.length) : l = l.take k ++ nth l k :: l.drop (k + 1) := by
  have : nth l k = l[k] := by unfold nth; rw [List.getD_eq_getElem?_getD, List.getElem?_eq_getElem hk]; rfl
  rw [this, List.getElem_cons_drop, List.take_append_drop]
section
variable {d : HDoc}
/-- in a list of marks a node's place -/
theorem marks_node (V : DV d) : ∀ n, inD d n → ∀ p ∈ marks d n, p.node ∈ below d n ∧ 0 ≤ p.at' ∧ p.at' ≤ roomM d p.node := V.down fun n hn ih p hp => by
  have hsp := node_split V hn
  rw [marks_eq V hn] at hp
  rcases List.mem_cons.1 hp with rfl | hp
  · exact ⟨below_self V hn, by simp, by simp⟩
  · rcases List.mem_append.1 hp with hp | hp
    · obtain ⟨i, hi, hp⟩ := List.mem_flatMap.1 hp
      have hi := List.mem_range.1 hi
      rcases List.mem_append.1 hp with hp | hp
      · obtain ⟨h1, h2⟩ := ih _ (nth_mem' hi) p hp
        exact ⟨by rw [below_eq V hn]; exact List.mem_cons_of_mem _ (List.mem_flatMap.2 ⟨_, nth_mem' hi, h1⟩), h2⟩
      · simp only [List.mem_singleton] at hp; subst hp
        refine ⟨below_self V hn, by simp; omega, ?_⟩
        rcases hsp with ⟨h, _⟩ | ⟨_, h, _⟩
        · rw [h] at hi; simp at hi
        · simp only; omega
    · obtain ⟨i, hi, rfl⟩ := List.mem_map.1 hp
      have hi := List.mem_range.1 hi
      refine ⟨below_self V hn, by simp; omega, ?_⟩
      rcases hsp with ⟨_, h⟩ | ⟨h, _⟩
      · simp only; omega
      · rw [h] at hi; simp at hi
end
end Go.Proofs.K
end
section
/- Ranges: the reference's text; short documents. -/
set_option linter.unusedSimpArgs false
set_option linter.unusedVariables false
namespace Go.Proofs.K
open Go Go.Sim Go.Proofs
variable {G : Glob}
end Go.Proofs.K
end
section
/- Edits of documents: what becomes of a document; whether it is still right. Plain law. -/
set_option linter.unusedSimpArgs false
set_option linter.unusedVariables false
namespace Go.Proofs.K
open Go Go.Sim Go.Proofs
/-! ## a node set -/
section
variable {d : HDoc}
/-! ## how deep, by parents alone -/
theorem upF_congr {d' : HDoc} (V : DV d) (h : ∀ m, inD d m → (nd d' m).parent = (nd d m).parent) : ∀ (f : Nat) (n : Int), inD d n → upF f d' n = upF f d n
  | 0, _, _ => rfl
  | f + 1, n, hn => by
    unfold upF
    rw [h n hn]
    by_cases hp : 0 ≤ (nd d n).parent
    · rw [if_pos hp, if_pos hp, upF_congr V h f _ (V.par_in hn hp).1]
    · rw [if_neg hp, if_neg hp]
/-! ## a node more -/
def addN (d : HDoc) (x : HNode) : HDoc := ⟨d.nodes ++ [x], d.quirks⟩
theorem addN_len (x : HNode) : (addN d x).nodes.length = d.nodes.length + 1 := by simp [addN]
theorem nd_addN {x : HNode} {m : Int} (hm : inD d m) : nd (addN d x) m = nd d m := by
  have h := hm.nat
  unfold nd addN nth
  rw [List.getD_eq_getElem?_getD, List.getD_eq_getElem?_getD, List.getElem?_append_left h.1]
theorem nd_addN_new (x : HNode) : nd (addN d x) (d.nodes.length : Int) = x := by
  unfold nd addN nth
  rw [List.getD_eq_getElem?_getD]; simp
theorem inD_addN {x : HNode} {m : Int} : inD (addN d x) m ↔ inD d m ∨ m = d.nodes.length := by unfold inD; rw [addN_len]; omega
theorem up_addN (V : DV d) {x : HNode} {m : Int} (hm : inD d m) : up (addN d x) m = up d m := by
  have h1 : upF (d.nodes.length + 1 + 1) (addN d x) m = upF (d.nodes.length + 1 + 1) d m := upF_congr V (fun k hk => by rw [nd_addN hk]) _ m hm
  have h2 : up (addN d x) m = upF (d.nodes.length + 1 + 1) (addN d x) m := by unfold up; rw [addN_len]
  rw [h2, h1]
  have h3 := V.fin m hm
  exact upF_mono (f := d.nodes.length + 1) (by unfold up at h3; omega) (by omega)
theorem DV.add (V : DV d) {x : HNode} (hp : x.parent = -1) (hc : x.kids = []) (h1 : x.kind ≠ 1) : DV (addN d x) ↔ nodeE x = 0 ∧ d.nodes.length < 200 := by
  have new := nd_addN_new (d := d) x
  have inew : inD (addN d x) (d.nodes.length : Int) := inD_addN.2 (.inr rfl)
  constructor
  · intro W
    have h2 := W.node _ inew
    have h3 := W.len
    rw [new] at h2
    rw [addN_len] at h3
    exact ⟨h2, by omega⟩
  · rintro ⟨hx, hl⟩
    have z := V.pos
    have upn : up (addN d x) (d.nodes.length : Int) = 0 := by
      unfold up upF
      rw [new, if_neg (by omega)]
    refine ⟨by rw [addN_len]; omega, by rw [addN_len]; omega, fun m hm => ?_, fun m hm => ?_, fun m hm k hk' => ?_, fun m hm => ?_, fun k hk' => ?_, fun m hm => ?_, ?_, fun m hm => ?_, fun m hm => ?_⟩
    · rcases inD_addN.1 hm with hm | rfl
      · rw [nd_addN hm]; exact V.kind m hm
      · rw [new]; constructor
        · intro h; exact absurd h h1
        · intro h; omega
    · rcases inD_addN.1 hm with hm | rfl
      · rw [nd_addN hm]; exact V.node m hm
      · rw [new]; exact hx
    · rcases inD_addN.1 hm with hm | rfl
      · rw [nd_addN hm] at hk'
        obtain ⟨g1, g2⟩ := V.kid m hm k hk'
        exact ⟨inD_addN.2 (.inl g1), by rw [nd_addN g1]; exact g2⟩
      · rw [new, hc] at hk'; cases hk'
    · rcases inD_addN.1 hm with hm | rfl
      · rw [nd_addN hm]; exact V.nodup m hm
      · rw [new, hc]; exact .nil
    · rw [nd_addN V.zero] at hk'
      rw [nd_addN (V.kid 0 V.zero k hk').1]; exact V.top k hk'
    · rcases inD_addN.1 hm with hm | rfl
      · rw [nd_addN hm]
        rcases V.par m hm with h | ⟨g1, g2⟩
        · exact .inl h
        · exact .inr ⟨inD_addN.2 (.inl g1), by rw [nd_addN g1]; exact g2⟩
      · rw [new]; exact .inl hp
    · rw [nd_addN V.zero]; exact V.root
    · rcases inD_addN.1 hm with hm | rfl
      · rw [up_addN V hm, addN_len]; have := V.fin m hm; omega
      · rw [upn]; omega
    · rcases inD_addN.1 hm with hm | rfl
      · rw [up_addN V hm]; exact V.deep m hm
      · rw [upn]; omega
/-! ## a node hung up -/
section
variable {a t : Int} {i : Nat}
end
/-! ## a node taken away -/
section
variable {n : Int} {i : Nat}
end
end
end Go.Proofs.K
end
section
/- Edits of documents: what they do, and what is wrong with them: plain law. -/
set_option linter.unusedSimpArgs false
set_option linter.unusedVariables false
namespace Go.Proofs.K
open Go Go.Sim Go.Proofs
structure HEdit where
  do' : Int
  at' : Int
  to : Int
  before : Int
  name : List UInt8
  value : List UInt8
  node : HNode
deriving DecidableEq, Inhabited
def eEdit (e : HEdit) : List AVal := [aInt e.do', aInt e.at', aInt e.to, aInt e.before, .str e.name, .str e.value, aInt e.node.kind, .str e.node.name, sl eAttr e.node.attrs, .str e.node.text, aInt e.node.parent, sl eInt e.node.kids]
instance : LenE eEdit 12 := ⟨fun _ => rfl⟩
structure EditSm (e : HEdit) : Prop where
  name : e.name.length ≤ 1073741824
  value : e.value.length ≤ 1073741824
  node : NodeSm e.node
/-! ## attributes -/
theorem nodeE_iff (x : HNode) : nodeE x = 0 ↔ (1 ≤ x.kind ∧ x.kind ≤ 5) ∧ bareM x = true ∧ (x.kind = 2 → nameOK true x.name = true) ∧ attrsE x.attrs = 0 ∧ x.text.length ≤ 400 ∧ x.name.length ≤ 400 := by
  unfold nodeE
  constructor
  · intro h
    split at h
    · omega
    · rename_i h1
      simp only [not_or] at h1
      split at h
      · omega
      · rename_i h2
        split at h
        · rename_i h3; exact absurd h h3
        · rename_i h3
          split at h
          · omega
          · rename_i h4
            refine ⟨by omega, by simpa using h1.2.2, fun h5 => ?_, by simpa using h3, by omega, by omega⟩
            cases hn : nameOK true x.name with
            | true => rfl
            | false => exact absurd ⟨h5, hn⟩ h2
  · rintro ⟨h1, h2, h3, h4, h5, h6⟩
    rw [if_neg (by rw [h2]; simp; omega), if_neg (by rintro ⟨h7, h8⟩; rw [h3 h7] at h8; cases h8), if_neg (by simpa using h4), if_neg (by omega)]
/-! ## how far what lies below a node goes -/
section
variable {d : HDoc}
end
/-! ## the edits -/
section
variable {d : HDoc}
end
end Go.Proofs.K
end
section
/- Ranges: short documents; what is cut. -/
set_option linter.unusedSimpArgs false
set_option linter.unusedVariables false
namespace Go.Proofs.K
open Go Go.Sim Go.Proofs
variable {G : Glob}
def c42 : SFun := ⟨(.seq (.reg [⟨(some 4), (.mv (.c (.str []))), none⟩]) (.seq (.reg [⟨(some 5), (.mv (.t 0)), none⟩, ⟨(some 6), (.mv (.t 0)), none⟩, ⟨(some 7), (.lenS (.t 6)), none⟩, ⟨(some 8), (.mv (.t 1)), none⟩, ⟨(some 9), (.min2 (.t 7) (.t 8)), none⟩, ⟨(some 10), (.slS (.t 5) none (some (.t 9))), none⟩, ⟨(some 4), (.mv (.t 10)), none⟩]) .ret)), [(.tmp 4)]⟩
theorem hc42 : toSF Tryd.prog {} Tryd.f42 = some c42 := by kernel_rfl
theorem hn42 : (Tryd.f42.name == "runtime.NumGoroutine") = false := by kernel_rfl
theorem someS_ok (s : List UInt8) (n : Nat) (hs : s.length ≤ 1073741824) : PCalls (Pg G) 42 [.str s, aInt n] (.str (s.take n)) := fun h => by
  refine dcalls_of_vc Tryd.func42 hn42 hc42 (by rw [Tryd.ntmps42]; simp) (by rw [Tryd.ntmps42]; decide) ?_
  have e1 : (min (s.length : Int) (n : Int)).toNat = min s.length n := by omega
  simp -dsimp -implicitDefEqProofs (disch := omega) only [VCA, pg_gl, ↓upd_none, Nat.reduceEqDiff, Nat.reduceBEq, Nat.reduceAdd, Nat.reduceSub, Nat.reduceMul, Nat.reduceLT, Nat.reduceLeDiff, ↓reduceIte, reduceCtorEq, rsOf, rootsOf, SOp.rd, SI.rd, SX.rd, rdL, rdO, rdP, okParts, eqCells, okEqCells, fillA, okFill, setAt, implies_true, forall_const, forall_eq, ne_eq, exists_eq_right_right, exists_eq_right, exists_eq_left, exists_eq_left', eInt, eBool, lit_eq, c42, e1]
  refine ⟨by omega, Sub.refl _, ?_⟩
  rcases Nat.le_total s.length n with h | h
  · rw [Nat.min_eq_left h, List.take_of_length_le (Nat.le_refl _), List.take_of_length_le h]
  · rw [Nat.min_eq_right h]
def briefN (x : HNode) : HNode := { x with text := x.text.take 30 }
def briefM (d : HDoc) : HDoc := ⟨(d.nodes.take 25).map briefN, d.quirks⟩
theorem drop_consN {α : Type} [Inhabited α] {l : List α} {i : Nat} (h : i < l.length) : l.drop i = nth l i :: l.drop (i + 1) := by
  have : nth l i = l[i] := by unfold nth; rw [List.getD_eq_getElem?_getD, List.getElem?_eq_getElem h]; rfl
  rw [this, List.getElem_cons_drop]
def c31 : SFun := ⟨(.seq (.reg [⟨(some 1), (.box 24 2 (.t 0)), none⟩, ⟨(some 2), (.new 24 2 [.emp, (.bool false)]), none⟩]) (.seq (.reg [⟨(some 5), (.ld 2 true (.t 1)), none⟩, ⟨(some 6), (.pcall 15 [(.t 5), (.c (.int .i64 (25)))]), none⟩, ⟨none, (.st 2 (.t 1) (.t 6)), none⟩]) (.seq (.reg [⟨(some 7), (.bldF 43 6 []), none⟩, ⟨(some 8), (.fldA 0 (.t 1)), none⟩, ⟨(some 9), (.ld 1 false (.t 8)), none⟩, ⟨(some 10), (.app 43 6 96 (.t 7) (.t 9)), none⟩, ⟨(some 3), (.mv (.t 10)), none⟩]) (.seq (.seq (.reg [⟨(some 4), (.mv (.c (.int .i64 (0)))), none⟩]) (.block 0 (.loop (.seq (.seq (.reg [⟨(some 11), (.mv (.t 4)), none⟩, ⟨(some 12), (.mv (.t 3)), none⟩, ⟨(some 13), (.len (.t 12)), none⟩, ⟨(some 14), (.bin .lss (.t 11) (.t 13)), none⟩]) (.cond (.t 14) .skip (.exit 0))) (.seq (.block 1 (.reg [⟨(some 17), (.mv (.t 3)), none⟩, ⟨(some 18), (.mv (.t 4)), none⟩, ⟨(some 19), (.mv (.t 3)), none⟩, ⟨(some 20), (.mv (.t 4)), none⟩, ⟨(some 21), (.idxA 6 (.t 19) (.t 20)), none⟩, ⟨(some 22), (.fldA 3 (.t 21)), none⟩, ⟨(some 23), (.ld 1 false (.t 22)), none⟩, ⟨(some 24), (.pcall 42 [(.t 23), (.c (.int .i64 (30)))]), none⟩, ⟨(some 25), (.idxA 6 (.t 17) (.t 18)), none⟩, ⟨(some 26), (.fldA 3 (.t 25)), none⟩, ⟨none, (.st 1 (.t 26) (.t 24)), none⟩])) (.reg [⟨(some 15), (.mv (.t 4)), none⟩, ⟨(some 16), (.bin .add (.t 15) (.c (.int .i64 (1)))), none⟩, ⟨(some 4), (.mv (.t 16)), none⟩])))))) (.seq (.reg [⟨(some 27), (.mv (.t 3)), none⟩, ⟨(some 28), (.fldA 0 (.t 1)), none⟩, ⟨none, (.st 1 (.t 28) (.t 27)), none⟩]) (.seq (.reg [⟨(some 29), (.ld 2 true (.t 1)), none⟩, ⟨none, (.st 2 (.t 2) (.t 29)), none⟩]) .ret)))))), [(.cell 2 2 true)]⟩
theorem hc31 : toSF Tryd.prog {pure := [15, 42], how := [(1, 6)]} Tryd.f31 = some c31 := by kernel_rfl
theorem hn31 : (Tryd.f31.name == "runtime.NumGoroutine") = false := by kernel_rfl
theorem brief_ok (d : HDoc) (sm : DocSm d) : PCalls (Pg G) 31 [.agg (eDoc d)] (.agg (eDoc (briefM d))) := PCalls.outV fun h => by
  have hF : PCalls (Pg G) 15 [.agg (eDoc d), .int .i64 25] (.agg (eDoc ⟨d.nodes.take 25, d.quirks⟩)) := few_ok (G := G) d 25 sm
  refine dcalls_of_vc Tryd.func31 hn31 hc31 (by rw [Tryd.ntmps31]; simp) (by rw [Tryd.ntmps31]; decide) ?_
  simp -dsimp -implicitDefEqProofs (disch := omega) only [VCA, pg_gl, ↓upd_none, Nat.reduceEqDiff, Nat.reduceBEq, Nat.reduceAdd, Nat.reduceSub, Nat.reduceMul, Nat.reduceLT, Nat.reduceLeDiff, ↓reduceIte, reduceCtorEq, rsOf, rootsOf, SOp.rd, SI.rd, SX.rd, rdL, rdO, rdP, okParts, eqCells, okEqCells, fillA, okFill, setAt, implies_true, forall_const, forall_eq, ne_eq, exists_eq_right_right, exists_eq_right, exists_eq_left, exists_eq_left', eInt, eBool, lit_eq, c31, eDoc_len, eDoc_take, eDoc_drop, List.append_nil]
  intro r1 h1 r2 h2
  have n12 : ¬ r1 = r2 := fun e => h2.1 e.symm
  have n21 : ¬ r2 = r1 := h2.1
  simp -dsimp -implicitDefEqProofs (disch := omega) only [VCA, pg_gl, ↓upd_none, Nat.reduceEqDiff, Nat.reduceBEq, Nat.reduceAdd, Nat.reduceSub, Nat.reduceMul, Nat.reduceLT, Nat.reduceLeDiff, ↓reduceIte, reduceCtorEq, rsOf, rootsOf, SOp.rd, SI.rd, SX.rd, rdL, rdO, rdP, okParts, eqCells, okEqCells, fillA, okFill, setAt, implies_true, forall_const, forall_eq, ne_eq, exists_eq_right_right, exists_eq_right, exists_eq_left, exists_eq_left', eInt, eBool, lit_eq, eDoc_len, eDoc_take, eDoc_drop, List.append_nil, n12, n21]
  refine pcallE.of (hF) ?_; simp -dsimp -implicitDefEqProofs (disch := omega) only [VCA, pg_gl, ↓upd_none, Nat.reduceEqDiff, Nat.reduceBEq, Nat.reduceAdd, Nat.reduceSub, Nat.reduceMul, Nat.reduceLT, Nat.reduceLeDiff, ↓reduceIte, reduceCtorEq, rsOf, rootsOf, SOp.rd, SI.rd, SX.rd, rdL, rdO, rdP, okParts, eqCells, okEqCells, fillA, okFill, setAt, implies_true, forall_const, forall_eq, ne_eq, exists_eq_right_right, exists_eq_right, exists_eq_left, exists_eq_left', eInt, eBool, lit_eq, eDoc_len, eDoc_take, eDoc_drop, List.append_nil, n12, n21, upd_same]
  simp -dsimp -implicitDefEqProofs (disch := omega) only [VCA, pg_gl, ↓upd_none, Nat.reduceEqDiff, Nat.reduceBEq, Nat.reduceAdd, Nat.reduceSub, Nat.reduceMul, Nat.reduceLT, Nat.reduceLeDiff, ↓reduceIte, reduceCtorEq, rsOf, rootsOf, SOp.rd, SI.rd, SX.rd, rdL, rdO, rdP, okParts, eqCells, okEqCells, fillA, okFill, setAt, implies_true, forall_const, forall_eq, ne_eq, exists_eq_right_right, exists_eq_right, exists_eq_left, exists_eq_left', eInt, eBool, lit_eq, eDoc, n12, n21, upd_same]
  have fl : (d.nodes.take 25).length ≤ 25 := by rw [List.length_take]; omega
  have fsm : ∀ x ∈ d.nodes.take 25, x.text.length ≤ 1073741824 := fun x hx => (sm.each x (List.mem_of_mem_take hx)).text
  have hbm : (briefM d).nodes = (d.nodes.take 25).map briefN := rfl
  have hbq : (briefM d).quirks = d.quirks := rfl
  generalize d.nodes.take 25 = L at *
  refine ⟨by omega, by omega, fun r ⟨_, n2, n1, hr⟩ => ?_⟩
  have m1 : ¬ r1 = r := fun e => n1 e.symm
  have m2 : ¬ r2 = r := fun e => n2 e.symm
  refine LoopVC.intro (fun m e h' => ∃ k : Nat, k ≤ L.length ∧ m = L.length - k ∧ e 1 = .vp r1 0 ∧ e 2 = .vp r2 0 ∧ e 3 = .osl r 6 0 L.length ∧ e 4 = aInt k ∧ h' r1 = some ⟨24, 2, [[sl eNode L, .bool d.quirks]]⟩ ∧ h' r2 = some ⟨24, 2, [[.emp, .bool false]]⟩ ∧ h' r = some ⟨43, 6, ((L.take k).map briefN ++ L.drop k).map eNode⟩ ∧ Sim.Sub h h') L.length ⟨0, by omega, by omega, rfl, rfl, rfl, rfl, ?_, ?_, ?_, ?_⟩ ?_
  · simp [upd, n12, m1]
  · simp [upd, n21, m2]
  · simp [upd]
  · exact (((Sub.refl h).upd h1).upd h2.2).upd h1 |>.upd hr
  rintro m e h' ⟨k, hk, rfl, he1, he2, he3, he4, g1, g2, g, S⟩
  simp -dsimp -implicitDefEqProofs (disch := omega) only [VCA, pg_gl, ↓upd_none, Nat.reduceEqDiff, Nat.reduceBEq, Nat.reduceAdd, Nat.reduceSub, Nat.reduceMul, Nat.reduceLT, Nat.reduceLeDiff, ↓reduceIte, reduceCtorEq, rsOf, rootsOf, SOp.rd, SI.rd, SX.rd, rdL, rdO, rdP, okParts, eqCells, okEqCells, fillA, okFill, setAt, implies_true, forall_const, forall_eq, ne_eq, exists_eq_right_right, exists_eq_right, exists_eq_left, exists_eq_left', eInt, eBool, lit_eq, he1, he2, he3, he4, g, n1, n2, m1, m2]
  refine Br.dec (fun hlt => ?_) (fun hge => ?_)
  · have hk' : k < L.length := by omega
    have hM : k < ((L.take k).map briefN ++ L.drop k).length := by simp; omega
    have hN : nth ((L.take k).map briefN ++ L.drop k) k = nth L k := by
      unfold nth
      rw [List.getD_eq_getElem?_getD, List.getElem?_append_right (by simp; omega)]
      simp [Nat.min_eq_left hk, List.getD_eq_getElem?_getD]
    have hS : ((L.take k).map briefN ++ L.drop k).set k (briefN (nth L k)) = (L.take (k + 1)).map briefN ++ L.drop (k + 1) := by
      rw [List.set_append_right _ _ (by simp; omega)]
      have e1 : k - (List.map briefN (List.take k L)).length = 0 := by simp; omega
      rw [e1, drop_consN hk', take_snoc hk']
      simp
    have gk : (((L.take k).map briefN ++ L.drop k).map eNode).getD k [] = eNode (nth L k) := by rw [getD_map_enc hM, hN]
    have hO : PCalls (Pg G) 42 [.str (nth L k).text, .int .i64 30] (.str (briefN (nth L k)).text) := someS_ok (G := G) (nth L k).text 30 (fsm _ (nth_mem' hk'))
    generalize hMM : (L.take k).map briefN ++ L.drop k = M at *
    have g' : h' r = some ⟨43, 6, M.map eNode⟩ := g
    repeat' (first | ((with_reducible refine Br.dec (fun _ => ?_) (fun _ => ?_)) <;> try (exfalso; omega)) | ((with_reducible refine Br.eq (fun _ => ?_) (fun _ => ?_)) <;> try (exfalso; omega)) | ((with_reducible refine Br.ne (fun _ => ?_) (fun _ => ?_)) <;> try (exfalso; omega)) | ((with_reducible refine brNdec (fun _ => ?_) (fun _ => ?_)) <;> try (exfalso; omega)) | ((with_reducible refine brNeq (fun _ => ?_) (fun _ => ?_)) <;> try (exfalso; omega)) | with_reducible refine Br.intro (fun _ => ?_) (fun _ => ?_) | (with_reducible apply pcallE.of; · exact hO) | (with_reducible refine And.intro ?_ ?_; · omega) | simp -dsimp -implicitDefEqProofs (disch := omega) only [VCA, pg_gl, ↓upd_none, Nat.reduceEqDiff, Nat.reduceBEq, Nat.reduceAdd, Nat.reduceSub, Nat.reduceMul, Nat.reduceLT, Nat.reduceLeDiff, ↓reduceIte, reduceCtorEq, rsOf, rootsOf, SOp.rd, SI.rd, SX.rd, rdL, rdO, rdP, okParts, eqCells, okEqCells, fillA, okFill, setAt, implies_true, forall_const, forall_eq, ne_eq, exists_eq_right_right, exists_eq_right, exists_eq_left, exists_eq_left', eInt, eBool, lit_eq, he1, he2, he3, he4, g, gk, eNode, n1, n2, m1, m2, upd_same])
    exact ⟨_, by omega, k + 1, by omega, rfl, by omega, g1, g2, by rw [← hS, List.map_set]; rfl, S.upd hr⟩
  · obtain rfl : k = L.length := by omega
    rw [List.take_length, List.drop_length, List.append_nil] at g
    simp -dsimp -implicitDefEqProofs (disch := omega) only [VCA, pg_gl, ↓upd_none, Nat.reduceEqDiff, Nat.reduceBEq, Nat.reduceAdd, Nat.reduceSub, Nat.reduceMul, Nat.reduceLT, Nat.reduceLeDiff, ↓reduceIte, reduceCtorEq, rsOf, rootsOf, SOp.rd, SI.rd, SX.rd, rdL, rdO, rdP, okParts, eqCells, okEqCells, fillA, okFill, setAt, implies_true, forall_const, forall_eq, ne_eq, exists_eq_right_right, exists_eq_right, exists_eq_left, exists_eq_left', eInt, eBool, lit_eq, he1, he2, he3, he4, g, g1, g2, n1, n2, m1, m2, n12, n21]
    refine ⟨_, Sub.refl _, (S.upd h1).upd h2.2, .one _ _ (Vw.agg' (.cons ?_ (.cons (.refl _) .nil)))⟩
    refine Vw.osl0 (o := ⟨43, 6, (L.map briefN).map eNode⟩) (by rw [newH_none hr]; simp [upd, n1, n2, g]) (by simp [hbm]) (by simp) (fun f hf => ?_) ?_
    · obtain ⟨x, _, rfl⟩ := List.mem_map.1 hf; rfl
    · rw [List.take_of_length_le (by simp), hbm]
      exact F2.refl (fun e => F2.refl (fun _ => .refl _) e) _
theorem briefM_sm {d : HDoc} (sm : DocSm d) : DocSm (briefM d) := ⟨by
    have := sm.len
    show ((d.nodes.take 25).map briefN).length ≤ _
    rw [List.length_map, List.length_take]; omega, fun x hx => by
    obtain ⟨y, hy, rfl⟩ := List.mem_map.1 hx
    have h := sm.each y (List.mem_of_mem_take hy)
    exact ⟨h.name, h.attrs, h.each, by show (y.text.take 30).length ≤ _; rw [List.length_take]; have := h.text; omega, h.kids⟩⟩
end Go.Proofs.K
end
section
/- Ranges: what is cut: contracts. -/
set_option linter.unusedSimpArgs false
set_option linter.unusedVariables false
namespace Go.Proofs.K
open Go Go.Sim Go.Proofs
variable {G : Glob}
def c123 : SFun := ⟨(.seq (.reg [⟨(some 3), (.boxF 124 2 (.t 0)), none⟩, ⟨(some 6), (.mv (.c (.bool false))), none⟩]) (.seq (.block 0 (.loop (.seq (.seq (.reg [⟨(some 7), (.mv (.t 1)), none⟩, ⟨(some 8), (.bin .geq (.t 7) (.c (.int .i64 (0)))), none⟩, ⟨(some 9), (.mv (.t 8)), none⟩, ⟨(some 10), (.mv (.t 1)), (some (9, true))⟩, ⟨(some 11), (.mv (.t 2)), (some (9, true))⟩, ⟨(some 12), (.bin .neq (.t 10) (.t 11)), (some (9, true))⟩, ⟨(some 13), (.pick (.t 9) (.t 12) (.c (.bool false))), none⟩]) (.cond (.t 13) .skip (.exit 0))) (.block 1 (.reg [⟨(some 14), (.fldA 0 (.t 3)), none⟩, ⟨(some 15), (.fldA 0 (.t 14)), none⟩, ⟨(some 16), (.ld 1 false (.t 15)), none⟩, ⟨(some 17), (.mv (.t 1)), none⟩, ⟨(some 18), (.idxA 6 (.t 16) (.t 17)), none⟩, ⟨(some 19), (.fldA 4 (.t 18)), none⟩, ⟨(some 20), (.ld 1 false (.t 19)), none⟩, ⟨(some 1), (.mv (.t 20)), none⟩]))))) (.seq (.reg [⟨(some 21), (.mv (.t 1)), none⟩, ⟨(some 22), (.mv (.t 2)), none⟩, ⟨(some 23), (.bin .eql (.t 21) (.t 22)), none⟩, ⟨(some 6), (.mv (.t 23)), none⟩]) .ret))), [(.tmp 6)]⟩
theorem hc123 : toSF Tryd.prog {} Tryd.f123 = some c123 := by kernel_rfl
theorem hn123 : (Tryd.f123.name == "runtime.NumGoroutine") = false := by kernel_rfl
theorem rwithin_ok (d : HDoc) (V : DV d) (n top : Int) (hn : inD d n) (ht : 0 ≤ top) : PCalls (Pg G) 123 [.agg (eDoc d), aInt n, aInt top] (.bool (decide (top ∈ chain d n))) := fun h => by
  have hl := V.len
  refine dcalls_of_vc Tryd.func123 hn123 hc123 (by rw [Tryd.ntmps123]; simp) (by rw [Tryd.ntmps123]; decide) ?_
  simp -dsimp -implicitDefEqProofs (disch := omega) only [↓vcOps_sp 9, ↓vcD_sp 9, VCA, pg_gl, ↓upd_none, Nat.reduceEqDiff, Nat.reduceBEq, Nat.reduceAdd, Nat.reduceSub, Nat.reduceMul, Nat.reduceLT, Nat.reduceLeDiff, ↓reduceIte, reduceCtorEq, rsOf, rootsOf, SOp.rd, SI.rd, SX.rd, rdL, rdO, rdP, okParts, eqCells, okEqCells, fillA, okFill, setAt, implies_true, forall_const, forall_eq, ne_eq, exists_eq_right_right, exists_eq_right, exists_eq_left, exists_eq_left', eInt, eBool, lit_eq, c123, eDoc]
  refine LoopVC.intro (fun m e h' => ∃ c : Int, m = (if c = -1 then 0 else up d c + 1) ∧ (c = -1 ∨ inD d c) ∧ e 1 = aInt c ∧ e 2 = aInt top ∧ e 3 = .pin (eDoc d) ∧ h' = h ∧ (c = -1 → top ∉ chain d n) ∧ (inD d c → (top ∈ chain d n ↔ top ∈ chain d c))) _ ⟨n, rfl, .inr hn, rfl, rfl, rfl, rfl, fun e => by have := hn.1; omega, fun _ => Iff.rfl⟩ ?_
  rintro m e h' ⟨c, rfl, hc, he1, he2, he3, rfl, hno, hyes⟩
  by_cases h2 : c = -1
  · subst h2
    have h3 : ((-1 : Int) == top) = false := by simp; omega
    simp -dsimp -implicitDefEqProofs (disch := omega) only [↓vcOps_sp 9, ↓vcD_sp 9, VCA, pg_gl, ↓upd_none, Nat.reduceEqDiff, Nat.reduceBEq, Nat.reduceAdd, Nat.reduceSub, Nat.reduceMul, Nat.reduceLT, Nat.reduceLeDiff, ↓reduceIte, reduceCtorEq, rsOf, rootsOf, SOp.rd, SI.rd, SX.rd, rdL, rdO, rdP, okParts, eqCells, okEqCells, fillA, okFill, setAt, implies_true, forall_const, forall_eq, ne_eq, exists_eq_right_right, exists_eq_right, exists_eq_left, exists_eq_left', eInt, eBool, lit_eq, he1, he2, he3, h3]
    repeat' (first | ((with_reducible refine Br.dec (fun _ => ?_) (fun _ => ?_)) <;> try (exfalso; omega)) | ((with_reducible refine Br.eq (fun _ => ?_) (fun _ => ?_)) <;> try (exfalso; omega)) | ((with_reducible refine Br.ne (fun _ => ?_) (fun _ => ?_)) <;> try (exfalso; omega)) | ((with_reducible refine brNdec (fun _ => ?_) (fun _ => ?_)) <;> try (exfalso; omega)) | ((with_reducible refine brNeq (fun _ => ?_) (fun _ => ?_)) <;> try (exfalso; omega)) | with_reducible refine Br.intro (fun _ => ?_) (fun _ => ?_) | (with_reducible refine And.intro ?_ ?_; · omega) | simp -dsimp -implicitDefEqProofs (disch := omega) only [↓vcOps_sp 9, ↓vcD_sp 9, VCA, pg_gl, ↓upd_none, Nat.reduceEqDiff, Nat.reduceBEq, Nat.reduceAdd, Nat.reduceSub, Nat.reduceMul, Nat.reduceLT, Nat.reduceLeDiff, ↓reduceIte, reduceCtorEq, rsOf, rootsOf, SOp.rd, SI.rd, SX.rd, rdL, rdO, rdP, okParts, eqCells, okEqCells, fillA, okFill, setAt, implies_true, forall_const, forall_eq, ne_eq, exists_eq_right_right, exists_eq_right, exists_eq_left, exists_eq_left', eInt, eBool, lit_eq, he1, he2, he3, h3])
    exact ⟨Sub.refl _, by simp [hno rfl]⟩
  · have hc : inD d c := hc.resolve_left h2
    have hc0 := hc.1
    have hc1 := hc.2
    have e0 : nth d.nodes c.toNat = nd d c := rfl
    simp -dsimp -implicitDefEqProofs (disch := omega) only [↓vcOps_sp 9, ↓vcD_sp 9, VCA, pg_gl, ↓upd_none, Nat.reduceEqDiff, Nat.reduceBEq, Nat.reduceAdd, Nat.reduceSub, Nat.reduceMul, Nat.reduceLT, Nat.reduceLeDiff, ↓reduceIte, reduceCtorEq, rsOf, rootsOf, SOp.rd, SI.rd, SX.rd, rdL, rdO, rdP, okParts, eqCells, okEqCells, fillA, okFill, setAt, implies_true, forall_const, forall_eq, ne_eq, exists_eq_right_right, exists_eq_right, exists_eq_left, exists_eq_left', eInt, eBool, lit_eq, he1, he2, he3]
    repeat' (first | ((with_reducible refine Br.dec (fun _ => ?_) (fun _ => ?_)) <;> try (exfalso; omega)) | ((with_reducible refine Br.eq (fun _ => ?_) (fun _ => ?_)) <;> try (exfalso; omega)) | ((with_reducible refine Br.ne (fun _ => ?_) (fun _ => ?_)) <;> try (exfalso; omega)) | ((with_reducible refine brNdec (fun _ => ?_) (fun _ => ?_)) <;> try (exfalso; omega)) | ((with_reducible refine brNeq (fun _ => ?_) (fun _ => ?_)) <;> try (exfalso; omega)) | with_reducible refine Br.intro (fun _ => ?_) (fun _ => ?_) | (with_reducible refine And.intro ?_ ?_; · omega) | simp -dsimp -implicitDefEqProofs (disch := omega) only [↓vcOps_sp 9, ↓vcD_sp 9, VCA, pg_gl, ↓upd_none, Nat.reduceEqDiff, Nat.reduceBEq, Nat.reduceAdd, Nat.reduceSub, Nat.reduceMul, Nat.reduceLT, Nat.reduceLeDiff, ↓reduceIte, reduceCtorEq, rsOf, rootsOf, SOp.rd, SI.rd, SX.rd, rdL, rdO, rdP, okParts, eqCells, okEqCells, fillA, okFill, setAt, implies_true, forall_const, forall_eq, ne_eq, exists_eq_right_right, exists_eq_right, exists_eq_left, exists_eq_left', eInt, eBool, lit_eq, he1, he2, he3, eDoc, eNode, e0])
    · rename_i h0 h1
      refine ⟨_, ?_, (nd d c).parent, rfl, ?_, rfl, ?_, ?_⟩
      · rw [if_neg (show ¬ c = -1 by omega)]
        split
        · omega
        · rename_i hp
          have := V.up_par hc (by have := V.par c hc; unfold inD at this; omega)
          omega
      · rcases V.par c hc with h | h
        · exact .inl h
        · exact .inr h.1
      · intro hp
        rw [hyes hc, chain_top V (by omega)]
        simp; exact fun e => h1 e.symm
      · intro hp
        rw [hyes hc, chain_up V hc hp.1]
        simp; exact fun e => absurd e.symm h1
    · rename_i h0 h1
      subst h1
      exact ⟨Sub.refl _, by simp [(hyes hc).2 (chain_self _ _)]⟩
def leftM (t : List UInt8) (n : Int) (s : HSpan) : List UInt8 := t.take (if s.a.node = n then s.a.at' else 0).toNat ++ t.drop (if s.b.node = n then s.b.at' else t.length).toNat
def c124 : SFun := ⟨(.seq (.reg [⟨(some 5), (.boxF 52 4 (.t 2)), none⟩, ⟨(some 6), (.mv (.c (.str []))), none⟩]) (.seq (.reg [⟨(some 9), (.mv (.t 0)), none⟩, ⟨(some 10), (.lenS (.t 9)), none⟩, ⟨(some 7), (.mv (.c (.int .i64 (0)))), none⟩, ⟨(some 8), (.mv (.t 10)), none⟩]) (.seq (.seq (.reg [⟨(some 11), (.fldA 0 (.t 5)), none⟩, ⟨(some 12), (.fldA 0 (.t 11)), none⟩, ⟨(some 13), (.ld 1 false (.t 12)), none⟩, ⟨(some 14), (.mv (.t 1)), none⟩, ⟨(some 15), (.bin .eql (.t 13) (.t 14)), none⟩]) (.cond (.t 15) (.reg [⟨(some 16), (.fldA 0 (.t 5)), none⟩, ⟨(some 17), (.fldA 1 (.t 16)), none⟩, ⟨(some 18), (.ld 1 false (.t 17)), none⟩, ⟨(some 7), (.mv (.t 18)), none⟩]) .skip)) (.seq (.seq (.reg [⟨(some 19), (.fldA 2 (.t 5)), none⟩, ⟨(some 20), (.fldA 0 (.t 19)), none⟩, ⟨(some 21), (.ld 1 false (.t 20)), none⟩, ⟨(some 22), (.mv (.t 1)), none⟩, ⟨(some 23), (.bin .eql (.t 21) (.t 22)), none⟩]) (.cond (.t 23) (.reg [⟨(some 24), (.fldA 2 (.t 5)), none⟩, ⟨(some 25), (.fldA 1 (.t 24)), none⟩, ⟨(some 26), (.ld 1 false (.t 25)), none⟩, ⟨(some 8), (.mv (.t 26)), none⟩]) .skip)) (.seq (.dreg [(⟨(some 27), (.mv (.t 0)), none⟩, none), (⟨(some 28), (.mv (.t 7)), none⟩, none), (⟨(some 29), (.slS (.t 27) none (some (.t 28))), none⟩, none), (⟨(some 30), (.mv (.t 0)), none⟩, none), (⟨(some 31), (.mv (.t 8)), none⟩, none), (⟨(some 32), (.slS (.t 30) (some (.t 31)) none), none⟩, none), (⟨(some 33), (.bin .add (.t 29) (.t 32)), none⟩, none), (⟨(some 6), (.mv (.t 33)), none⟩, none)]) .ret))))), [(.tmp 6)]⟩
theorem hc124 : toSF Tryd.prog {} Tryd.f124 = some c124 := by kernel_rfl
theorem hn124 : (Tryd.f124.name == "runtime.NumGoroutine") = false := by kernel_rfl
theorem left_ok (t : List UInt8) (n : Int) (s : HSpan) (ht : t.length ≤ 1073741824) (ha : s.a.node = n → 0 ≤ s.a.at' ∧ s.a.at' ≤ t.length) (hb : s.b.node = n → 0 ≤ s.b.at' ∧ s.b.at' ≤ t.length) :
    PCalls (Pg G) 124 [.str t, aInt n, .agg (eS s)] (.str (leftM t n s)) := fun h => by
  refine dcalls_of_vc Tryd.func124 hn124 hc124 (by rw [Tryd.ntmps124]; simp) (by rw [Tryd.ntmps124]; decide) ?_
  unfold leftM
  simp -dsimp -implicitDefEqProofs (disch := omega) only [VCA, pg_gl, ↓upd_none, Nat.reduceEqDiff, Nat.reduceBEq, Nat.reduceAdd, Nat.reduceSub, Nat.reduceMul, Nat.reduceLT, Nat.reduceLeDiff, ↓reduceIte, reduceCtorEq, rsOf, rootsOf, SOp.rd, SI.rd, SX.rd, rdL, rdO, rdP, okParts, eqCells, okEqCells, fillA, okFill, setAt, implies_true, forall_const, forall_eq, ne_eq, exists_eq_right_right, exists_eq_right, exists_eq_left, exists_eq_left', eInt, eBool, lit_eq, c124, eS]
  repeat' (first | ((with_reducible refine Br.dec (fun _ => ?_) (fun _ => ?_)) <;> try (exfalso; omega)) | ((with_reducible refine Br.eq (fun _ => ?_) (fun _ => ?_)) <;> try (exfalso; omega)) | ((with_reducible refine Br.ne (fun _ => ?_) (fun _ => ?_)) <;> try (exfalso; omega)) | ((with_reducible refine brNdec (fun _ => ?_) (fun _ => ?_)) <;> try (exfalso; omega)) | ((with_reducible refine brNeq (fun _ => ?_) (fun _ => ?_)) <;> try (exfalso; omega)) | with_reducible refine Br.intro (fun _ => ?_) (fun _ => ?_) | (with_reducible refine And.intro ?_ ?_; · omega) | simp -dsimp -implicitDefEqProofs (disch := omega) only [VCA, pg_gl, ↓upd_none, Nat.reduceEqDiff, Nat.reduceBEq, Nat.reduceAdd, Nat.reduceSub, Nat.reduceMul, Nat.reduceLT, Nat.reduceLeDiff, ↓reduceIte, reduceCtorEq, rsOf, rootsOf, SOp.rd, SI.rd, SX.rd, rdL, rdO, rdP, okParts, eqCells, okEqCells, fillA, okFill, setAt, implies_true, forall_const, forall_eq, ne_eq, exists_eq_right_right, exists_eq_right, exists_eq_left, exists_eq_left', eInt, eBool, lit_eq, eS])
  all_goals refine ⟨?_, Sub.refl _, ?_⟩
  all_goals first | (simp only [List.length_append, List.length_take, List.length_drop]; omega) | (simp [*]; done)
/-! ## the cut -/
def zE (do' at' : Int) (v : List UInt8) : HEdit := ⟨do', at', 0, 0, [], v, ⟨0, [], [], [], 0, []⟩⟩
def eE0 (e : HEdit) : List AVal := [aInt e.do', aInt e.at', aInt e.to, aInt e.before, .str e.name, .str e.value, aInt e.node.kind, .str e.node.name, .emp, .str e.node.text, aInt e.node.parent, .emp]
def cutK (rec : Int → List HEdit) (d : HDoc) (n : Int) (s : HSpan) (i : Nat) : List HEdit :=
  let k := nth (nd d n).kids i
  if k ∈ chain d s.a.node ∨ k ∈ chain d s.b.node then
    (if (nd d k).kind = 3 ∨ (nd d k).kind = 4 then (if leftM (nd d k).text k s = (nd d k).text then [] else [zE 3 k (leftM (nd d k).text k s)]) else rec k)
  else if orderM d s.a ⟨n, (i : Int)⟩ ≤ 0 ∧ orderM d ⟨n, (i : Int) + 1⟩ s.b ≤ 0 then [zE 6 k []] else []
def cutF : Nat → HDoc → HSpan → Int → List HEdit
  | 0, _, _, _ => []
  | f + 1, d, s, n => (List.range (nd d n).kids.length).flatMap (cutK (cutF f d s) d n s)
def cutM (d : HDoc) (s : HSpan) (n : Int) : List HEdit := cutF (41 - up d n) d s n
section
variable {d : HDoc}
theorem cutK_cong {r1 r2 : Int → List HEdit} {n : Int} {s : HSpan} {i : Nat} (h : r1 (nth (nd d n).kids i) = r2 (nth (nd d n).kids i)) : cutK r1 d n s i = cutK r2 d n s i := by
  unfold cutK; simp only [h]
theorem cut_eq (V : DV d) (s : HSpan) {n : Int} (hn : inD d n) : cutM d s n = (List.range (nd d n).kids.length).flatMap (cutK (cutM d s) d n s) := by
  have h40 := V.deep n hn
  obtain ⟨f, hf⟩ : ∃ f, 41 - up d n = f + 1 := ⟨40 - up d n, by omega⟩
  have e : cutM d s n = cutF (f + 1) d s n := by unfold cutM; rw [hf]
  rw [e, cutF]
  refine flatMap_cong fun i hi => cutK_cong ?_
  have hu := V.up_kid hn (nth_mem' (List.mem_range.1 hi))
  unfold cutM
  rw [show 41 - up d (nth (nd d n).kids i) = f by omega]
theorem cut_len (V : DV d) (s : HSpan) : ∀ n, inD d n → (cutM d s n).length + 1 ≤ (below d n).length := V.down fun n hn ih => by
  rw [cut_eq V s hn, below_eq V hn, List.length_cons]
  have : ((List.range (nd d n).kids.length).flatMap (cutK (cutM d s) d n s)).length ≤ 1 * ((List.range (nd d n).kids.length).flatMap fun i => below d (nth (nd d n).kids i)).length := by
    refine flatMap_len fun i hi => ?_
    have hk := nth_mem' (List.mem_range.1 hi)
    have := ih _ hk
    have b1 : 1 ≤ (below d (nth (nd d n).kids i)).length := by omega
    unfold cutK
    simp only
    split
    · split
      · split <;> simp; omega
      · omega
    · split <;> simp; omega
  rw [range_flat] at this
  omega
end
theorem acc_keep {h h' h2 : Heap} {ty : TypeId} {sz : Nat} {cells : List (List AVal)} {a : AVal} (A : Acc h ty sz cells a h') (S : Sim.Sub h' h2) : Acc h ty sz cells a h2 := by
  rcases A with h | ⟨r, h0, h1, h2⟩
  · exact .inl h
  · exact .inr ⟨r, h0, S _ _ h1, h2⟩
def c83 : SFun := ⟨(.seq (.reg [⟨(some 4), (.boxF 124 2 (.t 0)), none⟩, ⟨(some 6), (.boxF 52 4 (.t 2)), none⟩, ⟨(some 8), (.mv (.c .emp)), none⟩]) (.seq (.seq (.reg [⟨(some 14), (.fldA 0 (.t 4)), none⟩, ⟨(some 15), (.fldA 0 (.t 14)), none⟩, ⟨(some 16), (.ld 1 false (.t 15)), none⟩, ⟨(some 17), (.mv (.t 1)), none⟩, ⟨(some 18), (.idxA 6 (.t 16) (.t 17)), none⟩, ⟨(some 19), (.fldA 5 (.t 18)), none⟩, ⟨(some 20), (.ld 1 false (.t 19)), none⟩, ⟨(some 21), (.len (.t 20)), none⟩, ⟨(some 22), (.mv (.c (.int .i64 (0)))), none⟩]) (.block 0 (.loop (.seq (.reg [⟨(some 23), (.bin .lss (.t 22) (.t 21)), none⟩]) (.seq (.cond (.t 23) .skip (.exit 0)) (.seq (.block 1 (.seq (.reg [⟨(some 24), (.mv (.t 22)), none⟩, ⟨(some 25), (.idxA 1 (.t 20) (.t 22)), none⟩, ⟨(some 26), (.ld 1 false (.t 25)), none⟩, ⟨(some 9), (.mv (.t 24)), none⟩, ⟨(some 10), (.mv (.t 26)), none⟩]) (.seq (.reg [⟨(some 27), (.fldA 0 (.t 4)), none⟩, ⟨(some 28), (.fldA 0 (.t 27)), none⟩, ⟨(some 29), (.ld 1 false (.t 28)), none⟩, ⟨(some 30), (.mv (.t 10)), none⟩, ⟨(some 31), (.idxA 6 (.t 29) (.t 30)), none⟩, ⟨(some 32), (.ld 6 true (.t 31)), none⟩, ⟨(some 11), (.new 43 6 [(.int .i64 (0)), (.str []), .emp, (.str []), (.int .i64 (0)), .emp]), none⟩, ⟨none, (.st 6 (.t 11) (.t 32)), none⟩]) (.seq (.reg [⟨(some 33), (.ld 2 true (.t 4)), none⟩, ⟨(some 34), (.fldA 0 (.t 6)), none⟩, ⟨(some 35), (.fldA 0 (.t 34)), none⟩, ⟨(some 36), (.ld 1 false (.t 35)), none⟩, ⟨(some 37), (.mv (.t 10)), none⟩, ⟨(some 38), (.pcall 123 [(.t 33), (.t 36), (.t 37)]), none⟩, ⟨(some 39), (.mv (.t 38)), none⟩, ⟨(some 40), (.ld 2 true (.t 4)), (some (39, false))⟩, ⟨(some 41), (.fldA 2 (.t 6)), (some (39, false))⟩, ⟨(some 42), (.fldA 0 (.t 41)), (some (39, false))⟩, ⟨(some 43), (.ld 1 false (.t 42)), (some (39, false))⟩, ⟨(some 44), (.mv (.t 10)), (some (39, false))⟩, ⟨(some 45), (.pcall 123 [(.t 40), (.t 43), (.t 44)]), (some (39, false))⟩, ⟨(some 46), (.pick (.t 39) (.c (.bool true)) (.t 45)), none⟩, ⟨(some 12), (.mv (.t 46)), none⟩]) (.block 2 (.seq (.reg [⟨(some 48), (.mv (.t 12)), none⟩, ⟨(some 49), (.mv (.t 48)), none⟩, ⟨(some 50), (.fldA 0 (.t 11)), (some (49, true))⟩, ⟨(some 51), (.ld 1 false (.t 50)), (some (49, true))⟩, ⟨(some 52), (.bin .eql (.t 51) (.c (.int .i64 (3)))), (some (49, true))⟩, ⟨(some 53), (.mv (.t 52)), (some (49, true))⟩, ⟨(some 54), (.fldA 0 (.t 11)), (some (53, false))⟩, ⟨(some 55), (.ld 1 false (.t 54)), (some (53, false))⟩, ⟨(some 56), (.bin .eql (.t 55) (.c (.int .i64 (4)))), (some (53, false))⟩, ⟨(some 57), (.pick (.t 53) (.c (.bool true)) (.t 56)), (some (49, true))⟩, ⟨(some 58), (.pick (.t 49) (.t 57) (.c (.bool false))), none⟩, ⟨(some 47), (.mv (.t 58)), none⟩]) (.cond (.t 47) (.seq (.reg [⟨(some 59), (.fldA 3 (.t 11)), none⟩, ⟨(some 60), (.ld 1 false (.t 59)), none⟩, ⟨(some 61), (.mv (.t 10)), none⟩, ⟨(some 62), (.ld 4 true (.t 6)), none⟩, ⟨(some 63), (.pcall 124 [(.t 60), (.t 61), (.t 62)]), none⟩, ⟨(some 13), (.mv (.t 63)), none⟩]) (.seq (.reg [⟨(some 64), (.mv (.t 13)), none⟩, ⟨(some 65), (.fldA 3 (.t 11)), none⟩, ⟨(some 66), (.ld 1 false (.t 65)), none⟩, ⟨(some 67), (.bin .neq (.t 64) (.t 66)), none⟩]) (.cond (.t 67) (.reg [⟨(some 68), (.mv (.t 3)), none⟩, ⟨(some 69), (.mv (.t 10)), none⟩, ⟨(some 70), (.mv (.t 13)), none⟩, ⟨(some 71), (.bld [(.int .i64 (0)), (.int .i64 (0)), (.int .i64 (0)), (.int .i64 (0)), (.str []), (.str []), (.int .i64 (0)), (.str []), .emp, (.str []), (.int .i64 (0)), .emp] [(0, (1, (.c (.int .i64 (3))))), (1, (1, (.t 69))), (5, (1, (.t 70)))]), none⟩, ⟨(some 72), (.bldF 87 12 [(.t 71)]), none⟩, ⟨(some 73), (.app 87 12 160 (.t 68) (.t 72)), none⟩, ⟨(some 3), (.mv (.t 73)), none⟩]) .skip))) (.seq (.reg [⟨(some 75), (.mv (.t 12)), none⟩, ⟨(some 74), (.mv (.t 75)), none⟩]) (.cond (.t 74) (.reg [⟨(some 76), (.ld 2 true (.t 4)), none⟩, ⟨(some 77), (.mv (.t 10)), none⟩, ⟨(some 78), (.ld 4 true (.t 6)), none⟩, ⟨(some 79), (.mv (.t 3)), none⟩, ⟨(some 80), (.call (.c (.fn 83 [] [])) [(.t 76), (.t 77), (.t 78), (.t 79)]), none⟩, ⟨(some 3), (.mv (.t 80)), none⟩]) (.seq (.reg [⟨(some 82), (.ld 2 true (.t 4)), none⟩, ⟨(some 83), (.fldA 0 (.t 6)), none⟩, ⟨(some 84), (.ld 2 true (.t 83)), none⟩, ⟨(some 85), (.mv (.t 1)), none⟩, ⟨(some 86), (.mv (.t 9)), none⟩, ⟨(some 87), (.bld [(.int .i64 (0)), (.int .i64 (0))] [(0, (1, (.t 85))), (1, (1, (.t 86)))]), none⟩, ⟨(some 88), (.pcall 88 [(.t 82), (.t 84), (.t 87)]), none⟩, ⟨(some 89), (.bin .leq (.t 88) (.c (.int .i64 (0)))), none⟩, ⟨(some 90), (.mv (.t 89)), none⟩, ⟨(some 91), (.ld 2 true (.t 4)), (some (90, true))⟩, ⟨(some 92), (.mv (.t 1)), (some (90, true))⟩, ⟨(some 93), (.mv (.t 9)), (some (90, true))⟩, ⟨(some 94), (.bin .add (.t 93) (.c (.int .i64 (1)))), (some (90, true))⟩, ⟨(some 95), (.bld [(.int .i64 (0)), (.int .i64 (0))] [(0, (1, (.t 92))), (1, (1, (.t 94)))]), (some (90, true))⟩, ⟨(some 96), (.fldA 2 (.t 6)), (some (90, true))⟩, ⟨(some 97), (.ld 2 true (.t 96)), (some (90, true))⟩, ⟨(some 98), (.pcall 88 [(.t 91), (.t 95), (.t 97)]), (some (90, true))⟩, ⟨(some 99), (.bin .leq (.t 98) (.c (.int .i64 (0)))), (some (90, true))⟩, ⟨(some 100), (.pick (.t 90) (.t 99) (.c (.bool false))), none⟩, ⟨(some 81), (.mv (.t 100)), none⟩]) (.cond (.t 81) (.reg [⟨(some 101), (.mv (.t 3)), none⟩, ⟨(some 102), (.mv (.t 10)), none⟩, ⟨(some 103), (.bld [(.int .i64 (0)), (.int .i64 (0)), (.int .i64 (0)), (.int .i64 (0)), (.str []), (.str []), (.int .i64 (0)), (.str []), .emp, (.str []), (.int .i64 (0)), .emp] [(0, (1, (.c (.int .i64 (6))))), (1, (1, (.t 102)))]), none⟩, ⟨(some 104), (.bldF 87 12 [(.t 103)]), none⟩, ⟨(some 105), (.app 87 12 160 (.t 101) (.t 104)), none⟩, ⟨(some 3), (.mv (.t 105)), none⟩]) .skip))))))))))) (.reg [⟨(some 106), (.bin .add (.t 22) (.c (.int .i64 (1)))), none⟩, ⟨(some 22), (.mv (.t 106)), none⟩]))))))) (.seq (.reg [⟨(some 107), (.mv (.t 3)), none⟩, ⟨(some 8), (.mv (.t 107)), none⟩]) .ret))), [(.tmp 8)]⟩
theorem hc83 : toSF Tryd.prog {pure := [123, 88, 124]} Tryd.f83 = some c83 := by kernel_rfl
theorem hn83 : (Tryd.f83.name == "runtime.NumGoroutine") = false := by kernel_rfl
set_option maxHeartbeats 2000000 in
theorem rcut_ok (d : HDoc) (V : DV d) (sm : DocSm d) (s : HSpan) (ha : pointE d s.a = 0) (hb : pointE d s.b = 0) : ∀ n, inD d n → 0 ∈ chain d n → ∀ (h h1 : Heap) (L : List HEdit) (a : AVal), Acc h 87 12 (L.map eE0) a h1 → Sim.Sub h h1 → L.length ≤ 1000 * (up d n + 1) →
    DCalls (Pg G) 83 [.agg (eDoc d), aInt n, .agg (eS s), a] h1 fun r h2 => Acc h 87 12 ((L ++ cutM d s n).map eE0) r h2 ∧ Sim.Sub h h2 := V.down fun n hn ih hc0 h h1 L a A S hL => by
  have hl := V.len
  have n0 := hn.1
  have n1 := hn.2
  have e0 : nth d.nodes n.toNat = nd d n := rfl
  have kl := (sm.nd n).kids
  obtain ⟨a1, a2, a3, a4, a5⟩ := point_marks V ha
  obtain ⟨b1, b2, b3, b4, b5⟩ := point_marks V hb
  have be := below_eq V hn
  have bl := below_len V hn
  have cl := cut_len V s
  have u40 := V.deep n hn
  have ce := cut_eq V s hn
  generalize hF : cutK (cutM d s) d n s = F at ce
  refine dcalls_of_vc Tryd.func83 hn83 hc83 (by rw [Tryd.ntmps83]; simp) (by rw [Tryd.ntmps83]; decide) ?_
  simp -dsimp -implicitDefEqProofs (disch := omega) only [↓vcOps_sp 39, ↓vcD_sp 39, ↓vcOps_sp 49, ↓vcD_sp 49, ↓vcOps_sp 53, ↓vcD_sp 53, ↓vcOps_sp 90, ↓vcD_sp 90, VCA, pg_gl, ↓upd_none, Nat.reduceEqDiff, Nat.reduceBEq, Nat.reduceAdd, Nat.reduceSub, Nat.reduceMul, Nat.reduceLT, Nat.reduceLeDiff, ↓reduceIte, reduceCtorEq, rsOf, rootsOf, SOp.rd, SI.rd, SX.rd, rdL, rdO, rdP, okParts, eqCells, okEqCells, fillA, okFill, setAt, implies_true, forall_const, forall_eq, ne_eq, exists_eq_right_right, exists_eq_right, exists_eq_left, exists_eq_left', eInt, eBool, lit_eq, c83, eDoc, eNode, eS]
  rw [e0]
  refine ⟨by omega, ?_⟩
  have A0 : Acc h 87 12 ((L ++ (List.range 0).flatMap F).map eE0) a h1 := by simpa using A
  refine LoopVC.intro (fun m e h' => ∃ k : Nat, k ≤ (nd d n).kids.length ∧ m = (nd d n).kids.length - k ∧ e 1 = aInt n ∧ e 4 = .pin (eDoc d) ∧ e 6 = .pin (eS s) ∧ e 20 = sl eInt (nd d n).kids ∧ e 21 = aInt (nd d n).kids.length ∧ e 22 = aInt k ∧ Acc h 87 12 ((L ++ (List.range k).flatMap F).map eE0) (e 3) h' ∧ Sim.Sub h h') _ ⟨0, by omega, rfl, rfl, rfl, rfl, rfl, rfl, rfl, A0, S⟩ ?_
  clear A0 A S
  rintro m e h' ⟨k, hk, rfl, he1, he4, he6, he20, he21, he22, A, S⟩
  simp -dsimp -implicitDefEqProofs (disch := omega) only [↓vcOps_sp 39, ↓vcD_sp 39, ↓vcOps_sp 49, ↓vcD_sp 49, ↓vcOps_sp 53, ↓vcD_sp 53, ↓vcOps_sp 90, ↓vcD_sp 90, VCA, pg_gl, ↓upd_none, Nat.reduceEqDiff, Nat.reduceBEq, Nat.reduceAdd, Nat.reduceSub, Nat.reduceMul, Nat.reduceLT, Nat.reduceLeDiff, ↓reduceIte, reduceCtorEq, rsOf, rootsOf, SOp.rd, SI.rd, SX.rd, rdL, rdO, rdP, okParts, eqCells, okEqCells, fillA, okFill, setAt, implies_true, forall_const, forall_eq, ne_eq, exists_eq_right_right, exists_eq_right, exists_eq_left, exists_eq_left', eInt, eBool, lit_eq, he1, he4, he6, he20, he21, he22]
  refine Br.dec (fun hlt => ?_) (fun hge => ?_)
  · have hk' : k < (nd d n).kids.length := by omega
    have hm := nth_mem' hk'
    obtain ⟨ki, kp⟩ := V.kid n hn _ hm
    have k0 := ki.1
    have k1 := ki.2
    have ek : nth d.nodes (nth (nd d n).kids k).toNat = nd d (nth (nd d n).kids k) := rfl
    have hFk : F k = cutK (cutM d s) d n s k := by rw [← hF]
    have fl : (List.range (k + 1)).flatMap F = (List.range k).flatMap F ++ F k := by rw [List.range_succ, List.flatMap_append]; simp
    have W1 := rwithin_ok (G := G) d V s.a.node (nth (nd d n).kids k) a1 k0
    have W2 := rwithin_ok (G := G) d V s.b.node (nth (nd d n).kids k) b1 k0
    unfold eDoc at W1 W2
    have rk : ∀ m, (nd d m).kind = 3 ∨ (nd d m).kind = 4 → roomM d m = (nd d m).text.length := fun m hm => by unfold roomM; rw [if_pos hm]
    have kc0 : 0 ∈ chain d (nth (nd d n).kids k) := by
      rw [chain_up V ki (by rw [kp]; exact n0), kp]; exact List.mem_cons_of_mem _ hc0
    have rn : roomM d n = (nd d n).kids.length := by
      rcases node_split V hn with ⟨h, _⟩ | ⟨_, h, _⟩
      · rw [h] at hk'; simp at hk'
      · exact h
    have p1 : pointE d ⟨n, (k : Int)⟩ = 0 := by unfold pointE; rw [if_neg (by simp only [Classical.not_not]; exact ⟨hn, by show (0 : Int) ≤ k; omega, by show (k : Int) ≤ _; omega⟩), if_neg (by simpa using hc0)]
    have p2 : pointE d ⟨n, (k : Int) + 1⟩ = 0 := by unfold pointE; rw [if_neg (by simp only [Classical.not_not]; exact ⟨hn, by show (0 : Int) ≤ (k : Int) + 1; omega, by show (k : Int) + 1 ≤ _; omega⟩), if_neg (by simpa using hc0)]
    have O1 := order_ok (G := G) d V sm s.a ⟨n, (k : Int)⟩ ha p1
    have O2 := order_ok (G := G) d V sm ⟨n, (k : Int) + 1⟩ s.b p2 hb
    unfold eDoc eP at O1 O2
    have hlF : ((List.range k).flatMap F).length + (F k).length + 1 ≤ (below d n).length := by
      have h1 : ∀ (a b : Nat), ((List.range a).flatMap F).length ≤ ((List.range (a + b)).flatMap F).length := fun a b => by
        induction b with
        | zero => exact Nat.le_refl _
        | succ b ih => rw [← Nat.add_assoc, List.range_succ, List.flatMap_append, List.length_append]; omega
      have h2 := h1 (k + 1) ((nd d n).kids.length - (k + 1))
      rw [show k + 1 + ((nd d n).kids.length - (k + 1)) = (nd d n).kids.length by omega, fl, List.length_append, ← ce] at h2
      have := cl n hn
      omega
    have hI := ih _ hm kc0
    have tx := text_len V ki
    have LO := left_ok (G := G) (nd d (nth (nd d n).kids k)).text (nth (nd d n).kids k) s (by omega)
    generalize hkk : nth (nd d n).kids k = kk at *
    have fin : ∀ (X : List HEdit) (a' : AVal) (h'' : Heap), F k = X → Acc h 87 12 ((L ++ ((List.range k).flatMap F ++ X)).map eE0) a' h'' → Acc h 87 12 ((L ++ (List.range (k + 1)).flatMap F).map eE0) a' h'' := fun X a' h'' hX A => by rw [fl, hX]; exact A
    have Fk : F k = if kk ∈ chain d s.a.node ∨ kk ∈ chain d s.b.node then
      (if (nd d kk).kind = 3 ∨ (nd d kk).kind = 4 then (if leftM (nd d kk).text kk s = (nd d kk).text then [] else [zE 3 kk (leftM (nd d kk).text kk s)]) else cutM d s kk)
      else if orderM d s.a ⟨n, (k : Int)⟩ ≤ 0 ∧ orderM d ⟨n, (k : Int) + 1⟩ s.b ≤ 0 then [zE 6 kk []] else [] := by rw [hFk]; unfold cutK; rw [hkk]
    clear hFk
    simp -dsimp -implicitDefEqProofs (disch := omega) only [↓vcOps_sp 39, ↓vcD_sp 39, ↓vcOps_sp 49, ↓vcD_sp 49, ↓vcOps_sp 53, ↓vcD_sp 53, ↓vcOps_sp 90, ↓vcD_sp 90, VCA, pg_gl, ↓upd_none, Nat.reduceEqDiff, Nat.reduceBEq, Nat.reduceAdd, Nat.reduceSub, Nat.reduceMul, Nat.reduceLT, Nat.reduceLeDiff, ↓reduceIte, reduceCtorEq, rsOf, rootsOf, SOp.rd, SI.rd, SX.rd, rdL, rdO, rdP, okParts, eqCells, okEqCells, fillA, okFill, setAt, implies_true, forall_const, forall_eq, ne_eq, exists_eq_right_right, exists_eq_right, exists_eq_left, exists_eq_left', eInt, eBool, lit_eq, he1, he4, he6, he20, he21, he22, eDoc, eNode, eS, hkk, ek]
    refine ⟨by omega, by omega, fun r hr => ?_⟩
    have S' := S.upd (x := some ⟨43, 6, [eNode (nd d kk)]⟩) (S.none hr)
    have A' := acc_keep A ((Sub.refl h').upd (x := some ⟨43, 6, [eNode (nd d kk)]⟩) hr)
    unfold eNode at S' A'
    by_cases hT : kk ∈ chain d s.a.node ∨ kk ∈ chain d s.b.node
    · rw [if_pos hT] at Fk
      have hT2 : (decide (kk ∈ chain d s.a.node) = true) ∨ (decide (kk ∈ chain d s.a.node) = false ∧ decide (kk ∈ chain d s.b.node) = true) := by
        by_cases h1 : kk ∈ chain d s.a.node
        · exact .inl (decide_eq_true h1)
        · exact .inr ⟨decide_eq_false h1, decide_eq_true (hT.resolve_left h1)⟩
      by_cases h3 : (nd d kk).kind = 3 ∨ (nd d kk).kind = 4
      · have LO' := LO (fun e => ⟨a2, by rw [e, rk kk h3] at a3; exact a3⟩) (fun e => ⟨b2, by rw [e, rk kk h3] at b3; exact b3⟩)
        rw [if_pos h3] at Fk
        unfold eS at LO'
        generalize leftM (nd d kk).text kk s = lt at *
        have L1 : L.length + ((List.range k).flatMap F).length ≤ 42000 := by omega
        repeat' (first | ((with_reducible refine Br.dec (fun _ => ?_) (fun _ => ?_)) <;> try (exfalso; omega)) | ((with_reducible refine Br.eq (fun _ => ?_) (fun _ => ?_)) <;> try (exfalso; omega)) | ((with_reducible refine Br.ne (fun _ => ?_) (fun _ => ?_)) <;> try (exfalso; omega)) | ((with_reducible refine brNdec (fun _ => ?_) (fun _ => ?_)) <;> try (exfalso; omega)) | ((with_reducible refine brNeq (fun _ => ?_) (fun _ => ?_)) <;> try (exfalso; omega)) | with_reducible refine Br.intro (fun _ => ?_) (fun _ => ?_) | (with_reducible apply pcallE.of; · exact W1) | (with_reducible apply pcallE.of; · exact W2) | (with_reducible apply pcallE.of; · exact LO') | (refine A'.app S' (by simp only [List.length_map, List.length_append, List.length_cons, List.length_nil]; omega) (by simp only [List.length_map, List.length_append, List.length_cons, List.length_nil]; omega) fun a2 h2 A2 S2 => ?_) | (with_reducible refine And.intro ?_ ?_; · omega) | simp -dsimp -implicitDefEqProofs (disch := omega) only [↓vcOps_sp 39, ↓vcD_sp 39, ↓vcOps_sp 49, ↓vcD_sp 49, ↓vcOps_sp 53, ↓vcD_sp 53, ↓vcOps_sp 90, ↓vcD_sp 90, VCA, pg_gl, ↓upd_none, Nat.reduceEqDiff, Nat.reduceBEq, Nat.reduceAdd, Nat.reduceSub, Nat.reduceMul, Nat.reduceLT, Nat.reduceLeDiff, ↓reduceIte, reduceCtorEq, rsOf, rootsOf, SOp.rd, SI.rd, SX.rd, rdL, rdO, rdP, okParts, eqCells, okEqCells, fillA, okFill, setAt, implies_true, forall_const, forall_eq, ne_eq, exists_eq_right_right, exists_eq_right, exists_eq_left, exists_eq_left', eInt, eBool, lit_eq, upd_same, he1, he4, he6, he20, he21, he22, eDoc, eNode, eS, hkk, ek])
        all_goals first
          | (exfalso; simp_all; done)
          | exact ⟨_, by omega, k + 1, by omega, rfl, by omega, fin [] _ _ (by rw [Fk, if_pos (by assumption)]) (by simpa using A'), S'⟩
          | exact ⟨_, by omega, k + 1, by omega, rfl, by omega, fin _ _ _ (by rw [Fk, if_neg (by assumption)]) (by simpa [eE0, zE] using A2), S2⟩
          | trace_state
      · rw [if_neg h3] at Fk
        have h31 : ¬ (nd d kk).kind = 3 := fun e => h3 (.inl e)
        have h32 : ¬ (nd d kk).kind = 4 := fun e => h3 (.inr e)
        have hI' := hI h _ (L ++ (List.range k).flatMap F) (e 3) A' S' (by
          have ku : up d kk = up d n + 1 := by rw [← hkk]; exact V.up_kid hn (nth_mem' hk')
          rw [List.length_append, ku]
          omega)
        unfold eDoc eS at hI'
        repeat' (first | ((with_reducible refine Br.dec (fun _ => ?_) (fun _ => ?_)) <;> try (exfalso; omega)) | ((with_reducible refine Br.eq (fun _ => ?_) (fun _ => ?_)) <;> try (exfalso; omega)) | ((with_reducible refine Br.ne (fun _ => ?_) (fun _ => ?_)) <;> try (exfalso; omega)) | ((with_reducible refine brNdec (fun _ => ?_) (fun _ => ?_)) <;> try (exfalso; omega)) | ((with_reducible refine brNeq (fun _ => ?_) (fun _ => ?_)) <;> try (exfalso; omega)) | with_reducible refine Br.intro (fun _ => ?_) (fun _ => ?_) | (with_reducible apply pcallE.of; · exact W1) | (with_reducible apply pcallE.of; · exact W2) | ((refine DCalls.of hI' ?_; rintro a2 h2 ⟨A2, S2⟩)) | (with_reducible refine And.intro ?_ ?_; · omega) | simp -dsimp -implicitDefEqProofs (disch := omega) only [↓vcOps_sp 39, ↓vcD_sp 39, ↓vcOps_sp 49, ↓vcD_sp 49, ↓vcOps_sp 53, ↓vcD_sp 53, ↓vcOps_sp 90, ↓vcD_sp 90, VCA, pg_gl, ↓upd_none, Nat.reduceEqDiff, Nat.reduceBEq, Nat.reduceAdd, Nat.reduceSub, Nat.reduceMul, Nat.reduceLT, Nat.reduceLeDiff, ↓reduceIte, reduceCtorEq, rsOf, rootsOf, SOp.rd, SI.rd, SX.rd, rdL, rdO, rdP, okParts, eqCells, okEqCells, fillA, okFill, setAt, implies_true, forall_const, forall_eq, ne_eq, exists_eq_right_right, exists_eq_right, exists_eq_left, exists_eq_left', eInt, eBool, lit_eq, upd_same, he1, he4, he6, he20, he21, he22, eDoc, eNode, eS, hkk, ek, h31, h32])
        all_goals first
          | (exfalso; simp_all; done)
          | exact ⟨_, by omega, k + 1, by omega, rfl, by omega, fin _ _ _ Fk (by simpa using A2), S2⟩
          | trace_state
    · rw [if_neg hT] at Fk
      simp only [not_or] at hT
      have T1 : decide (kk ∈ chain d s.a.node) = false := decide_eq_false hT.1
      have T2 : decide (kk ∈ chain d s.b.node) = false := decide_eq_false hT.2
      rw [T1] at W1
      rw [T2] at W2
      have L1 : L.length + ((List.range k).flatMap F).length ≤ 42000 := by omega
      generalize orderM d s.a ⟨n, (k : Int)⟩ = o1 at *
      generalize orderM d ⟨n, (k : Int) + 1⟩ s.b = o2 at *
      repeat' (first | ((with_reducible refine Br.dec (fun _ => ?_) (fun _ => ?_)) <;> try (exfalso; omega)) | ((with_reducible refine Br.eq (fun _ => ?_) (fun _ => ?_)) <;> try (exfalso; omega)) | ((with_reducible refine Br.ne (fun _ => ?_) (fun _ => ?_)) <;> try (exfalso; omega)) | ((with_reducible refine brNdec (fun _ => ?_) (fun _ => ?_)) <;> try (exfalso; omega)) | ((with_reducible refine brNeq (fun _ => ?_) (fun _ => ?_)) <;> try (exfalso; omega)) | with_reducible refine Br.intro (fun _ => ?_) (fun _ => ?_) | (with_reducible apply pcallE.of; · exact W1) | (with_reducible apply pcallE.of; · exact W2) | (with_reducible apply pcallE.of; · exact O1) | (with_reducible apply pcallE.of; · exact O2) | (refine A'.app S' (by simp only [List.length_map, List.length_append, List.length_cons, List.length_nil]; omega) (by simp only [List.length_map, List.length_append, List.length_cons, List.length_nil]; omega) fun a2 h2 A2 S2 => ?_) | (with_reducible refine And.intro ?_ ?_; · omega) | simp -dsimp -implicitDefEqProofs (disch := omega) only [↓vcOps_sp 39, ↓vcD_sp 39, ↓vcOps_sp 49, ↓vcD_sp 49, ↓vcOps_sp 53, ↓vcD_sp 53, ↓vcOps_sp 90, ↓vcD_sp 90, VCA, pg_gl, ↓upd_none, Nat.reduceEqDiff, Nat.reduceBEq, Nat.reduceAdd, Nat.reduceSub, Nat.reduceMul, Nat.reduceLT, Nat.reduceLeDiff, ↓reduceIte, reduceCtorEq, rsOf, rootsOf, SOp.rd, SI.rd, SX.rd, rdL, rdO, rdP, okParts, eqCells, okEqCells, fillA, okFill, setAt, implies_true, forall_const, forall_eq, ne_eq, exists_eq_right_right, exists_eq_right, exists_eq_left, exists_eq_left', eInt, eBool, lit_eq, upd_same, he1, he4, he6, he20, he21, he22, eDoc, eNode, eS, hkk, ek])
      all_goals first
          | (exfalso; simp_all; done)
          | exact ⟨_, by omega, k + 1, by omega, rfl, by omega, fin [] _ _ (by rw [Fk, if_neg (by omega)]) (by simpa using A'), S'⟩
          | exact ⟨_, by omega, k + 1, by omega, rfl, by omega, fin _ _ _ (by rw [Fk, if_pos (by omega)]) (by simpa [eE0, zE] using A2), S2⟩
          | trace_state
  · obtain rfl : k = (nd d n).kids.length := by omega
    simp -dsimp -implicitDefEqProofs (disch := omega) only [↓vcOps_sp 39, ↓vcD_sp 39, ↓vcOps_sp 49, ↓vcD_sp 49, ↓vcOps_sp 53, ↓vcD_sp 53, ↓vcOps_sp 90, ↓vcD_sp 90, VCA, pg_gl, ↓upd_none, Nat.reduceEqDiff, Nat.reduceBEq, Nat.reduceAdd, Nat.reduceSub, Nat.reduceMul, Nat.reduceLT, Nat.reduceLeDiff, ↓reduceIte, reduceCtorEq, rsOf, rootsOf, SOp.rd, SI.rd, SX.rd, rdL, rdO, rdP, okParts, eqCells, okEqCells, fillA, okFill, setAt, implies_true, forall_const, forall_eq, ne_eq, exists_eq_right_right, exists_eq_right, exists_eq_left, exists_eq_left', eInt, eBool, lit_eq]
    rw [ce]
    exact ⟨_, Sub.refl _, A, S⟩
end Go.Proofs.K
end
section
/- Ranges: Cut; what must be in any case; the law of points. -/
set_option linter.unusedSimpArgs false
set_option linter.unusedVariables false
namespace Go.Proofs.K
open Go Go.Sim Go.Proofs
variable {G : Glob}
def cutErr (d : HDoc) (s : HSpan) : Int := if spanE d s ≠ 0 then spanE d s else if 40 < (cutM d s 0).length then 2 else 0
def cutL (d : HDoc) (s : HSpan) : List HEdit := if cutErr d s = 0 then cutM d s 0 else []
def bareE (e : HEdit) : Prop := e.node.attrs = [] ∧ e.node.kids = []
theorem eE0_wk {e : HEdit} (h : bareE e) : F2 Wk (eE0 e) (eEdit e) := by
  unfold eE0 eEdit
  rw [h.1, h.2]
  exact .cons (.refl _) (.cons (.refl _) (.cons (.refl _) (.cons (.refl _) (.cons (.refl _) (.cons (.refl _) (.cons (.refl _) (.cons (.refl _) (.cons .emp (.cons (.refl _) (.cons (.refl _) (.cons .emp .nil)))))))))))
theorem eE0_wks {l : List HEdit} (h : ∀ e ∈ l, bareE e) : F2 (F2 Wk) (l.map eE0) (l.map eEdit) := by
  induction l with
  | nil => exact .nil
  | cons e l ih => exact .cons (eE0_wk (h e List.mem_cons_self)) (ih fun x hx => h x (List.mem_cons_of_mem _ hx))
theorem cutM_bare {d : HDoc} (V : DV d) (s : HSpan) : ∀ n, inD d n → ∀ e ∈ cutM d s n, bareE e := V.down fun n hn ih e he => by
  rw [cut_eq V s hn] at he
  obtain ⟨i, hi, he⟩ := List.mem_flatMap.1 he
  have hk := nth_mem' (List.mem_range.1 hi)
  unfold cutK at he
  simp only at he
  split at he
  · split at he
    · split at he
      · cases he
      · simp only [List.mem_singleton] at he; subst he; exact ⟨rfl, rfl⟩
    · exact ih _ hk e he
  · split at he
    · simp only [List.mem_singleton] at he; subst he; exact ⟨rfl, rfl⟩
    · cases he
def c32 : SFun := ⟨(.seq (.reg [⟨(some 2), (.boxF 24 2 (.t 0)), none⟩, ⟨(some 3), (.boxF 52 4 (.t 1)), none⟩, ⟨(some 4), (.mv (.c .emp)), none⟩, ⟨(some 5), (.mv (.c (.int .i64 (0)))), none⟩]) (.seq (.reg [⟨(some 10), (.ld 2 true (.t 2)), none⟩, ⟨(some 11), (.ld 4 true (.t 3)), none⟩, ⟨(some 12), (.pcall 82 [(.t 10), (.t 11)]), none⟩, ⟨(some 9), (.mv (.t 12)), none⟩, ⟨(some 13), (.ext (.t 9) 0), none⟩, ⟨(some 14), (.ext (.t 9) 1), none⟩, ⟨(some 6), (.new 124 2 [.emp, (.bool false)]), none⟩, ⟨none, (.st 2 (.t 6) (.t 13)), none⟩, ⟨(some 7), (.mv (.t 14)), none⟩]) (.seq (.seq (.reg [⟨(some 15), (.mv (.t 7)), none⟩, ⟨(some 16), (.bin .neq (.t 15) (.c (.int .i64 (0)))), none⟩]) (.cond (.t 16) (.seq (.reg [⟨(some 17), (.mv (.t 7)), none⟩, ⟨(some 4), (.mv (.c .emp)), none⟩, ⟨(some 5), (.mv (.t 17)), none⟩]) .ret) .skip)) (.seq (.reg [⟨(some 18), (.ld 2 true (.t 6)), none⟩, ⟨(some 19), (.ld 4 true (.t 3)), none⟩, ⟨(some 20), (.call (.c (.fn 83 [] [])) [(.t 18), (.c (.int .i64 (0))), (.t 19), (.c .emp)]), none⟩, ⟨(some 8), (.mv (.t 20)), none⟩]) (.seq (.seq (.reg [⟨(some 21), (.mv (.t 8)), none⟩, ⟨(some 22), (.len (.t 21)), none⟩, ⟨(some 23), (.bin .gtr (.t 22) (.c (.int .i64 (40)))), none⟩]) (.cond (.t 23) (.seq (.reg [⟨(some 4), (.mv (.c .emp)), none⟩, ⟨(some 5), (.mv (.c (.int .i64 (2)))), none⟩]) .ret) .skip)) (.seq (.reg [⟨(some 24), (.mv (.t 8)), none⟩, ⟨(some 4), (.mv (.t 24)), none⟩, ⟨(some 5), (.mv (.c (.int .i64 (0)))), none⟩]) .ret)))))), [(.tmp 4), (.tmp 5)]⟩
theorem hc32 : toSF Tryd.prog {pure := [82]} Tryd.f32 = some c32 := by kernel_rfl
theorem hn32 : (Tryd.f32.name == "runtime.NumGoroutine") = false := by kernel_rfl
theorem scut0_ok (d : HDoc) (sm : DocSm d) (s : HSpan) : PCalls (Pg G) 32 [.agg (eDoc d), .agg (eS s)] (.tup [.slc ((cutL d s).map eE0), aInt (cutErr d s)]) := PCalls.accT (ty := 87) (sz := 12) fun h => by
  have hC := span_ok (G := G) d sm s
  refine dcalls_of_vc Tryd.func32 hn32 hc32 (by rw [Tryd.ntmps32]; simp) (by rw [Tryd.ntmps32]; decide) ?_
  simp -dsimp -implicitDefEqProofs (disch := omega) only [VCA, pg_gl, ↓upd_none, Nat.reduceEqDiff, Nat.reduceBEq, Nat.reduceAdd, Nat.reduceSub, Nat.reduceMul, Nat.reduceLT, Nat.reduceLeDiff, ↓reduceIte, reduceCtorEq, rsOf, rootsOf, SOp.rd, SI.rd, SX.rd, rdL, rdO, rdP, okParts, eqCells, okEqCells, fillA, okFill, setAt, implies_true, forall_const, forall_eq, ne_eq, exists_eq_right_right, exists_eq_right, exists_eq_left, exists_eq_left', eInt, eBool, lit_eq, c32, eDoc_len, eDoc_take, eDoc_drop, eS_len, eS_take, List.append_nil]
  refine pcallE.of (hC) ?_; simp -dsimp -implicitDefEqProofs (disch := omega) only [VCA, pg_gl, ↓upd_none, Nat.reduceEqDiff, Nat.reduceBEq, Nat.reduceAdd, Nat.reduceSub, Nat.reduceMul, Nat.reduceLT, Nat.reduceLeDiff, ↓reduceIte, reduceCtorEq, rsOf, rootsOf, SOp.rd, SI.rd, SX.rd, rdL, rdO, rdP, okParts, eqCells, okEqCells, fillA, okFill, setAt, implies_true, forall_const, forall_eq, ne_eq, exists_eq_right_right, exists_eq_right, exists_eq_left, exists_eq_left', eInt, eBool, lit_eq, eDoc_len, eDoc_take, eDoc_drop, List.append_nil]
  intro r hr
  by_cases h1 : spanE d s = 0
  · obtain ⟨hz, ho⟩ := spanE_zero h1
    obtain ⟨hd, hp, hq⟩ := pointsE_zero hz
    have V := docE_DV hd
    have S1 := (Sub.refl h).upd (x := some ⟨124, 2, [eDoc d]⟩) hr
    have hK := rcut_ok (G := G) d V sm s hp hq 0 V.zero (chain_self _ _) h _ [] .emp .nil S1 (by simp)
    rw [h1]
    have hE : cutErr d s = if 40 < (cutM d s 0).length then 2 else 0 := by unfold cutErr; rw [if_neg (by simpa using h1)]
    unfold cutL
    rw [hE]
    repeat' (first | ((with_reducible refine Br.dec (fun _ => ?_) (fun _ => ?_)) <;> try (exfalso; omega)) | ((with_reducible refine Br.eq (fun _ => ?_) (fun _ => ?_)) <;> try (exfalso; omega)) | ((with_reducible refine Br.ne (fun _ => ?_) (fun _ => ?_)) <;> try (exfalso; omega)) | ((with_reducible refine brNdec (fun _ => ?_) (fun _ => ?_)) <;> try (exfalso; omega)) | ((with_reducible refine brNeq (fun _ => ?_) (fun _ => ?_)) <;> try (exfalso; omega)) | with_reducible refine Br.intro (fun _ => ?_) (fun _ => ?_) | ((refine DCalls.of hK ?_; rintro a h2 ⟨A2, S2⟩)) | (with_reducible refine And.intro ?_ ?_; · omega) | simp -dsimp -implicitDefEqProofs (disch := omega) only [VCA, pg_gl, ↓upd_none, Nat.reduceEqDiff, Nat.reduceBEq, Nat.reduceAdd, Nat.reduceSub, Nat.reduceMul, Nat.reduceLT, Nat.reduceLeDiff, ↓reduceIte, reduceCtorEq, rsOf, rootsOf, SOp.rd, SI.rd, SX.rd, rdL, rdO, rdP, okParts, eqCells, okEqCells, fillA, okFill, setAt, implies_true, forall_const, forall_eq, ne_eq, exists_eq_right_right, exists_eq_right, exists_eq_left, exists_eq_left', eInt, eBool, lit_eq, h1, upd_same, eDoc_len, eDoc_take, eDoc_drop, List.append_nil, eS_len, eS_take])
    rw [List.nil_append] at A2
    obtain ⟨l1, l2⟩ := A2.len
    rw [List.length_map] at l1
    repeat' (first | ((with_reducible refine Br.dec (fun _ => ?_) (fun _ => ?_)) <;> try (exfalso; omega)) | ((with_reducible refine Br.eq (fun _ => ?_) (fun _ => ?_)) <;> try (exfalso; omega)) | ((with_reducible refine Br.ne (fun _ => ?_) (fun _ => ?_)) <;> try (exfalso; omega)) | ((with_reducible refine brNdec (fun _ => ?_) (fun _ => ?_)) <;> try (exfalso; omega)) | ((with_reducible refine brNeq (fun _ => ?_) (fun _ => ?_)) <;> try (exfalso; omega)) | with_reducible refine Br.intro (fun _ => ?_) (fun _ => ?_) | (with_reducible refine And.intro ?_ ?_; · omega) | simp -dsimp -implicitDefEqProofs (disch := omega) only [VCA, pg_gl, ↓upd_none, Nat.reduceEqDiff, Nat.reduceBEq, Nat.reduceAdd, Nat.reduceSub, Nat.reduceMul, Nat.reduceLT, Nat.reduceLeDiff, ↓reduceIte, reduceCtorEq, rsOf, rootsOf, SOp.rd, SI.rd, SX.rd, rdL, rdO, rdP, okParts, eqCells, okEqCells, fillA, okFill, setAt, implies_true, forall_const, forall_eq, ne_eq, exists_eq_right_right, exists_eq_right, exists_eq_left, exists_eq_left', eInt, eBool, lit_eq, l1, l2])
    · exact ⟨_, Sub.refl _, .emp, by simp only [if_pos (show 40 < (cutM d s 0).length by omega)], by simp only [if_pos (show 40 < (cutM d s 0).length by omega)]; exact ⟨.nil, S2⟩⟩
    · exact ⟨_, Sub.refl _, a, by simp only [if_neg (show ¬ 40 < (cutM d s 0).length by omega)], by simp only [if_neg (show ¬ 40 < (cutM d s 0).length by omega)]; exact ⟨A2, S2⟩⟩
  · have hE : cutErr d s = spanE d s := by unfold cutErr; rw [if_pos h1]
    have hL : cutL d s = [] := by unfold cutL; rw [hE, if_neg h1]
    rw [hE, hL]
    repeat' (first | ((with_reducible refine Br.dec (fun _ => ?_) (fun _ => ?_)) <;> try (exfalso; omega)) | ((with_reducible refine Br.eq (fun _ => ?_) (fun _ => ?_)) <;> try (exfalso; omega)) | ((with_reducible refine Br.ne (fun _ => ?_) (fun _ => ?_)) <;> try (exfalso; omega)) | ((with_reducible refine brNdec (fun _ => ?_) (fun _ => ?_)) <;> try (exfalso; omega)) | ((with_reducible refine brNeq (fun _ => ?_) (fun _ => ?_)) <;> try (exfalso; omega)) | with_reducible refine Br.intro (fun _ => ?_) (fun _ => ?_) | (with_reducible refine And.intro ?_ ?_; · omega) | simp -dsimp -implicitDefEqProofs (disch := omega) only [VCA, pg_gl, ↓upd_none, Nat.reduceEqDiff, Nat.reduceBEq, Nat.reduceAdd, Nat.reduceSub, Nat.reduceMul, Nat.reduceLT, Nat.reduceLeDiff, ↓reduceIte, reduceCtorEq, rsOf, rootsOf, SOp.rd, SI.rd, SX.rd, rdL, rdO, rdP, okParts, eqCells, okEqCells, fillA, okFill, setAt, implies_true, forall_const, forall_eq, ne_eq, exists_eq_right_right, exists_eq_right, exists_eq_left, exists_eq_left', eInt, eBool, lit_eq, h1, upd_same, eDoc_len, eDoc_take, eDoc_drop, List.append_nil])
    exact ⟨_, Sub.refl _, .emp, rfl, .nil, (Sub.refl h).upd hr⟩
theorem scut_ok (d : HDoc) (sm : DocSm d) (s : HSpan) : PCalls (Pg G) 32 [.agg (eDoc d), .agg (eS s)] (.tup [sl eEdit (cutL d s), aInt (cutErr d s)]) := fun h =>
  DCalls.res (scut0_ok (G := G) d sm s h) fun a h' ⟨ha, hh⟩ => by
    subst ha
    refine ⟨_, .tup' (.cons (.slc' (eE0_wks fun e he => ?_)) (.cons (.refl _) .nil)), rfl, hh⟩
    unfold cutL at he
    split at he
    · rename_i h1
      have hs : spanE d s = 0 := by
        unfold cutErr at h1
        split at h1
        · contradiction
        · rename_i h2; simpa using h2
      exact cutM_bare (docE_DV (pointsE_zero (spanE_zero hs).1).1) s 0 (docE_DV (pointsE_zero (spanE_zero hs).1).1).zero e he
    · cases he
/-! ## what must be in any case -/
def oneS1 : HSpan := ⟨⟨2, 1⟩, ⟨1, 1⟩⟩
def oneS2 : HSpan := ⟨⟨1, 0⟩, ⟨2, 1⟩⟩
theorem one_span : spanE oneD oneS1 = 0 ∧ textS oneD oneS1 (below oneD 0) = [10] ∧ cutErr oneD oneS2 = 0 ∧ cutL oneD oneS2 = [zE 3 2 [10]] := by decide +kernel
def c35 : SFun := ⟨(.seq (.reg [⟨(some 0), (.mv (.c (.bool false))), none⟩]) (.seq (.reg [⟨(some 6), (.pcall 75 []), none⟩, ⟨(some 7), (.bld [(.int .i64 (0)), (.int .i64 (0))] [(0, (1, (.c (.int .i64 (2))))), (1, (1, (.c (.int .i64 (1)))))]), none⟩, ⟨(some 8), (.bld [(.int .i64 (0)), (.int .i64 (0))] [(0, (1, (.c (.int .i64 (1))))), (1, (1, (.c (.int .i64 (1)))))]), none⟩, ⟨(some 9), (.bld [(.int .i64 (0)), (.int .i64 (0)), (.int .i64 (0)), (.int .i64 (0))] [(0, (2, (.t 7))), (2, (2, (.t 8)))]), none⟩, ⟨(some 10), (.pcall 38 [(.t 6), (.t 9)]), none⟩, ⟨(some 5), (.mv (.t 10)), none⟩, ⟨(some 11), (.ext (.t 5) 0), none⟩, ⟨(some 12), (.ext (.t 5) 1), none⟩, ⟨(some 1), (.mv (.t 11)), none⟩, ⟨(some 2), (.mv (.t 12)), none⟩]) (.seq (.reg [⟨(some 14), (.pcall 75 []), none⟩, ⟨(some 15), (.bld [(.int .i64 (0)), (.int .i64 (0))] [(0, (1, (.c (.int .i64 (1)))))]), none⟩, ⟨(some 16), (.bld [(.int .i64 (0)), (.int .i64 (0))] [(0, (1, (.c (.int .i64 (2))))), (1, (1, (.c (.int .i64 (1)))))]), none⟩, ⟨(some 17), (.bld [(.int .i64 (0)), (.int .i64 (0)), (.int .i64 (0)), (.int .i64 (0))] [(0, (2, (.t 15))), (2, (2, (.t 16)))]), none⟩, ⟨(some 18), (.pcall 32 [(.t 14), (.t 17)]), none⟩, ⟨(some 13), (.mv (.t 18)), none⟩, ⟨(some 19), (.ext (.t 13) 0), none⟩, ⟨(some 20), (.ext (.t 13) 1), none⟩, ⟨(some 3), (.mv (.t 19)), none⟩, ⟨(some 4), (.mv (.t 20)), none⟩]) (.seq (.reg [⟨(some 21), (.mv (.t 1)), none⟩, ⟨(some 22), (.bin .eql (.t 21) (.c (.str [10]))), none⟩, ⟨(some 23), (.mv (.t 22)), none⟩, ⟨(some 24), (.mv (.t 2)), (some (23, true))⟩, ⟨(some 25), (.bin .eql (.t 24) (.c (.int .i64 (0)))), (some (23, true))⟩, ⟨(some 26), (.pick (.t 23) (.t 25) (.c (.bool false))), none⟩, ⟨(some 27), (.mv (.t 26)), none⟩, ⟨(some 28), (.mv (.t 4)), (some (27, true))⟩, ⟨(some 29), (.bin .eql (.t 28) (.c (.int .i64 (0)))), (some (27, true))⟩, ⟨(some 30), (.pick (.t 27) (.t 29) (.c (.bool false))), none⟩, ⟨(some 31), (.mv (.t 30)), none⟩, ⟨(some 32), (.mv (.t 3)), (some (31, true))⟩, ⟨(some 33), (.len (.t 32)), (some (31, true))⟩, ⟨(some 34), (.bin .eql (.t 33) (.c (.int .i64 (1)))), (some (31, true))⟩, ⟨(some 35), (.pick (.t 31) (.t 34) (.c (.bool false))), none⟩, ⟨(some 36), (.mv (.t 35)), none⟩, ⟨(some 37), (.mv (.t 3)), (some (36, true))⟩, ⟨(some 38), (.idxA 12 (.t 37) (.c (.int .i64 (0)))), (some (36, true))⟩, ⟨(some 39), (.fldA 5 (.t 38)), (some (36, true))⟩, ⟨(some 40), (.ld 1 false (.t 39)), (some (36, true))⟩, ⟨(some 41), (.bin .eql (.t 40) (.c (.str [10]))), (some (36, true))⟩, ⟨(some 42), (.pick (.t 36) (.t 41) (.c (.bool false))), none⟩, ⟨(some 0), (.mv (.t 42)), none⟩]) .ret)))), [(.tmp 0)]⟩
theorem hc35 : toSF Tryd.prog {pure := [75, 38, 32]} Tryd.f35 = some c35 := by kernel_rfl
theorem hn35 : (Tryd.f35.name == "runtime.NumGoroutine") = false := by kernel_rfl
theorem spanBegun_ok : PCalls (Pg G) 35 [] (.bool true) := fun h => by
  obtain ⟨c1, c2, c3, c4⟩ := one_span
  have h1 : PCalls (Pg G) 38 [.agg (eDoc oneD), .agg [aInt 2, aInt 1, aInt 1, aInt 1]] (.tup [.str [10], aInt 0]) := by
    have h := stext_ok (G := G) oneD oneD_sm oneS1
    rw [c1, if_pos rfl, c2] at h
    exact h
  have h2 : PCalls (Pg G) 32 [.agg (eDoc oneD), .agg [aInt 1, aInt 0, aInt 2, aInt 1]] (.tup [.slc [[aInt 3, aInt 2, aInt 0, aInt 0, .str [], .str [10], aInt 0, .str [], .slc [], .str [], aInt 0, .slc []]], aInt 0]) := by
    have h := scut_ok (G := G) oneD oneD_sm oneS2
    rw [c3, c4] at h
    exact h
  refine dcalls_of_vc Tryd.func35 hn35 hc35 (by rw [Tryd.ntmps35]; simp) (by rw [Tryd.ntmps35]; decide) ?_
  simp -dsimp -implicitDefEqProofs (disch := omega) only [↓vcOps_sp 23, ↓vcD_sp 23, ↓vcOps_sp 27, ↓vcD_sp 27, ↓vcOps_sp 31, ↓vcD_sp 31, ↓vcOps_sp 36, ↓vcD_sp 36, VCA, pg_gl, ↓upd_none, Nat.reduceEqDiff, Nat.reduceBEq, Nat.reduceAdd, Nat.reduceSub, Nat.reduceMul, Nat.reduceLT, Nat.reduceLeDiff, ↓reduceIte, reduceCtorEq, rsOf, rootsOf, SOp.rd, SI.rd, SX.rd, rdL, rdO, rdP, okParts, eqCells, okEqCells, fillA, okFill, setAt, implies_true, forall_const, forall_eq, ne_eq, exists_eq_right_right, exists_eq_right, exists_eq_left, exists_eq_left', eInt, eBool, lit_eq, c35]
  repeat' (first | ((with_reducible refine Br.dec (fun _ => ?_) (fun _ => ?_)) <;> try (exfalso; omega)) | ((with_reducible refine Br.eq (fun _ => ?_) (fun _ => ?_)) <;> try (exfalso; omega)) | ((with_reducible refine Br.ne (fun _ => ?_) (fun _ => ?_)) <;> try (exfalso; omega)) | ((with_reducible refine brNdec (fun _ => ?_) (fun _ => ?_)) <;> try (exfalso; omega)) | ((with_reducible refine brNeq (fun _ => ?_) (fun _ => ?_)) <;> try (exfalso; omega)) | with_reducible refine Br.intro (fun _ => ?_) (fun _ => ?_) | (with_reducible apply pcallE.of; · exact oneP_ok (G := G)) | (with_reducible apply pcallE.of; · exact h1) | (with_reducible apply pcallE.of; · exact h2) | (with_reducible refine And.intro ?_ ?_; · omega) | simp -dsimp -implicitDefEqProofs (disch := omega) only [↓vcOps_sp 23, ↓vcD_sp 23, ↓vcOps_sp 27, ↓vcD_sp 27, ↓vcOps_sp 31, ↓vcD_sp 31, ↓vcOps_sp 36, ↓vcD_sp 36, VCA, pg_gl, ↓upd_none, Nat.reduceEqDiff, Nat.reduceBEq, Nat.reduceAdd, Nat.reduceSub, Nat.reduceMul, Nat.reduceLT, Nat.reduceLeDiff, ↓reduceIte, reduceCtorEq, rsOf, rootsOf, SOp.rd, SI.rd, SX.rd, rdL, rdO, rdP, okParts, eqCells, okEqCells, fillA, okFill, setAt, implies_true, forall_const, forall_eq, ne_eq, exists_eq_right_right, exists_eq_right, exists_eq_left, exists_eq_left', eInt, eBool, lit_eq, eEdit, zE])
  all_goals first | exact ⟨Sub.refl _, rfl⟩ | (rename_i q; exact absurd rfl q)
/-! ## the law of points -/
end Go.Proofs.K
end
section
/- Ranges: what is cut: plain law. -/
set_option linter.unusedSimpArgs false
set_option linter.unusedVariables false
namespace Go.Proofs.K
open Go Go.Sim Go.Proofs
section
variable {d : HDoc}
/-- the marks of a kid, and those beside them -/
theorem marks_kid (V : DV d) {n : Int} (hn : inD d n) (hc : 0 ∈ chain d n) {i : Nat} (hi : i < (nd d n).kids.length) :
    ∃ X Y, marks d 0 = X ++ ⟨n, (i : Int)⟩ :: (marks d (nth (nd d n).kids i) ++ ⟨n, (i : Int) + 1⟩ :: Y) := by
  obtain ⟨A, B, c⟩ := ctx_of V n hn hc
  obtain ⟨X0, Y0, e0⟩ := marks_ctx V c
  have key : ∀ i, i < (nd d n).kids.length → ∃ X Y, marks d n = X ++ ⟨n, (i : Int)⟩ :: (marks d (nth (nd d n).kids i) ++ ⟨n, (i : Int) + 1⟩ :: Y) := fun i hi => by
    have hr : List.range (nd d n).kids.length = List.range i ++ i :: ((List.range (nd d n).kids.length).drop (i + 1)) := by
      have := split_nth (l := List.range (nd d n).kids.length) (k := i) (by simpa using hi)
      rw [List.take_range, Nat.min_eq_left (by omega)] at this
      have e : nth (List.range (nd d n).kids.length) i = i := by unfold nth; rw [List.getD_eq_getElem?_getD, List.getElem?_range hi]; rfl
      rw [e] at this
      exact this
    have me := marks_eq V hn
    rw [hr, List.flatMap_append, List.flatMap_cons] at me
    cases i with
    | zero =>
      refine ⟨[], (List.flatMap (fun i => marks d (nth (nd d n).kids i) ++ [(⟨n, (i : Int) + 1⟩ : HPoint)]) ((List.range (nd d n).kids.length).drop 1)) ++ (List.range (textM (nd d n)).length).map fun i : Nat => (⟨n, (i : Int) + 1⟩ : HPoint), ?_⟩
      rw [me]
      simp
    | succ j =>
      refine ⟨⟨n, 0⟩ :: ((List.range j).flatMap (fun i => marks d (nth (nd d n).kids i) ++ [(⟨n, (i : Int) + 1⟩ : HPoint)]) ++ marks d (nth (nd d n).kids j)), (List.flatMap (fun i => marks d (nth (nd d n).kids i) ++ [(⟨n, (i : Int) + 1⟩ : HPoint)]) ((List.range (nd d n).kids.length).drop (j + 1 + 1))) ++ (List.range (textM (nd d n)).length).map fun i : Nat => (⟨n, (i : Int) + 1⟩ : HPoint), ?_⟩
      rw [me, List.range_succ, List.flatMap_append]
      simp
  obtain ⟨X, Y, e⟩ := key i hi
  exact ⟨X0 ++ X, Y ++ Y0, by rw [e0, e]; simp⟩
/-- lies a node between the two points? -/
def liesM (d : HDoc) (s : HSpan) (n : Int) : Prop :=
  0 ≤ (nd d n).parent ∧ n ∉ chain d s.a.node ∧ n ∉ chain d s.b.node ∧ markM d s.a ≤ markM d ⟨(nd d n).parent, idxM (· == n) (nd d (nd d n).parent).kids⟩ ∧ markM d ⟨(nd d n).parent, idxM (· == n) (nd d (nd d n).parent).kids + 1⟩ ≤ markM d s.b
instance (d : HDoc) (s : HSpan) (n : Int) : Decidable (liesM d s n) := by unfold liesM; infer_instance
/-- what is left of a text, letter by letter -/
def leftR (t : List UInt8) (n : Int) (s : HSpan) : List UInt8 := (List.range t.length).flatMap fun k : Nat => if (s.a.node ≠ n ∨ s.a.at' ≤ k) ∧ (s.b.node ≠ n ∨ (k : Int) < s.b.at') then [] else (t.drop k).take 1
def cutR (d : HDoc) (s : HSpan) (n : Int) : List HEdit :=
  if liesM d s n then (if liesM d s (nd d n).parent then [] else [zE 6 n []])
  else if ¬ ((nd d n).kind = 3 ∨ (nd d n).kind = 4) ∨ (s.a.node ≠ n ∧ s.b.node ≠ n) then []
  else if leftR (nd d n).text n s = (nd d n).text then [] else [zE 3 n (leftR (nd d n).text n s)]
theorem left_slice : ∀ (t : List UInt8) (lo hi : Nat), lo ≤ hi → (List.range t.length).flatMap (fun k : Nat => if lo ≤ k ∧ k < hi then [] else (t.drop k).take 1) = t.take lo ++ t.drop hi
  | [], lo, hi, _ => by simp
  | x :: t, lo, hi, h => by
    rw [List.length_cons, List.range_succ_eq_map, List.flatMap_cons, List.flatMap_map]
    have e : ((List.range t.length).flatMap fun a : Nat => if lo ≤ a.succ ∧ a.succ < hi then [] else ((x :: t).drop a.succ).take 1) = t.take (lo - 1) ++ t.drop (hi - 1) := by
      rw [← left_slice t (lo - 1) (hi - 1) (by omega)]
      refine flatMap_cong fun k _ => ?_
      show (if lo ≤ k + 1 ∧ k + 1 < hi then [] else (t.drop k).take 1) = _
      by_cases h : lo ≤ k + 1 ∧ k + 1 < hi
      · rw [if_pos h, if_pos (by omega)]
      · rw [if_neg h, if_neg (by omega)]
    rw [e]
    cases lo with
    | zero => cases hi with
      | zero => simp
      | succ hi => simp
    | succ lo => cases hi with
      | zero => omega
      | succ hi => simp
theorem leftR_eq {t : List UInt8} {n : Int} {s : HSpan} (h : s.a.node = n ∨ s.b.node = n) (ha : s.a.node = n → 0 ≤ s.a.at' ∧ s.a.at' ≤ t.length) (hb : s.b.node = n → 0 ≤ s.b.at' ∧ s.b.at' ≤ t.length) (ho : s.a.node = n → s.b.node = n → s.a.at' ≤ s.b.at') :
    leftR t n s = leftM t n s := by
  unfold leftM
  rw [← left_slice _ _ _ (by
    by_cases h1 : s.a.node = n <;> by_cases h2 : s.b.node = n
    · have := ho h1 h2; rw [if_pos h1, if_pos h2]; omega
    · rw [if_pos h1, if_neg h2]; have := ha h1; omega
    · rw [if_neg h1]; omega
    · exact absurd h (by simp [h1, h2]))]
  unfold leftR
  refine flatMap_cong fun k hk => ?_
  have hk := List.mem_range.1 hk
  have : ((s.a.node ≠ n ∨ s.a.at' ≤ k) ∧ (s.b.node ≠ n ∨ (k : Int) < s.b.at')) ↔ ((if s.a.node = n then s.a.at' else 0).toNat ≤ k ∧ k < (if s.b.node = n then s.b.at' else t.length).toNat) := by
    by_cases h1 : s.a.node = n <;> by_cases h2 : s.b.node = n
    · rw [if_pos h1, if_pos h2]; have := ha h1; have := hb h2
      constructor
      · rintro ⟨g1, g2⟩
        have g1 := g1.resolve_left (fun h => h h1)
        have g2 := g2.resolve_left (fun h => h h2)
        omega
      · rintro ⟨g1, g2⟩; exact ⟨.inr (by omega), .inr (by omega)⟩
    · rw [if_pos h1, if_neg h2]; have := ha h1
      constructor
      · rintro ⟨g1, _⟩
        have g1 := g1.resolve_left (fun h => h h1)
        omega
      · rintro ⟨g1, g2⟩; exact ⟨.inr (by omega), .inl h2⟩
    · rw [if_neg h1, if_pos h2]; have := hb h2
      constructor
      · rintro ⟨_, g2⟩
        have g2 := g2.resolve_left (fun h => h h2)
        omega
      · rintro ⟨g1, g2⟩; exact ⟨.inl h1, .inr (by omega)⟩
    · exact absurd h (by simp [h1, h2])
  by_cases hh : (s.a.node ≠ n ∨ s.a.at' ≤ k) ∧ (s.b.node ≠ n ∨ (k : Int) < s.b.at')
  · rw [if_pos hh, if_pos (this.1 hh)]
  · rw [if_neg hh, if_neg (fun h => hh (this.2 h))]
/-- the reference's cut, node by node -/
theorem cut_is (V : DV d) {s : HSpan} (ha : pointE d s.a = 0) (hb : pointE d s.b = 0) (ho : orderM d s.a s.b ≤ 0) : ∀ n, inD d n → 0 ∈ chain d n → ¬ liesM d s n →
    (nd d n).kids.flatMap (fun k => (below d k).flatMap (cutR d s)) = cutM d s n := V.down fun n hn ih hc hl => by
  obtain ⟨a1, a2, a3, a4, a5⟩ := point_marks V ha
  obtain ⟨b1, b2, b3, b4, b5⟩ := point_marks V hb
  have nd0 := sorted_nodup (marks_sorted V 0 V.zero)
  rw [cut_eq V s hn, ← range_flat (fun k => (below d k).flatMap (cutR d s))]
  refine flatMap_cong fun i hi => ?_
  have hi := List.mem_range.1 hi
  have hk := nth_mem' hi
  obtain ⟨ki, kp⟩ := V.kid n hn _ hk
  obtain ⟨X, Y, e⟩ := marks_kid V hn hc hi
  have idx := nodup_at (V.nodup n hn) hi
  have ihk := ih _ hk
  unfold cutK
  simp only
  generalize nth (nd d n).kids i = k at *
  have kp0 : 0 ≤ (nd d k).parent := by rw [kp]; exact hn.1
  have kc : 0 ∈ chain d k := by rw [chain_up V ki kp0, kp]; exact List.mem_cons_of_mem _ hc
  -- the places of the marks
  have m1 : markM d ⟨n, (i : Int)⟩ = X.length := idx_nd nd0 e
  have m2 : markM d ⟨n, (i : Int) + 1⟩ = X.length + 1 + (marks d k).length := by
    have := idx_nd nd0 (A := X ++ ⟨n, (i : Int)⟩ :: marks d k) (B := Y) (x := ⟨n, (i : Int) + 1⟩) (by rw [e]; simp)
    unfold markM; rw [this]; simp; omega
  have min' : ∀ p ∈ marks d k, (X.length : Int) < markM d p ∧ markM d p < X.length + 1 + (marks d k).length := fun p hp => by
    obtain ⟨A1, A2, e2⟩ := List.append_of_mem hp
    have := idx_nd nd0 (A := X ++ ⟨n, (i : Int)⟩ :: A1) (B := A2 ++ ⟨n, (i : Int) + 1⟩ :: Y) (x := p) (by rw [e, e2]; simp)
    unfold markM; rw [this, e2]; simp; omega
  have mout : ∀ p ∈ marks d 0, p ∉ marks d k → markM d p ≤ X.length ∨ X.length + 1 + (marks d k).length ≤ markM d p := fun p hp hpk => by
    rw [e] at hp
    rcases List.mem_append.1 hp with hp | hp
    · left
      obtain ⟨A1, A2, e2⟩ := List.append_of_mem hp
      have := idx_nd nd0 (A := A1) (B := A2 ++ ⟨n, (i : Int)⟩ :: (marks d k ++ ⟨n, (i : Int) + 1⟩ :: Y)) (x := p) (by rw [e, e2]; simp)
      unfold markM; rw [this, e2]; simp; omega
    · rcases List.mem_cons.1 hp with rfl | hp
      · left; rw [m1]; exact Int.le_refl _
      · right
        rcases List.mem_append.1 hp with hp | hp
        · exact absurd hp hpk
        · obtain ⟨A1, A2, e2⟩ := List.append_of_mem hp
          have := idx_nd nd0 (A := X ++ ⟨n, (i : Int)⟩ :: (marks d k ++ A1)) (B := A2) (x := p) (by rw [e, e2]; simp)
          unfold markM; rw [this]; simp; omega
  have hlk : liesM d s k ↔ k ∉ chain d s.a.node ∧ k ∉ chain d s.b.node ∧ markM d s.a ≤ X.length ∧ X.length + 1 + (marks d k).length ≤ markM d s.b := by
    unfold liesM
    rw [kp, idx, m1, m2]
    exact ⟨fun h => h.2, fun h => ⟨hn.1, h⟩⟩
  have rn : roomM d n = (nd d n).kids.length := by
    rcases node_split V hn with ⟨h, _⟩ | ⟨_, h, _⟩
    · rw [h] at hi; simp at hi
    · exact h
  have p0 := point_marks V ha
  have q1 : (⟨n, (i : Int)⟩ : HPoint) ∈ marks d 0 := by rw [e]; simp
  have q2 : (⟨n, (i : Int) + 1⟩ : HPoint) ∈ marks d 0 := by rw [e]; simp
  have o1 : orderM d s.a ⟨n, (i : Int)⟩ ≤ 0 ↔ markM d s.a ≤ X.length := by
    rw [order_mark V a5 q1, m1]; rcases cmpI_cases (markM d s.a) (X.length : Int) with h | h | h <;> omega
  have o2 : orderM d ⟨n, (i : Int) + 1⟩ s.b ≤ 0 ↔ X.length + 1 + (marks d k).length ≤ markM d s.b := by
    rw [order_mark V q2 b5, m2]; rcases cmpI_cases ((X.length : Int) + 1 + (marks d k).length) (markM d s.b) with h | h | h <;> omega
  by_cases hT : k ∈ chain d s.a.node ∨ k ∈ chain d s.b.node
  · rw [if_pos hT]
    have nl : ¬ liesM d s k := fun h => by
      rw [hlk] at h
      rcases hT with h1 | h1
      · exact h.1 h1
      · exact h.2.1 h1
    rw [below_eq V ki, List.flatMap_cons]
    by_cases h3 : (nd d k).kind = 3 ∨ (nd d k).kind = 4
    · rw [if_pos h3]
      have hs : (nd d k).kids = [] := by
        have h := ((nodeE_iff _).1 (V.node k ki)).2.1
        unfold bareM at h
        simp only [Bool.and_eq_true, Bool.or_eq_true, decide_eq_true_eq] at h
        rcases h.2 with (h | h) | h
        · omega
        · omega
        · exact h
      have bk : below d k = [k] := by rw [below_eq V ki, hs]; rfl
      have hab : s.a.node = k ∨ s.b.node = k := by
        rcases hT with h | h
        · left
          have := (mem_below V a1 ki).2 h
          rw [bk] at this
          simpa using this
        · right
          have := (mem_below V b1 ki).2 h
          rw [bk] at this
          simpa using this
      have rk : roomM d k = (nd d k).text.length := by unfold roomM; rw [if_pos h3]
      rw [hs]
      simp only [List.flatMap_nil, List.append_nil]
      unfold cutR
      rw [if_neg nl, if_neg (by rintro (h | ⟨h, h'⟩); exact h h3; rcases hab with h1 | h1; exact h h1; exact h' h1)]
      rw [leftR_eq hab (fun h => ⟨a2, by rw [h, rk] at a3; exact a3⟩) (fun h => ⟨b2, by rw [h, rk] at b3; exact b3⟩) (fun h1 h2 => by
        unfold orderM at ho
        rw [if_pos (by rw [h1, h2])] at ho
        rcases cmpI_cases s.a.at' s.b.at' with h | h | h <;> omega)]
    · rw [if_neg h3]
      have hR : cutR d s k = [] := by
        unfold cutR
        rw [if_neg nl, if_pos (.inl h3)]
      rw [hR, List.nil_append, List.flatMap_assoc]
      exact ihk kc nl
  · rw [if_neg hT]
    simp only [not_or] at hT
    have out : ∀ m ∈ below d k, m ∉ chain d s.a.node ∧ m ∉ chain d s.b.node := fun m hm => by
      have hmi := below_in V k ki m hm
      have hkm := (mem_below V hmi ki).1 hm
      exact ⟨fun h => hT.1 (chain_trans V _ a1 m h k hkm), fun h => hT.2 (chain_trans V _ b1 m h k hkm)⟩
    have na : s.a ∉ marks d k := fun h => by
      have := (marks_node V k ki _ h).1
      exact (out _ this).1 (chain_self _ _)
    have nb : s.b ∉ marks d k := fun h => by
      have := (marks_node V k ki _ h).1
      exact (out _ this).2 (chain_self _ _)
    have oa := mout _ a5 na
    have ob := mout _ b5 nb
    -- below the kid
    have inn : ∀ m ∈ below d k, m ≠ k → (nd d m).parent ∈ below d k ∧ inD d m ∧ 0 ≤ (nd d m).parent ∧ (⟨(nd d m).parent, idxM (· == m) (nd d (nd d m).parent).kids⟩ : HPoint) ∈ marks d k ∧ (⟨(nd d m).parent, idxM (· == m) (nd d (nd d m).parent).kids + 1⟩ : HPoint) ∈ marks d k := fun m hm hne => by
      have hmi := below_in V k ki m hm
      have hkm := (mem_below V hmi ki).1 hm
      have hp : 0 ≤ (nd d m).parent := by
        by_cases hp : 0 ≤ (nd d m).parent
        · exact hp
        · rw [chain_top V hp] at hkm; simp at hkm; exact absurd hkm.symm hne
      rw [chain_up V hmi hp] at hkm
      have hkp := (List.mem_cons.1 hkm).resolve_left (fun h => hne h.symm)
      obtain ⟨hpi, hmk⟩ := V.par_in hmi hp
      have pb := (mem_below V hpi ki).2 hkp
      have i0 := (idx_mem (nd d (nd d m).parent).kids m).2 hmk
      have i1 := idxM_le (nd d (nd d m).parent).kids m
      have rp : roomM d (nd d m).parent = (nd d (nd d m).parent).kids.length := by
        rcases node_split V hpi with ⟨h, _⟩ | ⟨_, h, _⟩
        · rw [h] at hmk; cases hmk
        · exact h
      exact ⟨pb, hmi, hp, marks_sub V k ki _ pb _ (marks_has V hpi i0 (by omega)), marks_sub V k ki _ pb _ (marks_has V hpi (by omega) (by omega))⟩
    rw [below_eq V ki, List.flatMap_cons]
    by_cases hb' : orderM d s.a ⟨n, (i : Int)⟩ ≤ 0 ∧ orderM d ⟨n, (i : Int) + 1⟩ s.b ≤ 0
    · rw [if_pos hb']
      have lk : liesM d s k := hlk.2 ⟨hT.1, hT.2, o1.1 hb'.1, o2.1 hb'.2⟩
      have l1 := o1.1 hb'.1
      have l2 := o2.1 hb'.2
      have lm : ∀ m ∈ below d k, liesM d s m := fun m hm => by
        by_cases hne : m = k
        · rw [hne]; exact lk
        · obtain ⟨g1, g2, g3, g4, g5⟩ := inn m hm hne
          have := min' _ g4
          have := min' _ g5
          exact ⟨g3, (out m hm).1, (out m hm).2, by omega, by omega⟩
      have hR : cutR d s k = [zE 6 k []] := by unfold cutR; rw [if_pos lk, kp, if_neg hl]
      rw [hR]
      have : ((nd d k).kids.flatMap (below d)).flatMap (cutR d s) = [] := by
        refine List.flatMap_eq_nil_iff.2 fun m hm => ?_
        have hm' : m ∈ below d k := by rw [below_eq V ki]; exact List.mem_cons_of_mem _ hm
        have hne : m ≠ k := fun e => by
          have hnd := below_nodup V k ki
          rw [below_eq V ki, List.nodup_cons] at hnd
          rw [e] at hm; exact hnd.1 hm
        unfold cutR
        rw [if_pos (lm m hm'), if_pos (lm _ (inn m hm' hne).1)]
      rw [this]; rfl
    · rw [if_neg hb']
      have none : ∀ m ∈ below d k, cutR d s m = [] := fun m hm => by
        have nl : ¬ liesM d s m := fun h => by
          refine hb' ?_
          by_cases hne : m = k
          · rw [hne, hlk] at h
            exact ⟨o1.2 h.2.2.1, o2.2 h.2.2.2⟩
          · obtain ⟨g1, g2, g3, g4, g5⟩ := inn m hm hne
            have h4 := min' _ g4
            have h5 := min' _ g5
            obtain ⟨_, _, _, k1, k2⟩ := h
            exact ⟨o1.2 (by omega), o2.2 (by omega)⟩
        have hna : s.a.node ≠ m := fun h => (out m hm).1 (by rw [h]; exact chain_self _ _)
        have hnb : s.b.node ≠ m := fun h => (out m hm).2 (by rw [h]; exact chain_self _ _)
        unfold cutR
        rw [if_neg nl, if_pos (.inr ⟨hna, hnb⟩)]
      rw [none k (below_self V ki), List.nil_append]
      refine List.flatMap_eq_nil_iff.2 fun m hm => none m ?_
      rw [below_eq V ki]; exact List.mem_cons_of_mem _ hm
theorem cut_all (V : DV d) {s : HSpan} (ha : pointE d s.a = 0) (hb : pointE d s.b = 0) (ho : orderM d s.a s.b ≤ 0) : (below d 0).flatMap (cutR d s) = cutM d s 0 := by
  have nl : ¬ liesM d s 0 := fun h => by have := h.1; rw [V.root] at this; omega
  have h1 : (nd d 0).kind = 1 := (V.kind 0 V.zero).2 rfl
  rw [below_eq V V.zero, List.flatMap_cons]
  have : cutR d s 0 = [] := by unfold cutR; rw [if_neg nl, if_pos (.inl (by omega))]
  rw [this, List.nil_append, List.flatMap_assoc]
  exact cut_is V ha hb ho 0 V.zero (chain_self _ _) nl
end
end Go.Proofs.K
end
section
/- Ranges: the reference's cut; the law of cuts. -/
set_option linter.unusedSimpArgs false
set_option linter.unusedVariables false
namespace Go.Proofs.K
open Go Go.Sim Go.Proofs
variable {G : Glob}
def c85 : SFun := ⟨(.seq (.reg [⟨(some 3), (.boxF 24 2 (.t 0)), none⟩, ⟨(some 5), (.boxF 52 4 (.t 2)), none⟩, ⟨(some 6), (.mv (.c (.bool false))), none⟩]) (.seq (.reg [⟨(some 9), (.fldA 0 (.t 3)), none⟩, ⟨(some 10), (.ld 1 false (.t 9)), none⟩, ⟨(some 11), (.mv (.t 1)), none⟩, ⟨(some 12), (.idxA 6 (.t 10) (.t 11)), none⟩, ⟨(some 13), (.fldA 4 (.t 12)), none⟩, ⟨(some 14), (.ld 1 false (.t 13)), none⟩, ⟨(some 7), (.mv (.t 14)), none⟩]) (.seq (.seq (.reg [⟨(some 15), (.mv (.t 7)), none⟩, ⟨(some 16), (.bin .lss (.t 15) (.c (.int .i64 (0)))), none⟩, ⟨(some 17), (.mv (.t 16)), none⟩, ⟨(some 18), (.ld 2 true (.t 3)), (some (17, false))⟩, ⟨(some 19), (.fldA 0 (.t 5)), (some (17, false))⟩, ⟨(some 20), (.fldA 0 (.t 19)), (some (17, false))⟩, ⟨(some 21), (.ld 1 false (.t 20)), (some (17, false))⟩, ⟨(some 22), (.mv (.t 1)), (some (17, false))⟩, ⟨(some 23), (.pcall 26 [(.t 18), (.t 21), (.t 22)]), (some (17, false))⟩, ⟨(some 24), (.pick (.t 17) (.c (.bool true)) (.t 23)), none⟩, ⟨(some 25), (.mv (.t 24)), none⟩, ⟨(some 26), (.ld 2 true (.t 3)), (some (25, false))⟩, ⟨(some 27), (.fldA 2 (.t 5)), (some (25, false))⟩, ⟨(some 28), (.fldA 0 (.t 27)), (some (25, false))⟩, ⟨(some 29), (.ld 1 false (.t 28)), (some (25, false))⟩, ⟨(some 30), (.mv (.t 1)), (some (25, false))⟩, ⟨(some 31), (.pcall 26 [(.t 26), (.t 29), (.t 30)]), (some (25, false))⟩, ⟨(some 32), (.pick (.t 25) (.c (.bool true)) (.t 31)), none⟩]) (.cond (.t 32) (.seq (.reg [⟨(some 6), (.mv (.c (.bool false))), none⟩]) .ret) .skip)) (.seq (.reg [⟨(some 33), (.fldA 0 (.t 3)), none⟩, ⟨(some 34), (.ld 1 false (.t 33)), none⟩, ⟨(some 35), (.mv (.t 7)), none⟩, ⟨(some 36), (.idxA 6 (.t 34) (.t 35)), none⟩, ⟨(some 37), (.fldA 5 (.t 36)), none⟩, ⟨(some 38), (.ld 1 false (.t 37)), none⟩, ⟨(some 39), (.mv (.t 1)), none⟩, ⟨(some 40), (.pcall 74 [(.t 38), (.t 39)]), none⟩, ⟨(some 8), (.mv (.t 40)), none⟩]) (.seq (.dreg [(⟨(some 41), (.ld 2 true (.t 3)), none⟩, none), (⟨(some 42), (.fldA 0 (.t 5)), none⟩, none), (⟨(some 43), (.ld 2 true (.t 42)), none⟩, none), (⟨(some 44), (.pcall 84 [(.t 41), (.t 43)]), none⟩, none), (⟨(some 45), (.ld 2 true (.t 3)), none⟩, none), (⟨(some 46), (.mv (.t 7)), none⟩, none), (⟨(some 47), (.mv (.t 8)), none⟩, none), (⟨(some 48), (.bld [(.int .i64 (0)), (.int .i64 (0))] [(0, (1, (.t 46))), (1, (1, (.t 47)))]), none⟩, none), (⟨(some 49), (.pcall 84 [(.t 45), (.t 48)]), none⟩, none), (⟨(some 50), (.bin .leq (.t 44) (.t 49)), none⟩, none), (⟨(some 51), (.mv (.t 50)), none⟩, none), (⟨(some 52), (.ld 2 true (.t 3)), (some (51, true))⟩, none), (⟨(some 53), (.mv (.t 7)), (some (51, true))⟩, none), (⟨(some 54), (.mv (.t 8)), (some (51, true))⟩, none), (⟨(some 55), (.bin .add (.t 54) (.c (.int .i64 (1)))), (some (51, true))⟩, none), (⟨(some 56), (.bld [(.int .i64 (0)), (.int .i64 (0))] [(0, (1, (.t 53))), (1, (1, (.t 55)))]), (some (51, true))⟩, none), (⟨(some 57), (.pcall 84 [(.t 52), (.t 56)]), (some (51, true))⟩, none), (⟨(some 58), (.ld 2 true (.t 3)), (some (51, true))⟩, none), (⟨(some 59), (.fldA 2 (.t 5)), (some (51, true))⟩, none), (⟨(some 60), (.ld 2 true (.t 59)), (some (51, true))⟩, none), (⟨(some 61), (.pcall 84 [(.t 58), (.t 60)]), (some (51, true))⟩, none), (⟨(some 62), (.bin .leq (.t 57) (.t 61)), (some (51, true))⟩, none), (⟨(some 63), (.pick (.t 51) (.t 62) (.c (.bool false))), none⟩, none), (⟨(some 6), (.mv (.t 63)), none⟩, none)]) .ret))))), [(.tmp 6)]⟩
theorem hc85 : toSF Tryd.prog {pure := [26, 74, 84]} Tryd.f85 = some c85 := by kernel_rfl
theorem hn85 : (Tryd.f85.name == "runtime.NumGoroutine") = false := by kernel_rfl
theorem liesIn_ok (d : HDoc) (V : DV d) (sm : DocSm d) (s : HSpan) (ha : pointE d s.a = 0) (hb : pointE d s.b = 0) (n : Int) (hn : inD d n) : PCalls (Pg G) 85 [.agg (eDoc d), aInt n, .agg (eS s)] (.bool (decide (liesM d s n))) := fun h => by
  obtain ⟨a1, a2, a3, a4, a5⟩ := point_marks V ha
  obtain ⟨b1, b2, b3, b4, b5⟩ := point_marks V hb
  have hl := V.len
  have n0 := hn.1
  have n1 := hn.2
  have e0 : nth d.nodes n.toNat = nd d n := rfl
  have UA := under_ok (G := G) d V s.a.node n a1 n0
  have UB := under_ok (G := G) d V s.b.node n b1 n0
  unfold eDoc at UA UB
  refine dcalls_of_vc Tryd.func85 hn85 hc85 (by rw [Tryd.ntmps85]; simp) (by rw [Tryd.ntmps85]; decide) ?_
  by_cases hp : 0 ≤ (nd d n).parent
  · have hp' : ¬ (nd d n).parent < 0 := by omega
    obtain ⟨pi, pm⟩ := V.par_in hn hp
    have p1 := pi.2
    have ep : nth d.nodes (nd d n).parent.toNat = nd d (nd d n).parent := rfl
    have PI := placeIn_ok (G := G) (nd d (nd d n).parent).kids n (sm.nd _).kids
    have i1 := idxM_le (nd d (nd d n).parent).kids n
    have kl := (sm.nd (nd d n).parent).kids
    have MA := markOf_ok (G := G) d V sm s.a
    have MB := markOf_ok (G := G) d V sm s.b
    have M1 := markOf_ok (G := G) d V sm ⟨(nd d n).parent, idxM (· == n) (nd d (nd d n).parent).kids⟩
    have M2 := markOf_ok (G := G) d V sm ⟨(nd d n).parent, idxM (· == n) (nd d (nd d n).parent).kids + 1⟩
    unfold eDoc eP at MA MB M1 M2
    have lm : decide (liesM d s n) = (!decide (n ∈ chain d s.a.node) && (!decide (n ∈ chain d s.b.node) && (decide (markM d s.a ≤ markM d ⟨(nd d n).parent, idxM (· == n) (nd d (nd d n).parent).kids⟩) && decide (markM d ⟨(nd d n).parent, idxM (· == n) (nd d (nd d n).parent).kids + 1⟩ ≤ markM d s.b)))) := by
      rw [Bool.eq_iff_iff]; unfold liesM; simp [hp]
    rw [lm]
    generalize markM d ⟨(nd d n).parent, idxM (· == n) (nd d (nd d n).parent).kids⟩ = y1 at *
    generalize markM d ⟨(nd d n).parent, idxM (· == n) (nd d (nd d n).parent).kids + 1⟩ = y2 at *
    generalize idxM (· == n) (nd d (nd d n).parent).kids = ix at *
    generalize markM d s.a = x1 at *
    generalize markM d s.b = x2 at *
    generalize decide (n ∈ chain d s.a.node) = c1 at *
    generalize decide (n ∈ chain d s.b.node) = c2 at *
    simp -dsimp -implicitDefEqProofs (disch := omega) only [↓vcOps_sp 17, ↓vcD_sp 17, ↓vcOps_sp 25, ↓vcD_sp 25, ↓vcOps_sp 51, ↓vcD_sp 51, VCA, pg_gl, ↓upd_none, Nat.reduceEqDiff, Nat.reduceBEq, Nat.reduceAdd, Nat.reduceSub, Nat.reduceMul, Nat.reduceLT, Nat.reduceLeDiff, ↓reduceIte, reduceCtorEq, rsOf, rootsOf, SOp.rd, SI.rd, SX.rd, rdL, rdO, rdP, okParts, eqCells, okEqCells, fillA, okFill, setAt, implies_true, forall_const, forall_eq, ne_eq, exists_eq_right_right, exists_eq_right, exists_eq_left, exists_eq_left', eInt, eBool, lit_eq, c85, eDoc, eNode, eS, e0]
    cases c1
    · cases c2
      · repeat' (first | ((with_reducible refine Br.dec (fun _ => ?_) (fun _ => ?_)) <;> try (exfalso; omega)) | ((with_reducible refine Br.eq (fun _ => ?_) (fun _ => ?_)) <;> try (exfalso; omega)) | ((with_reducible refine Br.ne (fun _ => ?_) (fun _ => ?_)) <;> try (exfalso; omega)) | ((with_reducible refine brNdec (fun _ => ?_) (fun _ => ?_)) <;> try (exfalso; omega)) | ((with_reducible refine brNeq (fun _ => ?_) (fun _ => ?_)) <;> try (exfalso; omega)) | with_reducible refine Br.intro (fun _ => ?_) (fun _ => ?_) | (with_reducible apply pcallE.of; · exact UA) | (with_reducible apply pcallE.of; · exact UB) | (with_reducible apply pcallE.of; · exact PI) | (with_reducible apply pcallE.of; · exact MA) | (with_reducible apply pcallE.of; · exact M1) | (with_reducible apply pcallE.of; · exact M2) | (with_reducible apply pcallE.of; · exact MB) | (with_reducible refine And.intro ?_ ?_; · omega) | simp -dsimp -implicitDefEqProofs (disch := omega) only [↓vcOps_sp 17, ↓vcD_sp 17, ↓vcOps_sp 25, ↓vcD_sp 25, ↓vcOps_sp 51, ↓vcD_sp 51, VCA, pg_gl, ↓upd_none, Nat.reduceEqDiff, Nat.reduceBEq, Nat.reduceAdd, Nat.reduceSub, Nat.reduceMul, Nat.reduceLT, Nat.reduceLeDiff, ↓reduceIte, reduceCtorEq, rsOf, rootsOf, SOp.rd, SI.rd, SX.rd, rdL, rdO, rdP, okParts, eqCells, okEqCells, fillA, okFill, setAt, implies_true, forall_const, forall_eq, ne_eq, exists_eq_right_right, exists_eq_right, exists_eq_left, exists_eq_left', eInt, eBool, lit_eq, hp', eDoc, eNode, eS, e0, ep])
        all_goals first | exact ⟨Sub.refl _, by simp [*]⟩ | (exfalso; omega)
      · repeat' (first | ((with_reducible refine Br.dec (fun _ => ?_) (fun _ => ?_)) <;> try (exfalso; omega)) | ((with_reducible refine Br.eq (fun _ => ?_) (fun _ => ?_)) <;> try (exfalso; omega)) | ((with_reducible refine Br.ne (fun _ => ?_) (fun _ => ?_)) <;> try (exfalso; omega)) | ((with_reducible refine brNdec (fun _ => ?_) (fun _ => ?_)) <;> try (exfalso; omega)) | ((with_reducible refine brNeq (fun _ => ?_) (fun _ => ?_)) <;> try (exfalso; omega)) | with_reducible refine Br.intro (fun _ => ?_) (fun _ => ?_) | (with_reducible apply pcallE.of; · exact UA) | (with_reducible apply pcallE.of; · exact UB) | (with_reducible refine And.intro ?_ ?_; · omega) | simp -dsimp -implicitDefEqProofs (disch := omega) only [↓vcOps_sp 17, ↓vcD_sp 17, ↓vcOps_sp 25, ↓vcD_sp 25, ↓vcOps_sp 51, ↓vcD_sp 51, VCA, pg_gl, ↓upd_none, Nat.reduceEqDiff, Nat.reduceBEq, Nat.reduceAdd, Nat.reduceSub, Nat.reduceMul, Nat.reduceLT, Nat.reduceLeDiff, ↓reduceIte, reduceCtorEq, rsOf, rootsOf, SOp.rd, SI.rd, SX.rd, rdL, rdO, rdP, okParts, eqCells, okEqCells, fillA, okFill, setAt, implies_true, forall_const, forall_eq, ne_eq, exists_eq_right_right, exists_eq_right, exists_eq_left, exists_eq_left', eInt, eBool, lit_eq, hp', eDoc, eNode, eS, e0, ep])
        all_goals first | exact ⟨Sub.refl _, by simp⟩ | exact Sub.refl _
    · repeat' (first | ((with_reducible refine Br.dec (fun _ => ?_) (fun _ => ?_)) <;> try (exfalso; omega)) | ((with_reducible refine Br.eq (fun _ => ?_) (fun _ => ?_)) <;> try (exfalso; omega)) | ((with_reducible refine Br.ne (fun _ => ?_) (fun _ => ?_)) <;> try (exfalso; omega)) | ((with_reducible refine brNdec (fun _ => ?_) (fun _ => ?_)) <;> try (exfalso; omega)) | ((with_reducible refine brNeq (fun _ => ?_) (fun _ => ?_)) <;> try (exfalso; omega)) | with_reducible refine Br.intro (fun _ => ?_) (fun _ => ?_) | (with_reducible apply pcallE.of; · exact UA) | (with_reducible refine And.intro ?_ ?_; · omega) | simp -dsimp -implicitDefEqProofs (disch := omega) only [↓vcOps_sp 17, ↓vcD_sp 17, ↓vcOps_sp 25, ↓vcD_sp 25, ↓vcOps_sp 51, ↓vcD_sp 51, VCA, pg_gl, ↓upd_none, Nat.reduceEqDiff, Nat.reduceBEq, Nat.reduceAdd, Nat.reduceSub, Nat.reduceMul, Nat.reduceLT, Nat.reduceLeDiff, ↓reduceIte, reduceCtorEq, rsOf, rootsOf, SOp.rd, SI.rd, SX.rd, rdL, rdO, rdP, okParts, eqCells, okEqCells, fillA, okFill, setAt, implies_true, forall_const, forall_eq, ne_eq, exists_eq_right_right, exists_eq_right, exists_eq_left, exists_eq_left', eInt, eBool, lit_eq, hp', eDoc, eNode, eS, e0, ep])
      all_goals first | exact ⟨Sub.refl _, by simp⟩ | exact Sub.refl _
  · have hp' : (nd d n).parent < 0 := by omega
    have lm : decide (liesM d s n) = false := decide_eq_false (fun h => hp h.1)
    rw [lm]
    simp -dsimp -implicitDefEqProofs (disch := omega) only [↓vcOps_sp 17, ↓vcD_sp 17, ↓vcOps_sp 25, ↓vcD_sp 25, ↓vcOps_sp 51, ↓vcD_sp 51, VCA, pg_gl, ↓upd_none, Nat.reduceEqDiff, Nat.reduceBEq, Nat.reduceAdd, Nat.reduceSub, Nat.reduceMul, Nat.reduceLT, Nat.reduceLeDiff, ↓reduceIte, reduceCtorEq, rsOf, rootsOf, SOp.rd, SI.rd, SX.rd, rdL, rdO, rdP, okParts, eqCells, okEqCells, fillA, okFill, setAt, implies_true, forall_const, forall_eq, ne_eq, exists_eq_right_right, exists_eq_right, exists_eq_left, exists_eq_left', eInt, eBool, lit_eq, c85, eDoc, eNode, eS, e0]
    repeat' (first | ((with_reducible refine Br.dec (fun _ => ?_) (fun _ => ?_)) <;> try (exfalso; omega)) | ((with_reducible refine Br.eq (fun _ => ?_) (fun _ => ?_)) <;> try (exfalso; omega)) | ((with_reducible refine Br.ne (fun _ => ?_) (fun _ => ?_)) <;> try (exfalso; omega)) | ((with_reducible refine brNdec (fun _ => ?_) (fun _ => ?_)) <;> try (exfalso; omega)) | ((with_reducible refine brNeq (fun _ => ?_) (fun _ => ?_)) <;> try (exfalso; omega)) | with_reducible refine Br.intro (fun _ => ?_) (fun _ => ?_) | (with_reducible refine And.intro ?_ ?_; · omega) | simp -dsimp -implicitDefEqProofs (disch := omega) only [↓vcOps_sp 17, ↓vcD_sp 17, ↓vcOps_sp 25, ↓vcD_sp 25, ↓vcOps_sp 51, ↓vcD_sp 51, VCA, pg_gl, ↓upd_none, Nat.reduceEqDiff, Nat.reduceBEq, Nat.reduceAdd, Nat.reduceSub, Nat.reduceMul, Nat.reduceLT, Nat.reduceLeDiff, ↓reduceIte, reduceCtorEq, rsOf, rootsOf, SOp.rd, SI.rd, SX.rd, rdL, rdO, rdP, okParts, eqCells, okEqCells, fillA, okFill, setAt, implies_true, forall_const, forall_eq, ne_eq, exists_eq_right_right, exists_eq_right, exists_eq_left, exists_eq_left', eInt, eBool, lit_eq, hp', eDoc, eNode, eS, e0])
    all_goals first | exact Sub.refl _ | (exfalso; omega)
theorem cutR_len (d : HDoc) (s : HSpan) (n : Int) : (cutR d s n).length ≤ 1 := by
  unfold cutR
  split
  · split <;> simp
  · split
    · simp
    · split <;> simp
theorem cutR_flat_len (d : HDoc) (s : HSpan) : ∀ l : List Int, (l.flatMap (cutR d s)).length ≤ l.length
  | [] => by simp
  | n :: l => by
    rw [List.flatMap_cons, List.length_append, List.length_cons]
    have := cutR_flat_len d s l
    have := cutR_len d s n
    omega
def c34 : SFun := ⟨(.seq (.reg [⟨(some 2), (.boxF 24 2 (.t 0)), none⟩, ⟨(some 3), (.boxF 52 4 (.t 1)), none⟩, ⟨(some 4), (.mv (.c .emp)), none⟩]) (.seq (.reg [⟨(some 5), (.mv (.c .emp)), none⟩]) (.seq (.reg [⟨(some 13), (.ld 2 true (.t 2)), none⟩, ⟨(some 14), (.pcall 25 [(.t 13), (.c (.int .i64 (0)))]), none⟩, ⟨(some 6), (.mv (.t 14)), none⟩]) (.seq (.seq (.reg [⟨(some 7), (.mv (.c (.int .i64 (0)))), none⟩]) (.block 0 (.loop (.seq (.seq (.reg [⟨(some 15), (.mv (.t 7)), none⟩, ⟨(some 16), (.mv (.t 6)), none⟩, ⟨(some 17), (.len (.t 16)), none⟩, ⟨(some 18), (.bin .lss (.t 15) (.t 17)), none⟩]) (.cond (.t 18) .skip (.exit 0))) (.seq (.block 1 (.seq (.reg [⟨(some 21), (.mv (.t 6)), none⟩, ⟨(some 22), (.mv (.t 7)), none⟩, ⟨(some 23), (.idxA 1 (.t 21) (.t 22)), none⟩, ⟨(some 24), (.ld 1 false (.t 23)), none⟩, ⟨(some 8), (.mv (.t 24)), none⟩]) (.seq (.reg [⟨(some 25), (.fldA 0 (.t 2)), none⟩, ⟨(some 26), (.ld 1 false (.t 25)), none⟩, ⟨(some 27), (.mv (.t 8)), none⟩, ⟨(some 28), (.idxA 6 (.t 26) (.t 27)), none⟩, ⟨(some 29), (.ld 6 true (.t 28)), none⟩, ⟨(some 9), (.new 43 6 [(.int .i64 (0)), (.str []), .emp, (.str []), (.int .i64 (0)), .emp]), none⟩, ⟨none, (.st 6 (.t 9) (.t 29)), none⟩]) (.seq (.seq (.reg [⟨(some 30), (.ld 2 true (.t 2)), none⟩, ⟨(some 31), (.mv (.t 8)), none⟩, ⟨(some 32), (.ld 4 true (.t 3)), none⟩, ⟨(some 33), (.pcall 85 [(.t 30), (.t 31), (.t 32)]), none⟩]) (.cond (.t 33) (.seq (.seq (.reg [⟨(some 34), (.ld 2 true (.t 2)), none⟩, ⟨(some 35), (.fldA 4 (.t 9)), none⟩, ⟨(some 36), (.ld 1 false (.t 35)), none⟩, ⟨(some 37), (.ld 4 true (.t 3)), none⟩, ⟨(some 38), (.pcall 85 [(.t 34), (.t 36), (.t 37)]), none⟩, ⟨(some 39), (.un .not (.t 38)), none⟩]) (.cond (.t 39) (.reg [⟨(some 40), (.mv (.t 5)), none⟩, ⟨(some 41), (.mv (.t 8)), none⟩, ⟨(some 42), (.bld [(.int .i64 (0)), (.int .i64 (0)), (.int .i64 (0)), (.int .i64 (0)), (.str []), (.str []), (.int .i64 (0)), (.str []), .emp, (.str []), (.int .i64 (0)), .emp] [(0, (1, (.c (.int .i64 (6))))), (1, (1, (.t 41)))]), none⟩, ⟨(some 43), (.bldF 87 12 [(.t 42)]), none⟩, ⟨(some 44), (.app 87 12 160 (.t 40) (.t 43)), none⟩, ⟨(some 5), (.mv (.t 44)), none⟩]) .skip)) (.exit 1)) .skip)) (.seq (.seq (.reg [⟨(some 45), (.fldA 0 (.t 9)), none⟩, ⟨(some 46), (.ld 1 false (.t 45)), none⟩, ⟨(some 47), (.bin .neq (.t 46) (.c (.int .i64 (3)))), none⟩, ⟨(some 48), (.mv (.t 47)), none⟩, ⟨(some 49), (.fldA 0 (.t 9)), (some (48, true))⟩, ⟨(some 50), (.ld 1 false (.t 49)), (some (48, true))⟩, ⟨(some 51), (.bin .neq (.t 50) (.c (.int .i64 (4)))), (some (48, true))⟩, ⟨(some 52), (.pick (.t 48) (.t 51) (.c (.bool false))), none⟩, ⟨(some 53), (.mv (.t 52)), none⟩, ⟨(some 54), (.fldA 0 (.t 3)), (some (53, false))⟩, ⟨(some 55), (.fldA 0 (.t 54)), (some (53, false))⟩, ⟨(some 56), (.ld 1 false (.t 55)), (some (53, false))⟩, ⟨(some 57), (.mv (.t 8)), (some (53, false))⟩, ⟨(some 58), (.bin .neq (.t 56) (.t 57)), (some (53, false))⟩, ⟨(some 59), (.mv (.t 58)), (some (53, false))⟩, ⟨(some 60), (.fldA 2 (.t 3)), (some (59, true))⟩, ⟨(some 61), (.fldA 0 (.t 60)), (some (59, true))⟩, ⟨(some 62), (.ld 1 false (.t 61)), (some (59, true))⟩, ⟨(some 63), (.mv (.t 8)), (some (59, true))⟩, ⟨(some 64), (.bin .neq (.t 62) (.t 63)), (some (59, true))⟩, ⟨(some 65), (.pick (.t 59) (.t 64) (.c (.bool false))), (some (53, false))⟩, ⟨(some 66), (.pick (.t 53) (.c (.bool true)) (.t 65)), none⟩]) (.cond (.t 66) (.exit 1) .skip)) (.seq (.reg [⟨(some 10), (.mv (.c (.str []))), none⟩]) (.seq (.seq (.reg [⟨(some 11), (.mv (.c (.int .i64 (0)))), none⟩]) (.block 2 (.loop (.seq (.seq (.reg [⟨(some 67), (.mv (.t 11)), none⟩, ⟨(some 68), (.fldA 3 (.t 9)), none⟩, ⟨(some 69), (.ld 1 false (.t 68)), none⟩, ⟨(some 70), (.lenS (.t 69)), none⟩, ⟨(some 71), (.bin .lss (.t 67) (.t 70)), none⟩]) (.cond (.t 71) .skip (.exit 2))) (.seq (.block 3 (.seq (.reg [⟨(some 74), (.fldA 0 (.t 3)), none⟩, ⟨(some 75), (.fldA 0 (.t 74)), none⟩, ⟨(some 76), (.ld 1 false (.t 75)), none⟩, ⟨(some 77), (.mv (.t 8)), none⟩, ⟨(some 78), (.bin .neq (.t 76) (.t 77)), none⟩, ⟨(some 79), (.mv (.t 78)), none⟩, ⟨(some 80), (.mv (.t 11)), (some (79, false))⟩, ⟨(some 81), (.fldA 0 (.t 3)), (some (79, false))⟩, ⟨(some 82), (.fldA 1 (.t 81)), (some (79, false))⟩, ⟨(some 83), (.ld 1 false (.t 82)), (some (79, false))⟩, ⟨(some 84), (.bin .geq (.t 80) (.t 83)), (some (79, false))⟩, ⟨(some 85), (.pick (.t 79) (.c (.bool true)) (.t 84)), none⟩, ⟨(some 86), (.mv (.t 85)), none⟩, ⟨(some 87), (.fldA 2 (.t 3)), (some (86, true))⟩, ⟨(some 88), (.fldA 0 (.t 87)), (some (86, true))⟩, ⟨(some 89), (.ld 1 false (.t 88)), (some (86, true))⟩, ⟨(some 90), (.mv (.t 8)), (some (86, true))⟩, ⟨(some 91), (.bin .neq (.t 89) (.t 90)), (some (86, true))⟩, ⟨(some 92), (.mv (.t 91)), (some (86, true))⟩, ⟨(some 93), (.mv (.t 11)), (some (92, false))⟩, ⟨(some 94), (.fldA 2 (.t 3)), (some (92, false))⟩, ⟨(some 95), (.fldA 1 (.t 94)), (some (92, false))⟩, ⟨(some 96), (.ld 1 false (.t 95)), (some (92, false))⟩, ⟨(some 97), (.bin .lss (.t 93) (.t 96)), (some (92, false))⟩, ⟨(some 98), (.pick (.t 92) (.c (.bool true)) (.t 97)), (some (86, true))⟩, ⟨(some 99), (.pick (.t 86) (.t 98) (.c (.bool false))), none⟩, ⟨(some 12), (.mv (.t 99)), none⟩]) (.seq (.reg [⟨(some 100), (.mv (.t 12)), none⟩, ⟨(some 101), (.un .not (.t 100)), none⟩]) (.cond (.t 101) (.reg [⟨(some 102), (.mv (.t 10)), none⟩, ⟨(some 103), (.fldA 3 (.t 9)), none⟩, ⟨(some 104), (.ld 1 false (.t 103)), none⟩, ⟨(some 105), (.mv (.t 11)), none⟩, ⟨(some 106), (.mv (.t 11)), none⟩, ⟨(some 107), (.bin .add (.t 106) (.c (.int .i64 (1)))), none⟩, ⟨(some 108), (.slS (.t 104) (some (.t 105)) (some (.t 107))), none⟩, ⟨(some 109), (.bin .add (.t 102) (.t 108)), none⟩, ⟨(some 10), (.mv (.t 109)), none⟩]) .skip)))) (.reg [⟨(some 72), (.mv (.t 11)), none⟩, ⟨(some 73), (.bin .add (.t 72) (.c (.int .i64 (1)))), none⟩, ⟨(some 11), (.mv (.t 73)), none⟩])))))) (.seq (.reg [⟨(some 110), (.mv (.t 10)), none⟩, ⟨(some 111), (.fldA 3 (.t 9)), none⟩, ⟨(some 112), (.ld 1 false (.t 111)), none⟩, ⟨(some 113), (.bin .neq (.t 110) (.t 112)), none⟩]) (.cond (.t 113) (.reg [⟨(some 114), (.mv (.t 5)), none⟩, ⟨(some 115), (.mv (.t 8)), none⟩, ⟨(some 116), (.mv (.t 10)), none⟩, ⟨(some 117), (.bld [(.int .i64 (0)), (.int .i64 (0)), (.int .i64 (0)), (.int .i64 (0)), (.str []), (.str []), (.int .i64 (0)), (.str []), .emp, (.str []), (.int .i64 (0)), .emp] [(0, (1, (.c (.int .i64 (3))))), (1, (1, (.t 115))), (5, (1, (.t 116)))]), none⟩, ⟨(some 118), (.bldF 87 12 [(.t 117)]), none⟩, ⟨(some 119), (.app 87 12 160 (.t 114) (.t 118)), none⟩, ⟨(some 5), (.mv (.t 119)), none⟩]) .skip))))))))) (.reg [⟨(some 19), (.mv (.t 7)), none⟩, ⟨(some 20), (.bin .add (.t 19) (.c (.int .i64 (1)))), none⟩, ⟨(some 7), (.mv (.t 20)), none⟩])))))) (.seq (.reg [⟨(some 120), (.mv (.t 5)), none⟩, ⟨(some 4), (.mv (.t 120)), none⟩]) .ret))))), [(.tmp 4)]⟩
theorem hc34 : toSF Tryd.prog {pure := [25, 85]} Tryd.f34 = some c34 := by kernel_rfl
theorem hn34 : (Tryd.f34.name == "runtime.NumGoroutine") = false := by kernel_rfl
set_option maxHeartbeats 2000000 in
theorem spanCut0_ok (d : HDoc) (V : DV d) (sm : DocSm d) (s : HSpan) (ha : pointE d s.a = 0) (hb : pointE d s.b = 0) : PCalls (Pg G) 34 [.agg (eDoc d), .agg (eS s)] (.slc (((below d 0).flatMap (cutR d s)).map eE0)) := PCalls.acc (ty := 87) (sz := 12) fun h => by
  have hl := V.len
  have bl := below_len V V.zero
  have hB := below_ok (G := G) d V sm 0 V.zero
  have bin := below_in V 0 V.zero
  have LI := liesIn_ok (G := G) d V sm s ha hb
  unfold eS at LI
  refine dcalls_of_vc Tryd.func34 hn34 hc34 (by rw [Tryd.ntmps34]; simp) (by rw [Tryd.ntmps34]; decide) ?_
  simp -dsimp -implicitDefEqProofs (disch := omega) only [↓vcOps_sp 48, ↓vcD_sp 48, ↓vcOps_sp 53, ↓vcD_sp 53, ↓vcOps_sp 59, ↓vcD_sp 59, ↓vcOps_sp 79, ↓vcD_sp 79, ↓vcOps_sp 86, ↓vcD_sp 86, ↓vcOps_sp 92, ↓vcD_sp 92, VCA, pg_gl, ↓upd_none, Nat.reduceEqDiff, Nat.reduceBEq, Nat.reduceAdd, Nat.reduceSub, Nat.reduceMul, Nat.reduceLT, Nat.reduceLeDiff, ↓reduceIte, reduceCtorEq, rsOf, rootsOf, SOp.rd, SI.rd, SX.rd, rdL, rdO, rdP, okParts, eqCells, okEqCells, fillA, okFill, setAt, implies_true, forall_const, forall_eq, ne_eq, exists_eq_right_right, exists_eq_right, exists_eq_left, exists_eq_left', eInt, eBool, lit_eq, c34, eDoc_len, eDoc_take, eDoc_drop, eS, List.append_nil]
  refine pcallE.of (hB) ?_; simp -dsimp -implicitDefEqProofs (disch := omega) only [↓vcOps_sp 48, ↓vcD_sp 48, ↓vcOps_sp 53, ↓vcD_sp 53, ↓vcOps_sp 59, ↓vcD_sp 59, ↓vcOps_sp 79, ↓vcD_sp 79, ↓vcOps_sp 86, ↓vcD_sp 86, ↓vcOps_sp 92, ↓vcD_sp 92, VCA, pg_gl, ↓upd_none, Nat.reduceEqDiff, Nat.reduceBEq, Nat.reduceAdd, Nat.reduceSub, Nat.reduceMul, Nat.reduceLT, Nat.reduceLeDiff, ↓reduceIte, reduceCtorEq, rsOf, rootsOf, SOp.rd, SI.rd, SX.rd, rdL, rdO, rdP, okParts, eqCells, okEqCells, fillA, okFill, setAt, implies_true, forall_const, forall_eq, ne_eq, exists_eq_right_right, exists_eq_right, exists_eq_left, exists_eq_left', eInt, eBool, lit_eq, eDoc_len, eDoc_take, eDoc_drop, eS, List.append_nil]
  generalize below d 0 = B at *
  refine LoopVC.intro (fun m e h' => ∃ k : Nat, k ≤ B.length ∧ m = B.length - k ∧ e 2 = .pin (eDoc d) ∧ e 3 = .pin (eS s) ∧ e 6 = sl eInt B ∧ e 7 = aInt k ∧ Acc h 87 12 (((B.take k).flatMap (cutR d s)).map eE0) (e 5) h' ∧ Sim.Sub h h') B.length ⟨0, by omega, by omega, rfl, rfl, rfl, rfl, .nil, Sub.refl _⟩ ?_
  rintro m e h' ⟨k, hk, rfl, he2, he3, he6, he7, A, S⟩
  simp -dsimp -implicitDefEqProofs (disch := omega) only [↓vcOps_sp 48, ↓vcD_sp 48, ↓vcOps_sp 53, ↓vcD_sp 53, ↓vcOps_sp 59, ↓vcD_sp 59, ↓vcOps_sp 79, ↓vcD_sp 79, ↓vcOps_sp 86, ↓vcD_sp 86, ↓vcOps_sp 92, ↓vcD_sp 92, VCA, pg_gl, ↓upd_none, Nat.reduceEqDiff, Nat.reduceBEq, Nat.reduceAdd, Nat.reduceSub, Nat.reduceMul, Nat.reduceLT, Nat.reduceLeDiff, ↓reduceIte, reduceCtorEq, rsOf, rootsOf, SOp.rd, SI.rd, SX.rd, rdL, rdO, rdP, okParts, eqCells, okEqCells, fillA, okFill, setAt, implies_true, forall_const, forall_eq, ne_eq, exists_eq_right_right, exists_eq_right, exists_eq_left, exists_eq_left', eInt, eBool, lit_eq, he2, he3, he6, he7]
  refine Br.dec (fun hlt => ?_) (fun hge => ?_)
  · have hk' : k < B.length := by omega
    have hn := bin _ (nth_mem' hk')
    have fl : (B.take (k + 1)).flatMap (cutR d s) = (B.take k).flatMap (cutR d s) ++ cutR d s (nth B k) := by
      rw [take_snoc hk', List.flatMap_append]; simp
    have ln := cutR_flat_len d s (B.take k)
    rw [List.length_take] at ln
    generalize hnn : nth B k = n at *
    have n0 := hn.1
    have n1 := hn.2
    have e0 : nth d.nodes n.toNat = nd d n := rfl
    have LN := LI n hn
    have fin : ∀ (X : List HEdit) (a' : AVal) (h'' : Heap), cutR d s n = X → Acc h 87 12 (((B.take k).flatMap (cutR d s) ++ X).map eE0) a' h'' → Acc h 87 12 (((B.take (k + 1)).flatMap (cutR d s)).map eE0) a' h'' := fun X a' h'' hX A => by rw [fl, hX]; exact A
    simp -dsimp -implicitDefEqProofs (disch := omega) only [↓vcOps_sp 48, ↓vcD_sp 48, ↓vcOps_sp 53, ↓vcD_sp 53, ↓vcOps_sp 59, ↓vcD_sp 59, ↓vcOps_sp 79, ↓vcD_sp 79, ↓vcOps_sp 86, ↓vcD_sp 86, ↓vcOps_sp 92, ↓vcD_sp 92, VCA, pg_gl, ↓upd_none, Nat.reduceEqDiff, Nat.reduceBEq, Nat.reduceAdd, Nat.reduceSub, Nat.reduceMul, Nat.reduceLT, Nat.reduceLeDiff, ↓reduceIte, reduceCtorEq, rsOf, rootsOf, SOp.rd, SI.rd, SX.rd, rdL, rdO, rdP, okParts, eqCells, okEqCells, fillA, okFill, setAt, implies_true, forall_const, forall_eq, ne_eq, exists_eq_right_right, exists_eq_right, exists_eq_left, exists_eq_left', eInt, eBool, lit_eq, he2, he3, he6, he7, hnn, eDoc, eNode, eS, e0]
    refine ⟨by omega, by omega, fun r hr => ?_⟩
    have S' := S.upd (x := some ⟨43, 6, [eNode (nd d n)]⟩) (S.none hr)
    have A' := acc_keep A ((Sub.refl h').upd (x := some ⟨43, 6, [eNode (nd d n)]⟩) hr)
    unfold eNode at S' A'
    unfold eDoc at LN
    by_cases hlz : liesM d s n
    · have cR : cutR d s n = if liesM d s (nd d n).parent then [] else [zE 6 n []] := by unfold cutR; rw [if_pos hlz]
      have hp := hlz.1
      have LP := LI (nd d n).parent (V.par_in hn hp).1
      unfold eDoc at LP
      rw [decide_eq_true hlz] at LN
      by_cases hpz : liesM d s (nd d n).parent
      · rw [decide_eq_true hpz] at LP
        rw [if_pos hpz] at cR
        repeat' (first | ((with_reducible refine Br.dec (fun _ => ?_) (fun _ => ?_)) <;> try (exfalso; omega)) | ((with_reducible refine Br.eq (fun _ => ?_) (fun _ => ?_)) <;> try (exfalso; omega)) | ((with_reducible refine Br.ne (fun _ => ?_) (fun _ => ?_)) <;> try (exfalso; omega)) | ((with_reducible refine brNdec (fun _ => ?_) (fun _ => ?_)) <;> try (exfalso; omega)) | ((with_reducible refine brNeq (fun _ => ?_) (fun _ => ?_)) <;> try (exfalso; omega)) | with_reducible refine Br.intro (fun _ => ?_) (fun _ => ?_) | (with_reducible apply pcallE.of; · exact LN) | (with_reducible apply pcallE.of; · exact LP) | (with_reducible refine And.intro ?_ ?_; · omega) | simp -dsimp -implicitDefEqProofs (disch := omega) only [↓vcOps_sp 48, ↓vcD_sp 48, ↓vcOps_sp 53, ↓vcD_sp 53, ↓vcOps_sp 59, ↓vcD_sp 59, ↓vcOps_sp 79, ↓vcD_sp 79, ↓vcOps_sp 86, ↓vcD_sp 86, ↓vcOps_sp 92, ↓vcD_sp 92, VCA, pg_gl, ↓upd_none, Nat.reduceEqDiff, Nat.reduceBEq, Nat.reduceAdd, Nat.reduceSub, Nat.reduceMul, Nat.reduceLT, Nat.reduceLeDiff, ↓reduceIte, reduceCtorEq, rsOf, rootsOf, SOp.rd, SI.rd, SX.rd, rdL, rdO, rdP, okParts, eqCells, okEqCells, fillA, okFill, setAt, implies_true, forall_const, forall_eq, ne_eq, exists_eq_right_right, exists_eq_right, exists_eq_left, exists_eq_left', eInt, eBool, lit_eq, upd_same, he2, he3, he6, he7, hnn, eDoc, eNode, eS, e0])
        exact ⟨_, by omega, k + 1, by omega, rfl, by omega, fin [] _ _ cR (by simpa using A'), S'⟩
      · rw [decide_eq_false hpz] at LP
        rw [if_neg hpz] at cR
        repeat' (first | ((with_reducible refine Br.dec (fun _ => ?_) (fun _ => ?_)) <;> try (exfalso; omega)) | ((with_reducible refine Br.eq (fun _ => ?_) (fun _ => ?_)) <;> try (exfalso; omega)) | ((with_reducible refine Br.ne (fun _ => ?_) (fun _ => ?_)) <;> try (exfalso; omega)) | ((with_reducible refine brNdec (fun _ => ?_) (fun _ => ?_)) <;> try (exfalso; omega)) | ((with_reducible refine brNeq (fun _ => ?_) (fun _ => ?_)) <;> try (exfalso; omega)) | with_reducible refine Br.intro (fun _ => ?_) (fun _ => ?_) | (with_reducible apply pcallE.of; · exact LN) | (with_reducible apply pcallE.of; · exact LP) | (refine A'.app S' (by simp only [List.length_map, List.length_append, List.length_cons, List.length_nil]; omega) (by simp only [List.length_map, List.length_append, List.length_cons, List.length_nil]; omega) fun a2 h2 A2 S2 => ?_) | (with_reducible refine And.intro ?_ ?_; · omega) | simp -dsimp -implicitDefEqProofs (disch := omega) only [↓vcOps_sp 48, ↓vcD_sp 48, ↓vcOps_sp 53, ↓vcD_sp 53, ↓vcOps_sp 59, ↓vcD_sp 59, ↓vcOps_sp 79, ↓vcD_sp 79, ↓vcOps_sp 86, ↓vcD_sp 86, ↓vcOps_sp 92, ↓vcD_sp 92, VCA, pg_gl, ↓upd_none, Nat.reduceEqDiff, Nat.reduceBEq, Nat.reduceAdd, Nat.reduceSub, Nat.reduceMul, Nat.reduceLT, Nat.reduceLeDiff, ↓reduceIte, reduceCtorEq, rsOf, rootsOf, SOp.rd, SI.rd, SX.rd, rdL, rdO, rdP, okParts, eqCells, okEqCells, fillA, okFill, setAt, implies_true, forall_const, forall_eq, ne_eq, exists_eq_right_right, exists_eq_right, exists_eq_left, exists_eq_left', eInt, eBool, lit_eq, upd_same, he2, he3, he6, he7, hnn, eDoc, eNode, eS, e0])
        exact ⟨_, by omega, k + 1, by omega, rfl, by omega, fin _ _ _ cR (by simpa [eE0, zE] using A2), S2⟩
    · rw [decide_eq_false hlz] at LN
      by_cases hsk : ¬ ((nd d n).kind = 3 ∨ (nd d n).kind = 4) ∨ (s.a.node ≠ n ∧ s.b.node ≠ n)
      · have cR : cutR d s n = [] := by unfold cutR; rw [if_neg hlz, if_pos hsk]
        repeat' (first | ((with_reducible refine Br.dec (fun _ => ?_) (fun _ => ?_)) <;> try (exfalso; omega)) | ((with_reducible refine Br.eq (fun _ => ?_) (fun _ => ?_)) <;> try (exfalso; omega)) | ((with_reducible refine Br.ne (fun _ => ?_) (fun _ => ?_)) <;> try (exfalso; omega)) | ((with_reducible refine brNdec (fun _ => ?_) (fun _ => ?_)) <;> try (exfalso; omega)) | ((with_reducible refine brNeq (fun _ => ?_) (fun _ => ?_)) <;> try (exfalso; omega)) | with_reducible refine Br.intro (fun _ => ?_) (fun _ => ?_) | (with_reducible apply pcallE.of; · exact LN) | (with_reducible refine And.intro ?_ ?_; · omega) | simp -dsimp -implicitDefEqProofs (disch := omega) only [↓vcOps_sp 48, ↓vcD_sp 48, ↓vcOps_sp 53, ↓vcD_sp 53, ↓vcOps_sp 59, ↓vcD_sp 59, ↓vcOps_sp 79, ↓vcD_sp 79, ↓vcOps_sp 86, ↓vcD_sp 86, ↓vcOps_sp 92, ↓vcD_sp 92, VCA, pg_gl, ↓upd_none, Nat.reduceEqDiff, Nat.reduceBEq, Nat.reduceAdd, Nat.reduceSub, Nat.reduceMul, Nat.reduceLT, Nat.reduceLeDiff, ↓reduceIte, reduceCtorEq, rsOf, rootsOf, SOp.rd, SI.rd, SX.rd, rdL, rdO, rdP, okParts, eqCells, okEqCells, fillA, okFill, setAt, implies_true, forall_const, forall_eq, ne_eq, exists_eq_right_right, exists_eq_right, exists_eq_left, exists_eq_left', eInt, eBool, lit_eq, upd_same, he2, he3, he6, he7, hnn, eDoc, eNode, eS, e0])
        all_goals first
          | exact ⟨_, by omega, k + 1, by omega, rfl, by omega, fin [] _ _ cR (by simpa using A'), S'⟩
          | (exfalso; omega)
          | trace_state
      · have cR : cutR d s n = if leftR (nd d n).text n s = (nd d n).text then [] else [zE 3 n (leftR (nd d n).text n s)] := by unfold cutR; rw [if_neg hlz, if_neg hsk]
        have tl := text_len V hn
        have LR : leftR (nd d n).text n s = (List.range (nd d n).text.length).flatMap fun k : Nat => if (s.a.node ≠ n ∨ s.a.at' ≤ k) ∧ (s.b.node ≠ n ∨ (k : Int) < s.b.at') then [] else ((nd d n).text.drop k).take 1 := rfl
        generalize hFF : (fun k : Nat => if (s.a.node ≠ n ∨ s.a.at' ≤ k) ∧ (s.b.node ≠ n ∨ (k : Int) < s.b.at') then [] else ((nd d n).text.drop k).take 1) = F at LR
        have Fj : ∀ k : Nat, F k = if (s.a.node ≠ n ∨ s.a.at' ≤ k) ∧ (s.b.node ≠ n ∨ (k : Int) < s.b.at') then [] else ((nd d n).text.drop k).take 1 := fun k => by rw [← hFF]
        have Fl : ∀ j : Nat, ((List.range j).flatMap F).length ≤ j := fun j => by
          induction j with
          | zero => simp
          | succ j ih =>
            rw [List.range_succ, List.flatMap_append, List.length_append]
            have : (F j).length ≤ 1 := by rw [Fj]; split <;> simp; omega
            simp only [List.flatMap_cons, List.flatMap_nil, List.append_nil]
            omega
        have Fs : ∀ j : Nat, (List.range (j + 1)).flatMap F = (List.range j).flatMap F ++ F j := fun j => by rw [List.range_succ, List.flatMap_append]; simp
        have sl1 : ∀ j : Nat, ((nd d n).text.take (j + 1)).drop j = ((nd d n).text.drop j).take 1 := fun j => by rw [List.drop_take]; congr 1; omega
        clear hFF
        rw [LR] at cR
        repeat' (first | ((with_reducible refine Br.dec (fun _ => ?_) (fun _ => ?_)) <;> try (exfalso; omega)) | ((with_reducible refine Br.eq (fun _ => ?_) (fun _ => ?_)) <;> try (exfalso; omega)) | ((with_reducible refine Br.ne (fun _ => ?_) (fun _ => ?_)) <;> try (exfalso; omega)) | ((with_reducible refine brNdec (fun _ => ?_) (fun _ => ?_)) <;> try (exfalso; omega)) | ((with_reducible refine brNeq (fun _ => ?_) (fun _ => ?_)) <;> try (exfalso; omega)) | with_reducible refine Br.intro (fun _ => ?_) (fun _ => ?_) | (with_reducible apply pcallE.of; · exact LN) | (with_reducible refine And.intro ?_ ?_; · omega) | simp -dsimp -implicitDefEqProofs (disch := omega) only [↓vcOps_sp 48, ↓vcD_sp 48, ↓vcOps_sp 53, ↓vcD_sp 53, ↓vcOps_sp 59, ↓vcD_sp 59, ↓vcOps_sp 79, ↓vcD_sp 79, ↓vcOps_sp 86, ↓vcD_sp 86, ↓vcOps_sp 92, ↓vcD_sp 92, VCA, pg_gl, ↓upd_none, Nat.reduceEqDiff, Nat.reduceBEq, Nat.reduceAdd, Nat.reduceSub, Nat.reduceMul, Nat.reduceLT, Nat.reduceLeDiff, ↓reduceIte, reduceCtorEq, rsOf, rootsOf, SOp.rd, SI.rd, SX.rd, rdL, rdO, rdP, okParts, eqCells, okEqCells, fillA, okFill, setAt, implies_true, forall_const, forall_eq, ne_eq, exists_eq_right_right, exists_eq_right, exists_eq_left, exists_eq_left', eInt, eBool, lit_eq, upd_same, he2, he3, he6, he7, hnn, eDoc, eNode, eS, e0])
        all_goals try (exfalso; omega)
        all_goals (
          generalize nd d n = x at *
          refine LoopVC.intro (fun m e1 h2 => ∃ j : Nat, j ≤ x.text.length ∧ m = x.text.length - j ∧ e1 2 = .pin [sl eNode d.nodes, .bool d.quirks] ∧ e1 3 = .pin [aInt s.a.node, aInt s.a.at', aInt s.b.node, aInt s.b.at'] ∧ e1 5 = e 5 ∧ e1 6 = sl eInt B ∧ e1 7 = aInt k ∧ e1 8 = aInt n ∧ e1 9 = .vp r 0 ∧ e1 10 = .str ((List.range j).flatMap F) ∧ e1 11 = aInt j ∧ h2 = upd h' r (some ⟨43, 6, [[aInt x.kind, .str x.name, sl eAttr x.attrs, .str x.text, aInt x.parent, sl eInt x.kids]]⟩)) x.text.length ⟨0, by omega, by omega, he2, he3, rfl, he6, he7, rfl, rfl, rfl, rfl, rfl⟩ ?_
          rintro m e1 h2 ⟨j, hj, rfl, ie2, ie3, ie5, ie6, ie7, ie8, ie9, ie10, ie11, rfl⟩
          have fl1 := Fl j
          have sj := sl1 j
          have Fsj := Fs j
          have Fjj := Fj j
          have ej : ((j : Int) + 1).toNat = j + 1 := by omega
          simp -dsimp -implicitDefEqProofs (disch := omega) only [↓vcOps_sp 48, ↓vcD_sp 48, ↓vcOps_sp 53, ↓vcD_sp 53, ↓vcOps_sp 59, ↓vcD_sp 59, ↓vcOps_sp 79, ↓vcD_sp 79, ↓vcOps_sp 86, ↓vcD_sp 86, ↓vcOps_sp 92, ↓vcD_sp 92, VCA, pg_gl, ↓upd_none, Nat.reduceEqDiff, Nat.reduceBEq, Nat.reduceAdd, Nat.reduceSub, Nat.reduceMul, Nat.reduceLT, Nat.reduceLeDiff, ↓reduceIte, reduceCtorEq, rsOf, rootsOf, SOp.rd, SI.rd, SX.rd, rdL, rdO, rdP, okParts, eqCells, okEqCells, fillA, okFill, setAt, implies_true, forall_const, forall_eq, ne_eq, exists_eq_right_right, exists_eq_right, exists_eq_left, exists_eq_left', eInt, eBool, lit_eq, ie2, ie3, ie5, ie6, ie7, ie8, ie9, ie10, ie11, upd_same]
          refine Br.dec (fun hlt => ?_) (fun hge => ?_)
          · repeat' (first | ((with_reducible refine Br.dec (fun _ => ?_) (fun _ => ?_)) <;> try (exfalso; omega)) | ((with_reducible refine Br.eq (fun _ => ?_) (fun _ => ?_)) <;> try (exfalso; omega)) | ((with_reducible refine Br.ne (fun _ => ?_) (fun _ => ?_)) <;> try (exfalso; omega)) | ((with_reducible refine brNdec (fun _ => ?_) (fun _ => ?_)) <;> try (exfalso; omega)) | ((with_reducible refine brNeq (fun _ => ?_) (fun _ => ?_)) <;> try (exfalso; omega)) | with_reducible refine Br.intro (fun _ => ?_) (fun _ => ?_) | (with_reducible refine And.intro ?_ ?_; · omega) | simp -dsimp -implicitDefEqProofs (disch := omega) only [↓vcOps_sp 48, ↓vcD_sp 48, ↓vcOps_sp 53, ↓vcD_sp 53, ↓vcOps_sp 59, ↓vcD_sp 59, ↓vcOps_sp 79, ↓vcD_sp 79, ↓vcOps_sp 86, ↓vcD_sp 86, ↓vcOps_sp 92, ↓vcD_sp 92, VCA, pg_gl, ↓upd_none, Nat.reduceEqDiff, Nat.reduceBEq, Nat.reduceAdd, Nat.reduceSub, Nat.reduceMul, Nat.reduceLT, Nat.reduceLeDiff, ↓reduceIte, reduceCtorEq, rsOf, rootsOf, SOp.rd, SI.rd, SX.rd, rdL, rdO, rdP, okParts, eqCells, okEqCells, fillA, okFill, setAt, implies_true, forall_const, forall_eq, ne_eq, exists_eq_right_right, exists_eq_right, exists_eq_left, exists_eq_left', eInt, eBool, lit_eq, ie2, ie3, ie5, ie6, ie7, ie8, ie9, ie10, ie11, upd_same, ej, sj])
            all_goals first
              | exact ⟨_, by omega, j + 1, by omega, rfl, by rw [Fsj, Fjj, if_pos (by omega), List.append_nil], by omega⟩
              | exact ⟨by rw [List.length_take]; omega, _, by omega, j + 1, by omega, rfl, by rw [Fsj, Fjj, if_neg (by omega)], by omega⟩
          · obtain rfl : j = x.text.length := by omega
            repeat' (first | ((with_reducible refine Br.dec (fun _ => ?_) (fun _ => ?_)) <;> try (exfalso; omega)) | ((with_reducible refine Br.eq (fun _ => ?_) (fun _ => ?_)) <;> try (exfalso; omega)) | ((with_reducible refine Br.ne (fun _ => ?_) (fun _ => ?_)) <;> try (exfalso; omega)) | ((with_reducible refine brNdec (fun _ => ?_) (fun _ => ?_)) <;> try (exfalso; omega)) | ((with_reducible refine brNeq (fun _ => ?_) (fun _ => ?_)) <;> try (exfalso; omega)) | with_reducible refine Br.intro (fun _ => ?_) (fun _ => ?_) | (refine A'.app S' (by simp only [List.length_map, List.length_append, List.length_cons, List.length_nil]; omega) (by simp only [List.length_map, List.length_append, List.length_cons, List.length_nil]; omega) fun a2 h2 A2 S2 => ?_) | (with_reducible refine And.intro ?_ ?_; · omega) | simp -dsimp -implicitDefEqProofs (disch := omega) only [↓vcOps_sp 48, ↓vcD_sp 48, ↓vcOps_sp 53, ↓vcD_sp 53, ↓vcOps_sp 59, ↓vcD_sp 59, ↓vcOps_sp 79, ↓vcD_sp 79, ↓vcOps_sp 86, ↓vcD_sp 86, ↓vcOps_sp 92, ↓vcD_sp 92, VCA, pg_gl, ↓upd_none, Nat.reduceEqDiff, Nat.reduceBEq, Nat.reduceAdd, Nat.reduceSub, Nat.reduceMul, Nat.reduceLT, Nat.reduceLeDiff, ↓reduceIte, reduceCtorEq, rsOf, rootsOf, SOp.rd, SI.rd, SX.rd, rdL, rdO, rdP, okParts, eqCells, okEqCells, fillA, okFill, setAt, implies_true, forall_const, forall_eq, ne_eq, exists_eq_right_right, exists_eq_right, exists_eq_left, exists_eq_left', eInt, eBool, lit_eq, ie2, ie3, ie5, ie6, ie7, ie8, ie9, ie10, ie11, upd_same])
            all_goals first
              | exact ⟨_, by omega, k + 1, by omega, rfl, by omega, fin [] _ _ (by rw [cR, if_pos (by assumption)]) (by simpa using A'), S'⟩
              | exact ⟨_, by omega, k + 1, by omega, rfl, by omega, fin _ _ _ (by rw [cR, if_neg (by assumption)]) (by simpa [eE0, zE] using A2), S2⟩)
  · obtain rfl : k = B.length := by omega
    rw [List.take_length] at A
    simp -dsimp -implicitDefEqProofs (disch := omega) only [↓vcOps_sp 48, ↓vcD_sp 48, ↓vcOps_sp 53, ↓vcD_sp 53, ↓vcOps_sp 59, ↓vcD_sp 59, ↓vcOps_sp 79, ↓vcD_sp 79, ↓vcOps_sp 86, ↓vcD_sp 86, ↓vcOps_sp 92, ↓vcD_sp 92, VCA, pg_gl, ↓upd_none, Nat.reduceEqDiff, Nat.reduceBEq, Nat.reduceAdd, Nat.reduceSub, Nat.reduceMul, Nat.reduceLT, Nat.reduceLeDiff, ↓reduceIte, reduceCtorEq, rsOf, rootsOf, SOp.rd, SI.rd, SX.rd, rdL, rdO, rdP, okParts, eqCells, okEqCells, fillA, okFill, setAt, implies_true, forall_const, forall_eq, ne_eq, exists_eq_right_right, exists_eq_right, exists_eq_left, exists_eq_left', eInt, eBool, lit_eq]
    exact ⟨_, Sub.refl _, A, S⟩
end Go.Proofs.K
end
section
/- Lists of edits: are they one? The law of cuts. -/
set_option linter.unusedSimpArgs false
set_option linter.unusedVariables false
namespace Go.Proofs.K
open Go Go.Sim Go.Proofs
variable {G : Glob}
def c86 : SFun := ⟨(.seq (.reg [⟨(some 2), (.boxF 87 12 (.t 0)), none⟩, ⟨(some 3), (.boxF 87 12 (.t 1)), none⟩, ⟨(some 4), (.mv (.c (.bool false))), none⟩]) (.seq (.reg [⟨(some 5), (.fldA 0 (.t 2)), none⟩, ⟨(some 6), (.ld 1 false (.t 5)), none⟩, ⟨(some 7), (.fldA 0 (.t 3)), none⟩, ⟨(some 8), (.ld 1 false (.t 7)), none⟩, ⟨(some 9), (.bin .eql (.t 6) (.t 8)), none⟩, ⟨(some 10), (.mv (.t 9)), none⟩, ⟨(some 11), (.fldA 1 (.t 2)), (some (10, true))⟩, ⟨(some 12), (.ld 1 false (.t 11)), (some (10, true))⟩, ⟨(some 13), (.fldA 1 (.t 3)), (some (10, true))⟩, ⟨(some 14), (.ld 1 false (.t 13)), (some (10, true))⟩, ⟨(some 15), (.bin .eql (.t 12) (.t 14)), (some (10, true))⟩, ⟨(some 16), (.pick (.t 10) (.t 15) (.c (.bool false))), none⟩, ⟨(some 17), (.mv (.t 16)), none⟩, ⟨(some 18), (.fldA 2 (.t 2)), (some (17, true))⟩, ⟨(some 19), (.ld 1 false (.t 18)), (some (17, true))⟩, ⟨(some 20), (.fldA 2 (.t 3)), (some (17, true))⟩, ⟨(some 21), (.ld 1 false (.t 20)), (some (17, true))⟩, ⟨(some 22), (.bin .eql (.t 19) (.t 21)), (some (17, true))⟩, ⟨(some 23), (.pick (.t 17) (.t 22) (.c (.bool false))), none⟩, ⟨(some 24), (.mv (.t 23)), none⟩, ⟨(some 25), (.fldA 3 (.t 2)), (some (24, true))⟩, ⟨(some 26), (.ld 1 false (.t 25)), (some (24, true))⟩, ⟨(some 27), (.fldA 3 (.t 3)), (some (24, true))⟩, ⟨(some 28), (.ld 1 false (.t 27)), (some (24, true))⟩, ⟨(some 29), (.bin .eql (.t 26) (.t 28)), (some (24, true))⟩, ⟨(some 30), (.pick (.t 24) (.t 29) (.c (.bool false))), none⟩, ⟨(some 31), (.mv (.t 30)), none⟩, ⟨(some 32), (.fldA 4 (.t 2)), (some (31, true))⟩, ⟨(some 33), (.ld 1 false (.t 32)), (some (31, true))⟩, ⟨(some 34), (.fldA 4 (.t 3)), (some (31, true))⟩, ⟨(some 35), (.ld 1 false (.t 34)), (some (31, true))⟩, ⟨(some 36), (.bin .eql (.t 33) (.t 35)), (some (31, true))⟩, ⟨(some 37), (.pick (.t 31) (.t 36) (.c (.bool false))), none⟩, ⟨(some 38), (.mv (.t 37)), none⟩, ⟨(some 39), (.fldA 5 (.t 2)), (some (38, true))⟩, ⟨(some 40), (.ld 1 false (.t 39)), (some (38, true))⟩, ⟨(some 41), (.fldA 5 (.t 3)), (some (38, true))⟩, ⟨(some 42), (.ld 1 false (.t 41)), (some (38, true))⟩, ⟨(some 43), (.bin .eql (.t 40) (.t 42)), (some (38, true))⟩, ⟨(some 44), (.pick (.t 38) (.t 43) (.c (.bool false))), none⟩, ⟨(some 45), (.mv (.t 44)), none⟩, ⟨(some 46), (.fldA 6 (.t 2)), (some (45, true))⟩, ⟨(some 47), (.ld 6 true (.t 46)), (some (45, true))⟩, ⟨(some 48), (.fldA 6 (.t 3)), (some (45, true))⟩, ⟨(some 49), (.ld 6 true (.t 48)), (some (45, true))⟩, ⟨(some 50), (.pcall 103 [(.t 47), (.t 49)]), (some (45, true))⟩, ⟨(some 51), (.pick (.t 45) (.t 50) (.c (.bool false))), none⟩, ⟨(some 4), (.mv (.t 51)), none⟩]) .ret)), [(.tmp 4)]⟩
theorem hc86 : toSF Tryd.prog {pure := [103]} Tryd.f86 = some c86 := by kernel_rfl
theorem hn86 : (Tryd.f86.name == "runtime.NumGoroutine") = false := by kernel_rfl
theorem sameEdit_ok (x y : HEdit) (hx : NodeSm x.node) (hy : NodeSm y.node) : PCalls (Pg G) 86 [.agg (eEdit x), .agg (eEdit y)] (.bool (x == y)) := fun h => by
  have key : (x == y) = (x.do' == y.do' && (x.at' == y.at' && (x.to == y.to && (x.before == y.before && (x.name == y.name && (x.value == y.value && x.node == y.node)))))) := by
    cases x; cases y; rw [Bool.eq_iff_iff]; simp
  have hN := sameNode_ok (G := G) x.node y.node hx hy
  unfold eNode at hN
  refine dcalls_of_vc Tryd.func86 hn86 hc86 (by rw [Tryd.ntmps86]; simp) (by rw [Tryd.ntmps86]; decide) ?_
  simp -dsimp -implicitDefEqProofs (disch := omega) only [↓vcOps_sp 10, ↓vcD_sp 10, ↓vcOps_sp 17, ↓vcD_sp 17, ↓vcOps_sp 24, ↓vcD_sp 24, ↓vcOps_sp 31, ↓vcD_sp 31, ↓vcOps_sp 38, ↓vcD_sp 38, ↓vcOps_sp 45, ↓vcD_sp 45, VCA, pg_gl, ↓upd_none, Nat.reduceEqDiff, Nat.reduceBEq, Nat.reduceAdd, Nat.reduceSub, Nat.reduceMul, Nat.reduceLT, Nat.reduceLeDiff, ↓reduceIte, reduceCtorEq, rsOf, rootsOf, SOp.rd, SI.rd, SX.rd, rdL, rdO, rdP, okParts, eqCells, okEqCells, fillA, okFill, setAt, implies_true, forall_const, forall_eq, ne_eq, exists_eq_right_right, exists_eq_right, exists_eq_left, exists_eq_left', eInt, eBool, lit_eq, c86, eEdit]
  repeat' (first | ((with_reducible refine Br.dec (fun _ => ?_) (fun _ => ?_)) <;> try (exfalso; omega)) | ((with_reducible refine Br.eq (fun _ => ?_) (fun _ => ?_)) <;> try (exfalso; omega)) | ((with_reducible refine Br.ne (fun _ => ?_) (fun _ => ?_)) <;> try (exfalso; omega)) | ((with_reducible refine brNdec (fun _ => ?_) (fun _ => ?_)) <;> try (exfalso; omega)) | ((with_reducible refine brNeq (fun _ => ?_) (fun _ => ?_)) <;> try (exfalso; omega)) | with_reducible refine Br.intro (fun _ => ?_) (fun _ => ?_) | (with_reducible apply pcallE.of; · exact hN) | (with_reducible refine And.intro ?_ ?_; · omega) | simp -dsimp -implicitDefEqProofs (disch := omega) only [↓vcOps_sp 10, ↓vcD_sp 10, ↓vcOps_sp 17, ↓vcD_sp 17, ↓vcOps_sp 24, ↓vcD_sp 24, ↓vcOps_sp 31, ↓vcD_sp 31, ↓vcOps_sp 38, ↓vcD_sp 38, ↓vcOps_sp 45, ↓vcD_sp 45, VCA, pg_gl, ↓upd_none, Nat.reduceEqDiff, Nat.reduceBEq, Nat.reduceAdd, Nat.reduceSub, Nat.reduceMul, Nat.reduceLT, Nat.reduceLeDiff, ↓reduceIte, reduceCtorEq, rsOf, rootsOf, SOp.rd, SI.rd, SX.rd, rdL, rdO, rdP, okParts, eqCells, okEqCells, fillA, okFill, setAt, implies_true, forall_const, forall_eq, ne_eq, exists_eq_right_right, exists_eq_right, exists_eq_left, exists_eq_left', eInt, eBool, lit_eq])
  all_goals (refine ⟨Sub.refl _, ?_⟩; rw [key]; simp_all)
theorem nthE_sm {l : List HEdit} (hs : ∀ e ∈ l, NodeSm e.node) (k : Nat) : NodeSm (nth l k).node := by
  by_cases hk : k < l.length
  · exact hs _ (nth_mem' hk)
  · rw [nth_def hk]; exact nodeSm_default
def c36 : SFun := ⟨(.seq (.reg [⟨(some 4), (.mv (.c (.bool false))), none⟩]) (.seq (.seq (.reg [⟨(some 6), (.mv (.t 0)), none⟩, ⟨(some 7), (.len (.t 6)), none⟩, ⟨(some 8), (.mv (.t 1)), none⟩, ⟨(some 9), (.len (.t 8)), none⟩, ⟨(some 10), (.bin .neq (.t 7) (.t 9)), none⟩]) (.cond (.t 10) (.seq (.reg [⟨(some 4), (.mv (.c (.bool false))), none⟩]) .ret) .skip)) (.seq (.seq (.reg [⟨(some 5), (.mv (.c (.int .i64 (0)))), none⟩]) (.block 0 (.loop (.seq (.seq (.reg [⟨(some 11), (.mv (.t 5)), none⟩, ⟨(some 12), (.mv (.t 0)), none⟩, ⟨(some 13), (.len (.t 12)), none⟩, ⟨(some 14), (.bin .lss (.t 11) (.t 13)), none⟩]) (.cond (.t 14) .skip (.exit 0))) (.seq (.block 1 (.seq (.dreg [(⟨(some 17), (.mv (.t 0)), none⟩, none), (⟨(some 18), (.mv (.t 5)), none⟩, none), (⟨(some 19), (.idxA 12 (.t 17) (.t 18)), none⟩, none), (⟨(some 20), (.ld 12 true (.t 19)), none⟩, none), (⟨(some 21), (.mv (.t 1)), none⟩, none), (⟨(some 22), (.mv (.t 5)), none⟩, none), (⟨(some 23), (.idxA 12 (.t 21) (.t 22)), none⟩, none), (⟨(some 24), (.ld 12 true (.t 23)), none⟩, none), (⟨(some 25), (.pcall 86 [(.t 20), (.t 24)]), none⟩, none), (⟨(some 26), (.un .not (.t 25)), none⟩, none)]) (.cond (.t 26) (.seq (.reg [⟨(some 4), (.mv (.c (.bool false))), none⟩]) .ret) .skip))) (.reg [⟨(some 15), (.mv (.t 5)), none⟩, ⟨(some 16), (.bin .add (.t 15) (.c (.int .i64 (1)))), none⟩, ⟨(some 5), (.mv (.t 16)), none⟩])))))) (.seq (.reg [⟨(some 4), (.mv (.c (.bool true))), none⟩]) .ret)))), [(.tmp 4)]⟩
theorem hc36 : toSF Tryd.prog {pure := [86]} Tryd.f36 = some c36 := by kernel_rfl
theorem hn36 : (Tryd.f36.name == "runtime.NumGoroutine") = false := by kernel_rfl
theorem sameEdits_ok (a b : List HEdit) (la : a.length ≤ 1073741824) (lb : b.length ≤ 1073741824) (ha : ∀ e ∈ a, NodeSm e.node) (hb : ∀ e ∈ b, NodeSm e.node) : PCalls (Pg G) 36 [sl eEdit a, sl eEdit b] (.bool (a == b)) := fun h => by
  refine dcalls_of_vc Tryd.func36 hn36 hc36 (by rw [Tryd.ntmps36]; simp) (by rw [Tryd.ntmps36]; decide) ?_
  simp -dsimp -implicitDefEqProofs (disch := omega) only [VCA, pg_gl, ↓upd_none, Nat.reduceEqDiff, Nat.reduceBEq, Nat.reduceAdd, Nat.reduceSub, Nat.reduceMul, Nat.reduceLT, Nat.reduceLeDiff, ↓reduceIte, reduceCtorEq, rsOf, rootsOf, SOp.rd, SI.rd, SX.rd, rdL, rdO, rdP, okParts, eqCells, okEqCells, fillA, okFill, setAt, implies_true, forall_const, forall_eq, ne_eq, exists_eq_right_right, exists_eq_right, exists_eq_left, exists_eq_left', eInt, eBool, lit_eq, c36]
  refine Br.ne (fun h1 => ?_) (fun h1 => ?_)
  · simp -dsimp -implicitDefEqProofs (disch := omega) only [VCA, pg_gl, ↓upd_none, Nat.reduceEqDiff, Nat.reduceBEq, Nat.reduceAdd, Nat.reduceSub, Nat.reduceMul, Nat.reduceLT, Nat.reduceLeDiff, ↓reduceIte, reduceCtorEq, rsOf, rootsOf, SOp.rd, SI.rd, SX.rd, rdL, rdO, rdP, okParts, eqCells, okEqCells, fillA, okFill, setAt, implies_true, forall_const, forall_eq, ne_eq, exists_eq_right_right, exists_eq_right, exists_eq_left, exists_eq_left', eInt, eBool, lit_eq]
    have : ¬ a = b := fun e => h1 (by rw [e])
    first | exact Sub.refl _ | exact ⟨Sub.refl _, by simp [this]⟩
  · have h1' : a.length = b.length := by omega
    simp -dsimp -implicitDefEqProofs (disch := omega) only [VCA, pg_gl, ↓upd_none, Nat.reduceEqDiff, Nat.reduceBEq, Nat.reduceAdd, Nat.reduceSub, Nat.reduceMul, Nat.reduceLT, Nat.reduceLeDiff, ↓reduceIte, reduceCtorEq, rsOf, rootsOf, SOp.rd, SI.rd, SX.rd, rdL, rdO, rdP, okParts, eqCells, okEqCells, fillA, okFill, setAt, implies_true, forall_const, forall_eq, ne_eq, exists_eq_right_right, exists_eq_right, exists_eq_left, exists_eq_left', eInt, eBool, lit_eq]
    refine LoopVC.intro (fun m e h' => ∃ k : Nat, k ≤ a.length ∧ m = a.length - k ∧ e 0 = sl eEdit a ∧ e 1 = sl eEdit b ∧ e 5 = aInt k ∧ h' = h ∧ ∀ j, j < k → nth a j = nth b j) _ ⟨0, by omega, rfl, rfl, rfl, rfl, rfl, by omega⟩ ?_
    rintro m e h' ⟨k, hk, rfl, he0, he1, he5, rfl, hj⟩
    have hN := sameEdit_ok (G := G) (nth a k) (nth b k) (nthE_sm ha k) (nthE_sm hb k)
    unfold eEdit at hN
    simp -dsimp -implicitDefEqProofs (disch := omega) only [VCA, pg_gl, ↓upd_none, Nat.reduceEqDiff, Nat.reduceBEq, Nat.reduceAdd, Nat.reduceSub, Nat.reduceMul, Nat.reduceLT, Nat.reduceLeDiff, ↓reduceIte, reduceCtorEq, rsOf, rootsOf, SOp.rd, SI.rd, SX.rd, rdL, rdO, rdP, okParts, eqCells, okEqCells, fillA, okFill, setAt, implies_true, forall_const, forall_eq, ne_eq, exists_eq_right_right, exists_eq_right, exists_eq_left, exists_eq_left', eInt, eBool, lit_eq, he0, he1, he5]
    refine Br.dec (fun hlt => ?_) (fun hge => ?_)
    · simp -dsimp -implicitDefEqProofs (disch := omega) only [VCA, pg_gl, ↓upd_none, Nat.reduceEqDiff, Nat.reduceBEq, Nat.reduceAdd, Nat.reduceSub, Nat.reduceMul, Nat.reduceLT, Nat.reduceLeDiff, ↓reduceIte, reduceCtorEq, rsOf, rootsOf, SOp.rd, SI.rd, SX.rd, rdL, rdO, rdP, okParts, eqCells, okEqCells, fillA, okFill, setAt, implies_true, forall_const, forall_eq, ne_eq, exists_eq_right_right, exists_eq_right, exists_eq_left, exists_eq_left', eInt, eBool, lit_eq, he0, he1, he5, eEdit]
      refine ⟨by omega, by omega, ?_⟩
      refine pcallE.of (hN) ?_; simp -dsimp -implicitDefEqProofs (disch := omega) only [VCA, pg_gl, ↓upd_none, Nat.reduceEqDiff, Nat.reduceBEq, Nat.reduceAdd, Nat.reduceSub, Nat.reduceMul, Nat.reduceLT, Nat.reduceLeDiff, ↓reduceIte, reduceCtorEq, rsOf, rootsOf, SOp.rd, SI.rd, SX.rd, rdL, rdO, rdP, okParts, eqCells, okEqCells, fillA, okFill, setAt, implies_true, forall_const, forall_eq, ne_eq, exists_eq_right_right, exists_eq_right, exists_eq_left, exists_eq_left', eInt, eBool, lit_eq, he0, he1, he5, eEdit]
      refine brNeq (fun h3 => ?_) (fun h3 => ?_)
      · simp -dsimp -implicitDefEqProofs (disch := omega) only [VCA, pg_gl, ↓upd_none, Nat.reduceEqDiff, Nat.reduceBEq, Nat.reduceAdd, Nat.reduceSub, Nat.reduceMul, Nat.reduceLT, Nat.reduceLeDiff, ↓reduceIte, reduceCtorEq, rsOf, rootsOf, SOp.rd, SI.rd, SX.rd, rdL, rdO, rdP, okParts, eqCells, okEqCells, fillA, okFill, setAt, implies_true, forall_const, forall_eq, ne_eq, exists_eq_right_right, exists_eq_right, exists_eq_left, exists_eq_left', eInt, eBool, lit_eq]
        have : ¬ a = b := fun e => h3 (by rw [e])
        first | exact Sub.refl _ | exact ⟨Sub.refl _, by simp [this]⟩
      · simp -dsimp -implicitDefEqProofs (disch := omega) only [VCA, pg_gl, ↓upd_none, Nat.reduceEqDiff, Nat.reduceBEq, Nat.reduceAdd, Nat.reduceSub, Nat.reduceMul, Nat.reduceLT, Nat.reduceLeDiff, ↓reduceIte, reduceCtorEq, rsOf, rootsOf, SOp.rd, SI.rd, SX.rd, rdL, rdO, rdP, okParts, eqCells, okEqCells, fillA, okFill, setAt, implies_true, forall_const, forall_eq, ne_eq, exists_eq_right_right, exists_eq_right, exists_eq_left, exists_eq_left', eInt, eBool, lit_eq, he0, he1, he5]
        refine ⟨_, by omega, k + 1, by omega, rfl, by omega, fun j hj' => ?_⟩
        by_cases hjk : j = k
        · subst hjk; exact h3
        · exact hj j (by omega)
    · simp -dsimp -implicitDefEqProofs (disch := omega) only [VCA, pg_gl, ↓upd_none, Nat.reduceEqDiff, Nat.reduceBEq, Nat.reduceAdd, Nat.reduceSub, Nat.reduceMul, Nat.reduceLT, Nat.reduceLeDiff, ↓reduceIte, reduceCtorEq, rsOf, rootsOf, SOp.rd, SI.rd, SX.rd, rdL, rdO, rdP, okParts, eqCells, okEqCells, fillA, okFill, setAt, implies_true, forall_const, forall_eq, ne_eq, exists_eq_right_right, exists_eq_right, exists_eq_left, exists_eq_left', eInt, eBool, lit_eq]
      have : a = b := ext_nth h1' (fun j hj' => hj j (by omega))
      first | exact Sub.refl _ | exact ⟨Sub.refl _, by simp [this]⟩
/-- edits without a node -/
def noNode (e : HEdit) : Prop := e.node = ⟨0, [], [], [], 0, []⟩
theorem noNode.bare {e : HEdit} (h : noNode e) : bareE e := by unfold noNode at h; unfold bareE; rw [h]; exact ⟨rfl, rfl⟩
theorem noNode.sm {e : HEdit} (h : noNode e) : NodeSm e.node := by unfold noNode at h; rw [h]; exact ⟨by simp, by simp, (fun a ha => by cases ha), by simp, by simp⟩
theorem cutR_no (d : HDoc) (s : HSpan) (n : Int) : ∀ e ∈ cutR d s n, noNode e := fun e he => by
  unfold cutR at he
  split at he
  · split at he
    · cases he
    · simp only [List.mem_singleton] at he; subst he; rfl
  · split at he
    · cases he
    · split at he
      · cases he
      · simp only [List.mem_singleton] at he; subst he; rfl
theorem spanCut_ok (d : HDoc) (sm : DocSm d) (s : HSpan) (hE : spanE d s = 0) : PCalls (Pg G) 34 [.agg (eDoc d), .agg (eS s)] (sl eEdit (cutM d s 0)) := fun h => by
  obtain ⟨hz, ho⟩ := spanE_zero hE
  obtain ⟨hd, hp, hq⟩ := pointsE_zero hz
  have V := docE_DV hd
  refine DCalls.res (spanCut0_ok (G := G) d V sm s hp hq h) fun a h' ⟨ha, hh⟩ => ?_
  subst ha
  rw [cut_all V hp hq ho]
  exact ⟨_, .slc' (eE0_wks fun e he => by
    rw [← cut_all V hp hq ho] at he
    obtain ⟨n, _, he⟩ := List.mem_flatMap.1 he
    exact (cutR_no d s n e he).bare), rfl, hh⟩
def c6 : SFun := ⟨(.seq (.reg [⟨(some 2), (.box 24 2 (.t 0)), none⟩, ⟨(some 3), (.boxF 52 4 (.t 1)), none⟩, ⟨(some 4), (.mv (.c (.bool false))), none⟩]) (.seq (.reg [⟨(some 9), (.ld 2 true (.t 2)), none⟩, ⟨(some 10), (.pcall 31 [(.t 9)]), none⟩, ⟨none, (.st 2 (.t 2) (.t 10)), none⟩]) (.seq (.reg [⟨(some 12), (.ld 2 true (.t 2)), none⟩, ⟨(some 13), (.ld 4 true (.t 3)), none⟩, ⟨(some 14), (.pcall 32 [(.t 12), (.t 13)]), none⟩, ⟨(some 11), (.mv (.t 14)), none⟩, ⟨(some 15), (.ext (.t 11) 0), none⟩, ⟨(some 16), (.ext (.t 11) 1), none⟩, ⟨(some 5), (.mv (.t 15)), none⟩, ⟨(some 6), (.mv (.t 16)), none⟩]) (.seq (.reg [⟨(some 17), (.ld 2 true (.t 2)), none⟩, ⟨(some 18), (.ld 4 true (.t 3)), none⟩, ⟨(some 19), (.pcall 33 [(.t 17), (.t 18)]), none⟩, ⟨(some 7), (.mv (.t 19)), none⟩]) (.seq (.reg [⟨(some 8), (.mv (.c .emp)), none⟩]) (.seq (.seq (.reg [⟨(some 20), (.mv (.t 7)), none⟩, ⟨(some 21), (.bin .eql (.t 20) (.c (.int .i64 (0)))), none⟩]) (.cond (.t 21) (.reg [⟨(some 22), (.ld 2 true (.t 2)), none⟩, ⟨(some 23), (.ld 4 true (.t 3)), none⟩, ⟨(some 24), (.pcall 34 [(.t 22), (.t 23)]), none⟩, ⟨(some 8), (.mv (.t 24)), none⟩]) .skip)) (.seq (.seq (.reg [⟨(some 25), (.mv (.t 8)), none⟩, ⟨(some 26), (.len (.t 25)), none⟩, ⟨(some 27), (.bin .gtr (.t 26) (.c (.int .i64 (40)))), none⟩]) (.cond (.t 27) (.reg [⟨(some 8), (.mv (.c .emp)), none⟩, ⟨(some 7), (.mv (.c (.int .i64 (2)))), none⟩]) .skip)) (.seq (.reg [⟨(some 28), (.pcall 35 []), none⟩, ⟨(some 29), (.mv (.t 28)), none⟩, ⟨(some 30), (.mv (.t 5)), (some (29, true))⟩, ⟨(some 31), (.mv (.t 8)), (some (29, true))⟩, ⟨(some 32), (.pcall 36 [(.t 30), (.t 31)]), (some (29, true))⟩, ⟨(some 33), (.pick (.t 29) (.t 32) (.c (.bool false))), none⟩, ⟨(some 34), (.mv (.t 33)), none⟩, ⟨(some 35), (.mv (.t 6)), (some (34, true))⟩, ⟨(some 36), (.mv (.t 7)), (some (34, true))⟩, ⟨(some 37), (.bin .eql (.t 35) (.t 36)), (some (34, true))⟩, ⟨(some 38), (.pick (.t 34) (.t 37) (.c (.bool false))), none⟩, ⟨(some 4), (.mv (.t 38)), none⟩]) .ret)))))))), [(.tmp 4)]⟩
theorem hc6 : toSF Tryd.prog {pure := [31, 32, 33, 34, 35, 36], how := [(2, 6)]} Tryd.f6 = some c6 := by kernel_rfl
theorem hn6 : (Tryd.f6.name == "runtime.NumGoroutine") = false := by kernel_rfl
theorem spanCuts_ok (d : HDoc) (sm : DocSm d) (s : HSpan) : PCalls (Pg G) 6 [.agg (eDoc d), .agg (eS s)] (.bool true) := fun h => by
  have hF := brief_ok (G := G) d sm
  have fs := briefM_sm sm
  generalize briefM d = f at *
  have hC := scut_ok (G := G) f fs s
  have hE := spanErr_ok (G := G) f fs s
  have hB := spanBegun_ok (G := G)
  have sE : PCalls (Pg G) 36 [sl eEdit ([] : List HEdit), .emp] (.bool true) := (sameEdits_ok (G := G) [] [] (by simp) (by simp) (fun e he => by cases he) (fun e he => by cases he)).wk (.cons (.refl _) (.cons .emp .nil))
  refine dcalls_of_vc Tryd.func6 hn6 hc6 (by rw [Tryd.ntmps6]; simp) (by rw [Tryd.ntmps6]; decide) ?_
  simp -dsimp -implicitDefEqProofs (disch := omega) only [↓vcOps_sp 29, ↓vcD_sp 29, ↓vcOps_sp 34, ↓vcD_sp 34, VCA, pg_gl, ↓upd_none, Nat.reduceEqDiff, Nat.reduceBEq, Nat.reduceAdd, Nat.reduceSub, Nat.reduceMul, Nat.reduceLT, Nat.reduceLeDiff, ↓reduceIte, reduceCtorEq, rsOf, rootsOf, SOp.rd, SI.rd, SX.rd, rdL, rdO, rdP, okParts, eqCells, okEqCells, fillA, okFill, setAt, implies_true, forall_const, forall_eq, ne_eq, exists_eq_right_right, exists_eq_right, exists_eq_left, exists_eq_left', eInt, eBool, lit_eq, c6, eDoc_len, eDoc_take, eDoc_drop, eS_len, eS_take, List.append_nil]
  intro r hr
  refine pcallE.of (hF) ?_; simp -dsimp -implicitDefEqProofs (disch := omega) only [↓vcOps_sp 29, ↓vcD_sp 29, ↓vcOps_sp 34, ↓vcD_sp 34, VCA, pg_gl, ↓upd_none, Nat.reduceEqDiff, Nat.reduceBEq, Nat.reduceAdd, Nat.reduceSub, Nat.reduceMul, Nat.reduceLT, Nat.reduceLeDiff, ↓reduceIte, reduceCtorEq, rsOf, rootsOf, SOp.rd, SI.rd, SX.rd, rdL, rdO, rdP, okParts, eqCells, okEqCells, fillA, okFill, setAt, implies_true, forall_const, forall_eq, ne_eq, exists_eq_right_right, exists_eq_right, exists_eq_left, exists_eq_left', eInt, eBool, lit_eq, upd_same, eDoc_len, eDoc_take, eDoc_drop, eS_len, eS_take, List.append_nil]
  by_cases h1 : spanE f s = 0
  · obtain ⟨hz, ho⟩ := spanE_zero h1
    obtain ⟨hd, hp, hq⟩ := pointsE_zero hz
    have V := docE_DV hd
    have bl := below_len V V.zero
    have vl := V.len
    have cl := cut_len V s 0 V.zero
    have hX := spanCut_ok (G := G) f fs s h1
    have hno : ∀ e ∈ cutM f s 0, NodeSm e.node := fun e he => by
      rw [← cut_all V hp hq ho] at he
      obtain ⟨n, _, he⟩ := List.mem_flatMap.1 he
      exact (cutR_no f s n e he).sm
    have sS := sameEdits_ok (G := G) (cutM f s 0) (cutM f s 0) (by omega) (by omega) hno hno
    rw [show (cutM f s 0 == cutM f s 0) = true by simp] at sS
    rw [h1] at hE
    have cE : cutErr f s = if 40 < (cutM f s 0).length then 2 else 0 := by unfold cutErr; rw [if_neg (by simpa using h1)]
    unfold cutL at hC
    by_cases h4 : 40 < (cutM f s 0).length
    · rw [if_pos h4] at cE
      rw [cE, if_neg (by decide)] at hC
      repeat' (first | ((with_reducible refine Br.dec (fun _ => ?_) (fun _ => ?_)) <;> try (exfalso; omega)) | ((with_reducible refine Br.eq (fun _ => ?_) (fun _ => ?_)) <;> try (exfalso; omega)) | ((with_reducible refine Br.ne (fun _ => ?_) (fun _ => ?_)) <;> try (exfalso; omega)) | ((with_reducible refine brNdec (fun _ => ?_) (fun _ => ?_)) <;> try (exfalso; omega)) | ((with_reducible refine brNeq (fun _ => ?_) (fun _ => ?_)) <;> try (exfalso; omega)) | with_reducible refine Br.intro (fun _ => ?_) (fun _ => ?_) | (with_reducible apply pcallE.of; · exact hC) | (with_reducible apply pcallE.of; · exact hE) | (with_reducible apply pcallE.of; · exact hX) | (with_reducible apply pcallE.of; · exact hB) | (with_reducible apply pcallE.of; · exact sE) | (with_reducible refine And.intro ?_ ?_; · omega) | simp -dsimp -implicitDefEqProofs (disch := omega) only [↓vcOps_sp 29, ↓vcD_sp 29, ↓vcOps_sp 34, ↓vcD_sp 34, VCA, pg_gl, ↓upd_none, Nat.reduceEqDiff, Nat.reduceBEq, Nat.reduceAdd, Nat.reduceSub, Nat.reduceMul, Nat.reduceLT, Nat.reduceLeDiff, ↓reduceIte, reduceCtorEq, rsOf, rootsOf, SOp.rd, SI.rd, SX.rd, rdL, rdO, rdP, okParts, eqCells, okEqCells, fillA, okFill, setAt, implies_true, forall_const, forall_eq, ne_eq, exists_eq_right_right, exists_eq_right, exists_eq_left, exists_eq_left', eInt, eBool, lit_eq, upd_same, eDoc_len, eDoc_take, eDoc_drop, eS_len, eS_take, List.append_nil])
      all_goals first | exact ⟨(Sub.refl h).upd hr, rfl⟩ | exact (Sub.refl h).upd hr | (exfalso; omega) | trace_state
    · rw [if_neg h4] at cE
      rw [cE, if_pos rfl] at hC
      repeat' (first | ((with_reducible refine Br.dec (fun _ => ?_) (fun _ => ?_)) <;> try (exfalso; omega)) | ((with_reducible refine Br.eq (fun _ => ?_) (fun _ => ?_)) <;> try (exfalso; omega)) | ((with_reducible refine Br.ne (fun _ => ?_) (fun _ => ?_)) <;> try (exfalso; omega)) | ((with_reducible refine brNdec (fun _ => ?_) (fun _ => ?_)) <;> try (exfalso; omega)) | ((with_reducible refine brNeq (fun _ => ?_) (fun _ => ?_)) <;> try (exfalso; omega)) | with_reducible refine Br.intro (fun _ => ?_) (fun _ => ?_) | (with_reducible apply pcallE.of; · exact hC) | (with_reducible apply pcallE.of; · exact hE) | (with_reducible apply pcallE.of; · exact hX) | (with_reducible apply pcallE.of; · exact hB) | (with_reducible apply pcallE.of; · exact sS) | (with_reducible refine And.intro ?_ ?_; · omega) | simp -dsimp -implicitDefEqProofs (disch := omega) only [↓vcOps_sp 29, ↓vcD_sp 29, ↓vcOps_sp 34, ↓vcD_sp 34, VCA, pg_gl, ↓upd_none, Nat.reduceEqDiff, Nat.reduceBEq, Nat.reduceAdd, Nat.reduceSub, Nat.reduceMul, Nat.reduceLT, Nat.reduceLeDiff, ↓reduceIte, reduceCtorEq, rsOf, rootsOf, SOp.rd, SI.rd, SX.rd, rdL, rdO, rdP, okParts, eqCells, okEqCells, fillA, okFill, setAt, implies_true, forall_const, forall_eq, ne_eq, exists_eq_right_right, exists_eq_right, exists_eq_left, exists_eq_left', eInt, eBool, lit_eq, upd_same, eDoc_len, eDoc_take, eDoc_drop, eS_len, eS_take, List.append_nil])
      all_goals first | exact ⟨(Sub.refl h).upd hr, rfl⟩ | exact (Sub.refl h).upd hr | (exfalso; omega) | trace_state
  · have cE : cutErr f s = spanE f s := by unfold cutErr; rw [if_pos h1]
    unfold cutL at hC
    rw [cE, if_neg h1] at hC
    repeat' (first | ((with_reducible refine Br.dec (fun _ => ?_) (fun _ => ?_)) <;> try (exfalso; omega)) | ((with_reducible refine Br.eq (fun _ => ?_) (fun _ => ?_)) <;> try (exfalso; omega)) | ((with_reducible refine Br.ne (fun _ => ?_) (fun _ => ?_)) <;> try (exfalso; omega)) | ((with_reducible refine brNdec (fun _ => ?_) (fun _ => ?_)) <;> try (exfalso; omega)) | ((with_reducible refine brNeq (fun _ => ?_) (fun _ => ?_)) <;> try (exfalso; omega)) | with_reducible refine Br.intro (fun _ => ?_) (fun _ => ?_) | (with_reducible apply pcallE.of; · exact hC) | (with_reducible apply pcallE.of; · exact hE) | (with_reducible apply pcallE.of; · exact hB) | (with_reducible apply pcallE.of; · exact sE) | (with_reducible refine And.intro ?_ ?_; · omega) | simp -dsimp -implicitDefEqProofs (disch := omega) only [↓vcOps_sp 29, ↓vcD_sp 29, ↓vcOps_sp 34, ↓vcD_sp 34, VCA, pg_gl, ↓upd_none, Nat.reduceEqDiff, Nat.reduceBEq, Nat.reduceAdd, Nat.reduceSub, Nat.reduceMul, Nat.reduceLT, Nat.reduceLeDiff, ↓reduceIte, reduceCtorEq, rsOf, rootsOf, SOp.rd, SI.rd, SX.rd, rdL, rdO, rdP, okParts, eqCells, okEqCells, fillA, okFill, setAt, implies_true, forall_const, forall_eq, ne_eq, exists_eq_right_right, exists_eq_right, exists_eq_left, exists_eq_left', eInt, eBool, lit_eq, h1, upd_same, eDoc_len, eDoc_take, eDoc_drop, eS_len, eS_take, List.append_nil])
    all_goals first | exact ⟨(Sub.refl h).upd hr, by simp⟩ | exact (Sub.refl h).upd hr | (exfalso; omega) | trace_state
end Go.Proofs.K
end
