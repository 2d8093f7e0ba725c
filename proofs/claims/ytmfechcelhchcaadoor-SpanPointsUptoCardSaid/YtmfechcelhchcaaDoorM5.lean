/- Texts of this claim, one behind the other. -/
import Derived.Test.YtmfechcelhchcaaDoorM4
import Derived.Test.YtmfechcelhchcaaDoorM2
section
/- Ranges: text: contracts. -/
set_option linter.unusedSimpArgs false
set_option linter.unusedVariables false
namespace Go.Proofs.K
open Go Go.Sim Go.Proofs
variable {G : Glob}
def loM (s : HSpan) (n : Int) : Int := if s.a.node = n then s.a.at' else 0
def hiM (d : HDoc) (s : HSpan) (n : Int) : Int := if s.b.node = n then s.b.at' else (nd d n).text.length
def partM (d : HDoc) (n : Int) (s : HSpan) : List UInt8 :=
  if s.a.node ≠ n ∧ orderM d ⟨n, 0⟩ s.a < 0 then [] else if s.b.node ≠ n ∧ 0 < orderM d ⟨n, 0⟩ s.b then []
  else ((nd d n).text.take (hiM d s n).toNat).drop (loM s n).toNat
def c89 : SFun := ⟨(.seq (.reg [⟨(some 3), (.boxF 124 2 (.t 0)), none⟩, ⟨(some 5), (.boxF 52 4 (.t 2)), none⟩, ⟨(some 6), (.mv (.c (.str []))), none⟩]) (.seq (.reg [⟨(some 10), (.fldA 0 (.t 3)), none⟩, ⟨(some 11), (.fldA 0 (.t 10)), none⟩, ⟨(some 12), (.ld 1 false (.t 11)), none⟩, ⟨(some 13), (.mv (.t 1)), none⟩, ⟨(some 14), (.idxA 6 (.t 12) (.t 13)), none⟩, ⟨(some 15), (.fldA 3 (.t 14)), none⟩, ⟨(some 16), (.ld 1 false (.t 15)), none⟩, ⟨(some 7), (.mv (.t 16)), none⟩]) (.seq (.reg [⟨(some 17), (.mv (.t 7)), none⟩, ⟨(some 18), (.lenS (.t 17)), none⟩, ⟨(some 8), (.mv (.c (.int .i64 (0)))), none⟩, ⟨(some 9), (.mv (.t 18)), none⟩]) (.seq (.block 0 (.seq (.reg [⟨(some 20), (.fldA 0 (.t 5)), none⟩, ⟨(some 21), (.fldA 0 (.t 20)), none⟩, ⟨(some 22), (.ld 1 false (.t 21)), none⟩, ⟨(some 23), (.mv (.t 1)), none⟩, ⟨(some 24), (.bin .eql (.t 22) (.t 23)), none⟩, ⟨(some 19), (.mv (.t 24)), none⟩]) (.cond (.t 19) (.reg [⟨(some 25), (.fldA 0 (.t 5)), none⟩, ⟨(some 26), (.fldA 1 (.t 25)), none⟩, ⟨(some 27), (.ld 1 false (.t 26)), none⟩, ⟨(some 8), (.mv (.t 27)), none⟩]) (.seq (.reg [⟨(some 29), (.ld 2 true (.t 3)), none⟩, ⟨(some 30), (.mv (.t 1)), none⟩, ⟨(some 31), (.bld [(.int .i64 (0)), (.int .i64 (0))] [(0, (1, (.t 30)))]), none⟩, ⟨(some 32), (.fldA 0 (.t 5)), none⟩, ⟨(some 33), (.ld 2 true (.t 32)), none⟩, ⟨(some 34), (.pcall 88 [(.t 29), (.t 31), (.t 33)]), none⟩, ⟨(some 35), (.bin .lss (.t 34) (.c (.int .i64 (0)))), none⟩, ⟨(some 28), (.mv (.t 35)), none⟩]) (.cond (.t 28) (.seq (.reg [⟨(some 6), (.mv (.c (.str []))), none⟩]) .ret) .skip))))) (.seq (.block 1 (.seq (.reg [⟨(some 37), (.fldA 2 (.t 5)), none⟩, ⟨(some 38), (.fldA 0 (.t 37)), none⟩, ⟨(some 39), (.ld 1 false (.t 38)), none⟩, ⟨(some 40), (.mv (.t 1)), none⟩, ⟨(some 41), (.bin .eql (.t 39) (.t 40)), none⟩, ⟨(some 36), (.mv (.t 41)), none⟩]) (.cond (.t 36) (.reg [⟨(some 42), (.fldA 2 (.t 5)), none⟩, ⟨(some 43), (.fldA 1 (.t 42)), none⟩, ⟨(some 44), (.ld 1 false (.t 43)), none⟩, ⟨(some 9), (.mv (.t 44)), none⟩]) (.seq (.reg [⟨(some 46), (.ld 2 true (.t 3)), none⟩, ⟨(some 47), (.mv (.t 1)), none⟩, ⟨(some 48), (.bld [(.int .i64 (0)), (.int .i64 (0))] [(0, (1, (.t 47)))]), none⟩, ⟨(some 49), (.fldA 2 (.t 5)), none⟩, ⟨(some 50), (.ld 2 true (.t 49)), none⟩, ⟨(some 51), (.pcall 88 [(.t 46), (.t 48), (.t 50)]), none⟩, ⟨(some 52), (.bin .gtr (.t 51) (.c (.int .i64 (0)))), none⟩, ⟨(some 45), (.mv (.t 52)), none⟩]) (.cond (.t 45) (.seq (.reg [⟨(some 6), (.mv (.c (.str []))), none⟩]) .ret) .skip))))) (.seq (.reg [⟨(some 53), (.mv (.t 7)), none⟩, ⟨(some 54), (.mv (.t 8)), none⟩, ⟨(some 55), (.mv (.t 9)), none⟩, ⟨(some 56), (.slS (.t 53) (some (.t 54)) (some (.t 55))), none⟩, ⟨(some 6), (.mv (.t 56)), none⟩]) .ret)))))), [(.tmp 6)]⟩
theorem hc89 : toSF Tryd.prog {pure := [88]} Tryd.f89 = some c89 := by kernel_rfl
theorem hn89 : (Tryd.f89.name == "runtime.NumGoroutine") = false := by kernel_rfl
theorem part_ok (d : HDoc) (V : DV d) (sm : DocSm d) (n : Int) (s : HSpan) (hn : inD d n) (hc : 0 ∈ chain d n) (hk : (nd d n).kind = 3) (ha : pointE d s.a = 0) (hb : pointE d s.b = 0) (ho : orderM d s.a s.b ≤ 0) :
    PCalls (Pg G) 89 [.agg (eDoc d), aInt n, .agg (eS s)] (.str (partM d n s)) := fun h => by
  have hl := V.len
  have n0 := hn.1
  have n1 := hn.2
  have e0 : nth d.nodes n.toNat = nd d n := rfl
  have tl := (sm.nd n).text
  have hr : roomM d n = (nd d n).text.length := by unfold roomM; rw [if_pos (.inl hk)]
  obtain ⟨a1, a2, a3, a4, a5⟩ := point_marks V ha
  obtain ⟨b1, b2, b3, b4, b5⟩ := point_marks V hb
  have hp : pointE d ⟨n, 0⟩ = 0 := by unfold pointE; rw [if_neg (by simp [hn]), if_neg (by simpa using hc)]
  have oA := order_ok (G := G) d V sm ⟨n, 0⟩ s.a hp ha
  have oB := order_ok (G := G) d V sm ⟨n, 0⟩ s.b hp hb
  replace oA : PCalls (Pg G) 88 [.agg [sl eNode d.nodes, .bool d.quirks], .agg [aInt n, aInt 0], .agg [aInt s.a.node, aInt s.a.at']] (aInt (orderM d ⟨n, 0⟩ s.a)) := oA
  replace oB : PCalls (Pg G) 88 [.agg [sl eNode d.nodes, .bool d.quirks], .agg [aInt n, aInt 0], .agg [aInt s.b.node, aInt s.b.at']] (aInt (orderM d ⟨n, 0⟩ s.b)) := oB
  have c0 : nth d.nodes n.toNat = nd d n := rfl
  refine dcalls_of_vc Tryd.func89 hn89 hc89 (by rw [Tryd.ntmps89]; simp) (by rw [Tryd.ntmps89]; decide) ?_
  unfold partM loM hiM
  by_cases h1 : s.a.node = n
  · have ea := a3
    rw [h1, hr] at ea
    by_cases h2 : s.b.node = n
    · have eb := b3
      rw [h2, hr] at eb
      have hab : s.a.at' ≤ s.b.at' := by
        unfold orderM at ho
        rw [if_pos (by rw [h1, h2])] at ho
        unfold cmpI at ho
        split at ho <;> first | omega | (split at ho <;> omega)
      simp -dsimp -implicitDefEqProofs (disch := omega) only [VCA, pg_gl, ↓upd_none, Nat.reduceEqDiff, Nat.reduceBEq, Nat.reduceAdd, Nat.reduceSub, Nat.reduceMul, Nat.reduceLT, Nat.reduceLeDiff, ↓reduceIte, reduceCtorEq, rsOf, rootsOf, SOp.rd, SI.rd, SX.rd, rdL, rdO, rdP, okParts, eqCells, okEqCells, fillA, okFill, setAt, implies_true, forall_const, forall_eq, ne_eq, exists_eq_right_right, exists_eq_right, exists_eq_left, exists_eq_left', eInt, eBool, lit_eq, c89, eDoc, eNode, eS, h1, h2, c0]
      repeat' (first | ((with_reducible refine Br.dec (fun _ => ?_) (fun _ => ?_)) <;> try (exfalso; omega)) | ((with_reducible refine Br.eq (fun _ => ?_) (fun _ => ?_)) <;> try (exfalso; omega)) | ((with_reducible refine Br.ne (fun _ => ?_) (fun _ => ?_)) <;> try (exfalso; omega)) | ((with_reducible refine brNdec (fun _ => ?_) (fun _ => ?_)) <;> try (exfalso; omega)) | ((with_reducible refine brNeq (fun _ => ?_) (fun _ => ?_)) <;> try (exfalso; omega)) | with_reducible refine Br.intro (fun _ => ?_) (fun _ => ?_) | (with_reducible refine And.intro ?_ ?_; · omega) | simp -dsimp -implicitDefEqProofs (disch := omega) only [VCA, pg_gl, ↓upd_none, Nat.reduceEqDiff, Nat.reduceBEq, Nat.reduceAdd, Nat.reduceSub, Nat.reduceMul, Nat.reduceLT, Nat.reduceLeDiff, ↓reduceIte, reduceCtorEq, rsOf, rootsOf, SOp.rd, SI.rd, SX.rd, rdL, rdO, rdP, okParts, eqCells, okEqCells, fillA, okFill, setAt, implies_true, forall_const, forall_eq, ne_eq, exists_eq_right_right, exists_eq_right, exists_eq_left, exists_eq_left', eInt, eBool, lit_eq, eDoc, eNode, eS, h1, h2, c0])
      exact ⟨Sub.refl _, by simp⟩
    · generalize orderM d ⟨n, 0⟩ s.b = y at *
      simp -dsimp -implicitDefEqProofs (disch := omega) only [VCA, pg_gl, ↓upd_none, Nat.reduceEqDiff, Nat.reduceBEq, Nat.reduceAdd, Nat.reduceSub, Nat.reduceMul, Nat.reduceLT, Nat.reduceLeDiff, ↓reduceIte, reduceCtorEq, rsOf, rootsOf, SOp.rd, SI.rd, SX.rd, rdL, rdO, rdP, okParts, eqCells, okEqCells, fillA, okFill, setAt, implies_true, forall_const, forall_eq, ne_eq, exists_eq_right_right, exists_eq_right, exists_eq_left, exists_eq_left', eInt, eBool, lit_eq, c89, eDoc, eNode, eS, h1, h2, c0]
      repeat' (first | ((with_reducible refine Br.dec (fun _ => ?_) (fun _ => ?_)) <;> try (exfalso; omega)) | ((with_reducible refine Br.eq (fun _ => ?_) (fun _ => ?_)) <;> try (exfalso; omega)) | ((with_reducible refine Br.ne (fun _ => ?_) (fun _ => ?_)) <;> try (exfalso; omega)) | ((with_reducible refine brNdec (fun _ => ?_) (fun _ => ?_)) <;> try (exfalso; omega)) | ((with_reducible refine brNeq (fun _ => ?_) (fun _ => ?_)) <;> try (exfalso; omega)) | with_reducible refine Br.intro (fun _ => ?_) (fun _ => ?_) | (with_reducible apply pcallE.of; · exact oB) | (with_reducible refine And.intro ?_ ?_; · omega) | simp -dsimp -implicitDefEqProofs (disch := omega) only [VCA, pg_gl, ↓upd_none, Nat.reduceEqDiff, Nat.reduceBEq, Nat.reduceAdd, Nat.reduceSub, Nat.reduceMul, Nat.reduceLT, Nat.reduceLeDiff, ↓reduceIte, reduceCtorEq, rsOf, rootsOf, SOp.rd, SI.rd, SX.rd, rdL, rdO, rdP, okParts, eqCells, okEqCells, fillA, okFill, setAt, implies_true, forall_const, forall_eq, ne_eq, exists_eq_right_right, exists_eq_right, exists_eq_left, exists_eq_left', eInt, eBool, lit_eq, eDoc, eNode, eS, h1, h2, c0])
      all_goals refine ⟨Sub.refl _, ?_⟩
      all_goals clear oA oB
      all_goals repeat split
      all_goals first | rfl | (exfalso; simp_all; done) | (exfalso; omega)
  · generalize orderM d ⟨n, 0⟩ s.a = x at *
    by_cases h2 : s.b.node = n
    · have eb := b3
      rw [h2, hr] at eb
      simp -dsimp -implicitDefEqProofs (disch := omega) only [VCA, pg_gl, ↓upd_none, Nat.reduceEqDiff, Nat.reduceBEq, Nat.reduceAdd, Nat.reduceSub, Nat.reduceMul, Nat.reduceLT, Nat.reduceLeDiff, ↓reduceIte, reduceCtorEq, rsOf, rootsOf, SOp.rd, SI.rd, SX.rd, rdL, rdO, rdP, okParts, eqCells, okEqCells, fillA, okFill, setAt, implies_true, forall_const, forall_eq, ne_eq, exists_eq_right_right, exists_eq_right, exists_eq_left, exists_eq_left', eInt, eBool, lit_eq, c89, eDoc, eNode, eS, h1, h2, c0]
      repeat' (first | ((with_reducible refine Br.dec (fun _ => ?_) (fun _ => ?_)) <;> try (exfalso; omega)) | ((with_reducible refine Br.eq (fun _ => ?_) (fun _ => ?_)) <;> try (exfalso; omega)) | ((with_reducible refine Br.ne (fun _ => ?_) (fun _ => ?_)) <;> try (exfalso; omega)) | ((with_reducible refine brNdec (fun _ => ?_) (fun _ => ?_)) <;> try (exfalso; omega)) | ((with_reducible refine brNeq (fun _ => ?_) (fun _ => ?_)) <;> try (exfalso; omega)) | with_reducible refine Br.intro (fun _ => ?_) (fun _ => ?_) | (with_reducible apply pcallE.of; · exact oA) | (with_reducible refine And.intro ?_ ?_; · omega) | simp -dsimp -implicitDefEqProofs (disch := omega) only [VCA, pg_gl, ↓upd_none, Nat.reduceEqDiff, Nat.reduceBEq, Nat.reduceAdd, Nat.reduceSub, Nat.reduceMul, Nat.reduceLT, Nat.reduceLeDiff, ↓reduceIte, reduceCtorEq, rsOf, rootsOf, SOp.rd, SI.rd, SX.rd, rdL, rdO, rdP, okParts, eqCells, okEqCells, fillA, okFill, setAt, implies_true, forall_const, forall_eq, ne_eq, exists_eq_right_right, exists_eq_right, exists_eq_left, exists_eq_left', eInt, eBool, lit_eq, eDoc, eNode, eS, h1, h2, c0])
      all_goals refine ⟨Sub.refl _, ?_⟩
      all_goals clear oA oB
      all_goals repeat split
      all_goals first | rfl | (exfalso; simp_all; done) | (exfalso; omega)
    · generalize orderM d ⟨n, 0⟩ s.b = y at *
      simp -dsimp -implicitDefEqProofs (disch := omega) only [VCA, pg_gl, ↓upd_none, Nat.reduceEqDiff, Nat.reduceBEq, Nat.reduceAdd, Nat.reduceSub, Nat.reduceMul, Nat.reduceLT, Nat.reduceLeDiff, ↓reduceIte, reduceCtorEq, rsOf, rootsOf, SOp.rd, SI.rd, SX.rd, rdL, rdO, rdP, okParts, eqCells, okEqCells, fillA, okFill, setAt, implies_true, forall_const, forall_eq, ne_eq, exists_eq_right_right, exists_eq_right, exists_eq_left, exists_eq_left', eInt, eBool, lit_eq, c89, eDoc, eNode, eS, h1, h2, c0]
      repeat' (first | ((with_reducible refine Br.dec (fun _ => ?_) (fun _ => ?_)) <;> try (exfalso; omega)) | ((with_reducible refine Br.eq (fun _ => ?_) (fun _ => ?_)) <;> try (exfalso; omega)) | ((with_reducible refine Br.ne (fun _ => ?_) (fun _ => ?_)) <;> try (exfalso; omega)) | ((with_reducible refine brNdec (fun _ => ?_) (fun _ => ?_)) <;> try (exfalso; omega)) | ((with_reducible refine brNeq (fun _ => ?_) (fun _ => ?_)) <;> try (exfalso; omega)) | with_reducible refine Br.intro (fun _ => ?_) (fun _ => ?_) | (with_reducible apply pcallE.of; · exact oA) | (with_reducible apply pcallE.of; · exact oB) | (with_reducible refine And.intro ?_ ?_; · omega) | simp -dsimp -implicitDefEqProofs (disch := omega) only [VCA, pg_gl, ↓upd_none, Nat.reduceEqDiff, Nat.reduceBEq, Nat.reduceAdd, Nat.reduceSub, Nat.reduceMul, Nat.reduceLT, Nat.reduceLeDiff, ↓reduceIte, reduceCtorEq, rsOf, rootsOf, SOp.rd, SI.rd, SX.rd, rdL, rdO, rdP, okParts, eqCells, okEqCells, fillA, okFill, setAt, implies_true, forall_const, forall_eq, ne_eq, exists_eq_right_right, exists_eq_right, exists_eq_left, exists_eq_left', eInt, eBool, lit_eq, eDoc, eNode, eS, h1, h2, c0])
      all_goals refine ⟨Sub.refl _, ?_⟩
      all_goals clear oA oB
      all_goals repeat split
      all_goals first | rfl | (exfalso; simp_all; done) | (exfalso; omega)
def textS (d : HDoc) (s : HSpan) (l : List Int) : List UInt8 := l.flatMap fun n => if (nd d n).kind = 3 then partM d n s else []
theorem partM_len {d : HDoc} (V : DV d) (s : HSpan) {n : Int} (hn : inD d n) : (partM d n s).length ≤ 400 := by
  have := text_len V hn
  unfold partM
  split
  · simp
  · split
    · simp
    · rw [List.length_drop, List.length_take]; omega
theorem textS_len {d : HDoc} (V : DV d) (s : HSpan) : ∀ l : List Int, (∀ n ∈ l, inD d n) → (textS d s l).length ≤ 400 * l.length
  | [], _ => by simp [textS]
  | n :: l, h => by
    have h1 := textS_len V s l (fun m hm => h m (List.mem_cons_of_mem _ hm))
    have h2 : (if (nd d n).kind = 3 then partM d n s else []).length ≤ 400 := by
      split
      · exact partM_len V s (h n List.mem_cons_self)
      · simp
    have e : textS d s (n :: l) = (if (nd d n).kind = 3 then partM d n s else []) ++ textS d s l := rfl
    rw [e, List.length_append, List.length_cons]; omega
theorem spanE_zero {d : HDoc} {s : HSpan} (h : spanE d s = 0) : pointsE d [s.a, s.b] = 0 ∧ orderM d s.a s.b ≤ 0 := by
  unfold spanE at h
  split at h
  · contradiction
  · rename_i h1
    split at h
    · omega
    · exact ⟨by simpa using h1, by omega⟩
def c38 : SFun := ⟨(.seq (.reg [⟨(some 2), (.boxF 24 2 (.t 0)), none⟩, ⟨(some 3), (.boxF 52 4 (.t 1)), none⟩, ⟨(some 4), (.mv (.c (.str []))), none⟩, ⟨(some 5), (.mv (.c (.int .i64 (0)))), none⟩]) (.seq (.reg [⟨(some 14), (.ld 2 true (.t 2)), none⟩, ⟨(some 15), (.ld 4 true (.t 3)), none⟩, ⟨(some 16), (.pcall 82 [(.t 14), (.t 15)]), none⟩, ⟨(some 13), (.mv (.t 16)), none⟩, ⟨(some 17), (.ext (.t 13) 0), none⟩, ⟨(some 18), (.ext (.t 13) 1), none⟩, ⟨(some 6), (.new 124 2 [.emp, (.bool false)]), none⟩, ⟨none, (.st 2 (.t 6) (.t 17)), none⟩, ⟨(some 7), (.mv (.t 18)), none⟩]) (.seq (.seq (.reg [⟨(some 19), (.mv (.t 7)), none⟩, ⟨(some 20), (.bin .neq (.t 19) (.c (.int .i64 (0)))), none⟩]) (.cond (.t 20) (.seq (.reg [⟨(some 21), (.mv (.t 7)), none⟩, ⟨(some 4), (.mv (.c (.str []))), none⟩, ⟨(some 5), (.mv (.t 21)), none⟩]) .ret) .skip)) (.seq (.reg [⟨(some 23), (.ld 2 true (.t 2)), none⟩, ⟨(some 24), (.pcall 59 [(.t 23)]), none⟩, ⟨(some 22), (.mv (.t 24)), none⟩, ⟨(some 25), (.ext (.t 22) 0), none⟩, ⟨(some 26), (.ext (.t 22) 1), none⟩, ⟨(some 8), (.mv (.t 25)), none⟩, ⟨(some 9), (.mv (.t 26)), none⟩]) (.seq (.reg [⟨(some 10), (.mv (.c (.str []))), none⟩]) (.seq (.seq (.reg [⟨(some 27), (.mv (.t 8)), none⟩, ⟨(some 28), (.len (.t 27)), none⟩, ⟨(some 29), (.mv (.c (.int .i64 (0)))), none⟩]) (.block 0 (.loop (.seq (.reg [⟨(some 30), (.bin .lss (.t 29) (.t 28)), none⟩]) (.seq (.cond (.t 30) .skip (.exit 0)) (.seq (.block 1 (.seq (.reg [⟨(some 31), (.idxA 1 (.t 27) (.t 29)), none⟩, ⟨(some 32), (.ld 1 false (.t 31)), none⟩, ⟨(some 12), (.mv (.t 32)), none⟩]) (.seq (.reg [⟨(some 33), (.fldA 0 (.t 2)), none⟩, ⟨(some 34), (.ld 1 false (.t 33)), none⟩, ⟨(some 35), (.mv (.t 12)), none⟩, ⟨(some 36), (.idxA 6 (.t 34) (.t 35)), none⟩, ⟨(some 37), (.fldA 0 (.t 36)), none⟩, ⟨(some 38), (.ld 1 false (.t 37)), none⟩, ⟨(some 39), (.bin .eql (.t 38) (.c (.int .i64 (3)))), none⟩]) (.cond (.t 39) (.reg [⟨(some 40), (.mv (.t 10)), none⟩, ⟨(some 41), (.ld 2 true (.t 6)), none⟩, ⟨(some 42), (.mv (.t 12)), none⟩, ⟨(some 43), (.ld 4 true (.t 3)), none⟩, ⟨(some 44), (.pcall 89 [(.t 41), (.t 42), (.t 43)]), none⟩, ⟨(some 45), (.bin .add (.t 40) (.t 44)), none⟩, ⟨(some 10), (.mv (.t 45)), none⟩]) .skip)))) (.reg [⟨(some 46), (.bin .add (.t 29) (.c (.int .i64 (1)))), none⟩, ⟨(some 29), (.mv (.t 46)), none⟩]))))))) (.seq (.reg [⟨(some 47), (.mv (.t 10)), none⟩, ⟨(some 4), (.mv (.t 47)), none⟩, ⟨(some 5), (.mv (.c (.int .i64 (0)))), none⟩]) .ret))))))), [(.tmp 4), (.tmp 5)]⟩
theorem hc38 : toSF Tryd.prog {pure := [82, 59, 89]} Tryd.f38 = some c38 := by kernel_rfl
theorem hn38 : (Tryd.f38.name == "runtime.NumGoroutine") = false := by kernel_rfl
theorem stext_ok (d : HDoc) (sm : DocSm d) (s : HSpan) : PCalls (Pg G) 38 [.agg (eDoc d), .agg (eS s)] (.tup [.str (if spanE d s = 0 then textS d s (below d 0) else []), aInt (spanE d s)]) := fun h => by
  have hC := span_ok (G := G) d sm s
  refine dcalls_of_vc Tryd.func38 hn38 hc38 (by rw [Tryd.ntmps38]; simp) (by rw [Tryd.ntmps38]; decide) ?_
  simp -dsimp -implicitDefEqProofs (disch := omega) only [VCA, pg_gl, ↓upd_none, Nat.reduceEqDiff, Nat.reduceBEq, Nat.reduceAdd, Nat.reduceSub, Nat.reduceMul, Nat.reduceLT, Nat.reduceLeDiff, ↓reduceIte, reduceCtorEq, rsOf, rootsOf, SOp.rd, SI.rd, SX.rd, rdL, rdO, rdP, okParts, eqCells, okEqCells, fillA, okFill, setAt, implies_true, forall_const, forall_eq, ne_eq, exists_eq_right_right, exists_eq_right, exists_eq_left, exists_eq_left', eInt, eBool, lit_eq, c38, eDoc_len, eDoc_take, eDoc_drop, eS_len, eS_take, List.append_nil]
  refine pcallE.of (hC) ?_; simp -dsimp -implicitDefEqProofs (disch := omega) only [VCA, pg_gl, ↓upd_none, Nat.reduceEqDiff, Nat.reduceBEq, Nat.reduceAdd, Nat.reduceSub, Nat.reduceMul, Nat.reduceLT, Nat.reduceLeDiff, ↓reduceIte, reduceCtorEq, rsOf, rootsOf, SOp.rd, SI.rd, SX.rd, rdL, rdO, rdP, okParts, eqCells, okEqCells, fillA, okFill, setAt, implies_true, forall_const, forall_eq, ne_eq, exists_eq_right_right, exists_eq_right, exists_eq_left, exists_eq_left', eInt, eBool, lit_eq, eDoc_len, eDoc_take, eDoc_drop, List.append_nil]
  intro r hr
  by_cases h1 : spanE d s = 0
  · obtain ⟨hz, ho⟩ := spanE_zero h1
    obtain ⟨hd, hp, hq⟩ := pointsE_zero hz
    have V := docE_DV hd
    have hl := V.len
    have bl := below_len V V.zero
    have hO := domOrder_ok (G := G) d V hd sm
    have hin := below_in V 0 V.zero
    rw [h1, if_pos rfl]
    have g6 : (upd h r (some ⟨124, 2, [eDoc d]⟩)) r = some ⟨124, 2, [eDoc d]⟩ := upd_same _ _ _
    have S6 : Sim.Sub h (upd h r (some ⟨124, 2, [eDoc d]⟩)) := (Sub.refl h).upd hr
    have hmem := fun n hn => (mem_below V (hin n hn) V.zero).1 hn
    refine Br.ne (fun hh => absurd rfl hh) (fun _ => ?_)
    simp -dsimp -implicitDefEqProofs (disch := omega) only [VCA, pg_gl, ↓upd_none, Nat.reduceEqDiff, Nat.reduceBEq, Nat.reduceAdd, Nat.reduceSub, Nat.reduceMul, Nat.reduceLT, Nat.reduceLeDiff, ↓reduceIte, reduceCtorEq, rsOf, rootsOf, SOp.rd, SI.rd, SX.rd, rdL, rdO, rdP, okParts, eqCells, okEqCells, fillA, okFill, setAt, implies_true, forall_const, forall_eq, ne_eq, exists_eq_right_right, exists_eq_right, exists_eq_left, exists_eq_left', eInt, eBool, lit_eq, eDoc_len, eDoc_take, eDoc_drop, List.append_nil]
    refine pcallE.of (hO) ?_; simp -dsimp -implicitDefEqProofs (disch := omega) only [VCA, pg_gl, ↓upd_none, Nat.reduceEqDiff, Nat.reduceBEq, Nat.reduceAdd, Nat.reduceSub, Nat.reduceMul, Nat.reduceLT, Nat.reduceLeDiff, ↓reduceIte, reduceCtorEq, rsOf, rootsOf, SOp.rd, SI.rd, SX.rd, rdL, rdO, rdP, okParts, eqCells, okEqCells, fillA, okFill, setAt, implies_true, forall_const, forall_eq, ne_eq, exists_eq_right_right, exists_eq_right, exists_eq_left, exists_eq_left', eInt, eBool, lit_eq, eDoc_len, eDoc_take, eDoc_drop, List.append_nil]
    generalize below d 0 = L at *
    refine LoopVC.intro (fun m e h' => ∃ k : Nat, k ≤ L.length ∧ m = L.length - k ∧ e 2 = .pin (eDoc d) ∧ e 3 = .pin (eS s) ∧ e 6 = .vp r 0 ∧ e 10 = .str (textS d s (L.take k)) ∧ e 27 = sl eInt L ∧ e 28 = aInt L.length ∧ e 29 = aInt k ∧ h' = upd h r (some ⟨124, 2, [eDoc d]⟩)) L.length ⟨0, by omega, by omega, rfl, rfl, rfl, rfl, rfl, rfl, rfl, by rfl⟩ ?_
    rintro m e h' ⟨k, hk, rfl, he2, he3, he6, he10, he27, he28, he29, rfl⟩
    simp -dsimp -implicitDefEqProofs (disch := omega) only [VCA, pg_gl, ↓upd_none, Nat.reduceEqDiff, Nat.reduceBEq, Nat.reduceAdd, Nat.reduceSub, Nat.reduceMul, Nat.reduceLT, Nat.reduceLeDiff, ↓reduceIte, reduceCtorEq, rsOf, rootsOf, SOp.rd, SI.rd, SX.rd, rdL, rdO, rdP, okParts, eqCells, okEqCells, fillA, okFill, setAt, implies_true, forall_const, forall_eq, ne_eq, exists_eq_right_right, exists_eq_right, exists_eq_left, exists_eq_left', eInt, eBool, lit_eq, he2, he3, he6, he10, he27, he28, he29]
    refine Br.dec (fun hlt => ?_) (fun hge => ?_)
    · have hk' : k < L.length := by omega
      have hm := nth_mem' hk'
      have hn := hin _ hm
      have n0 := hn.1
      have n1 := hn.2
      have e0 : nth d.nodes (nth L k).toNat = nd d (nth L k) := rfl
      have ht : textS d s (L.take (k + 1)) = textS d s (L.take k) ++ (if (nd d (nth L k)).kind = 3 then partM d (nth L k) s else []) := by
        unfold textS; rw [take_snoc hk', List.flatMap_append]; simp
      have eL := eDoc_len d
      have eT := eDoc_take d
      by_cases h3 : (nd d (nth L k)).kind = 3
      · have hP := part_ok (G := G) d V sm (nth L k) s hn (hmem _ hm) h3 hp hq ho
        rw [if_pos h3] at ht
        unfold eDoc at hP
        simp -dsimp -implicitDefEqProofs (disch := omega) only [VCA, pg_gl, ↓upd_none, Nat.reduceEqDiff, Nat.reduceBEq, Nat.reduceAdd, Nat.reduceSub, Nat.reduceMul, Nat.reduceLT, Nat.reduceLeDiff, ↓reduceIte, reduceCtorEq, rsOf, rootsOf, SOp.rd, SI.rd, SX.rd, rdL, rdO, rdP, okParts, eqCells, okEqCells, fillA, okFill, setAt, implies_true, forall_const, forall_eq, ne_eq, exists_eq_right_right, exists_eq_right, exists_eq_left, exists_eq_left', eInt, eBool, lit_eq, he2, he3, he6, he10, he27, he28, he29]
        repeat' (first | ((with_reducible refine Br.dec (fun _ => ?_) (fun _ => ?_)) <;> try (exfalso; omega)) | ((with_reducible refine Br.eq (fun _ => ?_) (fun _ => ?_)) <;> try (exfalso; omega)) | ((with_reducible refine Br.ne (fun _ => ?_) (fun _ => ?_)) <;> try (exfalso; omega)) | ((with_reducible refine brNdec (fun _ => ?_) (fun _ => ?_)) <;> try (exfalso; omega)) | ((with_reducible refine brNeq (fun _ => ?_) (fun _ => ?_)) <;> try (exfalso; omega)) | with_reducible refine Br.intro (fun _ => ?_) (fun _ => ?_) | (with_reducible apply pcallE.of; · exact hP) | (with_reducible refine And.intro ?_ ?_; · omega) | simp -dsimp -implicitDefEqProofs (disch := omega) only [VCA, pg_gl, ↓upd_none, Nat.reduceEqDiff, Nat.reduceBEq, Nat.reduceAdd, Nat.reduceSub, Nat.reduceMul, Nat.reduceLT, Nat.reduceLeDiff, ↓reduceIte, reduceCtorEq, rsOf, rootsOf, SOp.rd, SI.rd, SX.rd, rdL, rdO, rdP, okParts, eqCells, okEqCells, fillA, okFill, setAt, implies_true, forall_const, forall_eq, ne_eq, exists_eq_right_right, exists_eq_right, exists_eq_left, exists_eq_left', eInt, eBool, lit_eq, he2, he3, he6, he10, he27, he28, he29, upd_same, eDoc, eNode, e0, h3, eS_len, eS_take])
        have t1 := textS_len V s (L.take k) (fun m hm => hin m (List.mem_of_mem_take hm))
        rw [List.length_take] at t1
        have t2 := partM_len V s hn
        exact ⟨by omega, _, by omega, k + 1, by omega, rfl, ht.symm, by omega⟩
      · rw [if_neg h3, List.append_nil] at ht
        simp -dsimp -implicitDefEqProofs (disch := omega) only [VCA, pg_gl, ↓upd_none, Nat.reduceEqDiff, Nat.reduceBEq, Nat.reduceAdd, Nat.reduceSub, Nat.reduceMul, Nat.reduceLT, Nat.reduceLeDiff, ↓reduceIte, reduceCtorEq, rsOf, rootsOf, SOp.rd, SI.rd, SX.rd, rdL, rdO, rdP, okParts, eqCells, okEqCells, fillA, okFill, setAt, implies_true, forall_const, forall_eq, ne_eq, exists_eq_right_right, exists_eq_right, exists_eq_left, exists_eq_left', eInt, eBool, lit_eq, he2, he3, he6, he10, he27, he28, he29]
        repeat' (first | ((with_reducible refine Br.dec (fun _ => ?_) (fun _ => ?_)) <;> try (exfalso; omega)) | ((with_reducible refine Br.eq (fun _ => ?_) (fun _ => ?_)) <;> try (exfalso; omega)) | ((with_reducible refine Br.ne (fun _ => ?_) (fun _ => ?_)) <;> try (exfalso; omega)) | ((with_reducible refine brNdec (fun _ => ?_) (fun _ => ?_)) <;> try (exfalso; omega)) | ((with_reducible refine brNeq (fun _ => ?_) (fun _ => ?_)) <;> try (exfalso; omega)) | with_reducible refine Br.intro (fun _ => ?_) (fun _ => ?_) | (with_reducible refine And.intro ?_ ?_; · omega) | simp -dsimp -implicitDefEqProofs (disch := omega) only [VCA, pg_gl, ↓upd_none, Nat.reduceEqDiff, Nat.reduceBEq, Nat.reduceAdd, Nat.reduceSub, Nat.reduceMul, Nat.reduceLT, Nat.reduceLeDiff, ↓reduceIte, reduceCtorEq, rsOf, rootsOf, SOp.rd, SI.rd, SX.rd, rdL, rdO, rdP, okParts, eqCells, okEqCells, fillA, okFill, setAt, implies_true, forall_const, forall_eq, ne_eq, exists_eq_right_right, exists_eq_right, exists_eq_left, exists_eq_left', eInt, eBool, lit_eq, he2, he3, he6, he10, he27, he28, he29, eDoc, eNode, e0, h3])
        exact ⟨_, by omega, k + 1, by omega, rfl, ht.symm, by omega⟩
    · obtain rfl : k = L.length := by omega
      rw [List.take_length] at he10
      simp -dsimp -implicitDefEqProofs (disch := omega) only [VCA, pg_gl, ↓upd_none, Nat.reduceEqDiff, Nat.reduceBEq, Nat.reduceAdd, Nat.reduceSub, Nat.reduceMul, Nat.reduceLT, Nat.reduceLeDiff, ↓reduceIte, reduceCtorEq, rsOf, rootsOf, SOp.rd, SI.rd, SX.rd, rdL, rdO, rdP, okParts, eqCells, okEqCells, fillA, okFill, setAt, implies_true, forall_const, forall_eq, ne_eq, exists_eq_right_right, exists_eq_right, exists_eq_left, exists_eq_left', eInt, eBool, lit_eq, he10]
      exact S6
  · repeat' (first | ((with_reducible refine Br.dec (fun _ => ?_) (fun _ => ?_)) <;> try (exfalso; omega)) | ((with_reducible refine Br.eq (fun _ => ?_) (fun _ => ?_)) <;> try (exfalso; omega)) | ((with_reducible refine Br.ne (fun _ => ?_) (fun _ => ?_)) <;> try (exfalso; omega)) | ((with_reducible refine brNdec (fun _ => ?_) (fun _ => ?_)) <;> try (exfalso; omega)) | ((with_reducible refine brNeq (fun _ => ?_) (fun _ => ?_)) <;> try (exfalso; omega)) | with_reducible refine Br.intro (fun _ => ?_) (fun _ => ?_) | (with_reducible refine And.intro ?_ ?_; · omega) | simp -dsimp -implicitDefEqProofs (disch := omega) only [VCA, pg_gl, ↓upd_none, Nat.reduceEqDiff, Nat.reduceBEq, Nat.reduceAdd, Nat.reduceSub, Nat.reduceMul, Nat.reduceLT, Nat.reduceLeDiff, ↓reduceIte, reduceCtorEq, rsOf, rootsOf, SOp.rd, SI.rd, SX.rd, rdL, rdO, rdP, okParts, eqCells, okEqCells, fillA, okFill, setAt, implies_true, forall_const, forall_eq, ne_eq, exists_eq_right_right, exists_eq_right, exists_eq_left, exists_eq_left', eInt, eBool, lit_eq, h1, upd_same, eDoc_len, eDoc_take, eDoc_drop, List.append_nil])
    exact (Sub.refl h).upd hr
end Go.Proofs.K
end
section
/- Ranges: text, plain law: node by node, or mark by mark. -/
set_option linter.unusedSimpArgs false
set_option linter.unusedVariables false
namespace Go.Proofs.K
open Go Go.Sim Go.Proofs
/-- the letter behind a mark of a text -/
def segM (d : HDoc) (p : HPoint) : List UInt8 := if (nd d p.node).kind = 3 then ((nd d p.node).text.drop p.at'.toNat).take 1 else []
/-- a part of a text, letter by letter -/
theorem range_slice : ∀ (t : List UInt8) (lo hi : Nat), (List.range t.length).flatMap (fun k : Nat => if lo ≤ k ∧ k < hi then (t.drop k).take 1 else []) = (t.take hi).drop lo
  | [], lo, hi => by simp
  | x :: t, lo, hi => by
    rw [List.length_cons, List.range_succ_eq_map, List.flatMap_cons, List.flatMap_map]
    have e : ((List.range t.length).flatMap fun a : Nat => if lo ≤ a.succ ∧ a.succ < hi then ((x :: t).drop a.succ).take 1 else []) = (t.take (hi - 1)).drop (lo - 1) := by
      rw [← range_slice t (lo - 1) (hi - 1)]
      refine flatMap_cong fun k _ => ?_
      show (if lo ≤ k + 1 ∧ k + 1 < hi then (t.drop k).take 1 else []) = _
      by_cases h : lo ≤ k + 1 ∧ k + 1 < hi
      · rw [if_pos h, if_pos (by omega)]
      · rw [if_neg h, if_neg (by omega)]
    rw [e]
    cases hi with
    | zero => simp
    | succ hi => cases lo with
      | zero => simp
      | succ lo => simp
section
variable {d : HDoc}
/-- letters of marks, chosen by a test, node by node -/
theorem marks_text (V : DV d) (P : HPoint → Bool) : ∀ n, inD d n → (marks d n).flatMap (fun p => if P p = true then segM d p else []) =
    (below d n).flatMap fun m => if (nd d m).kind = 3 then (List.range (nd d m).text.length).flatMap (fun k : Nat => if P ⟨m, (k : Int)⟩ = true then ((nd d m).text.drop k).take 1 else []) else [] := V.down fun n hn ih => by
  rw [marks_eq V hn, below_eq V hn, List.flatMap_cons, List.flatMap_cons, List.flatMap_append]
  by_cases h3 : (nd d n).kind = 3
  · have hs : (nd d n).kids = [] ∧ textM (nd d n) = (nd d n).text := by
      rcases node_split V hn with ⟨h, _⟩ | ⟨_, _, h⟩
      · exact ⟨h, by unfold textM; rw [if_neg (by omega)]⟩
      · exact absurd h3 h
    rw [if_pos h3, hs.1, hs.2]
    simp only [List.length_nil, List.range_zero, List.flatMap_nil, List.nil_append, List.append_nil]
    generalize hG : (fun k : Nat => if P ⟨n, (k : Int)⟩ = true then ((nd d n).text.drop k).take 1 else []) = G
    have sg : ∀ k : Nat, (if P ⟨n, (k : Int)⟩ = true then segM d ⟨n, (k : Int)⟩ else []) = G k := fun k => by
      rw [← hG]; unfold segM; rw [if_pos h3]; rfl
    have g0 := sg 0
    have gL : G (nd d n).text.length = [] := by
      rw [← hG]; simp
    rw [List.flatMap_map]
    have e1 : ((List.range (nd d n).text.length).flatMap fun a : Nat => if P ⟨n, (a : Int) + 1⟩ = true then segM d ⟨n, (a : Int) + 1⟩ else []) = (List.range (nd d n).text.length).flatMap fun a => G (a + 1) :=
      flatMap_cong fun i _ => by rw [← sg (i + 1)]; rfl
    rw [e1]
    have e2 : (List.range ((nd d n).text.length + 1)).flatMap G = G 0 ++ (List.range (nd d n).text.length).flatMap fun a => G (a + 1) := by
      rw [List.range_succ_eq_map, List.flatMap_cons, List.flatMap_map]
    have e3 : (List.range ((nd d n).text.length + 1)).flatMap G = (List.range (nd d n).text.length).flatMap G := by
      rw [List.range_succ, List.flatMap_append, List.flatMap_cons, List.flatMap_nil, gL]; simp
    rw [← e3, e2, ← g0]
    rfl
  · have z : ∀ a : Int, (if P ⟨n, a⟩ = true then segM d ⟨n, a⟩ else []) = [] := fun a => by
      unfold segM; rw [if_neg h3]; simp
    have hk : ((List.range (nd d n).kids.length).flatMap (fun i => marks d (nth (nd d n).kids i) ++ [(⟨n, (i : Int) + 1⟩ : HPoint)])).flatMap (fun p => if P p = true then segM d p else []) =
        (nd d n).kids.flatMap fun k => (marks d k).flatMap fun p => if P p = true then segM d p else [] := by
      rw [List.flatMap_assoc, ← range_flat (fun k => (marks d k).flatMap fun p => if P p = true then segM d p else [])]
      refine flatMap_cong fun i hi => ?_
      rw [List.flatMap_append, List.flatMap_cons, List.flatMap_nil, z, List.append_nil, List.append_nil]
    rw [if_neg h3, z, hk, List.flatMap_assoc]
    have ht : ((List.range (textM (nd d n)).length).map fun i : Nat => (⟨n, (i : Int) + 1⟩ : HPoint)).flatMap (fun p => if P p = true then segM d p else []) = [] := by
      rw [List.flatMap_map]
      exact List.flatMap_eq_nil_iff.2 fun i _ => z _
    rw [ht, List.nil_append, List.nil_append, List.append_nil]
    exact flatMap_cong fun k hk => ih k hk
theorem marks_ctx (V : DV d) {n : Int} {A B : List Int} (c : Ctx d n A B) : ∃ X Y, marks d 0 = X ++ (marks d n ++ Y) := by
  induction c with
  | root => exact ⟨[], [], by simp⟩
  | @kid n k A B K1 K2 c hk ih =>
    obtain ⟨X, Y, e⟩ := ih
    have hn := ctx_inD V c
    have hi : K1.length < (nd d n).kids.length := by rw [hk]; simp
    have hki : nth (nd d n).kids K1.length = k := by rw [hk]; simp [nth, List.getD_eq_getElem?_getD]
    obtain ⟨R1, R2, hR⟩ := List.append_of_mem (List.mem_range.2 hi)
    rw [marks_eq V hn, hR, List.flatMap_append, List.flatMap_cons, hki] at e
    exact ⟨_, _, by rw [e]; simp only [List.append_assoc, List.cons_append]; rw [← List.cons_append, ← List.append_assoc, ← List.append_assoc]⟩
theorem marks_leaf (V : DV d) {m : Int} (hm : inD d m) (h3 : (nd d m).kind = 3) {q : HPoint} (hq : q ∈ marks d m) : q.node = m := by
  rw [marks_eq V hm] at hq
  have hs : (nd d m).kids = [] := by
    rcases node_split V hm with ⟨h, _⟩ | ⟨_, _, h⟩
    · exact h
    · exact absurd h3 h
  rw [hs] at hq
  rcases List.mem_cons.1 hq with rfl | hq
  · rfl
  · rcases List.mem_append.1 hq with hq | hq
    · simp at hq
    · obtain ⟨i, _, rfl⟩ := List.mem_map.1 hq; rfl
/-- where a point of another node lies does not depend on the place in a text -/
theorem order_indep (V : DV d) {m : Int} (hm : inD d m) (hc : 0 ∈ chain d m) (h3 : (nd d m).kind = 3) {q : HPoint} (hq : q ∈ marks d 0) (hne : q.node ≠ m) {k : Int} (h0 : 0 ≤ k) (hk : k ≤ roomM d m) : orderM d q ⟨m, k⟩ = orderM d q ⟨m, 0⟩ := by
  obtain ⟨A, B, c⟩ := ctx_of V m hm hc
  obtain ⟨X, Y, e⟩ := marks_ctx V c
  have hs := marks_sorted V 0 V.zero
  have m1 := marks_has V hm h0 hk
  have m0 : (⟨m, 0⟩ : HPoint) ∈ marks d m := marks_has V hm (by omega) (by omega)
  rw [order_key, order_key]
  rw [e] at hq hs
  rw [List.pairwise_append] at hs
  obtain ⟨_, hs2, hs3⟩ := hs
  rw [List.pairwise_append] at hs2
  rcases List.mem_append.1 hq with hq | hq
  · have a1 := hs3 q hq _ (List.mem_append.2 (.inl m1))
    have a0 := hs3 q hq _ (List.mem_append.2 (.inl m0))
    unfold ltP at a1 a0
    rw [a1, a0]
  · rcases List.mem_append.1 hq with hq | hq
    · exact absurd (marks_leaf V hm h3 hq) hne
    · have a1 := hs2.2.2 _ m1 q hq
      have a0 := hs2.2.2 _ m0 q hq
      unfold ltP at a1 a0
      rw [cmpL_neg, a1, cmpL_neg (key d ⟨m, 0⟩), a0]
theorem cmpI_cases (a b : Int) : (cmpI a b = -1 ∧ a < b) ∨ (cmpI a b = 0 ∧ a = b) ∨ (cmpI a b = 1 ∧ b < a) := by
  unfold cmpI
  by_cases h1 : a < b
  · rw [if_pos h1]; exact .inl ⟨rfl, h1⟩
  · rw [if_neg h1]
    by_cases h2 : b < a
    · rw [if_pos h2]; exact .inr (.inr ⟨rfl, h2⟩)
    · rw [if_neg h2]; exact .inr (.inl ⟨rfl, by omega⟩)
theorem order_neg (d : HDoc) (p q : HPoint) : orderM d q p = - orderM d p q := by rw [order_key, order_key, cmpL_neg]
theorem mark_inj (V : DV d) {p q : HPoint} (hp : p ∈ marks d 0) (hq : q ∈ marks d 0) (h : markM d p = markM d q) : p = q := by
  have n := sorted_nodup (marks_sorted V 0 V.zero)
  obtain ⟨A, B, e⟩ := List.append_of_mem hp
  obtain ⟨A', B', e'⟩ := List.append_of_mem hq
  unfold markM at h
  rw [idx_nd n e, idx_nd n e'] at h
  exact (List.cons.inj (List.append_inj (e.symm.trans e') (by omega)).2).1
theorem order_ne (V : DV d) {p q : HPoint} (hp : p ∈ marks d 0) (hq : q ∈ marks d 0) (h : p.node ≠ q.node) : orderM d p q ≠ 0 := fun e => by
  rw [order_mark V hp hq] at e
  rcases cmpI_cases (markM d p) (markM d q) with h1 | h1 | h1
  · omega
  · exact h (by rw [mark_inj V hp hq h1.2])
  · omega
/-- a text's part is what of it lies between the two points -/
theorem part_eq (V : DV d) {m : Int} {s : HSpan} (hm : inD d m) (hc : 0 ∈ chain d m) (h3 : (nd d m).kind = 3) (ha : pointE d s.a = 0) (hb : pointE d s.b = 0) (ho : orderM d s.a s.b ≤ 0) :
    (List.range (nd d m).text.length).flatMap (fun k : Nat => if (decide (orderM d s.a ⟨m, (k : Int)⟩ ≤ 0) && decide (orderM d ⟨m, (k : Int)⟩ s.b < 0)) = true then ((nd d m).text.drop k).take 1 else []) = partM d m s := by
  obtain ⟨a1, a2, a3, a4, a5⟩ := point_marks V ha
  obtain ⟨b1, b2, b3, b4, b5⟩ := point_marks V hb
  have hr : roomM d m = (nd d m).text.length := by unfold roomM; rw [if_pos (.inl h3)]
  have iA : s.a.node ≠ m → ∀ k : Nat, k < (nd d m).text.length → orderM d s.a ⟨m, (k : Int)⟩ = - orderM d ⟨m, 0⟩ s.a := fun hne k hk => by
    rw [order_indep V hm hc h3 a5 hne (by omega) (by omega), order_neg d ⟨m, 0⟩ s.a]
  have iB : s.b.node ≠ m → ∀ k : Nat, k < (nd d m).text.length → orderM d ⟨m, (k : Int)⟩ s.b = orderM d ⟨m, 0⟩ s.b := fun hne k hk => by
    rw [order_neg d s.b, order_indep V hm hc h3 b5 hne (by omega) (by omega), order_neg d ⟨m, 0⟩ s.b, Int.neg_neg]
  have eA : s.a.node = m → ∀ k : Nat, orderM d s.a ⟨m, (k : Int)⟩ = cmpI s.a.at' k := fun e k => by unfold orderM; rw [if_pos e]
  have eB : s.b.node = m → ∀ k : Nat, orderM d ⟨m, (k : Int)⟩ s.b = cmpI k s.b.at' := fun e k => by unfold orderM; rw [if_pos e.symm]
  have m0 : (⟨m, 0⟩ : HPoint) ∈ marks d 0 := marks_sub V 0 V.zero m ((mem_below V hm V.zero).2 hc) _ (marks_has V hm (by omega) (by omega))
  unfold partM
  by_cases c1 : s.a.node ≠ m ∧ orderM d ⟨m, 0⟩ s.a < 0
  · rw [if_pos c1]
    refine List.flatMap_eq_nil_iff.2 fun k hk => ?_
    rw [iA c1.1 k (List.mem_range.1 hk), if_neg]
    simp only [Bool.and_eq_true, decide_eq_true_eq]; omega
  · rw [if_neg c1]
    by_cases c2 : s.b.node ≠ m ∧ 0 < orderM d ⟨m, 0⟩ s.b
    · rw [if_pos c2]
      refine List.flatMap_eq_nil_iff.2 fun k hk => ?_
      rw [iB c2.1 k (List.mem_range.1 hk), if_neg]
      simp only [Bool.and_eq_true, decide_eq_true_eq]; omega
    · rw [if_neg c2, ← range_slice]
      refine flatMap_cong fun k hk => ?_
      have hk := List.mem_range.1 hk
      have h1 : orderM d s.a ⟨m, (k : Int)⟩ ≤ 0 ↔ (loM s m).toNat ≤ k := by
        unfold loM
        by_cases hA : s.a.node = m
        · rw [eA hA, if_pos hA]; rcases cmpI_cases s.a.at' k with h | h | h <;> omega
        · rw [iA hA k hk, if_neg hA]
          have : ¬ orderM d ⟨m, 0⟩ s.a < 0 := fun h => c1 ⟨hA, h⟩
          simp; omega
      have h2 : orderM d ⟨m, (k : Int)⟩ s.b < 0 ↔ k < (hiM d s m).toNat := by
        unfold hiM
        by_cases hB : s.b.node = m
        · rw [eB hB, if_pos hB]; rcases cmpI_cases k s.b.at' with h | h | h <;> omega
        · rw [iB hB k hk, if_neg hB]
          have h3 : ¬ 0 < orderM d ⟨m, 0⟩ s.b := fun h => c2 ⟨hB, h⟩
          have h4 := order_ne V m0 b5 (fun e => hB e.symm)
          simp; omega
      have : ((decide (orderM d s.a ⟨m, (k : Int)⟩ ≤ 0) && decide (orderM d ⟨m, (k : Int)⟩ s.b < 0)) = true) ↔ ((loM s m).toNat ≤ k ∧ k < (hiM d s m).toNat) := by
        simp only [Bool.and_eq_true, decide_eq_true_eq]; rw [h1, h2]
      by_cases hh : (loM s m).toNat ≤ k ∧ k < (hiM d s m).toNat
      · rw [if_pos (this.2 hh), if_pos hh]
      · rw [if_neg (fun h => hh (this.1 h)), if_neg hh]
/-- the text of a range, mark by mark -/
theorem text_marks (V : DV d) {s : HSpan} (ha : pointE d s.a = 0) (hb : pointE d s.b = 0) (ho : orderM d s.a s.b ≤ 0) :
    textS d s (below d 0) = (marks d 0).flatMap fun p => if (decide (orderM d s.a p ≤ 0) && decide (orderM d p s.b < 0)) = true then segM d p else [] := by
  rw [marks_text V (fun p => decide (orderM d s.a p ≤ 0) && decide (orderM d p s.b < 0)) 0 V.zero]
  unfold textS
  refine flatMap_cong fun m hm => ?_
  have hmi := below_in V 0 V.zero m hm
  by_cases h3 : (nd d m).kind = 3
  · rw [if_pos h3, if_pos h3, part_eq V hmi ((mem_below V hmi V.zero).1 hm) h3 ha hb ho]
  · rw [if_neg h3, if_neg h3]
end
end Go.Proofs.K
end
section
/- Ranges: text, mark by mark: plain law. -/
set_option linter.unusedSimpArgs false
set_option linter.unusedVariables false
namespace Go.Proofs.K
open Go Go.Sim Go.Proofs
/-- a part of a list, place by place -/
theorem pick_slice {α β : Type} [Inhabited α] (g : α → List β) : ∀ (L : List α) (lo hi : Nat), (List.range L.length).flatMap (fun k : Nat => if lo ≤ k ∧ k < hi then g (nth L k) else []) = ((L.take hi).drop lo).flatMap g
  | [], lo, hi => by simp
  | x :: t, lo, hi => by
    rw [List.length_cons, List.range_succ_eq_map, List.flatMap_cons, List.flatMap_map]
    have e : ((List.range t.length).flatMap fun a : Nat => if lo ≤ a.succ ∧ a.succ < hi then g (nth (x :: t) a.succ) else []) = ((t.take (hi - 1)).drop (lo - 1)).flatMap g := by
      rw [← pick_slice g t (lo - 1) (hi - 1)]
      refine flatMap_cong fun k _ => ?_
      show (if lo ≤ k + 1 ∧ k + 1 < hi then g (nth t k) else []) = _
      by_cases h : lo ≤ k + 1 ∧ k + 1 < hi
      · rw [if_pos h, if_pos (by omega)]
      · rw [if_neg h, if_neg (by omega)]
    rw [e]
    show (if lo ≤ 0 ∧ 0 < hi then g x else []) ++ _ = _
    cases hi with
    | zero => simp
    | succ hi => cases lo with
      | zero => simp
      | succ lo => simp
theorem range_flat' {α β : Type} [Inhabited α] {l : List α} (f : α → List β) : (List.range l.length).flatMap (fun i => f (nth l i)) = l.flatMap f := by
  induction l with
  | nil => rfl
  | cons x l ih =>
    rw [List.length_cons, List.range_succ_eq_map, List.flatMap_cons, List.flatMap_cons, List.flatMap_map]
    show f x ++ (List.range l.length).flatMap (fun i => f (nth l i)) = _
    rw [ih]
theorem split_nth {α : Type} [Inhabited α] {l : List α} {k : Nat} (hk : k < l.length) : l = l.take k ++ nth l k :: l.drop (k + 1) := by
  have : nth l k = l[k] := by unfold nth; rw [List.getD_eq_getElem?_getD, List.getElem?_eq_getElem hk]; rfl
  rw [this, List.getElem_cons_drop, List.take_append_drop]
section
variable {d : HDoc}
theorem mark_nth (V : DV d) {k : Nat} (hk : k < (marks d 0).length) : markM d (nth (marks d 0) k) = k := by
  unfold markM
  rw [idx_nd (sorted_nodup (marks_sorted V 0 V.zero)) (split_nth hk), List.length_take, Nat.min_eq_left (by omega)]
theorem mark_of (V : DV d) {p : HPoint} (hp : p ∈ marks d 0) : ∃ k, k < (marks d 0).length ∧ nth (marks d 0) k = p ∧ markM d p = k := by
  obtain ⟨k, hk, rfl⟩ := mem_nth hp
  exact ⟨k, hk, rfl, mark_nth V hk⟩
/-- the text of a range: letters of the marks between -/
theorem text_slice (V : DV d) {s : HSpan} (ha : pointE d s.a = 0) (hb : pointE d s.b = 0) (ho : orderM d s.a s.b ≤ 0) :
    textS d s (below d 0) = (((marks d 0).take (markM d s.b).toNat).drop (markM d s.a).toNat).flatMap (segM d) := by
  rw [text_marks V ha hb ho, ← pick_slice, ← range_flat']
  refine flatMap_cong fun k hk => ?_
  have hk := List.mem_range.1 hk
  have pa := (point_marks V ha).2.2.2.2
  have pb := (point_marks V hb).2.2.2.2
  obtain ⟨i, hi, ei, mi⟩ := mark_of V pa
  obtain ⟨j, hj, ej, mj⟩ := mark_of V pb
  have o1 : orderM d s.a (nth (marks d 0) k) ≤ 0 ↔ i ≤ k := by
    rw [order_mark V pa (nth_mem' hk), mi, mark_nth V hk]
    rcases cmpI_cases (i : Int) (k : Int) with h | h | h <;> omega
  have o2 : orderM d (nth (marks d 0) k) s.b < 0 ↔ k < j := by
    rw [order_mark V (nth_mem' hk) pb, mj, mark_nth V hk]
    rcases cmpI_cases (k : Int) (j : Int) with h | h | h <;> omega
  rw [mi, mj]
  show _ = if i ≤ k ∧ k < j then segM d (nth (marks d 0) k) else []
  by_cases h : i ≤ k ∧ k < j
  · rw [if_pos h, if_pos (by simp only [Bool.and_eq_true, decide_eq_true_eq]; exact ⟨o1.2 h.1, o2.2 h.2⟩)]
  · rw [if_neg h, if_neg (by simp only [Bool.and_eq_true, decide_eq_true_eq]; rintro ⟨h1, h2⟩; exact h ⟨o1.1 h1, o2.1 h2⟩)]
/-- in a list of marks a node's place -/
theorem marks_node (V : DV d) : ∀ n, inD d n → ∀ p ∈ marks d n, p.node ∈ below d n ∧ 0 ≤ p.at' ∧ p.at' ≤ roomM d p.node := V.down fun n hn ih p hp => by
  have hsp := node_split V hn
  rw [marks_eq V hn] at hp
  rcases List.mem_cons.1 hp with rfl | hp
  · exact ⟨below_self V hn, by simp, by simp⟩
  · rcases List.mem_append.1 hp with hp | hp
    · obtain ⟨i, hi, hp⟩ := List.mem_flatMap.1 hp
      have hi := List.mem_range.1 hi
      rcases List.mem_append.1 hp with hp | hp
      · obtain ⟨h1, h2⟩ := ih _ (nth_mem' hi) p hp
        exact ⟨by rw [below_eq V hn]; exact List.mem_cons_of_mem _ (List.mem_flatMap.2 ⟨_, nth_mem' hi, h1⟩), h2⟩
      · simp only [List.mem_singleton] at hp; subst hp
        refine ⟨below_self V hn, by simp; omega, ?_⟩
        rcases hsp with ⟨h, _⟩ | ⟨_, h, _⟩
        · rw [h] at hi; simp at hi
        · simp only; omega
    · obtain ⟨i, hi, rfl⟩ := List.mem_map.1 hp
      have hi := List.mem_range.1 hi
      refine ⟨below_self V hn, by simp; omega, ?_⟩
      rcases hsp with ⟨_, h⟩ | ⟨h, _⟩
      · simp only; omega
      · rw [h] at hi; simp at hi
/-- what comes behind a mark in a text -/
theorem mark_next (V : DV d) {k : Nat} (hk : k + 1 < (marks d 0).length) (h3 : (nd d (nth (marks d 0) k).node).kind = 3) :
    if (nth (marks d 0) k).node = (nth (marks d 0) (k + 1)).node then (nth (marks d 0) (k + 1)).at' = (nth (marks d 0) k).at' + 1 ∧ 0 ≤ (nth (marks d 0) k).at' ∧ (nth (marks d 0) k).at' + 1 ≤ (nd d (nth (marks d 0) k).node).text.length
    else segM d (nth (marks d 0) k) = [] := by
  have mp := nth_mem' (show k < (marks d 0).length by omega)
  have mq := nth_mem' hk
  have ip := mark_nth V (show k < (marks d 0).length by omega)
  have iq := mark_nth V hk
  generalize nth (marks d 0) k = p at *
  generalize nth (marks d 0) (k + 1) = q at *
  obtain ⟨bp, p0, p1⟩ := marks_node V 0 V.zero p mp
  obtain ⟨bq, q0, q1⟩ := marks_node V 0 V.zero q mq
  have pi := below_in V 0 V.zero _ bp
  have pc := (mem_below V pi V.zero).1 bp
  have hr : roomM d p.node = (nd d p.node).text.length := by unfold roomM; rw [if_pos (.inl h3)]
  have opq : orderM d p q = -1 := by
    rw [order_mark V mp mq, ip, iq]
    rcases cmpI_cases (k : Int) ((k + 1 : Nat) : Int) with h | h | h <;> omega
  -- the next place of the node
  have nx : p.at' + 1 ≤ roomM d p.node → (⟨p.node, p.at' + 1⟩ : HPoint) ∈ marks d 0 := fun h => marks_sub V 0 V.zero p.node bp _ (marks_has V pi (by omega) h)
  have nxo : p.at' + 1 ≤ roomM d p.node → (k : Int) + 1 ≤ markM d ⟨p.node, p.at' + 1⟩ := fun h => by
    have m1 := nx h
    have : orderM d p ⟨p.node, p.at' + 1⟩ = -1 := by
      unfold orderM
      rw [if_pos rfl]
      show cmpI p.at' (p.at' + 1) = -1
      rcases cmpI_cases p.at' (p.at' + 1) with h | h | h <;> omega
    rw [order_mark V mp m1, ip] at this
    rcases cmpI_cases (k : Int) (markM d ⟨p.node, p.at' + 1⟩) with h | h | h <;> omega
  by_cases hn : p.node = q.node
  · rw [if_pos hn]
    have hlt : p.at' < q.at' := by
      unfold orderM at opq
      rw [if_pos hn] at opq
      rcases cmpI_cases p.at' q.at' with h | h | h <;> omega
    rw [← hn] at q1
    have hle := nxo (by omega)
    have m1 := nx (by omega)
    refine ⟨?_, p0, by omega⟩
    by_cases he : q.at' = p.at' + 1
    · exact he
    · have : orderM d ⟨p.node, p.at' + 1⟩ q = -1 := by
        unfold orderM
        rw [if_pos hn]
        show cmpI (p.at' + 1) q.at' = -1
        rcases cmpI_cases (p.at' + 1) q.at' with h | h | h <;> omega
      rw [order_mark V m1 mq, iq] at this
      rcases cmpI_cases (markM d ⟨p.node, p.at' + 1⟩) ((k + 1 : Nat) : Int) with h | h | h <;> omega
  · rw [if_neg hn]
    have hat : ¬ p.at' + 1 ≤ roomM d p.node := fun h => by
      have hle := nxo h
      have m1 := nx h
      have e1 := order_indep V pi pc h3 mq (fun e => hn e.symm) (k := p.at' + 1) (by omega) (by omega)
      have e2 := order_indep V pi pc h3 mq (fun e => hn e.symm) (k := p.at') (by omega) (by omega)
      have e3 : orderM d q ⟨p.node, p.at' + 1⟩ = orderM d q p := by rw [e1, ← e2]
      rw [order_neg d p q, opq, order_mark V mq m1, iq] at e3
      rcases cmpI_cases ((k + 1 : Nat) : Int) (markM d ⟨p.node, p.at' + 1⟩) with h | h | h <;> omega
    unfold segM
    rw [if_pos h3]
    have : (nd d p.node).text.drop p.at'.toNat = [] := List.drop_eq_nil_of_le (by omega)
    rw [this]; rfl
end
end Go.Proofs.K
end
section
/- Ranges: the reference's text; short documents. -/
set_option linter.unusedSimpArgs false
set_option linter.unusedVariables false
namespace Go.Proofs.K
open Go Go.Sim Go.Proofs
variable {G : Glob}
def c40 : SFun := ⟨(.seq (.reg [⟨(some 2), (.boxF 24 2 (.t 0)), none⟩, ⟨(some 3), (.boxF 52 4 (.t 1)), none⟩, ⟨(some 4), (.mv (.c (.str []))), none⟩]) (.seq (.reg [⟨(some 12), (.ld 2 true (.t 2)), none⟩, ⟨(some 13), (.pcall 90 [(.t 12), (.c (.int .i64 (0)))]), none⟩, ⟨(some 5), (.mv (.t 13)), none⟩]) (.seq (.dreg [(⟨(some 14), (.ld 2 true (.t 2)), none⟩, none), (⟨(some 15), (.fldA 0 (.t 3)), none⟩, none), (⟨(some 16), (.ld 2 true (.t 15)), none⟩, none), (⟨(some 17), (.pcall 84 [(.t 14), (.t 16)]), none⟩, none), (⟨(some 18), (.ld 2 true (.t 2)), none⟩, none), (⟨(some 19), (.fldA 2 (.t 3)), none⟩, none), (⟨(some 20), (.ld 2 true (.t 19)), none⟩, none), (⟨(some 21), (.pcall 84 [(.t 18), (.t 20)]), none⟩, none), (⟨(some 6), (.mv (.t 17)), none⟩, none), (⟨(some 7), (.mv (.t 21)), none⟩, none)]) (.seq (.reg [⟨(some 8), (.mv (.c (.str []))), none⟩]) (.seq (.seq (.reg [⟨(some 22), (.mv (.t 6)), none⟩, ⟨(some 9), (.mv (.t 22)), none⟩]) (.block 0 (.loop (.seq (.seq (.reg [⟨(some 23), (.mv (.t 9)), none⟩, ⟨(some 24), (.mv (.t 7)), none⟩, ⟨(some 25), (.bin .lss (.t 23) (.t 24)), none⟩]) (.cond (.t 25) .skip (.exit 0))) (.seq (.block 1 (.seq (.dreg [(⟨(some 28), (.mv (.t 5)), none⟩, none), (⟨(some 29), (.mv (.t 9)), none⟩, none), (⟨(some 30), (.idxA 2 (.t 28) (.t 29)), none⟩, none), (⟨(some 31), (.ld 2 true (.t 30)), none⟩, none), (⟨(some 32), (.mv (.t 5)), none⟩, none), (⟨(some 33), (.mv (.t 9)), none⟩, none), (⟨(some 34), (.bin .add (.t 33) (.c (.int .i64 (1)))), none⟩, none), (⟨(some 35), (.idxA 2 (.t 32) (.t 34)), none⟩, none), (⟨(some 36), (.ld 2 true (.t 35)), none⟩, none), (⟨(some 10), (.new 50 2 [(.int .i64 (0)), (.int .i64 (0))]), none⟩, (some [])), (⟨(some 11), (.new 50 2 [(.int .i64 (0)), (.int .i64 (0))]), none⟩, (some [])), (⟨none, (.st 2 (.t 10) (.t 31)), none⟩, (some [31])), (⟨none, (.st 2 (.t 11) (.t 36)), none⟩, (some [36, 31]))]) (.seq (.reg [⟨(some 37), (.fldA 0 (.t 10)), none⟩, ⟨(some 38), (.ld 1 false (.t 37)), none⟩, ⟨(some 39), (.fldA 0 (.t 11)), none⟩, ⟨(some 40), (.ld 1 false (.t 39)), none⟩, ⟨(some 41), (.bin .eql (.t 38) (.t 40)), none⟩, ⟨(some 42), (.mv (.t 41)), none⟩, ⟨(some 43), (.fldA 0 (.t 2)), (some (42, true))⟩, ⟨(some 44), (.ld 1 false (.t 43)), (some (42, true))⟩, ⟨(some 45), (.fldA 0 (.t 10)), (some (42, true))⟩, ⟨(some 46), (.ld 1 false (.t 45)), (some (42, true))⟩, ⟨(some 47), (.idxA 6 (.t 44) (.t 46)), (some (42, true))⟩, ⟨(some 48), (.fldA 0 (.t 47)), (some (42, true))⟩, ⟨(some 49), (.ld 1 false (.t 48)), (some (42, true))⟩, ⟨(some 50), (.bin .eql (.t 49) (.c (.int .i64 (3)))), (some (42, true))⟩, ⟨(some 51), (.pick (.t 42) (.t 50) (.c (.bool false))), none⟩]) (.cond (.t 51) (.dreg [(⟨(some 52), (.mv (.t 8)), none⟩, none), (⟨(some 53), (.fldA 0 (.t 2)), none⟩, none), (⟨(some 54), (.ld 1 false (.t 53)), none⟩, none), (⟨(some 55), (.fldA 0 (.t 10)), none⟩, none), (⟨(some 56), (.ld 1 false (.t 55)), none⟩, none), (⟨(some 57), (.idxA 6 (.t 54) (.t 56)), none⟩, none), (⟨(some 58), (.fldA 3 (.t 57)), none⟩, none), (⟨(some 59), (.ld 1 false (.t 58)), none⟩, none), (⟨(some 60), (.fldA 1 (.t 10)), none⟩, none), (⟨(some 61), (.ld 1 false (.t 60)), none⟩, none), (⟨(some 62), (.fldA 1 (.t 11)), none⟩, none), (⟨(some 63), (.ld 1 false (.t 62)), none⟩, none), (⟨(some 64), (.slS (.t 59) (some (.t 61)) (some (.t 63))), none⟩, none), (⟨(some 65), (.bin .add (.t 52) (.t 64)), none⟩, none), (⟨(some 8), (.mv (.t 65)), none⟩, (some [59, 61, 63, 54, 56]))]) .skip)))) (.reg [⟨(some 26), (.mv (.t 9)), none⟩, ⟨(some 27), (.bin .add (.t 26) (.c (.int .i64 (1)))), none⟩, ⟨(some 9), (.mv (.t 27)), none⟩])))))) (.seq (.reg [⟨(some 66), (.mv (.t 8)), none⟩, ⟨(some 4), (.mv (.t 66)), none⟩]) .ret)))))), [(.tmp 4)]⟩
theorem hc40 : toSF Tryd.prog {pure := [90, 84]} Tryd.f40 = some c40 := by kernel_rfl
theorem hn40 : (Tryd.f40.name == "runtime.NumGoroutine") = false := by kernel_rfl
theorem spanText_ok (d : HDoc) (sm : DocSm d) (s : HSpan) (hE : spanE d s = 0) : PCalls (Pg G) 40 [.agg (eDoc d), .agg (eS s)] (.str (textS d s (below d 0))) := fun h => by
  obtain ⟨hz, ho⟩ := spanE_zero hE
  obtain ⟨hd, hp, hq⟩ := pointsE_zero hz
  have V := docE_DV hd
  have hl := V.len
  have ml := marks_len V 0 V.zero
  have bl := below_len V V.zero
  have hM := marks_ok (G := G) d V sm 0 V.zero
  have mA := markOf_ok (G := G) d V sm s.a
  have mB := markOf_ok (G := G) d V sm s.b
  unfold eP at mA mB
  rw [text_slice V hp hq ho]
  have pa := (point_marks V hp).2.2.2.2
  have pb := (point_marks V hq).2.2.2.2
  obtain ⟨i, hi, ei, mi⟩ := mark_of V pa
  obtain ⟨j, hj, ej, mj⟩ := mark_of V pb
  have hij : i ≤ j := by
    rw [order_mark V pa pb, mi, mj] at ho
    rcases cmpI_cases (i : Int) (j : Int) with h | h | h <;> omega
  have nx := fun k hk h3 => mark_next V (k := k) hk h3
  have mn := fun k (hk : k < (marks d 0).length) => marks_node V 0 V.zero _ (nth_mem' hk)
  have bin := below_in V 0 V.zero
  have tl := fun n hn => text_len V (n := n) hn
  rw [mi] at mA
  rw [mj] at mB
  rw [mi, mj, Int.toNat_natCast, Int.toNat_natCast]
  have SL := fun k (hk : i ≤ k) (hkj : k < j) => show ((marks d 0).take (k + 1)).drop i = ((marks d 0).take k).drop i ++ [nth (marks d 0) k] by
    rw [take_snoc (by omega), List.drop_append_of_le_length (by rw [List.length_take]; omega)]
  have SG : ∀ k, k ≤ j → ((((marks d 0).take k).drop i).flatMap (segM d)).length ≤ k := fun k hk => by
    have : ∀ l : List HPoint, (l.flatMap (segM d)).length ≤ l.length := fun l => by
      induction l with
      | nil => simp
      | cons p l ih =>
        rw [List.flatMap_cons, List.length_append, List.length_cons]
        have : (segM d p).length ≤ 1 := by unfold segM; split <;> simp; omega
        omega
    refine Nat.le_trans (this _) ?_
    rw [List.length_drop, List.length_take]; omega
  generalize marks d 0 = L at *
  refine dcalls_of_vc Tryd.func40 hn40 hc40 (by rw [Tryd.ntmps40]; simp) (by rw [Tryd.ntmps40]; decide) ?_
  simp -dsimp -implicitDefEqProofs (disch := omega) only [↓vcOps_sp 42, ↓vcD_sp 42, VCA, pg_gl, ↓upd_none, Nat.reduceEqDiff, Nat.reduceBEq, Nat.reduceAdd, Nat.reduceSub, Nat.reduceMul, Nat.reduceLT, Nat.reduceLeDiff, ↓reduceIte, reduceCtorEq, rsOf, rootsOf, SOp.rd, SI.rd, SX.rd, rdL, rdO, rdP, okParts, eqCells, okEqCells, fillA, okFill, setAt, implies_true, forall_const, forall_eq, ne_eq, exists_eq_right_right, exists_eq_right, exists_eq_left, exists_eq_left', eInt, eBool, lit_eq, c40, eDoc_len, eDoc_take, eS]
  refine pcallE.of (hM) ?_; simp -dsimp -implicitDefEqProofs (disch := omega) only [↓vcOps_sp 42, ↓vcD_sp 42, VCA, pg_gl, ↓upd_none, Nat.reduceEqDiff, Nat.reduceBEq, Nat.reduceAdd, Nat.reduceSub, Nat.reduceMul, Nat.reduceLT, Nat.reduceLeDiff, ↓reduceIte, reduceCtorEq, rsOf, rootsOf, SOp.rd, SI.rd, SX.rd, rdL, rdO, rdP, okParts, eqCells, okEqCells, fillA, okFill, setAt, implies_true, forall_const, forall_eq, ne_eq, exists_eq_right_right, exists_eq_right, exists_eq_left, exists_eq_left', eInt, eBool, lit_eq, eDoc_len, eDoc_take]
  refine pcallE.of (mA) ?_; simp -dsimp -implicitDefEqProofs (disch := omega) only [↓vcOps_sp 42, ↓vcD_sp 42, VCA, pg_gl, ↓upd_none, Nat.reduceEqDiff, Nat.reduceBEq, Nat.reduceAdd, Nat.reduceSub, Nat.reduceMul, Nat.reduceLT, Nat.reduceLeDiff, ↓reduceIte, reduceCtorEq, rsOf, rootsOf, SOp.rd, SI.rd, SX.rd, rdL, rdO, rdP, okParts, eqCells, okEqCells, fillA, okFill, setAt, implies_true, forall_const, forall_eq, ne_eq, exists_eq_right_right, exists_eq_right, exists_eq_left, exists_eq_left', eInt, eBool, lit_eq, eDoc_len, eDoc_take]
  refine pcallE.of (mB) ?_; simp -dsimp -implicitDefEqProofs (disch := omega) only [↓vcOps_sp 42, ↓vcD_sp 42, VCA, pg_gl, ↓upd_none, Nat.reduceEqDiff, Nat.reduceBEq, Nat.reduceAdd, Nat.reduceSub, Nat.reduceMul, Nat.reduceLT, Nat.reduceLeDiff, ↓reduceIte, reduceCtorEq, rsOf, rootsOf, SOp.rd, SI.rd, SX.rd, rdL, rdO, rdP, okParts, eqCells, okEqCells, fillA, okFill, setAt, implies_true, forall_const, forall_eq, ne_eq, exists_eq_right_right, exists_eq_right, exists_eq_left, exists_eq_left', eInt, eBool, lit_eq, eDoc_len, eDoc_take]
  refine LoopVC.intro (fun m e h' => ∃ k : Nat, i ≤ k ∧ k ≤ j ∧ m = j - k ∧ e 2 = .pin (eDoc d) ∧ e 5 = sl eP L ∧ e 7 = aInt j ∧ e 8 = .str (((L.take k).drop i).flatMap (segM d)) ∧ e 9 = aInt k ∧ Sim.Sub h h') (j - i) ⟨i, by omega, hij, rfl, rfl, rfl, rfl, ?_, rfl, Sub.refl _⟩ ?_
  · have : (L.take i).drop i = [] := List.drop_eq_nil_of_le (by rw [List.length_take]; omega)
    rw [this]; rfl
  rintro m e h' ⟨k, hk1, hk2, rfl, he2, he5, he7, he8, he9, S⟩
  simp -dsimp -implicitDefEqProofs (disch := omega) only [↓vcOps_sp 42, ↓vcD_sp 42, VCA, pg_gl, ↓upd_none, Nat.reduceEqDiff, Nat.reduceBEq, Nat.reduceAdd, Nat.reduceSub, Nat.reduceMul, Nat.reduceLT, Nat.reduceLeDiff, ↓reduceIte, reduceCtorEq, rsOf, rootsOf, SOp.rd, SI.rd, SX.rd, rdL, rdO, rdP, okParts, eqCells, okEqCells, fillA, okFill, setAt, implies_true, forall_const, forall_eq, ne_eq, exists_eq_right_right, exists_eq_right, exists_eq_left, exists_eq_left', eInt, eBool, lit_eq, he2, he5, he7, he8, he9, eP_len, eP_take]
  refine Br.dec (fun hlt => ?_) (fun hge => ?_)
  · have hk : k < j := by omega
    have sl1 := SL k hk1 hk
    have nk := nx k (by omega)
    have mk := mn k (by omega)
    have sg := SG k (by omega)
    have e1 : ((k : Int) + 1).toNat = k + 1 := by omega
    have ri := bin _ mk.1
    have r0 := ri.1
    have r1 := ri.2
    have e0 : nth d.nodes (nth L k).node.toNat = nd d (nth L k).node := rfl
    have tk := tl _ ri
    have fl : (((L.take (k + 1)).drop i).flatMap (segM d)) = (((L.take k).drop i).flatMap (segM d)) ++ segM d (nth L k) := by
      rw [sl1, List.flatMap_append]; simp
    simp -dsimp -implicitDefEqProofs (disch := omega) only [↓vcOps_sp 42, ↓vcD_sp 42, VCA, pg_gl, ↓upd_none, Nat.reduceEqDiff, Nat.reduceBEq, Nat.reduceAdd, Nat.reduceSub, Nat.reduceMul, Nat.reduceLT, Nat.reduceLeDiff, ↓reduceIte, reduceCtorEq, rsOf, rootsOf, SOp.rd, SI.rd, SX.rd, rdL, rdO, rdP, okParts, eqCells, okEqCells, fillA, okFill, setAt, implies_true, forall_const, forall_eq, ne_eq, exists_eq_right_right, exists_eq_right, exists_eq_left, exists_eq_left', eInt, eBool, lit_eq, he2, he5, he7, he8, he9, eP_len, eP_take]
    refine ⟨by omega, by omega, fun ra hra rb hrb => ?_⟩
    have na : ¬ ra = rb := fun e => hrb.1 e.symm
    have nb : ¬ rb = ra := hrb.1
    have S2 : ∀ x y, Sim.Sub h (upd (upd h' ra x) rb y) := fun x y => (S.upd (S.none hra)).upd (S.none hrb.2)
    have S3 : ∀ x y z, Sim.Sub h (upd (upd (upd h' ra x) rb y) ra z) := fun x y z => (S2 x y).upd (S.none hra)
    have S4 : ∀ x y z u, Sim.Sub h (upd (upd (upd (upd h' ra x) rb y) ra z) rb u) := fun x y z u => (S3 x y z).upd (S.none hrb.2)
    by_cases hn : (nth L k).node = (nth L (k + 1)).node
    · by_cases h3 : (nd d (nth L k).node).kind = 3
      · have nk := nk h3
        rw [if_pos hn] at nk
        obtain ⟨k1, k2, k3⟩ := nk
        have sgm : segM d (nth L k) = ((nd d (nth L k).node).text.take ((nth L k).at' + 1).toNat).drop (nth L k).at'.toNat := by
          unfold segM
          rw [if_pos h3, List.drop_take]
          congr 1
          omega
        repeat' (first | ((with_reducible refine Br.dec (fun _ => ?_) (fun _ => ?_)) <;> try (exfalso; omega)) | ((with_reducible refine Br.eq (fun _ => ?_) (fun _ => ?_)) <;> try (exfalso; omega)) | ((with_reducible refine Br.ne (fun _ => ?_) (fun _ => ?_)) <;> try (exfalso; omega)) | ((with_reducible refine brNdec (fun _ => ?_) (fun _ => ?_)) <;> try (exfalso; omega)) | ((with_reducible refine brNeq (fun _ => ?_) (fun _ => ?_)) <;> try (exfalso; omega)) | with_reducible refine Br.intro (fun _ => ?_) (fun _ => ?_) | (with_reducible refine And.intro ?_ ?_; · omega) | simp -dsimp -implicitDefEqProofs (disch := omega) only [↓vcOps_sp 42, ↓vcD_sp 42, VCA, pg_gl, ↓upd_none, Nat.reduceEqDiff, Nat.reduceBEq, Nat.reduceAdd, Nat.reduceSub, Nat.reduceMul, Nat.reduceLT, Nat.reduceLeDiff, ↓reduceIte, reduceCtorEq, rsOf, rootsOf, SOp.rd, SI.rd, SX.rd, rdL, rdO, rdP, okParts, eqCells, okEqCells, fillA, okFill, setAt, implies_true, forall_const, forall_eq, ne_eq, exists_eq_right_right, exists_eq_right, exists_eq_left, exists_eq_left', eInt, eBool, lit_eq, na, nb, upd_same, he2, he5, he7, he8, he9, e1, eP, eDoc, eNode, e0, hn.symm, h3, k1])
        · refine ⟨?_, j - (k + 1), by omega, k + 1, by omega, by omega, rfl, by rw [fl, sgm], by omega, by (first | exact S2 _ _ | exact S4 _ _ _ _)⟩
          rw [List.length_drop, List.length_take]
          omega
      · have fl2 : segM d (nth L k) = [] := by unfold segM; rw [if_neg h3]
        rw [fl2, List.append_nil] at fl
        repeat' (first | ((with_reducible refine Br.dec (fun _ => ?_) (fun _ => ?_)) <;> try (exfalso; omega)) | ((with_reducible refine Br.eq (fun _ => ?_) (fun _ => ?_)) <;> try (exfalso; omega)) | ((with_reducible refine Br.ne (fun _ => ?_) (fun _ => ?_)) <;> try (exfalso; omega)) | ((with_reducible refine brNdec (fun _ => ?_) (fun _ => ?_)) <;> try (exfalso; omega)) | ((with_reducible refine brNeq (fun _ => ?_) (fun _ => ?_)) <;> try (exfalso; omega)) | with_reducible refine Br.intro (fun _ => ?_) (fun _ => ?_) | (with_reducible refine And.intro ?_ ?_; · omega) | simp -dsimp -implicitDefEqProofs (disch := omega) only [↓vcOps_sp 42, ↓vcD_sp 42, VCA, pg_gl, ↓upd_none, Nat.reduceEqDiff, Nat.reduceBEq, Nat.reduceAdd, Nat.reduceSub, Nat.reduceMul, Nat.reduceLT, Nat.reduceLeDiff, ↓reduceIte, reduceCtorEq, rsOf, rootsOf, SOp.rd, SI.rd, SX.rd, rdL, rdO, rdP, okParts, eqCells, okEqCells, fillA, okFill, setAt, implies_true, forall_const, forall_eq, ne_eq, exists_eq_right_right, exists_eq_right, exists_eq_left, exists_eq_left', eInt, eBool, lit_eq, na, nb, upd_same, he2, he5, he7, he8, he9, e1, eP, eDoc, eNode, e0, hn.symm, h3])
        all_goals first | (rename_i q; exact absurd rfl q) | exact ⟨_, by omega, k + 1, by omega, by omega, rfl, fl.symm, by omega, by (first | exact S2 _ _ | exact S4 _ _ _ _)⟩ | trace_state
    · have fl2 : segM d (nth L k) = [] := by
        by_cases h3 : (nd d (nth L k).node).kind = 3
        · have nk := nk h3
          rw [if_neg hn] at nk
          exact nk
        · unfold segM; rw [if_neg h3]
      rw [fl2, List.append_nil] at fl
      repeat' (first | ((with_reducible refine Br.dec (fun _ => ?_) (fun _ => ?_)) <;> try (exfalso; omega)) | ((with_reducible refine Br.eq (fun _ => ?_) (fun _ => ?_)) <;> try (exfalso; omega)) | ((with_reducible refine Br.ne (fun _ => ?_) (fun _ => ?_)) <;> try (exfalso; omega)) | ((with_reducible refine brNdec (fun _ => ?_) (fun _ => ?_)) <;> try (exfalso; omega)) | ((with_reducible refine brNeq (fun _ => ?_) (fun _ => ?_)) <;> try (exfalso; omega)) | with_reducible refine Br.intro (fun _ => ?_) (fun _ => ?_) | (with_reducible refine And.intro ?_ ?_; · omega) | simp -dsimp -implicitDefEqProofs (disch := omega) only [↓vcOps_sp 42, ↓vcD_sp 42, VCA, pg_gl, ↓upd_none, Nat.reduceEqDiff, Nat.reduceBEq, Nat.reduceAdd, Nat.reduceSub, Nat.reduceMul, Nat.reduceLT, Nat.reduceLeDiff, ↓reduceIte, reduceCtorEq, rsOf, rootsOf, SOp.rd, SI.rd, SX.rd, rdL, rdO, rdP, okParts, eqCells, okEqCells, fillA, okFill, setAt, implies_true, forall_const, forall_eq, ne_eq, exists_eq_right_right, exists_eq_right, exists_eq_left, exists_eq_left', eInt, eBool, lit_eq, na, nb, upd_same, he2, he5, he7, he8, he9, e1, eP, eDoc, eNode, e0, hn])
      all_goals first | exact ⟨_, by omega, k + 1, by omega, by omega, rfl, fl.symm, by omega, by (first | exact S2 _ _ | exact S4 _ _ _ _)⟩ | trace_state
  · obtain rfl : k = j := by omega
    simp -dsimp -implicitDefEqProofs (disch := omega) only [↓vcOps_sp 42, ↓vcD_sp 42, VCA, pg_gl, ↓upd_none, Nat.reduceEqDiff, Nat.reduceBEq, Nat.reduceAdd, Nat.reduceSub, Nat.reduceMul, Nat.reduceLT, Nat.reduceLeDiff, ↓reduceIte, reduceCtorEq, rsOf, rootsOf, SOp.rd, SI.rd, SX.rd, rdL, rdO, rdP, okParts, eqCells, okEqCells, fillA, okFill, setAt, implies_true, forall_const, forall_eq, ne_eq, exists_eq_right_right, exists_eq_right, exists_eq_left, exists_eq_left', eInt, eBool, lit_eq, he8]
    exact S
end Go.Proofs.K
end
section
/- Edits of documents: what becomes of a document; whether it is still right. Plain law. -/
set_option linter.unusedSimpArgs false
set_option linter.unusedVariables false
namespace Go.Proofs.K
open Go Go.Sim Go.Proofs
/-! ## a node set -/
section
variable {d : HDoc}
/-! ## how deep, by parents alone -/
theorem upF_congr {d' : HDoc} (V : DV d) (h : ∀ m, inD d m → (nd d' m).parent = (nd d m).parent) : ∀ (f : Nat) (n : Int), inD d n → upF f d' n = upF f d n
  | 0, _, _ => rfl
  | f + 1, n, hn => by
    unfold upF
    rw [h n hn]
    by_cases hp : 0 ≤ (nd d n).parent
    · rw [if_pos hp, if_pos hp, upF_congr V h f _ (V.par_in hn hp).1]
    · rw [if_neg hp, if_neg hp]
/-! ## a node more -/
def addN (d : HDoc) (x : HNode) : HDoc := ⟨d.nodes ++ [x], d.quirks⟩
theorem addN_len (x : HNode) : (addN d x).nodes.length = d.nodes.length + 1 := by simp [addN]
theorem nd_addN {x : HNode} {m : Int} (hm : inD d m) : nd (addN d x) m = nd d m := by
  have h := hm.nat
  unfold nd addN nth
  rw [List.getD_eq_getElem?_getD, List.getD_eq_getElem?_getD, List.getElem?_append_left h.1]
theorem nd_addN_new (x : HNode) : nd (addN d x) (d.nodes.length : Int) = x := by
  unfold nd addN nth
  rw [List.getD_eq_getElem?_getD]; simp
theorem inD_addN {x : HNode} {m : Int} : inD (addN d x) m ↔ inD d m ∨ m = d.nodes.length := by unfold inD; rw [addN_len]; omega
theorem up_addN (V : DV d) {x : HNode} {m : Int} (hm : inD d m) : up (addN d x) m = up d m := by
  have h1 : upF (d.nodes.length + 1 + 1) (addN d x) m = upF (d.nodes.length + 1 + 1) d m := upF_congr V (fun k hk => by rw [nd_addN hk]) _ m hm
  have h2 : up (addN d x) m = upF (d.nodes.length + 1 + 1) (addN d x) m := by unfold up; rw [addN_len]
  rw [h2, h1]
  have h3 := V.fin m hm
  exact upF_mono (f := d.nodes.length + 1) (by unfold up at h3; omega) (by omega)
theorem DV.add (V : DV d) {x : HNode} (hp : x.parent = -1) (hc : x.kids = []) (h1 : x.kind ≠ 1) : DV (addN d x) ↔ nodeE x = 0 ∧ d.nodes.length < 200 := by
  have new := nd_addN_new (d := d) x
  have inew : inD (addN d x) (d.nodes.length : Int) := inD_addN.2 (.inr rfl)
  constructor
  · intro W
    have h2 := W.node _ inew
    have h3 := W.len
    rw [new] at h2
    rw [addN_len] at h3
    exact ⟨h2, by omega⟩
  · rintro ⟨hx, hl⟩
    have z := V.pos
    have upn : up (addN d x) (d.nodes.length : Int) = 0 := by
      unfold up upF
      rw [new, if_neg (by omega)]
    refine ⟨by rw [addN_len]; omega, by rw [addN_len]; omega, fun m hm => ?_, fun m hm => ?_, fun m hm k hk' => ?_, fun m hm => ?_, fun k hk' => ?_, fun m hm => ?_, ?_, fun m hm => ?_, fun m hm => ?_⟩
    · rcases inD_addN.1 hm with hm | rfl
      · rw [nd_addN hm]; exact V.kind m hm
      · rw [new]; constructor
        · intro h; exact absurd h h1
        · intro h; omega
    · rcases inD_addN.1 hm with hm | rfl
      · rw [nd_addN hm]; exact V.node m hm
      · rw [new]; exact hx
    · rcases inD_addN.1 hm with hm | rfl
      · rw [nd_addN hm] at hk'
        obtain ⟨g1, g2⟩ := V.kid m hm k hk'
        exact ⟨inD_addN.2 (.inl g1), by rw [nd_addN g1]; exact g2⟩
      · rw [new, hc] at hk'; cases hk'
    · rcases inD_addN.1 hm with hm | rfl
      · rw [nd_addN hm]; exact V.nodup m hm
      · rw [new, hc]; exact .nil
    · rw [nd_addN V.zero] at hk'
      rw [nd_addN (V.kid 0 V.zero k hk').1]; exact V.top k hk'
    · rcases inD_addN.1 hm with hm | rfl
      · rw [nd_addN hm]
        rcases V.par m hm with h | ⟨g1, g2⟩
        · exact .inl h
        · exact .inr ⟨inD_addN.2 (.inl g1), by rw [nd_addN g1]; exact g2⟩
      · rw [new]; exact .inl hp
    · rw [nd_addN V.zero]; exact V.root
    · rcases inD_addN.1 hm with hm | rfl
      · rw [up_addN V hm, addN_len]; have := V.fin m hm; omega
      · rw [upn]; omega
    · rcases inD_addN.1 hm with hm | rfl
      · rw [up_addN V hm]; exact V.deep m hm
      · rw [upn]; omega
/-! ## a node hung up -/
section
variable {a t : Int} {i : Nat}
end
/-! ## a node taken away -/
section
variable {n : Int} {i : Nat}
end
end
end Go.Proofs.K
end
section
/- Edits of documents: what they do, and what is wrong with them: plain law. -/
set_option linter.unusedSimpArgs false
set_option linter.unusedVariables false
namespace Go.Proofs.K
open Go Go.Sim Go.Proofs
structure HEdit where
  do' : Int
  at' : Int
  to : Int
  before : Int
  name : List UInt8
  value : List UInt8
  node : HNode
deriving DecidableEq, Inhabited
def eEdit (e : HEdit) : List AVal := [aInt e.do', aInt e.at', aInt e.to, aInt e.before, .str e.name, .str e.value, aInt e.node.kind, .str e.node.name, sl eAttr e.node.attrs, .str e.node.text, aInt e.node.parent, sl eInt e.node.kids]
instance : LenE eEdit 12 := ⟨fun _ => rfl⟩
structure EditSm (e : HEdit) : Prop where
  name : e.name.length ≤ 1073741824
  value : e.value.length ≤ 1073741824
  node : NodeSm e.node
/-! ## attributes -/
/-! ## how far what lies below a node goes -/
section
variable {d : HDoc}
end
/-! ## the edits -/
section
variable {d : HDoc}
end
end Go.Proofs.K
end
section
/- Ranges: short documents; what is cut. -/
set_option linter.unusedSimpArgs false
set_option linter.unusedVariables false
namespace Go.Proofs.K
open Go Go.Sim Go.Proofs
variable {G : Glob}
def c42 : SFun := ⟨(.seq (.reg [⟨(some 4), (.mv (.c (.str []))), none⟩]) (.seq (.reg [⟨(some 5), (.mv (.t 0)), none⟩, ⟨(some 6), (.mv (.t 0)), none⟩, ⟨(some 7), (.lenS (.t 6)), none⟩, ⟨(some 8), (.mv (.t 1)), none⟩, ⟨(some 9), (.min2 (.t 7) (.t 8)), none⟩, ⟨(some 10), (.slS (.t 5) none (some (.t 9))), none⟩, ⟨(some 4), (.mv (.t 10)), none⟩]) .ret)), [(.tmp 4)]⟩
theorem hc42 : toSF Tryd.prog {} Tryd.f42 = some c42 := by kernel_rfl
theorem hn42 : (Tryd.f42.name == "runtime.NumGoroutine") = false := by kernel_rfl
theorem someS_ok (s : List UInt8) (n : Nat) (hs : s.length ≤ 1073741824) : PCalls (Pg G) 42 [.str s, aInt n] (.str (s.take n)) := fun h => by
  refine dcalls_of_vc Tryd.func42 hn42 hc42 (by rw [Tryd.ntmps42]; simp) (by rw [Tryd.ntmps42]; decide) ?_
  have e1 : (min (s.length : Int) (n : Int)).toNat = min s.length n := by omega
  simp -dsimp -implicitDefEqProofs (disch := omega) only [VCA, pg_gl, ↓upd_none, Nat.reduceEqDiff, Nat.reduceBEq, Nat.reduceAdd, Nat.reduceSub, Nat.reduceMul, Nat.reduceLT, Nat.reduceLeDiff, ↓reduceIte, reduceCtorEq, rsOf, rootsOf, SOp.rd, SI.rd, SX.rd, rdL, rdO, rdP, okParts, eqCells, okEqCells, fillA, okFill, setAt, implies_true, forall_const, forall_eq, ne_eq, exists_eq_right_right, exists_eq_right, exists_eq_left, exists_eq_left', eInt, eBool, lit_eq, c42, e1]
  refine ⟨by omega, Sub.refl _, ?_⟩
  rcases Nat.le_total s.length n with h | h
  · rw [Nat.min_eq_left h, List.take_of_length_le (Nat.le_refl _), List.take_of_length_le h]
  · rw [Nat.min_eq_right h]
def briefN (x : HNode) : HNode := { x with text := x.text.take 30 }
def briefM (d : HDoc) : HDoc := ⟨(d.nodes.take 25).map briefN, d.quirks⟩
theorem drop_consN {α : Type} [Inhabited α] {l : List α} {i : Nat} (h : i < l.length) : l.drop i = nth l i :: l.drop (i + 1) := by
  have : nth l i = l[i] := by unfold nth; rw [List.getD_eq_getElem?_getD, List.getElem?_eq_getElem h]; rfl
  rw [this, List.getElem_cons_drop]
def c31 : SFun := ⟨(.seq (.reg [⟨(some 1), (.box 24 2 (.t 0)), none⟩, ⟨(some 2), (.new 24 2 [.emp, (.bool false)]), none⟩]) (.seq (.reg [⟨(some 5), (.ld 2 true (.t 1)), none⟩, ⟨(some 6), (.pcall 15 [(.t 5), (.c (.int .i64 (25)))]), none⟩, ⟨none, (.st 2 (.t 1) (.t 6)), none⟩]) (.seq (.reg [⟨(some 7), (.bldF 43 6 []), none⟩, ⟨(some 8), (.fldA 0 (.t 1)), none⟩, ⟨(some 9), (.ld 1 false (.t 8)), none⟩, ⟨(some 10), (.app 43 6 96 (.t 7) (.t 9)), none⟩, ⟨(some 3), (.mv (.t 10)), none⟩]) (.seq (.seq (.reg [⟨(some 4), (.mv (.c (.int .i64 (0)))), none⟩]) (.block 0 (.loop (.seq (.seq (.reg [⟨(some 11), (.mv (.t 4)), none⟩, ⟨(some 12), (.mv (.t 3)), none⟩, ⟨(some 13), (.len (.t 12)), none⟩, ⟨(some 14), (.bin .lss (.t 11) (.t 13)), none⟩]) (.cond (.t 14) .skip (.exit 0))) (.seq (.block 1 (.reg [⟨(some 17), (.mv (.t 3)), none⟩, ⟨(some 18), (.mv (.t 4)), none⟩, ⟨(some 19), (.mv (.t 3)), none⟩, ⟨(some 20), (.mv (.t 4)), none⟩, ⟨(some 21), (.idxA 6 (.t 19) (.t 20)), none⟩, ⟨(some 22), (.fldA 3 (.t 21)), none⟩, ⟨(some 23), (.ld 1 false (.t 22)), none⟩, ⟨(some 24), (.pcall 42 [(.t 23), (.c (.int .i64 (30)))]), none⟩, ⟨(some 25), (.idxA 6 (.t 17) (.t 18)), none⟩, ⟨(some 26), (.fldA 3 (.t 25)), none⟩, ⟨none, (.st 1 (.t 26) (.t 24)), none⟩])) (.reg [⟨(some 15), (.mv (.t 4)), none⟩, ⟨(some 16), (.bin .add (.t 15) (.c (.int .i64 (1)))), none⟩, ⟨(some 4), (.mv (.t 16)), none⟩])))))) (.seq (.reg [⟨(some 27), (.mv (.t 3)), none⟩, ⟨(some 28), (.fldA 0 (.t 1)), none⟩, ⟨none, (.st 1 (.t 28) (.t 27)), none⟩]) (.seq (.reg [⟨(some 29), (.ld 2 true (.t 1)), none⟩, ⟨none, (.st 2 (.t 2) (.t 29)), none⟩]) .ret)))))), [(.cell 2 2 true)]⟩
theorem hc31 : toSF Tryd.prog {pure := [15, 42], how := [(1, 6)]} Tryd.f31 = some c31 := by kernel_rfl
theorem hn31 : (Tryd.f31.name == "runtime.NumGoroutine") = false := by kernel_rfl
theorem brief_ok (d : HDoc) (sm : DocSm d) : PCalls (Pg G) 31 [.agg (eDoc d)] (.agg (eDoc (briefM d))) := PCalls.outV fun h => by
  have hF : PCalls (Pg G) 15 [.agg (eDoc d), .int .i64 25] (.agg (eDoc ⟨d.nodes.take 25, d.quirks⟩)) := few_ok (G := G) d 25 sm
  refine dcalls_of_vc Tryd.func31 hn31 hc31 (by rw [Tryd.ntmps31]; simp) (by rw [Tryd.ntmps31]; decide) ?_
  simp -dsimp -implicitDefEqProofs (disch := omega) only [VCA, pg_gl, ↓upd_none, Nat.reduceEqDiff, Nat.reduceBEq, Nat.reduceAdd, Nat.reduceSub, Nat.reduceMul, Nat.reduceLT, Nat.reduceLeDiff, ↓reduceIte, reduceCtorEq, rsOf, rootsOf, SOp.rd, SI.rd, SX.rd, rdL, rdO, rdP, okParts, eqCells, okEqCells, fillA, okFill, setAt, implies_true, forall_const, forall_eq, ne_eq, exists_eq_right_right, exists_eq_right, exists_eq_left, exists_eq_left', eInt, eBool, lit_eq, c31, eDoc_len, eDoc_take, eDoc_drop, List.append_nil]
  intro r1 h1 r2 h2
  have n12 : ¬ r1 = r2 := fun e => h2.1 e.symm
  have n21 : ¬ r2 = r1 := h2.1
  simp -dsimp -implicitDefEqProofs (disch := omega) only [VCA, pg_gl, ↓upd_none, Nat.reduceEqDiff, Nat.reduceBEq, Nat.reduceAdd, Nat.reduceSub, Nat.reduceMul, Nat.reduceLT, Nat.reduceLeDiff, ↓reduceIte, reduceCtorEq, rsOf, rootsOf, SOp.rd, SI.rd, SX.rd, rdL, rdO, rdP, okParts, eqCells, okEqCells, fillA, okFill, setAt, implies_true, forall_const, forall_eq, ne_eq, exists_eq_right_right, exists_eq_right, exists_eq_left, exists_eq_left', eInt, eBool, lit_eq, eDoc_len, eDoc_take, eDoc_drop, List.append_nil, n12, n21]
  refine pcallE.of (hF) ?_; simp -dsimp -implicitDefEqProofs (disch := omega) only [VCA, pg_gl, ↓upd_none, Nat.reduceEqDiff, Nat.reduceBEq, Nat.reduceAdd, Nat.reduceSub, Nat.reduceMul, Nat.reduceLT, Nat.reduceLeDiff, ↓reduceIte, reduceCtorEq, rsOf, rootsOf, SOp.rd, SI.rd, SX.rd, rdL, rdO, rdP, okParts, eqCells, okEqCells, fillA, okFill, setAt, implies_true, forall_const, forall_eq, ne_eq, exists_eq_right_right, exists_eq_right, exists_eq_left, exists_eq_left', eInt, eBool, lit_eq, eDoc_len, eDoc_take, eDoc_drop, List.append_nil, n12, n21, upd_same]
  simp -dsimp -implicitDefEqProofs (disch := omega) only [VCA, pg_gl, ↓upd_none, Nat.reduceEqDiff, Nat.reduceBEq, Nat.reduceAdd, Nat.reduceSub, Nat.reduceMul, Nat.reduceLT, Nat.reduceLeDiff, ↓reduceIte, reduceCtorEq, rsOf, rootsOf, SOp.rd, SI.rd, SX.rd, rdL, rdO, rdP, okParts, eqCells, okEqCells, fillA, okFill, setAt, implies_true, forall_const, forall_eq, ne_eq, exists_eq_right_right, exists_eq_right, exists_eq_left, exists_eq_left', eInt, eBool, lit_eq, eDoc, n12, n21, upd_same]
  have fl : (d.nodes.take 25).length ≤ 25 := by rw [List.length_take]; omega
  have fsm : ∀ x ∈ d.nodes.take 25, x.text.length ≤ 1073741824 := fun x hx => (sm.each x (List.mem_of_mem_take hx)).text
  have hbm : (briefM d).nodes = (d.nodes.take 25).map briefN := rfl
  have hbq : (briefM d).quirks = d.quirks := rfl
  generalize d.nodes.take 25 = L at *
  refine ⟨by omega, by omega, fun r ⟨_, n2, n1, hr⟩ => ?_⟩
  have m1 : ¬ r1 = r := fun e => n1 e.symm
  have m2 : ¬ r2 = r := fun e => n2 e.symm
  refine LoopVC.intro (fun m e h' => ∃ k : Nat, k ≤ L.length ∧ m = L.length - k ∧ e 1 = .vp r1 0 ∧ e 2 = .vp r2 0 ∧ e 3 = .osl r 6 0 L.length ∧ e 4 = aInt k ∧ h' r1 = some ⟨24, 2, [[sl eNode L, .bool d.quirks]]⟩ ∧ h' r2 = some ⟨24, 2, [[.emp, .bool false]]⟩ ∧ h' r = some ⟨43, 6, ((L.take k).map briefN ++ L.drop k).map eNode⟩ ∧ Sim.Sub h h') L.length ⟨0, by omega, by omega, rfl, rfl, rfl, rfl, ?_, ?_, ?_, ?_⟩ ?_
  · simp [upd, n12, m1]
  · simp [upd, n21, m2]
  · simp [upd]
  · exact (((Sub.refl h).upd h1).upd h2.2).upd h1 |>.upd hr
  rintro m e h' ⟨k, hk, rfl, he1, he2, he3, he4, g1, g2, g, S⟩
  simp -dsimp -implicitDefEqProofs (disch := omega) only [VCA, pg_gl, ↓upd_none, Nat.reduceEqDiff, Nat.reduceBEq, Nat.reduceAdd, Nat.reduceSub, Nat.reduceMul, Nat.reduceLT, Nat.reduceLeDiff, ↓reduceIte, reduceCtorEq, rsOf, rootsOf, SOp.rd, SI.rd, SX.rd, rdL, rdO, rdP, okParts, eqCells, okEqCells, fillA, okFill, setAt, implies_true, forall_const, forall_eq, ne_eq, exists_eq_right_right, exists_eq_right, exists_eq_left, exists_eq_left', eInt, eBool, lit_eq, he1, he2, he3, he4, g, n1, n2, m1, m2]
  refine Br.dec (fun hlt => ?_) (fun hge => ?_)
  · have hk' : k < L.length := by omega
    have hM : k < ((L.take k).map briefN ++ L.drop k).length := by simp; omega
    have hN : nth ((L.take k).map briefN ++ L.drop k) k = nth L k := by
      unfold nth
      rw [List.getD_eq_getElem?_getD, List.getElem?_append_right (by simp; omega)]
      simp [Nat.min_eq_left hk, List.getD_eq_getElem?_getD]
    have hS : ((L.take k).map briefN ++ L.drop k).set k (briefN (nth L k)) = (L.take (k + 1)).map briefN ++ L.drop (k + 1) := by
      rw [List.set_append_right _ _ (by simp; omega)]
      have e1 : k - (List.map briefN (List.take k L)).length = 0 := by simp; omega
      rw [e1, drop_consN hk', take_snoc hk']
      simp
    have gk : (((L.take k).map briefN ++ L.drop k).map eNode).getD k [] = eNode (nth L k) := by rw [getD_map_enc hM, hN]
    have hO : PCalls (Pg G) 42 [.str (nth L k).text, .int .i64 30] (.str (briefN (nth L k)).text) := someS_ok (G := G) (nth L k).text 30 (fsm _ (nth_mem' hk'))
    generalize hMM : (L.take k).map briefN ++ L.drop k = M at *
    have g' : h' r = some ⟨43, 6, M.map eNode⟩ := g
    repeat' (first | ((with_reducible refine Br.dec (fun _ => ?_) (fun _ => ?_)) <;> try (exfalso; omega)) | ((with_reducible refine Br.eq (fun _ => ?_) (fun _ => ?_)) <;> try (exfalso; omega)) | ((with_reducible refine Br.ne (fun _ => ?_) (fun _ => ?_)) <;> try (exfalso; omega)) | ((with_reducible refine brNdec (fun _ => ?_) (fun _ => ?_)) <;> try (exfalso; omega)) | ((with_reducible refine brNeq (fun _ => ?_) (fun _ => ?_)) <;> try (exfalso; omega)) | with_reducible refine Br.intro (fun _ => ?_) (fun _ => ?_) | (with_reducible apply pcallE.of; · exact hO) | (with_reducible refine And.intro ?_ ?_; · omega) | simp -dsimp -implicitDefEqProofs (disch := omega) only [VCA, pg_gl, ↓upd_none, Nat.reduceEqDiff, Nat.reduceBEq, Nat.reduceAdd, Nat.reduceSub, Nat.reduceMul, Nat.reduceLT, Nat.reduceLeDiff, ↓reduceIte, reduceCtorEq, rsOf, rootsOf, SOp.rd, SI.rd, SX.rd, rdL, rdO, rdP, okParts, eqCells, okEqCells, fillA, okFill, setAt, implies_true, forall_const, forall_eq, ne_eq, exists_eq_right_right, exists_eq_right, exists_eq_left, exists_eq_left', eInt, eBool, lit_eq, he1, he2, he3, he4, g, gk, eNode, n1, n2, m1, m2, upd_same])
    exact ⟨_, by omega, k + 1, by omega, rfl, by omega, g1, g2, by rw [← hS, List.map_set]; rfl, S.upd hr⟩
  · obtain rfl : k = L.length := by omega
    rw [List.take_length, List.drop_length, List.append_nil] at g
    simp -dsimp -implicitDefEqProofs (disch := omega) only [VCA, pg_gl, ↓upd_none, Nat.reduceEqDiff, Nat.reduceBEq, Nat.reduceAdd, Nat.reduceSub, Nat.reduceMul, Nat.reduceLT, Nat.reduceLeDiff, ↓reduceIte, reduceCtorEq, rsOf, rootsOf, SOp.rd, SI.rd, SX.rd, rdL, rdO, rdP, okParts, eqCells, okEqCells, fillA, okFill, setAt, implies_true, forall_const, forall_eq, ne_eq, exists_eq_right_right, exists_eq_right, exists_eq_left, exists_eq_left', eInt, eBool, lit_eq, he1, he2, he3, he4, g, g1, g2, n1, n2, m1, m2, n12, n21]
    refine ⟨_, Sub.refl _, (S.upd h1).upd h2.2, .one _ _ (Vw.agg' (.cons ?_ (.cons (.refl _) .nil)))⟩
    refine Vw.osl0 (o := ⟨43, 6, (L.map briefN).map eNode⟩) (by rw [newH_none hr]; simp [upd, n1, n2, g]) (by simp [hbm]) (by simp) (fun f hf => ?_) ?_
    · obtain ⟨x, _, rfl⟩ := List.mem_map.1 hf; rfl
    · rw [List.take_of_length_le (by simp), hbm]
      exact F2.refl (fun e => F2.refl (fun _ => .refl _) e) _
theorem briefM_sm {d : HDoc} (sm : DocSm d) : DocSm (briefM d) := ⟨by
    have := sm.len
    show ((d.nodes.take 25).map briefN).length ≤ _
    rw [List.length_map, List.length_take]; omega, fun x hx => by
    obtain ⟨y, hy, rfl⟩ := List.mem_map.1 hx
    have h := sm.each y (List.mem_of_mem_take hy)
    exact ⟨h.name, h.attrs, h.each, by show (y.text.take 30).length ≤ _; rw [List.length_take]; have := h.text; omega, h.kids⟩⟩
end Go.Proofs.K
end
section
/- Ranges: what is cut: contracts. -/
set_option linter.unusedSimpArgs false
set_option linter.unusedVariables false
namespace Go.Proofs.K
open Go Go.Sim Go.Proofs
variable {G : Glob}
def c123 : SFun := ⟨(.seq (.reg [⟨(some 3), (.boxF 124 2 (.t 0)), none⟩, ⟨(some 6), (.mv (.c (.bool false))), none⟩]) (.seq (.block 0 (.loop (.seq (.seq (.reg [⟨(some 7), (.mv (.t 1)), none⟩, ⟨(some 8), (.bin .geq (.t 7) (.c (.int .i64 (0)))), none⟩, ⟨(some 9), (.mv (.t 8)), none⟩, ⟨(some 10), (.mv (.t 1)), (some (9, true))⟩, ⟨(some 11), (.mv (.t 2)), (some (9, true))⟩, ⟨(some 12), (.bin .neq (.t 10) (.t 11)), (some (9, true))⟩, ⟨(some 13), (.pick (.t 9) (.t 12) (.c (.bool false))), none⟩]) (.cond (.t 13) .skip (.exit 0))) (.block 1 (.reg [⟨(some 14), (.fldA 0 (.t 3)), none⟩, ⟨(some 15), (.fldA 0 (.t 14)), none⟩, ⟨(some 16), (.ld 1 false (.t 15)), none⟩, ⟨(some 17), (.mv (.t 1)), none⟩, ⟨(some 18), (.idxA 6 (.t 16) (.t 17)), none⟩, ⟨(some 19), (.fldA 4 (.t 18)), none⟩, ⟨(some 20), (.ld 1 false (.t 19)), none⟩, ⟨(some 1), (.mv (.t 20)), none⟩]))))) (.seq (.reg [⟨(some 21), (.mv (.t 1)), none⟩, ⟨(some 22), (.mv (.t 2)), none⟩, ⟨(some 23), (.bin .eql (.t 21) (.t 22)), none⟩, ⟨(some 6), (.mv (.t 23)), none⟩]) .ret))), [(.tmp 6)]⟩
theorem hc123 : toSF Tryd.prog {} Tryd.f123 = some c123 := by kernel_rfl
theorem hn123 : (Tryd.f123.name == "runtime.NumGoroutine") = false := by kernel_rfl
theorem rwithin_ok (d : HDoc) (V : DV d) (n top : Int) (hn : inD d n) (ht : 0 ≤ top) : PCalls (Pg G) 123 [.agg (eDoc d), aInt n, aInt top] (.bool (decide (top ∈ chain d n))) := fun h => by
  have hl := V.len
  refine dcalls_of_vc Tryd.func123 hn123 hc123 (by rw [Tryd.ntmps123]; simp) (by rw [Tryd.ntmps123]; decide) ?_
  simp -dsimp -implicitDefEqProofs (disch := omega) only [↓vcOps_sp 9, ↓vcD_sp 9, VCA, pg_gl, ↓upd_none, Nat.reduceEqDiff, Nat.reduceBEq, Nat.reduceAdd, Nat.reduceSub, Nat.reduceMul, Nat.reduceLT, Nat.reduceLeDiff, ↓reduceIte, reduceCtorEq, rsOf, rootsOf, SOp.rd, SI.rd, SX.rd, rdL, rdO, rdP, okParts, eqCells, okEqCells, fillA, okFill, setAt, implies_true, forall_const, forall_eq, ne_eq, exists_eq_right_right, exists_eq_right, exists_eq_left, exists_eq_left', eInt, eBool, lit_eq, c123, eDoc]
  refine LoopVC.intro (fun m e h' => ∃ c : Int, m = (if c = -1 then 0 else up d c + 1) ∧ (c = -1 ∨ inD d c) ∧ e 1 = aInt c ∧ e 2 = aInt top ∧ e 3 = .pin (eDoc d) ∧ h' = h ∧ (c = -1 → top ∉ chain d n) ∧ (inD d c → (top ∈ chain d n ↔ top ∈ chain d c))) _ ⟨n, rfl, .inr hn, rfl, rfl, rfl, rfl, fun e => by have := hn.1; omega, fun _ => Iff.rfl⟩ ?_
  rintro m e h' ⟨c, rfl, hc, he1, he2, he3, rfl, hno, hyes⟩
  by_cases h2 : c = -1
  · subst h2
    have h3 : ((-1 : Int) == top) = false := by simp; omega
    simp -dsimp -implicitDefEqProofs (disch := omega) only [↓vcOps_sp 9, ↓vcD_sp 9, VCA, pg_gl, ↓upd_none, Nat.reduceEqDiff, Nat.reduceBEq, Nat.reduceAdd, Nat.reduceSub, Nat.reduceMul, Nat.reduceLT, Nat.reduceLeDiff, ↓reduceIte, reduceCtorEq, rsOf, rootsOf, SOp.rd, SI.rd, SX.rd, rdL, rdO, rdP, okParts, eqCells, okEqCells, fillA, okFill, setAt, implies_true, forall_const, forall_eq, ne_eq, exists_eq_right_right, exists_eq_right, exists_eq_left, exists_eq_left', eInt, eBool, lit_eq, he1, he2, he3, h3]
    repeat' (first | ((with_reducible refine Br.dec (fun _ => ?_) (fun _ => ?_)) <;> try (exfalso; omega)) | ((with_reducible refine Br.eq (fun _ => ?_) (fun _ => ?_)) <;> try (exfalso; omega)) | ((with_reducible refine Br.ne (fun _ => ?_) (fun _ => ?_)) <;> try (exfalso; omega)) | ((with_reducible refine brNdec (fun _ => ?_) (fun _ => ?_)) <;> try (exfalso; omega)) | ((with_reducible refine brNeq (fun _ => ?_) (fun _ => ?_)) <;> try (exfalso; omega)) | with_reducible refine Br.intro (fun _ => ?_) (fun _ => ?_) | (with_reducible refine And.intro ?_ ?_; · omega) | simp -dsimp -implicitDefEqProofs (disch := omega) only [↓vcOps_sp 9, ↓vcD_sp 9, VCA, pg_gl, ↓upd_none, Nat.reduceEqDiff, Nat.reduceBEq, Nat.reduceAdd, Nat.reduceSub, Nat.reduceMul, Nat.reduceLT, Nat.reduceLeDiff, ↓reduceIte, reduceCtorEq, rsOf, rootsOf, SOp.rd, SI.rd, SX.rd, rdL, rdO, rdP, okParts, eqCells, okEqCells, fillA, okFill, setAt, implies_true, forall_const, forall_eq, ne_eq, exists_eq_right_right, exists_eq_right, exists_eq_left, exists_eq_left', eInt, eBool, lit_eq, he1, he2, he3, h3])
    exact ⟨Sub.refl _, by simp [hno rfl]⟩
  · have hc : inD d c := hc.resolve_left h2
    have hc0 := hc.1
    have hc1 := hc.2
    have e0 : nth d.nodes c.toNat = nd d c := rfl
    simp -dsimp -implicitDefEqProofs (disch := omega) only [↓vcOps_sp 9, ↓vcD_sp 9, VCA, pg_gl, ↓upd_none, Nat.reduceEqDiff, Nat.reduceBEq, Nat.reduceAdd, Nat.reduceSub, Nat.reduceMul, Nat.reduceLT, Nat.reduceLeDiff, ↓reduceIte, reduceCtorEq, rsOf, rootsOf, SOp.rd, SI.rd, SX.rd, rdL, rdO, rdP, okParts, eqCells, okEqCells, fillA, okFill, setAt, implies_true, forall_const, forall_eq, ne_eq, exists_eq_right_right, exists_eq_right, exists_eq_left, exists_eq_left', eInt, eBool, lit_eq, he1, he2, he3]
    repeat' (first | ((with_reducible refine Br.dec (fun _ => ?_) (fun _ => ?_)) <;> try (exfalso; omega)) | ((with_reducible refine Br.eq (fun _ => ?_) (fun _ => ?_)) <;> try (exfalso; omega)) | ((with_reducible refine Br.ne (fun _ => ?_) (fun _ => ?_)) <;> try (exfalso; omega)) | ((with_reducible refine brNdec (fun _ => ?_) (fun _ => ?_)) <;> try (exfalso; omega)) | ((with_reducible refine brNeq (fun _ => ?_) (fun _ => ?_)) <;> try (exfalso; omega)) | with_reducible refine Br.intro (fun _ => ?_) (fun _ => ?_) | (with_reducible refine And.intro ?_ ?_; · omega) | simp -dsimp -implicitDefEqProofs (disch := omega) only [↓vcOps_sp 9, ↓vcD_sp 9, VCA, pg_gl, ↓upd_none, Nat.reduceEqDiff, Nat.reduceBEq, Nat.reduceAdd, Nat.reduceSub, Nat.reduceMul, Nat.reduceLT, Nat.reduceLeDiff, ↓reduceIte, reduceCtorEq, rsOf, rootsOf, SOp.rd, SI.rd, SX.rd, rdL, rdO, rdP, okParts, eqCells, okEqCells, fillA, okFill, setAt, implies_true, forall_const, forall_eq, ne_eq, exists_eq_right_right, exists_eq_right, exists_eq_left, exists_eq_left', eInt, eBool, lit_eq, he1, he2, he3, eDoc, eNode, e0])
    · rename_i h0 h1
      refine ⟨_, ?_, (nd d c).parent, rfl, ?_, rfl, ?_, ?_⟩
      · rw [if_neg (show ¬ c = -1 by omega)]
        split
        · omega
        · rename_i hp
          have := V.up_par hc (by have := V.par c hc; unfold inD at this; omega)
          omega
      · rcases V.par c hc with h | h
        · exact .inl h
        · exact .inr h.1
      · intro hp
        rw [hyes hc, chain_top V (by omega)]
        simp; exact fun e => h1 e.symm
      · intro hp
        rw [hyes hc, chain_up V hc hp.1]
        simp; exact fun e => absurd e.symm h1
    · rename_i h0 h1
      subst h1
      exact ⟨Sub.refl _, by simp [(hyes hc).2 (chain_self _ _)]⟩
def leftM (t : List UInt8) (n : Int) (s : HSpan) : List UInt8 := t.take (if s.a.node = n then s.a.at' else 0).toNat ++ t.drop (if s.b.node = n then s.b.at' else t.length).toNat
def c124 : SFun := ⟨(.seq (.reg [⟨(some 5), (.boxF 52 4 (.t 2)), none⟩, ⟨(some 6), (.mv (.c (.str []))), none⟩]) (.seq (.reg [⟨(some 9), (.mv (.t 0)), none⟩, ⟨(some 10), (.lenS (.t 9)), none⟩, ⟨(some 7), (.mv (.c (.int .i64 (0)))), none⟩, ⟨(some 8), (.mv (.t 10)), none⟩]) (.seq (.seq (.reg [⟨(some 11), (.fldA 0 (.t 5)), none⟩, ⟨(some 12), (.fldA 0 (.t 11)), none⟩, ⟨(some 13), (.ld 1 false (.t 12)), none⟩, ⟨(some 14), (.mv (.t 1)), none⟩, ⟨(some 15), (.bin .eql (.t 13) (.t 14)), none⟩]) (.cond (.t 15) (.reg [⟨(some 16), (.fldA 0 (.t 5)), none⟩, ⟨(some 17), (.fldA 1 (.t 16)), none⟩, ⟨(some 18), (.ld 1 false (.t 17)), none⟩, ⟨(some 7), (.mv (.t 18)), none⟩]) .skip)) (.seq (.seq (.reg [⟨(some 19), (.fldA 2 (.t 5)), none⟩, ⟨(some 20), (.fldA 0 (.t 19)), none⟩, ⟨(some 21), (.ld 1 false (.t 20)), none⟩, ⟨(some 22), (.mv (.t 1)), none⟩, ⟨(some 23), (.bin .eql (.t 21) (.t 22)), none⟩]) (.cond (.t 23) (.reg [⟨(some 24), (.fldA 2 (.t 5)), none⟩, ⟨(some 25), (.fldA 1 (.t 24)), none⟩, ⟨(some 26), (.ld 1 false (.t 25)), none⟩, ⟨(some 8), (.mv (.t 26)), none⟩]) .skip)) (.seq (.dreg [(⟨(some 27), (.mv (.t 0)), none⟩, none), (⟨(some 28), (.mv (.t 7)), none⟩, none), (⟨(some 29), (.slS (.t 27) none (some (.t 28))), none⟩, none), (⟨(some 30), (.mv (.t 0)), none⟩, none), (⟨(some 31), (.mv (.t 8)), none⟩, none), (⟨(some 32), (.slS (.t 30) (some (.t 31)) none), none⟩, none), (⟨(some 33), (.bin .add (.t 29) (.t 32)), none⟩, none), (⟨(some 6), (.mv (.t 33)), none⟩, none)]) .ret))))), [(.tmp 6)]⟩
theorem hc124 : toSF Tryd.prog {} Tryd.f124 = some c124 := by kernel_rfl
theorem hn124 : (Tryd.f124.name == "runtime.NumGoroutine") = false := by kernel_rfl
theorem left_ok (t : List UInt8) (n : Int) (s : HSpan) (ht : t.length ≤ 1073741824) (ha : s.a.node = n → 0 ≤ s.a.at' ∧ s.a.at' ≤ t.length) (hb : s.b.node = n → 0 ≤ s.b.at' ∧ s.b.at' ≤ t.length) :
    PCalls (Pg G) 124 [.str t, aInt n, .agg (eS s)] (.str (leftM t n s)) := fun h => by
  refine dcalls_of_vc Tryd.func124 hn124 hc124 (by rw [Tryd.ntmps124]; simp) (by rw [Tryd.ntmps124]; decide) ?_
  unfold leftM
  simp -dsimp -implicitDefEqProofs (disch := omega) only [VCA, pg_gl, ↓upd_none, Nat.reduceEqDiff, Nat.reduceBEq, Nat.reduceAdd, Nat.reduceSub, Nat.reduceMul, Nat.reduceLT, Nat.reduceLeDiff, ↓reduceIte, reduceCtorEq, rsOf, rootsOf, SOp.rd, SI.rd, SX.rd, rdL, rdO, rdP, okParts, eqCells, okEqCells, fillA, okFill, setAt, implies_true, forall_const, forall_eq, ne_eq, exists_eq_right_right, exists_eq_right, exists_eq_left, exists_eq_left', eInt, eBool, lit_eq, c124, eS]
  repeat' (first | ((with_reducible refine Br.dec (fun _ => ?_) (fun _ => ?_)) <;> try (exfalso; omega)) | ((with_reducible refine Br.eq (fun _ => ?_) (fun _ => ?_)) <;> try (exfalso; omega)) | ((with_reducible refine Br.ne (fun _ => ?_) (fun _ => ?_)) <;> try (exfalso; omega)) | ((with_reducible refine brNdec (fun _ => ?_) (fun _ => ?_)) <;> try (exfalso; omega)) | ((with_reducible refine brNeq (fun _ => ?_) (fun _ => ?_)) <;> try (exfalso; omega)) | with_reducible refine Br.intro (fun _ => ?_) (fun _ => ?_) | (with_reducible refine And.intro ?_ ?_; · omega) | simp -dsimp -implicitDefEqProofs (disch := omega) only [VCA, pg_gl, ↓upd_none, Nat.reduceEqDiff, Nat.reduceBEq, Nat.reduceAdd, Nat.reduceSub, Nat.reduceMul, Nat.reduceLT, Nat.reduceLeDiff, ↓reduceIte, reduceCtorEq, rsOf, rootsOf, SOp.rd, SI.rd, SX.rd, rdL, rdO, rdP, okParts, eqCells, okEqCells, fillA, okFill, setAt, implies_true, forall_const, forall_eq, ne_eq, exists_eq_right_right, exists_eq_right, exists_eq_left, exists_eq_left', eInt, eBool, lit_eq, eS])
  all_goals refine ⟨?_, Sub.refl _, ?_⟩
  all_goals first | (simp only [List.length_append, List.length_take, List.length_drop]; omega) | (simp [*]; done)
/-! ## the cut -/
def zE (do' at' : Int) (v : List UInt8) : HEdit := ⟨do', at', 0, 0, [], v, ⟨0, [], [], [], 0, []⟩⟩
def eE0 (e : HEdit) : List AVal := [aInt e.do', aInt e.at', aInt e.to, aInt e.before, .str e.name, .str e.value, aInt e.node.kind, .str e.node.name, .emp, .str e.node.text, aInt e.node.parent, .emp]
def cutK (rec : Int → List HEdit) (d : HDoc) (n : Int) (s : HSpan) (i : Nat) : List HEdit :=
  let k := nth (nd d n).kids i
  if k ∈ chain d s.a.node ∨ k ∈ chain d s.b.node then
    (if (nd d k).kind = 3 ∨ (nd d k).kind = 4 then (if leftM (nd d k).text k s = (nd d k).text then [] else [zE 3 k (leftM (nd d k).text k s)]) else rec k)
  else if orderM d s.a ⟨n, (i : Int)⟩ ≤ 0 ∧ orderM d ⟨n, (i : Int) + 1⟩ s.b ≤ 0 then [zE 6 k []] else []
def cutF : Nat → HDoc → HSpan → Int → List HEdit
  | 0, _, _, _ => []
  | f + 1, d, s, n => (List.range (nd d n).kids.length).flatMap (cutK (cutF f d s) d n s)
def cutM (d : HDoc) (s : HSpan) (n : Int) : List HEdit := cutF (41 - up d n) d s n
section
variable {d : HDoc}
theorem cutK_cong {r1 r2 : Int → List HEdit} {n : Int} {s : HSpan} {i : Nat} (h : r1 (nth (nd d n).kids i) = r2 (nth (nd d n).kids i)) : cutK r1 d n s i = cutK r2 d n s i := by
  unfold cutK; simp only [h]
theorem cut_eq (V : DV d) (s : HSpan) {n : Int} (hn : inD d n) : cutM d s n = (List.range (nd d n).kids.length).flatMap (cutK (cutM d s) d n s) := by
  have h40 := V.deep n hn
  obtain ⟨f, hf⟩ : ∃ f, 41 - up d n = f + 1 := ⟨40 - up d n, by omega⟩
  have e : cutM d s n = cutF (f + 1) d s n := by unfold cutM; rw [hf]
  rw [e, cutF]
  refine flatMap_cong fun i hi => cutK_cong ?_
  have hu := V.up_kid hn (nth_mem' (List.mem_range.1 hi))
  unfold cutM
  rw [show 41 - up d (nth (nd d n).kids i) = f by omega]
theorem cut_len (V : DV d) (s : HSpan) : ∀ n, inD d n → (cutM d s n).length + 1 ≤ (below d n).length := V.down fun n hn ih => by
  rw [cut_eq V s hn, below_eq V hn, List.length_cons]
  have : ((List.range (nd d n).kids.length).flatMap (cutK (cutM d s) d n s)).length ≤ 1 * ((List.range (nd d n).kids.length).flatMap fun i => below d (nth (nd d n).kids i)).length := by
    refine flatMap_len fun i hi => ?_
    have hk := nth_mem' (List.mem_range.1 hi)
    have := ih _ hk
    have b1 : 1 ≤ (below d (nth (nd d n).kids i)).length := by omega
    unfold cutK
    simp only
    split
    · split
      · split <;> simp; omega
      · omega
    · split <;> simp; omega
  rw [range_flat] at this
  omega
end
theorem acc_keep {h h' h2 : Heap} {ty : TypeId} {sz : Nat} {cells : List (List AVal)} {a : AVal} (A : Acc h ty sz cells a h') (S : Sim.Sub h' h2) : Acc h ty sz cells a h2 := by
  rcases A with h | ⟨r, h0, h1, h2⟩
  · exact .inl h
  · exact .inr ⟨r, h0, S _ _ h1, h2⟩
def c83 : SFun := ⟨(.seq (.reg [⟨(some 4), (.boxF 124 2 (.t 0)), none⟩, ⟨(some 6), (.boxF 52 4 (.t 2)), none⟩, ⟨(some 8), (.mv (.c .emp)), none⟩]) (.seq (.seq (.reg [⟨(some 14), (.fldA 0 (.t 4)), none⟩, ⟨(some 15), (.fldA 0 (.t 14)), none⟩, ⟨(some 16), (.ld 1 false (.t 15)), none⟩, ⟨(some 17), (.mv (.t 1)), none⟩, ⟨(some 18), (.idxA 6 (.t 16) (.t 17)), none⟩, ⟨(some 19), (.fldA 5 (.t 18)), none⟩, ⟨(some 20), (.ld 1 false (.t 19)), none⟩, ⟨(some 21), (.len (.t 20)), none⟩, ⟨(some 22), (.mv (.c (.int .i64 (0)))), none⟩]) (.block 0 (.loop (.seq (.reg [⟨(some 23), (.bin .lss (.t 22) (.t 21)), none⟩]) (.seq (.cond (.t 23) .skip (.exit 0)) (.seq (.block 1 (.seq (.reg [⟨(some 24), (.mv (.t 22)), none⟩, ⟨(some 25), (.idxA 1 (.t 20) (.t 22)), none⟩, ⟨(some 26), (.ld 1 false (.t 25)), none⟩, ⟨(some 9), (.mv (.t 24)), none⟩, ⟨(some 10), (.mv (.t 26)), none⟩]) (.seq (.reg [⟨(some 27), (.fldA 0 (.t 4)), none⟩, ⟨(some 28), (.fldA 0 (.t 27)), none⟩, ⟨(some 29), (.ld 1 false (.t 28)), none⟩, ⟨(some 30), (.mv (.t 10)), none⟩, ⟨(some 31), (.idxA 6 (.t 29) (.t 30)), none⟩, ⟨(some 32), (.ld 6 true (.t 31)), none⟩, ⟨(some 11), (.new 43 6 [(.int .i64 (0)), (.str []), .emp, (.str []), (.int .i64 (0)), .emp]), none⟩, ⟨none, (.st 6 (.t 11) (.t 32)), none⟩]) (.seq (.reg [⟨(some 33), (.ld 2 true (.t 4)), none⟩, ⟨(some 34), (.fldA 0 (.t 6)), none⟩, ⟨(some 35), (.fldA 0 (.t 34)), none⟩, ⟨(some 36), (.ld 1 false (.t 35)), none⟩, ⟨(some 37), (.mv (.t 10)), none⟩, ⟨(some 38), (.pcall 123 [(.t 33), (.t 36), (.t 37)]), none⟩, ⟨(some 39), (.mv (.t 38)), none⟩, ⟨(some 40), (.ld 2 true (.t 4)), (some (39, false))⟩, ⟨(some 41), (.fldA 2 (.t 6)), (some (39, false))⟩, ⟨(some 42), (.fldA 0 (.t 41)), (some (39, false))⟩, ⟨(some 43), (.ld 1 false (.t 42)), (some (39, false))⟩, ⟨(some 44), (.mv (.t 10)), (some (39, false))⟩, ⟨(some 45), (.pcall 123 [(.t 40), (.t 43), (.t 44)]), (some (39, false))⟩, ⟨(some 46), (.pick (.t 39) (.c (.bool true)) (.t 45)), none⟩, ⟨(some 12), (.mv (.t 46)), none⟩]) (.block 2 (.seq (.reg [⟨(some 48), (.mv (.t 12)), none⟩, ⟨(some 49), (.mv (.t 48)), none⟩, ⟨(some 50), (.fldA 0 (.t 11)), (some (49, true))⟩, ⟨(some 51), (.ld 1 false (.t 50)), (some (49, true))⟩, ⟨(some 52), (.bin .eql (.t 51) (.c (.int .i64 (3)))), (some (49, true))⟩, ⟨(some 53), (.mv (.t 52)), (some (49, true))⟩, ⟨(some 54), (.fldA 0 (.t 11)), (some (53, false))⟩, ⟨(some 55), (.ld 1 false (.t 54)), (some (53, false))⟩, ⟨(some 56), (.bin .eql (.t 55) (.c (.int .i64 (4)))), (some (53, false))⟩, ⟨(some 57), (.pick (.t 53) (.c (.bool true)) (.t 56)), (some (49, true))⟩, ⟨(some 58), (.pick (.t 49) (.t 57) (.c (.bool false))), none⟩, ⟨(some 47), (.mv (.t 58)), none⟩]) (.cond (.t 47) (.seq (.reg [⟨(some 59), (.fldA 3 (.t 11)), none⟩, ⟨(some 60), (.ld 1 false (.t 59)), none⟩, ⟨(some 61), (.mv (.t 10)), none⟩, ⟨(some 62), (.ld 4 true (.t 6)), none⟩, ⟨(some 63), (.pcall 124 [(.t 60), (.t 61), (.t 62)]), none⟩, ⟨(some 13), (.mv (.t 63)), none⟩]) (.seq (.reg [⟨(some 64), (.mv (.t 13)), none⟩, ⟨(some 65), (.fldA 3 (.t 11)), none⟩, ⟨(some 66), (.ld 1 false (.t 65)), none⟩, ⟨(some 67), (.bin .neq (.t 64) (.t 66)), none⟩]) (.cond (.t 67) (.reg [⟨(some 68), (.mv (.t 3)), none⟩, ⟨(some 69), (.mv (.t 10)), none⟩, ⟨(some 70), (.mv (.t 13)), none⟩, ⟨(some 71), (.bld [(.int .i64 (0)), (.int .i64 (0)), (.int .i64 (0)), (.int .i64 (0)), (.str []), (.str []), (.int .i64 (0)), (.str []), .emp, (.str []), (.int .i64 (0)), .emp] [(0, (1, (.c (.int .i64 (3))))), (1, (1, (.t 69))), (5, (1, (.t 70)))]), none⟩, ⟨(some 72), (.bldF 87 12 [(.t 71)]), none⟩, ⟨(some 73), (.app 87 12 160 (.t 68) (.t 72)), none⟩, ⟨(some 3), (.mv (.t 73)), none⟩]) .skip))) (.seq (.reg [⟨(some 75), (.mv (.t 12)), none⟩, ⟨(some 74), (.mv (.t 75)), none⟩]) (.cond (.t 74) (.reg [⟨(some 76), (.ld 2 true (.t 4)), none⟩, ⟨(some 77), (.mv (.t 10)), none⟩, ⟨(some 78), (.ld 4 true (.t 6)), none⟩, ⟨(some 79), (.mv (.t 3)), none⟩, ⟨(some 80), (.call (.c (.fn 83 [] [])) [(.t 76), (.t 77), (.t 78), (.t 79)]), none⟩, ⟨(some 3), (.mv (.t 80)), none⟩]) (.seq (.reg [⟨(some 82), (.ld 2 true (.t 4)), none⟩, ⟨(some 83), (.fldA 0 (.t 6)), none⟩, ⟨(some 84), (.ld 2 true (.t 83)), none⟩, ⟨(some 85), (.mv (.t 1)), none⟩, ⟨(some 86), (.mv (.t 9)), none⟩, ⟨(some 87), (.bld [(.int .i64 (0)), (.int .i64 (0))] [(0, (1, (.t 85))), (1, (1, (.t 86)))]), none⟩, ⟨(some 88), (.pcall 88 [(.t 82), (.t 84), (.t 87)]), none⟩, ⟨(some 89), (.bin .leq (.t 88) (.c (.int .i64 (0)))), none⟩, ⟨(some 90), (.mv (.t 89)), none⟩, ⟨(some 91), (.ld 2 true (.t 4)), (some (90, true))⟩, ⟨(some 92), (.mv (.t 1)), (some (90, true))⟩, ⟨(some 93), (.mv (.t 9)), (some (90, true))⟩, ⟨(some 94), (.bin .add (.t 93) (.c (.int .i64 (1)))), (some (90, true))⟩, ⟨(some 95), (.bld [(.int .i64 (0)), (.int .i64 (0))] [(0, (1, (.t 92))), (1, (1, (.t 94)))]), (some (90, true))⟩, ⟨(some 96), (.fldA 2 (.t 6)), (some (90, true))⟩, ⟨(some 97), (.ld 2 true (.t 96)), (some (90, true))⟩, ⟨(some 98), (.pcall 88 [(.t 91), (.t 95), (.t 97)]), (some (90, true))⟩, ⟨(some 99), (.bin .leq (.t 98) (.c (.int .i64 (0)))), (some (90, true))⟩, ⟨(some 100), (.pick (.t 90) (.t 99) (.c (.bool false))), none⟩, ⟨(some 81), (.mv (.t 100)), none⟩]) (.cond (.t 81) (.reg [⟨(some 101), (.mv (.t 3)), none⟩, ⟨(some 102), (.mv (.t 10)), none⟩, ⟨(some 103), (.bld [(.int .i64 (0)), (.int .i64 (0)), (.int .i64 (0)), (.int .i64 (0)), (.str []), (.str []), (.int .i64 (0)), (.str []), .emp, (.str []), (.int .i64 (0)), .emp] [(0, (1, (.c (.int .i64 (6))))), (1, (1, (.t 102)))]), none⟩, ⟨(some 104), (.bldF 87 12 [(.t 103)]), none⟩, ⟨(some 105), (.app 87 12 160 (.t 101) (.t 104)), none⟩, ⟨(some 3), (.mv (.t 105)), none⟩]) .skip))))))))))) (.reg [⟨(some 106), (.bin .add (.t 22) (.c (.int .i64 (1)))), none⟩, ⟨(some 22), (.mv (.t 106)), none⟩]))))))) (.seq (.reg [⟨(some 107), (.mv (.t 3)), none⟩, ⟨(some 8), (.mv (.t 107)), none⟩]) .ret))), [(.tmp 8)]⟩
theorem hc83 : toSF Tryd.prog {pure := [123, 88, 124]} Tryd.f83 = some c83 := by kernel_rfl
theorem hn83 : (Tryd.f83.name == "runtime.NumGoroutine") = false := by kernel_rfl
set_option maxHeartbeats 2000000 in
theorem rcut_ok (d : HDoc) (V : DV d) (sm : DocSm d) (s : HSpan) (ha : pointE d s.a = 0) (hb : pointE d s.b = 0) : ∀ n, inD d n → 0 ∈ chain d n → ∀ (h h1 : Heap) (L : List HEdit) (a : AVal), Acc h 87 12 (L.map eE0) a h1 → Sim.Sub h h1 → L.length ≤ 1000 * (up d n + 1) →
    DCalls (Pg G) 83 [.agg (eDoc d), aInt n, .agg (eS s), a] h1 fun r h2 => Acc h 87 12 ((L ++ cutM d s n).map eE0) r h2 ∧ Sim.Sub h h2 := V.down fun n hn ih hc0 h h1 L a A S hL => by
  have hl := V.len
  have n0 := hn.1
  have n1 := hn.2
  have e0 : nth d.nodes n.toNat = nd d n := rfl
  have kl := (sm.nd n).kids
  obtain ⟨a1, a2, a3, a4, a5⟩ := point_marks V ha
  obtain ⟨b1, b2, b3, b4, b5⟩ := point_marks V hb
  have be := below_eq V hn
  have bl := below_len V hn
  have cl := cut_len V s
  have u40 := V.deep n hn
  have ce := cut_eq V s hn
  generalize hF : cutK (cutM d s) d n s = F at ce
  refine dcalls_of_vc Tryd.func83 hn83 hc83 (by rw [Tryd.ntmps83]; simp) (by rw [Tryd.ntmps83]; decide) ?_
  simp -dsimp -implicitDefEqProofs (disch := omega) only [↓vcOps_sp 39, ↓vcD_sp 39, ↓vcOps_sp 49, ↓vcD_sp 49, ↓vcOps_sp 53, ↓vcD_sp 53, ↓vcOps_sp 90, ↓vcD_sp 90, VCA, pg_gl, ↓upd_none, Nat.reduceEqDiff, Nat.reduceBEq, Nat.reduceAdd, Nat.reduceSub, Nat.reduceMul, Nat.reduceLT, Nat.reduceLeDiff, ↓reduceIte, reduceCtorEq, rsOf, rootsOf, SOp.rd, SI.rd, SX.rd, rdL, rdO, rdP, okParts, eqCells, okEqCells, fillA, okFill, setAt, implies_true, forall_const, forall_eq, ne_eq, exists_eq_right_right, exists_eq_right, exists_eq_left, exists_eq_left', eInt, eBool, lit_eq, c83, eDoc, eNode, eS]
  rw [e0]
  refine ⟨by omega, ?_⟩
  have A0 : Acc h 87 12 ((L ++ (List.range 0).flatMap F).map eE0) a h1 := by simpa using A
  refine LoopVC.intro (fun m e h' => ∃ k : Nat, k ≤ (nd d n).kids.length ∧ m = (nd d n).kids.length - k ∧ e 1 = aInt n ∧ e 4 = .pin (eDoc d) ∧ e 6 = .pin (eS s) ∧ e 20 = sl eInt (nd d n).kids ∧ e 21 = aInt (nd d n).kids.length ∧ e 22 = aInt k ∧ Acc h 87 12 ((L ++ (List.range k).flatMap F).map eE0) (e 3) h' ∧ Sim.Sub h h') _ ⟨0, by omega, rfl, rfl, rfl, rfl, rfl, rfl, rfl, A0, S⟩ ?_
  clear A0 A S
  rintro m e h' ⟨k, hk, rfl, he1, he4, he6, he20, he21, he22, A, S⟩
  simp -dsimp -implicitDefEqProofs (disch := omega) only [↓vcOps_sp 39, ↓vcD_sp 39, ↓vcOps_sp 49, ↓vcD_sp 49, ↓vcOps_sp 53, ↓vcD_sp 53, ↓vcOps_sp 90, ↓vcD_sp 90, VCA, pg_gl, ↓upd_none, Nat.reduceEqDiff, Nat.reduceBEq, Nat.reduceAdd, Nat.reduceSub, Nat.reduceMul, Nat.reduceLT, Nat.reduceLeDiff, ↓reduceIte, reduceCtorEq, rsOf, rootsOf, SOp.rd, SI.rd, SX.rd, rdL, rdO, rdP, okParts, eqCells, okEqCells, fillA, okFill, setAt, implies_true, forall_const, forall_eq, ne_eq, exists_eq_right_right, exists_eq_right, exists_eq_left, exists_eq_left', eInt, eBool, lit_eq, he1, he4, he6, he20, he21, he22]
  refine Br.dec (fun hlt => ?_) (fun hge => ?_)
  · have hk' : k < (nd d n).kids.length := by omega
    have hm := nth_mem' hk'
    obtain ⟨ki, kp⟩ := V.kid n hn _ hm
    have k0 := ki.1
    have k1 := ki.2
    have ek : nth d.nodes (nth (nd d n).kids k).toNat = nd d (nth (nd d n).kids k) := rfl
    have hFk : F k = cutK (cutM d s) d n s k := by rw [← hF]
    have fl : (List.range (k + 1)).flatMap F = (List.range k).flatMap F ++ F k := by rw [List.range_succ, List.flatMap_append]; simp
    have W1 := rwithin_ok (G := G) d V s.a.node (nth (nd d n).kids k) a1 k0
    have W2 := rwithin_ok (G := G) d V s.b.node (nth (nd d n).kids k) b1 k0
    unfold eDoc at W1 W2
    have rk : ∀ m, (nd d m).kind = 3 ∨ (nd d m).kind = 4 → roomM d m = (nd d m).text.length := fun m hm => by unfold roomM; rw [if_pos hm]
    have kc0 : 0 ∈ chain d (nth (nd d n).kids k) := by
      rw [chain_up V ki (by rw [kp]; exact n0), kp]; exact List.mem_cons_of_mem _ hc0
    have rn : roomM d n = (nd d n).kids.length := by
      rcases node_split V hn with ⟨h, _⟩ | ⟨_, h, _⟩
      · rw [h] at hk'; simp at hk'
      · exact h
    have p1 : pointE d ⟨n, (k : Int)⟩ = 0 := by unfold pointE; rw [if_neg (by simp only [Classical.not_not]; exact ⟨hn, by show (0 : Int) ≤ k; omega, by show (k : Int) ≤ _; omega⟩), if_neg (by simpa using hc0)]
    have p2 : pointE d ⟨n, (k : Int) + 1⟩ = 0 := by unfold pointE; rw [if_neg (by simp only [Classical.not_not]; exact ⟨hn, by show (0 : Int) ≤ (k : Int) + 1; omega, by show (k : Int) + 1 ≤ _; omega⟩), if_neg (by simpa using hc0)]
    have O1 := order_ok (G := G) d V sm s.a ⟨n, (k : Int)⟩ ha p1
    have O2 := order_ok (G := G) d V sm ⟨n, (k : Int) + 1⟩ s.b p2 hb
    unfold eDoc eP at O1 O2
    have hlF : ((List.range k).flatMap F).length + (F k).length + 1 ≤ (below d n).length := by
      have h1 : ∀ (a b : Nat), ((List.range a).flatMap F).length ≤ ((List.range (a + b)).flatMap F).length := fun a b => by
        induction b with
        | zero => exact Nat.le_refl _
        | succ b ih => rw [← Nat.add_assoc, List.range_succ, List.flatMap_append, List.length_append]; omega
      have h2 := h1 (k + 1) ((nd d n).kids.length - (k + 1))
      rw [show k + 1 + ((nd d n).kids.length - (k + 1)) = (nd d n).kids.length by omega, fl, List.length_append, ← ce] at h2
      have := cl n hn
      omega
    have hI := ih _ hm kc0
    have tx := text_len V ki
    have LO := left_ok (G := G) (nd d (nth (nd d n).kids k)).text (nth (nd d n).kids k) s (by omega)
    generalize hkk : nth (nd d n).kids k = kk at *
    have fin : ∀ (X : List HEdit) (a' : AVal) (h'' : Heap), F k = X → Acc h 87 12 ((L ++ ((List.range k).flatMap F ++ X)).map eE0) a' h'' → Acc h 87 12 ((L ++ (List.range (k + 1)).flatMap F).map eE0) a' h'' := fun X a' h'' hX A => by rw [fl, hX]; exact A
    have Fk : F k = if kk ∈ chain d s.a.node ∨ kk ∈ chain d s.b.node then
      (if (nd d kk).kind = 3 ∨ (nd d kk).kind = 4 then (if leftM (nd d kk).text kk s = (nd d kk).text then [] else [zE 3 kk (leftM (nd d kk).text kk s)]) else cutM d s kk)
      else if orderM d s.a ⟨n, (k : Int)⟩ ≤ 0 ∧ orderM d ⟨n, (k : Int) + 1⟩ s.b ≤ 0 then [zE 6 kk []] else [] := by rw [hFk]; unfold cutK; rw [hkk]
    clear hFk
    simp -dsimp -implicitDefEqProofs (disch := omega) only [↓vcOps_sp 39, ↓vcD_sp 39, ↓vcOps_sp 49, ↓vcD_sp 49, ↓vcOps_sp 53, ↓vcD_sp 53, ↓vcOps_sp 90, ↓vcD_sp 90, VCA, pg_gl, ↓upd_none, Nat.reduceEqDiff, Nat.reduceBEq, Nat.reduceAdd, Nat.reduceSub, Nat.reduceMul, Nat.reduceLT, Nat.reduceLeDiff, ↓reduceIte, reduceCtorEq, rsOf, rootsOf, SOp.rd, SI.rd, SX.rd, rdL, rdO, rdP, okParts, eqCells, okEqCells, fillA, okFill, setAt, implies_true, forall_const, forall_eq, ne_eq, exists_eq_right_right, exists_eq_right, exists_eq_left, exists_eq_left', eInt, eBool, lit_eq, he1, he4, he6, he20, he21, he22, eDoc, eNode, eS, hkk, ek]
    refine ⟨by omega, by omega, fun r hr => ?_⟩
    have S' := S.upd (x := some ⟨43, 6, [eNode (nd d kk)]⟩) (S.none hr)
    have A' := acc_keep A ((Sub.refl h').upd (x := some ⟨43, 6, [eNode (nd d kk)]⟩) hr)
    unfold eNode at S' A'
    by_cases hT : kk ∈ chain d s.a.node ∨ kk ∈ chain d s.b.node
    · rw [if_pos hT] at Fk
      have hT2 : (decide (kk ∈ chain d s.a.node) = true) ∨ (decide (kk ∈ chain d s.a.node) = false ∧ decide (kk ∈ chain d s.b.node) = true) := by
        by_cases h1 : kk ∈ chain d s.a.node
        · exact .inl (decide_eq_true h1)
        · exact .inr ⟨decide_eq_false h1, decide_eq_true (hT.resolve_left h1)⟩
      by_cases h3 : (nd d kk).kind = 3 ∨ (nd d kk).kind = 4
      · have LO' := LO (fun e => ⟨a2, by rw [e, rk kk h3] at a3; exact a3⟩) (fun e => ⟨b2, by rw [e, rk kk h3] at b3; exact b3⟩)
        rw [if_pos h3] at Fk
        unfold eS at LO'
        generalize leftM (nd d kk).text kk s = lt at *
        have L1 : L.length + ((List.range k).flatMap F).length ≤ 42000 := by omega
        repeat' (first | ((with_reducible refine Br.dec (fun _ => ?_) (fun _ => ?_)) <;> try (exfalso; omega)) | ((with_reducible refine Br.eq (fun _ => ?_) (fun _ => ?_)) <;> try (exfalso; omega)) | ((with_reducible refine Br.ne (fun _ => ?_) (fun _ => ?_)) <;> try (exfalso; omega)) | ((with_reducible refine brNdec (fun _ => ?_) (fun _ => ?_)) <;> try (exfalso; omega)) | ((with_reducible refine brNeq (fun _ => ?_) (fun _ => ?_)) <;> try (exfalso; omega)) | with_reducible refine Br.intro (fun _ => ?_) (fun _ => ?_) | (with_reducible apply pcallE.of; · exact W1) | (with_reducible apply pcallE.of; · exact W2) | (with_reducible apply pcallE.of; · exact LO') | (refine A'.app S' (by simp only [List.length_map, List.length_append, List.length_cons, List.length_nil]; omega) (by simp only [List.length_map, List.length_append, List.length_cons, List.length_nil]; omega) fun a2 h2 A2 S2 => ?_) | (with_reducible refine And.intro ?_ ?_; · omega) | simp -dsimp -implicitDefEqProofs (disch := omega) only [↓vcOps_sp 39, ↓vcD_sp 39, ↓vcOps_sp 49, ↓vcD_sp 49, ↓vcOps_sp 53, ↓vcD_sp 53, ↓vcOps_sp 90, ↓vcD_sp 90, VCA, pg_gl, ↓upd_none, Nat.reduceEqDiff, Nat.reduceBEq, Nat.reduceAdd, Nat.reduceSub, Nat.reduceMul, Nat.reduceLT, Nat.reduceLeDiff, ↓reduceIte, reduceCtorEq, rsOf, rootsOf, SOp.rd, SI.rd, SX.rd, rdL, rdO, rdP, okParts, eqCells, okEqCells, fillA, okFill, setAt, implies_true, forall_const, forall_eq, ne_eq, exists_eq_right_right, exists_eq_right, exists_eq_left, exists_eq_left', eInt, eBool, lit_eq, upd_same, he1, he4, he6, he20, he21, he22, eDoc, eNode, eS, hkk, ek])
        all_goals first
          | (exfalso; simp_all; done)
          | exact ⟨_, by omega, k + 1, by omega, rfl, by omega, fin [] _ _ (by rw [Fk, if_pos (by assumption)]) (by simpa using A'), S'⟩
          | exact ⟨_, by omega, k + 1, by omega, rfl, by omega, fin _ _ _ (by rw [Fk, if_neg (by assumption)]) (by simpa [eE0, zE] using A2), S2⟩
          | trace_state
      · rw [if_neg h3] at Fk
        have h31 : ¬ (nd d kk).kind = 3 := fun e => h3 (.inl e)
        have h32 : ¬ (nd d kk).kind = 4 := fun e => h3 (.inr e)
        have hI' := hI h _ (L ++ (List.range k).flatMap F) (e 3) A' S' (by
          have ku : up d kk = up d n + 1 := by rw [← hkk]; exact V.up_kid hn (nth_mem' hk')
          rw [List.length_append, ku]
          omega)
        unfold eDoc eS at hI'
        repeat' (first | ((with_reducible refine Br.dec (fun _ => ?_) (fun _ => ?_)) <;> try (exfalso; omega)) | ((with_reducible refine Br.eq (fun _ => ?_) (fun _ => ?_)) <;> try (exfalso; omega)) | ((with_reducible refine Br.ne (fun _ => ?_) (fun _ => ?_)) <;> try (exfalso; omega)) | ((with_reducible refine brNdec (fun _ => ?_) (fun _ => ?_)) <;> try (exfalso; omega)) | ((with_reducible refine brNeq (fun _ => ?_) (fun _ => ?_)) <;> try (exfalso; omega)) | with_reducible refine Br.intro (fun _ => ?_) (fun _ => ?_) | (with_reducible apply pcallE.of; · exact W1) | (with_reducible apply pcallE.of; · exact W2) | ((refine DCalls.of hI' ?_; rintro a2 h2 ⟨A2, S2⟩)) | (with_reducible refine And.intro ?_ ?_; · omega) | simp -dsimp -implicitDefEqProofs (disch := omega) only [↓vcOps_sp 39, ↓vcD_sp 39, ↓vcOps_sp 49, ↓vcD_sp 49, ↓vcOps_sp 53, ↓vcD_sp 53, ↓vcOps_sp 90, ↓vcD_sp 90, VCA, pg_gl, ↓upd_none, Nat.reduceEqDiff, Nat.reduceBEq, Nat.reduceAdd, Nat.reduceSub, Nat.reduceMul, Nat.reduceLT, Nat.reduceLeDiff, ↓reduceIte, reduceCtorEq, rsOf, rootsOf, SOp.rd, SI.rd, SX.rd, rdL, rdO, rdP, okParts, eqCells, okEqCells, fillA, okFill, setAt, implies_true, forall_const, forall_eq, ne_eq, exists_eq_right_right, exists_eq_right, exists_eq_left, exists_eq_left', eInt, eBool, lit_eq, upd_same, he1, he4, he6, he20, he21, he22, eDoc, eNode, eS, hkk, ek, h31, h32])
        all_goals first
          | (exfalso; simp_all; done)
          | exact ⟨_, by omega, k + 1, by omega, rfl, by omega, fin _ _ _ Fk (by simpa using A2), S2⟩
          | trace_state
    · rw [if_neg hT] at Fk
      simp only [not_or] at hT
      have T1 : decide (kk ∈ chain d s.a.node) = false := decide_eq_false hT.1
      have T2 : decide (kk ∈ chain d s.b.node) = false := decide_eq_false hT.2
      rw [T1] at W1
      rw [T2] at W2
      have L1 : L.length + ((List.range k).flatMap F).length ≤ 42000 := by omega
      generalize orderM d s.a ⟨n, (k : Int)⟩ = o1 at *
      generalize orderM d ⟨n, (k : Int) + 1⟩ s.b = o2 at *
      repeat' (first | ((with_reducible refine Br.dec (fun _ => ?_) (fun _ => ?_)) <;> try (exfalso; omega)) | ((with_reducible refine Br.eq (fun _ => ?_) (fun _ => ?_)) <;> try (exfalso; omega)) | ((with_reducible refine Br.ne (fun _ => ?_) (fun _ => ?_)) <;> try (exfalso; omega)) | ((with_reducible refine brNdec (fun _ => ?_) (fun _ => ?_)) <;> try (exfalso; omega)) | ((with_reducible refine brNeq (fun _ => ?_) (fun _ => ?_)) <;> try (exfalso; omega)) | with_reducible refine Br.intro (fun _ => ?_) (fun _ => ?_) | (with_reducible apply pcallE.of; · exact W1) | (with_reducible apply pcallE.of; · exact W2) | (with_reducible apply pcallE.of; · exact O1) | (with_reducible apply pcallE.of; · exact O2) | (refine A'.app S' (by simp only [List.length_map, List.length_append, List.length_cons, List.length_nil]; omega) (by simp only [List.length_map, List.length_append, List.length_cons, List.length_nil]; omega) fun a2 h2 A2 S2 => ?_) | (with_reducible refine And.intro ?_ ?_; · omega) | simp -dsimp -implicitDefEqProofs (disch := omega) only [↓vcOps_sp 39, ↓vcD_sp 39, ↓vcOps_sp 49, ↓vcD_sp 49, ↓vcOps_sp 53, ↓vcD_sp 53, ↓vcOps_sp 90, ↓vcD_sp 90, VCA, pg_gl, ↓upd_none, Nat.reduceEqDiff, Nat.reduceBEq, Nat.reduceAdd, Nat.reduceSub, Nat.reduceMul, Nat.reduceLT, Nat.reduceLeDiff, ↓reduceIte, reduceCtorEq, rsOf, rootsOf, SOp.rd, SI.rd, SX.rd, rdL, rdO, rdP, okParts, eqCells, okEqCells, fillA, okFill, setAt, implies_true, forall_const, forall_eq, ne_eq, exists_eq_right_right, exists_eq_right, exists_eq_left, exists_eq_left', eInt, eBool, lit_eq, upd_same, he1, he4, he6, he20, he21, he22, eDoc, eNode, eS, hkk, ek])
      all_goals first
          | (exfalso; simp_all; done)
          | exact ⟨_, by omega, k + 1, by omega, rfl, by omega, fin [] _ _ (by rw [Fk, if_neg (by omega)]) (by simpa using A'), S'⟩
          | exact ⟨_, by omega, k + 1, by omega, rfl, by omega, fin _ _ _ (by rw [Fk, if_pos (by omega)]) (by simpa [eE0, zE] using A2), S2⟩
          | trace_state
  · obtain rfl : k = (nd d n).kids.length := by omega
    simp -dsimp -implicitDefEqProofs (disch := omega) only [↓vcOps_sp 39, ↓vcD_sp 39, ↓vcOps_sp 49, ↓vcD_sp 49, ↓vcOps_sp 53, ↓vcD_sp 53, ↓vcOps_sp 90, ↓vcD_sp 90, VCA, pg_gl, ↓upd_none, Nat.reduceEqDiff, Nat.reduceBEq, Nat.reduceAdd, Nat.reduceSub, Nat.reduceMul, Nat.reduceLT, Nat.reduceLeDiff, ↓reduceIte, reduceCtorEq, rsOf, rootsOf, SOp.rd, SI.rd, SX.rd, rdL, rdO, rdP, okParts, eqCells, okEqCells, fillA, okFill, setAt, implies_true, forall_const, forall_eq, ne_eq, exists_eq_right_right, exists_eq_right, exists_eq_left, exists_eq_left', eInt, eBool, lit_eq]
    rw [ce]
    exact ⟨_, Sub.refl _, A, S⟩
end Go.Proofs.K
end
section
/- Ranges: Cut; what must be in any case; the law of points. -/
set_option linter.unusedSimpArgs false
set_option linter.unusedVariables false
namespace Go.Proofs.K
open Go Go.Sim Go.Proofs
variable {G : Glob}
def cutErr (d : HDoc) (s : HSpan) : Int := if spanE d s ≠ 0 then spanE d s else if 40 < (cutM d s 0).length then 2 else 0
def cutL (d : HDoc) (s : HSpan) : List HEdit := if cutErr d s = 0 then cutM d s 0 else []
def bareE (e : HEdit) : Prop := e.node.attrs = [] ∧ e.node.kids = []
theorem eE0_wk {e : HEdit} (h : bareE e) : F2 Wk (eE0 e) (eEdit e) := by
  unfold eE0 eEdit
  rw [h.1, h.2]
  exact .cons (.refl _) (.cons (.refl _) (.cons (.refl _) (.cons (.refl _) (.cons (.refl _) (.cons (.refl _) (.cons (.refl _) (.cons (.refl _) (.cons .emp (.cons (.refl _) (.cons (.refl _) (.cons .emp .nil)))))))))))
theorem eE0_wks {l : List HEdit} (h : ∀ e ∈ l, bareE e) : F2 (F2 Wk) (l.map eE0) (l.map eEdit) := by
  induction l with
  | nil => exact .nil
  | cons e l ih => exact .cons (eE0_wk (h e List.mem_cons_self)) (ih fun x hx => h x (List.mem_cons_of_mem _ hx))
theorem cutM_bare {d : HDoc} (V : DV d) (s : HSpan) : ∀ n, inD d n → ∀ e ∈ cutM d s n, bareE e := V.down fun n hn ih e he => by
  rw [cut_eq V s hn] at he
  obtain ⟨i, hi, he⟩ := List.mem_flatMap.1 he
  have hk := nth_mem' (List.mem_range.1 hi)
  unfold cutK at he
  simp only at he
  split at he
  · split at he
    · split at he
      · cases he
      · simp only [List.mem_singleton] at he; subst he; exact ⟨rfl, rfl⟩
    · exact ih _ hk e he
  · split at he
    · simp only [List.mem_singleton] at he; subst he; exact ⟨rfl, rfl⟩
    · cases he
def c32 : SFun := ⟨(.seq (.reg [⟨(some 2), (.boxF 24 2 (.t 0)), none⟩, ⟨(some 3), (.boxF 52 4 (.t 1)), none⟩, ⟨(some 4), (.mv (.c .emp)), none⟩, ⟨(some 5), (.mv (.c (.int .i64 (0)))), none⟩]) (.seq (.reg [⟨(some 10), (.ld 2 true (.t 2)), none⟩, ⟨(some 11), (.ld 4 true (.t 3)), none⟩, ⟨(some 12), (.pcall 82 [(.t 10), (.t 11)]), none⟩, ⟨(some 9), (.mv (.t 12)), none⟩, ⟨(some 13), (.ext (.t 9) 0), none⟩, ⟨(some 14), (.ext (.t 9) 1), none⟩, ⟨(some 6), (.new 124 2 [.emp, (.bool false)]), none⟩, ⟨none, (.st 2 (.t 6) (.t 13)), none⟩, ⟨(some 7), (.mv (.t 14)), none⟩]) (.seq (.seq (.reg [⟨(some 15), (.mv (.t 7)), none⟩, ⟨(some 16), (.bin .neq (.t 15) (.c (.int .i64 (0)))), none⟩]) (.cond (.t 16) (.seq (.reg [⟨(some 17), (.mv (.t 7)), none⟩, ⟨(some 4), (.mv (.c .emp)), none⟩, ⟨(some 5), (.mv (.t 17)), none⟩]) .ret) .skip)) (.seq (.reg [⟨(some 18), (.ld 2 true (.t 6)), none⟩, ⟨(some 19), (.ld 4 true (.t 3)), none⟩, ⟨(some 20), (.call (.c (.fn 83 [] [])) [(.t 18), (.c (.int .i64 (0))), (.t 19), (.c .emp)]), none⟩, ⟨(some 8), (.mv (.t 20)), none⟩]) (.seq (.seq (.reg [⟨(some 21), (.mv (.t 8)), none⟩, ⟨(some 22), (.len (.t 21)), none⟩, ⟨(some 23), (.bin .gtr (.t 22) (.c (.int .i64 (40)))), none⟩]) (.cond (.t 23) (.seq (.reg [⟨(some 4), (.mv (.c .emp)), none⟩, ⟨(some 5), (.mv (.c (.int .i64 (2)))), none⟩]) .ret) .skip)) (.seq (.reg [⟨(some 24), (.mv (.t 8)), none⟩, ⟨(some 4), (.mv (.t 24)), none⟩, ⟨(some 5), (.mv (.c (.int .i64 (0)))), none⟩]) .ret)))))), [(.tmp 4), (.tmp 5)]⟩
theorem hc32 : toSF Tryd.prog {pure := [82]} Tryd.f32 = some c32 := by kernel_rfl
theorem hn32 : (Tryd.f32.name == "runtime.NumGoroutine") = false := by kernel_rfl
theorem scut0_ok (d : HDoc) (sm : DocSm d) (s : HSpan) : PCalls (Pg G) 32 [.agg (eDoc d), .agg (eS s)] (.tup [.slc ((cutL d s).map eE0), aInt (cutErr d s)]) := PCalls.accT (ty := 87) (sz := 12) fun h => by
  have hC := span_ok (G := G) d sm s
  refine dcalls_of_vc Tryd.func32 hn32 hc32 (by rw [Tryd.ntmps32]; simp) (by rw [Tryd.ntmps32]; decide) ?_
  simp -dsimp -implicitDefEqProofs (disch := omega) only [VCA, pg_gl, ↓upd_none, Nat.reduceEqDiff, Nat.reduceBEq, Nat.reduceAdd, Nat.reduceSub, Nat.reduceMul, Nat.reduceLT, Nat.reduceLeDiff, ↓reduceIte, reduceCtorEq, rsOf, rootsOf, SOp.rd, SI.rd, SX.rd, rdL, rdO, rdP, okParts, eqCells, okEqCells, fillA, okFill, setAt, implies_true, forall_const, forall_eq, ne_eq, exists_eq_right_right, exists_eq_right, exists_eq_left, exists_eq_left', eInt, eBool, lit_eq, c32, eDoc_len, eDoc_take, eDoc_drop, eS_len, eS_take, List.append_nil]
  refine pcallE.of (hC) ?_; simp -dsimp -implicitDefEqProofs (disch := omega) only [VCA, pg_gl, ↓upd_none, Nat.reduceEqDiff, Nat.reduceBEq, Nat.reduceAdd, Nat.reduceSub, Nat.reduceMul, Nat.reduceLT, Nat.reduceLeDiff, ↓reduceIte, reduceCtorEq, rsOf, rootsOf, SOp.rd, SI.rd, SX.rd, rdL, rdO, rdP, okParts, eqCells, okEqCells, fillA, okFill, setAt, implies_true, forall_const, forall_eq, ne_eq, exists_eq_right_right, exists_eq_right, exists_eq_left, exists_eq_left', eInt, eBool, lit_eq, eDoc_len, eDoc_take, eDoc_drop, List.append_nil]
  intro r hr
  by_cases h1 : spanE d s = 0
  · obtain ⟨hz, ho⟩ := spanE_zero h1
    obtain ⟨hd, hp, hq⟩ := pointsE_zero hz
    have V := docE_DV hd
    have S1 := (Sub.refl h).upd (x := some ⟨124, 2, [eDoc d]⟩) hr
    have hK := rcut_ok (G := G) d V sm s hp hq 0 V.zero (chain_self _ _) h _ [] .emp .nil S1 (by simp)
    rw [h1]
    have hE : cutErr d s = if 40 < (cutM d s 0).length then 2 else 0 := by unfold cutErr; rw [if_neg (by simpa using h1)]
    unfold cutL
    rw [hE]
    repeat' (first | ((with_reducible refine Br.dec (fun _ => ?_) (fun _ => ?_)) <;> try (exfalso; omega)) | ((with_reducible refine Br.eq (fun _ => ?_) (fun _ => ?_)) <;> try (exfalso; omega)) | ((with_reducible refine Br.ne (fun _ => ?_) (fun _ => ?_)) <;> try (exfalso; omega)) | ((with_reducible refine brNdec (fun _ => ?_) (fun _ => ?_)) <;> try (exfalso; omega)) | ((with_reducible refine brNeq (fun _ => ?_) (fun _ => ?_)) <;> try (exfalso; omega)) | with_reducible refine Br.intro (fun _ => ?_) (fun _ => ?_) | ((refine DCalls.of hK ?_; rintro a h2 ⟨A2, S2⟩)) | (with_reducible refine And.intro ?_ ?_; · omega) | simp -dsimp -implicitDefEqProofs (disch := omega) only [VCA, pg_gl, ↓upd_none, Nat.reduceEqDiff, Nat.reduceBEq, Nat.reduceAdd, Nat.reduceSub, Nat.reduceMul, Nat.reduceLT, Nat.reduceLeDiff, ↓reduceIte, reduceCtorEq, rsOf, rootsOf, SOp.rd, SI.rd, SX.rd, rdL, rdO, rdP, okParts, eqCells, okEqCells, fillA, okFill, setAt, implies_true, forall_const, forall_eq, ne_eq, exists_eq_right_right, exists_eq_right, exists_eq_left, exists_eq_left', eInt, eBool, lit_eq, h1, upd_same, eDoc_len, eDoc_take, eDoc_drop, List.append_nil, eS_len, eS_take])
    rw [List.nil_append] at A2
    obtain ⟨l1, l2⟩ := A2.len
    rw [List.length_map] at l1
    repeat' (first | ((with_reducible refine Br.dec (fun _ => ?_) (fun _ => ?_)) <;> try (exfalso; omega)) | ((with_reducible refine Br.eq (fun _ => ?_) (fun _ => ?_)) <;> try (exfalso; omega)) | ((with_reducible refine Br.ne (fun _ => ?_) (fun _ => ?_)) <;> try (exfalso; omega)) | ((with_reducible refine brNdec (fun _ => ?_) (fun _ => ?_)) <;> try (exfalso; omega)) | ((with_reducible refine brNeq (fun _ => ?_) (fun _ => ?_)) <;> try (exfalso; omega)) | with_reducible refine Br.intro (fun _ => ?_) (fun _ => ?_) | (with_reducible refine And.intro ?_ ?_; · omega) | simp -dsimp -implicitDefEqProofs (disch := omega) only [VCA, pg_gl, ↓upd_none, Nat.reduceEqDiff, Nat.reduceBEq, Nat.reduceAdd, Nat.reduceSub, Nat.reduceMul, Nat.reduceLT, Nat.reduceLeDiff, ↓reduceIte, reduceCtorEq, rsOf, rootsOf, SOp.rd, SI.rd, SX.rd, rdL, rdO, rdP, okParts, eqCells, okEqCells, fillA, okFill, setAt, implies_true, forall_const, forall_eq, ne_eq, exists_eq_right_right, exists_eq_right, exists_eq_left, exists_eq_left', eInt, eBool, lit_eq, l1, l2])
    · exact ⟨_, Sub.refl _, .emp, by simp only [if_pos (show 40 < (cutM d s 0).length by omega)], by simp only [if_pos (show 40 < (cutM d s 0).length by omega)]; exact ⟨.nil, S2⟩⟩
    · exact ⟨_, Sub.refl _, a, by simp only [if_neg (show ¬ 40 < (cutM d s 0).length by omega)], by simp only [if_neg (show ¬ 40 < (cutM d s 0).length by omega)]; exact ⟨A2, S2⟩⟩
  · have hE : cutErr d s = spanE d s := by unfold cutErr; rw [if_pos h1]
    have hL : cutL d s = [] := by unfold cutL; rw [hE, if_neg h1]
    rw [hE, hL]
    repeat' (first | ((with_reducible refine Br.dec (fun _ => ?_) (fun _ => ?_)) <;> try (exfalso; omega)) | ((with_reducible refine Br.eq (fun _ => ?_) (fun _ => ?_)) <;> try (exfalso; omega)) | ((with_reducible refine Br.ne (fun _ => ?_) (fun _ => ?_)) <;> try (exfalso; omega)) | ((with_reducible refine brNdec (fun _ => ?_) (fun _ => ?_)) <;> try (exfalso; omega)) | ((with_reducible refine brNeq (fun _ => ?_) (fun _ => ?_)) <;> try (exfalso; omega)) | with_reducible refine Br.intro (fun _ => ?_) (fun _ => ?_) | (with_reducible refine And.intro ?_ ?_; · omega) | simp -dsimp -implicitDefEqProofs (disch := omega) only [VCA, pg_gl, ↓upd_none, Nat.reduceEqDiff, Nat.reduceBEq, Nat.reduceAdd, Nat.reduceSub, Nat.reduceMul, Nat.reduceLT, Nat.reduceLeDiff, ↓reduceIte, reduceCtorEq, rsOf, rootsOf, SOp.rd, SI.rd, SX.rd, rdL, rdO, rdP, okParts, eqCells, okEqCells, fillA, okFill, setAt, implies_true, forall_const, forall_eq, ne_eq, exists_eq_right_right, exists_eq_right, exists_eq_left, exists_eq_left', eInt, eBool, lit_eq, h1, upd_same, eDoc_len, eDoc_take, eDoc_drop, List.append_nil])
    exact ⟨_, Sub.refl _, .emp, rfl, .nil, (Sub.refl h).upd hr⟩
theorem scut_ok (d : HDoc) (sm : DocSm d) (s : HSpan) : PCalls (Pg G) 32 [.agg (eDoc d), .agg (eS s)] (.tup [sl eEdit (cutL d s), aInt (cutErr d s)]) := fun h =>
  DCalls.res (scut0_ok (G := G) d sm s h) fun a h' ⟨ha, hh⟩ => by
    subst ha
    refine ⟨_, .tup' (.cons (.slc' (eE0_wks fun e he => ?_)) (.cons (.refl _) .nil)), rfl, hh⟩
    unfold cutL at he
    split at he
    · rename_i h1
      have hs : spanE d s = 0 := by
        unfold cutErr at h1
        split at h1
        · contradiction
        · rename_i h2; simpa using h2
      exact cutM_bare (docE_DV (pointsE_zero (spanE_zero hs).1).1) s 0 (docE_DV (pointsE_zero (spanE_zero hs).1).1).zero e he
    · cases he
/-! ## what must be in any case -/
def oneS1 : HSpan := ⟨⟨2, 1⟩, ⟨1, 1⟩⟩
def oneS2 : HSpan := ⟨⟨1, 0⟩, ⟨2, 1⟩⟩
theorem one_span : spanE oneD oneS1 = 0 ∧ textS oneD oneS1 (below oneD 0) = [10] ∧ cutErr oneD oneS2 = 0 ∧ cutL oneD oneS2 = [zE 3 2 [10]] := by decide +kernel
def c35 : SFun := ⟨(.seq (.reg [⟨(some 0), (.mv (.c (.bool false))), none⟩]) (.seq (.reg [⟨(some 6), (.pcall 75 []), none⟩, ⟨(some 7), (.bld [(.int .i64 (0)), (.int .i64 (0))] [(0, (1, (.c (.int .i64 (2))))), (1, (1, (.c (.int .i64 (1)))))]), none⟩, ⟨(some 8), (.bld [(.int .i64 (0)), (.int .i64 (0))] [(0, (1, (.c (.int .i64 (1))))), (1, (1, (.c (.int .i64 (1)))))]), none⟩, ⟨(some 9), (.bld [(.int .i64 (0)), (.int .i64 (0)), (.int .i64 (0)), (.int .i64 (0))] [(0, (2, (.t 7))), (2, (2, (.t 8)))]), none⟩, ⟨(some 10), (.pcall 38 [(.t 6), (.t 9)]), none⟩, ⟨(some 5), (.mv (.t 10)), none⟩, ⟨(some 11), (.ext (.t 5) 0), none⟩, ⟨(some 12), (.ext (.t 5) 1), none⟩, ⟨(some 1), (.mv (.t 11)), none⟩, ⟨(some 2), (.mv (.t 12)), none⟩]) (.seq (.reg [⟨(some 14), (.pcall 75 []), none⟩, ⟨(some 15), (.bld [(.int .i64 (0)), (.int .i64 (0))] [(0, (1, (.c (.int .i64 (1)))))]), none⟩, ⟨(some 16), (.bld [(.int .i64 (0)), (.int .i64 (0))] [(0, (1, (.c (.int .i64 (2))))), (1, (1, (.c (.int .i64 (1)))))]), none⟩, ⟨(some 17), (.bld [(.int .i64 (0)), (.int .i64 (0)), (.int .i64 (0)), (.int .i64 (0))] [(0, (2, (.t 15))), (2, (2, (.t 16)))]), none⟩, ⟨(some 18), (.pcall 32 [(.t 14), (.t 17)]), none⟩, ⟨(some 13), (.mv (.t 18)), none⟩, ⟨(some 19), (.ext (.t 13) 0), none⟩, ⟨(some 20), (.ext (.t 13) 1), none⟩, ⟨(some 3), (.mv (.t 19)), none⟩, ⟨(some 4), (.mv (.t 20)), none⟩]) (.seq (.reg [⟨(some 21), (.mv (.t 1)), none⟩, ⟨(some 22), (.bin .eql (.t 21) (.c (.str [10]))), none⟩, ⟨(some 23), (.mv (.t 22)), none⟩, ⟨(some 24), (.mv (.t 2)), (some (23, true))⟩, ⟨(some 25), (.bin .eql (.t 24) (.c (.int .i64 (0)))), (some (23, true))⟩, ⟨(some 26), (.pick (.t 23) (.t 25) (.c (.bool false))), none⟩, ⟨(some 27), (.mv (.t 26)), none⟩, ⟨(some 28), (.mv (.t 4)), (some (27, true))⟩, ⟨(some 29), (.bin .eql (.t 28) (.c (.int .i64 (0)))), (some (27, true))⟩, ⟨(some 30), (.pick (.t 27) (.t 29) (.c (.bool false))), none⟩, ⟨(some 31), (.mv (.t 30)), none⟩, ⟨(some 32), (.mv (.t 3)), (some (31, true))⟩, ⟨(some 33), (.len (.t 32)), (some (31, true))⟩, ⟨(some 34), (.bin .eql (.t 33) (.c (.int .i64 (1)))), (some (31, true))⟩, ⟨(some 35), (.pick (.t 31) (.t 34) (.c (.bool false))), none⟩, ⟨(some 36), (.mv (.t 35)), none⟩, ⟨(some 37), (.mv (.t 3)), (some (36, true))⟩, ⟨(some 38), (.idxA 12 (.t 37) (.c (.int .i64 (0)))), (some (36, true))⟩, ⟨(some 39), (.fldA 5 (.t 38)), (some (36, true))⟩, ⟨(some 40), (.ld 1 false (.t 39)), (some (36, true))⟩, ⟨(some 41), (.bin .eql (.t 40) (.c (.str [10]))), (some (36, true))⟩, ⟨(some 42), (.pick (.t 36) (.t 41) (.c (.bool false))), none⟩, ⟨(some 0), (.mv (.t 42)), none⟩]) .ret)))), [(.tmp 0)]⟩
theorem hc35 : toSF Tryd.prog {pure := [75, 38, 32]} Tryd.f35 = some c35 := by kernel_rfl
theorem hn35 : (Tryd.f35.name == "runtime.NumGoroutine") = false := by kernel_rfl
theorem spanBegun_ok : PCalls (Pg G) 35 [] (.bool true) := fun h => by
  obtain ⟨c1, c2, c3, c4⟩ := one_span
  have h1 : PCalls (Pg G) 38 [.agg (eDoc oneD), .agg [aInt 2, aInt 1, aInt 1, aInt 1]] (.tup [.str [10], aInt 0]) := by
    have h := stext_ok (G := G) oneD oneD_sm oneS1
    rw [c1, if_pos rfl, c2] at h
    exact h
  have h2 : PCalls (Pg G) 32 [.agg (eDoc oneD), .agg [aInt 1, aInt 0, aInt 2, aInt 1]] (.tup [.slc [[aInt 3, aInt 2, aInt 0, aInt 0, .str [], .str [10], aInt 0, .str [], .slc [], .str [], aInt 0, .slc []]], aInt 0]) := by
    have h := scut_ok (G := G) oneD oneD_sm oneS2
    rw [c3, c4] at h
    exact h
  refine dcalls_of_vc Tryd.func35 hn35 hc35 (by rw [Tryd.ntmps35]; simp) (by rw [Tryd.ntmps35]; decide) ?_
  simp -dsimp -implicitDefEqProofs (disch := omega) only [↓vcOps_sp 23, ↓vcD_sp 23, ↓vcOps_sp 27, ↓vcD_sp 27, ↓vcOps_sp 31, ↓vcD_sp 31, ↓vcOps_sp 36, ↓vcD_sp 36, VCA, pg_gl, ↓upd_none, Nat.reduceEqDiff, Nat.reduceBEq, Nat.reduceAdd, Nat.reduceSub, Nat.reduceMul, Nat.reduceLT, Nat.reduceLeDiff, ↓reduceIte, reduceCtorEq, rsOf, rootsOf, SOp.rd, SI.rd, SX.rd, rdL, rdO, rdP, okParts, eqCells, okEqCells, fillA, okFill, setAt, implies_true, forall_const, forall_eq, ne_eq, exists_eq_right_right, exists_eq_right, exists_eq_left, exists_eq_left', eInt, eBool, lit_eq, c35]
  repeat' (first | ((with_reducible refine Br.dec (fun _ => ?_) (fun _ => ?_)) <;> try (exfalso; omega)) | ((with_reducible refine Br.eq (fun _ => ?_) (fun _ => ?_)) <;> try (exfalso; omega)) | ((with_reducible refine Br.ne (fun _ => ?_) (fun _ => ?_)) <;> try (exfalso; omega)) | ((with_reducible refine brNdec (fun _ => ?_) (fun _ => ?_)) <;> try (exfalso; omega)) | ((with_reducible refine brNeq (fun _ => ?_) (fun _ => ?_)) <;> try (exfalso; omega)) | with_reducible refine Br.intro (fun _ => ?_) (fun _ => ?_) | (with_reducible apply pcallE.of; · exact oneP_ok (G := G)) | (with_reducible apply pcallE.of; · exact h1) | (with_reducible apply pcallE.of; · exact h2) | (with_reducible refine And.intro ?_ ?_; · omega) | simp -dsimp -implicitDefEqProofs (disch := omega) only [↓vcOps_sp 23, ↓vcD_sp 23, ↓vcOps_sp 27, ↓vcD_sp 27, ↓vcOps_sp 31, ↓vcD_sp 31, ↓vcOps_sp 36, ↓vcD_sp 36, VCA, pg_gl, ↓upd_none, Nat.reduceEqDiff, Nat.reduceBEq, Nat.reduceAdd, Nat.reduceSub, Nat.reduceMul, Nat.reduceLT, Nat.reduceLeDiff, ↓reduceIte, reduceCtorEq, rsOf, rootsOf, SOp.rd, SI.rd, SX.rd, rdL, rdO, rdP, okParts, eqCells, okEqCells, fillA, okFill, setAt, implies_true, forall_const, forall_eq, ne_eq, exists_eq_right_right, exists_eq_right, exists_eq_left, exists_eq_left', eInt, eBool, lit_eq, eEdit, zE])
  all_goals first | exact ⟨Sub.refl _, rfl⟩ | (rename_i q; exact absurd rfl q)
/-! ## the law of points -/
theorem pointsE_two (d : HDoc) (p q : HPoint) : pointsE d [p, q] = if docE d ≠ 0 then docE d else if pointE d p ≠ 0 then pointE d p else pointE d q := by
  unfold pointsE
  split
  · rfl
  · rfl
theorem less_spanE (d : HDoc) (s : HSpan) (h : pointsE d [s.a, s.b] = 0) : (spanE d ⟨s.b, s.a⟩ = 9) ↔ orderM d s.a s.b < 0 := by
  obtain ⟨hd, hp, hq⟩ := pointsE_zero h
  have hz : pointsE d [s.b, s.a] = 0 := by rw [pointsE_two, if_neg (by simpa using hd), if_neg (by simpa using hq)]; exact hp
  unfold spanE
  rw [if_neg (by simpa using hz)]
  have := order_neg d s.a s.b
  show (if 0 < orderM d s.b s.a then (9 : Int) else 0) = 9 ↔ _
  split
  · constructor
    · intro _; omega
    · intro _; rfl
  · constructor
    · intro h; omega
    · intro h; omega
def c7_s10 : SCode := (.seq (.reg [⟨(some 62), (.pcall 35 []), none⟩, ⟨(some 63), (.mv (.t 62)), none⟩, ⟨(some 64), (.ld 2 true (.t 2)), (some (63, true))⟩, ⟨(some 65), (.ld 4 true (.t 3)), (some (63, true))⟩, ⟨(some 66), (.pcall 41 [(.t 64), (.t 65)]), (some (63, true))⟩, ⟨(some 67), (.mv (.t 10)), (some (63, true))⟩, ⟨(some 68), (.bin .eql (.t 66) (.t 67)), (some (63, true))⟩, ⟨(some 69), (.pick (.t 63) (.t 68) (.c (.bool false))), none⟩, ⟨(some 70), (.mv (.t 69)), none⟩, ⟨(some 71), (.mv (.t 5)), (some (70, true))⟩, ⟨(some 72), (.mv (.t 11)), (some (70, true))⟩, ⟨(some 73), (.eqb false (.t 71) (.t 72)), (some (70, true))⟩, ⟨(some 74), (.pick (.t 70) (.t 73) (.c (.bool false))), none⟩, ⟨(some 75), (.mv (.t 74)), none⟩, ⟨(some 76), (.mv (.t 6)), (some (75, true))⟩, ⟨(some 77), (.mv (.t 9)), (some (75, true))⟩, ⟨(some 78), (.bin .eql (.t 76) (.t 77)), (some (75, true))⟩, ⟨(some 79), (.pick (.t 75) (.t 78) (.c (.bool false))), none⟩, ⟨(some 80), (.mv (.t 79)), none⟩, ⟨(some 81), (.mv (.t 7)), (some (80, true))⟩, ⟨(some 82), (.mv (.t 12)), (some (80, true))⟩, ⟨(some 83), (.bin .eql (.t 81) (.t 82)), (some (80, true))⟩, ⟨(some 84), (.pick (.t 80) (.t 83) (.c (.bool false))), none⟩, ⟨(some 85), (.mv (.t 84)), none⟩, ⟨(some 86), (.mv (.t 8)), (some (85, true))⟩, ⟨(some 87), (.mv (.t 10)), (some (85, true))⟩, ⟨(some 88), (.bin .eql (.t 86) (.t 87)), (some (85, true))⟩, ⟨(some 89), (.pick (.t 85) (.t 88) (.c (.bool false))), none⟩, ⟨(some 4), (.mv (.t 89)), none⟩]) .ret)
def c7 : SFun := ⟨(.seq (.reg [⟨(some 2), (.box 24 2 (.t 0)), none⟩, ⟨(some 3), (.boxF 52 4 (.t 1)), none⟩, ⟨(some 4), (.mv (.c (.bool false))), none⟩]) (.seq (.reg [⟨(some 13), (.ld 2 true (.t 2)), none⟩, ⟨(some 14), (.pcall 31 [(.t 13)]), none⟩, ⟨none, (.st 2 (.t 2) (.t 14)), none⟩]) (.seq (.reg [⟨(some 16), (.ld 2 true (.t 2)), none⟩, ⟨(some 17), (.fldA 0 (.t 3)), none⟩, ⟨(some 18), (.ld 2 true (.t 17)), none⟩, ⟨(some 19), (.fldA 2 (.t 3)), none⟩, ⟨(some 20), (.ld 2 true (.t 19)), none⟩, ⟨(some 21), (.pcall 37 [(.t 16), (.t 18), (.t 20)]), none⟩, ⟨(some 15), (.mv (.t 21)), none⟩, ⟨(some 22), (.ext (.t 15) 0), none⟩, ⟨(some 23), (.ext (.t 15) 1), none⟩, ⟨(some 5), (.mv (.t 22)), none⟩, ⟨(some 6), (.mv (.t 23)), none⟩]) (.seq (.reg [⟨(some 25), (.ld 2 true (.t 2)), none⟩, ⟨(some 26), (.ld 4 true (.t 3)), none⟩, ⟨(some 27), (.pcall 38 [(.t 25), (.t 26)]), none⟩, ⟨(some 24), (.mv (.t 27)), none⟩, ⟨(some 28), (.ext (.t 24) 0), none⟩, ⟨(some 29), (.ext (.t 24) 1), none⟩, ⟨(some 7), (.mv (.t 28)), none⟩, ⟨(some 8), (.mv (.t 29)), none⟩]) (.seq (.reg [⟨(some 30), (.ld 2 true (.t 2)), none⟩, ⟨(some 31), (.pcall 17 [(.t 30)]), none⟩, ⟨(some 9), (.mv (.t 31)), none⟩]) (.seq (.seq (.reg [⟨(some 32), (.mv (.t 9)), none⟩, ⟨(some 33), (.bin .eql (.t 32) (.c (.int .i64 (0)))), none⟩]) (.cond (.t 33) (.reg [⟨(some 34), (.ld 2 true (.t 2)), none⟩, ⟨(some 35), (.fldA 0 (.t 3)), none⟩, ⟨(some 36), (.ld 2 true (.t 35)), none⟩, ⟨(some 37), (.pcall 39 [(.t 34), (.t 36)]), none⟩, ⟨(some 9), (.mv (.t 37)), none⟩]) .skip)) (.seq (.seq (.reg [⟨(some 38), (.mv (.t 9)), none⟩, ⟨(some 39), (.bin .eql (.t 38) (.c (.int .i64 (0)))), none⟩]) (.cond (.t 39) (.reg [⟨(some 40), (.ld 2 true (.t 2)), none⟩, ⟨(some 41), (.fldA 2 (.t 3)), none⟩, ⟨(some 42), (.ld 2 true (.t 41)), none⟩, ⟨(some 43), (.pcall 39 [(.t 40), (.t 42)]), none⟩, ⟨(some 9), (.mv (.t 43)), none⟩]) .skip)) (.seq (.reg [⟨(some 44), (.ld 2 true (.t 2)), none⟩, ⟨(some 45), (.ld 4 true (.t 3)), none⟩, ⟨(some 46), (.pcall 33 [(.t 44), (.t 45)]), none⟩, ⟨(some 10), (.mv (.t 46)), none⟩, ⟨(some 11), (.mv (.c (.bool false))), none⟩, ⟨(some 12), (.mv (.c (.str []))), none⟩]) (.seq (.seq (.reg [⟨(some 47), (.mv (.t 9)), none⟩, ⟨(some 48), (.bin .eql (.t 47) (.c (.int .i64 (0)))), none⟩]) (.cond (.t 48) (.reg [⟨(some 49), (.ld 2 true (.t 2)), none⟩, ⟨(some 50), (.fldA 2 (.t 3)), none⟩, ⟨(some 51), (.ld 2 true (.t 50)), none⟩, ⟨(some 52), (.fldA 0 (.t 3)), none⟩, ⟨(some 53), (.ld 2 true (.t 52)), none⟩, ⟨(some 54), (.bld [(.int .i64 (0)), (.int .i64 (0)), (.int .i64 (0)), (.int .i64 (0))] [(0, (2, (.t 51))), (2, (2, (.t 53)))]), none⟩, ⟨(some 55), (.pcall 33 [(.t 49), (.t 54)]), none⟩, ⟨(some 56), (.bin .eql (.t 55) (.c (.int .i64 (9)))), none⟩, ⟨(some 11), (.mv (.t 56)), none⟩]) .skip)) (.seq (.seq (.reg [⟨(some 57), (.mv (.t 10)), none⟩, ⟨(some 58), (.bin .eql (.t 57) (.c (.int .i64 (0)))), none⟩]) (.cond (.t 58) (.reg [⟨(some 59), (.ld 2 true (.t 2)), none⟩, ⟨(some 60), (.ld 4 true (.t 3)), none⟩, ⟨(some 61), (.pcall 40 [(.t 59), (.t 60)]), none⟩, ⟨(some 12), (.mv (.t 61)), none⟩]) .skip)) c7_s10)))))))))), [(.tmp 4)]⟩
theorem hc7 : toSF Tryd.prog {pure := [31, 37, 38, 41, 17, 39, 33, 40, 35], how := [(2, 6)]} Tryd.f7 = some c7 := by kernel_rfl
theorem hn7 : (Tryd.f7.name == "runtime.NumGoroutine") = false := by kernel_rfl
theorem spanPoints_ok (d : HDoc) (sm : DocSm d) (s : HSpan) : PCalls (Pg G) 7 [.agg (eDoc d), .agg (eS s)] (.bool true) := fun h => by
  have hF := brief_ok (G := G) d sm
  have fs := briefM_sm sm
  generalize briefM d = f at *
  have hL : PCalls (Pg G) 37 [.agg (eDoc f), .agg (eP s.a), .agg (eP s.b)] (.tup [.bool (decide (pointsE f [s.a, s.b] = 0) && decide (orderM f s.a s.b < 0)), aInt (pointsE f [s.a, s.b])]) := less_ok (G := G) f fs s.a s.b
  have hT := stext_ok (G := G) f fs s
  have hD := docErr_ok (G := G) f fs
  have hE := spanErr_ok (G := G) f fs s
  have hE2 := spanErr_ok (G := G) f fs ⟨s.b, s.a⟩
  have hB := spanBegun_ok (G := G)
  have hC := scheck_ok (G := G) f fs s
  have p2 := pointsE_two f s.a s.b
  have s10 : ∀ (e : Env) (r : Nat) (x : Bool) (t : List UInt8) (w v : Int), v = spanE f s → h r = none → e 2 = .vp r 0 → e 3 = .pin (eS s) → e 5 = .bool x → e 11 = .bool x → e 6 = aInt w → e 9 = aInt w → e 7 = .str t → e 12 = .str t → e 8 = aInt v → e 10 = aInt v →
      vc (Pg G) c7_s10 (retK [.tmp 4] fun r h' => r = .bool true ∧ h' = h) e (upd h r (some ⟨24, 2, [eDoc f]⟩)) := by
    intro e r x t w v hv hr he2 he3 he5 he11 he6 he9 he7 he12 he8 he10
    subst hv
    unfold c7_s10
    skip
    simp -dsimp -implicitDefEqProofs (disch := omega) only [↓vcOps_sp 63, ↓vcD_sp 63, ↓vcOps_sp 70, ↓vcD_sp 70, ↓vcOps_sp 75, ↓vcD_sp 75, ↓vcOps_sp 80, ↓vcD_sp 80, ↓vcOps_sp 85, ↓vcD_sp 85, VCA, pg_gl, ↓upd_none, Nat.reduceEqDiff, Nat.reduceBEq, Nat.reduceAdd, Nat.reduceSub, Nat.reduceMul, Nat.reduceLT, Nat.reduceLeDiff, ↓reduceIte, reduceCtorEq, rsOf, rootsOf, SOp.rd, SI.rd, SX.rd, rdL, rdO, rdP, okParts, eqCells, okEqCells, fillA, okFill, setAt, implies_true, forall_const, forall_eq, ne_eq, exists_eq_right_right, exists_eq_right, exists_eq_left, exists_eq_left', eInt, eBool, lit_eq]
    repeat' (first | ((with_reducible refine Br.dec (fun _ => ?_) (fun _ => ?_)) <;> try (exfalso; omega)) | ((with_reducible refine Br.eq (fun _ => ?_) (fun _ => ?_)) <;> try (exfalso; omega)) | ((with_reducible refine Br.ne (fun _ => ?_) (fun _ => ?_)) <;> try (exfalso; omega)) | ((with_reducible refine brNdec (fun _ => ?_) (fun _ => ?_)) <;> try (exfalso; omega)) | ((with_reducible refine brNeq (fun _ => ?_) (fun _ => ?_)) <;> try (exfalso; omega)) | with_reducible refine Br.intro (fun _ => ?_) (fun _ => ?_) | (with_reducible apply pcallE.of; · exact hB) | (with_reducible apply pcallE.of; · exact hC) | (with_reducible refine And.intro ?_ ?_; · omega) | simp -dsimp -implicitDefEqProofs (disch := omega) only [↓vcOps_sp 63, ↓vcD_sp 63, ↓vcOps_sp 70, ↓vcD_sp 70, ↓vcOps_sp 75, ↓vcD_sp 75, ↓vcOps_sp 80, ↓vcD_sp 80, ↓vcOps_sp 85, ↓vcD_sp 85, VCA, pg_gl, ↓upd_none, Nat.reduceEqDiff, Nat.reduceBEq, Nat.reduceAdd, Nat.reduceSub, Nat.reduceMul, Nat.reduceLT, Nat.reduceLeDiff, ↓reduceIte, reduceCtorEq, rsOf, rootsOf, SOp.rd, SI.rd, SX.rd, rdL, rdO, rdP, okParts, eqCells, okEqCells, fillA, okFill, setAt, implies_true, forall_const, forall_eq, ne_eq, exists_eq_right_right, exists_eq_right, exists_eq_left, exists_eq_left', eInt, eBool, lit_eq, he2, he3, he5, he11, he6, he9, he7, he12, he8, he10, upd_same, eDoc_len, eDoc_take, eDoc_drop, List.append_nil, eS_len, eS_take])
    all_goals first | exact ⟨(Sub.refl h).upd hr, by simp⟩ | (rename_i q; exact absurd rfl q)
  unfold eP at hL
  have hT' := hT
  have hE' := hE
  unfold eS at hT' hE' hE2
  refine dcalls_of_vc Tryd.func7 hn7 hc7 (by rw [Tryd.ntmps7]; simp) (by rw [Tryd.ntmps7]; decide) ?_
  simp -dsimp -implicitDefEqProofs (disch := omega) only [↓vcOps_sp 63, ↓vcD_sp 63, ↓vcOps_sp 70, ↓vcD_sp 70, ↓vcOps_sp 75, ↓vcD_sp 75, ↓vcOps_sp 80, ↓vcD_sp 80, ↓vcOps_sp 85, ↓vcD_sp 85, VCA, pg_gl, ↓upd_none, Nat.reduceEqDiff, Nat.reduceBEq, Nat.reduceAdd, Nat.reduceSub, Nat.reduceMul, Nat.reduceLT, Nat.reduceLeDiff, ↓reduceIte, reduceCtorEq, rsOf, rootsOf, SOp.rd, SI.rd, SX.rd, rdL, rdO, rdP, okParts, eqCells, okEqCells, fillA, okFill, setAt, implies_true, forall_const, forall_eq, ne_eq, exists_eq_right_right, exists_eq_right, exists_eq_left, exists_eq_left', eInt, eBool, lit_eq, c7, eDoc_len, eDoc_take, eDoc_drop, eS_len, eS_take, List.append_nil]
  intro r hr
  refine pcallE.of (hF) ?_; simp -dsimp -implicitDefEqProofs (disch := omega) only [↓vcOps_sp 63, ↓vcD_sp 63, ↓vcOps_sp 70, ↓vcD_sp 70, ↓vcOps_sp 75, ↓vcD_sp 75, ↓vcOps_sp 80, ↓vcD_sp 80, ↓vcOps_sp 85, ↓vcD_sp 85, VCA, pg_gl, ↓upd_none, Nat.reduceEqDiff, Nat.reduceBEq, Nat.reduceAdd, Nat.reduceSub, Nat.reduceMul, Nat.reduceLT, Nat.reduceLeDiff, ↓reduceIte, reduceCtorEq, rsOf, rootsOf, SOp.rd, SI.rd, SX.rd, rdL, rdO, rdP, okParts, eqCells, okEqCells, fillA, okFill, setAt, implies_true, forall_const, forall_eq, ne_eq, exists_eq_right_right, exists_eq_right, exists_eq_left, exists_eq_left', eInt, eBool, lit_eq, upd_same, eDoc_len, eDoc_take, eDoc_drop, eS, List.append_nil]
  by_cases h1 : docE f = 0
  · have V := docE_DV h1
    have hA := pointErr_ok (G := G) f V fs s.a
    have hB2 := pointErr_ok (G := G) f V fs s.b
    rw [if_neg (by simpa using h1)] at p2
    rw [h1] at hD
    unfold eP at hA hB2
    by_cases h2 : pointE f s.a = 0
    · rw [if_neg (by simpa using h2)] at p2
      rw [h2] at hA
      by_cases h3 : pointE f s.b = 0
      · rw [h3] at p2 hB2
        rw [p2] at hL
        have hx : (decide ((0 : Int) = 0) && decide (orderM f s.a s.b < 0)) = (spanE f ⟨s.b, s.a⟩ == 9) := by
          rw [Bool.eq_iff_iff]; simp [less_spanE f s p2]
        rw [hx] at hL
        by_cases h4 : spanE f s = 0
        · have hX := spanText_ok (G := G) f fs s h4
          unfold eS at hX
          rw [if_pos h4] at hT'
          rw [h4] at hT' hE'
          repeat' (first | ((with_reducible refine Br.dec (fun _ => ?_) (fun _ => ?_)) <;> try (exfalso; omega)) | ((with_reducible refine Br.eq (fun _ => ?_) (fun _ => ?_)) <;> try (exfalso; omega)) | ((with_reducible refine Br.ne (fun _ => ?_) (fun _ => ?_)) <;> try (exfalso; omega)) | ((with_reducible refine brNdec (fun _ => ?_) (fun _ => ?_)) <;> try (exfalso; omega)) | ((with_reducible refine brNeq (fun _ => ?_) (fun _ => ?_)) <;> try (exfalso; omega)) | with_reducible refine Br.intro (fun _ => ?_) (fun _ => ?_) | (with_reducible apply pcallE.of; · exact hL) | (with_reducible apply pcallE.of; · exact hT') | (with_reducible apply pcallE.of; · exact hD) | (with_reducible apply pcallE.of; · exact hA) | (with_reducible apply pcallE.of; · exact hB2) | (with_reducible apply pcallE.of; · exact hE') | (with_reducible apply pcallE.of; · exact hE2) | (with_reducible apply pcallE.of; · exact hX) | (with_reducible refine And.intro ?_ ?_; · omega) | simp -dsimp -implicitDefEqProofs (disch := omega) only [↓vcOps_sp 63, ↓vcD_sp 63, ↓vcOps_sp 70, ↓vcD_sp 70, ↓vcOps_sp 75, ↓vcD_sp 75, ↓vcOps_sp 80, ↓vcD_sp 80, ↓vcOps_sp 85, ↓vcD_sp 85, VCA, pg_gl, ↓upd_none, Nat.reduceEqDiff, Nat.reduceBEq, Nat.reduceAdd, Nat.reduceSub, Nat.reduceMul, Nat.reduceLT, Nat.reduceLeDiff, ↓reduceIte, reduceCtorEq, rsOf, rootsOf, SOp.rd, SI.rd, SX.rd, rdL, rdO, rdP, okParts, eqCells, okEqCells, fillA, okFill, setAt, implies_true, forall_const, forall_eq, ne_eq, exists_eq_right_right, exists_eq_right, exists_eq_left, exists_eq_left', eInt, eBool, lit_eq, h1, upd_same, eS, eDoc_len, eDoc_take, eDoc_drop, List.append_nil])
          all_goals exact s10 _ r _ _ _ _ (by first | rfl | exact h4.symm | exact sE.symm) hr rfl rfl rfl rfl rfl rfl rfl rfl rfl rfl
        · rw [if_neg h4] at hT'
          repeat' (first | ((with_reducible refine Br.dec (fun _ => ?_) (fun _ => ?_)) <;> try (exfalso; omega)) | ((with_reducible refine Br.eq (fun _ => ?_) (fun _ => ?_)) <;> try (exfalso; omega)) | ((with_reducible refine Br.ne (fun _ => ?_) (fun _ => ?_)) <;> try (exfalso; omega)) | ((with_reducible refine brNdec (fun _ => ?_) (fun _ => ?_)) <;> try (exfalso; omega)) | ((with_reducible refine brNeq (fun _ => ?_) (fun _ => ?_)) <;> try (exfalso; omega)) | with_reducible refine Br.intro (fun _ => ?_) (fun _ => ?_) | (with_reducible apply pcallE.of; · exact hL) | (with_reducible apply pcallE.of; · exact hT') | (with_reducible apply pcallE.of; · exact hD) | (with_reducible apply pcallE.of; · exact hA) | (with_reducible apply pcallE.of; · exact hB2) | (with_reducible apply pcallE.of; · exact hE') | (with_reducible apply pcallE.of; · exact hE2) | (with_reducible refine And.intro ?_ ?_; · omega) | simp -dsimp -implicitDefEqProofs (disch := omega) only [↓vcOps_sp 63, ↓vcD_sp 63, ↓vcOps_sp 70, ↓vcD_sp 70, ↓vcOps_sp 75, ↓vcD_sp 75, ↓vcOps_sp 80, ↓vcD_sp 80, ↓vcOps_sp 85, ↓vcD_sp 85, VCA, pg_gl, ↓upd_none, Nat.reduceEqDiff, Nat.reduceBEq, Nat.reduceAdd, Nat.reduceSub, Nat.reduceMul, Nat.reduceLT, Nat.reduceLeDiff, ↓reduceIte, reduceCtorEq, rsOf, rootsOf, SOp.rd, SI.rd, SX.rd, rdL, rdO, rdP, okParts, eqCells, okEqCells, fillA, okFill, setAt, implies_true, forall_const, forall_eq, ne_eq, exists_eq_right_right, exists_eq_right, exists_eq_left, exists_eq_left', eInt, eBool, lit_eq, h1, h4, upd_same, eS, eDoc_len, eDoc_take, eDoc_drop, List.append_nil])
          all_goals exact s10 _ r _ _ _ _ (by first | rfl | exact h4.symm | exact sE.symm) hr rfl rfl rfl rfl rfl rfl rfl rfl rfl rfl
      · have sE : spanE f s = pointE f s.b := by unfold spanE; rw [p2, if_pos h3]
        rw [if_neg (by rw [sE]; exact h3)] at hT'
        have px : (decide (pointsE f [s.a, s.b] = 0) && decide (orderM f s.a s.b < 0)) = false := by rw [p2]; simp [h3]
        rw [px, p2] at hL
        repeat' (first | ((with_reducible refine Br.dec (fun _ => ?_) (fun _ => ?_)) <;> try (exfalso; omega)) | ((with_reducible refine Br.eq (fun _ => ?_) (fun _ => ?_)) <;> try (exfalso; omega)) | ((with_reducible refine Br.ne (fun _ => ?_) (fun _ => ?_)) <;> try (exfalso; omega)) | ((with_reducible refine brNdec (fun _ => ?_) (fun _ => ?_)) <;> try (exfalso; omega)) | ((with_reducible refine brNeq (fun _ => ?_) (fun _ => ?_)) <;> try (exfalso; omega)) | with_reducible refine Br.intro (fun _ => ?_) (fun _ => ?_) | (with_reducible apply pcallE.of; · exact hL) | (with_reducible apply pcallE.of; · exact hT') | (with_reducible apply pcallE.of; · exact hD) | (with_reducible apply pcallE.of; · exact hA) | (with_reducible apply pcallE.of; · exact hB2) | (with_reducible apply pcallE.of; · exact hE') | (with_reducible refine And.intro ?_ ?_; · omega) | simp -dsimp -implicitDefEqProofs (disch := omega) only [↓vcOps_sp 63, ↓vcD_sp 63, ↓vcOps_sp 70, ↓vcD_sp 70, ↓vcOps_sp 75, ↓vcD_sp 75, ↓vcOps_sp 80, ↓vcD_sp 80, ↓vcOps_sp 85, ↓vcD_sp 85, VCA, pg_gl, ↓upd_none, Nat.reduceEqDiff, Nat.reduceBEq, Nat.reduceAdd, Nat.reduceSub, Nat.reduceMul, Nat.reduceLT, Nat.reduceLeDiff, ↓reduceIte, reduceCtorEq, rsOf, rootsOf, SOp.rd, SI.rd, SX.rd, rdL, rdO, rdP, okParts, eqCells, okEqCells, fillA, okFill, setAt, implies_true, forall_const, forall_eq, ne_eq, exists_eq_right_right, exists_eq_right, exists_eq_left, exists_eq_left', eInt, eBool, lit_eq, h1, h3, sE, upd_same, eS, eDoc_len, eDoc_take, eDoc_drop, List.append_nil])
        all_goals exact s10 _ r _ _ _ _ (by first | rfl | exact h4.symm | exact sE.symm) hr rfl rfl rfl rfl rfl rfl rfl rfl rfl rfl
    · rw [if_pos h2] at p2
      have sE : spanE f s = pointE f s.a := by unfold spanE; rw [p2, if_pos h2]
      rw [if_neg (by rw [sE]; exact h2)] at hT'
      have px : (decide (pointsE f [s.a, s.b] = 0) && decide (orderM f s.a s.b < 0)) = false := by rw [p2]; simp [h2]
      rw [px, p2] at hL
      repeat' (first | ((with_reducible refine Br.dec (fun _ => ?_) (fun _ => ?_)) <;> try (exfalso; omega)) | ((with_reducible refine Br.eq (fun _ => ?_) (fun _ => ?_)) <;> try (exfalso; omega)) | ((with_reducible refine Br.ne (fun _ => ?_) (fun _ => ?_)) <;> try (exfalso; omega)) | ((with_reducible refine brNdec (fun _ => ?_) (fun _ => ?_)) <;> try (exfalso; omega)) | ((with_reducible refine brNeq (fun _ => ?_) (fun _ => ?_)) <;> try (exfalso; omega)) | with_reducible refine Br.intro (fun _ => ?_) (fun _ => ?_) | (with_reducible apply pcallE.of; · exact hL) | (with_reducible apply pcallE.of; · exact hT') | (with_reducible apply pcallE.of; · exact hD) | (with_reducible apply pcallE.of; · exact hA) | (with_reducible apply pcallE.of; · exact hE') | (with_reducible refine And.intro ?_ ?_; · omega) | simp -dsimp -implicitDefEqProofs (disch := omega) only [↓vcOps_sp 63, ↓vcD_sp 63, ↓vcOps_sp 70, ↓vcD_sp 70, ↓vcOps_sp 75, ↓vcD_sp 75, ↓vcOps_sp 80, ↓vcD_sp 80, ↓vcOps_sp 85, ↓vcD_sp 85, VCA, pg_gl, ↓upd_none, Nat.reduceEqDiff, Nat.reduceBEq, Nat.reduceAdd, Nat.reduceSub, Nat.reduceMul, Nat.reduceLT, Nat.reduceLeDiff, ↓reduceIte, reduceCtorEq, rsOf, rootsOf, SOp.rd, SI.rd, SX.rd, rdL, rdO, rdP, okParts, eqCells, okEqCells, fillA, okFill, setAt, implies_true, forall_const, forall_eq, ne_eq, exists_eq_right_right, exists_eq_right, exists_eq_left, exists_eq_left', eInt, eBool, lit_eq, h1, h2, sE, upd_same, eS, eDoc_len, eDoc_take, eDoc_drop, List.append_nil])
      all_goals exact s10 _ r _ _ _ _ (by first | rfl | exact h4.symm | exact sE.symm) hr rfl rfl rfl rfl rfl rfl rfl rfl rfl rfl
  · rw [if_pos h1] at p2
    have sE : spanE f s = docE f := by unfold spanE; rw [p2, if_pos h1]
    rw [if_neg (by rw [sE]; exact h1)] at hT'
    have px : (decide (pointsE f [s.a, s.b] = 0) && decide (orderM f s.a s.b < 0)) = false := by rw [p2]; simp [h1]
    rw [px, p2] at hL
    repeat' (first | ((with_reducible refine Br.dec (fun _ => ?_) (fun _ => ?_)) <;> try (exfalso; omega)) | ((with_reducible refine Br.eq (fun _ => ?_) (fun _ => ?_)) <;> try (exfalso; omega)) | ((with_reducible refine Br.ne (fun _ => ?_) (fun _ => ?_)) <;> try (exfalso; omega)) | ((with_reducible refine brNdec (fun _ => ?_) (fun _ => ?_)) <;> try (exfalso; omega)) | ((with_reducible refine brNeq (fun _ => ?_) (fun _ => ?_)) <;> try (exfalso; omega)) | with_reducible refine Br.intro (fun _ => ?_) (fun _ => ?_) | (with_reducible apply pcallE.of; · exact hL) | (with_reducible apply pcallE.of; · exact hT') | (with_reducible apply pcallE.of; · exact hD) | (with_reducible apply pcallE.of; · exact hE') | (with_reducible refine And.intro ?_ ?_; · omega) | simp -dsimp -implicitDefEqProofs (disch := omega) only [↓vcOps_sp 63, ↓vcD_sp 63, ↓vcOps_sp 70, ↓vcD_sp 70, ↓vcOps_sp 75, ↓vcD_sp 75, ↓vcOps_sp 80, ↓vcD_sp 80, ↓vcOps_sp 85, ↓vcD_sp 85, VCA, pg_gl, ↓upd_none, Nat.reduceEqDiff, Nat.reduceBEq, Nat.reduceAdd, Nat.reduceSub, Nat.reduceMul, Nat.reduceLT, Nat.reduceLeDiff, ↓reduceIte, reduceCtorEq, rsOf, rootsOf, SOp.rd, SI.rd, SX.rd, rdL, rdO, rdP, okParts, eqCells, okEqCells, fillA, okFill, setAt, implies_true, forall_const, forall_eq, ne_eq, exists_eq_right_right, exists_eq_right, exists_eq_left, exists_eq_left', eInt, eBool, lit_eq, h1, sE, upd_same, eS, eDoc_len, eDoc_take, eDoc_drop, List.append_nil])
    all_goals exact s10 _ r _ _ _ _ (by first | rfl | exact h4.symm | exact sE.symm) hr rfl rfl rfl rfl rfl rfl rfl rfl rfl rfl
end Go.Proofs.K
end
