/- Documents: dom.kids, dom.up, dom.Check. -/
import Derived.Test.YtmfechcelhchcaaDoorDom3
set_option linter.unusedSimpArgs false
set_option linter.unusedVariables false
namespace Go.Proofs.K
open Go Go.Sim Go.Proofs
variable {G : Glob}

def eBool (b : Bool) : List AVal := [.bool b]
instance : LenE eBool 1 := ⟨fun _ => rfl⟩
theorem upF_top {d : HDoc} {n : Int} (h : ¬ 0 ≤ (nd d n).parent) (f : Nat) : upF f d n = 0 := by cases f <;> simp [upF, h]
def c102 : SFun := ⟨(.seq (.reg [⟨(some 2), (.boxF 24 2 (.t 0)), none⟩, ⟨(some 4), (.mv (.c (.int .i64 (0)))), none⟩]) (.seq (.block 0 (.loop (.seq (.seq (.reg [⟨(some 5), (.fldA 0 (.t 2)), none⟩, ⟨(some 6), (.ld 1 false (.t 5)), none⟩, ⟨(some 7), (.mv (.t 1)), none⟩, ⟨(some 8), (.idxA 6 (.t 6) (.t 7)), none⟩, ⟨(some 9), (.fldA 4 (.t 8)), none⟩, ⟨(some 10), (.ld 1 false (.t 9)), none⟩, ⟨(some 11), (.bin .geq (.t 10) (.c (.int .i64 (0)))), none⟩, ⟨(some 12), (.mv (.t 11)), none⟩, ⟨(some 13), (.mv (.t 4)), (some (12, true))⟩, ⟨(some 14), (.fldA 0 (.t 2)), (some (12, true))⟩, ⟨(some 15), (.ld 1 false (.t 14)), (some (12, true))⟩, ⟨(some 16), (.len (.t 15)), (some (12, true))⟩, ⟨(some 17), (.bin .leq (.t 13) (.t 16)), (some (12, true))⟩, ⟨(some 18), (.pick (.t 12) (.t 17) (.c (.bool false))), none⟩]) (.cond (.t 18) .skip (.exit 0))) (.seq (.block 1 (.reg [⟨(some 25), (.mv (.t 4)), none⟩, ⟨(some 26), (.bin .add (.t 25) (.c (.int .i64 (1)))), none⟩, ⟨(some 4), (.mv (.t 26)), none⟩])) (.reg [⟨(some 19), (.fldA 0 (.t 2)), none⟩, ⟨(some 20), (.ld 1 false (.t 19)), none⟩, ⟨(some 21), (.mv (.t 1)), none⟩, ⟨(some 22), (.idxA 6 (.t 20) (.t 21)), none⟩, ⟨(some 23), (.fldA 4 (.t 22)), none⟩, ⟨(some 24), (.ld 1 false (.t 23)), none⟩, ⟨(some 1), (.mv (.t 24)), none⟩]))))) (.seq (.reg [⟨(some 27), (.mv (.t 4)), none⟩, ⟨(some 4), (.mv (.t 27)), none⟩]) .ret))), [(.tmp 4)]⟩
theorem hc102 : toSF Tryd.prog {} Tryd.f102 = some c102 := by kernel_rfl
theorem hn102 : (Tryd.f102.name == "runtime.NumGoroutine") = false := by kernel_rfl
theorem up_ok (d : HDoc) (sm : DocSm d) (hP : ∀ n, inD d n → 0 ≤ (nd d n).parent → inD d (nd d n).parent) (n : Int) (hn : inD d n) : PCalls (Pg G) 102 [.agg (eDoc d), aInt n] (aInt (up d n)) := fun h => by
  have hl := sm.len
  refine dcalls_of_vc Tryd.func102 hn102 hc102 (by rw [Tryd.ntmps102]; simp) (by rw [Tryd.ntmps102]; decide) ?_
  simp -dsimp -implicitDefEqProofs (disch := omega) only [↓vcOps_sp 12, ↓vcD_sp 12, VCA, pg_gl, ↓upd_none, Nat.reduceEqDiff, Nat.reduceBEq, Nat.reduceAdd, Nat.reduceSub, Nat.reduceMul, Nat.reduceLT, Nat.reduceLeDiff, ↓reduceIte, reduceCtorEq, rsOf, rootsOf, SOp.rd, SI.rd, SX.rd, rdL, rdO, rdP, okParts, eqCells, okEqCells, fillA, okFill, setAt, implies_true, forall_const, forall_eq, ne_eq, exists_eq_right_right, exists_eq_right, exists_eq_left, exists_eq_left', eAttr, eInt, eNode, eDoc, eBool, c102, eDoc]
  refine LoopVC.intro (fun m e h' => ∃ (c : Int) (k : Nat), k ≤ d.nodes.length + 1 ∧ m = d.nodes.length + 1 - k ∧ inD d c ∧ e 1 = aInt c ∧ e 2 = .pin (eDoc d) ∧ e 4 = aInt k ∧ h' = h ∧ k + upF (d.nodes.length + 1 - k) d c = up d n) (d.nodes.length + 1) ⟨n, 0, by omega, rfl, hn, rfl, rfl, rfl, rfl, by simp [up]⟩ ?_
  rintro m e h' ⟨c, k, hk, rfl, hc, he1, he2, he4, rfl, hu⟩
  have hc0 := hc.1
  have hc1 := hc.2
  simp -dsimp -implicitDefEqProofs (disch := omega) only [↓vcOps_sp 12, ↓vcD_sp 12, VCA, pg_gl, ↓upd_none, Nat.reduceEqDiff, Nat.reduceBEq, Nat.reduceAdd, Nat.reduceSub, Nat.reduceMul, Nat.reduceLT, Nat.reduceLeDiff, ↓reduceIte, reduceCtorEq, rsOf, rootsOf, SOp.rd, SI.rd, SX.rd, rdL, rdO, rdP, okParts, eqCells, okEqCells, fillA, okFill, setAt, implies_true, forall_const, forall_eq, ne_eq, exists_eq_right_right, exists_eq_right, exists_eq_left, exists_eq_left', eAttr, eInt, eNode, eDoc, eBool, he1, he2, he4, eDoc]
  refine ⟨by omega, ?_⟩
  have e0 : nth d.nodes c.toNat = nd d c := rfl
  rw [e0]
  refine Br.dec (fun h1 => ?_) (fun h1 => ?_)
  · simp -dsimp -implicitDefEqProofs (disch := omega) only [↓vcOps_sp 12, ↓vcD_sp 12, VCA, pg_gl, ↓upd_none, Nat.reduceEqDiff, Nat.reduceBEq, Nat.reduceAdd, Nat.reduceSub, Nat.reduceMul, Nat.reduceLT, Nat.reduceLeDiff, ↓reduceIte, reduceCtorEq, rsOf, rootsOf, SOp.rd, SI.rd, SX.rd, rdL, rdO, rdP, okParts, eqCells, okEqCells, fillA, okFill, setAt, implies_true, forall_const, forall_eq, ne_eq, exists_eq_right_right, exists_eq_right, exists_eq_left, exists_eq_left', eAttr, eInt, eNode, eDoc, eBool, he1, he2, he4, eDoc]
    refine Br.dec (fun h2 => ?_) (fun h2 => ?_)
    · simp -dsimp -implicitDefEqProofs (disch := omega) only [↓vcOps_sp 12, ↓vcD_sp 12, VCA, pg_gl, ↓upd_none, Nat.reduceEqDiff, Nat.reduceBEq, Nat.reduceAdd, Nat.reduceSub, Nat.reduceMul, Nat.reduceLT, Nat.reduceLeDiff, ↓reduceIte, reduceCtorEq, rsOf, rootsOf, SOp.rd, SI.rd, SX.rd, rdL, rdO, rdP, okParts, eqCells, okEqCells, fillA, okFill, setAt, implies_true, forall_const, forall_eq, ne_eq, exists_eq_right_right, exists_eq_right, exists_eq_left, exists_eq_left', eAttr, eInt, eNode, eDoc, eBool, he1, he2, he4, eDoc]
      refine ⟨by omega, _, ?_, (nd d c).parent, k + 1, by omega, rfl, hP c hc h1, rfl, by omega, ?_⟩
      · omega
      · obtain ⟨f, hf⟩ : ∃ f, d.nodes.length + 1 - k = f + 1 := ⟨d.nodes.length - k, by omega⟩
        rw [hf, upF, if_pos h1] at hu
        have e2 : d.nodes.length + 1 - (k + 1) = f := by omega
        rw [e2]; omega
    · simp -dsimp -implicitDefEqProofs (disch := omega) only [↓vcOps_sp 12, ↓vcD_sp 12, VCA, pg_gl, ↓upd_none, Nat.reduceEqDiff, Nat.reduceBEq, Nat.reduceAdd, Nat.reduceSub, Nat.reduceMul, Nat.reduceLT, Nat.reduceLeDiff, ↓reduceIte, reduceCtorEq, rsOf, rootsOf, SOp.rd, SI.rd, SX.rd, rdL, rdO, rdP, okParts, eqCells, okEqCells, fillA, okFill, setAt, implies_true, forall_const, forall_eq, ne_eq, exists_eq_right_right, exists_eq_right, exists_eq_left, exists_eq_left', eAttr, eInt, eNode, eDoc, eBool, he4]
      have hk' : k = d.nodes.length + 1 := by omega
      subst hk'
      rw [Nat.sub_self, upF] at hu
      exact ⟨Sub.refl _, by omega⟩
  · simp -dsimp -implicitDefEqProofs (disch := omega) only [↓vcOps_sp 12, ↓vcD_sp 12, VCA, pg_gl, ↓upd_none, Nat.reduceEqDiff, Nat.reduceBEq, Nat.reduceAdd, Nat.reduceSub, Nat.reduceMul, Nat.reduceLT, Nat.reduceLeDiff, ↓reduceIte, reduceCtorEq, rsOf, rootsOf, SOp.rd, SI.rd, SX.rd, rdL, rdO, rdP, okParts, eqCells, okEqCells, fillA, okFill, setAt, implies_true, forall_const, forall_eq, ne_eq, exists_eq_right_right, exists_eq_right, exists_eq_left, exists_eq_left', eAttr, eInt, eNode, eDoc, eBool, he4]
    rw [upF_top h1] at hu
    exact ⟨Sub.refl _, by omega⟩

/-- which have been seen -/
def SeenI (d : HDoc) (i k : Nat) (sn : List Bool) : Prop := sn.length = d.nodes.length ∧ ∀ j, j < d.nodes.length → (nth sn j = true ↔ (∃ i', i' < i ∧ (j : Int) ∈ (nth d.nodes i').kids) ∨ (j : Int) ∈ (nth d.nodes i).kids.take k)
def kidsAll (d : HDoc) : Int :=
  if fe d.nodes.length (kidsE d) ≠ 0 then fe d.nodes.length (kidsE d)
  else if fe d.nodes.length (parE d) ≠ 0 then fe d.nodes.length (parE d)
  else if (nd d 0).parent ≠ -1 then 3 else 0
theorem seen_zero (d : HDoc) : SeenI d 0 0 (List.replicate d.nodes.length false) := by
  refine ⟨by simp, fun j hj => ?_⟩
  have : nth (List.replicate d.nodes.length false) j = false := by simp [nth, List.getD_eq_getElem?_getD, List.getElem?_replicate, hj]
  rw [this]
  simp
theorem seen_next {d : HDoc} {i : Nat} {sn : List Bool} (h : SeenI d i (nth d.nodes i).kids.length sn) : SeenI d (i + 1) 0 sn := by
  refine ⟨h.1, fun j hj => ?_⟩
  rw [h.2 j hj, List.take_length]
  constructor
  · rintro (⟨i', h1, h2⟩ | h1)
    · exact .inl ⟨i', by omega, h2⟩
    · exact .inl ⟨i, by omega, h1⟩
  · rintro (⟨i', h1, h2⟩ | h1)
    · by_cases hi : i' = i
      · subst hi; exact .inr h2
      · exact .inl ⟨i', by omega, h2⟩
    · simp at h1
theorem seen_kid {d : HDoc} {i k : Nat} {sn : List Bool} (h : SeenI d i k sn) (hk : k < (nth d.nodes i).kids.length) (hd : inD d (nth (nth d.nodes i).kids k)) : SeenI d i (k + 1) (sn.set (nth (nth d.nodes i).kids k).toNat true) := by
  have hn := hd.nat
  refine ⟨by rw [List.length_set]; exact h.1, fun j hj => ?_⟩
  rw [nth_set _ _ _ _ (by rw [h.1]; exact hn.1), take_snoc hk, List.mem_append, List.mem_singleton]
  split
  · rename_i hj'
    subst hj'
    rw [hn.2]
    simp
  · rename_i hj'
    rw [h.2 j hj]
    constructor
    · rintro (h1 | h1)
      · exact .inl h1
      · exact .inr (.inl h1)
    · rintro (h1 | h1 | h1)
      · exact .inl h1
      · exact .inr h1
      · exact absurd (by omega) hj'
/-- seen is: in this list already, where all before was right -/
theorem seen_is {d : HDoc} {i k : Nat} {sn : List Bool} (h : SeenI d i k sn) (hi : i < d.nodes.length) (h0 : ∀ j, j < i → kidsE d j = 0) {c : Int} (hc : inD d c) (hp : (nd d c).parent = i) : nth sn c.toNat = true ↔ c ∈ (nth d.nodes i).kids.take k := by
  rw [h.2 _ hc.nat.1, hc.nat.2]
  constructor
  · rintro (⟨i', h1, h2⟩ | h1)
    · obtain ⟨q, hq, rfl⟩ := mem_nth h2
      have := fe_zero (h0 i' h1) q hq
      unfold kidE at this
      simp only at this
      split at this
      · omega
      · rename_i hn
        simp only [not_or, Classical.not_not] at hn
        omega
    · exact h1
  · exact .inr
/-- .. at the end -/
theorem seen_end {d : HDoc} {sn : List Bool} (h : SeenI d d.nodes.length 0 sn) (h0 : ∀ j, j < d.nodes.length → kidsE d j = 0) {i : Nat} (hi : i < d.nodes.length) : nth sn i = true ↔ (inD d (nth d.nodes i).parent ∧ (i : Int) ∈ (nd d (nth d.nodes i).parent).kids) := by
  rw [h.2 _ hi]
  constructor
  · rintro (⟨i', h1, h2⟩ | h1)
    · obtain ⟨q, hq, he⟩ := mem_nth h2
      have := fe_zero (h0 i' h1) q hq
      unfold kidE at this
      simp only [he] at this
      split at this
      · omega
      · rename_i hn
        simp only [not_or, Classical.not_not] at hn
        rw [nd_nat] at hn
        rw [hn.2.1, nd_nat]
        exact ⟨inD_nat.2 h1, h2⟩
    · simp at h1
  · intro ⟨h1, h2⟩
    exact .inl ⟨_, h1.nat.1, h2⟩
theorem eBool_set (sn : List Bool) (k : Nat) (b : Bool) : (sn.map eBool).set k [.bool b] = (sn.set k b).map eBool := by
  rw [List.map_set]; rfl
theorem kidE_par {d : HDoc} {i k : Nat} (h1 : ¬ inD d (nth (nth d.nodes i).kids k) ∨ (nd d (nth (nth d.nodes i).kids k)).parent ≠ i ∨ nth (nth d.nodes i).kids k ∈ (nth d.nodes i).kids.take k) : kidE d i k = 3 := by
  unfold kidE; simp only; rw [if_pos h1]
def c101 : SFun := ⟨(.seq (.reg [⟨(some 1), (.boxF 24 2 (.t 0)), none⟩, ⟨(some 2), (.mv (.c (.int .i64 (0)))), none⟩]) (.seq (.reg [⟨(some 10), (.fldA 0 (.t 1)), none⟩, ⟨(some 11), (.ld 1 false (.t 10)), none⟩, ⟨(some 12), (.len (.t 11)), none⟩, ⟨(some 13), (.mks 4 1 1 [(.bool false)] (.t 12) (.t 12)), none⟩, ⟨(some 3), (.mv (.t 13)), none⟩]) (.seq (.seq (.reg [⟨(some 14), (.fldA 0 (.t 1)), none⟩, ⟨(some 15), (.ld 1 false (.t 14)), none⟩, ⟨(some 16), (.len (.t 15)), none⟩, ⟨(some 17), (.mv (.c (.int .i64 (0)))), none⟩]) (.block 0 (.loop (.seq (.reg [⟨(some 18), (.bin .lss (.t 17) (.t 16)), none⟩]) (.seq (.cond (.t 18) .skip (.exit 0)) (.seq (.block 1 (.seq (.reg [⟨(some 19), (.mv (.t 17)), none⟩, ⟨(some 20), (.idxA 6 (.t 15) (.t 17)), none⟩, ⟨(some 21), (.ld 6 true (.t 20)), none⟩, ⟨(some 5), (.new 43 6 [(.int .i64 (0)), (.str []), .emp, (.str []), (.int .i64 (0)), .emp]), none⟩, ⟨(some 4), (.mv (.t 19)), none⟩, ⟨none, (.st 6 (.t 5) (.t 21)), none⟩]) (.seq (.reg [⟨(some 22), (.fldA 5 (.t 5)), none⟩, ⟨(some 23), (.ld 1 false (.t 22)), none⟩, ⟨(some 24), (.len (.t 23)), none⟩, ⟨(some 25), (.mv (.c (.int .i64 (0)))), none⟩]) (.block 2 (.loop (.seq (.reg [⟨(some 26), (.bin .lss (.t 25) (.t 24)), none⟩]) (.seq (.cond (.t 26) .skip (.exit 2)) (.seq (.block 3 (.seq (.reg [⟨(some 27), (.idxA 1 (.t 23) (.t 25)), none⟩, ⟨(some 28), (.ld 1 false (.t 27)), none⟩, ⟨(some 7), (.mv (.t 28)), none⟩]) (.seq (.block 4 (.seq (.reg [⟨(some 30), (.mv (.t 7)), none⟩, ⟨(some 31), (.bin .lss (.t 30) (.c (.int .i64 (0)))), none⟩, ⟨(some 32), (.mv (.t 31)), none⟩, ⟨(some 33), (.mv (.t 7)), (some (32, false))⟩, ⟨(some 34), (.mv (.t 3)), (some (32, false))⟩, ⟨(some 35), (.len (.t 34)), (some (32, false))⟩, ⟨(some 36), (.bin .geq (.t 33) (.t 35)), (some (32, false))⟩, ⟨(some 37), (.pick (.t 32) (.c (.bool true)) (.t 36)), none⟩, ⟨(some 38), (.mv (.t 37)), none⟩, ⟨(some 39), (.fldA 0 (.t 1)), (some (38, false))⟩, ⟨(some 40), (.ld 1 false (.t 39)), (some (38, false))⟩, ⟨(some 41), (.mv (.t 7)), (some (38, false))⟩, ⟨(some 42), (.idxA 6 (.t 40) (.t 41)), (some (38, false))⟩, ⟨(some 43), (.fldA 4 (.t 42)), (some (38, false))⟩, ⟨(some 44), (.ld 1 false (.t 43)), (some (38, false))⟩, ⟨(some 45), (.mv (.t 4)), (some (38, false))⟩, ⟨(some 46), (.bin .neq (.t 44) (.t 45)), (some (38, false))⟩, ⟨(some 47), (.pick (.t 38) (.c (.bool true)) (.t 46)), none⟩, ⟨(some 48), (.mv (.t 47)), none⟩, ⟨(some 49), (.mv (.t 3)), (some (48, false))⟩, ⟨(some 50), (.mv (.t 7)), (some (48, false))⟩, ⟨(some 51), (.idxA 1 (.t 49) (.t 50)), (some (48, false))⟩, ⟨(some 52), (.ld 1 false (.t 51)), (some (48, false))⟩, ⟨(some 53), (.pick (.t 48) (.c (.bool true)) (.t 52)), none⟩, ⟨(some 29), (.mv (.t 53)), none⟩]) (.cond (.t 29) (.seq (.reg [⟨(some 2), (.mv (.c (.int .i64 (3)))), none⟩]) .ret) (.seq (.reg [⟨(some 55), (.mv (.t 4)), none⟩, ⟨(some 56), (.bin .eql (.t 55) (.c (.int .i64 (0)))), none⟩, ⟨(some 57), (.mv (.t 56)), none⟩, ⟨(some 58), (.fldA 0 (.t 1)), (some (57, true))⟩, ⟨(some 59), (.ld 1 false (.t 58)), (some (57, true))⟩, ⟨(some 60), (.mv (.t 7)), (some (57, true))⟩, ⟨(some 61), (.idxA 6 (.t 59) (.t 60)), (some (57, true))⟩, ⟨(some 62), (.fldA 0 (.t 61)), (some (57, true))⟩, ⟨(some 63), (.ld 1 false (.t 62)), (some (57, true))⟩, ⟨(some 64), (.bin .eql (.t 63) (.c (.int .i64 (3)))), (some (57, true))⟩, ⟨(some 65), (.pick (.t 57) (.t 64) (.c (.bool false))), none⟩, ⟨(some 54), (.mv (.t 65)), none⟩]) (.cond (.t 54) (.seq (.reg [⟨(some 2), (.mv (.c (.int .i64 (7)))), none⟩]) .ret) .skip))))) (.reg [⟨(some 66), (.mv (.t 3)), none⟩, ⟨(some 67), (.mv (.t 7)), none⟩, ⟨(some 68), (.idxA 1 (.t 66) (.t 67)), none⟩, ⟨none, (.st 1 (.t 68) (.c (.bool true))), none⟩])))) (.reg [⟨(some 69), (.bin .add (.t 25) (.c (.int .i64 (1)))), none⟩, ⟨(some 25), (.mv (.t 69)), none⟩]))))))))) (.reg [⟨(some 70), (.bin .add (.t 17) (.c (.int .i64 (1)))), none⟩, ⟨(some 17), (.mv (.t 70)), none⟩]))))))) (.seq (.seq (.reg [⟨(some 71), (.fldA 0 (.t 1)), none⟩, ⟨(some 72), (.ld 1 false (.t 71)), none⟩, ⟨(some 73), (.len (.t 72)), none⟩, ⟨(some 74), (.mv (.c (.int .i64 (0)))), none⟩]) (.block 5 (.loop (.seq (.reg [⟨(some 75), (.bin .lss (.t 74) (.t 73)), none⟩]) (.seq (.cond (.t 75) .skip (.exit 5)) (.seq (.block 6 (.seq (.reg [⟨(some 76), (.mv (.t 74)), none⟩, ⟨(some 77), (.idxA 6 (.t 72) (.t 74)), none⟩, ⟨(some 78), (.ld 6 true (.t 77)), none⟩, ⟨(some 9), (.new 43 6 [(.int .i64 (0)), (.str []), .emp, (.str []), (.int .i64 (0)), .emp]), none⟩, ⟨(some 8), (.mv (.t 76)), none⟩, ⟨none, (.st 6 (.t 9) (.t 78)), none⟩]) (.seq (.reg [⟨(some 79), (.fldA 4 (.t 9)), none⟩, ⟨(some 80), (.ld 1 false (.t 79)), none⟩, ⟨(some 81), (.bin .neq (.t 80) (.c (.int .i64 (-1)))), none⟩, ⟨(some 82), (.mv (.t 81)), none⟩, ⟨(some 83), (.mv (.t 3)), (some (82, true))⟩, ⟨(some 84), (.mv (.t 8)), (some (82, true))⟩, ⟨(some 85), (.idxA 1 (.t 83) (.t 84)), (some (82, true))⟩, ⟨(some 86), (.ld 1 false (.t 85)), (some (82, true))⟩, ⟨(some 87), (.un .not (.t 86)), (some (82, true))⟩, ⟨(some 88), (.pick (.t 82) (.t 87) (.c (.bool false))), none⟩]) (.cond (.t 88) (.seq (.reg [⟨(some 2), (.mv (.c (.int .i64 (3)))), none⟩]) .ret) .skip)))) (.reg [⟨(some 89), (.bin .add (.t 74) (.c (.int .i64 (1)))), none⟩, ⟨(some 74), (.mv (.t 89)), none⟩]))))))) (.seq (.seq (.reg [⟨(some 90), (.fldA 0 (.t 1)), none⟩, ⟨(some 91), (.ld 1 false (.t 90)), none⟩, ⟨(some 92), (.idxA 6 (.t 91) (.c (.int .i64 (0)))), none⟩, ⟨(some 93), (.fldA 4 (.t 92)), none⟩, ⟨(some 94), (.ld 1 false (.t 93)), none⟩, ⟨(some 95), (.bin .neq (.t 94) (.c (.int .i64 (-1)))), none⟩]) (.cond (.t 95) (.seq (.reg [⟨(some 2), (.mv (.c (.int .i64 (3)))), none⟩]) .ret) .skip)) (.seq (.reg [⟨(some 2), (.mv (.c (.int .i64 (0)))), none⟩]) .ret)))))), [(.tmp 2)]⟩
theorem hc101 : toSF Tryd.prog {} Tryd.f101 = some c101 := by kernel_rfl
theorem hn101 : (Tryd.f101.name == "runtime.NumGoroutine") = false := by kernel_rfl
theorem kids_ok (d : HDoc) (sm : DocSm d) (hp : 0 < d.nodes.length) : PCalls (Pg G) 101 [.agg (eDoc d)] (aInt (kidsAll d)) := fun h => by
  have hl := sm.len
  refine dcalls_of_vc Tryd.func101 hn101 hc101 (by rw [Tryd.ntmps101]; simp) (by rw [Tryd.ntmps101]; decide) ?_
  simp -dsimp -implicitDefEqProofs (disch := omega) only [↓vcOps_sp 32, ↓vcD_sp 32, ↓vcOps_sp 38, ↓vcD_sp 38, ↓vcOps_sp 48, ↓vcD_sp 48, ↓vcOps_sp 57, ↓vcD_sp 57, ↓vcOps_sp 82, ↓vcD_sp 82, VCA, pg_gl, ↓upd_none, Nat.reduceEqDiff, Nat.reduceBEq, Nat.reduceAdd, Nat.reduceSub, Nat.reduceMul, Nat.reduceLT, Nat.reduceLeDiff, ↓reduceIte, reduceCtorEq, rsOf, rootsOf, SOp.rd, SI.rd, SX.rd, rdL, rdO, rdP, okParts, eqCells, okEqCells, fillA, okFill, setAt, implies_true, forall_const, forall_eq, ne_eq, exists_eq_right_right, exists_eq_right, exists_eq_left, exists_eq_left', eAttr, eInt, eNode, eDoc, eBool, c101, eDoc]
  refine ⟨by omega, by omega, by omega, by omega, fun r hr => ?_⟩
  have S0 : Sim.Sub h (upd h r (some ⟨4, 1, List.replicate d.nodes.length [.bool false]⟩)) := (Sub.refl h).upd hr
  refine LoopVC.intro (fun m e h' => ∃ (i : Nat) (sn : List Bool), i ≤ d.nodes.length ∧ m = d.nodes.length - i ∧ e 1 = .pin (eDoc d) ∧ e 3 = .osl r 1 0 d.nodes.length ∧ e 15 = sl eNode d.nodes ∧ e 16 = aInt d.nodes.length ∧ e 17 = aInt i ∧ Sim.Sub h h' ∧
      h' r = some ⟨4, 1, sn.map eBool⟩ ∧ SeenI d i 0 sn ∧ ∀ j, j < i → kidsE d j = 0) d.nodes.length ⟨0, List.replicate d.nodes.length false, by omega, by omega, rfl, rfl, rfl, rfl, rfl, S0, by simp [eBool], seen_zero d, by omega⟩ ?_
  rintro m e h' ⟨i, sn, hi, rfl, he1, he3, he15, he16, he17, S, hr', hS, hj⟩
  simp -dsimp -implicitDefEqProofs (disch := omega) only [↓vcOps_sp 32, ↓vcD_sp 32, ↓vcOps_sp 38, ↓vcD_sp 38, ↓vcOps_sp 48, ↓vcD_sp 48, ↓vcOps_sp 57, ↓vcD_sp 57, ↓vcOps_sp 82, ↓vcD_sp 82, VCA, pg_gl, ↓upd_none, Nat.reduceEqDiff, Nat.reduceBEq, Nat.reduceAdd, Nat.reduceSub, Nat.reduceMul, Nat.reduceLT, Nat.reduceLeDiff, ↓reduceIte, reduceCtorEq, rsOf, rootsOf, SOp.rd, SI.rd, SX.rd, rdL, rdO, rdP, okParts, eqCells, okEqCells, fillA, okFill, setAt, implies_true, forall_const, forall_eq, ne_eq, exists_eq_right_right, exists_eq_right, exists_eq_left, exists_eq_left', eAttr, eInt, eNode, eDoc, eBool, he1, he3, he15, he16, he17]
  refine Br.dec (fun hlt => ?_) (fun hge => ?_)
  · have hi' : i < d.nodes.length := by omega
    have smi := sm.nth i
    simp -dsimp -implicitDefEqProofs (disch := omega) only [↓vcOps_sp 32, ↓vcD_sp 32, ↓vcOps_sp 38, ↓vcD_sp 38, ↓vcOps_sp 48, ↓vcD_sp 48, ↓vcOps_sp 57, ↓vcD_sp 57, ↓vcOps_sp 82, ↓vcD_sp 82, VCA, pg_gl, ↓upd_none, Nat.reduceEqDiff, Nat.reduceBEq, Nat.reduceAdd, Nat.reduceSub, Nat.reduceMul, Nat.reduceLT, Nat.reduceLeDiff, ↓reduceIte, reduceCtorEq, rsOf, rootsOf, SOp.rd, SI.rd, SX.rd, rdL, rdO, rdP, okParts, eqCells, okEqCells, fillA, okFill, setAt, implies_true, forall_const, forall_eq, ne_eq, exists_eq_right_right, exists_eq_right, exists_eq_left, exists_eq_left', eAttr, eInt, eNode, eDoc, eBool, he1, he3, he15, he16, he17]
    refine ⟨by omega, fun rx hrx => ?_⟩
    have hne : r ≠ rx := fun e => by subst e; rw [hr'] at hrx; cases hrx
    have S1 := S.upd (x := some ⟨43, 6, [eNode (nth d.nodes i)]⟩) (S.none hrx)
    have hr1 : upd h' rx (some ⟨43, 6, [eNode (nth d.nodes i)]⟩) r = some ⟨4, 1, sn.map eBool⟩ := by rw [upd_ne _ _ hne]; exact hr'
    have kl := smi.kids
    refine LoopVC.intro (fun m e h' => ∃ (k : Nat) (sn : List Bool), k ≤ (nth d.nodes i).kids.length ∧ m = (nth d.nodes i).kids.length - k ∧ e 1 = .pin (eDoc d) ∧ e 3 = .osl r 1 0 d.nodes.length ∧ e 4 = aInt i ∧ e 15 = sl eNode d.nodes ∧ e 16 = aInt d.nodes.length ∧ e 17 = aInt i ∧
      e 23 = sl eInt (nth d.nodes i).kids ∧ e 24 = aInt (nth d.nodes i).kids.length ∧ e 25 = aInt k ∧ Sim.Sub h h' ∧ h' r = some ⟨4, 1, sn.map eBool⟩ ∧ SeenI d i k sn ∧ ∀ j, j < k → kidE d i j = 0) (nth d.nodes i).kids.length ⟨0, sn, by omega, by omega, he1, he3, rfl, he15, he16, he17, rfl, rfl, rfl, S1, hr1, hS, by omega⟩ ?_
    rintro m e h' ⟨k, sn, hk, rfl, he1, he3, he4, he15, he16, he17, he23, he24, he25, S, hr', hS, hk0⟩
    have hsl := hS.1
    simp -dsimp -implicitDefEqProofs (disch := omega) only [↓vcOps_sp 32, ↓vcD_sp 32, ↓vcOps_sp 38, ↓vcD_sp 38, ↓vcOps_sp 48, ↓vcD_sp 48, ↓vcOps_sp 57, ↓vcD_sp 57, ↓vcOps_sp 82, ↓vcD_sp 82, VCA, pg_gl, ↓upd_none, Nat.reduceEqDiff, Nat.reduceBEq, Nat.reduceAdd, Nat.reduceSub, Nat.reduceMul, Nat.reduceLT, Nat.reduceLeDiff, ↓reduceIte, reduceCtorEq, rsOf, rootsOf, SOp.rd, SI.rd, SX.rd, rdL, rdO, rdP, okParts, eqCells, okEqCells, fillA, okFill, setAt, implies_true, forall_const, forall_eq, ne_eq, exists_eq_right_right, exists_eq_right, exists_eq_left, exists_eq_left', eAttr, eInt, eNode, eDoc, eBool, he1, he3, he4, he15, he16, he17, he23, he24, he25]
    refine Br.dec (fun hlt => ?_) (fun hge => ?_)
    · have hk' : k < (nth d.nodes i).kids.length := by omega
      have bad : ∀ x : Int, x ≠ 0 → kidE d i k = x → kidsAll d = x := fun x hx he => by
        have h1 : kidsE d i = x := by unfold kidsE; rw [fe_some hk' hk0 (by rw [he]; exact hx), he]
        have h2 : fe d.nodes.length (kidsE d) = x := by rw [fe_some hi' hj (by rw [h1]; exact hx), h1]
        unfold kidsAll; rw [h2, if_pos hx]
      have ks : ∀ hc : inD d (nth (nth d.nodes i).kids k), (nd d (nth (nth d.nodes i).kids k)).parent = i → (nth sn (nth (nth d.nodes i).kids k).toNat = true ↔ nth (nth d.nodes i).kids k ∈ (nth d.nodes i).kids.take k) := fun hc hp => seen_is hS hi' hj hc hp
      have hsk := fun hc => seen_kid hS hk' hc
      have kdef : kidE d i k = if ¬ inD d (nth (nth d.nodes i).kids k) ∨ (nd d (nth (nth d.nodes i).kids k)).parent ≠ i ∨ nth (nth d.nodes i).kids k ∈ (nth d.nodes i).kids.take k then 3 else if i = 0 ∧ (nd d (nth (nth d.nodes i).kids k)).kind = 3 then 7 else 0 := rfl
      have inC : inD d (nth (nth d.nodes i).kids k) ↔ ¬ nth (nth d.nodes i).kids k < 0 ∧ ¬ (d.nodes.length : Int) ≤ nth (nth d.nodes i).kids k := by unfold inD; omega
      have ok0 : ∀ j, kidE d i k = 0 → j < k + 1 → kidE d i j = 0 := fun j h0 hj' => by
        by_cases hjk : j = k
        · subst hjk; exact h0
        · exact hk0 j (by omega)
      simp -dsimp -implicitDefEqProofs (disch := omega) only [↓vcOps_sp 32, ↓vcD_sp 32, ↓vcOps_sp 38, ↓vcD_sp 38, ↓vcOps_sp 48, ↓vcD_sp 48, ↓vcOps_sp 57, ↓vcD_sp 57, ↓vcOps_sp 82, ↓vcD_sp 82, VCA, pg_gl, ↓upd_none, Nat.reduceEqDiff, Nat.reduceBEq, Nat.reduceAdd, Nat.reduceSub, Nat.reduceMul, Nat.reduceLT, Nat.reduceLeDiff, ↓reduceIte, reduceCtorEq, rsOf, rootsOf, SOp.rd, SI.rd, SX.rd, rdL, rdO, rdP, okParts, eqCells, okEqCells, fillA, okFill, setAt, implies_true, forall_const, forall_eq, ne_eq, exists_eq_right_right, exists_eq_right, exists_eq_left, exists_eq_left', eAttr, eInt, eNode, eDoc, eBool, he1, he3, he4, he15, he16, he17, he23, he24, he25, eDoc, eNode, hr']
      repeat' (first | ((with_reducible refine Br.dec (fun _ => ?_) (fun _ => ?_)) <;> try (exfalso; omega)) | ((with_reducible refine Br.eq (fun _ => ?_) (fun _ => ?_)) <;> try (exfalso; omega)) | ((with_reducible refine Br.ne (fun _ => ?_) (fun _ => ?_)) <;> try (exfalso; omega)) | ((with_reducible refine brNdec (fun _ => ?_) (fun _ => ?_)) <;> try (exfalso; omega)) | ((with_reducible refine brNeq (fun _ => ?_) (fun _ => ?_)) <;> try (exfalso; omega)) | with_reducible refine Br.intro (fun _ => ?_) (fun _ => ?_) | (with_reducible refine And.intro ?_ ?_; · omega) | simp -dsimp -implicitDefEqProofs (disch := omega) only [↓vcOps_sp 32, ↓vcD_sp 32, ↓vcOps_sp 38, ↓vcD_sp 38, ↓vcOps_sp 48, ↓vcD_sp 48, ↓vcOps_sp 57, ↓vcD_sp 57, ↓vcOps_sp 82, ↓vcD_sp 82, VCA, pg_gl, ↓upd_none, Nat.reduceEqDiff, Nat.reduceBEq, Nat.reduceAdd, Nat.reduceSub, Nat.reduceMul, Nat.reduceLT, Nat.reduceLeDiff, ↓reduceIte, reduceCtorEq, rsOf, rootsOf, SOp.rd, SI.rd, SX.rd, rdL, rdO, rdP, okParts, eqCells, okEqCells, fillA, okFill, setAt, implies_true, forall_const, forall_eq, ne_eq, exists_eq_right_right, exists_eq_right, exists_eq_left, exists_eq_left', eAttr, eInt, eNode, eDoc, eBool, he1, he3, he4, he15, he16, he17, he23, he24, he25, eDoc, eNode, hr', eBool])
      · rename_i q
        exact (bad 3 (by decide) (by rw [kdef, if_pos (.inl fun hc => (inC.1 hc).1 q)])).symm
      · rename_i q
        exact (bad 3 (by decide) (by rw [kdef, if_pos (.inl fun hc => (inC.1 hc).2 q)])).symm
      · rename_i q
        exact (bad 3 (by decide) (by rw [kdef, if_pos (.inr (.inl q))])).symm
      · rename_i q3 q2 q1 q
        exact (bad 3 (by decide) (by rw [kdef, if_pos (.inr (.inr ((ks (inC.2 ⟨q3, q2⟩) q1).1 q)))])).symm
      · rename_i q5 q4 q3 q2 q1 q
        refine (bad 7 (by decide) ?_).symm
        rw [kdef, if_neg, if_pos ⟨by omega, q⟩]
        rintro (hh | hh | hh)
        · exact hh (inC.2 ⟨q5, q4⟩)
        · exact hh q3
        · rw [(ks (inC.2 ⟨q5, q4⟩) q3).2 hh] at q2; cases q2
      · rename_i q5 q4 q3 q2 q1 q
        have k0 : kidE d i k = 0 := by
          rw [kdef, if_neg, if_neg (fun hh => q hh.2)]
          rintro (hh | hh | hh)
          · exact hh (inC.2 ⟨q5, q4⟩)
          · exact hh q3
          · rw [(ks (inC.2 ⟨q5, q4⟩) q3).2 hh] at q2; cases q2
        refine ⟨_, by omega, k + 1, sn.set (nth (nth d.nodes i).kids k).toNat true, by omega, rfl, by omega, S.upd hr, ?_, hsk (inC.2 ⟨q5, q4⟩), fun j => ok0 j k0⟩
        rw [eBool_set]
      · rename_i q4 q3 q2 q1 q
        have k0 : kidE d i k = 0 := by
          rw [kdef, if_neg, if_neg (fun hh => q (by omega))]
          rintro (hh | hh | hh)
          · exact hh (inC.2 ⟨q4, q3⟩)
          · exact hh q2
          · rw [(ks (inC.2 ⟨q4, q3⟩) q2).2 hh] at q1; cases q1
        refine ⟨_, by omega, k + 1, sn.set (nth (nth d.nodes i).kids k).toNat true, by omega, rfl, by omega, S.upd hr, ?_, hsk (inC.2 ⟨q4, q3⟩), fun j => ok0 j k0⟩
        rw [eBool_set]
    · simp -dsimp -implicitDefEqProofs (disch := omega) only [↓vcOps_sp 32, ↓vcD_sp 32, ↓vcOps_sp 38, ↓vcD_sp 38, ↓vcOps_sp 48, ↓vcD_sp 48, ↓vcOps_sp 57, ↓vcD_sp 57, ↓vcOps_sp 82, ↓vcD_sp 82, VCA, pg_gl, ↓upd_none, Nat.reduceEqDiff, Nat.reduceBEq, Nat.reduceAdd, Nat.reduceSub, Nat.reduceMul, Nat.reduceLT, Nat.reduceLeDiff, ↓reduceIte, reduceCtorEq, rsOf, rootsOf, SOp.rd, SI.rd, SX.rd, rdL, rdO, rdP, okParts, eqCells, okEqCells, fillA, okFill, setAt, implies_true, forall_const, forall_eq, ne_eq, exists_eq_right_right, exists_eq_right, exists_eq_left, exists_eq_left', eAttr, eInt, eNode, eDoc, eBool, he1, he3, he4, he15, he16, he17, he23, he24, he25]
      obtain rfl : k = (nth d.nodes i).kids.length := by omega
      refine ⟨_, by omega, i + 1, sn, by omega, rfl, by omega, S, hr', seen_next hS, fun j hj' => ?_⟩
      by_cases hji : j = i
      · subst hji; exact fe_none hk0
      · exact hj j (by omega)
  · obtain rfl : i = d.nodes.length := by omega
    have hk0 : fe d.nodes.length (kidsE d) = 0 := fe_none hj
    have hsl := hS.1
    simp -dsimp -implicitDefEqProofs (disch := omega) only [↓vcOps_sp 32, ↓vcD_sp 32, ↓vcOps_sp 38, ↓vcD_sp 38, ↓vcOps_sp 48, ↓vcD_sp 48, ↓vcOps_sp 57, ↓vcD_sp 57, ↓vcOps_sp 82, ↓vcD_sp 82, VCA, pg_gl, ↓upd_none, Nat.reduceEqDiff, Nat.reduceBEq, Nat.reduceAdd, Nat.reduceSub, Nat.reduceMul, Nat.reduceLT, Nat.reduceLeDiff, ↓reduceIte, reduceCtorEq, rsOf, rootsOf, SOp.rd, SI.rd, SX.rd, rdL, rdO, rdP, okParts, eqCells, okEqCells, fillA, okFill, setAt, implies_true, forall_const, forall_eq, ne_eq, exists_eq_right_right, exists_eq_right, exists_eq_left, exists_eq_left', eAttr, eInt, eNode, eDoc, eBool, he1, he3, eDoc]
    refine LoopVC.intro (fun m e h' => ∃ i : Nat, i ≤ d.nodes.length ∧ m = d.nodes.length - i ∧ e 1 = .pin (eDoc d) ∧ e 3 = .osl r 1 0 d.nodes.length ∧ e 72 = sl eNode d.nodes ∧ e 73 = aInt d.nodes.length ∧ e 74 = aInt i ∧ Sim.Sub h h' ∧
      h' r = some ⟨4, 1, sn.map eBool⟩ ∧ ∀ j, j < i → parE d j = 0) d.nodes.length ⟨0, by omega, by omega, he1, he3, rfl, rfl, rfl, S, hr', by omega⟩ ?_
    rintro m e h' ⟨i, hi, rfl, he1, he3, he72, he73, he74, S, hr', hp0⟩
    simp -dsimp -implicitDefEqProofs (disch := omega) only [↓vcOps_sp 32, ↓vcD_sp 32, ↓vcOps_sp 38, ↓vcD_sp 38, ↓vcOps_sp 48, ↓vcD_sp 48, ↓vcOps_sp 57, ↓vcD_sp 57, ↓vcOps_sp 82, ↓vcD_sp 82, VCA, pg_gl, ↓upd_none, Nat.reduceEqDiff, Nat.reduceBEq, Nat.reduceAdd, Nat.reduceSub, Nat.reduceMul, Nat.reduceLT, Nat.reduceLeDiff, ↓reduceIte, reduceCtorEq, rsOf, rootsOf, SOp.rd, SI.rd, SX.rd, rdL, rdO, rdP, okParts, eqCells, okEqCells, fillA, okFill, setAt, implies_true, forall_const, forall_eq, ne_eq, exists_eq_right_right, exists_eq_right, exists_eq_left, exists_eq_left', eAttr, eInt, eNode, eDoc, eBool, he1, he3, he72, he73, he74]
    refine Br.dec (fun hlt => ?_) (fun hge => ?_)
    · have hi' : i < d.nodes.length := by omega
      have se := seen_end hS hj hi'
      have bad : parE d i = 3 → kidsAll d = 3 := fun h3 => by
        have h2 : fe d.nodes.length (parE d) = 3 := by rw [fe_some hi' hp0 (by rw [h3]; decide), h3]
        unfold kidsAll; rw [hk0, if_neg (by simp), h2]; rfl
      simp -dsimp -implicitDefEqProofs (disch := omega) only [↓vcOps_sp 32, ↓vcD_sp 32, ↓vcOps_sp 38, ↓vcD_sp 38, ↓vcOps_sp 48, ↓vcD_sp 48, ↓vcOps_sp 57, ↓vcD_sp 57, ↓vcOps_sp 82, ↓vcD_sp 82, VCA, pg_gl, ↓upd_none, Nat.reduceEqDiff, Nat.reduceBEq, Nat.reduceAdd, Nat.reduceSub, Nat.reduceMul, Nat.reduceLT, Nat.reduceLeDiff, ↓reduceIte, reduceCtorEq, rsOf, rootsOf, SOp.rd, SI.rd, SX.rd, rdL, rdO, rdP, okParts, eqCells, okEqCells, fillA, okFill, setAt, implies_true, forall_const, forall_eq, ne_eq, exists_eq_right_right, exists_eq_right, exists_eq_left, exists_eq_left', eAttr, eInt, eNode, eDoc, eBool, he1, he3, he72, he73, he74, eNode]
      refine ⟨by omega, fun rx hrx => ?_⟩
      have hne : r ≠ rx := fun e => by subst e; rw [hr'] at hrx; cases hrx
      have S1 := S.upd (x := some ⟨43, 6, [eNode (nth d.nodes i)]⟩) (S.none hrx)
      have hr1 : ∀ x, upd h' rx (some x) r = some ⟨4, 1, sn.map eBool⟩ := fun x => by rw [upd_ne _ _ hne]; exact hr'
      have pdef : parE d i = if (nth d.nodes i).parent ≠ -1 ∧ (¬ inD d (nth d.nodes i).parent ∨ (i : Int) ∉ (nd d (nth d.nodes i).parent).kids) then 3 else 0 := rfl
      have ok0 : parE d i = 0 → ∀ j, j < i + 1 → parE d j = 0 := fun h0 j hj' => by
        by_cases hji : j = i
        · subst hji; exact h0
        · exact hp0 j (by omega)
      repeat' (first | ((with_reducible refine Br.dec (fun _ => ?_) (fun _ => ?_)) <;> try (exfalso; omega)) | ((with_reducible refine Br.eq (fun _ => ?_) (fun _ => ?_)) <;> try (exfalso; omega)) | ((with_reducible refine Br.ne (fun _ => ?_) (fun _ => ?_)) <;> try (exfalso; omega)) | ((with_reducible refine brNdec (fun _ => ?_) (fun _ => ?_)) <;> try (exfalso; omega)) | ((with_reducible refine brNeq (fun _ => ?_) (fun _ => ?_)) <;> try (exfalso; omega)) | with_reducible refine Br.intro (fun _ => ?_) (fun _ => ?_) | (with_reducible refine And.intro ?_ ?_; · omega) | simp -dsimp -implicitDefEqProofs (disch := omega) only [↓vcOps_sp 32, ↓vcD_sp 32, ↓vcOps_sp 38, ↓vcD_sp 38, ↓vcOps_sp 48, ↓vcD_sp 48, ↓vcOps_sp 57, ↓vcD_sp 57, ↓vcOps_sp 82, ↓vcD_sp 82, VCA, pg_gl, ↓upd_none, Nat.reduceEqDiff, Nat.reduceBEq, Nat.reduceAdd, Nat.reduceSub, Nat.reduceMul, Nat.reduceLT, Nat.reduceLeDiff, ↓reduceIte, reduceCtorEq, rsOf, rootsOf, SOp.rd, SI.rd, SX.rd, rdL, rdO, rdP, okParts, eqCells, okEqCells, fillA, okFill, setAt, implies_true, forall_const, forall_eq, ne_eq, exists_eq_right_right, exists_eq_right, exists_eq_left, exists_eq_left', eAttr, eInt, eNode, eDoc, eBool, he1, he3, he72, he73, he74, eNode, hne, hr', eBool])
      · rename_i q1 q
        have hb := bad (by
          rw [pdef, if_pos]
          refine ⟨q1, ?_⟩
          rw [← Classical.not_and_iff_not_or_not, ← se]
          simpa using q)
        exact ⟨S1, by rw [hb]⟩
      · rename_i q1 q
        refine ⟨_, by omega, i + 1, by omega, rfl, by omega, S1, ok0 ?_⟩
        rw [pdef, if_neg]
        rintro ⟨_, hh⟩
        rw [← Classical.not_and_iff_not_or_not, ← se] at hh
        simp [hh] at q
      · rename_i q
        refine ⟨_, by omega, i + 1, by omega, rfl, by omega, S1, ok0 ?_⟩
        rw [pdef, if_neg (fun hh => hh.1 q)]
    · obtain rfl : i = d.nodes.length := by omega
      have hp1 : fe d.nodes.length (parE d) = 0 := fe_none hp0
      have e0 : nd d 0 = nth d.nodes 0 := nd_nat d 0
      have kd : kidsAll d = if (nth d.nodes 0).parent ≠ -1 then 3 else 0 := by
        unfold kidsAll; rw [hk0, if_neg (by simp), hp1, if_neg (by simp), e0]
      repeat' (first | ((with_reducible refine Br.dec (fun _ => ?_) (fun _ => ?_)) <;> try (exfalso; omega)) | ((with_reducible refine Br.eq (fun _ => ?_) (fun _ => ?_)) <;> try (exfalso; omega)) | ((with_reducible refine Br.ne (fun _ => ?_) (fun _ => ?_)) <;> try (exfalso; omega)) | ((with_reducible refine brNdec (fun _ => ?_) (fun _ => ?_)) <;> try (exfalso; omega)) | ((with_reducible refine brNeq (fun _ => ?_) (fun _ => ?_)) <;> try (exfalso; omega)) | with_reducible refine Br.intro (fun _ => ?_) (fun _ => ?_) | (with_reducible refine And.intro ?_ ?_; · omega) | simp -dsimp -implicitDefEqProofs (disch := omega) only [↓vcOps_sp 32, ↓vcD_sp 32, ↓vcOps_sp 38, ↓vcD_sp 38, ↓vcOps_sp 48, ↓vcD_sp 48, ↓vcOps_sp 57, ↓vcD_sp 57, ↓vcOps_sp 82, ↓vcD_sp 82, VCA, pg_gl, ↓upd_none, Nat.reduceEqDiff, Nat.reduceBEq, Nat.reduceAdd, Nat.reduceSub, Nat.reduceMul, Nat.reduceLT, Nat.reduceLeDiff, ↓reduceIte, reduceCtorEq, rsOf, rootsOf, SOp.rd, SI.rd, SX.rd, rdL, rdO, rdP, okParts, eqCells, okEqCells, fillA, okFill, setAt, implies_true, forall_const, forall_eq, ne_eq, exists_eq_right_right, exists_eq_right, exists_eq_left, exists_eq_left', eAttr, eInt, eNode, eDoc, eBool, he1, he3, he72, he73, he74, eDoc, eNode])
      · rename_i q
        rw [kd, if_pos q]
      · rename_i q
        rw [kd, if_neg (by simpa using q)]
theorem docE_kids (d : HDoc) : docE d = if 200 < d.nodes.length then 2 else if d.nodes.length = 0 then 3 else if fe d.nodes.length (headE d) ≠ 0 then fe d.nodes.length (headE d) else if kidsAll d ≠ 0 then kidsAll d else fe d.nodes.length (deepE d) := by
  unfold docE kidsAll
  by_cases h1 : fe d.nodes.length (kidsE d) ≠ 0
  · simp [h1]
  · by_cases h2 : fe d.nodes.length (parE d) ≠ 0
    · simp [h1, h2]
    · by_cases h3 : (nd d 0).parent ≠ -1 <;> simp [h1, h2, h3]
theorem kids_par {d : HDoc} (h : kidsAll d = 0) : ∀ n, inD d n → 0 ≤ (nd d n).parent → inD d (nd d n).parent := by
  intro n hn hp
  have h2 : fe d.nodes.length (parE d) = 0 := by
    unfold kidsAll at h
    split at h
    · contradiction
    · split at h
      · contradiction
      · rename_i hh; simpa using hh
  have := fe_zero h2 n.toNat hn.nat.1
  unfold parE at this
  simp only at this
  split at this
  · omega
  · rename_i hh
    have e : (nth d.nodes n.toNat) = nd d n := rfl
    rw [e] at hh
    simp only [not_and, not_or, Classical.not_not] at hh
    exact (hh (by omega)).1
def c52 : SFun := ⟨(.seq (.reg [⟨(some 1), (.boxF 24 2 (.t 0)), none⟩, ⟨(some 2), (.mv (.c (.int .i64 (0)))), none⟩]) (.seq (.block 0 (.seq (.reg [⟨(some 10), (.fldA 0 (.t 1)), none⟩, ⟨(some 11), (.ld 1 false (.t 10)), none⟩, ⟨(some 12), (.len (.t 11)), none⟩, ⟨(some 13), (.bin .gtr (.t 12) (.c (.int .i64 (200)))), none⟩, ⟨(some 9), (.mv (.t 13)), none⟩]) (.cond (.t 9) (.seq (.reg [⟨(some 2), (.mv (.c (.int .i64 (2)))), none⟩]) .ret) (.seq (.reg [⟨(some 15), (.fldA 0 (.t 1)), none⟩, ⟨(some 16), (.ld 1 false (.t 15)), none⟩, ⟨(some 17), (.len (.t 16)), none⟩, ⟨(some 18), (.bin .eql (.t 17) (.c (.int .i64 (0)))), none⟩, ⟨(some 14), (.mv (.t 18)), none⟩]) (.cond (.t 14) (.seq (.reg [⟨(some 2), (.mv (.c (.int .i64 (3)))), none⟩]) .ret) .skip))))) (.seq (.seq (.reg [⟨(some 19), (.fldA 0 (.t 1)), none⟩, ⟨(some 20), (.ld 1 false (.t 19)), none⟩, ⟨(some 21), (.len (.t 20)), none⟩, ⟨(some 22), (.mv (.c (.int .i64 (0)))), none⟩]) (.block 1 (.loop (.seq (.reg [⟨(some 23), (.bin .lss (.t 22) (.t 21)), none⟩]) (.seq (.cond (.t 23) .skip (.exit 1)) (.seq (.block 2 (.seq (.reg [⟨(some 24), (.mv (.t 22)), none⟩, ⟨(some 25), (.idxA 6 (.t 20) (.t 22)), none⟩, ⟨(some 26), (.ld 6 true (.t 25)), none⟩, ⟨(some 4), (.new 43 6 [(.int .i64 (0)), (.str []), .emp, (.str []), (.int .i64 (0)), .emp]), none⟩, ⟨(some 3), (.mv (.t 24)), none⟩, ⟨none, (.st 6 (.t 4) (.t 26)), none⟩]) (.seq (.seq (.reg [⟨(some 27), (.fldA 0 (.t 4)), none⟩, ⟨(some 28), (.ld 1 false (.t 27)), none⟩, ⟨(some 29), (.bin .eql (.t 28) (.c (.int .i64 (1)))), none⟩, ⟨(some 30), (.mv (.t 3)), none⟩, ⟨(some 31), (.bin .eql (.t 30) (.c (.int .i64 (0)))), none⟩, ⟨(some 32), (.eqb true (.t 29) (.t 31)), none⟩]) (.cond (.t 32) (.seq (.reg [⟨(some 2), (.mv (.c (.int .i64 (3)))), none⟩]) .ret) .skip)) (.seq (.reg [⟨(some 33), (.ld 6 true (.t 4)), none⟩, ⟨(some 34), (.pcall 100 [(.t 33)]), none⟩, ⟨(some 5), (.mv (.t 34)), none⟩]) (.seq (.reg [⟨(some 35), (.mv (.t 5)), none⟩, ⟨(some 36), (.bin .neq (.t 35) (.c (.int .i64 (0)))), none⟩]) (.cond (.t 36) (.seq (.reg [⟨(some 37), (.mv (.t 5)), none⟩, ⟨(some 2), (.mv (.t 37)), none⟩]) .ret) .skip)))))) (.reg [⟨(some 38), (.bin .add (.t 22) (.c (.int .i64 (1)))), none⟩, ⟨(some 22), (.mv (.t 38)), none⟩]))))))) (.seq (.seq (.reg [⟨(some 39), (.ld 2 true (.t 1)), none⟩, ⟨(some 40), (.pcall 101 [(.t 39)]), none⟩, ⟨(some 6), (.mv (.t 40)), none⟩]) (.seq (.reg [⟨(some 41), (.mv (.t 6)), none⟩, ⟨(some 42), (.bin .neq (.t 41) (.c (.int .i64 (0)))), none⟩]) (.cond (.t 42) (.seq (.reg [⟨(some 43), (.mv (.t 6)), none⟩, ⟨(some 2), (.mv (.t 43)), none⟩]) .ret) .skip))) (.seq (.seq (.reg [⟨(some 44), (.fldA 0 (.t 1)), none⟩, ⟨(some 45), (.ld 1 false (.t 44)), none⟩, ⟨(some 46), (.len (.t 45)), none⟩, ⟨(some 47), (.mv (.c (.int .i64 (0)))), none⟩]) (.block 3 (.loop (.seq (.reg [⟨(some 48), (.bin .lss (.t 47) (.t 46)), none⟩]) (.seq (.cond (.t 48) .skip (.exit 3)) (.seq (.block 4 (.seq (.reg [⟨(some 49), (.mv (.t 47)), none⟩, ⟨(some 7), (.mv (.t 49)), none⟩]) (.seq (.reg [⟨(some 50), (.ld 2 true (.t 1)), none⟩, ⟨(some 51), (.mv (.t 7)), none⟩, ⟨(some 52), (.pcall 102 [(.t 50), (.t 51)]), none⟩, ⟨(some 8), (.mv (.t 52)), none⟩]) (.block 5 (.seq (.reg [⟨(some 54), (.mv (.t 8)), none⟩, ⟨(some 55), (.fldA 0 (.t 1)), none⟩, ⟨(some 56), (.ld 1 false (.t 55)), none⟩, ⟨(some 57), (.len (.t 56)), none⟩, ⟨(some 58), (.bin .gtr (.t 54) (.t 57)), none⟩, ⟨(some 53), (.mv (.t 58)), none⟩]) (.cond (.t 53) (.seq (.reg [⟨(some 2), (.mv (.c (.int .i64 (8)))), none⟩]) .ret) (.seq (.reg [⟨(some 60), (.mv (.t 8)), none⟩, ⟨(some 61), (.bin .gtr (.t 60) (.c (.int .i64 (40)))), none⟩, ⟨(some 59), (.mv (.t 61)), none⟩]) (.cond (.t 59) (.seq (.reg [⟨(some 2), (.mv (.c (.int .i64 (2)))), none⟩]) .ret) .skip)))))))) (.reg [⟨(some 62), (.bin .add (.t 47) (.c (.int .i64 (1)))), none⟩, ⟨(some 47), (.mv (.t 62)), none⟩]))))))) (.seq (.reg [⟨(some 2), (.mv (.c (.int .i64 (0)))), none⟩]) .ret)))))), [(.tmp 2)]⟩
theorem hc52 : toSF Tryd.prog {pure := [100, 101, 102]} Tryd.f52 = some c52 := by kernel_rfl
theorem hn52 : (Tryd.f52.name == "runtime.NumGoroutine") = false := by kernel_rfl
theorem check_ok (d : HDoc) (sm : DocSm d) : PCalls (Pg G) 52 [.agg (eDoc d)] (aInt (docE d)) := fun h => by
  have hl := sm.len
  rw [docE_kids]
  refine dcalls_of_vc Tryd.func52 hn52 hc52 (by rw [Tryd.ntmps52]; simp) (by rw [Tryd.ntmps52]; decide) ?_
  simp -dsimp -implicitDefEqProofs (disch := omega) only [VCA, pg_gl, ↓upd_none, Nat.reduceEqDiff, Nat.reduceBEq, Nat.reduceAdd, Nat.reduceSub, Nat.reduceMul, Nat.reduceLT, Nat.reduceLeDiff, ↓reduceIte, reduceCtorEq, rsOf, rootsOf, SOp.rd, SI.rd, SX.rd, rdL, rdO, rdP, okParts, eqCells, okEqCells, fillA, okFill, setAt, implies_true, forall_const, forall_eq, ne_eq, exists_eq_right_right, exists_eq_right, exists_eq_left, exists_eq_left', eAttr, eInt, eNode, eDoc, eBool, c52, eDoc]
  refine Br.dec (fun h1 => ?_) (fun h1 => ?_)
  · rw [if_pos (by omega)]
    simp -dsimp -implicitDefEqProofs (disch := omega) only [VCA, pg_gl, ↓upd_none, Nat.reduceEqDiff, Nat.reduceBEq, Nat.reduceAdd, Nat.reduceSub, Nat.reduceMul, Nat.reduceLT, Nat.reduceLeDiff, ↓reduceIte, reduceCtorEq, rsOf, rootsOf, SOp.rd, SI.rd, SX.rd, rdL, rdO, rdP, okParts, eqCells, okEqCells, fillA, okFill, setAt, implies_true, forall_const, forall_eq, ne_eq, exists_eq_right_right, exists_eq_right, exists_eq_left, exists_eq_left', eAttr, eInt, eNode, eDoc, eBool]
    exact Sub.refl _
  · rw [if_neg (by omega)]
    simp -dsimp -implicitDefEqProofs (disch := omega) only [VCA, pg_gl, ↓upd_none, Nat.reduceEqDiff, Nat.reduceBEq, Nat.reduceAdd, Nat.reduceSub, Nat.reduceMul, Nat.reduceLT, Nat.reduceLeDiff, ↓reduceIte, reduceCtorEq, rsOf, rootsOf, SOp.rd, SI.rd, SX.rd, rdL, rdO, rdP, okParts, eqCells, okEqCells, fillA, okFill, setAt, implies_true, forall_const, forall_eq, ne_eq, exists_eq_right_right, exists_eq_right, exists_eq_left, exists_eq_left', eAttr, eInt, eNode, eDoc, eBool]
    refine Br.eq (fun h2 => ?_) (fun h2 => ?_)
    · rw [if_pos (by omega)]
      simp -dsimp -implicitDefEqProofs (disch := omega) only [VCA, pg_gl, ↓upd_none, Nat.reduceEqDiff, Nat.reduceBEq, Nat.reduceAdd, Nat.reduceSub, Nat.reduceMul, Nat.reduceLT, Nat.reduceLeDiff, ↓reduceIte, reduceCtorEq, rsOf, rootsOf, SOp.rd, SI.rd, SX.rd, rdL, rdO, rdP, okParts, eqCells, okEqCells, fillA, okFill, setAt, implies_true, forall_const, forall_eq, ne_eq, exists_eq_right_right, exists_eq_right, exists_eq_left, exists_eq_left', eAttr, eInt, eNode, eDoc, eBool]
      exact Sub.refl _
    · rw [if_neg (by omega)]
      simp -dsimp -implicitDefEqProofs (disch := omega) only [VCA, pg_gl, ↓upd_none, Nat.reduceEqDiff, Nat.reduceBEq, Nat.reduceAdd, Nat.reduceSub, Nat.reduceMul, Nat.reduceLT, Nat.reduceLeDiff, ↓reduceIte, reduceCtorEq, rsOf, rootsOf, SOp.rd, SI.rd, SX.rd, rdL, rdO, rdP, okParts, eqCells, okEqCells, fillA, okFill, setAt, implies_true, forall_const, forall_eq, ne_eq, exists_eq_right_right, exists_eq_right, exists_eq_left, exists_eq_left', eAttr, eInt, eNode, eDoc, eBool]
      refine LoopVC.intro (fun m e h' => ∃ i : Nat, i ≤ d.nodes.length ∧ m = d.nodes.length - i ∧ e 1 = .pin (eDoc d) ∧ e 20 = sl eNode d.nodes ∧ e 21 = aInt d.nodes.length ∧ e 22 = aInt i ∧ Sim.Sub h h' ∧ ∀ j, j < i → headE d j = 0) d.nodes.length ⟨0, by omega, by omega, rfl, rfl, rfl, rfl, Sub.refl _, by omega⟩ ?_
      rintro m e h' ⟨i, hi, rfl, he1, he20, he21, he22, S, hj⟩
      simp -dsimp -implicitDefEqProofs (disch := omega) only [VCA, pg_gl, ↓upd_none, Nat.reduceEqDiff, Nat.reduceBEq, Nat.reduceAdd, Nat.reduceSub, Nat.reduceMul, Nat.reduceLT, Nat.reduceLeDiff, ↓reduceIte, reduceCtorEq, rsOf, rootsOf, SOp.rd, SI.rd, SX.rd, rdL, rdO, rdP, okParts, eqCells, okEqCells, fillA, okFill, setAt, implies_true, forall_const, forall_eq, ne_eq, exists_eq_right_right, exists_eq_right, exists_eq_left, exists_eq_left', eAttr, eInt, eNode, eDoc, eBool, he1, he20, he21, he22]
      refine Br.dec (fun hlt => ?_) (fun hge => ?_)
      · have hi' : i < d.nodes.length := by omega
        have hO : PCalls (Pg G) 100 [.agg [aInt (nth d.nodes i).kind, .str (nth d.nodes i).name, sl eAttr (nth d.nodes i).attrs, .str (nth d.nodes i).text, aInt (nth d.nodes i).parent, sl eInt (nth d.nodes i).kids]] (aInt (nodeE (nth d.nodes i))) := one_ok' _ (sm.nth i)
        simp -dsimp -implicitDefEqProofs (disch := omega) only [VCA, pg_gl, ↓upd_none, Nat.reduceEqDiff, Nat.reduceBEq, Nat.reduceAdd, Nat.reduceSub, Nat.reduceMul, Nat.reduceLT, Nat.reduceLeDiff, ↓reduceIte, reduceCtorEq, rsOf, rootsOf, SOp.rd, SI.rd, SX.rd, rdL, rdO, rdP, okParts, eqCells, okEqCells, fillA, okFill, setAt, implies_true, forall_const, forall_eq, ne_eq, exists_eq_right_right, exists_eq_right, exists_eq_left, exists_eq_left', eAttr, eInt, eNode, eDoc, eBool, he1, he20, he21, he22, eNode]
        refine ⟨by omega, fun rx hrx => ?_⟩
        have S1 := S.upd (x := some ⟨43, 6, [eNode (nth d.nodes i)]⟩) (S.none hrx)
        have hdef : headE d i = if ¬ ((nth d.nodes i).kind = 1 ↔ i = 0) then 3 else nodeE (nth d.nodes i) := rfl
        have bad : ∀ x : Int, x ≠ 0 → headE d i = x → fe d.nodes.length (headE d) = x := fun x hx he => by rw [fe_some hi' hj (by rw [he]; exact hx), he]
        have bq : (((nth d.nodes i).kind == 1) == ((i : Int) == 0)) = true ↔ ((nth d.nodes i).kind = 1 ↔ i = 0) := by
          rw [beq_iff_eq, Bool.eq_iff_iff, beq_iff_eq, beq_iff_eq]; omega
        repeat' (first | ((with_reducible refine Br.dec (fun _ => ?_) (fun _ => ?_)) <;> try (exfalso; omega)) | ((with_reducible refine Br.eq (fun _ => ?_) (fun _ => ?_)) <;> try (exfalso; omega)) | ((with_reducible refine Br.ne (fun _ => ?_) (fun _ => ?_)) <;> try (exfalso; omega)) | ((with_reducible refine brNdec (fun _ => ?_) (fun _ => ?_)) <;> try (exfalso; omega)) | ((with_reducible refine brNeq (fun _ => ?_) (fun _ => ?_)) <;> try (exfalso; omega)) | with_reducible refine Br.intro (fun _ => ?_) (fun _ => ?_) | (with_reducible apply pcallE.of; · exact hO) | (with_reducible refine And.intro ?_ ?_; · omega) | simp -dsimp -implicitDefEqProofs (disch := omega) only [VCA, pg_gl, ↓upd_none, Nat.reduceEqDiff, Nat.reduceBEq, Nat.reduceAdd, Nat.reduceSub, Nat.reduceMul, Nat.reduceLT, Nat.reduceLeDiff, ↓reduceIte, reduceCtorEq, rsOf, rootsOf, SOp.rd, SI.rd, SX.rd, rdL, rdO, rdP, okParts, eqCells, okEqCells, fillA, okFill, setAt, implies_true, forall_const, forall_eq, ne_eq, exists_eq_right_right, exists_eq_right, exists_eq_left, exists_eq_left', eAttr, eInt, eNode, eDoc, eBool, he1, he20, he21, he22, eNode])
        · rename_i q
          have q : ¬ ((nth d.nodes i).kind = 1 ↔ i = 0) := fun hh => q (beq_iff_eq.1 (bq.2 hh))
          have := bad 3 (by decide) (by rw [hdef, if_pos q])
          exact ⟨S1, by rw [this]; rfl⟩
        · rename_i q1 q
          have q1 : ¬ ¬ ((nth d.nodes i).kind = 1 ↔ i = 0) := fun hh => hh (bq.1 (beq_iff_eq.2 q1))
          have := bad _ q (by rw [hdef, if_neg q1])
          exact ⟨S1, by rw [this, if_pos q]⟩
        · rename_i q1 q
          have q1 : ¬ ¬ ((nth d.nodes i).kind = 1 ↔ i = 0) := fun hh => hh (bq.1 (beq_iff_eq.2 q1))
          refine ⟨_, by omega, i + 1, by omega, rfl, by omega, S1, fun j hj' => ?_⟩
          by_cases hji : j = i
          · subst hji; rw [hdef, if_neg q1, q]
          · exact hj j (by omega)
      · obtain rfl : i = d.nodes.length := by omega
        rw [if_neg (by rw [fe_none hj]; simp)]
        have hK : PCalls (Pg G) 101 [.agg [sl eNode d.nodes, .bool d.quirks]] (aInt (kidsAll d)) := kids_ok d sm (by omega)
        simp -dsimp -implicitDefEqProofs (disch := omega) only [VCA, pg_gl, ↓upd_none, Nat.reduceEqDiff, Nat.reduceBEq, Nat.reduceAdd, Nat.reduceSub, Nat.reduceMul, Nat.reduceLT, Nat.reduceLeDiff, ↓reduceIte, reduceCtorEq, rsOf, rootsOf, SOp.rd, SI.rd, SX.rd, rdL, rdO, rdP, okParts, eqCells, okEqCells, fillA, okFill, setAt, implies_true, forall_const, forall_eq, ne_eq, exists_eq_right_right, exists_eq_right, exists_eq_left, exists_eq_left', eAttr, eInt, eNode, eDoc, eBool, he1, eDoc]
        refine pcallE.of (hK) ?_; simp -dsimp -implicitDefEqProofs (disch := omega) only [VCA, pg_gl, ↓upd_none, Nat.reduceEqDiff, Nat.reduceBEq, Nat.reduceAdd, Nat.reduceSub, Nat.reduceMul, Nat.reduceLT, Nat.reduceLeDiff, ↓reduceIte, reduceCtorEq, rsOf, rootsOf, SOp.rd, SI.rd, SX.rd, rdL, rdO, rdP, okParts, eqCells, okEqCells, fillA, okFill, setAt, implies_true, forall_const, forall_eq, ne_eq, exists_eq_right_right, exists_eq_right, exists_eq_left, exists_eq_left', eAttr, eInt, eNode, eDoc, eBool, he1, eDoc]
        refine Br.ne (fun h3 => ?_) (fun h3 => ?_)
        · simp -dsimp -implicitDefEqProofs (disch := omega) only [VCA, pg_gl, ↓upd_none, Nat.reduceEqDiff, Nat.reduceBEq, Nat.reduceAdd, Nat.reduceSub, Nat.reduceMul, Nat.reduceLT, Nat.reduceLeDiff, ↓reduceIte, reduceCtorEq, rsOf, rootsOf, SOp.rd, SI.rd, SX.rd, rdL, rdO, rdP, okParts, eqCells, okEqCells, fillA, okFill, setAt, implies_true, forall_const, forall_eq, ne_eq, exists_eq_right_right, exists_eq_right, exists_eq_left, exists_eq_left', eAttr, eInt, eNode, eDoc, eBool]
          exact ⟨S, by rw [if_pos h3]⟩
        · rw [if_neg (by simpa using h3)]
          have hP := kids_par h3
          simp -dsimp -implicitDefEqProofs (disch := omega) only [VCA, pg_gl, ↓upd_none, Nat.reduceEqDiff, Nat.reduceBEq, Nat.reduceAdd, Nat.reduceSub, Nat.reduceMul, Nat.reduceLT, Nat.reduceLeDiff, ↓reduceIte, reduceCtorEq, rsOf, rootsOf, SOp.rd, SI.rd, SX.rd, rdL, rdO, rdP, okParts, eqCells, okEqCells, fillA, okFill, setAt, implies_true, forall_const, forall_eq, ne_eq, exists_eq_right_right, exists_eq_right, exists_eq_left, exists_eq_left', eAttr, eInt, eNode, eDoc, eBool, he1, eDoc]
          refine LoopVC.intro (fun m e h' => ∃ i : Nat, i ≤ d.nodes.length ∧ m = d.nodes.length - i ∧ e 1 = .pin (eDoc d) ∧ e 46 = aInt d.nodes.length ∧ e 47 = aInt i ∧ Sim.Sub h h' ∧ ∀ j, j < i → deepE d j = 0) d.nodes.length ⟨0, by omega, by omega, he1, rfl, rfl, S, by omega⟩ ?_
          rintro m e h' ⟨i, hi, rfl, he1, he46, he47, S, hj⟩
          simp -dsimp -implicitDefEqProofs (disch := omega) only [VCA, pg_gl, ↓upd_none, Nat.reduceEqDiff, Nat.reduceBEq, Nat.reduceAdd, Nat.reduceSub, Nat.reduceMul, Nat.reduceLT, Nat.reduceLeDiff, ↓reduceIte, reduceCtorEq, rsOf, rootsOf, SOp.rd, SI.rd, SX.rd, rdL, rdO, rdP, okParts, eqCells, okEqCells, fillA, okFill, setAt, implies_true, forall_const, forall_eq, ne_eq, exists_eq_right_right, exists_eq_right, exists_eq_left, exists_eq_left', eAttr, eInt, eNode, eDoc, eBool, he1, he46, he47]
          refine Br.dec (fun hlt => ?_) (fun hge => ?_)
          · have hi' : i < d.nodes.length := by omega
            have hU : PCalls (Pg G) 102 [.agg [sl eNode d.nodes, .bool d.quirks], aInt i] (aInt (up d i)) := up_ok d sm hP i (inD_nat.2 hi')
            have bad : ∀ x : Int, x ≠ 0 → deepE d i = x → fe d.nodes.length (deepE d) = x := fun x hx he => by rw [fe_some hi' hj (by rw [he]; exact hx), he]
            have ddef : deepE d i = if d.nodes.length < up d i then 8 else if 40 < up d i then 2 else 0 := rfl
            simp -dsimp -implicitDefEqProofs (disch := omega) only [VCA, pg_gl, ↓upd_none, Nat.reduceEqDiff, Nat.reduceBEq, Nat.reduceAdd, Nat.reduceSub, Nat.reduceMul, Nat.reduceLT, Nat.reduceLeDiff, ↓reduceIte, reduceCtorEq, rsOf, rootsOf, SOp.rd, SI.rd, SX.rd, rdL, rdO, rdP, okParts, eqCells, okEqCells, fillA, okFill, setAt, implies_true, forall_const, forall_eq, ne_eq, exists_eq_right_right, exists_eq_right, exists_eq_left, exists_eq_left', eAttr, eInt, eNode, eDoc, eBool, he1, he46, he47, eDoc]
            repeat' (first | ((with_reducible refine Br.dec (fun _ => ?_) (fun _ => ?_)) <;> try (exfalso; omega)) | ((with_reducible refine Br.eq (fun _ => ?_) (fun _ => ?_)) <;> try (exfalso; omega)) | ((with_reducible refine Br.ne (fun _ => ?_) (fun _ => ?_)) <;> try (exfalso; omega)) | ((with_reducible refine brNdec (fun _ => ?_) (fun _ => ?_)) <;> try (exfalso; omega)) | ((with_reducible refine brNeq (fun _ => ?_) (fun _ => ?_)) <;> try (exfalso; omega)) | with_reducible refine Br.intro (fun _ => ?_) (fun _ => ?_) | (with_reducible apply pcallE.of; · exact hU) | (with_reducible refine And.intro ?_ ?_; · omega) | simp -dsimp -implicitDefEqProofs (disch := omega) only [VCA, pg_gl, ↓upd_none, Nat.reduceEqDiff, Nat.reduceBEq, Nat.reduceAdd, Nat.reduceSub, Nat.reduceMul, Nat.reduceLT, Nat.reduceLeDiff, ↓reduceIte, reduceCtorEq, rsOf, rootsOf, SOp.rd, SI.rd, SX.rd, rdL, rdO, rdP, okParts, eqCells, okEqCells, fillA, okFill, setAt, implies_true, forall_const, forall_eq, ne_eq, exists_eq_right_right, exists_eq_right, exists_eq_left, exists_eq_left', eAttr, eInt, eNode, eDoc, eBool, he1, he46, he47, eDoc])
            · exact (bad 8 (by decide) (by rw [ddef, if_pos (by omega)])).symm
            · exact (bad 2 (by decide) (by rw [ddef, if_neg (by omega), if_pos (by omega)])).symm
            · refine ⟨_, by omega, i + 1, by omega, rfl, by omega, S, fun j hj' => ?_⟩
              by_cases hji : j = i
              · subst hji; rw [ddef, if_neg (by omega), if_neg (by omega)]
              · exact hj j (by omega)
          · obtain rfl : i = d.nodes.length := by omega
            simp -dsimp -implicitDefEqProofs (disch := omega) only [VCA, pg_gl, ↓upd_none, Nat.reduceEqDiff, Nat.reduceBEq, Nat.reduceAdd, Nat.reduceSub, Nat.reduceMul, Nat.reduceLT, Nat.reduceLeDiff, ↓reduceIte, reduceCtorEq, rsOf, rootsOf, SOp.rd, SI.rd, SX.rd, rdL, rdO, rdP, okParts, eqCells, okEqCells, fillA, okFill, setAt, implies_true, forall_const, forall_eq, ne_eq, exists_eq_right_right, exists_eq_right, exists_eq_left, exists_eq_left', eAttr, eInt, eNode, eDoc, eBool]
            exact ⟨S, (fe_none hj).symm⟩
end Go.Proofs.K
