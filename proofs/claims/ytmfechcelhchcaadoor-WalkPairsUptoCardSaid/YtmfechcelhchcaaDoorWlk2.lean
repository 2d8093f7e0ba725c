/- Ways through a tree: contracts. -/
import Derived.Test.YtmfechcelhchcaaDoorWlk1
import Derived.Test.YtmfechcelhchcaaDoorDom6
set_option linter.unusedSimpArgs false
set_option linter.unusedVariables false
namespace Go.Proofs.K
open Go Go.Sim Go.Proofs
variable {G : Glob}

def c111 : SFun := ⟨(.seq (.reg [⟨(some 4), (.mv (.t 0)), none⟩, ⟨(some 5), (.len (.t 4)), none⟩, ⟨(some 6), (.bin .sub (.t 5) (.c (.int .i64 (1)))), none⟩, ⟨(some 2), (.mv (.c (.int .i64 (0)))), none⟩, ⟨(some 3), (.mv (.t 6)), none⟩]) (.block 0 (.loop (.seq (.seq (.reg [⟨(some 7), (.mv (.t 2)), none⟩, ⟨(some 8), (.mv (.t 3)), none⟩, ⟨(some 9), (.bin .lss (.t 7) (.t 8)), none⟩]) (.cond (.t 9) .skip (.exit 0))) (.seq (.block 1 (.dreg [(⟨(some 14), (.mv (.t 0)), none⟩, none), (⟨(some 15), (.mv (.t 2)), none⟩, none), (⟨(some 16), (.mv (.t 0)), none⟩, none), (⟨(some 17), (.mv (.t 3)), none⟩, none), (⟨(some 18), (.mv (.t 0)), none⟩, none), (⟨(some 19), (.mv (.t 3)), none⟩, none), (⟨(some 20), (.idxA 1 (.t 18) (.t 19)), none⟩, none), (⟨(some 21), (.ld 1 false (.t 20)), none⟩, none), (⟨(some 22), (.mv (.t 0)), none⟩, none), (⟨(some 23), (.mv (.t 2)), none⟩, none), (⟨(some 24), (.idxA 1 (.t 22) (.t 23)), none⟩, none), (⟨(some 25), (.ld 1 false (.t 24)), none⟩, none), (⟨(some 26), (.idxA 1 (.t 14) (.t 15)), none⟩, none), (⟨none, (.st 1 (.t 26) (.t 21)), none⟩, (some [21, 25])), (⟨(some 27), (.idxA 1 (.t 16) (.t 17)), none⟩, none), (⟨none, (.st 1 (.t 27) (.t 25)), none⟩, (some [21, 25]))])) (.reg [⟨(some 10), (.mv (.t 2)), none⟩, ⟨(some 11), (.bin .add (.t 10) (.c (.int .i64 (1)))), none⟩, ⟨(some 12), (.mv (.t 3)), none⟩, ⟨(some 13), (.bin .sub (.t 12) (.c (.int .i64 (1)))), none⟩, ⟨(some 2), (.mv (.t 11)), none⟩, ⟨(some 3), (.mv (.t 13)), none⟩])))))), []⟩
theorem hc111 : toSF Tryd.prog {} Tryd.f111 = some c111 := by kernel_rfl
theorem hn111 : (Tryd.f111.name == "runtime.NumGoroutine") = false := by kernel_rfl
theorem reverseI_ok {h : Heap} {r : Nat} (L : List Int) (hr : h r = some ⟨3, 1, L.map eInt⟩) (hl : L.length ≤ 1073741824) :
    DCalls (Pg G) 111 [.osl r 1 0 L.length] h fun a h' => a = .tup [] ∧ h' = upd h r (some ⟨3, 1, L.reverse.map eInt⟩) := by
  refine dcalls_of_vc Tryd.func111 hn111 hc111 (by rw [Tryd.ntmps111]; simp) (by rw [Tryd.ntmps111]; decide) ?_
  simp -dsimp -implicitDefEqProofs (disch := omega) only [VCA, pg_gl, ↓upd_none, Nat.reduceEqDiff, Nat.reduceBEq, Nat.reduceAdd, Nat.reduceSub, Nat.reduceMul, Nat.reduceLT, Nat.reduceLeDiff, ↓reduceIte, reduceCtorEq, rsOf, rootsOf, SOp.rd, SI.rd, SX.rd, rdL, rdO, rdP, okParts, eqCells, okEqCells, fillA, okFill, setAt, implies_true, forall_const, forall_eq, ne_eq, exists_eq_right_right, exists_eq_right, exists_eq_left, exists_eq_left', eInt, eBool, lit_eq, c111]
  refine LoopVC.intro (fun m e h' => ∃ (i : Nat) (cs : List Int), i ≤ L.length ∧ 2 * i ≤ L.length + 1 ∧ m = L.length - i ∧ e 0 = .osl r 1 0 L.length ∧ e 2 = aInt i ∧ e 3 = aInt ((L.length : Int) - 1 - i) ∧ h' = upd h r (some ⟨3, 1, cs.map eInt⟩) ∧ cs.length = L.length ∧
    ∀ k, k < L.length → nth cs k = if k < i ∨ L.length ≤ k + i then nth L (L.length - 1 - k) else nth L k) L.length ⟨0, L, by omega, by omega, by omega, rfl, rfl, by simp, (upd_id hr).symm, rfl, fun k hk => by rw [if_neg (by omega)]⟩ ?_
  rintro m e h' ⟨i, cs, hi, hi2, rfl, he0, he2, he3, rfl, hcl, hcs⟩
  simp -dsimp -implicitDefEqProofs (disch := omega) only [VCA, pg_gl, ↓upd_none, Nat.reduceEqDiff, Nat.reduceBEq, Nat.reduceAdd, Nat.reduceSub, Nat.reduceMul, Nat.reduceLT, Nat.reduceLeDiff, ↓reduceIte, reduceCtorEq, rsOf, rootsOf, SOp.rd, SI.rd, SX.rd, rdL, rdO, rdP, okParts, eqCells, okEqCells, fillA, okFill, setAt, implies_true, forall_const, forall_eq, ne_eq, exists_eq_right_right, exists_eq_right, exists_eq_left, exists_eq_left', eInt, eBool, lit_eq, he0, he2, he3]
  refine Br.dec (fun hlt => ?_) (fun hge => ?_)
  · have ej : ((L.length : Int) - 1 - i).toNat = L.length - 1 - i := by omega
    have eS : ∀ (k : Nat) (x : Int), (cs.map eInt).set k [.int .i64 x] = (cs.set k x).map eInt := fun k x => by rw [List.map_set]; rfl
    have eT : ∀ (k k' : Nat) (x x' : Int), ((cs.set k' x').map eInt).set k [.int .i64 x] = ((cs.set k' x').set k x).map eInt := fun k k' x x' => by rw [show ([.int .i64 x] : List AVal) = eInt x from rfl, ← List.map_set]
    have gS : ∀ (k k' : Nat) (x : Int), k < cs.length → ((cs.set k' x).map eInt).getD k [] = eInt (nth (cs.set k' x) k) := fun k k' x hk => getD_map_enc (by rw [List.length_set]; exact hk)
    simp -dsimp -implicitDefEqProofs (disch := omega) only [VCA, pg_gl, ↓upd_none, Nat.reduceEqDiff, Nat.reduceBEq, Nat.reduceAdd, Nat.reduceSub, Nat.reduceMul, Nat.reduceLT, Nat.reduceLeDiff, ↓reduceIte, reduceCtorEq, rsOf, rootsOf, SOp.rd, SI.rd, SX.rd, rdL, rdO, rdP, okParts, eqCells, okEqCells, fillA, okFill, setAt, implies_true, forall_const, forall_eq, ne_eq, exists_eq_right_right, exists_eq_right, exists_eq_left, exists_eq_left', eInt, eBool, lit_eq, he0, he2, he3, upd_same, ej, eInt, eS, eT, List.length_set, gS]
    refine ⟨by omega, by omega, by omega, by omega, by omega, by omega, by omega, by omega, _, by omega, i + 1, (cs.set i (nth cs (L.length - 1 - i))).set (L.length - 1 - i) (nth cs i), by omega, by omega, rfl, by omega, by omega, rfl, by rw [List.length_set, List.length_set]; exact hcl, fun k hk => ?_⟩
    rw [nth_set _ _ _ _ (by rw [List.length_set]; omega), nth_set _ _ _ _ (by omega), hcs i (by omega), hcs (L.length - 1 - i) (by omega), hcs k hk]
    by_cases h1 : k = L.length - 1 - i
    · subst h1
      rw [if_pos rfl, if_neg (by omega), if_pos (by omega)]
      congr 1; omega
    · rw [if_neg h1]
      by_cases h2 : k = i
      · subst h2
        rw [if_pos rfl, if_neg (by omega), if_pos (by omega)]
      · rw [if_neg h2]
        by_cases h3 : k < i ∨ L.length ≤ k + i
        · rw [if_pos h3, if_pos (by omega)]
        · rw [if_neg h3, if_neg (by omega)]
  · simp -dsimp -implicitDefEqProofs (disch := omega) only [VCA, pg_gl, ↓upd_none, Nat.reduceEqDiff, Nat.reduceBEq, Nat.reduceAdd, Nat.reduceSub, Nat.reduceMul, Nat.reduceLT, Nat.reduceLeDiff, ↓reduceIte, reduceCtorEq, rsOf, rootsOf, SOp.rd, SI.rd, SX.rd, rdL, rdO, rdP, okParts, eqCells, okEqCells, fillA, okFill, setAt, implies_true, forall_const, forall_eq, ne_eq, exists_eq_right_right, exists_eq_right, exists_eq_left, exists_eq_left', eInt, eBool, lit_eq, he0]
    have : cs = L.reverse := by
      refine ext_nth (by rw [List.length_reverse]; exact hcl) fun k hk => ?_
      rw [hcs k (by omega)]
      have e : nth L.reverse k = nth L (L.length - 1 - k) := by
        unfold nth
        rw [List.getD_eq_getElem?_getD, List.getD_eq_getElem?_getD, List.getElem?_reverse (by omega)]
      rw [e]
      split
      · rfl
      · rename_i h3
        have : L.length - 1 - k = k := by omega
        rw [this]
    subst this
    exact Sub.refl _
def mW (d : HDoc) (c : Int) : Nat := if c = -1 then 0 else up d c + 1
section
variable {d : HDoc}
theorem mW_no : mW d (-1) = 0 := rfl
theorem mW_yes {n : Int} (hn : inD d n) : mW d n = up d n + 1 := by unfold mW; rw [if_neg]; have := hn.1; omega
theorem mW_par (V : DV d) {n : Int} (hn : inD d n) : mW d (nd d n).parent < mW d n ∧ ((nd d n).parent = -1 ∨ inD d (nd d n).parent) := by
  rw [mW_yes hn]
  rcases V.par n hn with h | h
  · rw [h]; exact ⟨by rw [mW_no]; omega, .inl rfl⟩
  · rw [mW_yes h.1, V.up_par hn h.1.1]; exact ⟨by omega, .inr h.1⟩
end
def c76 : SFun := ⟨(.seq (.reg [⟨(some 4), (.mv (.c .emp)), none⟩]) (.seq (.block 0 (.loop (.seq (.seq (.reg [⟨(some 5), (.mv (.t 1)), none⟩, ⟨(some 6), (.bin .geq (.t 5) (.c (.int .i64 (0)))), none⟩]) (.cond (.t 6) .skip (.exit 0))) (.seq (.block 1 (.reg [⟨(some 16), (.mv (.t 4)), none⟩, ⟨(some 17), (.mv (.t 1)), none⟩, ⟨(some 18), (.bldF 3 1 [(.t 17)]), none⟩, ⟨(some 19), (.app 3 1 8 (.t 16) (.t 18)), none⟩, ⟨(some 4), (.mv (.t 19)), none⟩])) (.reg [⟨(some 7), (.mv (.t 0)), none⟩, ⟨(some 8), (.fldA 0 (.t 7)), none⟩, ⟨(some 9), (.fldA 0 (.t 8)), none⟩, ⟨(some 10), (.fldA 0 (.t 9)), none⟩, ⟨(some 11), (.ld 1 false (.t 10)), none⟩, ⟨(some 12), (.mv (.t 1)), none⟩, ⟨(some 13), (.idxA 6 (.t 11) (.t 12)), none⟩, ⟨(some 14), (.fldA 4 (.t 13)), none⟩, ⟨(some 15), (.ld 1 false (.t 14)), none⟩, ⟨(some 1), (.mv (.t 15)), none⟩]))))) (.seq (.reg [⟨(some 20), (.mv (.t 4)), none⟩, ⟨(some 21), (.call (.c (.fn 111 [] [])) [(.t 20)]), none⟩]) (.seq (.reg [⟨(some 22), (.mv (.t 4)), none⟩, ⟨(some 4), (.mv (.t 22)), none⟩]) .ret)))), [(.tmp 4)]⟩
theorem hc76 : toSF Tryd.prog {} Tryd.f76 = some c76 := by kernel_rfl
theorem hn76 : (Tryd.f76.name == "runtime.NumGoroutine") = false := by kernel_rfl
theorem path_ok (d : HDoc) (V : DV d) (sm : DocSm d) (n : Int) (hn : inD d n) : PCalls (Pg G) 76 [.pin (eDoc d), aInt n] (sl eInt (chain d n).reverse) := PCalls.acc (ty := 3) (sz := 1) fun h => by
  have hl := V.len
  have cl := chain_len V n hn
  have cd := V.deep n hn
  refine dcalls_of_vc Tryd.func76 hn76 hc76 (by rw [Tryd.ntmps76]; simp) (by rw [Tryd.ntmps76]; decide) ?_
  simp -dsimp -implicitDefEqProofs (disch := omega) only [VCA, pg_gl, ↓upd_none, Nat.reduceEqDiff, Nat.reduceBEq, Nat.reduceAdd, Nat.reduceSub, Nat.reduceMul, Nat.reduceLT, Nat.reduceLeDiff, ↓reduceIte, reduceCtorEq, rsOf, rootsOf, SOp.rd, SI.rd, SX.rd, rdL, rdO, rdP, okParts, eqCells, okEqCells, fillA, okFill, setAt, implies_true, forall_const, forall_eq, ne_eq, exists_eq_right_right, exists_eq_right, exists_eq_left, exists_eq_left', eInt, eBool, lit_eq, c76, eDoc]
  refine LoopVC.intro (fun m e h' => ∃ (c : Int) (L : List Int), m = mW d c ∧ (c = -1 ∨ inD d c) ∧ e 0 = .pin (eDoc d) ∧ e 1 = aInt c ∧ Acc h 3 1 (L.map eInt) (e 4) h' ∧ Sim.Sub h h' ∧ L.length ≤ 41 ∧ (c = -1 → L = chain d n) ∧ (inD d c → L ++ chain d c = chain d n)) _ ⟨n, [], rfl, .inr hn, rfl, rfl, .nil, Sub.refl _, by simp, fun e => by have := hn.1; omega, fun _ => rfl⟩ ?_
  rintro m e h' ⟨c, L, rfl, hc, he0, he1, A, S, hL, hno, hyes⟩
  simp -dsimp -implicitDefEqProofs (disch := omega) only [VCA, pg_gl, ↓upd_none, Nat.reduceEqDiff, Nat.reduceBEq, Nat.reduceAdd, Nat.reduceSub, Nat.reduceMul, Nat.reduceLT, Nat.reduceLeDiff, ↓reduceIte, reduceCtorEq, rsOf, rootsOf, SOp.rd, SI.rd, SX.rd, rdL, rdO, rdP, okParts, eqCells, okEqCells, fillA, okFill, setAt, implies_true, forall_const, forall_eq, ne_eq, exists_eq_right_right, exists_eq_right, exists_eq_left, exists_eq_left', eInt, eBool, lit_eq, he0, he1]
  refine Br.dec (fun h1 => ?_) (fun h1 => ?_)
  · have hc : inD d c := hc.resolve_left (by omega)
    have c0 := hc.1
    have c1 := hc.2
    have hp := mW_par V hc
    have e0 : nth d.nodes c.toNat = nd d c := rfl
    have hy := hyes hc
    have hyl : L.length + (chain d c).length = (chain d n).length := by rw [← hy, List.length_append]
    simp -dsimp -implicitDefEqProofs (disch := omega) only [VCA, pg_gl, ↓upd_none, Nat.reduceEqDiff, Nat.reduceBEq, Nat.reduceAdd, Nat.reduceSub, Nat.reduceMul, Nat.reduceLT, Nat.reduceLeDiff, ↓reduceIte, reduceCtorEq, rsOf, rootsOf, SOp.rd, SI.rd, SX.rd, rdL, rdO, rdP, okParts, eqCells, okEqCells, fillA, okFill, setAt, implies_true, forall_const, forall_eq, ne_eq, exists_eq_right_right, exists_eq_right, exists_eq_left, exists_eq_left', eInt, eBool, lit_eq, he0, he1, eDoc]
    refine A.app S (by simp only [List.length_map, List.length_cons, List.length_nil]; omega) (by simp only [List.length_map, List.length_cons, List.length_nil]; omega) fun a' h'' A' S' => ?_
    simp -dsimp -implicitDefEqProofs (disch := omega) only [VCA, pg_gl, ↓upd_none, Nat.reduceEqDiff, Nat.reduceBEq, Nat.reduceAdd, Nat.reduceSub, Nat.reduceMul, Nat.reduceLT, Nat.reduceLeDiff, ↓reduceIte, reduceCtorEq, rsOf, rootsOf, SOp.rd, SI.rd, SX.rd, rdL, rdO, rdP, okParts, eqCells, okEqCells, fillA, okFill, setAt, implies_true, forall_const, forall_eq, ne_eq, exists_eq_right_right, exists_eq_right, exists_eq_left, exists_eq_left', eInt, eBool, lit_eq, he0, he1, eDoc, eNode]
    rw [e0]
    refine ⟨by omega, _, hp.1, (nd d c).parent, L ++ [c], rfl, hp.2, rfl, by simpa [eInt] using A', S', ?_, ?_, ?_⟩
    · have := chain_len V c hc; simp; omega
    · intro hq; rw [← hy, chain_top V (by omega)]
    · intro hq; rw [← hy, chain_up V hc hq.1]; simp
  · obtain rfl : c = -1 := hc.resolve_right (fun h => by have := h.1; omega)
    obtain rfl := hno rfl
    obtain ⟨r, h0, hr, he⟩ := A.pos (by rw [List.length_map]; omega)
    rw [List.length_map] at he
    simp -dsimp -implicitDefEqProofs (disch := omega) only [VCA, pg_gl, ↓upd_none, Nat.reduceEqDiff, Nat.reduceBEq, Nat.reduceAdd, Nat.reduceSub, Nat.reduceMul, Nat.reduceLT, Nat.reduceLeDiff, ↓reduceIte, reduceCtorEq, rsOf, rootsOf, SOp.rd, SI.rd, SX.rd, rdL, rdO, rdP, okParts, eqCells, okEqCells, fillA, okFill, setAt, implies_true, forall_const, forall_eq, ne_eq, exists_eq_right_right, exists_eq_right, exists_eq_left, exists_eq_left', eInt, eBool, lit_eq, he]
    refine DCalls.of (reverseI_ok (chain d n) hr (by omega)) ?_
    rintro a h'' ⟨rfl, rfl⟩
    simp -dsimp -implicitDefEqProofs (disch := omega) only [VCA, pg_gl, ↓upd_none, Nat.reduceEqDiff, Nat.reduceBEq, Nat.reduceAdd, Nat.reduceSub, Nat.reduceMul, Nat.reduceLT, Nat.reduceLeDiff, ↓reduceIte, reduceCtorEq, rsOf, rootsOf, SOp.rd, SI.rd, SX.rd, rdL, rdO, rdP, okParts, eqCells, okEqCells, fillA, okFill, setAt, implies_true, forall_const, forall_eq, ne_eq, exists_eq_right_right, exists_eq_right, exists_eq_left, exists_eq_left', eInt, eBool, lit_eq, he]
    have hlr : ((chain d n).reverse.map eInt).length = (chain d n).length := by simp
    refine ⟨_, Sub.refl _, ?_, S.upd h0⟩
    have := Acc.root (h := h) (h' := upd h' r (some ⟨3, 1, (chain d n).reverse.map eInt⟩)) h0 (upd_same _ _ _)
    rwa [hlr] at this
theorem getLastD_nth {l : List Int} (h : l ≠ []) (x : Int) : l.getLastD x = nth l (l.length - 1) := by
  rw [List.getLastD_eq_getLast?, List.getLast?_eq_getElem?]
  unfold nth
  rw [List.getD_eq_getElem?_getD, List.getElem?_eq_getElem (by have := List.length_pos_iff.2 h; omega)]; rfl
theorem headD_nth {l : List Int} (h : l ≠ []) (x : Int) : l.headD x = nth l 0 := by cases l with | nil => exact absurd rfl h | cons a r => rfl
def c118 : SFun := ⟨(.seq (.reg [⟨(some 6), (.mv (.c (.int .i64 (0)))), none⟩]) (.seq (.reg [⟨(some 8), (.mv (.t 0)), none⟩, ⟨(some 9), (.fldA 0 (.t 8)), none⟩, ⟨(some 10), (.fldA 0 (.t 9)), none⟩, ⟨(some 11), (.fldA 0 (.t 10)), none⟩, ⟨(some 12), (.ld 1 false (.t 11)), none⟩, ⟨(some 13), (.mv (.t 1)), none⟩, ⟨(some 14), (.idxA 6 (.t 12) (.t 13)), none⟩, ⟨(some 15), (.fldA 5 (.t 14)), none⟩, ⟨(some 16), (.ld 1 false (.t 15)), none⟩, ⟨(some 7), (.mv (.t 16)), none⟩]) (.seq (.block 0 (.seq (.reg [⟨(some 18), (.mv (.t 7)), none⟩, ⟨(some 19), (.len (.t 18)), none⟩, ⟨(some 20), (.bin .eql (.t 19) (.c (.int .i64 (0)))), none⟩, ⟨(some 17), (.mv (.t 20)), none⟩]) (.cond (.t 17) (.seq (.reg [⟨(some 6), (.mv (.c (.int .i64 (-1)))), none⟩]) .ret) (.seq (.reg [⟨(some 22), (.mv (.t 2)), none⟩, ⟨(some 21), (.mv (.t 22)), none⟩]) (.cond (.t 21) (.seq (.reg [⟨(some 23), (.mv (.t 7)), none⟩, ⟨(some 24), (.mv (.t 7)), none⟩, ⟨(some 25), (.len (.t 24)), none⟩, ⟨(some 26), (.bin .sub (.t 25) (.c (.int .i64 (1)))), none⟩, ⟨(some 27), (.idxA 1 (.t 23) (.t 26)), none⟩, ⟨(some 28), (.ld 1 false (.t 27)), none⟩, ⟨(some 6), (.mv (.t 28)), none⟩]) .ret) .skip))))) (.seq (.reg [⟨(some 29), (.mv (.t 7)), none⟩, ⟨(some 30), (.idxA 1 (.t 29) (.c (.int .i64 (0)))), none⟩, ⟨(some 31), (.ld 1 false (.t 30)), none⟩, ⟨(some 6), (.mv (.t 31)), none⟩]) .ret)))), [(.tmp 6)]⟩
theorem hc118 : toSF Tryd.prog {} Tryd.f118 = some c118 := by kernel_rfl
theorem hn118 : (Tryd.f118.name == "runtime.NumGoroutine") = false := by kernel_rfl
theorem kid_ok (d : HDoc) (V : DV d) (sm : DocSm d) (n : Int) (hn : inD d n) (b : Bool) : PCalls (Pg G) 118 [.pin (eDoc d), aInt n, .bool b] (aInt (kidW d n b)) := fun h => by
  have hl := V.len
  have n0 := hn.1
  have n1 := hn.2
  have kl := (sm.nd n).kids
  have e0 : nth d.nodes n.toNat = nd d n := rfl
  refine dcalls_of_vc Tryd.func118 hn118 hc118 (by rw [Tryd.ntmps118]; simp) (by rw [Tryd.ntmps118]; decide) ?_
  simp -dsimp -implicitDefEqProofs (disch := omega) only [VCA, pg_gl, ↓upd_none, Nat.reduceEqDiff, Nat.reduceBEq, Nat.reduceAdd, Nat.reduceSub, Nat.reduceMul, Nat.reduceLT, Nat.reduceLeDiff, ↓reduceIte, reduceCtorEq, rsOf, rootsOf, SOp.rd, SI.rd, SX.rd, rdL, rdO, rdP, okParts, eqCells, okEqCells, fillA, okFill, setAt, implies_true, forall_const, forall_eq, ne_eq, exists_eq_right_right, exists_eq_right, exists_eq_left, exists_eq_left', eInt, eBool, lit_eq, c118, eDoc, eNode]
  rw [e0]
  refine ⟨by omega, ?_⟩
  by_cases hk : (nd d n).kids = []
  · have h0 : (nd d n).kids.length = 0 := by rw [hk]; rfl
    have hz := kid_no (b := b) hk
    simp -dsimp -implicitDefEqProofs (disch := omega) only [VCA, pg_gl, ↓upd_none, Nat.reduceEqDiff, Nat.reduceBEq, Nat.reduceAdd, Nat.reduceSub, Nat.reduceMul, Nat.reduceLT, Nat.reduceLeDiff, ↓reduceIte, reduceCtorEq, rsOf, rootsOf, SOp.rd, SI.rd, SX.rd, rdL, rdO, rdP, okParts, eqCells, okEqCells, fillA, okFill, setAt, implies_true, forall_const, forall_eq, ne_eq, exists_eq_right_right, exists_eq_right, exists_eq_left, exists_eq_left', eInt, eBool, lit_eq, h0]
    repeat' (first | ((with_reducible refine Br.dec (fun _ => ?_) (fun _ => ?_)) <;> try (exfalso; omega)) | ((with_reducible refine Br.eq (fun _ => ?_) (fun _ => ?_)) <;> try (exfalso; omega)) | ((with_reducible refine Br.ne (fun _ => ?_) (fun _ => ?_)) <;> try (exfalso; omega)) | ((with_reducible refine brNdec (fun _ => ?_) (fun _ => ?_)) <;> try (exfalso; omega)) | ((with_reducible refine brNeq (fun _ => ?_) (fun _ => ?_)) <;> try (exfalso; omega)) | with_reducible refine Br.intro (fun _ => ?_) (fun _ => ?_) | (with_reducible refine And.intro ?_ ?_; · omega) | simp -dsimp -implicitDefEqProofs (disch := omega) only [VCA, pg_gl, ↓upd_none, Nat.reduceEqDiff, Nat.reduceBEq, Nat.reduceAdd, Nat.reduceSub, Nat.reduceMul, Nat.reduceLT, Nat.reduceLeDiff, ↓reduceIte, reduceCtorEq, rsOf, rootsOf, SOp.rd, SI.rd, SX.rd, rdL, rdO, rdP, okParts, eqCells, okEqCells, fillA, okFill, setAt, implies_true, forall_const, forall_eq, ne_eq, exists_eq_right_right, exists_eq_right, exists_eq_left, exists_eq_left', eInt, eBool, lit_eq])
    exact ⟨Sub.refl _, by rw [hz]⟩
  · have h0 := List.length_pos_iff.2 hk
    have h1 : ((nd d n).kids.length : Int) ≠ 0 := by omega
    cases b
    · have hz : kidW d n false = nth (nd d n).kids 0 := by unfold kidW; rw [if_neg (by simp), headD_nth hk]
      repeat' (first | ((with_reducible refine Br.dec (fun _ => ?_) (fun _ => ?_)) <;> try (exfalso; omega)) | ((with_reducible refine Br.eq (fun _ => ?_) (fun _ => ?_)) <;> try (exfalso; omega)) | ((with_reducible refine Br.ne (fun _ => ?_) (fun _ => ?_)) <;> try (exfalso; omega)) | ((with_reducible refine brNdec (fun _ => ?_) (fun _ => ?_)) <;> try (exfalso; omega)) | ((with_reducible refine brNeq (fun _ => ?_) (fun _ => ?_)) <;> try (exfalso; omega)) | with_reducible refine Br.intro (fun _ => ?_) (fun _ => ?_) | (with_reducible refine And.intro ?_ ?_; · omega) | simp -dsimp -implicitDefEqProofs (disch := omega) only [VCA, pg_gl, ↓upd_none, Nat.reduceEqDiff, Nat.reduceBEq, Nat.reduceAdd, Nat.reduceSub, Nat.reduceMul, Nat.reduceLT, Nat.reduceLeDiff, ↓reduceIte, reduceCtorEq, rsOf, rootsOf, SOp.rd, SI.rd, SX.rd, rdL, rdO, rdP, okParts, eqCells, okEqCells, fillA, okFill, setAt, implies_true, forall_const, forall_eq, ne_eq, exists_eq_right_right, exists_eq_right, exists_eq_left, exists_eq_left', eInt, eBool, lit_eq])
      exact ⟨Sub.refl _, hz.symm⟩
    · have hz : kidW d n true = nth (nd d n).kids ((nd d n).kids.length - 1) := by unfold kidW; rw [if_pos rfl, getLastD_nth hk]
      repeat' (first | ((with_reducible refine Br.dec (fun _ => ?_) (fun _ => ?_)) <;> try (exfalso; omega)) | ((with_reducible refine Br.eq (fun _ => ?_) (fun _ => ?_)) <;> try (exfalso; omega)) | ((with_reducible refine Br.ne (fun _ => ?_) (fun _ => ?_)) <;> try (exfalso; omega)) | ((with_reducible refine brNdec (fun _ => ?_) (fun _ => ?_)) <;> try (exfalso; omega)) | ((with_reducible refine brNeq (fun _ => ?_) (fun _ => ?_)) <;> try (exfalso; omega)) | with_reducible refine Br.intro (fun _ => ?_) (fun _ => ?_) | (with_reducible refine And.intro ?_ ?_; · omega) | simp -dsimp -implicitDefEqProofs (disch := omega) only [VCA, pg_gl, ↓upd_none, Nat.reduceEqDiff, Nat.reduceBEq, Nat.reduceAdd, Nat.reduceSub, Nat.reduceMul, Nat.reduceLT, Nat.reduceLeDiff, ↓reduceIte, reduceCtorEq, rsOf, rootsOf, SOp.rd, SI.rd, SX.rd, rdL, rdO, rdP, okParts, eqCells, okEqCells, fillA, okFill, setAt, implies_true, forall_const, forall_eq, ne_eq, exists_eq_right_right, exists_eq_right, exists_eq_left, exists_eq_left', eInt, eBool, lit_eq])
      have e2 : ((nd d n).kids.length - 1 : Int).toNat = (nd d n).kids.length - 1 := by omega
      exact ⟨Sub.refl _, by rw [hz, e2]⟩
def c77 : SFun := ⟨(.seq (.reg [⟨(some 4), (.mv (.c (.int .i64 (0)))), none⟩]) (.seq (.seq (.reg [⟨(some 6), (.mv (.t 0)), none⟩, ⟨(some 7), (.len (.t 6)), none⟩, ⟨(some 8), (.mv (.c (.int .i64 (0)))), none⟩]) (.block 0 (.loop (.seq (.reg [⟨(some 9), (.bin .lss (.t 8) (.t 7)), none⟩]) (.seq (.cond (.t 9) .skip (.exit 0)) (.seq (.block 1 (.seq (.reg [⟨(some 10), (.mv (.t 8)), none⟩, ⟨(some 5), (.mv (.t 10)), none⟩]) (.seq (.reg [⟨(some 11), (.mv (.t 1)), none⟩, ⟨(some 12), (.mv (.t 0)), none⟩, ⟨(some 13), (.mv (.t 5)), none⟩, ⟨(some 14), (.idxA 1 (.t 12) (.t 13)), none⟩, ⟨(some 15), (.ld 1 false (.t 14)), none⟩, ⟨(some 16), (.bin .eql (.t 11) (.t 15)), none⟩]) (.cond (.t 16) (.seq (.reg [⟨(some 17), (.mv (.t 5)), none⟩, ⟨(some 4), (.mv (.t 17)), none⟩]) .ret) .skip)))) (.reg [⟨(some 18), (.bin .add (.t 8) (.c (.int .i64 (1)))), none⟩, ⟨(some 8), (.mv (.t 18)), none⟩]))))))) (.seq (.reg [⟨(some 4), (.mv (.c (.int .i64 (-1)))), none⟩]) .ret))), [(.tmp 4)]⟩
theorem hc77 : toSF Tryd.prog {} Tryd.f77 = some c77 := by kernel_rfl
theorem hn77 : (Tryd.f77.name == "runtime.NumGoroutine") = false := by kernel_rfl
theorem hasII_ok (l : List Int) (x : Int) (hl : l.length ≤ 1073741824) : PCalls (Pg G) 77 [sl eInt l, aInt x] (aInt (idxM (· == x) l)) := by
  intro h
  refine dcalls_of_vc Tryd.func77 hn77 hc77 (by rw [Tryd.ntmps77]; simp) (by rw [Tryd.ntmps77]; decide) ?_
  simp -dsimp -implicitDefEqProofs (disch := omega) only [VCA, pg_gl, ↓upd_none, Nat.reduceEqDiff, Nat.reduceBEq, Nat.reduceAdd, Nat.reduceSub, Nat.reduceMul, Nat.reduceLT, Nat.reduceLeDiff, ↓reduceIte, reduceCtorEq, rsOf, rootsOf, SOp.rd, SI.rd, SX.rd, rdL, rdO, rdP, okParts, eqCells, okEqCells, fillA, okFill, setAt, implies_true, forall_const, forall_eq, ne_eq, exists_eq_right_right, exists_eq_right, exists_eq_left, exists_eq_left', eInt, eBool, lit_eq, c77]
  refine LoopVC.intro (fun m e h' => ∃ k : Nat, k ≤ l.length ∧ m = l.length - k ∧ e 0 = sl eInt l ∧ e 1 = aInt x ∧ e 7 = aInt l.length ∧ e 8 = aInt k ∧ h' = h ∧ ∀ j, j < k → (nth l j == x) = false) l.length ⟨0, by omega, by omega, rfl, rfl, rfl, rfl, rfl, fun j hj => absurd hj (Nat.not_lt_zero j)⟩ ?_
  rintro m e h' ⟨k, hk, rfl, he0, he1, he7, he8, rfl, hj⟩
  simp -dsimp -implicitDefEqProofs (disch := omega) only [VCA, pg_gl, ↓upd_none, Nat.reduceEqDiff, Nat.reduceBEq, Nat.reduceAdd, Nat.reduceSub, Nat.reduceMul, Nat.reduceLT, Nat.reduceLeDiff, ↓reduceIte, reduceCtorEq, rsOf, rootsOf, SOp.rd, SI.rd, SX.rd, rdL, rdO, rdP, okParts, eqCells, okEqCells, fillA, okFill, setAt, implies_true, forall_const, forall_eq, ne_eq, exists_eq_right_right, exists_eq_right, exists_eq_left, exists_eq_left', eInt, eBool, lit_eq, he0, he1, he7, he8]
  refine Br.dec (fun hlt => ?_) (fun hge => ?_)
  · simp -dsimp -implicitDefEqProofs (disch := omega) only [VCA, pg_gl, ↓upd_none, Nat.reduceEqDiff, Nat.reduceBEq, Nat.reduceAdd, Nat.reduceSub, Nat.reduceMul, Nat.reduceLT, Nat.reduceLeDiff, ↓reduceIte, reduceCtorEq, rsOf, rootsOf, SOp.rd, SI.rd, SX.rd, rdL, rdO, rdP, okParts, eqCells, okEqCells, fillA, okFill, setAt, implies_true, forall_const, forall_eq, ne_eq, exists_eq_right_right, exists_eq_right, exists_eq_left, exists_eq_left', eInt, eBool, lit_eq, he0, he1, he7, he8]
    refine ⟨by omega, Br.eq (fun ht => ?_) (fun hf => ?_)⟩
    · simp -dsimp -implicitDefEqProofs (disch := omega) only [VCA, pg_gl, ↓upd_none, Nat.reduceEqDiff, Nat.reduceBEq, Nat.reduceAdd, Nat.reduceSub, Nat.reduceMul, Nat.reduceLT, Nat.reduceLeDiff, ↓reduceIte, reduceCtorEq, rsOf, rootsOf, SOp.rd, SI.rd, SX.rd, rdL, rdO, rdP, okParts, eqCells, okEqCells, fillA, okFill, setAt, implies_true, forall_const, forall_eq, ne_eq, exists_eq_right_right, exists_eq_right, exists_eq_left, exists_eq_left', eInt, eBool, lit_eq]
      rw [idxM_some (k := k) (by omega) hj (by simp [ht])]; exact ⟨Sub.refl _, rfl⟩
    · simp -dsimp -implicitDefEqProofs (disch := omega) only [VCA, pg_gl, ↓upd_none, Nat.reduceEqDiff, Nat.reduceBEq, Nat.reduceAdd, Nat.reduceSub, Nat.reduceMul, Nat.reduceLT, Nat.reduceLeDiff, ↓reduceIte, reduceCtorEq, rsOf, rootsOf, SOp.rd, SI.rd, SX.rd, rdL, rdO, rdP, okParts, eqCells, okEqCells, fillA, okFill, setAt, implies_true, forall_const, forall_eq, ne_eq, exists_eq_right_right, exists_eq_right, exists_eq_left, exists_eq_left', eInt, eBool, lit_eq, he0, he1, he7, he8]
      refine ⟨_, ?_, k + 1, by omega, rfl, by omega, fun j hj' => ?_⟩
      · omega
      · by_cases h1 : j = k
        · subst h1; simpa using fun e => hf e.symm
        · exact hj j (by omega)
  · simp -dsimp -implicitDefEqProofs (disch := omega) only [VCA, pg_gl, ↓upd_none, Nat.reduceEqDiff, Nat.reduceBEq, Nat.reduceAdd, Nat.reduceSub, Nat.reduceMul, Nat.reduceLT, Nat.reduceLeDiff, ↓reduceIte, reduceCtorEq, rsOf, rootsOf, SOp.rd, SI.rd, SX.rd, rdL, rdO, rdP, okParts, eqCells, okEqCells, fillA, okFill, setAt, implies_true, forall_const, forall_eq, ne_eq, exists_eq_right_right, exists_eq_right, exists_eq_left, exists_eq_left', eInt, eBool, lit_eq]
    rw [idxM_none (fun j hj' => hj j (by omega))]; exact ⟨Sub.refl _, rfl⟩
def c78 : SFun := ⟨(.seq (.reg [⟨(some 4), (.mv (.c (.bool false))), none⟩]) (.seq (.reg [⟨(some 5), (.mv (.t 0)), none⟩, ⟨(some 6), (.mv (.t 1)), none⟩, ⟨(some 7), (.pcall 77 [(.t 5), (.t 6)]), none⟩, ⟨(some 8), (.bin .geq (.t 7) (.c (.int .i64 (0)))), none⟩, ⟨(some 4), (.mv (.t 8)), none⟩]) .ret)), [(.tmp 4)]⟩
theorem hc78 : toSF Tryd.prog {pure := [77]} Tryd.f78 = some c78 := by kernel_rfl
theorem hn78 : (Tryd.f78.name == "runtime.NumGoroutine") = false := by kernel_rfl
theorem hasI_ok (l : List Int) (x : Int) (hl : l.length ≤ 1073741824) : PCalls (Pg G) 78 [sl eInt l, aInt x] (.bool (l.any (· == x))) := by
  intro h
  refine dcalls_of_vc Tryd.func78 hn78 hc78 (by rw [Tryd.ntmps78]; simp) (by rw [Tryd.ntmps78]; decide) ?_
  simp -dsimp -implicitDefEqProofs (disch := omega) only [VCA, pg_gl, ↓upd_none, Nat.reduceEqDiff, Nat.reduceBEq, Nat.reduceAdd, Nat.reduceSub, Nat.reduceMul, Nat.reduceLT, Nat.reduceLeDiff, ↓reduceIte, reduceCtorEq, rsOf, rootsOf, SOp.rd, SI.rd, SX.rd, rdL, rdO, rdP, okParts, eqCells, okEqCells, fillA, okFill, setAt, implies_true, forall_const, forall_eq, ne_eq, exists_eq_right_right, exists_eq_right, exists_eq_left, exists_eq_left', eInt, eBool, lit_eq, c78]
  refine pcallE.of (hasII_ok l x hl) ?_; simp -dsimp -implicitDefEqProofs (disch := omega) only [VCA, pg_gl, ↓upd_none, Nat.reduceEqDiff, Nat.reduceBEq, Nat.reduceAdd, Nat.reduceSub, Nat.reduceMul, Nat.reduceLT, Nat.reduceLeDiff, ↓reduceIte, reduceCtorEq, rsOf, rootsOf, SOp.rd, SI.rd, SX.rd, rdL, rdO, rdP, okParts, eqCells, okEqCells, fillA, okFill, setAt, implies_true, forall_const, forall_eq, ne_eq, exists_eq_right_right, exists_eq_right, exists_eq_left, exists_eq_left', eInt, eBool, lit_eq]
  exact ⟨Sub.refl _, idxM_any _ l⟩
theorem idxM_le (l : List Int) (x : Int) : -1 ≤ idxM (· == x) l ∧ idxM (· == x) l < l.length ∧ (0 ≤ idxM (· == x) l → nth l (idxM (· == x) l).toNat = x) := by
  unfold idxM
  split
  · rename_i i hi
    rw [List.findIdx?_eq_some_iff_getElem] at hi
    obtain ⟨h1, h2, _⟩ := hi
    refine ⟨by omega, by omega, fun _ => ?_⟩
    have : nth l i = l[i] := by unfold nth; rw [List.getD_eq_getElem?_getD, List.getElem?_eq_getElem h1]; rfl
    rw [Int.toNat_natCast, this]; simpa using h2
  · refine ⟨by omega, by omega, fun h => by omega⟩
def c119 : SFun := ⟨(.seq (.reg [⟨(some 6), (.mv (.c (.int .i64 (0)))), none⟩]) (.seq (.reg [⟨(some 10), (.mv (.t 0)), none⟩, ⟨(some 11), (.fldA 0 (.t 10)), none⟩, ⟨(some 12), (.fldA 0 (.t 11)), none⟩, ⟨(some 13), (.fldA 0 (.t 12)), none⟩, ⟨(some 14), (.ld 1 false (.t 13)), none⟩, ⟨(some 15), (.mv (.t 1)), none⟩, ⟨(some 16), (.idxA 6 (.t 14) (.t 15)), none⟩, ⟨(some 17), (.fldA 4 (.t 16)), none⟩, ⟨(some 18), (.ld 1 false (.t 17)), none⟩, ⟨(some 7), (.mv (.t 18)), none⟩]) (.seq (.seq (.reg [⟨(some 19), (.mv (.t 7)), none⟩, ⟨(some 20), (.bin .lss (.t 19) (.c (.int .i64 (0)))), none⟩]) (.cond (.t 20) (.seq (.reg [⟨(some 6), (.mv (.c (.int .i64 (-1)))), none⟩]) .ret) .skip)) (.seq (.reg [⟨(some 21), (.mv (.t 0)), none⟩, ⟨(some 22), (.fldA 0 (.t 21)), none⟩, ⟨(some 23), (.fldA 0 (.t 22)), none⟩, ⟨(some 24), (.fldA 0 (.t 23)), none⟩, ⟨(some 25), (.ld 1 false (.t 24)), none⟩, ⟨(some 26), (.mv (.t 7)), none⟩, ⟨(some 27), (.idxA 6 (.t 25) (.t 26)), none⟩, ⟨(some 28), (.fldA 5 (.t 27)), none⟩, ⟨(some 29), (.ld 1 false (.t 28)), none⟩, ⟨(some 8), (.mv (.t 29)), none⟩]) (.seq (.reg [⟨(some 30), (.mv (.t 8)), none⟩, ⟨(some 31), (.mv (.t 1)), none⟩, ⟨(some 32), (.pcall 77 [(.t 30), (.t 31)]), none⟩, ⟨(some 33), (.mv (.t 2)), none⟩, ⟨(some 34), (.bin .add (.t 32) (.t 33)), none⟩, ⟨(some 9), (.mv (.t 34)), none⟩]) (.seq (.seq (.reg [⟨(some 35), (.mv (.t 9)), none⟩, ⟨(some 36), (.bin .lss (.t 35) (.c (.int .i64 (0)))), none⟩, ⟨(some 37), (.mv (.t 36)), none⟩, ⟨(some 38), (.mv (.t 9)), (some (37, false))⟩, ⟨(some 39), (.mv (.t 8)), (some (37, false))⟩, ⟨(some 40), (.len (.t 39)), (some (37, false))⟩, ⟨(some 41), (.bin .geq (.t 38) (.t 40)), (some (37, false))⟩, ⟨(some 42), (.pick (.t 37) (.c (.bool true)) (.t 41)), none⟩]) (.cond (.t 42) (.seq (.reg [⟨(some 6), (.mv (.c (.int .i64 (-1)))), none⟩]) .ret) .skip)) (.seq (.reg [⟨(some 43), (.mv (.t 8)), none⟩, ⟨(some 44), (.mv (.t 9)), none⟩, ⟨(some 45), (.idxA 1 (.t 43) (.t 44)), none⟩, ⟨(some 46), (.ld 1 false (.t 45)), none⟩, ⟨(some 6), (.mv (.t 46)), none⟩]) .ret))))))), [(.tmp 6)]⟩
theorem hc119 : toSF Tryd.prog {pure := [77]} Tryd.f119 = some c119 := by kernel_rfl
theorem hn119 : (Tryd.f119.name == "runtime.NumGoroutine") = false := by kernel_rfl
theorem beside_ok (d : HDoc) (V : DV d) (sm : DocSm d) (n : Int) (hn : inD d n) (b : Int) (hb : b = 1 ∨ b = -1) : PCalls (Pg G) 119 [.pin (eDoc d), aInt n, aInt b] (aInt (besideW d n b)) := fun h => by
  have hl := V.len
  have n0 := hn.1
  have n1 := hn.2
  have e0 : nth d.nodes n.toNat = nd d n := rfl
  refine dcalls_of_vc Tryd.func119 hn119 hc119 (by rw [Tryd.ntmps119]; simp) (by rw [Tryd.ntmps119]; decide) ?_
  simp -dsimp -implicitDefEqProofs (disch := omega) only [↓vcOps_sp 37, ↓vcD_sp 37, VCA, pg_gl, ↓upd_none, Nat.reduceEqDiff, Nat.reduceBEq, Nat.reduceAdd, Nat.reduceSub, Nat.reduceMul, Nat.reduceLT, Nat.reduceLeDiff, ↓reduceIte, reduceCtorEq, rsOf, rootsOf, SOp.rd, SI.rd, SX.rd, rdL, rdO, rdP, okParts, eqCells, okEqCells, fillA, okFill, setAt, implies_true, forall_const, forall_eq, ne_eq, exists_eq_right_right, exists_eq_right, exists_eq_left, exists_eq_left', eInt, eBool, lit_eq, c119, eDoc, eNode]
  rw [e0]
  refine ⟨by omega, Br.dec (fun h1 => ?_) (fun h1 => ?_)⟩
  · simp -dsimp -implicitDefEqProofs (disch := omega) only [↓vcOps_sp 37, ↓vcD_sp 37, VCA, pg_gl, ↓upd_none, Nat.reduceEqDiff, Nat.reduceBEq, Nat.reduceAdd, Nat.reduceSub, Nat.reduceMul, Nat.reduceLT, Nat.reduceLeDiff, ↓reduceIte, reduceCtorEq, rsOf, rootsOf, SOp.rd, SI.rd, SX.rd, rdL, rdO, rdP, okParts, eqCells, okEqCells, fillA, okFill, setAt, implies_true, forall_const, forall_eq, ne_eq, exists_eq_right_right, exists_eq_right, exists_eq_left, exists_eq_left', eInt, eBool, lit_eq]
    exact ⟨Sub.refl _, by unfold besideW; rw [if_pos h1]⟩
  · have hp := (V.par_in hn (by omega)).1
    have p0 := hp.1
    have p1 := hp.2
    have e1 : nth d.nodes (nd d n).parent.toNat = nd d (nd d n).parent := rfl
    have kl := (sm.nd (nd d n).parent).kids
    have hI := hasII_ok (G := G) (nd d (nd d n).parent).kids n kl
    have hr := idxM_le (nd d (nd d n).parent).kids n
    simp -dsimp -implicitDefEqProofs (disch := omega) only [↓vcOps_sp 37, ↓vcD_sp 37, VCA, pg_gl, ↓upd_none, Nat.reduceEqDiff, Nat.reduceBEq, Nat.reduceAdd, Nat.reduceSub, Nat.reduceMul, Nat.reduceLT, Nat.reduceLeDiff, ↓reduceIte, reduceCtorEq, rsOf, rootsOf, SOp.rd, SI.rd, SX.rd, rdL, rdO, rdP, okParts, eqCells, okEqCells, fillA, okFill, setAt, implies_true, forall_const, forall_eq, ne_eq, exists_eq_right_right, exists_eq_right, exists_eq_left, exists_eq_left', eInt, eBool, lit_eq, eDoc, eNode]
    rw [e1]
    refine ⟨by omega, ?_⟩
    refine pcallE.of (hI) ?_; simp -dsimp -implicitDefEqProofs (disch := omega) only [↓vcOps_sp 37, ↓vcD_sp 37, VCA, pg_gl, ↓upd_none, Nat.reduceEqDiff, Nat.reduceBEq, Nat.reduceAdd, Nat.reduceSub, Nat.reduceMul, Nat.reduceLT, Nat.reduceLeDiff, ↓reduceIte, reduceCtorEq, rsOf, rootsOf, SOp.rd, SI.rd, SX.rd, rdL, rdO, rdP, okParts, eqCells, okEqCells, fillA, okFill, setAt, implies_true, forall_const, forall_eq, ne_eq, exists_eq_right_right, exists_eq_right, exists_eq_left, exists_eq_left', eInt, eBool, lit_eq, eDoc, eNode]
    have hz : besideW d n b = if idxM (· == n) (nd d (nd d n).parent).kids + b < 0 ∨ ((nd d (nd d n).parent).kids.length : Int) ≤ idxM (· == n) (nd d (nd d n).parent).kids + b then -1 else nth (nd d (nd d n).parent).kids (idxM (· == n) (nd d (nd d n).parent).kids + b).toNat := by
      unfold besideW; rw [if_neg h1]
    rw [hz]
    generalize idxM (· == n) (nd d (nd d n).parent).kids = q at hr
    repeat' (first | ((with_reducible refine Br.dec (fun _ => ?_) (fun _ => ?_)) <;> try (exfalso; omega)) | ((with_reducible refine Br.eq (fun _ => ?_) (fun _ => ?_)) <;> try (exfalso; omega)) | ((with_reducible refine Br.ne (fun _ => ?_) (fun _ => ?_)) <;> try (exfalso; omega)) | ((with_reducible refine brNdec (fun _ => ?_) (fun _ => ?_)) <;> try (exfalso; omega)) | ((with_reducible refine brNeq (fun _ => ?_) (fun _ => ?_)) <;> try (exfalso; omega)) | with_reducible refine Br.intro (fun _ => ?_) (fun _ => ?_) | (with_reducible refine And.intro ?_ ?_; · omega) | simp -dsimp -implicitDefEqProofs (disch := omega) only [↓vcOps_sp 37, ↓vcD_sp 37, VCA, pg_gl, ↓upd_none, Nat.reduceEqDiff, Nat.reduceBEq, Nat.reduceAdd, Nat.reduceSub, Nat.reduceMul, Nat.reduceLT, Nat.reduceLeDiff, ↓reduceIte, reduceCtorEq, rsOf, rootsOf, SOp.rd, SI.rd, SX.rd, rdL, rdO, rdP, okParts, eqCells, okEqCells, fillA, okFill, setAt, implies_true, forall_const, forall_eq, ne_eq, exists_eq_right_right, exists_eq_right, exists_eq_left, exists_eq_left', eInt, eBool, lit_eq, eDoc, eNode])
    all_goals first | exact ⟨Sub.refl _, by rw [if_pos (by omega)]⟩ | exact ⟨Sub.refl _, by rw [if_neg (by omega)]⟩
def c117 : SFun := ⟨(.seq (.reg [⟨(some 4), (.mv (.c (.int .i64 (0)))), none⟩]) (.seq (.block 0 (.loop (.seq (.seq (.reg [⟨(some 6), (.mv (.t 1)), none⟩, ⟨(some 7), (.bin .geq (.t 6) (.c (.int .i64 (0)))), none⟩]) (.cond (.t 7) .skip (.exit 0))) (.seq (.block 1 (.seq (.reg [⟨(some 17), (.mv (.t 0)), none⟩, ⟨(some 18), (.mv (.t 1)), none⟩, ⟨(some 19), (.pcall 119 [(.t 17), (.t 18), (.c (.int .i64 (1)))]), none⟩, ⟨(some 5), (.mv (.t 19)), none⟩]) (.seq (.reg [⟨(some 20), (.mv (.t 5)), none⟩, ⟨(some 21), (.bin .geq (.t 20) (.c (.int .i64 (0)))), none⟩]) (.cond (.t 21) (.seq (.reg [⟨(some 22), (.mv (.t 5)), none⟩, ⟨(some 4), (.mv (.t 22)), none⟩]) .ret) .skip)))) (.reg [⟨(some 8), (.mv (.t 0)), none⟩, ⟨(some 9), (.fldA 0 (.t 8)), none⟩, ⟨(some 10), (.fldA 0 (.t 9)), none⟩, ⟨(some 11), (.fldA 0 (.t 10)), none⟩, ⟨(some 12), (.ld 1 false (.t 11)), none⟩, ⟨(some 13), (.mv (.t 1)), none⟩, ⟨(some 14), (.idxA 6 (.t 12) (.t 13)), none⟩, ⟨(some 15), (.fldA 4 (.t 14)), none⟩, ⟨(some 16), (.ld 1 false (.t 15)), none⟩, ⟨(some 1), (.mv (.t 16)), none⟩]))))) (.seq (.reg [⟨(some 4), (.mv (.c (.int .i64 (-1)))), none⟩]) .ret))), [(.tmp 4)]⟩
theorem hc117 : toSF Tryd.prog {pure := [119]} Tryd.f117 = some c117 := by kernel_rfl
theorem hn117 : (Tryd.f117.name == "runtime.NumGoroutine") = false := by kernel_rfl
theorem over_ok (d : HDoc) (V : DV d) (sm : DocSm d) (n : Int) (hn : inD d n) : PCalls (Pg G) 117 [.pin (eDoc d), aInt n] (aInt (overW d n)) := fun h => by
  have hl := V.len
  refine dcalls_of_vc Tryd.func117 hn117 hc117 (by rw [Tryd.ntmps117]; simp) (by rw [Tryd.ntmps117]; decide) ?_
  simp -dsimp -implicitDefEqProofs (disch := omega) only [VCA, pg_gl, ↓upd_none, Nat.reduceEqDiff, Nat.reduceBEq, Nat.reduceAdd, Nat.reduceSub, Nat.reduceMul, Nat.reduceLT, Nat.reduceLeDiff, ↓reduceIte, reduceCtorEq, rsOf, rootsOf, SOp.rd, SI.rd, SX.rd, rdL, rdO, rdP, okParts, eqCells, okEqCells, fillA, okFill, setAt, implies_true, forall_const, forall_eq, ne_eq, exists_eq_right_right, exists_eq_right, exists_eq_left, exists_eq_left', eInt, eBool, lit_eq, c117, eDoc]
  refine LoopVC.intro (fun m e h' => ∃ c : Int, m = mW d c ∧ (c = -1 ∨ inD d c) ∧ e 0 = .pin (eDoc d) ∧ e 1 = aInt c ∧ h' = h ∧ (c = -1 → overW d n = -1) ∧ (inD d c → overW d n = overW d c)) _ ⟨n, rfl, .inr hn, rfl, rfl, rfl, fun e => by have := hn.1; omega, fun _ => rfl⟩ ?_
  rintro m e h' ⟨c, rfl, hc, he0, he1, rfl, hno, hyes⟩
  simp -dsimp -implicitDefEqProofs (disch := omega) only [VCA, pg_gl, ↓upd_none, Nat.reduceEqDiff, Nat.reduceBEq, Nat.reduceAdd, Nat.reduceSub, Nat.reduceMul, Nat.reduceLT, Nat.reduceLeDiff, ↓reduceIte, reduceCtorEq, rsOf, rootsOf, SOp.rd, SI.rd, SX.rd, rdL, rdO, rdP, okParts, eqCells, okEqCells, fillA, okFill, setAt, implies_true, forall_const, forall_eq, ne_eq, exists_eq_right_right, exists_eq_right, exists_eq_left, exists_eq_left', eInt, eBool, lit_eq, he0, he1]
  refine Br.dec (fun h1 => ?_) (fun h1 => ?_)
  · have hc : inD d c := hc.resolve_left (by omega)
    have c0 := hc.1
    have c1 := hc.2
    have hp := mW_par V hc
    have e0 : nth d.nodes c.toNat = nd d c := rfl
    have hy := hyes hc
    rw [over_eq V hc] at hy
    have hB := beside_ok (G := G) d V sm c hc 1 (.inl rfl)
    simp -dsimp -implicitDefEqProofs (disch := omega) only [VCA, pg_gl, ↓upd_none, Nat.reduceEqDiff, Nat.reduceBEq, Nat.reduceAdd, Nat.reduceSub, Nat.reduceMul, Nat.reduceLT, Nat.reduceLeDiff, ↓reduceIte, reduceCtorEq, rsOf, rootsOf, SOp.rd, SI.rd, SX.rd, rdL, rdO, rdP, okParts, eqCells, okEqCells, fillA, okFill, setAt, implies_true, forall_const, forall_eq, ne_eq, exists_eq_right_right, exists_eq_right, exists_eq_left, exists_eq_left', eInt, eBool, lit_eq, he0, he1]
    refine pcallE.of (hB) ?_; simp -dsimp -implicitDefEqProofs (disch := omega) only [VCA, pg_gl, ↓upd_none, Nat.reduceEqDiff, Nat.reduceBEq, Nat.reduceAdd, Nat.reduceSub, Nat.reduceMul, Nat.reduceLT, Nat.reduceLeDiff, ↓reduceIte, reduceCtorEq, rsOf, rootsOf, SOp.rd, SI.rd, SX.rd, rdL, rdO, rdP, okParts, eqCells, okEqCells, fillA, okFill, setAt, implies_true, forall_const, forall_eq, ne_eq, exists_eq_right_right, exists_eq_right, exists_eq_left, exists_eq_left', eInt, eBool, lit_eq, he0, he1]
    refine Br.dec (fun h2 => ?_) (fun h2 => ?_)
    · simp -dsimp -implicitDefEqProofs (disch := omega) only [VCA, pg_gl, ↓upd_none, Nat.reduceEqDiff, Nat.reduceBEq, Nat.reduceAdd, Nat.reduceSub, Nat.reduceMul, Nat.reduceLT, Nat.reduceLeDiff, ↓reduceIte, reduceCtorEq, rsOf, rootsOf, SOp.rd, SI.rd, SX.rd, rdL, rdO, rdP, okParts, eqCells, okEqCells, fillA, okFill, setAt, implies_true, forall_const, forall_eq, ne_eq, exists_eq_right_right, exists_eq_right, exists_eq_left, exists_eq_left', eInt, eBool, lit_eq]
      exact ⟨Sub.refl _, by rw [hy, if_pos h2]⟩
    · rw [if_neg (by omega)] at hy
      simp -dsimp -implicitDefEqProofs (disch := omega) only [VCA, pg_gl, ↓upd_none, Nat.reduceEqDiff, Nat.reduceBEq, Nat.reduceAdd, Nat.reduceSub, Nat.reduceMul, Nat.reduceLT, Nat.reduceLeDiff, ↓reduceIte, reduceCtorEq, rsOf, rootsOf, SOp.rd, SI.rd, SX.rd, rdL, rdO, rdP, okParts, eqCells, okEqCells, fillA, okFill, setAt, implies_true, forall_const, forall_eq, ne_eq, exists_eq_right_right, exists_eq_right, exists_eq_left, exists_eq_left', eInt, eBool, lit_eq, he0, he1, eDoc, eNode]
      rw [e0]
      refine ⟨by omega, _, hp.1, (nd d c).parent, rfl, hp.2, rfl, ?_, ?_⟩
      · intro hq; rw [hy, if_neg (by omega)]
      · intro hq; rw [hy, if_pos hq.1]
  · obtain rfl : c = -1 := hc.resolve_right (fun h => by have := h.1; omega)
    simp -dsimp -implicitDefEqProofs (disch := omega) only [VCA, pg_gl, ↓upd_none, Nat.reduceEqDiff, Nat.reduceBEq, Nat.reduceAdd, Nat.reduceSub, Nat.reduceMul, Nat.reduceLT, Nat.reduceLeDiff, ↓reduceIte, reduceCtorEq, rsOf, rootsOf, SOp.rd, SI.rd, SX.rd, rdL, rdO, rdP, okParts, eqCells, okEqCells, fillA, okFill, setAt, implies_true, forall_const, forall_eq, ne_eq, exists_eq_right_right, exists_eq_right, exists_eq_left, exists_eq_left', eInt, eBool, lit_eq]
    exact ⟨Sub.refl _, by rw [hno rfl]⟩
theorem beside_in {d : HDoc} (V : DV d) {n b : Int} (hn : inD d n) (h : 0 ≤ besideW d n b) : inD d (besideW d n b) := by
  unfold besideW at h ⊢
  split at h
  · omega
  · rename_i hp
    rw [if_neg hp]
    simp only at h ⊢
    split at h
    · omega
    · rename_i hq
      rw [if_neg hq]
      have hpi := (V.par_in hn (by omega)).1
      exact (V.kid _ hpi _ (nth_mem' (by omega))).1
def c115 : SFun := ⟨(.seq (.reg [⟨(some 4), (.mv (.c (.int .i64 (0)))), none⟩]) (.seq (.seq (.reg [⟨(some 6), (.mv (.t 0)), none⟩, ⟨(some 7), (.mv (.t 1)), none⟩, ⟨(some 8), (.pcall 118 [(.t 6), (.t 7), (.c (.bool false))]), none⟩, ⟨(some 5), (.mv (.t 8)), none⟩]) (.seq (.reg [⟨(some 9), (.mv (.t 5)), none⟩, ⟨(some 10), (.bin .geq (.t 9) (.c (.int .i64 (0)))), none⟩]) (.cond (.t 10) (.seq (.reg [⟨(some 11), (.mv (.t 5)), none⟩, ⟨(some 4), (.mv (.t 11)), none⟩]) .ret) .skip))) (.seq (.reg [⟨(some 12), (.mv (.t 0)), none⟩, ⟨(some 13), (.mv (.t 1)), none⟩, ⟨(some 14), (.pcall 117 [(.t 12), (.t 13)]), none⟩, ⟨(some 4), (.mv (.t 14)), none⟩]) .ret))), [(.tmp 4)]⟩
theorem hc115 : toSF Tryd.prog {pure := [118, 117]} Tryd.f115 = some c115 := by kernel_rfl
theorem hn115 : (Tryd.f115.name == "runtime.NumGoroutine") = false := by kernel_rfl
theorem next_ok (d : HDoc) (V : DV d) (sm : DocSm d) (n : Int) (hn : inD d n) : PCalls (Pg G) 115 [.pin (eDoc d), aInt n] (aInt (nextW d n)) := fun h => by
  have hK := kid_ok (G := G) d V sm n hn false
  have hO := over_ok (G := G) d V sm n hn
  refine dcalls_of_vc Tryd.func115 hn115 hc115 (by rw [Tryd.ntmps115]; simp) (by rw [Tryd.ntmps115]; decide) ?_
  simp -dsimp -implicitDefEqProofs (disch := omega) only [VCA, pg_gl, ↓upd_none, Nat.reduceEqDiff, Nat.reduceBEq, Nat.reduceAdd, Nat.reduceSub, Nat.reduceMul, Nat.reduceLT, Nat.reduceLeDiff, ↓reduceIte, reduceCtorEq, rsOf, rootsOf, SOp.rd, SI.rd, SX.rd, rdL, rdO, rdP, okParts, eqCells, okEqCells, fillA, okFill, setAt, implies_true, forall_const, forall_eq, ne_eq, exists_eq_right_right, exists_eq_right, exists_eq_left, exists_eq_left', eInt, eBool, lit_eq, c115]
  repeat' (first | ((with_reducible refine Br.dec (fun _ => ?_) (fun _ => ?_)) <;> try (exfalso; omega)) | ((with_reducible refine Br.eq (fun _ => ?_) (fun _ => ?_)) <;> try (exfalso; omega)) | ((with_reducible refine Br.ne (fun _ => ?_) (fun _ => ?_)) <;> try (exfalso; omega)) | ((with_reducible refine brNdec (fun _ => ?_) (fun _ => ?_)) <;> try (exfalso; omega)) | ((with_reducible refine brNeq (fun _ => ?_) (fun _ => ?_)) <;> try (exfalso; omega)) | with_reducible refine Br.intro (fun _ => ?_) (fun _ => ?_) | (with_reducible apply pcallE.of; · exact hK) | (with_reducible apply pcallE.of; · exact hO) | (with_reducible refine And.intro ?_ ?_; · omega) | simp -dsimp -implicitDefEqProofs (disch := omega) only [VCA, pg_gl, ↓upd_none, Nat.reduceEqDiff, Nat.reduceBEq, Nat.reduceAdd, Nat.reduceSub, Nat.reduceMul, Nat.reduceLT, Nat.reduceLeDiff, ↓reduceIte, reduceCtorEq, rsOf, rootsOf, SOp.rd, SI.rd, SX.rd, rdL, rdO, rdP, okParts, eqCells, okEqCells, fillA, okFill, setAt, implies_true, forall_const, forall_eq, ne_eq, exists_eq_right_right, exists_eq_right, exists_eq_left, exists_eq_left', eInt, eBool, lit_eq])
  · rename_i q
    exact ⟨Sub.refl _, by unfold nextW; rw [if_pos q]⟩
  · rename_i q
    exact ⟨Sub.refl _, by unfold nextW; rw [if_neg q]⟩
def c116 : SFun := ⟨(.seq (.reg [⟨(some 4), (.mv (.c (.int .i64 (0)))), none⟩]) (.seq (.reg [⟨(some 6), (.mv (.t 0)), none⟩, ⟨(some 7), (.mv (.t 1)), none⟩, ⟨(some 8), (.pcall 119 [(.t 6), (.t 7), (.c (.int .i64 (-1)))]), none⟩, ⟨(some 5), (.mv (.t 8)), none⟩]) (.seq (.seq (.reg [⟨(some 9), (.mv (.t 5)), none⟩, ⟨(some 10), (.bin .lss (.t 9) (.c (.int .i64 (0)))), none⟩]) (.cond (.t 10) (.seq (.reg [⟨(some 11), (.mv (.t 0)), none⟩, ⟨(some 12), (.fldA 0 (.t 11)), none⟩, ⟨(some 13), (.fldA 0 (.t 12)), none⟩, ⟨(some 14), (.fldA 0 (.t 13)), none⟩, ⟨(some 15), (.ld 1 false (.t 14)), none⟩, ⟨(some 16), (.mv (.t 1)), none⟩, ⟨(some 17), (.idxA 6 (.t 15) (.t 16)), none⟩, ⟨(some 18), (.fldA 4 (.t 17)), none⟩, ⟨(some 19), (.ld 1 false (.t 18)), none⟩, ⟨(some 4), (.mv (.t 19)), none⟩]) .ret) .skip)) (.seq (.block 0 (.loop (.seq (.seq (.reg [⟨(some 20), (.mv (.t 0)), none⟩, ⟨(some 21), (.mv (.t 5)), none⟩, ⟨(some 22), (.pcall 118 [(.t 20), (.t 21), (.c (.bool true))]), none⟩, ⟨(some 23), (.bin .geq (.t 22) (.c (.int .i64 (0)))), none⟩]) (.cond (.t 23) .skip (.exit 0))) (.block 1 (.reg [⟨(some 24), (.mv (.t 0)), none⟩, ⟨(some 25), (.mv (.t 5)), none⟩, ⟨(some 26), (.pcall 118 [(.t 24), (.t 25), (.c (.bool true))]), none⟩, ⟨(some 5), (.mv (.t 26)), none⟩]))))) (.seq (.reg [⟨(some 27), (.mv (.t 5)), none⟩, ⟨(some 4), (.mv (.t 27)), none⟩]) .ret))))), [(.tmp 4)]⟩
theorem hc116 : toSF Tryd.prog {pure := [118, 119]} Tryd.f116 = some c116 := by kernel_rfl
theorem hn116 : (Tryd.f116.name == "runtime.NumGoroutine") = false := by kernel_rfl
theorem last_ok (d : HDoc) (V : DV d) (sm : DocSm d) (n : Int) (hn : inD d n) : PCalls (Pg G) 116 [.pin (eDoc d), aInt n] (aInt (lastW d n)) := fun h => by
  have hB := beside_ok (G := G) d V sm n hn (-1) (.inr rfl)
  have hl := V.len
  have n0 := hn.1
  have n1 := hn.2
  have e0 : nth d.nodes n.toNat = nd d n := rfl
  refine dcalls_of_vc Tryd.func116 hn116 hc116 (by rw [Tryd.ntmps116]; simp) (by rw [Tryd.ntmps116]; decide) ?_
  simp -dsimp -implicitDefEqProofs (disch := omega) only [VCA, pg_gl, ↓upd_none, Nat.reduceEqDiff, Nat.reduceBEq, Nat.reduceAdd, Nat.reduceSub, Nat.reduceMul, Nat.reduceLT, Nat.reduceLeDiff, ↓reduceIte, reduceCtorEq, rsOf, rootsOf, SOp.rd, SI.rd, SX.rd, rdL, rdO, rdP, okParts, eqCells, okEqCells, fillA, okFill, setAt, implies_true, forall_const, forall_eq, ne_eq, exists_eq_right_right, exists_eq_right, exists_eq_left, exists_eq_left', eInt, eBool, lit_eq, c116]
  refine pcallE.of (hB) ?_; simp -dsimp -implicitDefEqProofs (disch := omega) only [VCA, pg_gl, ↓upd_none, Nat.reduceEqDiff, Nat.reduceBEq, Nat.reduceAdd, Nat.reduceSub, Nat.reduceMul, Nat.reduceLT, Nat.reduceLeDiff, ↓reduceIte, reduceCtorEq, rsOf, rootsOf, SOp.rd, SI.rd, SX.rd, rdL, rdO, rdP, okParts, eqCells, okEqCells, fillA, okFill, setAt, implies_true, forall_const, forall_eq, ne_eq, exists_eq_right_right, exists_eq_right, exists_eq_left, exists_eq_left', eInt, eBool, lit_eq]
  refine Br.dec (fun h1 => ?_) (fun h1 => ?_)
  · simp -dsimp -implicitDefEqProofs (disch := omega) only [VCA, pg_gl, ↓upd_none, Nat.reduceEqDiff, Nat.reduceBEq, Nat.reduceAdd, Nat.reduceSub, Nat.reduceMul, Nat.reduceLT, Nat.reduceLeDiff, ↓reduceIte, reduceCtorEq, rsOf, rootsOf, SOp.rd, SI.rd, SX.rd, rdL, rdO, rdP, okParts, eqCells, okEqCells, fillA, okFill, setAt, implies_true, forall_const, forall_eq, ne_eq, exists_eq_right_right, exists_eq_right, exists_eq_left, exists_eq_left', eInt, eBool, lit_eq, eDoc, eNode]
    exact ⟨by omega, Sub.refl _, by unfold lastW; rw [if_pos h1, e0]⟩
  · simp -dsimp -implicitDefEqProofs (disch := omega) only [VCA, pg_gl, ↓upd_none, Nat.reduceEqDiff, Nat.reduceBEq, Nat.reduceAdd, Nat.reduceSub, Nat.reduceMul, Nat.reduceLT, Nat.reduceLeDiff, ↓reduceIte, reduceCtorEq, rsOf, rootsOf, SOp.rd, SI.rd, SX.rd, rdL, rdO, rdP, okParts, eqCells, okEqCells, fillA, okFill, setAt, implies_true, forall_const, forall_eq, ne_eq, exists_eq_right_right, exists_eq_right, exists_eq_left, exists_eq_left', eInt, eBool, lit_eq]
    have hb := beside_in V hn (show 0 ≤ besideW d n (-1) by omega)
    refine LoopVC.intro (fun m e h' => ∃ (c : Int) (f : Nat), m = f ∧ 40 ≤ f + up d c ∧ inD d c ∧ e 0 = .pin (eDoc d) ∧ e 5 = aInt c ∧ h' = h ∧ downF f d c = lastW d n) _ ⟨besideW d n (-1), 40, rfl, by omega, hb, rfl, rfl, rfl, by unfold lastW downW; rw [if_neg h1]⟩ ?_
    rintro m e h' ⟨c, f, hm, hf, hc, he0, he5, rfl, hd⟩
    have hK := kid_ok (G := G) d V sm c hc true
    simp -dsimp -implicitDefEqProofs (disch := omega) only [VCA, pg_gl, ↓upd_none, Nat.reduceEqDiff, Nat.reduceBEq, Nat.reduceAdd, Nat.reduceSub, Nat.reduceMul, Nat.reduceLT, Nat.reduceLeDiff, ↓reduceIte, reduceCtorEq, rsOf, rootsOf, SOp.rd, SI.rd, SX.rd, rdL, rdO, rdP, okParts, eqCells, okEqCells, fillA, okFill, setAt, implies_true, forall_const, forall_eq, ne_eq, exists_eq_right_right, exists_eq_right, exists_eq_left, exists_eq_left', eInt, eBool, lit_eq, he0, he5]
    refine pcallE.of (hK) ?_; simp -dsimp -implicitDefEqProofs (disch := omega) only [VCA, pg_gl, ↓upd_none, Nat.reduceEqDiff, Nat.reduceBEq, Nat.reduceAdd, Nat.reduceSub, Nat.reduceMul, Nat.reduceLT, Nat.reduceLeDiff, ↓reduceIte, reduceCtorEq, rsOf, rootsOf, SOp.rd, SI.rd, SX.rd, rdL, rdO, rdP, okParts, eqCells, okEqCells, fillA, okFill, setAt, implies_true, forall_const, forall_eq, ne_eq, exists_eq_right_right, exists_eq_right, exists_eq_left, exists_eq_left', eInt, eBool, lit_eq, he0, he5]
    refine Br.dec (fun h2 => ?_) (fun h2 => ?_)
    · have hk := kid_yes V (b := true) hc ((kid_ge V hc).1 (by omega))
      have hu := V.up_kid hc hk.1
      have hdd := V.deep _ hk.2
      simp -dsimp -implicitDefEqProofs (disch := omega) only [VCA, pg_gl, ↓upd_none, Nat.reduceEqDiff, Nat.reduceBEq, Nat.reduceAdd, Nat.reduceSub, Nat.reduceMul, Nat.reduceLT, Nat.reduceLeDiff, ↓reduceIte, reduceCtorEq, rsOf, rootsOf, SOp.rd, SI.rd, SX.rd, rdL, rdO, rdP, okParts, eqCells, okEqCells, fillA, okFill, setAt, implies_true, forall_const, forall_eq, ne_eq, exists_eq_right_right, exists_eq_right, exists_eq_left, exists_eq_left', eInt, eBool, lit_eq, he0, he5]
      refine pcallE.of (hK) ?_; simp -dsimp -implicitDefEqProofs (disch := omega) only [VCA, pg_gl, ↓upd_none, Nat.reduceEqDiff, Nat.reduceBEq, Nat.reduceAdd, Nat.reduceSub, Nat.reduceMul, Nat.reduceLT, Nat.reduceLeDiff, ↓reduceIte, reduceCtorEq, rsOf, rootsOf, SOp.rd, SI.rd, SX.rd, rdL, rdO, rdP, okParts, eqCells, okEqCells, fillA, okFill, setAt, implies_true, forall_const, forall_eq, ne_eq, exists_eq_right_right, exists_eq_right, exists_eq_left, exists_eq_left', eInt, eBool, lit_eq, he0, he5]
      obtain ⟨f', rfl⟩ : ∃ f', f = f' + 1 := ⟨f - 1, by omega⟩
      subst hm
      rw [downF, if_pos (by omega)] at hd
      exact ⟨f', by omega, kidW d c true, by omega, hk.2, rfl, hd⟩
    · simp -dsimp -implicitDefEqProofs (disch := omega) only [VCA, pg_gl, ↓upd_none, Nat.reduceEqDiff, Nat.reduceBEq, Nat.reduceAdd, Nat.reduceSub, Nat.reduceMul, Nat.reduceLT, Nat.reduceLeDiff, ↓reduceIte, reduceCtorEq, rsOf, rootsOf, SOp.rd, SI.rd, SX.rd, rdL, rdO, rdP, okParts, eqCells, okEqCells, fillA, okFill, setAt, implies_true, forall_const, forall_eq, ne_eq, exists_eq_right_right, exists_eq_right, exists_eq_left, exists_eq_left', eInt, eBool, lit_eq, he5]
      refine ⟨Sub.refl _, ?_⟩
      rw [← hd]
      cases f with
      | zero => rfl
      | succ f => rw [downF, if_neg (by omega)]
def c71 : SFun := ⟨(.seq (.reg [⟨(some 6), (.mv (.c (.int .i64 (0)))), none⟩]) (.seq (.seq (.reg [⟨(some 7), (.mv (.t 2)), none⟩]) (.block 0 (.seq (.reg [⟨(some 9), (.bin .eql (.t 7) (.c (.int .i64 (1)))), none⟩, ⟨(some 8), (.mv (.t 9)), none⟩]) (.cond (.t 8) (.seq (.reg [⟨(some 10), (.mv (.t 0)), none⟩, ⟨(some 11), (.mv (.t 1)), none⟩, ⟨(some 12), (.pcall 115 [(.t 10), (.t 11)]), none⟩, ⟨(some 6), (.mv (.t 12)), none⟩]) .ret) (.seq (.reg [⟨(some 14), (.bin .eql (.t 7) (.c (.int .i64 (2)))), none⟩, ⟨(some 13), (.mv (.t 14)), none⟩]) (.cond (.t 13) (.seq (.reg [⟨(some 15), (.mv (.t 0)), none⟩, ⟨(some 16), (.mv (.t 1)), none⟩, ⟨(some 17), (.pcall 116 [(.t 15), (.t 16)]), none⟩, ⟨(some 6), (.mv (.t 17)), none⟩]) .ret) (.seq (.reg [⟨(some 19), (.bin .eql (.t 7) (.c (.int .i64 (3)))), none⟩, ⟨(some 18), (.mv (.t 19)), none⟩]) (.cond (.t 18) (.seq (.reg [⟨(some 20), (.mv (.t 0)), none⟩, ⟨(some 21), (.mv (.t 1)), none⟩, ⟨(some 22), (.pcall 117 [(.t 20), (.t 21)]), none⟩, ⟨(some 6), (.mv (.t 22)), none⟩]) .ret) (.seq (.seq (.reg [⟨(some 24), (.bin .eql (.t 7) (.c (.int .i64 (4)))), none⟩, ⟨(some 23), (.mv (.t 24)), none⟩]) (.cond (.t 23) .skip (.reg [⟨(some 25), (.bin .eql (.t 7) (.c (.int .i64 (5)))), none⟩, ⟨(some 23), (.mv (.t 25)), none⟩]))) (.cond (.t 23) (.seq (.reg [⟨(some 26), (.mv (.t 0)), none⟩, ⟨(some 27), (.mv (.t 1)), none⟩, ⟨(some 28), (.mv (.t 2)), none⟩, ⟨(some 29), (.bin .eql (.t 28) (.c (.int .i64 (5)))), none⟩, ⟨(some 30), (.pcall 118 [(.t 26), (.t 27), (.t 29)]), none⟩, ⟨(some 6), (.mv (.t 30)), none⟩]) .ret) (.seq (.reg [⟨(some 32), (.bin .eql (.t 7) (.c (.int .i64 (6)))), none⟩, ⟨(some 31), (.mv (.t 32)), none⟩]) (.cond (.t 31) (.seq (.reg [⟨(some 33), (.mv (.t 0)), none⟩, ⟨(some 34), (.mv (.t 1)), none⟩, ⟨(some 35), (.pcall 119 [(.t 33), (.t 34), (.c (.int .i64 (1)))]), none⟩, ⟨(some 6), (.mv (.t 35)), none⟩]) .ret) (.seq (.reg [⟨(some 37), (.bin .eql (.t 7) (.c (.int .i64 (7)))), none⟩, ⟨(some 36), (.mv (.t 37)), none⟩]) (.cond (.t 36) (.seq (.reg [⟨(some 38), (.mv (.t 0)), none⟩, ⟨(some 39), (.mv (.t 1)), none⟩, ⟨(some 40), (.pcall 119 [(.t 38), (.t 39), (.c (.int .i64 (-1)))]), none⟩, ⟨(some 6), (.mv (.t 40)), none⟩]) .ret) .skip)))))))))))))) (.seq (.reg [⟨(some 41), (.mv (.t 0)), none⟩, ⟨(some 42), (.fldA 0 (.t 41)), none⟩, ⟨(some 43), (.fldA 0 (.t 42)), none⟩, ⟨(some 44), (.fldA 0 (.t 43)), none⟩, ⟨(some 45), (.ld 1 false (.t 44)), none⟩, ⟨(some 46), (.mv (.t 1)), none⟩, ⟨(some 47), (.idxA 6 (.t 45) (.t 46)), none⟩, ⟨(some 48), (.fldA 4 (.t 47)), none⟩, ⟨(some 49), (.ld 1 false (.t 48)), none⟩, ⟨(some 6), (.mv (.t 49)), none⟩]) .ret))), [(.tmp 6)]⟩
theorem hc71 : toSF Tryd.prog {pure := [118, 119, 115, 116, 117]} Tryd.f71 = some c71 := by kernel_rfl
theorem hn71 : (Tryd.f71.name == "runtime.NumGoroutine") = false := by kernel_rfl
theorem step_ok (d : HDoc) (V : DV d) (sm : DocSm d) (n how : Int) (hn : inD d n) : PCalls (Pg G) 71 [.pin (eDoc d), aInt n, aInt how] (aInt (stepW d n how)) := fun h => by
  have hB := beside_ok (G := G) d V sm n hn (-1) (.inr rfl)
  have hB' := beside_ok (G := G) d V sm n hn 1 (.inl rfl)
  have hK := fun b => kid_ok (G := G) d V sm n hn b
  have hN := next_ok (G := G) d V sm n hn
  have hL := last_ok (G := G) d V sm n hn
  have hO := over_ok (G := G) d V sm n hn
  have hl := V.len
  have n0 := hn.1
  have n1 := hn.2
  have e0 : nth d.nodes n.toNat = nd d n := rfl
  refine dcalls_of_vc Tryd.func71 hn71 hc71 (by rw [Tryd.ntmps71]; simp) (by rw [Tryd.ntmps71]; decide) ?_
  unfold stepW
  by_cases h1 : how = 1
  · rw [if_pos h1]
    simp -dsimp -implicitDefEqProofs (disch := omega) only [VCA, pg_gl, ↓upd_none, Nat.reduceEqDiff, Nat.reduceBEq, Nat.reduceAdd, Nat.reduceSub, Nat.reduceMul, Nat.reduceLT, Nat.reduceLeDiff, ↓reduceIte, reduceCtorEq, rsOf, rootsOf, SOp.rd, SI.rd, SX.rd, rdL, rdO, rdP, okParts, eqCells, okEqCells, fillA, okFill, setAt, implies_true, forall_const, forall_eq, ne_eq, exists_eq_right_right, exists_eq_right, exists_eq_left, exists_eq_left', eInt, eBool, lit_eq, c71, h1]
    repeat' (first | ((with_reducible refine Br.dec (fun _ => ?_) (fun _ => ?_)) <;> try (exfalso; omega)) | ((with_reducible refine Br.eq (fun _ => ?_) (fun _ => ?_)) <;> try (exfalso; omega)) | ((with_reducible refine Br.ne (fun _ => ?_) (fun _ => ?_)) <;> try (exfalso; omega)) | ((with_reducible refine brNdec (fun _ => ?_) (fun _ => ?_)) <;> try (exfalso; omega)) | ((with_reducible refine brNeq (fun _ => ?_) (fun _ => ?_)) <;> try (exfalso; omega)) | with_reducible refine Br.intro (fun _ => ?_) (fun _ => ?_) | (with_reducible apply pcallE.of; · exact hN) | (with_reducible refine And.intro ?_ ?_; · omega) | simp -dsimp -implicitDefEqProofs (disch := omega) only [VCA, pg_gl, ↓upd_none, Nat.reduceEqDiff, Nat.reduceBEq, Nat.reduceAdd, Nat.reduceSub, Nat.reduceMul, Nat.reduceLT, Nat.reduceLeDiff, ↓reduceIte, reduceCtorEq, rsOf, rootsOf, SOp.rd, SI.rd, SX.rd, rdL, rdO, rdP, okParts, eqCells, okEqCells, fillA, okFill, setAt, implies_true, forall_const, forall_eq, ne_eq, exists_eq_right_right, exists_eq_right, exists_eq_left, exists_eq_left', eInt, eBool, lit_eq])
    all_goals exact Sub.refl _
  rw [if_neg h1]
  by_cases h2 : how = 2
  · rw [if_pos h2]
    simp -dsimp -implicitDefEqProofs (disch := omega) only [VCA, pg_gl, ↓upd_none, Nat.reduceEqDiff, Nat.reduceBEq, Nat.reduceAdd, Nat.reduceSub, Nat.reduceMul, Nat.reduceLT, Nat.reduceLeDiff, ↓reduceIte, reduceCtorEq, rsOf, rootsOf, SOp.rd, SI.rd, SX.rd, rdL, rdO, rdP, okParts, eqCells, okEqCells, fillA, okFill, setAt, implies_true, forall_const, forall_eq, ne_eq, exists_eq_right_right, exists_eq_right, exists_eq_left, exists_eq_left', eInt, eBool, lit_eq, c71, h2]
    repeat' (first | ((with_reducible refine Br.dec (fun _ => ?_) (fun _ => ?_)) <;> try (exfalso; omega)) | ((with_reducible refine Br.eq (fun _ => ?_) (fun _ => ?_)) <;> try (exfalso; omega)) | ((with_reducible refine Br.ne (fun _ => ?_) (fun _ => ?_)) <;> try (exfalso; omega)) | ((with_reducible refine brNdec (fun _ => ?_) (fun _ => ?_)) <;> try (exfalso; omega)) | ((with_reducible refine brNeq (fun _ => ?_) (fun _ => ?_)) <;> try (exfalso; omega)) | with_reducible refine Br.intro (fun _ => ?_) (fun _ => ?_) | (with_reducible apply pcallE.of; · exact hL) | (with_reducible refine And.intro ?_ ?_; · omega) | simp -dsimp -implicitDefEqProofs (disch := omega) only [VCA, pg_gl, ↓upd_none, Nat.reduceEqDiff, Nat.reduceBEq, Nat.reduceAdd, Nat.reduceSub, Nat.reduceMul, Nat.reduceLT, Nat.reduceLeDiff, ↓reduceIte, reduceCtorEq, rsOf, rootsOf, SOp.rd, SI.rd, SX.rd, rdL, rdO, rdP, okParts, eqCells, okEqCells, fillA, okFill, setAt, implies_true, forall_const, forall_eq, ne_eq, exists_eq_right_right, exists_eq_right, exists_eq_left, exists_eq_left', eInt, eBool, lit_eq])
    all_goals exact Sub.refl _
  rw [if_neg h2]
  by_cases h3 : how = 3
  · rw [if_pos h3]
    simp -dsimp -implicitDefEqProofs (disch := omega) only [VCA, pg_gl, ↓upd_none, Nat.reduceEqDiff, Nat.reduceBEq, Nat.reduceAdd, Nat.reduceSub, Nat.reduceMul, Nat.reduceLT, Nat.reduceLeDiff, ↓reduceIte, reduceCtorEq, rsOf, rootsOf, SOp.rd, SI.rd, SX.rd, rdL, rdO, rdP, okParts, eqCells, okEqCells, fillA, okFill, setAt, implies_true, forall_const, forall_eq, ne_eq, exists_eq_right_right, exists_eq_right, exists_eq_left, exists_eq_left', eInt, eBool, lit_eq, c71, h3]
    repeat' (first | ((with_reducible refine Br.dec (fun _ => ?_) (fun _ => ?_)) <;> try (exfalso; omega)) | ((with_reducible refine Br.eq (fun _ => ?_) (fun _ => ?_)) <;> try (exfalso; omega)) | ((with_reducible refine Br.ne (fun _ => ?_) (fun _ => ?_)) <;> try (exfalso; omega)) | ((with_reducible refine brNdec (fun _ => ?_) (fun _ => ?_)) <;> try (exfalso; omega)) | ((with_reducible refine brNeq (fun _ => ?_) (fun _ => ?_)) <;> try (exfalso; omega)) | with_reducible refine Br.intro (fun _ => ?_) (fun _ => ?_) | (with_reducible apply pcallE.of; · exact hO) | (with_reducible refine And.intro ?_ ?_; · omega) | simp -dsimp -implicitDefEqProofs (disch := omega) only [VCA, pg_gl, ↓upd_none, Nat.reduceEqDiff, Nat.reduceBEq, Nat.reduceAdd, Nat.reduceSub, Nat.reduceMul, Nat.reduceLT, Nat.reduceLeDiff, ↓reduceIte, reduceCtorEq, rsOf, rootsOf, SOp.rd, SI.rd, SX.rd, rdL, rdO, rdP, okParts, eqCells, okEqCells, fillA, okFill, setAt, implies_true, forall_const, forall_eq, ne_eq, exists_eq_right_right, exists_eq_right, exists_eq_left, exists_eq_left', eInt, eBool, lit_eq])
    all_goals exact Sub.refl _
  rw [if_neg h3]
  by_cases h4 : how = 4
  · rw [if_pos h4]
    simp -dsimp -implicitDefEqProofs (disch := omega) only [VCA, pg_gl, ↓upd_none, Nat.reduceEqDiff, Nat.reduceBEq, Nat.reduceAdd, Nat.reduceSub, Nat.reduceMul, Nat.reduceLT, Nat.reduceLeDiff, ↓reduceIte, reduceCtorEq, rsOf, rootsOf, SOp.rd, SI.rd, SX.rd, rdL, rdO, rdP, okParts, eqCells, okEqCells, fillA, okFill, setAt, implies_true, forall_const, forall_eq, ne_eq, exists_eq_right_right, exists_eq_right, exists_eq_left, exists_eq_left', eInt, eBool, lit_eq, c71, h4]
    repeat' (first | ((with_reducible refine Br.dec (fun _ => ?_) (fun _ => ?_)) <;> try (exfalso; omega)) | ((with_reducible refine Br.eq (fun _ => ?_) (fun _ => ?_)) <;> try (exfalso; omega)) | ((with_reducible refine Br.ne (fun _ => ?_) (fun _ => ?_)) <;> try (exfalso; omega)) | ((with_reducible refine brNdec (fun _ => ?_) (fun _ => ?_)) <;> try (exfalso; omega)) | ((with_reducible refine brNeq (fun _ => ?_) (fun _ => ?_)) <;> try (exfalso; omega)) | with_reducible refine Br.intro (fun _ => ?_) (fun _ => ?_) | (with_reducible apply pcallE.of; · exact hK ((4 : Int) == 5)) | (with_reducible refine And.intro ?_ ?_; · omega) | simp -dsimp -implicitDefEqProofs (disch := omega) only [VCA, pg_gl, ↓upd_none, Nat.reduceEqDiff, Nat.reduceBEq, Nat.reduceAdd, Nat.reduceSub, Nat.reduceMul, Nat.reduceLT, Nat.reduceLeDiff, ↓reduceIte, reduceCtorEq, rsOf, rootsOf, SOp.rd, SI.rd, SX.rd, rdL, rdO, rdP, okParts, eqCells, okEqCells, fillA, okFill, setAt, implies_true, forall_const, forall_eq, ne_eq, exists_eq_right_right, exists_eq_right, exists_eq_left, exists_eq_left', eInt, eBool, lit_eq])
    all_goals exact ⟨Sub.refl _, rfl⟩
  rw [if_neg h4]
  by_cases h5 : how = 5
  · rw [if_pos h5]
    simp -dsimp -implicitDefEqProofs (disch := omega) only [VCA, pg_gl, ↓upd_none, Nat.reduceEqDiff, Nat.reduceBEq, Nat.reduceAdd, Nat.reduceSub, Nat.reduceMul, Nat.reduceLT, Nat.reduceLeDiff, ↓reduceIte, reduceCtorEq, rsOf, rootsOf, SOp.rd, SI.rd, SX.rd, rdL, rdO, rdP, okParts, eqCells, okEqCells, fillA, okFill, setAt, implies_true, forall_const, forall_eq, ne_eq, exists_eq_right_right, exists_eq_right, exists_eq_left, exists_eq_left', eInt, eBool, lit_eq, c71, h5]
    repeat' (first | ((with_reducible refine Br.dec (fun _ => ?_) (fun _ => ?_)) <;> try (exfalso; omega)) | ((with_reducible refine Br.eq (fun _ => ?_) (fun _ => ?_)) <;> try (exfalso; omega)) | ((with_reducible refine Br.ne (fun _ => ?_) (fun _ => ?_)) <;> try (exfalso; omega)) | ((with_reducible refine brNdec (fun _ => ?_) (fun _ => ?_)) <;> try (exfalso; omega)) | ((with_reducible refine brNeq (fun _ => ?_) (fun _ => ?_)) <;> try (exfalso; omega)) | with_reducible refine Br.intro (fun _ => ?_) (fun _ => ?_) | (with_reducible apply pcallE.of; · exact hK ((5 : Int) == 5)) | (with_reducible refine And.intro ?_ ?_; · omega) | simp -dsimp -implicitDefEqProofs (disch := omega) only [VCA, pg_gl, ↓upd_none, Nat.reduceEqDiff, Nat.reduceBEq, Nat.reduceAdd, Nat.reduceSub, Nat.reduceMul, Nat.reduceLT, Nat.reduceLeDiff, ↓reduceIte, reduceCtorEq, rsOf, rootsOf, SOp.rd, SI.rd, SX.rd, rdL, rdO, rdP, okParts, eqCells, okEqCells, fillA, okFill, setAt, implies_true, forall_const, forall_eq, ne_eq, exists_eq_right_right, exists_eq_right, exists_eq_left, exists_eq_left', eInt, eBool, lit_eq])
    all_goals exact ⟨Sub.refl _, rfl⟩
  rw [if_neg h5]
  by_cases h6 : how = 6
  · rw [if_pos h6]
    simp -dsimp -implicitDefEqProofs (disch := omega) only [VCA, pg_gl, ↓upd_none, Nat.reduceEqDiff, Nat.reduceBEq, Nat.reduceAdd, Nat.reduceSub, Nat.reduceMul, Nat.reduceLT, Nat.reduceLeDiff, ↓reduceIte, reduceCtorEq, rsOf, rootsOf, SOp.rd, SI.rd, SX.rd, rdL, rdO, rdP, okParts, eqCells, okEqCells, fillA, okFill, setAt, implies_true, forall_const, forall_eq, ne_eq, exists_eq_right_right, exists_eq_right, exists_eq_left, exists_eq_left', eInt, eBool, lit_eq, c71, h6]
    repeat' (first | ((with_reducible refine Br.dec (fun _ => ?_) (fun _ => ?_)) <;> try (exfalso; omega)) | ((with_reducible refine Br.eq (fun _ => ?_) (fun _ => ?_)) <;> try (exfalso; omega)) | ((with_reducible refine Br.ne (fun _ => ?_) (fun _ => ?_)) <;> try (exfalso; omega)) | ((with_reducible refine brNdec (fun _ => ?_) (fun _ => ?_)) <;> try (exfalso; omega)) | ((with_reducible refine brNeq (fun _ => ?_) (fun _ => ?_)) <;> try (exfalso; omega)) | with_reducible refine Br.intro (fun _ => ?_) (fun _ => ?_) | (with_reducible apply pcallE.of; · exact hB') | (with_reducible refine And.intro ?_ ?_; · omega) | simp -dsimp -implicitDefEqProofs (disch := omega) only [VCA, pg_gl, ↓upd_none, Nat.reduceEqDiff, Nat.reduceBEq, Nat.reduceAdd, Nat.reduceSub, Nat.reduceMul, Nat.reduceLT, Nat.reduceLeDiff, ↓reduceIte, reduceCtorEq, rsOf, rootsOf, SOp.rd, SI.rd, SX.rd, rdL, rdO, rdP, okParts, eqCells, okEqCells, fillA, okFill, setAt, implies_true, forall_const, forall_eq, ne_eq, exists_eq_right_right, exists_eq_right, exists_eq_left, exists_eq_left', eInt, eBool, lit_eq])
    all_goals exact Sub.refl _
  rw [if_neg h6]
  by_cases h7 : how = 7
  · rw [if_pos h7]
    simp -dsimp -implicitDefEqProofs (disch := omega) only [VCA, pg_gl, ↓upd_none, Nat.reduceEqDiff, Nat.reduceBEq, Nat.reduceAdd, Nat.reduceSub, Nat.reduceMul, Nat.reduceLT, Nat.reduceLeDiff, ↓reduceIte, reduceCtorEq, rsOf, rootsOf, SOp.rd, SI.rd, SX.rd, rdL, rdO, rdP, okParts, eqCells, okEqCells, fillA, okFill, setAt, implies_true, forall_const, forall_eq, ne_eq, exists_eq_right_right, exists_eq_right, exists_eq_left, exists_eq_left', eInt, eBool, lit_eq, c71, h7]
    repeat' (first | ((with_reducible refine Br.dec (fun _ => ?_) (fun _ => ?_)) <;> try (exfalso; omega)) | ((with_reducible refine Br.eq (fun _ => ?_) (fun _ => ?_)) <;> try (exfalso; omega)) | ((with_reducible refine Br.ne (fun _ => ?_) (fun _ => ?_)) <;> try (exfalso; omega)) | ((with_reducible refine brNdec (fun _ => ?_) (fun _ => ?_)) <;> try (exfalso; omega)) | ((with_reducible refine brNeq (fun _ => ?_) (fun _ => ?_)) <;> try (exfalso; omega)) | with_reducible refine Br.intro (fun _ => ?_) (fun _ => ?_) | (with_reducible apply pcallE.of; · exact hB) | (with_reducible refine And.intro ?_ ?_; · omega) | simp -dsimp -implicitDefEqProofs (disch := omega) only [VCA, pg_gl, ↓upd_none, Nat.reduceEqDiff, Nat.reduceBEq, Nat.reduceAdd, Nat.reduceSub, Nat.reduceMul, Nat.reduceLT, Nat.reduceLeDiff, ↓reduceIte, reduceCtorEq, rsOf, rootsOf, SOp.rd, SI.rd, SX.rd, rdL, rdO, rdP, okParts, eqCells, okEqCells, fillA, okFill, setAt, implies_true, forall_const, forall_eq, ne_eq, exists_eq_right_right, exists_eq_right, exists_eq_left, exists_eq_left', eInt, eBool, lit_eq])
    all_goals exact Sub.refl _
  rw [if_neg h7]
  simp -dsimp -implicitDefEqProofs (disch := omega) only [VCA, pg_gl, ↓upd_none, Nat.reduceEqDiff, Nat.reduceBEq, Nat.reduceAdd, Nat.reduceSub, Nat.reduceMul, Nat.reduceLT, Nat.reduceLeDiff, ↓reduceIte, reduceCtorEq, rsOf, rootsOf, SOp.rd, SI.rd, SX.rd, rdL, rdO, rdP, okParts, eqCells, okEqCells, fillA, okFill, setAt, implies_true, forall_const, forall_eq, ne_eq, exists_eq_right_right, exists_eq_right, exists_eq_left, exists_eq_left', eInt, eBool, lit_eq, c71, h1, h2, h3, h4, h5, h6, h7]
  repeat' (first | ((with_reducible refine Br.dec (fun _ => ?_) (fun _ => ?_)) <;> try (exfalso; omega)) | ((with_reducible refine Br.eq (fun _ => ?_) (fun _ => ?_)) <;> try (exfalso; omega)) | ((with_reducible refine Br.ne (fun _ => ?_) (fun _ => ?_)) <;> try (exfalso; omega)) | ((with_reducible refine brNdec (fun _ => ?_) (fun _ => ?_)) <;> try (exfalso; omega)) | ((with_reducible refine brNeq (fun _ => ?_) (fun _ => ?_)) <;> try (exfalso; omega)) | with_reducible refine Br.intro (fun _ => ?_) (fun _ => ?_) | (with_reducible refine And.intro ?_ ?_; · omega) | simp -dsimp -implicitDefEqProofs (disch := omega) only [VCA, pg_gl, ↓upd_none, Nat.reduceEqDiff, Nat.reduceBEq, Nat.reduceAdd, Nat.reduceSub, Nat.reduceMul, Nat.reduceLT, Nat.reduceLeDiff, ↓reduceIte, reduceCtorEq, rsOf, rootsOf, SOp.rd, SI.rd, SX.rd, rdL, rdO, rdP, okParts, eqCells, okEqCells, fillA, okFill, setAt, implies_true, forall_const, forall_eq, ne_eq, exists_eq_right_right, exists_eq_right, exists_eq_left, exists_eq_left', eInt, eBool, lit_eq, eDoc, eNode])
  rw [e0]
  exact ⟨Sub.refl _, rfl⟩
end Go.Proofs.K
