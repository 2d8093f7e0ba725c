/- Texts of this claim, one behind the other. -/
import Derived.Test.YtoolkpnnllfhgaaDoorM6
import Derived.Test.YtoolkpnnllfhgaaDoorM4
section
set_option linter.unusedSimpArgs false
set_option linter.unusedVariables false
namespace Go.Proofs.K
open Go Go.Sim Go.Proofs
variable {G : Glob}
theorem Dw.add {X : List Nat} {h0 h h2 : Heap} {rN rN' : Nat} {d : HDoc} {sl : Nat → AVal} (E : Dw X h0 h rN d sl) {x : HNode} {a' : AVal} (hk : x.kids = [])
    (hN : h2 rN' = some ⟨.t 29, 6, rowsA d sl ++ [rowA x a' .emp]⟩)
    (kp : ∀ r o, h r = some o → r ≠ rN → h2 r = some o) (O : OwnS h2 71 2 (x.attrs.map eAttr) a') (fr : ∀ r, rootOf a' = some r → h0 r = none ∧ r ∉ X ∧ r ≠ rN' ∧ ∀ k, k < 2 * d.nodes.length → rootOf (sl k) ≠ some r) (fN : rN' = rN ∨ h rN' = none) :
    Dw X h0 h2 rN' (addN d x) (upd (upd sl (2 * d.nodes.length) a') (2 * d.nodes.length + 1) .emp) := by
  have hold : ∀ k, k < 2 * d.nodes.length → upd (upd sl (2 * d.nodes.length) a') (2 * d.nodes.length + 1) .emp k = sl k := fun k hk => by rw [upd_ne _ _ (by omega), upd_ne _ _ (by omega)]
  have hnew : upd (upd sl (2 * d.nodes.length) a') (2 * d.nodes.length + 1) .emp (2 * d.nodes.length) = a' := by rw [upd_ne _ _ (by omega), upd_same]
  have hnew2 : upd (upd sl (2 * d.nodes.length) a') (2 * d.nodes.length + 1) AVal.emp (2 * d.nodes.length + 1) = .emp := upd_same _ _ _
  have some_ne : ∀ r o, h r = some o → r ≠ rN → r ≠ rN' := fun r o ho hne e => by
    rcases fN with h1 | h1
    · exact hne (e.trans h1)
    · rw [e, h1] at ho; cases ho
  generalize hs : upd (upd sl (2 * d.nodes.length) a') (2 * d.nodes.length + 1) .emp = sl' at *
  have rws : rowsA (addN d x) sl' = rowsA d sl ++ [rowA x a' .emp] := by rw [← hs]; exact rowsA_add
  have nX : ∀ r, h r = none → r ∉ X := fun r hr q => by obtain ⟨o, ho⟩ := E.keep r q; rw [hr] at ho; cases ho
  have fa : ∀ r, rootOf a' = some r → h0 r = none ∧ r ≠ rN' ∧ r ∉ X := fun r hr => ⟨(fr r hr).1, (fr r hr).2.2.1, (fr r hr).2.1⟩
  have ks : ∀ k, k < 2 * (d.nodes.length + 1) → k < 2 * d.nodes.length ∨ k = 2 * d.nodes.length ∨ k = 2 * d.nodes.length + 1 := fun k hk => by omega
  have rne : ∀ k, k < 2 * d.nodes.length → ∀ r, rootOf (sl k) = some r → r ≠ rN := fun k hk r hr => (E.fresh k hk r hr).2.1
  refine ⟨fun t o ht => ?_, by rw [hN, rws], ⟨?_, ?_⟩, fun i hi => ?_, fun k hk' r hr => ?_, fun j k hj hk' hne r hr => ?_, fun r hr => ?_⟩
  · exact kp t o (E.sub t o ht) (fun e => by rw [e, E.new.1] at ht; cases ht)
  · rcases fN with h1 | h1
    · rw [h1]; exact E.new.1
    · exact E.sub.none h1
  · rcases fN with h1 | h1
    · rw [h1]; exact E.new.2
    · exact nX _ h1
  · rw [addN_len] at hi
    by_cases hl : i < d.nodes.length
    · have e1 : nth (addN d x).nodes i = nth d.nodes i := by
        unfold addN nth; rw [List.getD_eq_getElem?_getD, List.getD_eq_getElem?_getD, List.getElem?_append_left hl]
      rw [e1, hold _ (by omega), hold _ (by omega)]
      obtain ⟨g1, g2⟩ := E.own i hl
      exact ⟨g1.keep fun r o hr ho => kp r o ho (rne _ (by omega) r hr), g2.keep fun r o hr ho => kp r o ho (rne _ (by omega) r hr)⟩
    · have e0 : i = d.nodes.length := by omega
      subst e0
      have e1 : nth (addN d x).nodes d.nodes.length = x := by unfold addN nth; rw [List.getD_eq_getElem?_getD]; simp
      rw [e1, hnew, hnew2, hk]
      exact ⟨O, .inl ⟨rfl, rfl⟩⟩
  · rw [addN_len] at hk'
    rcases ks k hk' with h1 | h1 | h1
    · rw [hold k h1] at hr
      have := E.fresh k h1 r hr
      obtain ⟨o, ho⟩ := E.slot h1 hr
      exact ⟨this.1, some_ne r o ho this.2.1, this.2.2⟩
    · rw [h1, hnew] at hr; exact fa r hr
    · rw [h1, hnew2] at hr; cases hr
  · rw [addN_len] at hj hk'
    rcases ks j hj with h1 | h1 | h1
    · rw [hold j h1] at hr
      rcases ks k hk' with h2 | h2 | h2
      · rw [hold k h2]; exact E.sep j k h1 h2 hne r hr
      · rw [h2, hnew]; intro h3
        exact (fr r h3).2.2.2 j h1 hr
      · rw [h2, hnew2]; intro h3; cases h3
    · rw [h1, hnew] at hr
      rcases ks k hk' with h2 | h2 | h2
      · rw [hold k h2]; intro h3
        exact (fr r hr).2.2.2 k h2 h3
      · omega
      · rw [h2, hnew2]; intro h3; cases h3
    · rw [h1, hnew2] at hr; cases hr
  · obtain ⟨o, ho⟩ := E.keep r hr
    exact ⟨o, kp r o ho (fun e => E.new.2 (e ▸ hr))⟩
theorem Dw.rows {X : List Nat} {h0 h : Heap} {rN : Nat} {d : HDoc} {sl : Nat → AVal} (E : Dw X h0 h rN d sl) : OwnS h 29 6 (rowsA d sl) (.osl rN 6 0 d.nodes.length) ∧ Mut (.osl rN 6 0 d.nodes.length) :=
  ⟨.inr (.inr ⟨rN, _, by rw [rowsA_len], E.nodes, by rw [rowsA_len]; exact Nat.le_refl _, by rw [List.take_of_length_le (Nat.le_refl _)]⟩), fun es q => by cases q⟩
theorem live_add {d : HDoc} {sl : Nat → AVal} {a' : AVal} (M : ∀ k, k < 2 * d.nodes.length → Mut (sl k)) (Ma : Mut a') (x : HNode) : ∀ k, k < 2 * (addN d x).nodes.length → Mut (upd (upd sl (2 * d.nodes.length) a') (2 * d.nodes.length + 1) .emp k) := fun k hk => by
  rw [addN_len] at hk
  by_cases h1 : k = 2 * d.nodes.length + 1
  · rw [h1, upd_same]; exact fun es e => by cases e
  · rw [upd_ne _ _ h1]
    by_cases h2 : k = 2 * d.nodes.length
    · rw [h2, upd_same]; exact Ma
    · rw [upd_ne _ _ h2]; exact M k (by omega)
def copyE (d : HDoc) (n : Int) : Int := if docE d ≠ 0 then docE d else if ¬ inD d n then 1 else if n = 0 then 7 else if 200 < d.nodes.length + (below d n).length then 2 else 0
def c23_s6 : SCode := (.seq (.seq (.reg [⟨some 42, .ld 2 true (.t 2), none⟩, ⟨some 43, .mv (.t 1), none⟩, ⟨some 44, .pcall 52 [.t 42, .t 43, .c .emp], none⟩, ⟨some 45, .len (.t 44), none⟩, ⟨some 46, .mv (.c (.int .i64 0)), none⟩]) (.block 1 (.loop (.seq (.reg [⟨some 47, .bin .lss (.t 46) (.t 45), none⟩]) (.seq (.cond (.t 47) .skip (.exit 1)) (.seq (.block 2 (.seq (.reg [⟨some 48, .idxA 1 (.t 44) (.t 46), none⟩, ⟨some 49, .ld 1 false (.t 48), none⟩, ⟨some 12, .mv (.t 49), none⟩]) (.seq (.reg [⟨some 50, .mv (.t 10), none⟩, ⟨some 51, .mv (.t 12), none⟩, ⟨some 52, .fldA 0 (.t 8), none⟩, ⟨some 53, .ld 1 false (.t 52), none⟩, ⟨some 54, .len (.t 53), none⟩, ⟨none, .mup (some .i64) (.t 50) (.t 51) (.t 54), none⟩]) (.seq (.reg [⟨some 55, .fldA 0 (.t 2), none⟩, ⟨some 56, .ld 1 false (.t 55), none⟩, ⟨some 57, .mv (.t 12), none⟩, ⟨some 58, .mv (.t 12), none⟩, ⟨some 59, .bin .add (.t 58) (.c (.int .i64 1)), none⟩, ⟨some 60, .slA 6 (.t 56) (some (.t 57)) (some (.t 59)), none⟩, ⟨some 61, .bld [.emp, .bool false] [(0, (1, (.t 60)))], none⟩, ⟨some 62, .call (.c (.fn 51 [] [])) [.t 61], none⟩, ⟨some 63, .fld 0 1 false (.t 62), none⟩, ⟨some 64, .idxA 6 (.t 63) (.c (.int .i64 0)), none⟩, ⟨some 65, .ld 6 true (.t 64), none⟩, ⟨some 13, .new 29 6 [.int .i64 0, .str [], .emp, .str [], .int .i64 0, .emp], none⟩, ⟨none, .st 6 (.t 13) (.t 65), none⟩]) (.seq (.reg [⟨some 66, .fldA 5 (.t 13), none⟩, ⟨none, .st 1 (.t 66) (.c .emp), none⟩]) (.seq (.seq (.reg [⟨some 67, .mv (.t 12), none⟩, ⟨some 68, .mv (.t 1), none⟩, ⟨some 69, .bin .eql (.t 67) (.t 68), none⟩]) (.cond (.t 69) (.reg [⟨some 70, .fldA 4 (.t 13), none⟩, ⟨none, .st 1 (.t 70) (.c (.int .i64 (-1))), none⟩]) (.seq (.reg [⟨some 71, .mv (.t 10), none⟩, ⟨some 72, .fldA 4 (.t 13), none⟩, ⟨some 73, .ld 1 false (.t 72), none⟩, ⟨some 74, .lkp (some .i64) false (.int .i64 0) (.t 71) (.t 73), none⟩, ⟨some 75, .fldA 4 (.t 13), none⟩, ⟨none, .st 1 (.t 75) (.t 74), none⟩]) (.seq (.reg [⟨some 76, .fldA 0 (.t 8), none⟩, ⟨some 77, .ld 1 false (.t 76), none⟩, ⟨some 78, .fldA 4 (.t 13), none⟩, ⟨some 79, .ld 1 false (.t 78), none⟩, ⟨some 80, .idxA 6 (.t 77) (.t 79), none⟩, ⟨some 14, .mv (.t 80), none⟩]) (.dreg [(⟨some 81, .mv (.t 14), none⟩, none), (⟨some 82, .mv (.t 14), none⟩, none), (⟨some 83, .fldA 0 (.t 82), none⟩, none), (⟨some 84, .fldA 5 (.t 83), none⟩, none), (⟨some 85, .ld 1 false (.t 84), none⟩, none), (⟨some 86, .fldA 0 (.t 8), none⟩, none), (⟨some 87, .ld 1 false (.t 86), none⟩, none), (⟨some 88, .len (.t 87), none⟩, none), (⟨some 89, .bldF 3 1 [.t 88], none⟩, none), (⟨some 90, .app 3 1 8 (.t 85) (.t 89), none⟩, (some [85, 87])), (⟨some 91, .fldA 0 (.t 81), none⟩, none), (⟨some 92, .fldA 5 (.t 91), none⟩, none), (⟨none, .st 1 (.t 92) (.t 90), none⟩, (some [85, 87]))]))))) (.reg [⟨some 93, .fldA 0 (.t 8), none⟩, ⟨some 94, .ld 1 false (.t 93), none⟩, ⟨some 95, .ld 6 true (.t 13), none⟩, ⟨some 96, .bldF 29 6 [.t 95], none⟩, ⟨some 97, .app 29 6 96 (.t 94) (.t 96), none⟩, ⟨some 98, .fldA 0 (.t 8), none⟩, ⟨none, .st 1 (.t 98) (.t 97), none⟩]))))))) (.reg [⟨some 99, .bin .add (.t 46) (.c (.int .i64 1)), none⟩, ⟨some 46, .mv (.t 99), none⟩]))))))) (.seq (.seq (.reg [⟨some 100, .fldA 0 (.t 8), none⟩, ⟨some 101, .ld 1 false (.t 100), none⟩, ⟨some 102, .len (.t 101), none⟩, ⟨some 103, .bin .gtr (.t 102) (.c (.int .i64 200)), none⟩]) (.cond (.t 103) (.seq (.reg [⟨some 104, .bld [.emp, .bool false] [], none⟩, ⟨none, .st 2 (.t 4) (.t 104), none⟩, ⟨some 5, .mv (.c (.int .i64 0)), none⟩, ⟨some 6, .mv (.c (.int .i64 2)), none⟩]) .ret) .skip)) (.seq (.reg [⟨some 105, .ld 2 true (.t 8), none⟩, ⟨some 106, .mv (.t 9), none⟩, ⟨none, .st 2 (.t 4) (.t 105), none⟩, ⟨some 5, .mv (.t 106), none⟩, ⟨some 6, .mv (.c (.int .i64 0)), none⟩]) .ret)))
def c23 : SFun := ⟨.seq (.reg [⟨some 2, .boxF 24 2 (.t 0), none⟩, ⟨some 4, .new 24 2 [.emp, .bool false], none⟩, ⟨some 5, .mv (.c (.int .i64 0)), none⟩, ⟨some 6, .mv (.c (.int .i64 0)), none⟩]) (.seq (.seq (.reg [⟨some 15, .ld 2 true (.t 2), none⟩, ⟨some 16, .pcall 50 [.t 15], none⟩, ⟨some 7, .mv (.t 16), none⟩]) (.seq (.reg [⟨some 17, .mv (.t 7), none⟩, ⟨some 18, .bin .neq (.t 17) (.c (.int .i64 0)), none⟩]) (.cond (.t 18) (.seq (.reg [⟨some 19, .bld [.emp, .bool false] [], none⟩, ⟨some 20, .mv (.t 7), none⟩, ⟨none, .st 2 (.t 4) (.t 19), none⟩, ⟨some 5, .mv (.c (.int .i64 0)), none⟩, ⟨some 6, .mv (.t 20), none⟩]) .ret) .skip))) (.seq (.block 0 (.seq (.reg [⟨some 22, .mv (.t 1), none⟩, ⟨some 23, .bin .lss (.t 22) (.c (.int .i64 0)), none⟩, ⟨some 24, .mv (.t 23), none⟩, ⟨some 25, .mv (.t 1), some (24, false)⟩, ⟨some 26, .fldA 0 (.t 2), some (24, false)⟩, ⟨some 27, .ld 1 false (.t 26), some (24, false)⟩, ⟨some 28, .len (.t 27), some (24, false)⟩, ⟨some 29, .bin .geq (.t 25) (.t 28), some (24, false)⟩, ⟨some 30, .pick (.t 24) (.c (.bool true)) (.t 29), none⟩, ⟨some 21, .mv (.t 30), none⟩]) (.cond (.t 21) (.seq (.reg [⟨some 31, .bld [.emp, .bool false] [], none⟩, ⟨none, .st 2 (.t 4) (.t 31), none⟩, ⟨some 5, .mv (.c (.int .i64 0)), none⟩, ⟨some 6, .mv (.c (.int .i64 1)), none⟩]) .ret) (.seq (.reg [⟨some 33, .mv (.t 1), none⟩, ⟨some 34, .bin .eql (.t 33) (.c (.int .i64 0)), none⟩, ⟨some 32, .mv (.t 34), none⟩]) (.cond (.t 32) (.seq (.reg [⟨some 35, .bld [.emp, .bool false] [], none⟩, ⟨none, .st 2 (.t 4) (.t 35), none⟩, ⟨some 5, .mv (.c (.int .i64 0)), none⟩, ⟨some 6, .mv (.c (.int .i64 7)), none⟩]) .ret) .skip))))) (.seq (.reg [⟨some 36, .ld 2 true (.t 2), none⟩, ⟨some 37, .call (.c (.fn 51 [] [])) [.t 36], none⟩, ⟨some 8, .new 24 2 [.emp, .bool false], none⟩, ⟨none, .st 2 (.t 8) (.t 37), none⟩]) (.seq (.reg [⟨some 38, .fldA 0 (.t 8), none⟩, ⟨some 39, .ld 1 false (.t 38), none⟩, ⟨some 40, .len (.t 39), none⟩, ⟨some 9, .mv (.t 40), none⟩]) (.seq (.reg [⟨some 41, .mkm 92, none⟩, ⟨some 10, .mv (.t 41), none⟩]) c23_s6))))), [.cell 4 2 true, .tmp 5, .tmp 6]⟩
theorem hc23 : toSF Tryd.prog {pure := [50, 52], mp := [10, 41, 50, 71]} Tryd.f23 = some c23 := by kernel_rfl
theorem hn23 : (Tryd.f23.name == "runtime.NumGoroutine") = false := by kernel_rfl
def CpK (d : HDoc) (n : Int) (h : Heap) (a : AVal) (h' : Heap) : Prop := Sim.Sub h h' ∧ VwT (newH h h') a (.tup [.agg (eDoc (if copyE d n = 0 then cpT d n (below d n).length else noDoc)), aInt (if copyE d n = 0 then d.nodes.length else 0), aInt (copyE d n)])
set_option maxHeartbeats 1000000 in
theorem copy_end (d : HDoc) (V : DV d) (sm : DocSm d) (n : Int) (hn : inD d n) (hn0 : n ≠ 0) {h0 h : Heap} {r4 r8 rM rN : Nat} {sl0 : Nat → AVal} (hr4 : h0 r4 = none) (S0 : Sim.Sub h0 (upd h0 r4 (some ⟨.t 24, 2, [[.emp, .bool false]]⟩)))
    (E0 : Dw [rM, r8] (upd h0 r4 (some ⟨.t 24, 2, [[.emp, .bool false]]⟩)) h rN d sl0) (M0 : ∀ k, k < 2 * d.nodes.length → Mut (sl0 k)) (g8 : h r8 = some ⟨.t 24, 2, [[.osl rN 6 0 d.nodes.length, .bool d.quirks]]⟩) (gM : h rM = some ⟨.m 92 (eM []), 1, []⟩)
    (n8 : upd h0 r4 (some ⟨.t 24, 2, [[.emp, .bool false]]⟩) r8 = none) (nM : upd h0 r4 (some ⟨.t 24, 2, [[.emp, .bool false]]⟩) rM = none)
    (e : Env) (e1 : e 1 = aInt n) (e2 : e 2 = .pin (eDoc d)) (e4 : e 4 = .vp r4 0) (e8 : e 8 = .vp r8 0) (e9 : e 9 = aInt d.nodes.length) (e10 : e 10 = .mpr rM) :
    vc (Pg G) c23_s6 (retK [.cell 4 2 true, .tmp 5, .tmp 6] (CpK d n h0)) e h := by
  have hl := V.len
  have hp := V.pos
  have hB := walk0_ok (G := G) d V sm n hn
  have bin := below_in V n hn
  have bl := below_len V hn
  obtain ⟨A, hA⟩ : ∃ A, below d n = A := ⟨_, rfl⟩
  rw [hA] at hB bin bl
  simp only [eDoc] at hB
  unfold c23_s6
  skip
  simp -dsimp -implicitDefEqProofs (disch := omega) only [↓vcOps_sp 24, ↓vcD_sp 24, VCA, pg_gl, ↓upd_none, Nat.reduceEqDiff, Nat.reduceBEq, Nat.reduceAdd, Nat.reduceSub, Nat.reduceMul, Nat.reduceLT, Nat.reduceLeDiff, ↓reduceIte, reduceCtorEq, rsOf, rootsOf, SOp.rd, SI.rd, SX.rd, rdL, rdO, rdP, okParts, eqCells, okEqCells, fillA, okFill, setAt, implies_true, forall_const, forall_eq, ne_eq, exists_eq_right_right, exists_eq_right, exists_eq_left, exists_eq_left', rootL, eInt, eBool, lit_eq, eDoc, e1, e2, e4, e8, e9, e10, eDoc]
  repeat' (first | ((with_reducible refine brC (fun _ => ?_) fun _ => ?_) <;> try (exfalso; omega)) | (with_reducible apply pcallE.of; · exact hB) | (with_reducible refine And.intro ?_ ?_; · omega) | simp -dsimp -implicitDefEqProofs (disch := omega) only [↓vcOps_sp 24, ↓vcD_sp 24, VCA, pg_gl, ↓upd_none, Nat.reduceEqDiff, Nat.reduceBEq, Nat.reduceAdd, Nat.reduceSub, Nat.reduceMul, Nat.reduceLT, Nat.reduceLeDiff, ↓reduceIte, reduceCtorEq, rsOf, rootsOf, SOp.rd, SI.rd, SX.rd, rdL, rdO, rdP, okParts, eqCells, okEqCells, fillA, okFill, setAt, implies_true, forall_const, forall_eq, ne_eq, exists_eq_right_right, exists_eq_right, exists_eq_left, exists_eq_left', rootL, eInt, eBool, lit_eq, eDoc, e1, e2, e4, e8, e9, e10, eDoc])
  obtain ⟨HZ, hHZ⟩ : ∃ HZ, HZ = upd h0 r4 (some ⟨.t 24, 2, [[.emp, .bool false]]⟩) := ⟨_, rfl⟩
  have gZ : HZ r4 = some ⟨.t 24, 2, [[.emp, .bool false]]⟩ := by rw [hHZ, upd_same]
  rw [← hHZ] at S0 E0 n8 nM
  have x4 : r4 ≠ r8 := fun e => by rw [e, n8] at gZ; cases gZ
  have xM : r4 ≠ rM := fun e => by rw [e, nM] at gZ; cases gZ
  have x8M : r8 ≠ rM := fun e => by rw [e, gM] at g8; cases g8
  have z0 : cpD d n 0 = d := cpD_zero n
  have cl : ∀ j, j ≤ A.length → (cpD d n j).nodes.length = d.nodes.length + j := fun j hj => cpD_len n (by rw [hA]; exact hj)
  have cq : ∀ j, (cpD d n j).quirks = d.quirks := fun j => rfl
  refine LoopVC.intro (fun m e h' => ∃ (j : Nat) (rN : Nat) (sl' : Nat → AVal) (l : List (Int × Int)) (b : AVal), b = .osl rN 6 0 (d.nodes.length + j) ∧ j ≤ A.length ∧ m = A.length - j ∧ e 1 = aInt n ∧ e 2 = .pin (eDoc d) ∧ e 4 = .vp r4 0 ∧ e 8 = .vp r8 0 ∧ e 9 = aInt d.nodes.length ∧ e 10 = .mpr rM ∧ e 44 = sl eInt A ∧ e 45 = aInt A.length ∧ e 46 = aInt j ∧
    Dw [rM, r8] HZ h' rN (cpD d n j) sl' ∧ (∀ k, k < 2 * (d.nodes.length + j) → Mut (sl' k)) ∧ h' r8 = some ⟨.t 24, 2, [[b, .bool d.quirks]]⟩ ∧ h' rM = some ⟨.m 92 (eM l), 1, []⟩ ∧ ∀ i, i < j → findI l (nth A i) = some ((d.nodes.length : Int) + i)) A.length
    ⟨0, rN, sl0, [], _, rfl, by omega, by omega, e1, e2, e4, e8, e9, e10, rfl, rfl, rfl, E0.cong z0.symm, M0, g8, gM, fun i hi => by omega⟩ ?_
  clear e1 e2 e4 e8 e9 e10 E0 M0 g8 gM
  rintro m e h' ⟨j, rN, sl', l, b, hb, hj, rfl, e1, e2, e4, e8, e9, e10, e44, e45, e46, E, M, g8, gM, hf⟩
  have g4 := E.sub _ _ gZ
  have bL : aLen b = aInt ((d.nodes.length + j : Nat) : Int) := by rw [hb]; rfl
  have bL2 : okLen b = True := by rw [hb]; rfl
  have bV : isV b = true := by rw [hb]; rfl
  have bC : cellsOf b = [b] := by rw [hb]; rfl
  simp -dsimp -implicitDefEqProofs (disch := omega) only [↓vcOps_sp 24, ↓vcD_sp 24, VCA, pg_gl, ↓upd_none, Nat.reduceEqDiff, Nat.reduceBEq, Nat.reduceAdd, Nat.reduceSub, Nat.reduceMul, Nat.reduceLT, Nat.reduceLeDiff, ↓reduceIte, reduceCtorEq, rsOf, rootsOf, SOp.rd, SI.rd, SX.rd, rdL, rdO, rdP, okParts, eqCells, okEqCells, fillA, okFill, setAt, implies_true, forall_const, forall_eq, ne_eq, exists_eq_right_right, exists_eq_right, exists_eq_left, exists_eq_left', rootL, eInt, eBool, lit_eq, eDoc, e1, e2, e4, e8, e9, e10, e44, e45, e46, g8, gM, g4]
  refine Br.dec (fun hlt => ?_) (fun hge => ?_)
  · have hj' : j < A.length := by omega
    obtain ⟨c, hc⟩ : ∃ c, nth A j = c := ⟨_, rfl⟩
    have hcA : c ∈ A := by rw [← hc]; exact nth_mem' hj'
    have hci := bin c hcA
    have c0 := hci.1
    have c1 := hci.2
    have cn := hci.nat
    obtain ⟨x, hx⟩ : ∃ x, nd d c = x := ⟨_, rfl⟩
    have hx' : nth d.nodes c.toNat = x := hx
    simp -dsimp -implicitDefEqProofs (disch := omega) only [↓vcOps_sp 24, ↓vcD_sp 24, VCA, pg_gl, ↓upd_none, Nat.reduceEqDiff, Nat.reduceBEq, Nat.reduceAdd, Nat.reduceSub, Nat.reduceMul, Nat.reduceLT, Nat.reduceLeDiff, ↓reduceIte, reduceCtorEq, rsOf, rootsOf, SOp.rd, SI.rd, SX.rd, rdL, rdO, rdP, okParts, eqCells, okEqCells, fillA, okFill, setAt, implies_true, forall_const, forall_eq, ne_eq, exists_eq_right_right, exists_eq_right, exists_eq_left, exists_eq_left', rootL, eInt, eBool, lit_eq, eDoc, e1, e2, e4, e8, e9, e10, e44, e45, e46, g8, gM, g4, hc, eDoc, bL, bL2, bV, bC]
    have one : (d.nodes.take (c + 1).toNat).drop c.toNat = [x] := by
      rw [show (c + 1).toNat = c.toNat + 1 by omega, List.drop_take, show c.toNat + 1 - c.toNat = 1 by omega, List.drop_eq_getElem_cons cn.1]
      show [_] = [x]
      have := nth_some cn.1
      rw [List.getElem?_eq_getElem cn.1, hx'] at this
      rw [Option.some.inj this]
    have smx : DocSm ⟨[x], false⟩ := ⟨by show 1 ≤ 1073741824; decide, fun y hy => by rw [List.mem_singleton.1 hy, ← hx]; exact sm.nd c⟩
    refine ⟨by omega, by omega, ?_⟩
    rw [one]
    refine DCalls.of (own_ok' (G := G) ⟨[x], false⟩ smx (Nat.lt_succ_self 0) _) ?_
    rintro _ h1 ⟨rN1, sl1, rfl, D, M1⟩
    have EM := E.other (r := rM) (by simp) nM ⟨.m 92 (eM (putI c ((d.nodes.length + j : Nat) : Int) l)), 1, []⟩
    obtain ⟨HM, hHM⟩ : ∃ HM, HM = upd h' rM (some ⟨.m 92 (eM (putI c ((d.nodes.length + j : Nat) : Int) l)), 1, []⟩) := ⟨_, rfl⟩
    rw [← hHM] at EM D
    have gM1 : HM rM = some ⟨.m 92 (eM (putI c ((d.nodes.length + j : Nat) : Int) l)), 1, []⟩ := by rw [hHM, upd_same]
    have g81 : HM r8 = some ⟨.t 24, 2, [[b, .bool d.quirks]]⟩ := by rw [hHM, upd_ne _ _ x8M]; exact g8
    have gN1 := D.nodes
    have e0 : rowsA ⟨[x], false⟩ sl1 = [rowA x (sl1 0) (sl1 1)] := rfl
    rw [e0] at gN1
    have gM2 := D.sub _ _ gM1
    have g82 := D.sub _ _ g81
    simp -dsimp -implicitDefEqProofs (disch := omega) only [↓vcOps_sp 24, ↓vcD_sp 24, VCA, pg_gl, ↓upd_none, Nat.reduceEqDiff, Nat.reduceBEq, Nat.reduceAdd, Nat.reduceSub, Nat.reduceMul, Nat.reduceLT, Nat.reduceLeDiff, ↓reduceIte, reduceCtorEq, rsOf, rootsOf, SOp.rd, SI.rd, SX.rd, rdL, rdO, rdP, okParts, eqCells, okEqCells, fillA, okFill, setAt, implies_true, forall_const, forall_eq, ne_eq, exists_eq_right_right, exists_eq_right, exists_eq_left, exists_eq_left', rootL, eInt, eBool, lit_eq, eDoc, e1, e2, e4, e8, e9, e10, e44, e45, e46, gN1, gM2, g82, rowA, bL, bL2, bV, bC]
    refine ⟨by decide, fun r13 hr13 => ?_⟩
    obtain ⟨a1, ha1⟩ : ∃ a1, sl1 0 = a1 := ⟨_, rfl⟩
    have OA := (D.own 0 (Nat.lt_succ_self 0)).1
    have MA := M1 0 (Nat.succ_pos 1)
    have fA := fun r hr => (D.fresh 0 (Nat.succ_pos 1) r hr)
    rw [show 2 * 0 = 0 from rfl, ha1] at OA
    rw [ha1] at MA fA
    have hA1 : OwnS h1 71 2 (x.attrs.map eAttr) a1 := OA
    have wa := OA.isV
    have wa1 := wa.1
    have wa2 := wa.2
    have m1 : ∀ t o, h1 t = some o → ¬ t = r13 := fun t o ht e => by rw [e, hr13] at ht; cases ht
    have m8 := m1 _ _ g82
    have mM := m1 _ _ gM2
    have mN := m1 _ _ (D.sub _ _ EM.nodes)
    have m8' : ¬ r13 = r8 := fun e => m8 e.symm
    have mM' : ¬ r13 = rM := fun e => mM e.symm
    have fE : ∀ r, rootOf a1 = some r → HZ r = none ∧ r ∉ [rM, r8] ∧ r ≠ rN ∧ ∀ k, k < 2 * (cpD d n j).nodes.length → rootOf (sl' k) ≠ some r := fun r hr => by
      have f1 := (fA r hr).1
      refine ⟨EM.sub.none f1, fun q => ?_, fun q => ?_, fun k hk q => ?_⟩
      · obtain ⟨o, ho⟩ := EM.keep r q; rw [f1] at ho; cases ho
      · have := EM.nodes; rw [← q, f1] at this; cases this
      · obtain ⟨o, ho⟩ := EM.slot hk q; rw [f1] at ho; cases ho
    by_cases hcn : c = n
    · have hb0 : (c == n) = true := by rw [hcn]; simp
      rw [hb0, ha1]
      simp -dsimp -implicitDefEqProofs (disch := omega) only [↓vcOps_sp 24, ↓vcD_sp 24, VCA, pg_gl, ↓upd_none, Nat.reduceEqDiff, Nat.reduceBEq, Nat.reduceAdd, Nat.reduceSub, Nat.reduceMul, Nat.reduceLT, Nat.reduceLeDiff, ↓reduceIte, reduceCtorEq, rsOf, rootsOf, SOp.rd, SI.rd, SX.rd, rdL, rdO, rdP, okParts, eqCells, okEqCells, fillA, okFill, setAt, implies_true, forall_const, forall_eq, ne_eq, exists_eq_right_right, exists_eq_right, exists_eq_left, exists_eq_left', rootL, eInt, eBool, lit_eq, eDoc, e1, e2, e4, e8, e9, e10, e44, e45, e46, gM2, g82, rowA, bL, bL2, bV, bC, wa1, wa2, m8, mM, mN, m8', mM', upd_same]
      obtain ⟨H, hH⟩ : ∃ H, H = upd h1 r13 (some ⟨.t 29, 6, [[aInt x.kind, .str x.name, a1, .str x.text, aInt (-1), .emp]]⟩) := ⟨_, rfl⟩
      show Hd (appE 29 6 96 b [[aInt x.kind, .str x.name, a1, .str x.text, aInt (-1), .emp]] (upd h1 r13 (some ⟨.t 29, 6, [[aInt x.kind, .str x.name, a1, .str x.text, aInt (-1), .emp]]⟩))) _ _
      rw [← hH]
      have S1 : Sim.Sub h1 H := by rw [hH]; exact (Sub.refl _).upd hr13
      have SH := D.sub.trans S1
      have E' := EM.mono SH
      have j0 : j = 0 := by
        have := (cp_self V hn (show j < (below d n).length by rw [hA]; exact hj')).1
        rw [hA, hc] at this
        exact this hcn
      have eX : cpX d A n c = ⟨x.kind, x.name, x.attrs, x.text, -1, []⟩ := by unfold cpX; rw [hx, if_pos hcn]
      have fin : addN (cpD d n j) ⟨x.kind, x.name, x.attrs, x.text, -1, []⟩ = cpD d n (j + 1) := by
        rw [j0, cpD_zero, cp_begin V hn, hA, ← eX, hcn]
      have H8 := SH _ _ g81
      have HM' := SH _ _ gM1
      have OA' : OwnS H 71 2 (x.attrs.map eAttr) a1 := OA.keep fun r o _ ho => S1 _ _ ho
      have OR := E'.rows
      rw [cl j hj, ← hb] at OR
      have Lj := cl j hj
      have rb : rootOf b = some rN := by rw [hb]; rfl
      have M' : ∀ k, k < 2 * (cpD d n j).nodes.length → Mut (sl' k) := fun k hk => M k (by rw [Lj] at hk; exact hk)
      refine OR.1.app OR.2 (by rw [rowsA_len, List.length_singleton]; omega) (by rw [rowsA_len, List.length_singleton]; omega) fun r' h3 q1 q2 q3 => ?_
      rw [rowsA_len, List.length_singleton, Lj]
      have nb : ∀ t, t ≠ rN → rootOf b ≠ some t := fun t ht e => by rw [rb] at e; cases e; exact ht rfl
      have nrX : ∀ r ∈ [rM, r8], r ≠ rN := fun r hr e => E'.new.2 (e ▸ hr)
      have k8 := q3 _ _ H8 (nb _ (nrX r8 (by simp)))
      have kM := q3 _ _ HM' (nb _ (nrX rM (by simp)))
      have fr' : r' = rN ∨ H r' = none := by
        rcases q2 with q | q
        · rw [rb] at q; cases q; exact .inl rfl
        · exact .inr q
      have ne : ∀ r, rootOf a1 = some r → r ≠ r' := fun r hr e => by
        rcases fr' with q | q
        · exact (fE r hr).2.2.1 (e.trans q)
        · obtain ⟨o, ho⟩ := OA'.root hr
          rw [e, q] at ho; cases ho
      have E3 := E'.add (rN' := r') (a' := a1) (x := ⟨x.kind, x.name, x.attrs, x.text, -1, []⟩) (h2 := h3) rfl q1 (fun r o ho hne => q3 r o ho (nb r hne))
        (OA'.keep fun r o hr ho => q3 r o ho (nb r (fE r hr).2.2.1)) (fun r hr => ⟨(fE r hr).1, (fE r hr).2.1, ne r hr, (fE r hr).2.2.2⟩) fr'
      have M3 := live_add M' MA ⟨x.kind, x.name, x.attrs, x.text, -1, []⟩
      rw [fin] at E3 M3
      rw [cl (j + 1) hj'] at M3
      have E4 := E3.other (r := r8) (by simp) n8 ⟨24, 2, [[.osl r' 6 0 (d.nodes.length + j + 1), .bool d.quirks]]⟩
      simp -dsimp -implicitDefEqProofs (disch := omega) only [↓vcOps_sp 24, ↓vcD_sp 24, VCA, pg_gl, ↓upd_none, Nat.reduceEqDiff, Nat.reduceBEq, Nat.reduceAdd, Nat.reduceSub, Nat.reduceMul, Nat.reduceLT, Nat.reduceLeDiff, ↓reduceIte, reduceCtorEq, rsOf, rootsOf, SOp.rd, SI.rd, SX.rd, rdL, rdO, rdP, okParts, eqCells, okEqCells, fillA, okFill, setAt, implies_true, forall_const, forall_eq, ne_eq, exists_eq_right_right, exists_eq_right, exists_eq_left, exists_eq_left', rootL, eInt, eBool, lit_eq, eDoc, e1, e2, e4, e8, e9, e10, e44, e45, e46, k8, kM, bL, bL2, bV, bC]
      refine ⟨_, by omega, j + 1, r', _, _, hj', rfl, by omega, E4, M3, rfl, by rw [if_neg (fun e => x8M e.symm)], fun i hi => ?_⟩
      rw [findI_put]
      by_cases hij : i = j
      · rw [hij, hc, if_pos rfl]; rfl
      · rw [if_neg (fun q => hij ?_)]
        · exact hf i (by omega)
        · have nu := below_nodup V n hn
          rw [hA] at nu
          have i1 := ix_nth nu (show i < A.length by omega)
          have i2 := ix_nth nu hj'
          rw [q, ← hc, i2] at i1
          omega
    · have hb0 : (c == n) = false := beq_eq_false_iff_ne.2 hcn
      have jp : 0 < j := by
        have := (cp_self V hn (show j < (below d n).length by rw [hA]; exact hj')).2
        rw [hA, hc] at this
        exact Nat.pos_of_ne_zero fun e => hcn (this e)
      obtain ⟨i, hij, hip, hix⟩ := cp_par V hn (show j < (below d n).length by rw [hA]; exact hj') jp
      rw [hA, hc, hx] at hip hix
      have nu := below_nodup V n hn
      rw [hA] at nu
      have pc : x.parent ≠ c := fun q => by
        have i2 := ix_nth nu hj'
        rw [hc, ← q, hix] at i2
        omega
      have pf : findI (putI c ((d.nodes.length + j : Nat) : Int) l) x.parent = some ((d.nodes.length : Int) + i) := by
        rw [findI_put, if_neg pc, ← hip]; exact hf i hij
      have wl : (rowsA (cpD d n j) sl').length = d.nodes.length + j := by rw [rowsA_len, cl j hj]
      have Hi : d.nodes.length + i < (cpD d n j).nodes.length := by rw [cl j hj]; omega
      have gi := rowsA_get (sl := sl') Hi
      obtain ⟨y, hy⟩ : ∃ y, nth (cpD d n j).nodes (d.nodes.length + i) = y := ⟨_, rfl⟩
      obtain ⟨s2, hs2⟩ : ∃ s2, sl' (2 * (d.nodes.length + i) + 1) = s2 := ⟨_, rfl⟩
      obtain ⟨s1, hs1⟩ : ∃ s1, sl' (2 * (d.nodes.length + i)) = s1 := ⟨_, rfl⟩
      rw [hy, hs1, hs2] at gi
      have gN2 := D.sub _ _ EM.nodes
      have mNr : ¬ r13 = rN := fun e => mN e.symm
      have bI : ∀ q : Int, okIdxA 6 b (.int .i64 q) = (0 ≤ q ∧ q < ((d.nodes.length + j : Nat) : Int)) := fun q => by rw [hb, okIdxA_osl]; simp
      have bI2 : ∀ q : Int, aIdxA b (.int .i64 q) = .ptr rN q.toNat 0 := fun q => by rw [hb, aIdxA_osl, Nat.zero_add]
      have tn : ((d.nodes.length : Int) + i).toNat = d.nodes.length + i := by omega
      rw [hb0, ha1]
      simp -dsimp -implicitDefEqProofs (disch := omega) only [↓vcOps_sp 24, ↓vcD_sp 24, VCA, pg_gl, ↓upd_none, Nat.reduceEqDiff, Nat.reduceBEq, Nat.reduceAdd, Nat.reduceSub, Nat.reduceMul, Nat.reduceLT, Nat.reduceLeDiff, ↓reduceIte, reduceCtorEq, rsOf, rootsOf, SOp.rd, SI.rd, SX.rd, rdL, rdO, rdP, okParts, eqCells, okEqCells, fillA, okFill, setAt, implies_true, forall_const, forall_eq, ne_eq, exists_eq_right_right, exists_eq_right, exists_eq_left, exists_eq_left', rootL, eInt, eBool, lit_eq, eDoc, e1, e2, e4, e8, e9, e10, e44, e45, e46, gM2, g82, rowA, bL, bL2, bV, bC, wa1, wa2, m8, mM, mN, m8', mM', upd_same, pf, bI, bI2, tn, gN2, mNr, gi, wl]
      refine ⟨by omega, by omega, ?_⟩
      obtain ⟨H, hH⟩ : ∃ H, H = upd h1 r13 (some ⟨.t 29, 6, [[aInt x.kind, .str x.name, a1, .str x.text, aInt ((d.nodes.length : Int) + i), .emp]]⟩) := ⟨_, rfl⟩
      show Hd (appE 3 1 8 s2 [[aInt ((d.nodes.length + j : Nat) : Int)]] (upd h1 r13 (some ⟨.t 29, 6, [[aInt x.kind, .str x.name, a1, .str x.text, aInt ((d.nodes.length : Int) + i), .emp]]⟩))) _ _
      rw [← hH]
      have S1 : Sim.Sub h1 H := by rw [hH]; exact (Sub.refl _).upd hr13
      have SH := D.sub.trans S1
      have EH := EM.mono SH
      have H13 : H r13 = some ⟨.t 29, 6, [[aInt x.kind, .str x.name, a1, .str x.text, aInt ((d.nodes.length : Int) + i), .emp]]⟩ := by rw [hH, upd_same]
      have H8 := SH _ _ g81
      have HM' := SH _ _ gM1
      have HN := EH.nodes
      have OA' : OwnS H 71 2 (x.attrs.map eAttr) a1 := OA.keep fun r o _ ho => S1 _ _ ho
      have O2 := (EH.own _ Hi).2
      rw [hy, hs2] at O2
      have M2 : Mut s2 := by rw [← hs2]; exact M _ (by omega)
      have f2 := fun (r : Nat) (hr : rootOf s2 = some r) => EH.fresh (2 * (d.nodes.length + i) + 1) (by omega) r (by rw [hs2]; exact hr)
      have ye : y = cpN d A n j x.parent := by rw [← hy, cpD_new n (by rw [hA]; omega) hij, hA, hip]
      have yl : y.kids.length ≤ 1073741824 := by
        rw [ye]; unfold cpN
        simp only [List.length_map]
        exact Nat.le_trans (List.length_filter_le _ _) (sm.nd x.parent).kids
      refine O2.app M2 (by rw [List.length_map, List.length_singleton]; omega) (by rw [List.length_map, List.length_singleton]; omega) fun r2 h3 q1 q2 q3 => ?_
      rw [List.length_map, List.length_singleton]
      have e2N : rootOf s2 ≠ some rN := fun q => (f2 _ q).2.1 rfl
      have e28 : rootOf s2 ≠ some r8 := fun q => (f2 _ q).2.2 (by simp)
      have e2M : rootOf s2 ≠ some rM := fun q => (f2 _ q).2.2 (by simp)
      have e213 : rootOf s2 ≠ some r13 := fun q => by
        obtain ⟨o, ho⟩ := EM.slot (k := 2 * (d.nodes.length + i) + 1) (by omega) (by rw [hs2]; exact q)
        exact m1 _ _ (D.sub _ _ ho) rfl
      have k8 := q3 _ _ H8 e28
      have kM := q3 _ _ HM' e2M
      have kN := q3 _ _ HN e2N
      have k13 := q3 _ _ H13 e213
      have n8N : ¬ r8 = rN := fun e => EH.new.2 (by rw [← e]; simp)
      have nMN : ¬ rM = rN := fun e => EH.new.2 (by rw [← e]; simp)
      refine ⟨fun p hp hc => ?_, ?_⟩
      · exfalso
        rcases List.mem_cons.1 hp with rfl | hp
        · have q : true = false := hc
          cases q
        · obtain ⟨t, _, rfl⟩ := List.mem_map.1 hp
          have q : true = false := hc
          cases q
      simp -dsimp -implicitDefEqProofs (disch := omega) only [↓vcOps_sp 24, ↓vcD_sp 24, VCA, pg_gl, ↓upd_none, Nat.reduceEqDiff, Nat.reduceBEq, Nat.reduceAdd, Nat.reduceSub, Nat.reduceMul, Nat.reduceLT, Nat.reduceLeDiff, ↓reduceIte, reduceCtorEq, rsOf, rootsOf, SOp.rd, SI.rd, SX.rd, rdL, rdO, rdP, okParts, eqCells, okEqCells, fillA, okFill, setAt, implies_true, forall_const, forall_eq, ne_eq, exists_eq_right_right, exists_eq_right, exists_eq_left, exists_eq_left', rootL, eInt, eBool, lit_eq, eDoc, e1, e2, e4, e8, e9, e10, e44, e45, e46, k8, kM, kN, k13, rowA, bL, bL2, bV, bC, wa1, wa2, gi, wl, bI2, tn, n8N, mNr, nMN]
      refine ⟨by omega, ?_⟩
      obtain ⟨y', hy'⟩ : ∃ y' : HNode, y' = { y with kids := y.kids ++ [((d.nodes.length + j : Nat) : Int)] } := ⟨_, rfl⟩
      obtain ⟨sl2, hsl2⟩ : ∃ sl2, sl2 = upd sl' (2 * (d.nodes.length + i) + 1) (.osl r2 1 0 (y.kids.length + 1)) := ⟨_, rfl⟩
      have w1 : sl2 (2 * (d.nodes.length + i)) = s1 := by rw [hsl2, upd_ne _ _ (by omega), hs1]
      have w2 : sl2 (2 * (d.nodes.length + i) + 1) = .osl r2 1 0 (y.kids.length + 1) := by rw [hsl2, upd_same]
      obtain ⟨H2, hH2⟩ : ∃ H2, H2 = upd h3 rN (some ⟨.t 29, 6, (rowsA (cpD d n j) sl').set (d.nodes.length + i) (rowA y' s1 (.osl r2 1 0 (y.kids.length + 1)))⟩) := ⟨_, rfl⟩
      show Hd (appE 29 6 96 b [[aInt x.kind, .str x.name, a1, .str x.text, aInt ((d.nodes.length : Int) + i), .emp]] (upd h3 rN (some ⟨.t 29, 6, (rowsA (cpD d n j) sl').set (d.nodes.length + i) [aInt y.kind, .str y.name, s1, .str y.text, aInt y.parent, .osl r2 1 0 (y.kids.length + 1)]⟩))) _ _
      rw [show (upd h3 rN (some ⟨.t 29, 6, (rowsA (cpD d n j) sl').set (d.nodes.length + i) [aInt y.kind, .str y.name, s1, .str y.text, aInt y.parent, .osl r2 1 0 (y.kids.length + 1)]⟩) : Heap) = H2 from by rw [hH2, hy']; rfl]
      have r2N : r2 ≠ rN := fun e => by
        rcases q2 with q | q
        · exact e2N (by rw [← e]; exact q)
        · rw [e, HN] at q; cases q
      have g1o := (EH.own _ Hi).1
      rw [hy, hs1] at g1o
      have fs1 : ∀ r, rootOf s1 = some r → r ≠ rN ∧ rootOf s2 ≠ some r ∧ ∃ o, H r = some o := fun r hr => ⟨(EH.fresh (2 * (d.nodes.length + i)) (by omega) r (by rw [hs1]; exact hr)).2.1, fun q => EH.sep (2 * (d.nodes.length + i)) (2 * (d.nodes.length + i) + 1) (by omega) (by omega) (by omega) r (by rw [hs1]; exact hr) (by rw [hs2]; exact q), g1o.root hr⟩
      have E2 := EH.put (h2 := H2) Hi (x' := y') (sl' := sl2) (fun t t1 t2 => by rw [hsl2, upd_ne _ _ t2]) (by rw [hH2, upd_same, w1, w2])
        (fun r o ho t1 t2 t3 => by rw [hH2, upd_ne _ _ t1]; exact q3 r o ho (by rw [← hs2]; exact t3))
        (by
          rw [w1, hy']
          exact g1o.keep fun r o hr ho => by rw [hH2, upd_ne _ _ (fs1 r hr).1]; exact q3 r o ho (fs1 r hr).2.1)
        (by
          rw [w2, hy']
          refine .inr (.inr ⟨r2, _, by simp, by rw [hH2, upd_ne _ _ r2N]; exact q1, by simp, ?_⟩)
          rw [List.take_of_length_le (by simp)]; simp; rfl)
        (fun r hr => by
          rw [w1, w2] at hr
          rw [hs1, hs2]
          rcases hr with hr | hr
          · exact .inl hr
          · cases hr
            rcases q2 with q | q
            · exact .inr (.inl q)
            · exact .inr (.inr q))
        (fun r hr q => by
          rw [w1] at hr
          rw [w2] at q
          cases q
          rcases q2 with q | q
          · exact (fs1 _ hr).2.1 q
          · obtain ⟨o, ho⟩ := (fs1 _ hr).2.2; rw [q] at ho; cases ho)
      obtain ⟨DJ, hDJ⟩ : ∃ DJ : HDoc, DJ = ⟨(cpD d n j).nodes.set (d.nodes.length + i) y', (cpD d n j).quirks⟩ := ⟨_, rfl⟩
      rw [← hDJ] at E2
      have Lj : DJ.nodes.length = d.nodes.length + j := by rw [hDJ]; simp only [List.length_set]; exact cl j hj
      have fin : addN DJ ⟨x.kind, x.name, x.attrs, x.text, (d.nodes.length : Int) + i, []⟩ = cpD d n (j + 1) := by
        rw [cp_step V hn (show j < (below d n).length by rw [hA]; exact hj') jp hij (by rw [hA, hc, hx]; exact hip), hA, hc, hDJ, hy, hy']
        unfold cpX setN
        rw [hx, if_neg hcn, hix, Int.toNat_natCast]
      have H28 : H2 r8 = some ⟨.t 24, 2, [[b, .bool d.quirks]]⟩ := by rw [hH2, upd_ne _ _ n8N]; exact k8
      have H2M : H2 rM = some ⟨.m 92 (eM (putI c ((d.nodes.length + j : Nat) : Int) l)), 1, []⟩ := by rw [hH2, upd_ne _ _ nMN]; exact kM
      have na : ∀ r, rootOf a1 = some r → rootOf s2 ≠ some r := fun r hr => by rw [← hs2]; exact (fE r hr).2.2.2 _ (by omega)
      have OA2 : OwnS H2 71 2 (x.attrs.map eAttr) a1 := OA'.keep fun r o hr ho => by rw [hH2, upd_ne _ _ (fE r hr).2.2.1]; exact q3 r o ho (na r hr)
      have fE2 : ∀ r, rootOf a1 = some r → HZ r = none ∧ r ∉ [rM, r8] ∧ r ≠ rN ∧ ∀ k, k < 2 * DJ.nodes.length → rootOf (sl2 k) ≠ some r := fun r hr => by
        refine ⟨(fE r hr).1, (fE r hr).2.1, (fE r hr).2.2.1, fun k hk => ?_⟩
        rw [hsl2]
        by_cases k1 : k = 2 * (d.nodes.length + i) + 1
        · rw [k1, upd_same]
          intro q
          cases q
          rcases q2 with q | q
          · exact na _ hr q
          · obtain ⟨o, ho⟩ := OA'.root hr; rw [q] at ho; cases ho
        · rw [upd_ne _ _ k1]; exact (fE r hr).2.2.2 k (by rw [cl j hj]; rw [Lj] at hk; exact hk)
      have M' : ∀ k, k < 2 * DJ.nodes.length → Mut (sl2 k) := fun k hk => by
        rw [Lj] at hk
        rw [hsl2]
        by_cases k1 : k = 2 * (d.nodes.length + i) + 1
        · rw [k1, upd_same]; exact fun es e => by cases e
        · rw [upd_ne _ _ k1]; exact M k hk
      have OR := E2.rows
      rw [Lj, ← hb] at OR
      have rb : rootOf b = some rN := by rw [hb]; rfl
      refine OR.1.app OR.2 (by rw [rowsA_len, List.length_singleton]; omega) (by rw [rowsA_len, List.length_singleton]; omega) fun r' h4 p1 p2 p3 => ?_
      rw [rowsA_len, List.length_singleton, Lj]
      have nb : ∀ t, t ≠ rN → rootOf b ≠ some t := fun t ht e => by rw [rb] at e; cases e; exact ht rfl
      have nrX : ∀ r ∈ [rM, r8], r ≠ rN := fun r hr e => E2.new.2 (e ▸ hr)
      have k38 := p3 _ _ H28 (nb _ (nrX r8 (by simp)))
      have k3M := p3 _ _ H2M (nb _ (nrX rM (by simp)))
      have fr' : r' = rN ∨ H2 r' = none := by
        rcases p2 with q | q
        · rw [rb] at q; cases q; exact .inl rfl
        · exact .inr q
      have ne : ∀ r, rootOf a1 = some r → r ≠ r' := fun r hr e => by
        rcases fr' with q | q
        · exact (fE2 r hr).2.2.1 (e.trans q)
        · obtain ⟨o, ho⟩ := OA2.root hr
          rw [e, q] at ho; cases ho
      have E3 := E2.add (rN' := r') (a' := a1) (x := ⟨x.kind, x.name, x.attrs, x.text, (d.nodes.length : Int) + i, []⟩) (h2 := h4) rfl p1 (fun r o ho hne => p3 r o ho (nb r hne))
        (OA2.keep fun r o hr ho => p3 r o ho (nb r (fE2 r hr).2.2.1)) (fun r hr => ⟨(fE2 r hr).1, (fE2 r hr).2.1, ne r hr, (fE2 r hr).2.2.2⟩) fr'
      have M3 := live_add M' MA ⟨x.kind, x.name, x.attrs, x.text, (d.nodes.length : Int) + i, []⟩
      rw [fin] at E3 M3
      rw [cl (j + 1) hj'] at M3
      have E4 := E3.other (r := r8) (by simp) n8 ⟨24, 2, [[.osl r' 6 0 (d.nodes.length + j + 1), .bool d.quirks]]⟩
      simp -dsimp -implicitDefEqProofs (disch := omega) only [↓vcOps_sp 24, ↓vcD_sp 24, VCA, pg_gl, ↓upd_none, Nat.reduceEqDiff, Nat.reduceBEq, Nat.reduceAdd, Nat.reduceSub, Nat.reduceMul, Nat.reduceLT, Nat.reduceLeDiff, ↓reduceIte, reduceCtorEq, rsOf, rootsOf, SOp.rd, SI.rd, SX.rd, rdL, rdO, rdP, okParts, eqCells, okEqCells, fillA, okFill, setAt, implies_true, forall_const, forall_eq, ne_eq, exists_eq_right_right, exists_eq_right, exists_eq_left, exists_eq_left', rootL, eInt, eBool, lit_eq, eDoc, e1, e2, e4, e8, e9, e10, e44, e45, e46, k38, k3M, bL, bL2, bV, bC]
      refine ⟨_, by omega, j + 1, r', _, _, hj', rfl, by omega, E4, M3, rfl, by rw [if_neg (fun e => x8M e.symm)], fun t ht => ?_⟩
      rw [findI_put]
      by_cases htj : t = j
      · rw [htj, hc, if_pos rfl]; rfl
      · rw [if_neg (fun q => htj ?_)]
        · exact hf t (by omega)
        · have nu := below_nodup V n hn
          rw [hA] at nu
          have i1 := ix_nth nu (show t < A.length by omega)
          have i2 := ix_nth nu hj'
          rw [q, ← hc, i2] at i1
          omega
  · obtain rfl : j = A.length := by omega
    have g43 := E.sub _ _ gZ
    have c1 : copyE d n = if 200 < d.nodes.length + A.length then 2 else 0 := by
      unfold copyE
      rw [if_neg (by rw [(docE_iff d).2 V]; simp), if_neg (fun q => q hn), if_neg hn0, hA]
    repeat' (first | ((with_reducible refine brC (fun _ => ?_) fun _ => ?_) <;> try (exfalso; omega)) | (with_reducible refine And.intro ?_ ?_; · omega) | simp -dsimp -implicitDefEqProofs (disch := omega) only [↓vcOps_sp 24, ↓vcD_sp 24, VCA, pg_gl, ↓upd_none, Nat.reduceEqDiff, Nat.reduceBEq, Nat.reduceAdd, Nat.reduceSub, Nat.reduceMul, Nat.reduceLT, Nat.reduceLeDiff, ↓reduceIte, reduceCtorEq, rsOf, rootsOf, SOp.rd, SI.rd, SX.rd, rdL, rdO, rdP, okParts, eqCells, okEqCells, fillA, okFill, setAt, implies_true, forall_const, forall_eq, ne_eq, exists_eq_right_right, exists_eq_right, exists_eq_left, exists_eq_left', rootL, eInt, eBool, lit_eq, eDoc, e1, e2, e4, e8, e9, e10, e44, e45, e46, g8, gM, g4, x4, xM, x8M, bL, bL2, bV, bC])
    · have c2 : copyE d n = 2 := by rw [c1, if_pos (by omega)]
      refine ⟨_, Sub.refl _, (S0.trans E.sub).upd hr4, ?_⟩
      rw [c2, if_neg (by decide), if_neg (by decide)]
      exact .tup' (.cons (vw_noDoc _) (.cons (.refl _) (.cons (.refl _) .nil)))
    · have c2 : copyE d n = 0 := by rw [c1, if_neg (by omega)]
      refine ⟨_, Sub.refl _, (S0.trans E.sub).upd hr4, ?_⟩
      rw [c2, if_pos rfl, if_pos rfl, hA]
      have v := (E.beside (h00 := h0) S0 gZ hr4 (by simp [x4, xM]) ⟨24, 2, [[b, .bool d.quirks]]⟩).new'.vw
      have ca := cp_all V hn
      rw [hA] at ca
      rw [ca] at v
      have lb : (cpT d n A.length).nodes.length = d.nodes.length + A.length := by rw [← ca]; exact cl _ (Nat.le_refl _)
      rw [lb, ← hb] at v
      exact .tup' (.cons (Vw.agg' (.cons v (.cons (.refl _) .nil))) (.cons (.refl _) (.cons (.refl _) .nil)))
def copyD (d : HDoc) (n : Int) : HDoc := if copyE d n = 0 then cpT d n (below d n).length else noDoc
def copyN (d : HDoc) (n : Int) : Int := if copyE d n = 0 then d.nodes.length else 0
set_option maxHeartbeats 1000000 in
theorem copy_ok (d : HDoc) (sm : DocSm d) (n : Int) : PCalls (Pg G) 23 [.agg (eDoc d), aInt n] (.tup [.agg (eDoc (copyD d n)), aInt (copyN d n), aInt (copyE d n)]) := PCalls.outV fun h => by
  have hC := check_ok (G := G) d sm
  simp only [eDoc] at hC
  have S0 : ∀ r4, h r4 = none → ∀ x, Sim.Sub h (upd h r4 (some x)) := fun r4 hr4 x => (Sub.refl h).upd hr4
  have bad : ∀ (x : Int), x ≠ 0 → copyE d n = x → ∀ {r4}, h r4 = none → ∀ y, CpK d n h (.tup [.agg [.emp, .bool false], .int .i64 0, .int .i64 x]) (upd h r4 (some y)) := fun x hx hc r4 hr4 y => by
    refine ⟨S0 r4 hr4 y, ?_⟩
    rw [hc, if_neg hx, if_neg hx]
    exact .tup' (.cons (vw_noDoc _) (.cons (.refl _) (.cons (.refl _) .nil)))
  show DCalls _ _ _ h (CpK d n h)
  refine dcalls_of_vc Tryd.func23 hn23 hc23 (by rw [Tryd.ntmps23]; simp) (by rw [Tryd.ntmps23]; decide) ?_
  simp -dsimp -implicitDefEqProofs (disch := omega) only [↓vcOps_sp 24, ↓vcD_sp 24, VCA, pg_gl, ↓upd_none, Nat.reduceEqDiff, Nat.reduceBEq, Nat.reduceAdd, Nat.reduceSub, Nat.reduceMul, Nat.reduceLT, Nat.reduceLeDiff, ↓reduceIte, reduceCtorEq, rsOf, rootsOf, SOp.rd, SI.rd, SX.rd, rdL, rdO, rdP, okParts, eqCells, okEqCells, fillA, okFill, setAt, implies_true, forall_const, forall_eq, ne_eq, exists_eq_right_right, exists_eq_right, exists_eq_left, exists_eq_left', rootL, eInt, eBool, lit_eq, eDoc, c23, eDoc]
  intro r4 hr4
  by_cases hd : docE d = 0
  · have V := docE_DV hd
    rw [hd] at hC
    have hl := V.len
    by_cases hn : inD d n
    · have n0 := hn.1
      have n1 := hn.2
      by_cases hn0 : n = 0
      · have cE : copyE d n = 7 := by unfold copyE; rw [if_neg (by simpa using hd), if_neg (fun q => q hn), if_pos hn0]
        repeat' (first | ((with_reducible refine brC (fun _ => ?_) fun _ => ?_) <;> try (exfalso; omega)) | (with_reducible apply pcallE.of; · exact hC) | (with_reducible refine And.intro ?_ ?_; · omega) | simp -dsimp -implicitDefEqProofs (disch := omega) only [↓vcOps_sp 24, ↓vcD_sp 24, VCA, pg_gl, ↓upd_none, Nat.reduceEqDiff, Nat.reduceBEq, Nat.reduceAdd, Nat.reduceSub, Nat.reduceMul, Nat.reduceLT, Nat.reduceLeDiff, ↓reduceIte, reduceCtorEq, rsOf, rootsOf, SOp.rd, SI.rd, SX.rd, rdL, rdO, rdP, okParts, eqCells, okEqCells, fillA, okFill, setAt, implies_true, forall_const, forall_eq, ne_eq, exists_eq_right_right, exists_eq_right, exists_eq_left, exists_eq_left', rootL, eInt, eBool, lit_eq, eDoc, upd_same])
        all_goals try (exfalso; omega)
        all_goals exact ⟨_, Sub.refl _, bad 7 (by decide) cE hr4 _⟩
      · have cE : (n == 0) = false := beq_eq_false_iff_ne.2 hn0
        repeat' (first | ((with_reducible refine brC (fun _ => ?_) fun _ => ?_) <;> try (exfalso; omega)) | (with_reducible apply pcallE.of; · exact hC) | (with_reducible refine And.intro ?_ ?_; · omega) | simp -dsimp -implicitDefEqProofs (disch := omega) only [↓vcOps_sp 24, ↓vcD_sp 24, VCA, pg_gl, ↓upd_none, Nat.reduceEqDiff, Nat.reduceBEq, Nat.reduceAdd, Nat.reduceSub, Nat.reduceMul, Nat.reduceLT, Nat.reduceLeDiff, ↓reduceIte, reduceCtorEq, rsOf, rootsOf, SOp.rd, SI.rd, SX.rd, rdL, rdO, rdP, okParts, eqCells, okEqCells, fillA, okFill, setAt, implies_true, forall_const, forall_eq, ne_eq, exists_eq_right_right, exists_eq_right, exists_eq_left, exists_eq_left', rootL, eInt, eBool, lit_eq, eDoc, upd_same, cE])
        all_goals try (exfalso; omega)
        refine DCalls.of (own_ok' (G := G) d sm V.pos _) ?_
        rintro _ h1 ⟨rN, sl1, rfl, D, M⟩
        obtain ⟨HZ, hHZ⟩ : ∃ HZ, HZ = upd h r4 (some ⟨.t 24, 2, [[.emp, .bool false]]⟩) := ⟨_, rfl⟩
        have gZ : HZ r4 = some ⟨.t 24, 2, [[.emp, .bool false]]⟩ := by rw [hHZ, upd_same]
        rw [← hHZ] at D
        have gN := D.nodes
        have g41 := D.sub _ _ gZ
        simp -dsimp -implicitDefEqProofs (disch := omega) only [↓vcOps_sp 24, ↓vcD_sp 24, VCA, pg_gl, ↓upd_none, Nat.reduceEqDiff, Nat.reduceBEq, Nat.reduceAdd, Nat.reduceSub, Nat.reduceMul, Nat.reduceLT, Nat.reduceLeDiff, ↓reduceIte, reduceCtorEq, rsOf, rootsOf, SOp.rd, SI.rd, SX.rd, rdL, rdO, rdP, okParts, eqCells, okEqCells, fillA, okFill, setAt, implies_true, forall_const, forall_eq, ne_eq, exists_eq_right_right, exists_eq_right, exists_eq_left, exists_eq_left', rootL, eInt, eBool, lit_eq, eDoc, upd_same, gN, g41]
        intro r8 hr8
        have m4 : ¬ r4 = r8 := fun e => by rw [← e, g41] at hr8; cases hr8
        have mN : ¬ rN = r8 := fun e => by rw [← e, gN] at hr8; cases hr8
        have D8 := D.more hr8 ⟨24, 2, [[.osl rN 6 0 d.nodes.length, .bool d.quirks]]⟩
        intro rM hrM
        have rM8 : ¬ rM = r8 := hrM.1
        have DM := D8.more (r := rM) (by rw [upd_ne _ _ rM8]; exact hrM.2) ⟨.m 92 (eM []), 1, []⟩
        have z8 := D.sub.none hr8
        have zM := D.sub.none hrM.2
        rw [hHZ] at DM z8 zM
        exact copy_end d V sm n hn hn0 hr4 (S0 r4 hr4 _) DM M (by rw [upd_ne _ _ (fun e => rM8 e.symm)]; exact upd_same _ _ _) (upd_same _ _ _) z8 zM _ rfl rfl rfl rfl rfl rfl
    · have cE : copyE d n = 1 := by unfold copyE; rw [if_neg (by simpa using hd), if_pos hn]
      unfold inD at hn
      repeat' (first | ((with_reducible refine brC (fun _ => ?_) fun _ => ?_) <;> try (exfalso; omega)) | (with_reducible apply pcallE.of; · exact hC) | (with_reducible refine And.intro ?_ ?_; · omega) | simp -dsimp -implicitDefEqProofs (disch := omega) only [↓vcOps_sp 24, ↓vcD_sp 24, VCA, pg_gl, ↓upd_none, Nat.reduceEqDiff, Nat.reduceBEq, Nat.reduceAdd, Nat.reduceSub, Nat.reduceMul, Nat.reduceLT, Nat.reduceLeDiff, ↓reduceIte, reduceCtorEq, rsOf, rootsOf, SOp.rd, SI.rd, SX.rd, rdL, rdO, rdP, okParts, eqCells, okEqCells, fillA, okFill, setAt, implies_true, forall_const, forall_eq, ne_eq, exists_eq_right_right, exists_eq_right, exists_eq_left, exists_eq_left', rootL, eInt, eBool, lit_eq, eDoc, upd_same])
      all_goals try (exfalso; omega)
      all_goals exact ⟨_, Sub.refl _, bad 1 (by decide) cE hr4 _⟩
  · have cE : copyE d n = docE d := by unfold copyE; rw [if_pos hd]
    repeat' (first | ((with_reducible refine brC (fun _ => ?_) fun _ => ?_) <;> try (exfalso; omega)) | (with_reducible apply pcallE.of; · exact hC) | (with_reducible refine And.intro ?_ ?_; · omega) | simp -dsimp -implicitDefEqProofs (disch := omega) only [↓vcOps_sp 24, ↓vcD_sp 24, VCA, pg_gl, ↓upd_none, Nat.reduceEqDiff, Nat.reduceBEq, Nat.reduceAdd, Nat.reduceSub, Nat.reduceMul, Nat.reduceLT, Nat.reduceLeDiff, ↓reduceIte, reduceCtorEq, rsOf, rootsOf, SOp.rd, SI.rd, SX.rd, rdL, rdO, rdP, okParts, eqCells, okEqCells, fillA, okFill, setAt, implies_true, forall_const, forall_eq, ne_eq, exists_eq_right_right, exists_eq_right, exists_eq_left, exists_eq_left', rootL, eInt, eBool, lit_eq, eDoc, upd_same])
    all_goals try (exfalso; omega)
    all_goals exact ⟨_, Sub.refl _, bad _ hd cE hr4 _⟩
end Go.Proofs.K
end
section
set_option linter.unusedSimpArgs false
set_option linter.unusedVariables false
namespace Go.Proofs.K
open Go Go.Sim Go.Proofs
variable {G : Glob}
def c75 : SFun := ⟨.seq (.reg [⟨some 4, .mv (.c (.bool false)), none⟩]) (.seq (.seq (.reg [⟨some 6, .mv (.t 0), none⟩, ⟨some 7, .len (.t 6), none⟩, ⟨some 8, .mv (.t 1), none⟩, ⟨some 9, .len (.t 8), none⟩, ⟨some 10, .bin .neq (.t 7) (.t 9), none⟩]) (.cond (.t 10) (.seq (.reg [⟨some 4, .mv (.c (.bool false)), none⟩]) .ret) .skip)) (.seq (.seq (.reg [⟨some 11, .mv (.t 0), none⟩, ⟨some 12, .len (.t 11), none⟩, ⟨some 13, .mv (.c (.int .i64 0)), none⟩]) (.block 0 (.loop (.seq (.reg [⟨some 14, .bin .lss (.t 13) (.t 12), none⟩]) (.seq (.cond (.t 14) .skip (.exit 0)) (.seq (.block 1 (.seq (.reg [⟨some 15, .mv (.t 13), none⟩, ⟨some 5, .mv (.t 15), none⟩]) (.seq (.dreg [(⟨some 16, .mv (.t 0), none⟩, none), (⟨some 17, .mv (.t 5), none⟩, none), (⟨some 18, .idxA 2 (.t 16) (.t 17), none⟩, none), (⟨some 19, .ld 2 true (.t 18), none⟩, none), (⟨some 20, .mv (.t 1), none⟩, none), (⟨some 21, .mv (.t 5), none⟩, none), (⟨some 22, .idxA 2 (.t 20) (.t 21), none⟩, none), (⟨some 23, .ld 2 true (.t 22), none⟩, none), (⟨some 24, .eqs true [1, 1] (.t 19) (.t 23), none⟩, none)]) (.cond (.t 24) (.seq (.reg [⟨some 4, .mv (.c (.bool false)), none⟩]) .ret) .skip)))) (.reg [⟨some 25, .bin .add (.t 13) (.c (.int .i64 1)), none⟩, ⟨some 13, .mv (.t 25), none⟩]))))))) (.seq (.reg [⟨some 4, .mv (.c (.bool true)), none⟩]) .ret))), [.tmp 4]⟩
theorem hc75 : toSF Tryd.prog {} Tryd.f75 = some c75 := by kernel_rfl
theorem hn75 : (Tryd.f75.name == "runtime.NumGoroutine") = false := by kernel_rfl
theorem eqAt_ok (a b : List HAttr) (ha : a.length ≤ 1073741824) (hb : b.length ≤ 1073741824) : PCalls (Pg G) 75 [sl eAttr a, sl eAttr b] (.bool (a == b)) := by
  intro h
  refine dcalls_of_vc Tryd.func75 hn75 hc75 (by rw [Tryd.ntmps75]; simp) (by rw [Tryd.ntmps75]; decide) ?_
  simp -dsimp -implicitDefEqProofs (disch := omega) only [VCA, pg_gl, ↓upd_none, Nat.reduceEqDiff, Nat.reduceBEq, Nat.reduceAdd, Nat.reduceSub, Nat.reduceMul, Nat.reduceLT, Nat.reduceLeDiff, ↓reduceIte, reduceCtorEq, rsOf, rootsOf, SOp.rd, SI.rd, SX.rd, rdL, rdO, rdP, okParts, eqCells, okEqCells, fillA, okFill, setAt, implies_true, forall_const, forall_eq, ne_eq, exists_eq_right_right, exists_eq_right, exists_eq_left, exists_eq_left', rootL, eInt, eBool, lit_eq, c75]
  refine Br.ne (fun h1 => ?_) (fun h1 => ?_)
  · simp -dsimp -implicitDefEqProofs (disch := omega) only [VCA, pg_gl, ↓upd_none, Nat.reduceEqDiff, Nat.reduceBEq, Nat.reduceAdd, Nat.reduceSub, Nat.reduceMul, Nat.reduceLT, Nat.reduceLeDiff, ↓reduceIte, reduceCtorEq, rsOf, rootsOf, SOp.rd, SI.rd, SX.rd, rdL, rdO, rdP, okParts, eqCells, okEqCells, fillA, okFill, setAt, implies_true, forall_const, forall_eq, ne_eq, exists_eq_right_right, exists_eq_right, exists_eq_left, exists_eq_left', rootL, eInt, eBool, lit_eq]
    have : ¬ a = b := fun e => h1 (by rw [e])
    first | exact Sub.refl _ | exact ⟨Sub.refl _, by simp [this]⟩
  · simp -dsimp -implicitDefEqProofs (disch := omega) only [VCA, pg_gl, ↓upd_none, Nat.reduceEqDiff, Nat.reduceBEq, Nat.reduceAdd, Nat.reduceSub, Nat.reduceMul, Nat.reduceLT, Nat.reduceLeDiff, ↓reduceIte, reduceCtorEq, rsOf, rootsOf, SOp.rd, SI.rd, SX.rd, rdL, rdO, rdP, okParts, eqCells, okEqCells, fillA, okFill, setAt, implies_true, forall_const, forall_eq, ne_eq, exists_eq_right_right, exists_eq_right, exists_eq_left, exists_eq_left', rootL, eInt, eBool, lit_eq]
    have h1' : a.length = b.length := by omega
    refine LoopVC.intro (fun m e h' => ∃ k : Nat, k ≤ a.length ∧ m = a.length - k ∧ e 0 = sl eAttr a ∧ e 1 = sl eAttr b ∧ e 12 = aInt a.length ∧ e 13 = aInt k ∧ h' = h ∧ ∀ j, j < k → nth a j = nth b j) a.length ⟨0, by omega, by omega, rfl, rfl, rfl, rfl, rfl, fun j hj => absurd hj (Nat.not_lt_zero j)⟩ ?_
    rintro m e h' ⟨k, hk, rfl, he0, he1, he12, he13, rfl, hj⟩
    simp -dsimp -implicitDefEqProofs (disch := omega) only [VCA, pg_gl, ↓upd_none, Nat.reduceEqDiff, Nat.reduceBEq, Nat.reduceAdd, Nat.reduceSub, Nat.reduceMul, Nat.reduceLT, Nat.reduceLeDiff, ↓reduceIte, reduceCtorEq, rsOf, rootsOf, SOp.rd, SI.rd, SX.rd, rdL, rdO, rdP, okParts, eqCells, okEqCells, fillA, okFill, setAt, implies_true, forall_const, forall_eq, ne_eq, exists_eq_right_right, exists_eq_right, exists_eq_left, exists_eq_left', rootL, eInt, eBool, lit_eq, he0, he1, he12, he13]
    refine Br.dec (fun hlt => ?_) (fun hge => ?_)
    · have hb := eAttr_beq (nth a k) (nth b k)
      simp -dsimp -implicitDefEqProofs (disch := omega) only [VCA, pg_gl, ↓upd_none, Nat.reduceEqDiff, Nat.reduceBEq, Nat.reduceAdd, Nat.reduceSub, Nat.reduceMul, Nat.reduceLT, Nat.reduceLeDiff, ↓reduceIte, reduceCtorEq, rsOf, rootsOf, SOp.rd, SI.rd, SX.rd, rdL, rdO, rdP, okParts, eqCells, okEqCells, fillA, okFill, setAt, implies_true, forall_const, forall_eq, ne_eq, exists_eq_right_right, exists_eq_right, exists_eq_left, exists_eq_left', rootL, eInt, eBool, lit_eq, he0, he1, he12, he13, eAttr]
      refine ⟨by omega, by omega, ?_⟩
      by_cases hq : nth a k = nth b k
      · have h1 : ((nth a k).name == (nth b k).name && (nth a k).value == (nth b k).value) = true := by rw [hq]; simp
        simp -dsimp -implicitDefEqProofs (disch := omega) only [VCA, pg_gl, ↓upd_none, Nat.reduceEqDiff, Nat.reduceBEq, Nat.reduceAdd, Nat.reduceSub, Nat.reduceMul, Nat.reduceLT, Nat.reduceLeDiff, ↓reduceIte, reduceCtorEq, rsOf, rootsOf, SOp.rd, SI.rd, SX.rd, rdL, rdO, rdP, okParts, eqCells, okEqCells, fillA, okFill, setAt, implies_true, forall_const, forall_eq, ne_eq, exists_eq_right_right, exists_eq_right, exists_eq_left, exists_eq_left', rootL, eInt, eBool, lit_eq, he0, he1, he12, he13, h1]
        refine ⟨_, ?_, k + 1, by omega, rfl, by omega, fun j hj' => ?_⟩
        · omega
        · by_cases h3 : j = k
          · subst h3; exact hq
          · exact hj j (by omega)
      · have h1 : ((nth a k).name == (nth b k).name && (nth a k).value == (nth b k).value) = false := by rw [← hb]; exact beq_eq_false_iff_ne.2 hq
        simp -dsimp -implicitDefEqProofs (disch := omega) only [VCA, pg_gl, ↓upd_none, Nat.reduceEqDiff, Nat.reduceBEq, Nat.reduceAdd, Nat.reduceSub, Nat.reduceMul, Nat.reduceLT, Nat.reduceLeDiff, ↓reduceIte, reduceCtorEq, rsOf, rootsOf, SOp.rd, SI.rd, SX.rd, rdL, rdO, rdP, okParts, eqCells, okEqCells, fillA, okFill, setAt, implies_true, forall_const, forall_eq, ne_eq, exists_eq_right_right, exists_eq_right, exists_eq_left, exists_eq_left', rootL, eInt, eBool, lit_eq, he0, he1, he12, he13, h1]
        have : ¬ a = b := fun e => hq (by rw [e])
        first | exact Sub.refl _ | exact ⟨Sub.refl _, by simp [this]⟩
    · simp -dsimp -implicitDefEqProofs (disch := omega) only [VCA, pg_gl, ↓upd_none, Nat.reduceEqDiff, Nat.reduceBEq, Nat.reduceAdd, Nat.reduceSub, Nat.reduceMul, Nat.reduceLT, Nat.reduceLeDiff, ↓reduceIte, reduceCtorEq, rsOf, rootsOf, SOp.rd, SI.rd, SX.rd, rdL, rdO, rdP, okParts, eqCells, okEqCells, fillA, okFill, setAt, implies_true, forall_const, forall_eq, ne_eq, exists_eq_right_right, exists_eq_right, exists_eq_left, exists_eq_left', rootL, eInt, eBool, lit_eq]
      have : a = b := ext_nth h1' (fun j hj' => hj j (by omega))
      first | exact Sub.refl _ | exact ⟨Sub.refl _, by simp [this]⟩
def c53 : SFun := ⟨.seq (.reg [⟨some 4, .boxF 24 2 (.t 0), none⟩, ⟨some 5, .boxF 24 2 (.t 1), none⟩, ⟨some 8, .mv (.c (.bool false)), none⟩]) (.seq (.dreg [(⟨some 12, .fldA 0 (.t 4), none⟩, none), (⟨some 13, .ld 1 false (.t 12), none⟩, none), (⟨some 14, .mv (.t 2), none⟩, none), (⟨some 15, .idxA 6 (.t 13) (.t 14), none⟩, none), (⟨some 16, .ld 6 true (.t 15), none⟩, none), (⟨some 17, .fldA 0 (.t 5), none⟩, none), (⟨some 18, .ld 1 false (.t 17), none⟩, none), (⟨some 19, .mv (.t 3), none⟩, none), (⟨some 20, .idxA 6 (.t 18) (.t 19), none⟩, none), (⟨some 21, .ld 6 true (.t 20), none⟩, none), (⟨some 9, .new 29 6 [.int .i64 0, .str [], .emp, .str [], .int .i64 0, .emp], none⟩, (some [])), (⟨some 10, .new 29 6 [.int .i64 0, .str [], .emp, .str [], .int .i64 0, .emp], none⟩, (some [])), (⟨none, .st 6 (.t 9) (.t 16), none⟩, (some [16, 13])), (⟨none, .st 6 (.t 10) (.t 21), none⟩, (some [21, 18, 16, 13]))]) (.seq (.seq (.reg [⟨some 22, .fldA 0 (.t 9), none⟩, ⟨some 23, .ld 1 false (.t 22), none⟩, ⟨some 24, .fldA 0 (.t 10), none⟩, ⟨some 25, .ld 1 false (.t 24), none⟩, ⟨some 26, .bin .neq (.t 23) (.t 25), none⟩, ⟨some 27, .mv (.t 26), none⟩, ⟨some 28, .fldA 1 (.t 9), some (27, false)⟩, ⟨some 29, .ld 1 false (.t 28), some (27, false)⟩, ⟨some 30, .fldA 1 (.t 10), some (27, false)⟩, ⟨some 31, .ld 1 false (.t 30), some (27, false)⟩, ⟨some 32, .bin .neq (.t 29) (.t 31), some (27, false)⟩, ⟨some 33, .pick (.t 27) (.c (.bool true)) (.t 32), none⟩, ⟨some 34, .mv (.t 33), none⟩, ⟨some 35, .fldA 3 (.t 9), some (34, false)⟩, ⟨some 36, .ld 1 false (.t 35), some (34, false)⟩, ⟨some 37, .fldA 3 (.t 10), some (34, false)⟩, ⟨some 38, .ld 1 false (.t 37), some (34, false)⟩, ⟨some 39, .bin .neq (.t 36) (.t 38), some (34, false)⟩, ⟨some 40, .pick (.t 34) (.c (.bool true)) (.t 39), none⟩, ⟨some 41, .mv (.t 40), none⟩, ⟨some 42, .fldA 2 (.t 9), some (41, false)⟩, ⟨some 43, .ld 1 false (.t 42), some (41, false)⟩, ⟨some 44, .fldA 2 (.t 10), some (41, false)⟩, ⟨some 45, .ld 1 false (.t 44), some (41, false)⟩, ⟨some 46, .pcall 75 [.t 43, .t 45], some (41, false)⟩, ⟨some 47, .un .not (.t 46), some (41, false)⟩, ⟨some 48, .pick (.t 41) (.c (.bool true)) (.t 47), none⟩, ⟨some 49, .mv (.t 48), none⟩, ⟨some 50, .fldA 5 (.t 9), some (49, false)⟩, ⟨some 51, .ld 1 false (.t 50), some (49, false)⟩, ⟨some 52, .len (.t 51), some (49, false)⟩, ⟨some 53, .fldA 5 (.t 10), some (49, false)⟩, ⟨some 54, .ld 1 false (.t 53), some (49, false)⟩, ⟨some 55, .len (.t 54), some (49, false)⟩, ⟨some 56, .bin .neq (.t 52) (.t 55), some (49, false)⟩, ⟨some 57, .pick (.t 49) (.c (.bool true)) (.t 56), none⟩]) (.cond (.t 57) (.seq (.reg [⟨some 8, .mv (.c (.bool false)), none⟩]) .ret) .skip)) (.seq (.seq (.reg [⟨some 58, .fldA 5 (.t 9), none⟩, ⟨some 59, .ld 1 false (.t 58), none⟩, ⟨some 60, .len (.t 59), none⟩, ⟨some 61, .mv (.c (.int .i64 0)), none⟩]) (.block 0 (.loop (.seq (.reg [⟨some 62, .bin .lss (.t 61) (.t 60), none⟩]) (.seq (.cond (.t 62) .skip (.exit 0)) (.seq (.block 1 (.seq (.reg [⟨some 63, .mv (.t 61), none⟩, ⟨some 11, .mv (.t 63), none⟩]) (.seq (.dreg [(⟨some 64, .ld 2 true (.t 4), none⟩, none), (⟨some 65, .ld 2 true (.t 5), none⟩, none), (⟨some 66, .fldA 5 (.t 9), none⟩, none), (⟨some 67, .ld 1 false (.t 66), none⟩, none), (⟨some 68, .mv (.t 11), none⟩, none), (⟨some 69, .idxA 1 (.t 67) (.t 68), none⟩, none), (⟨some 70, .ld 1 false (.t 69), none⟩, none), (⟨some 71, .fldA 5 (.t 10), none⟩, none), (⟨some 72, .ld 1 false (.t 71), none⟩, none), (⟨some 73, .mv (.t 11), none⟩, none), (⟨some 74, .idxA 1 (.t 72) (.t 73), none⟩, none), (⟨some 75, .ld 1 false (.t 74), none⟩, none), (⟨some 76, .pcall 53 [.t 64, .t 65, .t 70, .t 75], none⟩, none), (⟨some 77, .un .not (.t 76), none⟩, none)]) (.cond (.t 77) (.seq (.reg [⟨some 8, .mv (.c (.bool false)), none⟩]) .ret) .skip)))) (.reg [⟨some 78, .bin .add (.t 61) (.c (.int .i64 1)), none⟩, ⟨some 61, .mv (.t 78), none⟩]))))))) (.seq (.reg [⟨some 8, .mv (.c (.bool true)), none⟩]) .ret)))), [.tmp 8]⟩
theorem hc53 : toSF Tryd.prog {pure := [75, 53]} Tryd.f53 = some c53 := by kernel_rfl
theorem hn53 : (Tryd.f53.name == "runtime.NumGoroutine") = false := by kernel_rfl
theorem alike_ok (a b : HDoc) (Va : DV a) (Vb : DV b) (sa : DocSm a) (sb : DocSm b) : ∀ n, inD a n → ∀ m, inD b m → up a n = up b m → PCalls (Pg G) 53 [.agg (eDoc a), .agg (eDoc b), aInt n, aInt m] (.bool (tr a n == tr b m)) := Va.down fun n hn ih m hm hu h => by
  obtain ⟨x, hx⟩ : ∃ x, nd a n = x := ⟨_, rfl⟩
  obtain ⟨y, hy⟩ : ∃ y, nd b m = y := ⟨_, rfl⟩
  have e0 : nth a.nodes n.toNat = x := hx
  have e1 : nth b.nodes m.toNat = y := hy
  have n0 := hn.1
  have n1 := hn.2
  have m0 := hm.1
  have m1 := hm.2
  have sx := sa.nd n
  have sy := sb.nd m
  have la := Va.len
  have lb := Vb.len
  have T := tr_iff Va Vb hn hm hu
  rw [hx] at sx ih T
  rw [hy] at sy T
  have hE := eqAt_ok (G := G) x.attrs y.attrs sx.attrs sy.attrs
  refine dcalls_of_vc Tryd.func53 hn53 hc53 (by rw [Tryd.ntmps53]; simp) (by rw [Tryd.ntmps53]; decide) ?_
  simp -dsimp -implicitDefEqProofs (disch := omega) only [↓vcOps_sp 27, ↓vcD_sp 27, ↓vcOps_sp 34, ↓vcD_sp 34, ↓vcOps_sp 41, ↓vcD_sp 41, ↓vcOps_sp 49, ↓vcD_sp 49, VCA, pg_gl, ↓upd_none, Nat.reduceEqDiff, Nat.reduceBEq, Nat.reduceAdd, Nat.reduceSub, Nat.reduceMul, Nat.reduceLT, Nat.reduceLeDiff, ↓reduceIte, reduceCtorEq, rsOf, rootsOf, SOp.rd, SI.rd, SX.rd, rdL, rdO, rdP, okParts, eqCells, okEqCells, fillA, okFill, setAt, implies_true, forall_const, forall_eq, ne_eq, exists_eq_right_right, exists_eq_right, exists_eq_left, exists_eq_left', rootL, eInt, eBool, lit_eq, c53, eDoc, e0, e1, eNode]
  refine ⟨by omega, by omega, fun r9 hr9 r10 hr10 => ?_⟩
  have n1 : ¬ r10 = r9 := hr10.1
  have n2 : ¬ r9 = r10 := fun e => n1 e.symm
  have S0 : ∀ p q r s, Sim.Sub h (upd (upd (upd (upd h r9 (some p)) r10 (some q)) r9 (some r)) r10 (some s)) := fun p q r s => ((((Sub.refl h).upd hr9).upd hr10.2).upd hr9).upd hr10.2
  have hno : ∀ P : Prop, (bareN x = bareN y → P) → ¬ P → (tr a n == tr b m) = false := fun P h1 h2 => beq_eq_false_iff_ne.2 fun e => h2 (h1 (T.1 e).1)
  by_cases q1 : x.kind = y.kind
  · have b1 : (x.kind != y.kind) = false := by rw [q1]; simp
    by_cases q2 : x.name = y.name
    · have b2 : (x.name != y.name) = false := by rw [q2]; simp
      by_cases q3 : x.text = y.text
      · have b3 : (x.text != y.text) = false := by rw [q3]; simp
        by_cases q4 : x.attrs = y.attrs
        · have b4 : (x.attrs == y.attrs) = true := by rw [q4]; simp
          rw [b4] at hE
          by_cases q5 : x.kids.length = y.kids.length
          · have b5 : ((x.kids.length : Int) != (y.kids.length : Int)) = false := by rw [q5]; simp
            have bb : bareN x = bareN y := by unfold bareN; cases x; cases y; simp only at q1 q2 q3 q4; subst q1; subst q2; subst q3; subst q4; rfl
            have lx := sx.kids
            have ly := sy.kids
            repeat' (first | ((with_reducible refine brC (fun _ => ?_) fun _ => ?_) <;> try (exfalso; omega)) | (with_reducible apply pcallE.of; · exact hE) | (with_reducible refine And.intro ?_ ?_; · omega) | simp -dsimp -implicitDefEqProofs (disch := omega) only [↓vcOps_sp 27, ↓vcD_sp 27, ↓vcOps_sp 34, ↓vcD_sp 34, ↓vcOps_sp 41, ↓vcD_sp 41, ↓vcOps_sp 49, ↓vcD_sp 49, VCA, pg_gl, ↓upd_none, Nat.reduceEqDiff, Nat.reduceBEq, Nat.reduceAdd, Nat.reduceSub, Nat.reduceMul, Nat.reduceLT, Nat.reduceLeDiff, ↓reduceIte, reduceCtorEq, rsOf, rootsOf, SOp.rd, SI.rd, SX.rd, rdL, rdO, rdP, okParts, eqCells, okEqCells, fillA, okFill, setAt, implies_true, forall_const, forall_eq, ne_eq, exists_eq_right_right, exists_eq_right, exists_eq_left, exists_eq_left', rootL, eInt, eBool, lit_eq, n1, n2, upd_same, b1, b2, b3, b4, b5])
            obtain ⟨HB, hHB⟩ : ∃ HB, HB = upd (upd (upd (upd h r9 (some ⟨.t 29, 6, [[.int .i64 0, .str [], .emp, .str [], .int .i64 0, .emp]]⟩)) r10 (some ⟨.t 29, 6, [[.int .i64 0, .str [], .emp, .str [], .int .i64 0, .emp]]⟩)) r9 (some ⟨.t 29, 6, [eNode x]⟩)) r10 (some ⟨.t 29, 6, [eNode y]⟩) := ⟨_, rfl⟩
            show LoopVC _ _ _ (upd (upd (upd (upd h r9 (some ⟨.t 29, 6, [[.int .i64 0, .str [], .emp, .str [], .int .i64 0, .emp]]⟩)) r10 (some ⟨.t 29, 6, [[.int .i64 0, .str [], .emp, .str [], .int .i64 0, .emp]]⟩)) r9 (some ⟨.t 29, 6, [eNode x]⟩)) r10 (some ⟨.t 29, 6, [eNode y]⟩))
            have SB : Sim.Sub h HB := by rw [hHB]; exact S0 _ _ _ _
            have g9 : HB r9 = some ⟨.t 29, 6, [eNode x]⟩ := by rw [hHB, upd_ne _ _ n2, upd_same]
            have g10 : HB r10 = some ⟨.t 29, 6, [eNode y]⟩ := by rw [hHB, upd_same]
            rw [← hHB]
            refine LoopVC.intro (fun m e h' => ∃ k : Nat, k ≤ x.kids.length ∧ m = x.kids.length - k ∧ e 4 = .pin (eDoc a) ∧ e 5 = .pin (eDoc b) ∧ e 9 = .vp r9 0 ∧ e 10 = .vp r10 0 ∧ e 60 = aInt x.kids.length ∧ e 61 = aInt k ∧ h' = HB ∧ ∀ j, j < k → tr a (nth x.kids j) = tr b (nth y.kids j)) x.kids.length
              ⟨0, by omega, by omega, rfl, rfl, rfl, rfl, rfl, rfl, rfl, fun j hj => absurd hj (Nat.not_lt_zero j)⟩ ?_
            rintro mm e h' ⟨k, hk, rfl, e4, e5, e9, e10, e60, e61, rfl, hj⟩
            simp -dsimp -implicitDefEqProofs (disch := omega) only [↓vcOps_sp 27, ↓vcD_sp 27, ↓vcOps_sp 34, ↓vcD_sp 34, ↓vcOps_sp 41, ↓vcD_sp 41, ↓vcOps_sp 49, ↓vcD_sp 49, VCA, pg_gl, ↓upd_none, Nat.reduceEqDiff, Nat.reduceBEq, Nat.reduceAdd, Nat.reduceSub, Nat.reduceMul, Nat.reduceLT, Nat.reduceLeDiff, ↓reduceIte, reduceCtorEq, rsOf, rootsOf, SOp.rd, SI.rd, SX.rd, rdL, rdO, rdP, okParts, eqCells, okEqCells, fillA, okFill, setAt, implies_true, forall_const, forall_eq, ne_eq, exists_eq_right_right, exists_eq_right, exists_eq_left, exists_eq_left', rootL, eInt, eBool, lit_eq, e4, e5, e9, e10, e60, e61, g9, g10, eNode]
            refine Br.dec (fun hlt => ?_) (fun hge => ?_)
            · have hkx : k < x.kids.length := by omega
              have hky : k < y.kids.length := by omega
              obtain ⟨u, hu1⟩ : ∃ u, nth x.kids k = u := ⟨_, rfl⟩
              obtain ⟨v, hv1⟩ : ∃ v, nth y.kids k = v := ⟨_, rfl⟩
              have um : u ∈ x.kids := by rw [← hu1]; exact nth_mem' hkx
              have vm : v ∈ y.kids := by rw [← hv1]; exact nth_mem' hky
              have uk := Va.up_kid hn (hx ▸ um)
              have vk := Vb.up_kid hm (hy ▸ vm)
              have hI := ih u um v (Vb.kid m hm v (hy ▸ vm)).1 (by rw [uk, vk, hu]) 
              simp only [eDoc] at hI
              by_cases ht : tr a u = tr b v
              · have tb : (tr a u == tr b v) = true := by rw [ht]; simp
                rw [tb] at hI
                repeat' (first | ((with_reducible refine brC (fun _ => ?_) fun _ => ?_) <;> try (exfalso; omega)) | (with_reducible apply pcallE.of; · exact hI) | (with_reducible refine And.intro ?_ ?_; · omega) | simp -dsimp -implicitDefEqProofs (disch := omega) only [↓vcOps_sp 27, ↓vcD_sp 27, ↓vcOps_sp 34, ↓vcD_sp 34, ↓vcOps_sp 41, ↓vcD_sp 41, ↓vcOps_sp 49, ↓vcD_sp 49, VCA, pg_gl, ↓upd_none, Nat.reduceEqDiff, Nat.reduceBEq, Nat.reduceAdd, Nat.reduceSub, Nat.reduceMul, Nat.reduceLT, Nat.reduceLeDiff, ↓reduceIte, reduceCtorEq, rsOf, rootsOf, SOp.rd, SI.rd, SX.rd, rdL, rdO, rdP, okParts, eqCells, okEqCells, fillA, okFill, setAt, implies_true, forall_const, forall_eq, ne_eq, exists_eq_right_right, exists_eq_right, exists_eq_left, exists_eq_left', rootL, eInt, eBool, lit_eq, e4, e5, e9, e10, e60, e61, g9, g10, eNode, hu1, hv1, eDoc])
                refine ⟨_, ?_, k + 1, by omega, rfl, by omega, fun j hj' => ?_⟩
                · omega
                · by_cases h3 : j = k
                  · subst h3; rw [hu1, hv1]; exact ht
                  · exact hj j (by omega)
              · have tb : (tr a u == tr b v) = false := beq_eq_false_iff_ne.2 ht
                rw [tb] at hI
                repeat' (first | ((with_reducible refine brC (fun _ => ?_) fun _ => ?_) <;> try (exfalso; omega)) | (with_reducible apply pcallE.of; · exact hI) | (with_reducible refine And.intro ?_ ?_; · omega) | simp -dsimp -implicitDefEqProofs (disch := omega) only [↓vcOps_sp 27, ↓vcD_sp 27, ↓vcOps_sp 34, ↓vcD_sp 34, ↓vcOps_sp 41, ↓vcD_sp 41, ↓vcOps_sp 49, ↓vcD_sp 49, VCA, pg_gl, ↓upd_none, Nat.reduceEqDiff, Nat.reduceBEq, Nat.reduceAdd, Nat.reduceSub, Nat.reduceMul, Nat.reduceLT, Nat.reduceLeDiff, ↓reduceIte, reduceCtorEq, rsOf, rootsOf, SOp.rd, SI.rd, SX.rd, rdL, rdO, rdP, okParts, eqCells, okEqCells, fillA, okFill, setAt, implies_true, forall_const, forall_eq, ne_eq, exists_eq_right_right, exists_eq_right, exists_eq_left, exists_eq_left', rootL, eInt, eBool, lit_eq, e4, e5, e9, e10, e60, e61, g9, g10, eNode, hu1, hv1, eDoc])
                refine (beq_eq_false_iff_ne.2 fun e => ht ?_).symm
                have h2 := (T.1 e).2
                have f1 : (x.kids.map (tr a))[k]? = some (tr a u) := by rw [List.getElem?_map, nth_some hkx, hu1]; rfl
                have f2 : (y.kids.map (tr b))[k]? = some (tr b v) := by rw [List.getElem?_map, nth_some hky, hv1]; rfl
                rw [h2, f2] at f1
                exact (Option.some.inj f1).symm
            · simp -dsimp -implicitDefEqProofs (disch := omega) only [↓vcOps_sp 27, ↓vcD_sp 27, ↓vcOps_sp 34, ↓vcD_sp 34, ↓vcOps_sp 41, ↓vcD_sp 41, ↓vcOps_sp 49, ↓vcD_sp 49, VCA, pg_gl, ↓upd_none, Nat.reduceEqDiff, Nat.reduceBEq, Nat.reduceAdd, Nat.reduceSub, Nat.reduceMul, Nat.reduceLT, Nat.reduceLeDiff, ↓reduceIte, reduceCtorEq, rsOf, rootsOf, SOp.rd, SI.rd, SX.rd, rdL, rdO, rdP, okParts, eqCells, okEqCells, fillA, okFill, setAt, implies_true, forall_const, forall_eq, ne_eq, exists_eq_right_right, exists_eq_right, exists_eq_left, exists_eq_left', rootL, eInt, eBool, lit_eq]
              have hm2 : x.kids.map (tr a) = y.kids.map (tr b) := by
                refine List.ext_getElem (by rw [List.length_map, List.length_map, q5]) fun j h1 h2 => ?_
                rw [List.length_map] at h1 h2
                rw [List.getElem_map, List.getElem_map]
                have := hj j (by omega)
                have f1 : nth x.kids j = x.kids[j] := by have := nth_some h1; rw [List.getElem?_eq_getElem h1] at this; exact (Option.some.inj this).symm
                have f2 : nth y.kids j = y.kids[j] := by have := nth_some h2; rw [List.getElem?_eq_getElem h2] at this; exact (Option.some.inj this).symm
                rw [← f1, ← f2]; exact this
              exact ⟨SB, by rw [T.2 ⟨bb, hm2⟩]; simp⟩
          · have b5 : ((x.kids.length : Int) != (y.kids.length : Int)) = true := by rw [bne_iff_ne]; omega
            have hb0 : (tr a n == tr b m) = false := beq_eq_false_iff_ne.2 fun e => q5 (by have := congrArg List.length (T.1 e).2; rwa [List.length_map, List.length_map] at this)
            repeat' (first | ((with_reducible refine brC (fun _ => ?_) fun _ => ?_) <;> try (exfalso; omega)) | (with_reducible apply pcallE.of; · exact hE) | (with_reducible refine And.intro ?_ ?_; · omega) | simp -dsimp -implicitDefEqProofs (disch := omega) only [↓vcOps_sp 27, ↓vcD_sp 27, ↓vcOps_sp 34, ↓vcD_sp 34, ↓vcOps_sp 41, ↓vcD_sp 41, ↓vcOps_sp 49, ↓vcD_sp 49, VCA, pg_gl, ↓upd_none, Nat.reduceEqDiff, Nat.reduceBEq, Nat.reduceAdd, Nat.reduceSub, Nat.reduceMul, Nat.reduceLT, Nat.reduceLeDiff, ↓reduceIte, reduceCtorEq, rsOf, rootsOf, SOp.rd, SI.rd, SX.rd, rdL, rdO, rdP, okParts, eqCells, okEqCells, fillA, okFill, setAt, implies_true, forall_const, forall_eq, ne_eq, exists_eq_right_right, exists_eq_right, exists_eq_left, exists_eq_left', rootL, eInt, eBool, lit_eq, n1, n2, upd_same, b1, b2, b3, b4, b5])
            all_goals exact ⟨S0 _ _ _ _, hb0.symm⟩
        · have b4 : (x.attrs == y.attrs) = false := beq_eq_false_iff_ne.2 q4
          rw [b4] at hE
          repeat' (first | ((with_reducible refine brC (fun _ => ?_) fun _ => ?_) <;> try (exfalso; omega)) | (with_reducible apply pcallE.of; · exact hE) | (with_reducible refine And.intro ?_ ?_; · omega) | simp -dsimp -implicitDefEqProofs (disch := omega) only [↓vcOps_sp 27, ↓vcD_sp 27, ↓vcOps_sp 34, ↓vcD_sp 34, ↓vcOps_sp 41, ↓vcD_sp 41, ↓vcOps_sp 49, ↓vcD_sp 49, VCA, pg_gl, ↓upd_none, Nat.reduceEqDiff, Nat.reduceBEq, Nat.reduceAdd, Nat.reduceSub, Nat.reduceMul, Nat.reduceLT, Nat.reduceLeDiff, ↓reduceIte, reduceCtorEq, rsOf, rootsOf, SOp.rd, SI.rd, SX.rd, rdL, rdO, rdP, okParts, eqCells, okEqCells, fillA, okFill, setAt, implies_true, forall_const, forall_eq, ne_eq, exists_eq_right_right, exists_eq_right, exists_eq_left, exists_eq_left', rootL, eInt, eBool, lit_eq, n1, n2, upd_same, b1, b2, b3, b4])
          all_goals exact ⟨S0 _ _ _ _, (hno _ (fun e => by unfold bareN at e; injection e) q4).symm⟩
      · have b3 : (x.text != y.text) = true := by simpa using q3
        repeat' (first | ((with_reducible refine brC (fun _ => ?_) fun _ => ?_) <;> try (exfalso; omega)) | (with_reducible refine And.intro ?_ ?_; · omega) | simp -dsimp -implicitDefEqProofs (disch := omega) only [↓vcOps_sp 27, ↓vcD_sp 27, ↓vcOps_sp 34, ↓vcD_sp 34, ↓vcOps_sp 41, ↓vcD_sp 41, ↓vcOps_sp 49, ↓vcD_sp 49, VCA, pg_gl, ↓upd_none, Nat.reduceEqDiff, Nat.reduceBEq, Nat.reduceAdd, Nat.reduceSub, Nat.reduceMul, Nat.reduceLT, Nat.reduceLeDiff, ↓reduceIte, reduceCtorEq, rsOf, rootsOf, SOp.rd, SI.rd, SX.rd, rdL, rdO, rdP, okParts, eqCells, okEqCells, fillA, okFill, setAt, implies_true, forall_const, forall_eq, ne_eq, exists_eq_right_right, exists_eq_right, exists_eq_left, exists_eq_left', rootL, eInt, eBool, lit_eq, n1, n2, upd_same, b1, b2, b3])
        all_goals exact ⟨S0 _ _ _ _, (hno _ (fun e => by unfold bareN at e; injection e) q3).symm⟩
    · have b2 : (x.name != y.name) = true := by simpa using q2
      repeat' (first | ((with_reducible refine brC (fun _ => ?_) fun _ => ?_) <;> try (exfalso; omega)) | (with_reducible refine And.intro ?_ ?_; · omega) | simp -dsimp -implicitDefEqProofs (disch := omega) only [↓vcOps_sp 27, ↓vcD_sp 27, ↓vcOps_sp 34, ↓vcD_sp 34, ↓vcOps_sp 41, ↓vcD_sp 41, ↓vcOps_sp 49, ↓vcD_sp 49, VCA, pg_gl, ↓upd_none, Nat.reduceEqDiff, Nat.reduceBEq, Nat.reduceAdd, Nat.reduceSub, Nat.reduceMul, Nat.reduceLT, Nat.reduceLeDiff, ↓reduceIte, reduceCtorEq, rsOf, rootsOf, SOp.rd, SI.rd, SX.rd, rdL, rdO, rdP, okParts, eqCells, okEqCells, fillA, okFill, setAt, implies_true, forall_const, forall_eq, ne_eq, exists_eq_right_right, exists_eq_right, exists_eq_left, exists_eq_left', rootL, eInt, eBool, lit_eq, n1, n2, upd_same, b1, b2])
      all_goals exact ⟨S0 _ _ _ _, (hno _ (fun e => by unfold bareN at e; injection e) q2).symm⟩
  · have b1 : (x.kind != y.kind) = true := by simpa using q1
    repeat' (first | ((with_reducible refine brC (fun _ => ?_) fun _ => ?_) <;> try (exfalso; omega)) | (with_reducible refine And.intro ?_ ?_; · omega) | simp -dsimp -implicitDefEqProofs (disch := omega) only [↓vcOps_sp 27, ↓vcD_sp 27, ↓vcOps_sp 34, ↓vcD_sp 34, ↓vcOps_sp 41, ↓vcD_sp 41, ↓vcOps_sp 49, ↓vcD_sp 49, VCA, pg_gl, ↓upd_none, Nat.reduceEqDiff, Nat.reduceBEq, Nat.reduceAdd, Nat.reduceSub, Nat.reduceMul, Nat.reduceLT, Nat.reduceLeDiff, ↓reduceIte, reduceCtorEq, rsOf, rootsOf, SOp.rd, SI.rd, SX.rd, rdL, rdO, rdP, okParts, eqCells, okEqCells, fillA, okFill, setAt, implies_true, forall_const, forall_eq, ne_eq, exists_eq_right_right, exists_eq_right, exists_eq_left, exists_eq_left', rootL, eInt, eBool, lit_eq, n1, n2, upd_same, b1])
    all_goals exact ⟨S0 _ _ _ _, (hno _ (fun e => by unfold bareN at e; injection e) q1).symm⟩
theorem sameTree_iff {a b : HDoc} (Va : DV a) (Vb : DV b) (hq : a.quirks = b.quirks) : sameTreeM a b = (tr a 0 == tr b 0) := by
  have h1 := (docE_iff a).2 Va
  have h2 := (docE_iff b).2 Vb
  have t := tr_two Va Vb
  unfold sameTreeM
  rw [h1, h2, hq]
  by_cases e : tr a 0 = tr b 0
  · rw [e, (t.1 e).1, (t.1 e).2]; simp
  · rw [beq_eq_false_iff_ne.2 e]
    by_cases e1 : treeL a = treeL b
    · have e2 : (treeD a == treeD b) = false := beq_eq_false_iff_ne.2 fun e2 => e (t.2 ⟨e1, e2⟩)
      rw [e2]; simp
    · rw [beq_eq_false_iff_ne.2 e1]; simp
def c24 : SFun := ⟨.seq (.reg [⟨some 2, .boxF 24 2 (.t 0), none⟩, ⟨some 3, .boxF 24 2 (.t 1), none⟩, ⟨some 4, .mv (.c (.bool false)), none⟩]) (.seq (.reg [⟨some 5, .ld 2 true (.t 2), none⟩, ⟨some 6, .pcall 50 [.t 5], none⟩, ⟨some 7, .bin .eql (.t 6) (.c (.int .i64 0)), none⟩, ⟨some 8, .mv (.t 7), none⟩, ⟨some 9, .ld 2 true (.t 3), some (8, true)⟩, ⟨some 10, .pcall 50 [.t 9], some (8, true)⟩, ⟨some 11, .bin .eql (.t 10) (.c (.int .i64 0)), some (8, true)⟩, ⟨some 12, .pick (.t 8) (.t 11) (.c (.bool false)), none⟩, ⟨some 13, .mv (.t 12), none⟩, ⟨some 14, .fldA 1 (.t 2), some (13, true)⟩, ⟨some 15, .ld 1 false (.t 14), some (13, true)⟩, ⟨some 16, .fldA 1 (.t 3), some (13, true)⟩, ⟨some 17, .ld 1 false (.t 16), some (13, true)⟩, ⟨some 18, .eqb false (.t 15) (.t 17), some (13, true)⟩, ⟨some 19, .pick (.t 13) (.t 18) (.c (.bool false)), none⟩, ⟨some 20, .mv (.t 19), none⟩, ⟨some 21, .ld 2 true (.t 2), some (20, true)⟩, ⟨some 22, .ld 2 true (.t 3), some (20, true)⟩, ⟨some 23, .pcall 53 [.t 21, .t 22, .c (.int .i64 0), .c (.int .i64 0)], some (20, true)⟩, ⟨some 24, .pick (.t 20) (.t 23) (.c (.bool false)), none⟩, ⟨some 4, .mv (.t 24), none⟩]) .ret), [.tmp 4]⟩
theorem hc24 : toSF Tryd.prog {pure := [50, 53]} Tryd.f24 = some c24 := by kernel_rfl
theorem hn24 : (Tryd.f24.name == "runtime.NumGoroutine") = false := by kernel_rfl
theorem domSame_ok (a b : HDoc) (sa : DocSm a) (sb : DocSm b) : PCalls (Pg G) 24 [.agg (eDoc a), .agg (eDoc b)] (.bool (sameTreeM a b)) := fun h => by
  have hC1 := check_ok (G := G) a sa
  have hC2 := check_ok (G := G) b sb
  simp only [eDoc] at hC1 hC2
  by_cases ha : docE a = 0
  · rw [ha] at hC1
    by_cases hb : docE b = 0
    · have Va := docE_DV ha
      have Vb := docE_DV hb
      rw [hb] at hC2
      by_cases hq : a.quirks = b.quirks
      · have hS := alike_ok (G := G) a b Va Vb sa sb 0 Va.zero 0 Vb.zero (by rw [Va.up_top (by rw [Va.root]; decide), Vb.up_top (by rw [Vb.root]; decide)])
        rw [← sameTree_iff Va Vb hq] at hS
        simp only [eDoc] at hS
        have q0 : (a.quirks == b.quirks) = true := by rw [hq]; simp
        refine dcalls_of_vc Tryd.func24 hn24 hc24 (by rw [Tryd.ntmps24]; simp) (by rw [Tryd.ntmps24]; decide) ?_
        simp -dsimp -implicitDefEqProofs (disch := omega) only [↓vcOps_sp 8, ↓vcD_sp 8, ↓vcOps_sp 13, ↓vcD_sp 13, ↓vcOps_sp 20, ↓vcD_sp 20, VCA, pg_gl, ↓upd_none, Nat.reduceEqDiff, Nat.reduceBEq, Nat.reduceAdd, Nat.reduceSub, Nat.reduceMul, Nat.reduceLT, Nat.reduceLeDiff, ↓reduceIte, reduceCtorEq, rsOf, rootsOf, SOp.rd, SI.rd, SX.rd, rdL, rdO, rdP, okParts, eqCells, okEqCells, fillA, okFill, setAt, implies_true, forall_const, forall_eq, ne_eq, exists_eq_right_right, exists_eq_right, exists_eq_left, exists_eq_left', rootL, eInt, eBool, lit_eq, c24, eDoc]
        repeat' (first | ((with_reducible refine brC (fun _ => ?_) fun _ => ?_) <;> try (exfalso; omega)) | (with_reducible apply pcallE.of; · exact hC1) | (with_reducible apply pcallE.of; · exact hC2) | (with_reducible apply pcallE.of; · exact hS) | (with_reducible refine And.intro ?_ ?_; · omega) | simp -dsimp -implicitDefEqProofs (disch := omega) only [↓vcOps_sp 8, ↓vcD_sp 8, ↓vcOps_sp 13, ↓vcD_sp 13, ↓vcOps_sp 20, ↓vcD_sp 20, VCA, pg_gl, ↓upd_none, Nat.reduceEqDiff, Nat.reduceBEq, Nat.reduceAdd, Nat.reduceSub, Nat.reduceMul, Nat.reduceLT, Nat.reduceLeDiff, ↓reduceIte, reduceCtorEq, rsOf, rootsOf, SOp.rd, SI.rd, SX.rd, rdL, rdO, rdP, okParts, eqCells, okEqCells, fillA, okFill, setAt, implies_true, forall_const, forall_eq, ne_eq, exists_eq_right_right, exists_eq_right, exists_eq_left, exists_eq_left', rootL, eInt, eBool, lit_eq, eDoc, q0])
        all_goals exact Sub.refl _
      · have q0 : (a.quirks == b.quirks) = false := beq_eq_false_iff_ne.2 hq
        have m0 : sameTreeM a b = false := by unfold sameTreeM; rw [q0]; simp
        rw [m0]
        refine dcalls_of_vc Tryd.func24 hn24 hc24 (by rw [Tryd.ntmps24]; simp) (by rw [Tryd.ntmps24]; decide) ?_
        simp -dsimp -implicitDefEqProofs (disch := omega) only [↓vcOps_sp 8, ↓vcD_sp 8, ↓vcOps_sp 13, ↓vcD_sp 13, ↓vcOps_sp 20, ↓vcD_sp 20, VCA, pg_gl, ↓upd_none, Nat.reduceEqDiff, Nat.reduceBEq, Nat.reduceAdd, Nat.reduceSub, Nat.reduceMul, Nat.reduceLT, Nat.reduceLeDiff, ↓reduceIte, reduceCtorEq, rsOf, rootsOf, SOp.rd, SI.rd, SX.rd, rdL, rdO, rdP, okParts, eqCells, okEqCells, fillA, okFill, setAt, implies_true, forall_const, forall_eq, ne_eq, exists_eq_right_right, exists_eq_right, exists_eq_left, exists_eq_left', rootL, eInt, eBool, lit_eq, c24, eDoc]
        repeat' (first | ((with_reducible refine brC (fun _ => ?_) fun _ => ?_) <;> try (exfalso; omega)) | (with_reducible apply pcallE.of; · exact hC1) | (with_reducible apply pcallE.of; · exact hC2) | (with_reducible refine And.intro ?_ ?_; · omega) | simp -dsimp -implicitDefEqProofs (disch := omega) only [↓vcOps_sp 8, ↓vcD_sp 8, ↓vcOps_sp 13, ↓vcD_sp 13, ↓vcOps_sp 20, ↓vcD_sp 20, VCA, pg_gl, ↓upd_none, Nat.reduceEqDiff, Nat.reduceBEq, Nat.reduceAdd, Nat.reduceSub, Nat.reduceMul, Nat.reduceLT, Nat.reduceLeDiff, ↓reduceIte, reduceCtorEq, rsOf, rootsOf, SOp.rd, SI.rd, SX.rd, rdL, rdO, rdP, okParts, eqCells, okEqCells, fillA, okFill, setAt, implies_true, forall_const, forall_eq, ne_eq, exists_eq_right_right, exists_eq_right, exists_eq_left, exists_eq_left', rootL, eInt, eBool, lit_eq, eDoc, q0])
        all_goals exact Sub.refl _
    · have q0 : (docE b == 0) = false := beq_eq_false_iff_ne.2 hb
      have m0 : sameTreeM a b = false := by unfold sameTreeM; rw [q0]; simp
      rw [m0]
      refine dcalls_of_vc Tryd.func24 hn24 hc24 (by rw [Tryd.ntmps24]; simp) (by rw [Tryd.ntmps24]; decide) ?_
      simp -dsimp -implicitDefEqProofs (disch := omega) only [↓vcOps_sp 8, ↓vcD_sp 8, ↓vcOps_sp 13, ↓vcD_sp 13, ↓vcOps_sp 20, ↓vcD_sp 20, VCA, pg_gl, ↓upd_none, Nat.reduceEqDiff, Nat.reduceBEq, Nat.reduceAdd, Nat.reduceSub, Nat.reduceMul, Nat.reduceLT, Nat.reduceLeDiff, ↓reduceIte, reduceCtorEq, rsOf, rootsOf, SOp.rd, SI.rd, SX.rd, rdL, rdO, rdP, okParts, eqCells, okEqCells, fillA, okFill, setAt, implies_true, forall_const, forall_eq, ne_eq, exists_eq_right_right, exists_eq_right, exists_eq_left, exists_eq_left', rootL, eInt, eBool, lit_eq, c24, eDoc]
      repeat' (first | ((with_reducible refine brC (fun _ => ?_) fun _ => ?_) <;> try (exfalso; omega)) | (with_reducible apply pcallE.of; · exact hC1) | (with_reducible apply pcallE.of; · exact hC2) | (with_reducible refine And.intro ?_ ?_; · omega) | simp -dsimp -implicitDefEqProofs (disch := omega) only [↓vcOps_sp 8, ↓vcD_sp 8, ↓vcOps_sp 13, ↓vcD_sp 13, ↓vcOps_sp 20, ↓vcD_sp 20, VCA, pg_gl, ↓upd_none, Nat.reduceEqDiff, Nat.reduceBEq, Nat.reduceAdd, Nat.reduceSub, Nat.reduceMul, Nat.reduceLT, Nat.reduceLeDiff, ↓reduceIte, reduceCtorEq, rsOf, rootsOf, SOp.rd, SI.rd, SX.rd, rdL, rdO, rdP, okParts, eqCells, okEqCells, fillA, okFill, setAt, implies_true, forall_const, forall_eq, ne_eq, exists_eq_right_right, exists_eq_right, exists_eq_left, exists_eq_left', rootL, eInt, eBool, lit_eq, eDoc, q0])
      all_goals exact Sub.refl _
  · have q0 : (docE a == 0) = false := beq_eq_false_iff_ne.2 ha
    have m0 : sameTreeM a b = false := by unfold sameTreeM; rw [q0]; simp
    rw [m0]
    refine dcalls_of_vc Tryd.func24 hn24 hc24 (by rw [Tryd.ntmps24]; simp) (by rw [Tryd.ntmps24]; decide) ?_
    simp -dsimp -implicitDefEqProofs (disch := omega) only [↓vcOps_sp 8, ↓vcD_sp 8, ↓vcOps_sp 13, ↓vcD_sp 13, ↓vcOps_sp 20, ↓vcD_sp 20, VCA, pg_gl, ↓upd_none, Nat.reduceEqDiff, Nat.reduceBEq, Nat.reduceAdd, Nat.reduceSub, Nat.reduceMul, Nat.reduceLT, Nat.reduceLeDiff, ↓reduceIte, reduceCtorEq, rsOf, rootsOf, SOp.rd, SI.rd, SX.rd, rdL, rdO, rdP, okParts, eqCells, okEqCells, fillA, okFill, setAt, implies_true, forall_const, forall_eq, ne_eq, exists_eq_right_right, exists_eq_right, exists_eq_left, exists_eq_left', rootL, eInt, eBool, lit_eq, c24, eDoc]
    repeat' (first | ((with_reducible refine brC (fun _ => ?_) fun _ => ?_) <;> try (exfalso; omega)) | (with_reducible apply pcallE.of; · exact hC1) | (with_reducible refine And.intro ?_ ?_; · omega) | simp -dsimp -implicitDefEqProofs (disch := omega) only [↓vcOps_sp 8, ↓vcD_sp 8, ↓vcOps_sp 13, ↓vcD_sp 13, ↓vcOps_sp 20, ↓vcD_sp 20, VCA, pg_gl, ↓upd_none, Nat.reduceEqDiff, Nat.reduceBEq, Nat.reduceAdd, Nat.reduceSub, Nat.reduceMul, Nat.reduceLT, Nat.reduceLeDiff, ↓reduceIte, reduceCtorEq, rsOf, rootsOf, SOp.rd, SI.rd, SX.rd, rdL, rdO, rdP, okParts, eqCells, okEqCells, fillA, okFill, setAt, implies_true, forall_const, forall_eq, ne_eq, exists_eq_right_right, exists_eq_right, exists_eq_left, exists_eq_left', rootL, eInt, eBool, lit_eq, eDoc, q0])
    all_goals exact Sub.refl _
end Go.Proofs.K
end
section
set_option linter.unusedSimpArgs false
set_option linter.unusedVariables false
namespace Go.Proofs.K
open Go Go.Sim Go.Proofs
variable {G : Glob}
theorem sameTree_self (a : HDoc) : sameTreeM a a = (docE a == 0) := by
  unfold sameTreeM
  cases h : (docE a == 0) <;> simp [h]
theorem cpT_sm {d : HDoc} (V : DV d) (sm : DocSm d) (n : Int) (hn : inD d n) : DocSm (cpT d n (below d n).length) := by
  have hl := V.len
  have bl := below_len V hn
  refine ⟨?_, fun x hx => ?_⟩
  · unfold cpT; rw [List.length_append, List.length_map, List.length_take]; omega
  · unfold cpT at hx
    rcases List.mem_append.1 hx with h | h
    · exact sm.each x h
    · obtain ⟨k, hk, rfl⟩ := List.mem_map.1 h
      have s := sm.nd k
      exact ⟨s.name, s.attrs, s.each, s.text, by unfold cpR; rw [List.length_map]; exact s.kids⟩
theorem copyD_sm {d : HDoc} (sm : DocSm d) (n : Int) : DocSm (copyD d n) := by
  unfold copyD
  split
  · rename_i h
    unfold copyE at h
    split at h
    · rename_i q; exact absurd h q
    · rename_i q
      split at h
      · exact absurd h (by decide)
      · rename_i q2
        exact cpT_sm (docE_DV (Classical.not_not.1 q)) sm n (Classical.not_not.1 q2)
  · exact ⟨Nat.zero_le _, fun x hx => by cases hx⟩
def c6 : SFun := ⟨.seq (.reg [⟨some 3, .box 24 2 (.t 0), none⟩, ⟨some 4, .box 24 2 (.t 1), none⟩, ⟨some 6, .mv (.c (.bool false)), none⟩]) (.seq (.dreg [(⟨some 13, .ld 2 true (.t 3), none⟩, none), (⟨some 14, .pcall 7 [.t 13, .c (.int .i64 60)], none⟩, none), (⟨some 15, .ld 2 true (.t 4), none⟩, none), (⟨some 16, .pcall 7 [.t 15, .c (.int .i64 60)], none⟩, none), (⟨none, .st 2 (.t 3) (.t 14), none⟩, (some [15, 13])), (⟨none, .st 2 (.t 4) (.t 16), none⟩, (some [15, 13]))]) (.seq (.reg [⟨some 18, .ld 2 true (.t 3), none⟩, ⟨some 19, .mv (.t 2), none⟩, ⟨some 20, .pcall 23 [.t 18, .t 19], none⟩, ⟨some 17, .mv (.t 20), none⟩, ⟨some 21, .ext (.t 17) 0, none⟩, ⟨some 22, .ext (.t 17) 1, none⟩, ⟨some 23, .ext (.t 17) 2, none⟩, ⟨some 7, .new 24 2 [.emp, .bool false], none⟩, ⟨none, .st 2 (.t 7) (.t 21), none⟩, ⟨some 8, .mv (.t 22), none⟩, ⟨some 9, .mv (.t 23), none⟩]) (.seq (.seq (.dreg [(⟨some 24, .ld 2 true (.t 3), none⟩, none), (⟨some 25, .ld 2 true (.t 4), none⟩, none), (⟨some 26, .pcall 24 [.t 24, .t 25], none⟩, none), (⟨some 27, .ld 2 true (.t 3), none⟩, none), (⟨some 28, .ld 2 true (.t 4), none⟩, none), (⟨some 29, .pcall 25 [.t 27, .t 28], none⟩, none), (⟨some 30, .eqb true (.t 26) (.t 29), none⟩, none), (⟨some 31, .mv (.t 30), none⟩, none), (⟨some 32, .ld 2 true (.t 3), some (31, false)⟩, none), (⟨some 33, .ld 2 true (.t 3), some (31, false)⟩, none), (⟨some 34, .pcall 24 [.t 32, .t 33], some (31, false)⟩, none), (⟨some 35, .ld 2 true (.t 3), some (31, false)⟩, none), (⟨some 36, .pcall 10 [.t 35], some (31, false)⟩, none), (⟨some 37, .bin .eql (.t 36) (.c (.int .i64 0)), some (31, false)⟩, none), (⟨some 38, .eqb true (.t 34) (.t 37), some (31, false)⟩, none), (⟨some 39, .pick (.t 31) (.c (.bool true)) (.t 38), none⟩, none)]) (.cond (.t 39) (.seq (.reg [⟨some 6, .mv (.c (.bool false)), none⟩]) .ret) .skip)) (.seq (.reg [⟨some 40, .ld 2 true (.t 3), none⟩, ⟨some 41, .pcall 10 [.t 40], none⟩, ⟨some 10, .mv (.t 41), none⟩]) (.seq (.seq (.reg [⟨some 42, .mv (.t 10), none⟩, ⟨some 43, .bin .eql (.t 42) (.c (.int .i64 0)), none⟩, ⟨some 44, .mv (.t 43), none⟩, ⟨some 45, .mv (.t 2), some (44, true)⟩, ⟨some 46, .bin .lss (.t 45) (.c (.int .i64 0)), some (44, true)⟩, ⟨some 47, .mv (.t 46), some (44, true)⟩, ⟨some 48, .mv (.t 2), some (47, false)⟩, ⟨some 49, .fldA 0 (.t 3), some (47, false)⟩, ⟨some 50, .ld 1 false (.t 49), some (47, false)⟩, ⟨some 51, .len (.t 50), some (47, false)⟩, ⟨some 52, .bin .geq (.t 48) (.t 51), some (47, false)⟩, ⟨some 53, .pick (.t 47) (.c (.bool true)) (.t 52), some (44, true)⟩, ⟨some 54, .pick (.t 44) (.t 53) (.c (.bool false)), none⟩]) (.cond (.t 54) (.reg [⟨some 10, .mv (.c (.int .i64 1)), none⟩]) .skip)) (.seq (.seq (.reg [⟨some 55, .mv (.t 10), none⟩, ⟨some 56, .bin .eql (.t 55) (.c (.int .i64 0)), none⟩, ⟨some 57, .mv (.t 56), none⟩, ⟨some 58, .mv (.t 2), some (57, true)⟩, ⟨some 59, .bin .eql (.t 58) (.c (.int .i64 0)), some (57, true)⟩, ⟨some 60, .pick (.t 57) (.t 59) (.c (.bool false)), none⟩]) (.cond (.t 60) (.reg [⟨some 10, .mv (.c (.int .i64 7)), none⟩]) .skip)) (.seq (.seq (.reg [⟨some 61, .mv (.t 10), none⟩, ⟨some 62, .bin .eql (.t 61) (.c (.int .i64 0)), none⟩]) (.cond (.t 62) (.seq (.reg [⟨some 64, .ld 2 true (.t 3), none⟩, ⟨some 65, .mv (.t 2), none⟩, ⟨some 66, .pcall 26 [.t 64, .t 65], none⟩, ⟨some 63, .mv (.t 66), none⟩, ⟨some 67, .ext (.t 63) 0, none⟩, ⟨some 68, .ext (.t 63) 1, none⟩, ⟨some 11, .new 24 2 [.emp, .bool false], none⟩, ⟨none, .st 2 (.t 11) (.t 67), none⟩, ⟨some 12, .mv (.t 68), none⟩]) (.seq (.seq (.reg [⟨some 69, .fldA 0 (.t 11), none⟩, ⟨some 70, .ld 1 false (.t 69), none⟩, ⟨some 71, .len (.t 70), none⟩, ⟨some 72, .bin .leq (.t 71) (.c (.int .i64 200)), none⟩]) (.cond (.t 72) (.seq (.reg [⟨some 73, .pcall 27 [], none⟩, ⟨some 74, .mv (.t 73), none⟩, ⟨some 75, .mv (.t 9), some (74, true)⟩, ⟨some 76, .bin .eql (.t 75) (.c (.int .i64 0)), some (74, true)⟩, ⟨some 77, .pick (.t 74) (.t 76) (.c (.bool false)), none⟩, ⟨some 78, .mv (.t 77), none⟩, ⟨some 79, .mv (.t 8), some (78, true)⟩, ⟨some 80, .mv (.t 12), some (78, true)⟩, ⟨some 81, .bin .eql (.t 79) (.t 80), some (78, true)⟩, ⟨some 82, .pick (.t 78) (.t 81) (.c (.bool false)), none⟩, ⟨some 83, .mv (.t 82), none⟩, ⟨some 84, .ld 2 true (.t 7), some (83, true)⟩, ⟨some 85, .ld 2 true (.t 11), some (83, true)⟩, ⟨some 86, .pcall 28 [.t 84, .t 85], some (83, true)⟩, ⟨some 87, .pick (.t 83) (.t 86) (.c (.bool false)), none⟩, ⟨some 6, .mv (.t 87), none⟩]) .ret) .skip)) (.reg [⟨some 10, .mv (.c (.int .i64 2)), none⟩]))) .skip)) (.seq (.reg [⟨some 88, .pcall 27 [], none⟩, ⟨some 89, .mv (.t 88), none⟩, ⟨some 90, .mv (.t 9), some (89, true)⟩, ⟨some 91, .mv (.t 10), some (89, true)⟩, ⟨some 92, .bin .eql (.t 90) (.t 91), some (89, true)⟩, ⟨some 93, .pick (.t 89) (.t 92) (.c (.bool false)), none⟩, ⟨some 94, .mv (.t 93), none⟩, ⟨some 95, .mv (.t 8), some (94, true)⟩, ⟨some 96, .bin .eql (.t 95) (.c (.int .i64 0)), some (94, true)⟩, ⟨some 97, .pick (.t 94) (.t 96) (.c (.bool false)), none⟩, ⟨some 98, .mv (.t 97), none⟩, ⟨some 99, .ld 2 true (.t 7), some (98, true)⟩, ⟨some 100, .bld [.emp, .bool false] [], some (98, true)⟩, ⟨some 101, .pcall 28 [.t 99, .t 100], some (98, true)⟩, ⟨some 102, .pick (.t 98) (.t 101) (.c (.bool false)), none⟩, ⟨some 6, .mv (.t 102), none⟩]) .ret)))))))), [.tmp 6]⟩
theorem hc6 : toSF Tryd.prog {pure := [7, 27, 23, 24, 25, 10, 26, 28], how := [(3, 6), (4, 6)]} Tryd.f6 = some c6 := by kernel_rfl
theorem hn6 : (Tryd.f6.name == "runtime.NumGoroutine") = false := by kernel_rfl
theorem domCopies_ok (a b : HDoc) (sa : DocSm a) (sb : DocSm b) (n : Int) : PCalls (Pg G) 6 [.agg (eDoc a), .agg (eDoc b), aInt n] (.bool true) := fun h => by
  have hFa : PCalls (Pg G) 7 [.agg (eDoc a), .int .i64 60] (.agg (eDoc ⟨a.nodes.take 60, a.quirks⟩)) := few_ok (G := G) a 60 sa
  have hFb : PCalls (Pg G) 7 [.agg (eDoc b), .int .i64 60] (.agg (eDoc ⟨b.nodes.take 60, b.quirks⟩)) := few_ok (G := G) b 60 sb
  have fa := sa.few 60
  have fb := sb.few 60
  generalize (⟨a.nodes.take 60, a.quirks⟩ : HDoc) = d at *
  generalize (⟨b.nodes.take 60, b.quirks⟩ : HDoc) = b' at *
  have hB := domBegun_ok (G := G)
  have hCo := copy_ok (G := G) d fa n
  have hS1 := domSame_ok (G := G) d b' fa fb
  have hT1 := sameTree_ok (G := G) d b' fa fb
  have hS2 := domSame_ok (G := G) d d fa fa
  rw [sameTree_self] at hS2
  have hD := docErr_ok (G := G) d fa
  have smc := copyD_sm fa n
  have hSD : PCalls (Pg G) 28 [.agg (eDoc (copyD d n)), .agg (eDoc (copyD d n))] (.bool true) := by
    have h := sameDoc_ok (G := G) (copyD d n) (copyD d n) smc smc
    rwa [show (copyD d n == copyD d n) = true by simp] at h
  have ll := fa.len
  simp only [eDoc] at hFa hFb hCo hS1 hT1 hS2 hD hSD
  have b1 : (sameTreeM d b' != sameTreeM d b') = false := by simp
  have b2 : ((docE d == 0) != (docE d == 0)) = false := by simp
  refine dcalls_of_vc Tryd.func6 hn6 hc6 (by rw [Tryd.ntmps6]; simp) (by rw [Tryd.ntmps6]; decide) ?_
  simp -dsimp -implicitDefEqProofs (disch := omega) only [↓vcOps_sp 31, ↓vcD_sp 31, ↓vcOps_sp 44, ↓vcD_sp 44, ↓vcOps_sp 47, ↓vcD_sp 47, ↓vcOps_sp 57, ↓vcD_sp 57, ↓vcOps_sp 74, ↓vcD_sp 74, ↓vcOps_sp 78, ↓vcD_sp 78, ↓vcOps_sp 83, ↓vcD_sp 83, ↓vcOps_sp 89, ↓vcD_sp 89, ↓vcOps_sp 94, ↓vcD_sp 94, ↓vcOps_sp 98, ↓vcD_sp 98, VCA, pg_gl, ↓upd_none, Nat.reduceEqDiff, Nat.reduceBEq, Nat.reduceAdd, Nat.reduceSub, Nat.reduceMul, Nat.reduceLT, Nat.reduceLeDiff, ↓reduceIte, reduceCtorEq, rsOf, rootsOf, SOp.rd, SI.rd, SX.rd, rdL, rdO, rdP, okParts, eqCells, okEqCells, fillA, okFill, setAt, implies_true, forall_const, forall_eq, ne_eq, exists_eq_right_right, exists_eq_right, exists_eq_left, exists_eq_left', rootL, eInt, eBool, lit_eq, eDoc, c6, eDoc]
  intro r3 hr3 r4 hr4
  have n1 : ¬ r4 = r3 := hr4.1
  have n2 : ¬ r3 = r4 := fun e => n1 e.symm
  repeat' (first | ((with_reducible refine brC (fun _ => ?_) fun _ => ?_) <;> try (exfalso; omega)) | (with_reducible apply pcallE.of; · exact hFa) | (with_reducible apply pcallE.of; · exact hFb) | (with_reducible apply pcallE.of; · exact hCo) | (with_reducible refine And.intro ?_ ?_; · omega) | simp -dsimp -implicitDefEqProofs (disch := omega) only [↓vcOps_sp 31, ↓vcD_sp 31, ↓vcOps_sp 44, ↓vcD_sp 44, ↓vcOps_sp 47, ↓vcD_sp 47, ↓vcOps_sp 57, ↓vcD_sp 57, ↓vcOps_sp 74, ↓vcD_sp 74, ↓vcOps_sp 78, ↓vcD_sp 78, ↓vcOps_sp 83, ↓vcD_sp 83, ↓vcOps_sp 89, ↓vcD_sp 89, ↓vcOps_sp 94, ↓vcD_sp 94, ↓vcOps_sp 98, ↓vcD_sp 98, VCA, pg_gl, ↓upd_none, Nat.reduceEqDiff, Nat.reduceBEq, Nat.reduceAdd, Nat.reduceSub, Nat.reduceMul, Nat.reduceLT, Nat.reduceLeDiff, ↓reduceIte, reduceCtorEq, rsOf, rootsOf, SOp.rd, SI.rd, SX.rd, rdL, rdO, rdP, okParts, eqCells, okEqCells, fillA, okFill, setAt, implies_true, forall_const, forall_eq, ne_eq, exists_eq_right_right, exists_eq_right, exists_eq_left, exists_eq_left', rootL, eInt, eBool, lit_eq, eDoc, n1, n2, upd_same, eDoc])
  intro r7 hr7
  have m4 : ¬ r7 = r4 := hr7.1
  have m3 : ¬ r7 = r3 := hr7.2.1
  have m4' : ¬ r4 = r7 := fun e => m4 e.symm
  have m3' : ¬ r3 = r7 := fun e => m3 e.symm
  have SS : ∀ x y z u v w, Sim.Sub h (upd (upd (upd (upd (upd (upd h r3 (some x)) r4 (some y)) r3 (some z)) r4 (some u)) r7 (some v)) r7 (some w)) := fun x y z u v w => ((((((Sub.refl h).upd hr3).upd hr4.2).upd hr3).upd hr4.2).upd hr7.2.2.2.2).upd hr7.2.2.2.2
  have noS : ∀ D : HDoc, D = noDoc → PCalls (Pg G) 28 [.agg [sl eNode D.nodes, .bool D.quirks], .agg [.emp, .bool false]] (.bool true) := fun D e => by
    subst e
    have sm0 : DocSm noDoc := ⟨Nat.zero_le _, fun x hx => by cases hx⟩
    have h := (sameDoc_ok (G := G) noDoc noDoc sm0 sm0).wk (args := [.agg (eDoc noDoc), .agg [.emp, .bool false]]) (.cons (.refl _) (.cons (Wk.agg' (.cons .emp (.cons (.refl _) .nil))) .nil))
    rwa [show (noDoc == noDoc) = true by decide] at h
  have cD : copyE d n ≠ 0 → copyD d n = noDoc ∧ copyN d n = 0 := fun q => by unfold copyD copyN; rw [if_neg q, if_neg q]; exact ⟨rfl, rfl⟩
  by_cases hd : docE d = 0
  · have V := docE_DV hd
    have hl := V.len
    by_cases hn : inD d n
    · have i0 := hn.1
      have i1 := hn.2
      by_cases hn0 : n = 0
      · have cE : copyE d n = 7 := by unfold copyE; rw [if_neg (by simpa using hd), if_neg (fun q => q hn), if_pos hn0]
        obtain ⟨q1, q2⟩ := cD (by rw [cE]; decide)
        have hN := noS _ q1
        rw [cE, q2] 
        rw [hd] at hD
        repeat' (first | ((with_reducible refine brC (fun _ => ?_) fun _ => ?_) <;> try (exfalso; omega)) | (with_reducible apply pcallE.of; · exact hS1) | (with_reducible apply pcallE.of; · exact hT1) | (with_reducible apply pcallE.of; · exact hS2) | (with_reducible apply pcallE.of; · exact hD) | (with_reducible apply pcallE.of; · exact hB) | (with_reducible apply pcallE.of; · exact hN) | (with_reducible refine And.intro ?_ ?_; · omega) | simp -dsimp -implicitDefEqProofs (disch := omega) only [↓vcOps_sp 31, ↓vcD_sp 31, ↓vcOps_sp 44, ↓vcD_sp 44, ↓vcOps_sp 47, ↓vcD_sp 47, ↓vcOps_sp 57, ↓vcD_sp 57, ↓vcOps_sp 74, ↓vcD_sp 74, ↓vcOps_sp 78, ↓vcD_sp 78, ↓vcOps_sp 83, ↓vcD_sp 83, ↓vcOps_sp 89, ↓vcD_sp 89, ↓vcOps_sp 94, ↓vcD_sp 94, ↓vcOps_sp 98, ↓vcD_sp 98, VCA, pg_gl, ↓upd_none, Nat.reduceEqDiff, Nat.reduceBEq, Nat.reduceAdd, Nat.reduceSub, Nat.reduceMul, Nat.reduceLT, Nat.reduceLeDiff, ↓reduceIte, reduceCtorEq, rsOf, rootsOf, SOp.rd, SI.rd, SX.rd, rdL, rdO, rdP, okParts, eqCells, okEqCells, fillA, okFill, setAt, implies_true, forall_const, forall_eq, ne_eq, exists_eq_right_right, exists_eq_right, exists_eq_left, exists_eq_left', rootL, eInt, eBool, lit_eq, eDoc, n1, n2, m3, m4, m3', m4', upd_same, eDoc, b1, b2])
        all_goals try (exfalso; omega)
        all_goals first
          | exact (((((Sub.refl h).upd hr3).upd hr4.2).upd hr3).upd hr4.2).upd hr7.2.2.2.2
          | (exfalso; rename_i q; exact q rfl)
          | (exfalso; rename_i q; exact q (by rw [hd]))
          | trace_state
      · have hCp := copied_ok (G := G) d V fa n hn
        have cE : copyE d n = if 200 < d.nodes.length + (below d n).length then 2 else 0 := by unfold copyE; rw [if_neg (by simpa using hd), if_neg (fun q => q hn), if_neg hn0]
        have cl : (cpT d n (below d n).length).nodes.length = d.nodes.length + (below d n).length := by rw [← cp_all V hn]; exact cpD_len n (Nat.le_refl _)
        simp only [eDoc] at hCp
        rw [hd] at hD
        by_cases h2 : 200 < d.nodes.length + (below d n).length
        · rw [if_pos h2] at cE
          obtain ⟨q1, q2⟩ := cD (by rw [cE]; decide)
          have hN := noS _ q1
          rw [cE, q2]
          repeat' (first | ((with_reducible refine brC (fun _ => ?_) fun _ => ?_) <;> try (exfalso; omega)) | (with_reducible apply pcallE.of; · exact hS1) | (with_reducible apply pcallE.of; · exact hT1) | (with_reducible apply pcallE.of; · exact hS2) | (with_reducible apply pcallE.of; · exact hD) | (with_reducible apply pcallE.of; · exact hCp) | (with_reducible refine And.intro ?_ ?_; · omega) | simp -dsimp -implicitDefEqProofs (disch := omega) only [↓vcOps_sp 31, ↓vcD_sp 31, ↓vcOps_sp 44, ↓vcD_sp 44, ↓vcOps_sp 47, ↓vcD_sp 47, ↓vcOps_sp 57, ↓vcD_sp 57, ↓vcOps_sp 74, ↓vcD_sp 74, ↓vcOps_sp 78, ↓vcD_sp 78, ↓vcOps_sp 83, ↓vcD_sp 83, ↓vcOps_sp 89, ↓vcD_sp 89, ↓vcOps_sp 94, ↓vcD_sp 94, ↓vcOps_sp 98, ↓vcD_sp 98, VCA, pg_gl, ↓upd_none, Nat.reduceEqDiff, Nat.reduceBEq, Nat.reduceAdd, Nat.reduceSub, Nat.reduceMul, Nat.reduceLT, Nat.reduceLeDiff, ↓reduceIte, reduceCtorEq, rsOf, rootsOf, SOp.rd, SI.rd, SX.rd, rdL, rdO, rdP, okParts, eqCells, okEqCells, fillA, okFill, setAt, implies_true, forall_const, forall_eq, ne_eq, exists_eq_right_right, exists_eq_right, exists_eq_left, exists_eq_left', rootL, eInt, eBool, lit_eq, eDoc, n1, n2, m3, m4, m3', m4', upd_same, eDoc, b1, b2, cl])
          all_goals try (exfalso; omega)
          · exfalso; rename_i q; exact q rfl
          · exfalso; rename_i q; exact q (by rw [hd])
          · intro r11 hr11
            have p7 : ¬ r11 = r7 := hr11.1
            have p4 : ¬ r11 = r4 := hr11.2.1
            have p3 : ¬ r11 = r3 := hr11.2.2.1
            have p7' : ¬ r7 = r11 := fun e => p7 e.symm
            have p4' : ¬ r4 = r11 := fun e => p4 e.symm
            have p3' : ¬ r3 = r11 := fun e => p3 e.symm
            repeat' (first | ((with_reducible refine brC (fun _ => ?_) fun _ => ?_) <;> try (exfalso; omega)) | (with_reducible apply pcallE.of; · exact hB) | (with_reducible apply pcallE.of; · exact hN) | (with_reducible refine And.intro ?_ ?_; · omega) | simp -dsimp -implicitDefEqProofs (disch := omega) only [↓vcOps_sp 31, ↓vcD_sp 31, ↓vcOps_sp 44, ↓vcD_sp 44, ↓vcOps_sp 47, ↓vcD_sp 47, ↓vcOps_sp 57, ↓vcD_sp 57, ↓vcOps_sp 74, ↓vcD_sp 74, ↓vcOps_sp 78, ↓vcD_sp 78, ↓vcOps_sp 83, ↓vcD_sp 83, ↓vcOps_sp 89, ↓vcD_sp 89, ↓vcOps_sp 94, ↓vcD_sp 94, ↓vcOps_sp 98, ↓vcD_sp 98, VCA, pg_gl, ↓upd_none, Nat.reduceEqDiff, Nat.reduceBEq, Nat.reduceAdd, Nat.reduceSub, Nat.reduceMul, Nat.reduceLT, Nat.reduceLeDiff, ↓reduceIte, reduceCtorEq, rsOf, rootsOf, SOp.rd, SI.rd, SX.rd, rdL, rdO, rdP, okParts, eqCells, okEqCells, fillA, okFill, setAt, implies_true, forall_const, forall_eq, ne_eq, exists_eq_right_right, exists_eq_right, exists_eq_left, exists_eq_left', rootL, eInt, eBool, lit_eq, eDoc, n1, n2, m3, m4, m3', m4', upd_same, eDoc, b1, b2, cl, p3, p4, p7, p3', p4', p7'])
            all_goals try (exfalso; omega)
            all_goals first
              | exact ((((((Sub.refl h).upd hr3).upd hr4.2).upd hr3).upd hr4.2).upd hr7.2.2.2.2).upd hr11.2.2.2.2.2
              | (exfalso; rename_i q; exact q rfl)
              | trace_state
        · rw [if_neg h2] at cE
          have q1 : copyD d n = cpT d n (below d n).length := by unfold copyD; rw [if_pos cE]
          have q2 : copyN d n = d.nodes.length := by unfold copyN; rw [if_pos cE]
          rw [q1] at hSD
          rw [cE, q1, q2]
          repeat' (first | ((with_reducible refine brC (fun _ => ?_) fun _ => ?_) <;> try (exfalso; omega)) | (with_reducible apply pcallE.of; · exact hS1) | (with_reducible apply pcallE.of; · exact hT1) | (with_reducible apply pcallE.of; · exact hS2) | (with_reducible apply pcallE.of; · exact hD) | (with_reducible apply pcallE.of; · exact hCp) | (with_reducible refine And.intro ?_ ?_; · omega) | simp -dsimp -implicitDefEqProofs (disch := omega) only [↓vcOps_sp 31, ↓vcD_sp 31, ↓vcOps_sp 44, ↓vcD_sp 44, ↓vcOps_sp 47, ↓vcD_sp 47, ↓vcOps_sp 57, ↓vcD_sp 57, ↓vcOps_sp 74, ↓vcD_sp 74, ↓vcOps_sp 78, ↓vcD_sp 78, ↓vcOps_sp 83, ↓vcD_sp 83, ↓vcOps_sp 89, ↓vcD_sp 89, ↓vcOps_sp 94, ↓vcD_sp 94, ↓vcOps_sp 98, ↓vcD_sp 98, VCA, pg_gl, ↓upd_none, Nat.reduceEqDiff, Nat.reduceBEq, Nat.reduceAdd, Nat.reduceSub, Nat.reduceMul, Nat.reduceLT, Nat.reduceLeDiff, ↓reduceIte, reduceCtorEq, rsOf, rootsOf, SOp.rd, SI.rd, SX.rd, rdL, rdO, rdP, okParts, eqCells, okEqCells, fillA, okFill, setAt, implies_true, forall_const, forall_eq, ne_eq, exists_eq_right_right, exists_eq_right, exists_eq_left, exists_eq_left', rootL, eInt, eBool, lit_eq, eDoc, n1, n2, m3, m4, m3', m4', upd_same, eDoc, b1, b2, cl])
          all_goals try (exfalso; omega)
          · exfalso; rename_i q; exact q rfl
          · exfalso; rename_i q; exact q (by rw [hd])
          · intro r11 hr11
            have p7 : ¬ r11 = r7 := hr11.1
            have p4 : ¬ r11 = r4 := hr11.2.1
            have p3 : ¬ r11 = r3 := hr11.2.2.1
            have p7' : ¬ r7 = r11 := fun e => p7 e.symm
            have p4' : ¬ r4 = r11 := fun e => p4 e.symm
            have p3' : ¬ r3 = r11 := fun e => p3 e.symm
            repeat' (first | ((with_reducible refine brC (fun _ => ?_) fun _ => ?_) <;> try (exfalso; omega)) | (with_reducible apply pcallE.of; · exact hB) | (with_reducible apply pcallE.of; · exact hSD) | (with_reducible refine And.intro ?_ ?_; · omega) | simp -dsimp -implicitDefEqProofs (disch := omega) only [↓vcOps_sp 31, ↓vcD_sp 31, ↓vcOps_sp 44, ↓vcD_sp 44, ↓vcOps_sp 47, ↓vcD_sp 47, ↓vcOps_sp 57, ↓vcD_sp 57, ↓vcOps_sp 74, ↓vcD_sp 74, ↓vcOps_sp 78, ↓vcD_sp 78, ↓vcOps_sp 83, ↓vcD_sp 83, ↓vcOps_sp 89, ↓vcD_sp 89, ↓vcOps_sp 94, ↓vcD_sp 94, ↓vcOps_sp 98, ↓vcD_sp 98, VCA, pg_gl, ↓upd_none, Nat.reduceEqDiff, Nat.reduceBEq, Nat.reduceAdd, Nat.reduceSub, Nat.reduceMul, Nat.reduceLT, Nat.reduceLeDiff, ↓reduceIte, reduceCtorEq, rsOf, rootsOf, SOp.rd, SI.rd, SX.rd, rdL, rdO, rdP, okParts, eqCells, okEqCells, fillA, okFill, setAt, implies_true, forall_const, forall_eq, ne_eq, exists_eq_right_right, exists_eq_right, exists_eq_left, exists_eq_left', rootL, eInt, eBool, lit_eq, eDoc, n1, n2, m3, m4, m3', m4', upd_same, eDoc, b1, b2, cl, p3, p4, p7, p3', p4', p7'])
            all_goals try (exfalso; omega)
            all_goals first
              | exact ((((((Sub.refl h).upd hr3).upd hr4.2).upd hr3).upd hr4.2).upd hr7.2.2.2.2).upd hr11.2.2.2.2.2
              | (exfalso; rename_i q; exact q rfl)
              | trace_state
    · have cE : copyE d n = 1 := by unfold copyE; rw [if_neg (by simpa using hd), if_pos hn]
      obtain ⟨q1, q2⟩ := cD (by rw [cE]; decide)
      have hN := noS _ q1
      unfold inD at hn
      rw [cE, q2]
      rw [hd] at hD
      repeat' (first | ((with_reducible refine brC (fun _ => ?_) fun _ => ?_) <;> try (exfalso; omega)) | (with_reducible apply pcallE.of; · exact hS1) | (with_reducible apply pcallE.of; · exact hT1) | (with_reducible apply pcallE.of; · exact hS2) | (with_reducible apply pcallE.of; · exact hD) | (with_reducible apply pcallE.of; · exact hB) | (with_reducible apply pcallE.of; · exact hN) | (with_reducible refine And.intro ?_ ?_; · omega) | simp -dsimp -implicitDefEqProofs (disch := omega) only [↓vcOps_sp 31, ↓vcD_sp 31, ↓vcOps_sp 44, ↓vcD_sp 44, ↓vcOps_sp 47, ↓vcD_sp 47, ↓vcOps_sp 57, ↓vcD_sp 57, ↓vcOps_sp 74, ↓vcD_sp 74, ↓vcOps_sp 78, ↓vcD_sp 78, ↓vcOps_sp 83, ↓vcD_sp 83, ↓vcOps_sp 89, ↓vcD_sp 89, ↓vcOps_sp 94, ↓vcD_sp 94, ↓vcOps_sp 98, ↓vcD_sp 98, VCA, pg_gl, ↓upd_none, Nat.reduceEqDiff, Nat.reduceBEq, Nat.reduceAdd, Nat.reduceSub, Nat.reduceMul, Nat.reduceLT, Nat.reduceLeDiff, ↓reduceIte, reduceCtorEq, rsOf, rootsOf, SOp.rd, SI.rd, SX.rd, rdL, rdO, rdP, okParts, eqCells, okEqCells, fillA, okFill, setAt, implies_true, forall_const, forall_eq, ne_eq, exists_eq_right_right, exists_eq_right, exists_eq_left, exists_eq_left', rootL, eInt, eBool, lit_eq, eDoc, n1, n2, m3, m4, m3', m4', upd_same, eDoc, b1, b2])
      all_goals try (exfalso; omega)
      all_goals first
        | exact (((((Sub.refl h).upd hr3).upd hr4.2).upd hr3).upd hr4.2).upd hr7.2.2.2.2
        | (exfalso; rename_i q; exact q rfl)
        | (exfalso; rename_i q; exact q (by rw [hd]))
        | trace_state
  · have cE : copyE d n = docE d := by unfold copyE; rw [if_pos hd]
    obtain ⟨q1, q2⟩ := cD (by rw [cE]; exact hd)
    have hN := noS _ q1
    rw [cE, q2]
    repeat' (first | ((with_reducible refine brC (fun _ => ?_) fun _ => ?_) <;> try (exfalso; omega)) | (with_reducible apply pcallE.of; · exact hS1) | (with_reducible apply pcallE.of; · exact hT1) | (with_reducible apply pcallE.of; · exact hS2) | (with_reducible apply pcallE.of; · exact hD) | (with_reducible apply pcallE.of; · exact hB) | (with_reducible apply pcallE.of; · exact hN) | (with_reducible refine And.intro ?_ ?_; · omega) | simp -dsimp -implicitDefEqProofs (disch := omega) only [↓vcOps_sp 31, ↓vcD_sp 31, ↓vcOps_sp 44, ↓vcD_sp 44, ↓vcOps_sp 47, ↓vcD_sp 47, ↓vcOps_sp 57, ↓vcD_sp 57, ↓vcOps_sp 74, ↓vcD_sp 74, ↓vcOps_sp 78, ↓vcD_sp 78, ↓vcOps_sp 83, ↓vcD_sp 83, ↓vcOps_sp 89, ↓vcD_sp 89, ↓vcOps_sp 94, ↓vcD_sp 94, ↓vcOps_sp 98, ↓vcD_sp 98, VCA, pg_gl, ↓upd_none, Nat.reduceEqDiff, Nat.reduceBEq, Nat.reduceAdd, Nat.reduceSub, Nat.reduceMul, Nat.reduceLT, Nat.reduceLeDiff, ↓reduceIte, reduceCtorEq, rsOf, rootsOf, SOp.rd, SI.rd, SX.rd, rdL, rdO, rdP, okParts, eqCells, okEqCells, fillA, okFill, setAt, implies_true, forall_const, forall_eq, ne_eq, exists_eq_right_right, exists_eq_right, exists_eq_left, exists_eq_left', rootL, eInt, eBool, lit_eq, eDoc, n1, n2, m3, m4, m3', m4', upd_same, eDoc, b1, b2])
    all_goals try (exfalso; omega)
    all_goals first
      | exact (((((Sub.refl h).upd hr3).upd hr4.2).upd hr3).upd hr4.2).upd hr7.2.2.2.2
      | (exfalso; rename_i q; exact q rfl)
      | (exfalso; rename_i q; exact q (by rw [hd]))
      | trace_state
end Go.Proofs.K
end
