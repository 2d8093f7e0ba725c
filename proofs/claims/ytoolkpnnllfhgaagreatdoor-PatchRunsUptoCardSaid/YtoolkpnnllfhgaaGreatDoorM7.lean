/- Texts of this claim, one behind the other. -/
import Derived.Test.YtoolkpnnllfhgaaGreatDoorM6
import Derived.Test.YtoolkpnnllfhgaaGreatDoorM5
section
set_option linter.unusedSimpArgs false
set_option linter.unusedVariables false
namespace Go.Proofs.K
open Go Go.Sim Go.Proofs
variable {G : Glob}
def X1 : Type := { p : Nat × Int // p = (0, 1) }
def eX1 (x : X1) : List AVal := [aInt x.1.1, aInt x.1.2]
def xs1 : List X1 := [⟨(0, 1), rfl⟩]
def c171 : ICode := (.seq (.reg [.op ⟨some 4, .ld 1 false (.t 1), none⟩, .op ⟨some 5, .len (.t 4), none⟩, .op ⟨some 6, .bin .sub (.t 5) (.c (.int .i64 1)), none⟩, .op ⟨some 3, .mv (.t 6), none⟩]) (.block 0 (.loop (.seq (.seq (.reg [.op ⟨some 7, .mv (.t 3), none⟩, .op ⟨some 8, .bin .geq (.t 7) (.c (.int .i64 0)), none⟩]) (.cond (.t 8) .skip (.exit 0))) (.seq (.block 1 (.seq (.reg [.op ⟨some 11, .mv (.t 0), none⟩, .op ⟨some 12, .mv (.t 3), none⟩, .op ⟨some 13, .ld 1 false (.t 1), none⟩, .op ⟨some 14, .mv (.t 3), none⟩, .op ⟨some 15, .idxA 1 (.t 13) (.t 14), none⟩, .op ⟨some 16, .ld 1 false (.t 15), none⟩, .yld (some 17) (.t 11) [.t 12, .t 16], .op ⟨some 18, .un .not (.t 17), none⟩]) (.cond (.t 18) .ret .skip))) (.reg [.op ⟨some 9, .mv (.t 3), none⟩, .op ⟨some 10, .bin .sub (.t 9) (.c (.int .i64 1)), none⟩, .op ⟨some 3, .mv (.t 10), none⟩]))))))
theorem hc171 : toIF Tryz.prog {} 2 Tryz.f171 = some c171 := by kernel_rfl
theorem hn171 : (Tryz.f171.name == "runtime.NumGoroutine") = false := by kernel_rfl
set_option maxRecDepth 10000 in
theorem back1_it : IterV (Pg G) 171 [.pin [.slc [[.int .i64 1]]]] eX1 xs1 1 := by
  refine iterV_of_itv Tryz.func171 hn171 hc171 (by rw [Tryz.ntmps171]; simp) (by rw [Tryz.ntmps171]; decide) ?_ ?_ ?_
  · intro c hc
    simp at hc; subst hc
    exact .pin _ (fun c hc => by simp at hc; subst hc; exact datI' [1])
  · intro x y hy
    simp only [eX1, List.mem_cons, List.mem_nil_iff, or_false] at hy
    rcases hy with rfl | rfl
    · exact .inl (.int _ _)
    · exact .inl (.int _ _)
  · intro r
    simp -dsimp -implicitDefEqProofs (disch := omega) only [VCA, Nat.reduceAdd, ↓reduceIte, IT1, IT2, c171]
    refine itLoop.intro (fun m b p e => (m = 1 ∧ b = false ∧ p = [] ∧ e 0 = .prim (.func (.yield r) #[] #[]) ∧ e 1 = .pin [.slc [[.int .i64 1]]] ∧ e 3 = aInt 0) ∨ (m = 0 ∧ b = false ∧ p = xs1 ∧ e 0 = .prim (.func (.yield r) #[] #[]) ∧ e 1 = .pin [.slc [[.int .i64 1]]] ∧ e 3 = aInt (-1))) 1 (.inl ⟨rfl, rfl, rfl, rfl, rfl, rfl⟩) ?_
    rintro i b p e (⟨rfl, rfl, rfl, he0, he1, he3⟩ | ⟨rfl, rfl, rfl, he0, he1, he3⟩)
    · simp -dsimp -implicitDefEqProofs (disch := omega) only [VCA, ↓reduceIte, IT1, IT2, he3]
      refine Br.dec (fun _ => ?_) (fun h => absurd (by decide) h)
      simp -dsimp -implicitDefEqProofs (disch := omega) only [VCA, Nat.reduceEqDiff, Nat.reduceLT, ↓reduceIte, reduceCtorEq, IT1, IT2, IT3, aft_lo, aft_hi, he0, he1, he3]
      exact ⟨by omega, ⟨(0, 1), rfl⟩, rfl, ⟨0, by omega, .inr ⟨rfl, rfl, by omega⟩⟩, ⟨[], rfl⟩⟩
    · simp -dsimp -implicitDefEqProofs (disch := omega) only [VCA, ↓reduceIte, IT1, IT2, he3]
      refine Br.dec (fun h => absurd h (by decide)) (fun _ => ?_)
      simp -dsimp -implicitDefEqProofs (disch := omega) only [VCA, ↓reduceIte, IT1, IT2, IT3]
def c125 : SFun := ⟨.seq (.reg [⟨some 1, .boxF 38 1 (.t 0), none⟩, ⟨some 2, .mv (.c (.prim .nilFunc)), none⟩]) (.seq (.reg [⟨some 3, .mkf 171 [] [.t 1], none⟩, ⟨some 2, .mv (.t 3), none⟩]) .ret), [.tmp 2]⟩
theorem hc125 : toSF Tryz.prog {} Tryz.f125 = some c125 := by kernel_rfl
theorem hn125 : (Tryz.f125.name == "runtime.NumGoroutine") = false := by kernel_rfl
theorem back_ok : PCalls (Pg G) 125 [.slc [[.int .i64 1]]] (.fn 171 [] [.pin [.slc [[.int .i64 1]]]]) := fun h => by
  refine dcalls_of_vc Tryz.func125 hn125 hc125 (by rw [Tryz.ntmps125]; simp) (by rw [Tryz.ntmps125]; decide) ?_
  simp -dsimp -implicitDefEqProofs (disch := omega) only [VCA, Nat.reduceEqDiff, ↓reduceIte, exists_eq_right, c125]
  exact Sub.refl _
theorem Df.strp {h0 h hR h'' : Heap} {rw' : Nat} {a b : HDoc} {cells : List (List AVal)} {many : Int} {o : AVal} (D : Df h0 h rw' a b cells many o) (S : Sim.Sub h0 hR) (hk : ∀ r o, h r = some o → o.ty.isM = false ∨ hR r = some o → h'' r = some o) : Df h0 h'' rw' a b cells many o := by
  refine ⟨fun r x hr => hk r x (D.sub r x hr) (.inr (S r x hr)), ?_, D.live, hk _ _ D.w (.inl rfl), D.new⟩
  rcases D.own with O | O | ⟨r, es, ha, hr, q1, q2⟩
  · exact .inl O
  · exact .inr (.inl O)
  · exact .inr (.inr ⟨r, es, ha, hk r _ hr (.inl rfl), q1, q2⟩)
theorem Df.set {h0 h : Heap} {rw' : Nat} {a b : HDoc} {cells : List (List AVal)} {many : Int} {o : AVal} (D : Df h0 h rw' a b cells many o) {r : Nat} (h1 : h0 r = none) (h2 : r ≠ rw') (h3 : rootOf o ≠ some r) (x : AObj) : Df h0 (upd h r (some x)) rw' a b cells many o :=
  ⟨D.sub.upd h1, D.own.keep fun t ob ht ho => by rw [upd_ne _ _ (fun e => h3 (by rw [ht, e]))]; exact ho, D.live, by rw [upd_ne _ _ (fun e => h2 e.symm)]; exact D.w, D.new⟩
def c96 : SFun := ⟨.seq (.reg [⟨some 3, .boxF 129 1 (.t 0), none⟩, ⟨some 4, .boxF 3 1 (.t 1), none⟩]) (.seq (.dreg [(⟨some 15, .ld 1 false (.t 3), none⟩, none), (⟨some 16, .fldA 0 (.t 15), none⟩, none), (⟨some 17, .fldA 0 (.t 16), none⟩, none), (⟨some 18, .fldA 0 (.t 17), none⟩, none), (⟨some 19, .ld 1 false (.t 18), none⟩, none), (⟨some 20, .ld 1 false (.t 4), none⟩, none), (⟨some 21, .idxA 6 (.t 19) (.t 20), none⟩, none), (⟨some 22, .ld 6 true (.t 21), none⟩, none), (⟨some 23, .ld 1 false (.t 3), none⟩, none), (⟨some 24, .fldA 0 (.t 23), none⟩, none), (⟨some 25, .fldA 2 (.t 24), none⟩, none), (⟨some 26, .fldA 0 (.t 25), none⟩, none), (⟨some 27, .ld 1 false (.t 26), none⟩, none), (⟨some 28, .mv (.t 2), none⟩, none), (⟨some 29, .idxA 6 (.t 27) (.t 28), none⟩, none), (⟨some 30, .ld 6 true (.t 29), none⟩, none), (⟨some 6, .new 40 6 [.int .i64 0, .str [], .emp, .str [], .int .i64 0, .emp], none⟩, (some [])), (⟨some 7, .new 40 6 [.int .i64 0, .str [], .emp, .str [], .int .i64 0, .emp], none⟩, (some [])), (⟨none, .st 6 (.t 6) (.t 22), none⟩, (some [22, 19, 20, 15])), (⟨none, .st 6 (.t 7) (.t 30), none⟩, (some [30, 27, 23, 22, 19, 20, 15]))]) (.seq (.reg [⟨some 31, .ld 1 false (.t 3), none⟩, ⟨some 32, .ld 1 false (.t 4), none⟩, ⟨some 33, .fldA 2 (.t 6), none⟩, ⟨some 34, .ld 1 false (.t 33), none⟩, ⟨some 35, .fldA 2 (.t 7), none⟩, ⟨some 36, .ld 1 false (.t 35), none⟩, ⟨some 37, .call (.c (.fn 122 [] [])) [.t 31, .t 32, .t 34, .t 36], none⟩]) (.seq (.seq (.reg [⟨some 38, .fldA 3 (.t 6), none⟩, ⟨some 39, .ld 1 false (.t 38), none⟩, ⟨some 40, .fldA 3 (.t 7), none⟩, ⟨some 41, .ld 1 false (.t 40), none⟩, ⟨some 42, .bin .neq (.t 39) (.t 41), none⟩]) (.cond (.t 42) (.reg [⟨some 43, .ld 1 false (.t 3), none⟩, ⟨some 44, .ld 1 false (.t 4), none⟩, ⟨some 45, .fldA 3 (.t 7), none⟩, ⟨some 46, .ld 1 false (.t 45), none⟩, ⟨some 47, .bld [.int .i64 0, .int .i64 0, .int .i64 0, .int .i64 0, .str [], .str [], .int .i64 0, .str [], .emp, .str [], .int .i64 0, .emp] [(0, (1, (.c (.int .i64 3)))), (1, (1, (.t 44))), (5, (1, (.t 46)))], none⟩, ⟨some 48, .call (.c (.fn 123 [] [])) [.t 43, .t 47], none⟩]) .skip)) (.seq (.reg [⟨some 49, .ld 1 false (.t 3), none⟩, ⟨some 50, .fldA 5 (.t 6), none⟩, ⟨some 51, .ld 1 false (.t 50), none⟩, ⟨some 52, .fldA 5 (.t 7), none⟩, ⟨some 53, .ld 1 false (.t 52), none⟩, ⟨some 54, .call (.c (.fn 124 [] [])) [.t 49, .t 51, .t 53], none⟩, ⟨some 8, .new 38 1 [.emp], none⟩, ⟨none, .st 1 (.t 8) (.t 54), none⟩]) (.seq (.seq (.reg [⟨some 55, .fldA 5 (.t 6), none⟩, ⟨some 56, .ld 1 false (.t 55), none⟩, ⟨some 57, .len (.t 56), none⟩, ⟨some 58, .mv (.c (.int .i64 0)), none⟩]) (.block 0 (.loop (.seq (.reg [⟨some 59, .bin .lss (.t 58) (.t 57), none⟩]) (.seq (.cond (.t 59) .skip (.exit 0)) (.seq (.block 1 (.seq (.reg [⟨some 60, .idxA 1 (.t 56) (.t 58), none⟩, ⟨some 61, .ld 1 false (.t 60), none⟩, ⟨some 10, .mv (.t 61), none⟩]) (.seq (.reg [⟨some 62, .ld 1 false (.t 8), none⟩, ⟨some 63, .mv (.t 10), none⟩, ⟨some 64, .call (.c (.fn 68 [] [])) [.t 62, .t 63], none⟩, ⟨some 65, .un .not (.t 64), none⟩]) (.cond (.t 65) (.reg [⟨some 66, .ld 1 false (.t 3), none⟩, ⟨some 67, .mv (.t 10), none⟩, ⟨some 68, .bld [.int .i64 0, .int .i64 0, .int .i64 0, .int .i64 0, .str [], .str [], .int .i64 0, .str [], .emp, .str [], .int .i64 0, .emp] [(0, (1, (.c (.int .i64 6)))), (1, (1, (.t 67)))], none⟩, ⟨some 69, .call (.c (.fn 123 [] [])) [.t 66, .t 68], none⟩]) .skip)))) (.reg [⟨some 70, .bin .add (.t 58) (.c (.int .i64 1)), none⟩, ⟨some 58, .mv (.t 70), none⟩]))))))) (.seq (.reg [⟨some 11, .new 3 1 [.int .i64 0], none⟩, ⟨none, .st 1 (.t 11) (.c (.int .i64 (-1))), none⟩]) (.seq (.reg [⟨some 71, .fldA 5 (.t 7), none⟩, ⟨some 72, .ld 1 false (.t 71), none⟩, ⟨some 73, .pcall 125 [.t 72], none⟩]) (.block 2 (.range (.t 73) [74, 75] (.seq (.reg [⟨some 12, .mv (.t 74), none⟩]) (.reg [⟨some 13, .mv (.t 75), none⟩])) (.block 3 (.seq (.seq (.reg [⟨some 76, .ld 1 false (.t 8), none⟩, ⟨some 77, .mv (.t 12), none⟩, ⟨some 78, .idxA 1 (.t 76) (.t 77), none⟩, ⟨some 79, .ld 1 false (.t 78), none⟩, ⟨some 80, .bin .geq (.t 79) (.c (.int .i64 0)), none⟩]) (.cond (.t 80) (.seq (.dreg [(⟨some 81, .ld 1 false (.t 3), none⟩, none), (⟨some 82, .ld 1 false (.t 8), none⟩, none), (⟨some 83, .mv (.t 12), none⟩, none), (⟨some 84, .idxA 1 (.t 82) (.t 83), none⟩, none), (⟨some 85, .ld 1 false (.t 84), none⟩, none), (⟨some 86, .mv (.t 13), none⟩, none), (⟨some 87, .call (.c (.fn 96 [] [])) [.t 81, .t 85, .t 86], none⟩, (some [81, 85, 82]))]) (.seq (.reg [⟨some 88, .ld 1 false (.t 8), none⟩, ⟨some 89, .mv (.t 12), none⟩, ⟨some 90, .idxA 1 (.t 88) (.t 89), none⟩, ⟨some 91, .ld 1 false (.t 90), none⟩, ⟨none, .st 1 (.t 11) (.t 91), none⟩]) (.exit 3))) .skip)) (.seq (.reg [⟨some 92, .ld 1 false (.t 3), none⟩, ⟨some 93, .mv (.t 13), none⟩, ⟨some 94, .call (.c (.fn 126 [] [])) [.t 92, .t 93], none⟩, ⟨some 14, .mv (.t 94), none⟩]) (.seq (.reg [⟨some 95, .ld 1 false (.t 3), none⟩, ⟨some 96, .ld 1 false (.t 4), none⟩, ⟨some 97, .mv (.t 14), none⟩, ⟨some 98, .ld 1 false (.t 11), none⟩, ⟨some 99, .bld [.int .i64 0, .int .i64 0, .int .i64 0, .int .i64 0, .str [], .str [], .int .i64 0, .str [], .emp, .str [], .int .i64 0, .emp] [(0, (1, (.c (.int .i64 5)))), (1, (1, (.t 96))), (2, (1, (.t 97))), (3, (1, (.t 98)))], none⟩, ⟨some 100, .call (.c (.fn 123 [] [])) [.t 95, .t 99], none⟩]) (.reg [⟨some 101, .mv (.t 14), none⟩, ⟨none, .st 1 (.t 11) (.t 101), none⟩])))))))))))))), []⟩
theorem hc96 : toSF Tryz.prog {pure := [125]} Tryz.f96 = some c96 := by kernel_rfl
theorem hn96 : (Tryz.f96.name == "runtime.NumGoroutine") = false := by kernel_rfl
theorem pnode_ok {h0 h : Heap} {rw' : Nat} (D : Df h0 h rw' oneD formD [] 3 .emp) :
    DCalls (Pg G) 96 [.vp rw' 0, aInt 0, aInt 0] h fun r h' => r = .tup [] ∧ ∃ o', Df h0 h' rw' oneD formD [rRem 1, rMake (nd formD 1), rMake (nd formD 2), rIns 3 4 (-1), rIns 0 3 (-1)] 5 o' := by
  have gw := D.w
  have nX : nth oneD.nodes (Int.toNat 0) = ⟨1, [], [], [], -1, [1]⟩ := rfl
  have nY : nth formD.nodes (Int.toNat 0) = ⟨1, [], [], [], -1, [1]⟩ := rfl
  have nX' : nth oneD.nodes 0 = ⟨1, [], [], [], -1, [1]⟩ := rfl
  have nY' : nth formD.nodes 0 = ⟨1, [], [], [], -1, [1]⟩ := rfl
  have s0 : sl eAttr [] = .slc [] := rfl
  have s1 : sl eInt [1] = .slc [[.int .i64 1]] := rfl
  have lF : formD.nodes.length = 3 := rfl
  have lO : oneD.nodes.length = 3 := rfl
  refine dcalls_of_vc Tryz.func96 hn96 hc96 (by rw [Tryz.ntmps96]; simp) (by rw [Tryz.ntmps96]; decide) ?_
  simp -dsimp -implicitDefEqProofs (disch := omega) only [VCA, ↓upd_none, Nat.reduceEqDiff, Nat.reduceBEq, Nat.reduceAdd, Nat.reduceLT, Nat.reduceLeDiff, ↓reduceIte, rsOf, rootsOf, SOp.rd, SI.rd, SX.rd, setAt, forall_const, ne_eq, exists_eq_left', rootL, c96, gw, lF, lO, eNode]
  repeat' (first | ((with_reducible refine brC (fun _ => ?_) fun _ => ?_) <;> try (exfalso; omega)) | (with_reducible refine And.intro ?_ ?_; · omega) | simp -dsimp -implicitDefEqProofs (disch := omega) only [VCA, pg_gl, ↓upd_none, Nat.reduceEqDiff, Nat.reduceBEq, Nat.reduceAdd, Nat.reduceSub, Nat.reduceMul, Nat.reduceLT, Nat.reduceLeDiff, ↓reduceIte, reduceCtorEq, rsOf, rootsOf, SOp.rd, SI.rd, SX.rd, rdL, rdO, rdP, okParts, eqCells, okEqCells, fillA, okFill, setAt, implies_true, forall_const, forall_eq, ne_eq, exists_eq_right_right, exists_eq_right, exists_eq_left, exists_eq_left', rootL, eInt, eBool, lit_eq, IT1, IT2, IT3, aft_lo, aft_hi, gw, nX, nY, lF, lO, eNode])
  all_goals try (exfalso; omega)
  intro r6 hr6
  have n6 : ¬ rw' = r6 := fun e => by rw [← e, gw] at hr6; cases hr6
  have n6' : ¬ r6 = rw' := fun e => n6 e.symm
  refine ⟨by rw [if_neg n6], fun r7 hr7 => ?_⟩
  have n7 : ¬ rw' = r7 := fun e => by rw [← e, gw] at hr7; cases hr7.2
  have n7' : ¬ r7 = rw' := fun e => n7 e.symm
  have n76 : ¬ r7 = r6 := hr7.1
  have n67 : ¬ r6 = r7 := fun e => n76 e.symm
  simp -dsimp -implicitDefEqProofs (disch := omega) only [VCA, Nat.reduceAdd, Nat.reduceLT, Nat.reduceLeDiff, ↓reduceIte, exists_eq_left', nX', nY', s0, s1, n6, n7, n76, n67]
  refine DCalls.of (pattrs_nil (G := G) 0) ?_
  rintro _ hX ⟨rfl, hh⟩
  have S : Sim.Sub h hX := by rw [hh]; exact ((((Sub.refl h).upd hr6).upd hr7.2).upd hr6).upd hr7.2
  have g6 : hX r6 = some ⟨.t 40, 6, [[.int .i64 1, .str [], .slc [], .str [], .int .i64 (-1), .slc [[.int .i64 1]]]]⟩ := by rw [hh, upd_ne _ _ n67, upd_same]
  have g7 : hX r7 = some ⟨.t 40, 6, [[.int .i64 1, .str [], .slc [], .str [], .int .i64 (-1), .slc [[.int .i64 1]]]]⟩ := by rw [hh, upd_same]
  clear hh
  have D1 := D.mono S
  have gw1 := D1.w
  have bt : (([] : List UInt8) != []) = false := rfl
  repeat' (first | ((with_reducible refine brC (fun _ => ?_) fun _ => ?_) <;> try (exfalso; omega)) | (with_reducible refine And.intro ?_ ?_; · omega) | simp -dsimp -implicitDefEqProofs (disch := omega) only [VCA, Nat.reduceEqDiff, Nat.reduceAdd, Nat.reduceLT, Nat.reduceLeDiff, ↓reduceIte, exists_eq_left', g6, g7, bt])
  all_goals try (exfalso; omega)
  refine DCalls.of (pairs_ok (G := G) D1) ?_
  rintro _ h2 ⟨rO, rfl, nO, gO, S2⟩
  have D2 := D1.mono S2
  have gw2 := D2.w
  have g62 := S2 _ _ g6
  have g72 := S2 _ _ g7
  repeat' (first | ((with_reducible refine brC (fun _ => ?_) fun _ => ?_) <;> try (exfalso; omega)) | (with_reducible refine And.intro ?_ ?_; · omega) | simp -dsimp -implicitDefEqProofs (disch := omega) only [VCA, Nat.reduceEqDiff, Nat.reduceAdd, Nat.reduceLT, ↓reduceIte, setAt, exists_eq_left', g62])
  all_goals try (exfalso; omega)
  intro r8 hr8
  have n8w : ¬ rw' = r8 := fun e => by rw [← e, gw2] at hr8; cases hr8
  have n86 : ¬ r6 = r8 := fun e => by rw [← e, g62] at hr8; cases hr8
  have n87 : ¬ r7 = r8 := fun e => by rw [← e, g72] at hr8; cases hr8
  have n8O : ¬ rO = r8 := fun e => by rw [← e, gO] at hr8; cases hr8
  repeat' (first | ((with_reducible refine brC (fun _ => ?_) fun _ => ?_) <;> try (exfalso; omega)) | (with_reducible refine And.intro ?_ ?_; · omega) | simp -dsimp -implicitDefEqProofs (disch := omega) only [VCA, Nat.reduceAdd, Nat.reduceLT, ↓reduceIte, exists_eq_left', n86])
  all_goals try (exfalso; omega)
  have D3 := D2.aside hr8 ⟨.t 38, 1, [[.osl rO 1 0 1]]⟩
  obtain ⟨h3, hh3⟩ : ∃ h3, h3 = upd h2 r8 (some ⟨.t 38, 1, [[.osl rO 1 0 1]]⟩) := ⟨_, rfl⟩
  rw [← hh3] at D3
  have b7 : h3 r7 = some ⟨.t 40, 6, [[.int .i64 1, .str [], .slc [], .str [], .int .i64 (-1), .slc [[.int .i64 1]]]]⟩ := by rw [hh3, upd_ne _ _ n87]; exact g72
  have b8 : h3 r8 = some ⟨.t 38, 1, [[.osl rO 1 0 1]]⟩ := by rw [hh3, upd_same]
  have bO : h3 rO = some ⟨.t 3, 1, [[.int .i64 (-1)]]⟩ := by rw [hh3, upd_ne _ _ n8O]; exact gO
  have w7 : r7 ≠ rw' := n7'
  have w8 : r8 ≠ rw' := fun e => n8w e.symm
  have wO : rO ≠ rw' := fun e => by rw [e, gw1] at nO; cases nO
  refine LoopVC.intro (fun m E h4 => E 3 = .pin [.vp rw' 0] ∧ E 4 = .pin [.int .i64 0] ∧ E 7 = .vp r7 0 ∧ E 8 = .vp r8 0 ∧ E 56 = .slc [[.int .i64 1]] ∧ E 57 = aInt 1 ∧ ((m = 1 ∧ E 58 = aInt 0 ∧ h4 = h3) ∨ (m = 0 ∧ E 58 = aInt 1 ∧ ∃ o1, Df h0 h4 rw' oneD formD [rRem 1] 3 o1 ∧ (∀ r, rootOf o1 = some r → h3 r = none) ∧ ∀ t ob, h3 t = some ob → t ≠ rw' → h4 t = some ob))) 1
    ⟨rfl, rfl, rfl, rfl, rfl, rfl, .inl ⟨rfl, rfl, hh3.symm⟩⟩ ?_
  rintro m E h4 ⟨e3, e4, e7, e8, e56, e57, ⟨rfl, e58, rfl⟩ | ⟨rfl, e58, o1, D4, q4, k4⟩⟩
  · have hc0 : PCalls (Pg G) 68 [sl eInt [-1], aInt 1] (.bool false) := hasI_ok (G := G) [-1] 1 (by decide)
    have hCo : ∀ hh : Heap, hh rO = some ⟨.t 3, 1, [[.int .i64 (-1)]]⟩ → DCalls (Pg G) 68 [.osl rO 1 0 1, .int .i64 1] hh fun r h' => r = .bool false ∧ h' = hh := fun hh g => DCalls.bor hc0 (.bool _) (.cons (Vw.osl0 g rfl (Nat.le_refl _) (fun f hf => by simp at hf; rw [hf]; rfl) (.cons (.cons (.refl _) .nil) .nil)) (.cons (.refl _) .nil))
    repeat' (first | ((with_reducible refine brC (fun _ => ?_) fun _ => ?_) <;> try (exfalso; omega)) | ((refine DCalls.of (hCo _ bO) ?_; rintro _ hy ⟨rfl, hhy⟩; subst hhy)) | (with_reducible refine And.intro ?_ ?_; · omega) | simp -dsimp -implicitDefEqProofs (disch := omega) only [VCA, Nat.reduceEqDiff, Nat.reduceAdd, Nat.reduceLT, Nat.reduceLeDiff, ↓reduceIte, fillA, okFill, ne_eq, exists_eq_left', e3, e8, e56, e57, e58, b8])
    all_goals try (exfalso; omega)
    have hE := pedit_ok (G := G) D3 (by decide) (rRem 1) rfl
    unfold rRem at hE
    refine DCalls.of hE ?_
    rintro _ h5 ⟨rfl, ⟨o1, D4, q4⟩, k4⟩
    repeat' (first | ((with_reducible refine brC (fun _ => ?_) fun _ => ?_) <;> try (exfalso; omega)) | (with_reducible refine And.intro ?_ ?_; · omega) | simp -dsimp -implicitDefEqProofs (disch := omega) only [VCA, Nat.reduceEqDiff, ↓reduceIte, e3, e4, e7, e8, e56, e57, e58])
    all_goals try (exfalso; omega)
    exact ⟨0, by omega, .inr ⟨rfl, by omega, o1, D4, fun r hr => (q4 r hr).resolve_left (fun e => by cases e), fun t ob ht h1 => k4 t ob ht h1 (fun e => by cases e)⟩⟩
  · have c7 := k4 _ _ b7 w7
    have c8 := k4 _ _ b8 w8
    have cO := k4 _ _ bO wO
    repeat' (first | ((with_reducible refine brC (fun _ => ?_) fun _ => ?_) <;> try (exfalso; omega)) | (with_reducible refine And.intro ?_ ?_; · omega) | simp -dsimp -implicitDefEqProofs (disch := omega) only [VCA, Nat.reduceEqDiff, Nat.reduceAdd, Nat.reduceLT, ↓reduceIte, setAt, ne_eq, exists_eq_left', e7, e57, e58])
    all_goals try (exfalso; omega)
    intro r11 hr11
    have n117 : ¬ r7 = r11 := fun e => by rw [← e, c7] at hr11; cases hr11
    have n118 : ¬ r8 = r11 := fun e => by rw [← e, c8] at hr11; cases hr11
    have n11O : ¬ rO = r11 := fun e => by rw [← e, cO] at hr11; cases hr11
    have n11w : ¬ rw' = r11 := fun e => by have := D4.w; rw [e, hr11] at this; cases this
    repeat' (first | ((with_reducible refine brC (fun _ => ?_) fun _ => ?_) <;> try (exfalso; omega)) | (with_reducible apply pcallE.of; · exact back_ok (G := G)) | (with_reducible refine And.intro ?_ ?_; · omega) | simp -dsimp -implicitDefEqProofs (disch := omega) only [VCA, Nat.reduceAdd, Nat.reduceLT, ↓reduceIte, exists_eq_left', c7, n117])
    all_goals try (exfalso; omega)
    have v8 : rootOf o1 ≠ some r8 := fun e => by have := q4 r8 e; rw [b8] at this; cases this
    have vO : rootOf o1 ≠ some rO := fun e => by have := q4 rO e; rw [bO] at this; cases this
    have v11 : rootOf o1 ≠ some r11 := fun e => by obtain ⟨ob, q⟩ := D4.own.root e; rw [hr11] at q; cases q
    have D5 := D4.aside hr11 ⟨.t 3, 1, [[.int .i64 (-1)]]⟩
    have n011 : h0 r11 = none := D4.sub.none hr11
    have w11 : r11 ≠ rw' := fun e => n11w e.symm
    obtain ⟨hR, hhR⟩ : ∃ hR, hR = upd h4 r11 (some ⟨.t 3, 1, [[.int .i64 (-1)]]⟩) := ⟨_, rfl⟩
    rw [← hhR] at D5
    have SR : Sim.Sub h0 hR := D5.sub
    have f8 : hR r8 = some ⟨.t 38, 1, [[.osl rO 1 0 1]]⟩ := by rw [hhR, upd_ne _ _ n118]; exact c8
    have fO : hR rO = some ⟨.t 3, 1, [[.int .i64 (-1)]]⟩ := by rw [hhR, upd_ne _ _ n11O]; exact cO
    have f11 : hR r11 = some ⟨.t 3, 1, [[.int .i64 (-1)]]⟩ := by rw [hhR, upd_same]
    refine RangeVC.intro (back1_it (G := G)) rfl (fun _ => rfl)
      (fun pre h' => (pre = [] ∧ Df h0 h' rw' oneD formD [rRem 1] 3 o1 ∧ h' r8 = some ⟨.t 38, 1, [[.osl rO 1 0 1]]⟩ ∧ h' rO = some ⟨.t 3, 1, [[.int .i64 (-1)]]⟩ ∧ h' r11 = some ⟨.t 3, 1, [[.int .i64 (-1)]]⟩) ∨ (pre.length = 1 ∧ ∃ o', Df h0 h' rw' oneD formD [rRem 1, rMake (nd formD 1), rMake (nd formD 2), rIns 3 4 (-1), rIns 0 3 (-1)] 5 o'))
      (fun ex pre h' => False) ?_ ?_ ?_ ?_ ?_
    · left; refine ⟨rfl, ?_, ?_, ?_, ?_⟩
      · rw [hhR] at D5; exact D5
      · rw [hhR] at f8; exact f8
      · rw [hhR] at fO; exact fO
      · rw [hhR] at f11; exact f11
    · rintro pre x h' hI hN
      obtain ⟨rfl, D6, i8, iO, i11⟩ : pre = [] ∧ Df h0 h' rw' oneD formD [rRem 1] 3 o1 ∧ h' r8 = some ⟨.t 38, 1, [[.osl rO 1 0 1]]⟩ ∧ h' rO = some ⟨.t 3, 1, [[.int .i64 (-1)]]⟩ ∧ h' r11 = some ⟨.t 3, 1, [[.int .i64 (-1)]]⟩ := hI.resolve_right (fun q => by omega)
      obtain ⟨⟨i, v⟩, hx⟩ := x
      cases hx
      have hM := made_one (G := G) D6 (by decide) (by decide)
      repeat' (first | ((with_reducible refine brC (fun _ => ?_) fun _ => ?_) <;> try (exfalso; omega)) | ((refine DCalls.of hM ?_; rintro _ h7 ⟨rfl, ⟨o2, D7, q7⟩, k7⟩)) | (with_reducible refine And.intro ?_ ?_; · omega) | simp -dsimp -implicitDefEqProofs (disch := omega) only [VCA, Nat.reduceEqDiff, Nat.reduceAdd, Nat.reduceLT, Nat.reduceLeDiff, ↓reduceIte, fillA, okFill, exists_eq_left', eX1, e3, e4, e8, i8, iO])
      all_goals try (exfalso; omega)
      have j11 := k7 _ _ i11 w11 v11
      have u11 : rootOf o2 ≠ some r11 := fun e => by
        rcases q7 _ e with q | q
        · exact v11 q
        · rw [i11] at q; cases q
      repeat' (first | ((with_reducible refine brC (fun _ => ?_) fun _ => ?_) <;> try (exfalso; omega)) | (with_reducible refine And.intro ?_ ?_; · omega) | simp -dsimp -implicitDefEqProofs (disch := omega) only [VCA, Nat.reduceLT, exists_eq_left', j11])
      all_goals try (exfalso; omega)
      have hE2 := pedit_ok (G := G) D7 (by decide) (rIns 0 3 (-1)) rfl
      unfold rIns at hE2
      refine DCalls.of hE2 ?_
      rintro _ h9 ⟨rfl, ⟨o3, D8, q8⟩, k8⟩
      have y11 := k8 _ _ j11 w11 u11
      have z11' : rootOf o3 ≠ some r11 := fun e => by
        rcases q8 _ e with q | q
        · exact u11 q
        · rw [j11] at q; cases q
      repeat' (first | ((with_reducible refine brC (fun _ => ?_) fun _ => ?_) <;> try (exfalso; omega)) | (with_reducible refine And.intro ?_ ?_; · omega) | simp -dsimp -implicitDefEqProofs (disch := omega) only [VCA, Nat.reduceEqDiff, Nat.reduceLT, ↓reduceIte, reduceCtorEq, setAt, exists_eq_left', y11])
      all_goals try (exfalso; omega)
      exact .inr ⟨rfl, o3, D8.set n011 w11 z11' _⟩
    · rintro h' hI
      obtain ⟨_, o', D9⟩ := hI.resolve_left (fun q => by have := q.1; cases this)
      repeat' (first | ((with_reducible refine brC (fun _ => ?_) fun _ => ?_) <;> try (exfalso; omega)) | (with_reducible refine And.intro ?_ ?_; · omega) | simp -dsimp -implicitDefEqProofs (disch := omega) only [VCA])
      exact ⟨_, Sub.refl _, o', D9⟩
    · rintro ex pre h' _ _ h; exact h.elim
    · refine ⟨fun pre h' h'' hI _ hk => ?_, fun ex pre h' h'' h _ _ => h⟩
      rw [← hhR] at hk
      rcases hI with ⟨p0, p1, p2, p3, p4⟩ | ⟨p0, o', p1⟩
      · exact .inl ⟨p0, p1.strp SR hk, hk _ _ p2 (.inl rfl), hk _ _ p3 (.inl rfl), hk _ _ p4 (.inl rfl)⟩
      · exact .inr ⟨p0, o', p1.strp SR hk⟩
end Go.Proofs.K
end
section
set_option linter.unusedSimpArgs false
set_option linter.unusedVariables false
namespace Go.Proofs.K
open Go Go.Sim Go.Proofs
variable {G : Glob}
structure Tw (h h' : Heap) (t1 z1 t2 z2 : Nat) (A B : List (List AVal)) (a b : AVal) : Prop where
  sub : Sim.Sub h h'
  oA : OwnS h' t1 z1 A a
  oB : OwnS h' t2 z2 B b
  mA : Mut a
  mB : Mut b
  nA : ∀ r, rootOf a = some r → h r = none
  nB : ∀ r, rootOf b = some r → h r = none
  ne : ∀ r, rootOf a = some r → rootOf b ≠ some r
section
variable {h h' : Heap} {t1 z1 t2 z2 : Nat} {A B : List (List AVal)} {a b : AVal}
theorem Tw.start : Tw h h t1 z1 t2 z2 [] [] .emp .emp := ⟨Sub.refl _, .inl ⟨rfl, rfl⟩, .inl ⟨rfl, rfl⟩, (fun _ e => by cases e), (fun _ e => by cases e), (fun _ e => by cases e), (fun _ e => by cases e), (fun _ e => by cases e)⟩
theorem Tw.aside (T : Tw h h' t1 z1 t2 z2 A B a b) {r : Nat} (hr : h' r = none) (x : AObj) : Tw h (upd h' r (some x)) t1 z1 t2 z2 A B a b := by
  have k : ∀ t o, h' t = some o → upd h' r (some x) t = some o := fun t o ht => by rw [upd_ne _ _ (fun e => by rw [e, hr] at ht; cases ht)]; exact ht
  exact ⟨(fun t o ht => k t o (T.sub t o ht)), T.oA.keep (fun t o _ ho => k t o ho), T.oB.keep (fun t o _ ho => k t o ho), T.mA, T.mB, T.nA, T.nB, T.ne⟩
theorem Tw.appA (T : Tw h h' t1 z1 t2 z2 A B a b) {y : Nat} {x : List AVal} (h1 : (A.length + 1) * y ≤ 140737488355328) (h2 : A.length + 1 ≤ 140737488355328) {K : AVal → Heap → Prop}
    (hk : ∀ a' h2, Tw h h2 t1 z1 t2 z2 (A ++ [x]) B a' b → (∀ t o, h' t = some o → rootOf a ≠ some t → h2 t = some o) → K a' h2) : Hd (appE t1 z1 y a [x] h') K .mk := by
  refine T.oA.app T.mA (by rw [List.length_singleton]; exact h1) (by rw [List.length_singleton]; exact h2) fun r' h3 q1 q2 q3 => hk _ _ ⟨fun t o ht => q3 t o (T.sub t o ht) (fun e => by rw [T.nA _ e] at ht; cases ht), ?_, T.oB.keep (fun t o ht ho => q3 t o ho (fun e => T.ne _ e ht)), (fun _ e => by cases e), T.mB, fun r hr => ?_, T.nB, fun r hr hb => ?_⟩ q3
  · exact .inr (.inr ⟨r', _, by rw [List.length_append], q1, Nat.le_refl _, by rw [List.take_length]⟩)
  · cases hr
    rcases q2 with q | q
    · exact T.nA _ q
    · exact T.sub.none q
  · cases hr
    rcases q2 with q | q
    · exact T.ne _ q hb
    · obtain ⟨o, ho⟩ := T.oB.root hb; rw [q] at ho; cases ho
theorem Tw.appB (T : Tw h h' t1 z1 t2 z2 A B a b) {y : Nat} {x : List AVal} (h1 : (B.length + 1) * y ≤ 140737488355328) (h2 : B.length + 1 ≤ 140737488355328) {K : AVal → Heap → Prop}
    (hk : ∀ b' h2, Tw h h2 t1 z1 t2 z2 A (B ++ [x]) a b' → (∀ t o, h' t = some o → rootOf b ≠ some t → h2 t = some o) → K b' h2) : Hd (appE t2 z2 y b [x] h') K .mk := by
  have T' : Tw h h' t2 z2 t1 z1 B A b a := ⟨T.sub, T.oB, T.oA, T.mB, T.mA, T.nB, T.nA, fun r h1 h2 => T.ne r h2 h1⟩
  exact T'.appA h1 h2 fun b' h2 T2 q => hk b' h2 ⟨T2.sub, T2.oB, T2.oA, T2.mB, T2.mA, T2.nB, T2.nA, fun r h1 h2 => T2.ne r h2 h1⟩ q
end
def bareN (x : HNode) : HNode := { x with parent := 0, kids := [] }
def rowB (x : HNode) : List AVal := [aInt x.kind, .str x.name, sl eAttr x.attrs, .str x.text, .int .i64 0, .emp]
def treeL (d : HDoc) : List HNode := (below d 0).map fun n => bareN (nd d n)
def treeD (d : HDoc) : List Int := (below d 0).map fun n => deepM d n
theorem rowB_wk (l : List HNode) : F2 (F2 Vz) (l.map rowB) (l.map (eNode ∘ bareN)) := by
  induction l with
  | nil => exact .nil
  | cons x l ih => exact .cons (.cons (.refl _) (.cons (.refl _) (.cons (.refl _) (.cons (.refl _) (.cons (.refl _) (.cons .emp .nil)))))) ih
def c97 : SFun := ⟨.seq (.reg [⟨some 1, .boxF 24 2 (.t 0), none⟩, ⟨some 2, .mv (.c .emp), none⟩, ⟨some 3, .mv (.c .emp), none⟩]) (.seq (.reg [⟨some 4, .mv (.c .emp), none⟩]) (.seq (.reg [⟨some 5, .mv (.c .emp), none⟩]) (.seq (.reg [⟨some 9, .ld 2 true (.t 1), none⟩, ⟨some 10, .pcall 127 [.t 9, .c (.int .i64 0)], none⟩, ⟨some 6, .mv (.t 10), none⟩]) (.seq (.seq (.reg [⟨some 7, .mv (.c (.int .i64 0)), none⟩]) (.block 0 (.loop (.seq (.seq (.reg [⟨some 11, .mv (.t 7), none⟩, ⟨some 12, .mv (.t 6), none⟩, ⟨some 13, .len (.t 12), none⟩, ⟨some 14, .bin .lss (.t 11) (.t 13), none⟩]) (.cond (.t 14) .skip (.exit 0))) (.seq (.block 1 (.seq (.dreg [(⟨some 17, .fldA 0 (.t 1), none⟩, none), (⟨some 18, .ld 1 false (.t 17), none⟩, none), (⟨some 19, .mv (.t 6), none⟩, none), (⟨some 20, .mv (.t 7), none⟩, none), (⟨some 21, .idxA 1 (.t 19) (.t 20), none⟩, none), (⟨some 22, .ld 1 false (.t 21), none⟩, none), (⟨some 23, .idxA 6 (.t 18) (.t 22), none⟩, none), (⟨some 24, .ld 6 true (.t 23), none⟩, none), (⟨some 8, .new 40 6 [.int .i64 0, .str [], .emp, .str [], .int .i64 0, .emp], none⟩, (some [])), (⟨none, .st 6 (.t 8) (.t 24), none⟩, (some [24, 18, 22]))]) (.seq (.reg [⟨some 25, .fldA 4 (.t 8), none⟩, ⟨none, .st 1 (.t 25) (.c (.int .i64 0)), none⟩]) (.seq (.reg [⟨some 26, .fldA 5 (.t 8), none⟩, ⟨none, .st 1 (.t 26) (.c .emp), none⟩]) (.seq (.reg [⟨some 27, .mv (.t 4), none⟩, ⟨some 28, .ld 6 true (.t 8), none⟩, ⟨some 29, .bldF 40 6 [.t 28], none⟩, ⟨some 30, .app 40 6 96 (.t 27) (.t 29), none⟩, ⟨some 4, .mv (.t 30), none⟩]) (.dreg [(⟨some 31, .mv (.t 5), none⟩, none), (⟨some 32, .ld 2 true (.t 1), none⟩, none), (⟨some 33, .mv (.t 6), none⟩, none), (⟨some 34, .mv (.t 7), none⟩, none), (⟨some 35, .idxA 1 (.t 33) (.t 34), none⟩, none), (⟨some 36, .ld 1 false (.t 35), none⟩, none), (⟨some 37, .pcall 93 [.t 32, .t 36], none⟩, none), (⟨some 38, .bldF 3 1 [.t 37], none⟩, none), (⟨some 39, .app 3 1 8 (.t 31) (.t 38), none⟩, (some [32, 36])), (⟨some 5, .mv (.t 39), none⟩, (some [32, 36]))])))))) (.reg [⟨some 15, .mv (.t 7), none⟩, ⟨some 16, .bin .add (.t 15) (.c (.int .i64 1)), none⟩, ⟨some 7, .mv (.t 16), none⟩])))))) (.seq (.reg [⟨some 40, .mv (.t 4), none⟩, ⟨some 41, .mv (.t 5), none⟩, ⟨some 2, .mv (.t 40), none⟩, ⟨some 3, .mv (.t 41), none⟩]) .ret))))), [.tmp 2, .tmp 3]⟩
theorem hc97 : toSF Tryz.prog {pure := [127, 93]} Tryz.f97 = some c97 := by kernel_rfl
theorem hn97 : (Tryz.f97.name == "runtime.NumGoroutine") = false := by kernel_rfl
set_option maxHeartbeats 1000000 in
set_option maxRecDepth 10000 in
theorem treeText_ok (d : HDoc) (V : DV d) (sm : DocSm d) : PCalls (Pg G) 97 [.agg (eDoc d)] (.tup [sl eNode (treeL d), sl eInt (treeD d)]) := PCalls.outV fun h => by
  have hl := V.len
  have hp := V.pos
  have hBe := below_ok (G := G) d V sm 0 V.zero
  have bin := below_in V 0 V.zero
  have bl := below_len V V.zero
  have hDe := fun n hn => deep_ok (G := G) d sm (fun n hn h0 => (V.par_in hn h0).1) n hn
  unfold treeL treeD
  obtain ⟨L, hL⟩ : ∃ L, below d 0 = L := ⟨_, rfl⟩
  rw [hL] at hBe bin bl ⊢
  simp only [eDoc] at hBe hDe
  refine dcalls_of_vc Tryz.func97 hn97 hc97 (by rw [Tryz.ntmps97]; simp) (by rw [Tryz.ntmps97]; decide) ?_
  simp -dsimp -implicitDefEqProofs (disch := omega) only [VCA, Nat.reduceEqDiff, Nat.reduceAdd, ↓reduceIte, c97, eDoc]
  repeat' (first | ((with_reducible refine brC (fun _ => ?_) fun _ => ?_) <;> try (exfalso; omega)) | (with_reducible apply pcallE.of; · exact hBe) | (with_reducible refine And.intro ?_ ?_; · omega) | simp -dsimp -implicitDefEqProofs (disch := omega) only [VCA, ↓reduceIte])
  all_goals try (exfalso; omega)
  refine LoopVC.intro (fun m e h' => ∃ (k : Nat) (a b : AVal), k ≤ L.length ∧ m = L.length - k ∧ e 1 = .pin (eDoc d) ∧ e 4 = a ∧ e 5 = b ∧ e 6 = sl eInt L ∧ e 7 = aInt k ∧ Tw h h' 40 6 3 1 ((L.take k).map fun n => rowB (nd d n)) ((L.take k).map fun n => eInt (deepM d n)) a b) L.length ⟨0, .emp, .emp, by omega, rfl, rfl, rfl, rfl, rfl, rfl, Tw.start⟩ ?_
  rintro m e h' ⟨k, a, b, hk, rfl, e1, e4, e5, e6, e7, T⟩
  have iA := T.oA.isV
  have iB := T.oB.isV
  have iA1 := iA.1
  have iA2 := iA.2
  have iB1 := iB.1
  have iB2 := iB.2
  simp -dsimp -implicitDefEqProofs (disch := omega) only [VCA, Nat.reduceEqDiff, ↓reduceIte, eInt, e6, e7]
  refine Br.dec (fun hk1 => ?_) (fun hk1 => ?_)
  · have hkl : k < L.length := by omega
    obtain ⟨n, hn⟩ : ∃ n, nth L k = n := ⟨_, rfl⟩
    have hmem : n ∈ L := by rw [← hn]; exact nth_mem' hkl
    have hin := bin n hmem
    have i0 := hin.1
    have i1 := hin.2
    have e0 : nth d.nodes n.toNat = nd d n := rfl
    obtain ⟨x, hx⟩ : ∃ x, nd d n = x := ⟨_, rfl⟩
    rw [hx] at e0
    have k0 : (0 : Int) ≤ k := by omega
    simp -dsimp -implicitDefEqProofs (disch := omega) only [VCA, Nat.reduceEqDiff, Nat.reduceAdd, Nat.reduceLT, Nat.reduceLeDiff, ↓reduceIte, rsOf, rootsOf, SOp.rd, SI.rd, SX.rd, okParts, setAt, forall_eq, exists_eq_left, exists_eq_left', rootL, eInt, e1, e4, e6, e7, hn, e0, eDoc, eNode, i0, i1, k0, hk1]
    intro r hr
    have hrA : rootOf a ≠ some r := fun e => by obtain ⟨o, ho⟩ := T.oA.root e; rw [hr] at ho; cases ho
    have hrB : rootOf b ≠ some r := fun e => by obtain ⟨o, ho⟩ := T.oB.root e; rw [hr] at ho; cases ho
    have lk : (L.take k).length = k := by rw [List.length_take]; omega
    have T1 := T.aside hr ⟨40, 6, [rowB x]⟩
    refine T1.appA (by rw [List.length_map, lk]; omega) (by rw [List.length_map, lk]; omega) fun a' h2 T2 q2 => ?_
    have hD := hDe n hin
    have iB := T2.oB.isV
    have iB1 := iB.1
    have iB2 := iB.2
    repeat' (first | ((with_reducible refine brC (fun _ => ?_) fun _ => ?_) <;> try (exfalso; omega)) | (with_reducible apply pcallE.of; · exact hD) | (with_reducible refine And.intro ?_ ?_; · omega) | simp -dsimp -implicitDefEqProofs (disch := omega) only [VCA, Nat.reduceEqDiff, Nat.reduceAdd, ↓reduceIte, rsOf, rootsOf, okParts, forall_eq, exists_eq_left, rootL, eInt, e1, e5, e6, e7, hn, eDoc])
    refine T2.appB (by rw [List.length_map, lk]; omega) (by rw [List.length_map, lk]; omega) fun b' h3 T3 q3 => ?_
    simp -dsimp -implicitDefEqProofs (disch := omega) only [VCA, Nat.reduceEqDiff, ↓reduceIte, SOp.rd, SI.rd, SX.rd, e1, e6, e7]
    have tk : L.take (k + 1) = L.take k ++ [n] := by rw [← hn]; exact take_snoc hkl
    refine ⟨L.length - (k + 1), by omega, k + 1, a', b', hkl, rfl, rfl, rfl, rfl, rfl, ?_⟩
    rw [tk]
    simp only [List.map_append, List.map_cons, List.map_nil, hx]
    exact T3
  · have hkE : k = L.length := by omega
    subst hkE
    simp -dsimp -implicitDefEqProofs (disch := omega) only [VCA, Nat.reduceEqDiff, ↓reduceIte, e4, e5]
    rw [List.take_length] at T
    have na : ∀ r, rootOf a = some r → newH h h' r = h' r := fun r hr => newH_none (T.nA r hr)
    have nb : ∀ r, rootOf b = some r → newH h h' r = h' r := fun r hr => newH_none (T.nB r hr)
    have rw1 : (L.map fun n => rowB (nd d n)) = (L.map fun n => nd d n).map rowB := by rw [List.map_map]; rfl
    have rw2 : (L.map fun n => bareN (nd d n)) = (L.map fun n => nd d n).map bareN := by rw [List.map_map]; rfl
    have rw3 : (L.map fun n => eInt (deepM d n)) = (L.map fun n => deepM d n).map eInt := by rw [List.map_map]; rfl
    have TA := T.oA
    have TB := T.oB
    rw [rw1] at TA
    rw [rw3] at TB
    refine ⟨h', Sub.refl _, T.sub, .tup' (.cons ?_ (.cons ?_ .nil))⟩
    · rw [rw2]
      refine OwnS.vwk (TA.keep fun r o hr ho => by rw [na r hr]; exact ho) T.mA ?_
      generalize (L.map fun n => nd d n) = M
      rw [List.map_map]
      exact rowB_wk _
    · exact (TB.keep fun r o hr ho => by rw [nb r hr]; exact ho).vw
theorem treeL_len (d : HDoc) : (treeL d).length = (treeD d).length := by unfold treeL treeD; rw [List.length_map, List.length_map]
theorem bareN_sm {x : HNode} (h : NodeSm x) : NodeSm (bareN x) := by
  exact ⟨h.name, h.attrs, h.each, h.text, Nat.zero_le _⟩
theorem treeL_sm {d : HDoc} (sm : DocSm d) (k : Nat) : NodeSm (nth (treeL d) k) := by
  by_cases hk : k < (treeL d).length
  · have := nth_mem' hk
    unfold treeL at this
    obtain ⟨n, _, hn⟩ := List.mem_map.1 this
    unfold treeL
    rw [← hn]; exact bareN_sm (sm.nd n)
  · rw [nth_def hk]; exact nodeSm_default
def sameTreeM (a b : HDoc) : Bool := docE a == 0 && docE b == 0 && a.quirks == b.quirks && treeD a == treeD b && treeL a == treeL b
def c52 : SFun := ⟨.seq (.reg [⟨some 2, .boxF 24 2 (.t 0), none⟩, ⟨some 3, .boxF 24 2 (.t 1), none⟩, ⟨some 4, .mv (.c (.bool false)), none⟩]) (.seq (.seq (.reg [⟨some 10, .ld 2 true (.t 2), none⟩, ⟨some 11, .pcall 48 [.t 10], none⟩, ⟨some 12, .bin .neq (.t 11) (.c (.int .i64 0)), none⟩, ⟨some 13, .mv (.t 12), none⟩, ⟨some 14, .ld 2 true (.t 3), some (13, false)⟩, ⟨some 15, .pcall 48 [.t 14], some (13, false)⟩, ⟨some 16, .bin .neq (.t 15) (.c (.int .i64 0)), some (13, false)⟩, ⟨some 17, .pick (.t 13) (.c (.bool true)) (.t 16), none⟩, ⟨some 18, .mv (.t 17), none⟩, ⟨some 19, .fldA 1 (.t 2), some (18, false)⟩, ⟨some 20, .ld 1 false (.t 19), some (18, false)⟩, ⟨some 21, .fldA 1 (.t 3), some (18, false)⟩, ⟨some 22, .ld 1 false (.t 21), some (18, false)⟩, ⟨some 23, .eqb true (.t 20) (.t 22), some (18, false)⟩, ⟨some 24, .pick (.t 18) (.c (.bool true)) (.t 23), none⟩]) (.cond (.t 24) (.seq (.reg [⟨some 4, .mv (.c (.bool false)), none⟩]) .ret) .skip)) (.seq (.reg [⟨some 26, .ld 2 true (.t 2), none⟩, ⟨some 27, .pcall 97 [.t 26], none⟩, ⟨some 25, .mv (.t 27), none⟩, ⟨some 28, .ext (.t 25) 0, none⟩, ⟨some 29, .ext (.t 25) 1, none⟩, ⟨some 5, .mv (.t 28), none⟩, ⟨some 6, .mv (.t 29), none⟩]) (.seq (.reg [⟨some 31, .ld 2 true (.t 3), none⟩, ⟨some 32, .pcall 97 [.t 31], none⟩, ⟨some 30, .mv (.t 32), none⟩, ⟨some 33, .ext (.t 30) 0, none⟩, ⟨some 34, .ext (.t 30) 1, none⟩, ⟨some 7, .mv (.t 33), none⟩, ⟨some 8, .mv (.t 34), none⟩]) (.seq (.seq (.reg [⟨some 35, .mv (.t 6), none⟩, ⟨some 36, .mv (.t 8), none⟩, ⟨some 37, .pcall 34 [.t 35, .t 36], none⟩, ⟨some 38, .un .not (.t 37), none⟩]) (.cond (.t 38) (.seq (.reg [⟨some 4, .mv (.c (.bool false)), none⟩]) .ret) .skip)) (.seq (.seq (.reg [⟨some 9, .mv (.c (.int .i64 0)), none⟩]) (.block 0 (.loop (.seq (.seq (.reg [⟨some 39, .mv (.t 9), none⟩, ⟨some 40, .mv (.t 5), none⟩, ⟨some 41, .len (.t 40), none⟩, ⟨some 42, .bin .lss (.t 39) (.t 41), none⟩]) (.cond (.t 42) .skip (.exit 0))) (.seq (.block 1 (.seq (.dreg [(⟨some 45, .mv (.t 5), none⟩, none), (⟨some 46, .mv (.t 9), none⟩, none), (⟨some 47, .idxA 6 (.t 45) (.t 46), none⟩, none), (⟨some 48, .ld 6 true (.t 47), none⟩, none), (⟨some 49, .mv (.t 7), none⟩, none), (⟨some 50, .mv (.t 9), none⟩, none), (⟨some 51, .idxA 6 (.t 49) (.t 50), none⟩, none), (⟨some 52, .ld 6 true (.t 51), none⟩, none), (⟨some 53, .pcall 43 [.t 48, .t 52], none⟩, none), (⟨some 54, .un .not (.t 53), none⟩, none)]) (.cond (.t 54) (.seq (.reg [⟨some 4, .mv (.c (.bool false)), none⟩]) .ret) .skip))) (.reg [⟨some 43, .mv (.t 9), none⟩, ⟨some 44, .bin .add (.t 43) (.c (.int .i64 1)), none⟩, ⟨some 9, .mv (.t 44), none⟩])))))) (.seq (.reg [⟨some 4, .mv (.c (.bool true)), none⟩]) .ret)))))), [.tmp 4]⟩
theorem hc52 : toSF Tryz.prog {pure := [48, 97, 34, 43]} Tryz.f52 = some c52 := by kernel_rfl
theorem hn52 : (Tryz.f52.name == "runtime.NumGoroutine") = false := by kernel_rfl
set_option maxHeartbeats 1000000 in
theorem sameTree_ok (a b : HDoc) (sa : DocSm a) (sb : DocSm b) : PCalls (Pg G) 52 [.agg (eDoc a), .agg (eDoc b)] (.bool (sameTreeM a b)) := fun h => by
  have hC1 := docErr_ok (G := G) a sa
  have hC2 := docErr_ok (G := G) b sb
  simp only [eDoc] at hC1 hC2
  unfold sameTreeM
  by_cases ha : docE a = 0
  · by_cases hb : docE b = 0
    · by_cases hq : a.quirks = b.quirks
      · have Va := docE_DV ha
        have Vb := docE_DV hb
        have hT1 := treeText_ok (G := G) a Va sa
        have hT2 := treeText_ok (G := G) b Vb sb
        have lA := treeL_len a
        have lB := treeL_len b
        have mA : (treeL a).length ≤ 200 := by unfold treeL; rw [List.length_map]; exact Nat.le_trans (below_len Va Va.zero) Va.len
        have mB : (treeL b).length ≤ 200 := by unfold treeL; rw [List.length_map]; exact Nat.le_trans (below_len Vb Vb.zero) Vb.len
        have hS := sameN_ok (G := G) (treeD a) (treeD b) (by omega) (by omega)
        have hN := fun k => sameNode_ok (G := G) (nth (treeL a) k) (nth (treeL b) k) (treeL_sm sa k) (treeL_sm sb k)
        simp only [eDoc] at hT1 hT2
        rw [hq] at hT1 hC1
        rw [ha] at hC1
        rw [hb] at hC2
        rw [ha, hb, hq]
        have q0 : (b.quirks != b.quirks) = false := by simp
        refine dcalls_of_vc Tryz.func52 hn52 hc52 (by rw [Tryz.ntmps52]; simp) (by rw [Tryz.ntmps52]; decide) ?_
        simp -dsimp -implicitDefEqProofs (disch := omega) only [VCA, Nat.reduceEqDiff, Nat.reduceAdd, ↓reduceIte, c52, eDoc, hq]
        repeat' (first | ((with_reducible refine brC (fun _ => ?_) fun _ => ?_) <;> try (exfalso; omega)) | (with_reducible apply pcallE.of; · exact hC1) | (with_reducible apply pcallE.of; · exact hC2) | (with_reducible apply pcallE.of; · exact hT1) | (with_reducible apply pcallE.of; · exact hT2) | (with_reducible apply pcallE.of; · exact hS) | (with_reducible refine And.intro ?_ ?_; · omega) | simp -dsimp -implicitDefEqProofs (disch := omega) only [↓vcOps_sp 13, ↓vcOps_sp 18, VCA, Nat.reduceEqDiff, Nat.reduceAdd, Nat.reduceLT, ↓reduceIte, exists_eq_right_right])
        · rename_i hx; exact absurd rfl hx
        · rename_i hx
          have hb0 : (treeD a == treeD b) = false := beq_eq_false_iff_ne.2 hx
          exact ⟨Sub.refl _, by rw [hb0]; simp⟩
        · rename_i hx
          have lE : (treeL a).length = (treeL b).length := by rw [lA, lB, hx]
          have hb1 : ∀ c : Bool, (0 == (0 : Int) && 0 == (0 : Int) && b.quirks == b.quirks && treeD a == treeD b && c) = c := fun c => by rw [hx]; simp
          refine LoopVC.intro (fun m e h' => ∃ k : Nat, k ≤ (treeL a).length ∧ m = (treeL a).length - k ∧ e 5 = sl eNode (treeL a) ∧ e 7 = sl eNode (treeL b) ∧ e 9 = aInt k ∧ h' = h ∧ ∀ j, j < k → nth (treeL a) j = nth (treeL b) j) (treeL a).length ⟨0, by omega, by omega, rfl, rfl, rfl, rfl, fun j hj => absurd hj (Nat.not_lt_zero j)⟩ ?_
          rintro m e h' ⟨k, hk, rfl, he5, he7, he9, rfl, hj⟩
          simp -dsimp -implicitDefEqProofs (disch := omega) only [VCA, Nat.reduceEqDiff, ↓reduceIte, he5, he9]
          refine Br.dec (fun hlt => ?_) (fun hge => ?_)
          · have hNk := hN k
            obtain ⟨x, hx1⟩ : ∃ x, nth (treeL a) k = x := ⟨_, rfl⟩
            obtain ⟨y, hy1⟩ : ∃ y, nth (treeL b) k = y := ⟨_, rfl⟩
            rw [hx1, hy1] at hNk
            simp only [eNode] at hNk
            have k1 : (k : Int) < (treeL b).length := by omega
            have k0 : (0 : Int) ≤ k := by omega
            repeat' (first | ((with_reducible refine brC (fun _ => ?_) fun _ => ?_) <;> try (exfalso; omega)) | (with_reducible apply pcallE.of; · exact hNk) | (with_reducible refine And.intro ?_ ?_; · omega) | simp -dsimp -implicitDefEqProofs (disch := omega) only [VCA, Nat.reduceEqDiff, Nat.reduceAdd, ↓reduceIte, rsOf, rootsOf, exists_eq_right_right, rootL, he5, he7, he9, hx1, hy1, eNode, hlt, k0, k1])
            · rename_i hne
              have hb0 : (treeL a == treeL b) = false := beq_eq_false_iff_ne.2 fun e => hne (by rw [← hx1, ← hy1, e])
              exact ⟨Sub.refl _, by rw [hb1, hb0]⟩
            · rename_i hxy
              refine ⟨_, ?_, k + 1, by omega, rfl, by omega, fun j hj' => ?_⟩
              · omega
              · by_cases h3 : j = k
                · subst h3; rw [hx1, hy1]; exact hxy
                · exact hj j (by omega)
          · simp -dsimp -implicitDefEqProofs (disch := omega) only [VCA, ↓reduceIte, exists_eq_right_right]
            have : treeL a = treeL b := ext_nth lE (fun j hj' => hj j (by omega))
            rw [hb1, this]
            exact ⟨Sub.refl _, by simp⟩
      · have hb0 : (a.quirks == b.quirks) = false := beq_eq_false_iff_ne.2 hq
        have hb1 : (a.quirks != b.quirks) = true := by rw [bne, hb0]; rfl
        rw [ha] at hC1
        rw [hb] at hC2
        rw [ha, hb, hb0]
        refine dcalls_of_vc Tryz.func52 hn52 hc52 (by rw [Tryz.ntmps52]; simp) (by rw [Tryz.ntmps52]; decide) ?_
        simp -dsimp -implicitDefEqProofs (disch := omega) only [VCA, Nat.reduceEqDiff, Nat.reduceAdd, ↓reduceIte, c52, eDoc]
        repeat' (first | ((with_reducible refine brC (fun _ => ?_) fun _ => ?_) <;> try (exfalso; omega)) | (with_reducible apply pcallE.of; · exact hC1) | (with_reducible apply pcallE.of; · exact hC2) | (with_reducible refine And.intro ?_ ?_; · omega) | simp -dsimp -implicitDefEqProofs (disch := omega) only [↓vcOps_sp 13, ↓vcOps_sp 18, VCA, Nat.reduceEqDiff, Nat.reduceAdd, ↓reduceIte, exists_eq_right_right])
        · exact ⟨Sub.refl _, by simp⟩
        · rename_i hx; exact absurd hx hq
    · have hb0 : (docE b == 0) = false := beq_eq_false_iff_ne.2 hb
      have hb1 : (docE b != 0) = true := by rw [bne, hb0]; rfl
      rw [ha] at hC1
      rw [ha, hb0]
      refine dcalls_of_vc Tryz.func52 hn52 hc52 (by rw [Tryz.ntmps52]; simp) (by rw [Tryz.ntmps52]; decide) ?_
      simp -dsimp -implicitDefEqProofs (disch := omega) only [VCA, Nat.reduceEqDiff, Nat.reduceAdd, ↓reduceIte, c52, eDoc]
      repeat' (first | ((with_reducible refine brC (fun _ => ?_) fun _ => ?_) <;> try (exfalso; omega)) | (with_reducible apply pcallE.of; · exact hC1) | (with_reducible apply pcallE.of; · exact hC2) | (with_reducible refine And.intro ?_ ?_; · omega) | simp -dsimp -implicitDefEqProofs (disch := omega) only [↓vcOps_sp 13, ↓vcOps_sp 18, VCA, Nat.reduceEqDiff, Nat.reduceAdd, ↓reduceIte, exists_eq_right_right, hb1])
      exact ⟨Sub.refl _, by simp⟩
  · have hb0 : (docE a == 0) = false := beq_eq_false_iff_ne.2 ha
    have hb1 : (docE a != 0) = true := by rw [bne, hb0]; rfl
    rw [hb0]
    refine dcalls_of_vc Tryz.func52 hn52 hc52 (by rw [Tryz.ntmps52]; simp) (by rw [Tryz.ntmps52]; decide) ?_
    simp -dsimp -implicitDefEqProofs (disch := omega) only [VCA, Nat.reduceEqDiff, Nat.reduceAdd, ↓reduceIte, c52, eDoc]
    repeat' (first | ((with_reducible refine brC (fun _ => ?_) fun _ => ?_) <;> try (exfalso; omega)) | (with_reducible apply pcallE.of; · exact hC1) | (with_reducible refine And.intro ?_ ?_; · omega) | simp -dsimp -implicitDefEqProofs (disch := omega) only [↓vcOps_sp 13, ↓vcOps_sp 18, VCA, Nat.reduceEqDiff, ↓reduceIte, exists_eq_right_right, hb1])
    exact ⟨Sub.refl _, by simp⟩
end Go.Proofs.K
end
section
set_option linter.unusedSimpArgs false
set_option linter.unusedVariables false
namespace Go.Proofs.K
open Go Go.Sim Go.Proofs
variable {G : Glob}
def orderD (d : HDoc) : List Int := if docE d = 0 then below d 0 else []
theorem order2_ok (d : HDoc) (sm : DocSm d) : PCalls (Pg G) 95 [.agg (eDoc d)] (.tup [sl eInt (orderD d), aInt (docE d)]) := by
  by_cases h1 : docE d = 0
  · have h := domOrder_ok (G := G) d (docE_DV h1) h1 sm
    unfold orderD
    rw [if_pos h1, h1]
    exact h
  · intro h
    have hC := check_ok (G := G) d sm
    refine DCalls.res (K := fun a h' => a = .tup [.emp, aInt (docE d)] ∧ h' = h) ?_ ?_
    · refine dcalls_of_vc Tryz.func95 hn95 hc95 (by rw [Tryz.ntmps95]; simp) (by rw [Tryz.ntmps95]; decide) ?_
      simp -dsimp -implicitDefEqProofs (disch := omega) only [VCA, Nat.reduceEqDiff, ↓reduceIte, c95, eDoc_len, eDoc_take]
      repeat' (first | ((with_reducible refine brC (fun _ => ?_) fun _ => ?_) <;> try (exfalso; omega)) | (with_reducible apply pcallE.of; · exact hC) | (with_reducible refine And.intro ?_ ?_; · omega) | simp -dsimp -implicitDefEqProofs (disch := omega) only [VCA, Nat.reduceEqDiff, ↓reduceIte, exists_eq_right])
      all_goals exact Sub.refl _
    · rintro a h' ⟨rfl, rfl⟩
      exact ⟨_, Wk.tup' (.cons (by unfold orderD; rw [if_neg h1]; exact .emp) (.cons (.refl _) .nil)), rfl, rfl⟩
end Go.Proofs.K
end
section
set_option linter.unusedSimpArgs false
set_option linter.unusedVariables false
namespace Go.Proofs.K
open Go Go.Sim Go.Proofs
variable {G : Glob}
def noN : HNode := ⟨0, [], [], [], 0, []⟩
def diffL : List HEdit := [⟨6, 1, 0, 0, [], [], noN⟩, ⟨4, 0, 0, 0, [], [], ⟨2, [102, 111, 114, 109], [], [], 0, []⟩⟩, ⟨4, 0, 0, 0, [], [], ⟨2, [105, 110, 112, 117, 116], [⟨[110, 97, 109, 101], [113]⟩, ⟨[118, 97, 108, 117, 101], [97, 32, 98]⟩], [], 0, []⟩⟩, ⟨5, 3, 4, -1, [], [], noN⟩, ⟨5, 0, 3, -1, [], [], noN⟩]
theorem diffL_sm : ∀ e ∈ diffL, EditSm e := by
  intro e he
  simp only [diffL, List.mem_cons, List.mem_nil_iff, or_false] at he
  rcases he with rfl | rfl | rfl | rfl | rfl <;> exact ⟨by decide, by decide, ⟨by decide, by decide, by decide, by decide, by decide⟩⟩
theorem diff_cells : F2 (F2 Vz) [rRem 1, rMake (nd formD 1), rMake (nd formD 2), rIns 3 4 (-1), rIns 0 3 (-1)] (diffL.map eEdit) := by
  have vr : ∀ a : AVal, Vz a a := Vz.refl
  exact .cons (.cons (vr _) (.cons (vr _) (.cons (vr _) (.cons (vr _) (.cons (vr _) (.cons (vr _) (.cons (vr _) (.cons (vr _) (.cons .emp (.cons (vr _) (.cons (vr _) (.cons .emp .nil))))))))))))
    (.cons (.cons (vr _) (.cons (vr _) (.cons (vr _) (.cons (vr _) (.cons (vr _) (.cons (vr _) (.cons (vr _) (.cons (vr _) (.cons (vr _) (.cons (vr _) (.cons (vr _) (.cons .emp .nil))))))))))))
    (.cons (.cons (vr _) (.cons (vr _) (.cons (vr _) (.cons (vr _) (.cons (vr _) (.cons (vr _) (.cons (vr _) (.cons (vr _) (.cons (vr _) (.cons (vr _) (.cons (vr _) (.cons .emp .nil))))))))))))
    (.cons (.cons (vr _) (.cons (vr _) (.cons (vr _) (.cons (vr _) (.cons (vr _) (.cons (vr _) (.cons (vr _) (.cons (vr _) (.cons .emp (.cons (vr _) (.cons (vr _) (.cons .emp .nil))))))))))))
    (.cons (.cons (vr _) (.cons (vr _) (.cons (vr _) (.cons (vr _) (.cons (vr _) (.cons (vr _) (.cons (vr _) (.cons (vr _) (.cons .emp (.cons (vr _) (.cons (vr _) (.cons .emp .nil)))))))))))) .nil))))
theorem diff_is : docE oneD = 0 ∧ docE formD = 0 ∧ (orderD formD).length = 3 := by decide +kernel
theorem diff_run : patE oneD diffL = 0 ∧ sameTreeM (patR oneD diffL) formD = true := by decide +kernel
def c50 : SFun := ⟨.seq (.reg [⟨some 2, .boxF 24 2 (.t 0), none⟩, ⟨some 3, .boxF 24 2 (.t 1), none⟩, ⟨some 4, .mv (.c .emp), none⟩, ⟨some 5, .mv (.c (.int .i64 0)), none⟩]) (.seq (.seq (.reg [⟨some 10, .ld 2 true (.t 2), none⟩, ⟨some 11, .pcall 47 [.t 10], none⟩, ⟨some 6, .mv (.t 11), none⟩]) (.seq (.reg [⟨some 12, .mv (.t 6), none⟩, ⟨some 13, .bin .neq (.t 12) (.c (.int .i64 0)), none⟩]) (.cond (.t 13) (.seq (.reg [⟨some 14, .mv (.t 6), none⟩, ⟨some 4, .mv (.c .emp), none⟩, ⟨some 5, .mv (.t 14), none⟩]) .ret) .skip))) (.seq (.reg [⟨some 16, .ld 2 true (.t 3), none⟩, ⟨some 17, .pcall 95 [.t 16], none⟩, ⟨some 15, .mv (.t 17), none⟩, ⟨some 18, .ext (.t 15) 0, none⟩, ⟨some 19, .ext (.t 15) 1, none⟩, ⟨some 7, .mv (.t 18), none⟩, ⟨some 8, .mv (.t 19), none⟩]) (.seq (.seq (.reg [⟨some 20, .mv (.t 8), none⟩, ⟨some 21, .bin .eql (.t 20) (.c (.int .i64 0)), none⟩, ⟨some 22, .mv (.t 21), none⟩, ⟨some 23, .fldA 0 (.t 2), some (22, true)⟩, ⟨some 24, .ld 1 false (.t 23), some (22, true)⟩, ⟨some 25, .len (.t 24), some (22, true)⟩, ⟨some 26, .mv (.t 7), some (22, true)⟩, ⟨some 27, .len (.t 26), some (22, true)⟩, ⟨some 28, .bin .add (.t 25) (.t 27), some (22, true)⟩, ⟨some 29, .bin .gtr (.t 28) (.c (.int .i64 200)), some (22, true)⟩, ⟨some 30, .pick (.t 22) (.t 29) (.c (.bool false)), none⟩]) (.cond (.t 30) (.reg [⟨some 8, .mv (.c (.int .i64 2)), none⟩]) .skip)) (.seq (.seq (.reg [⟨some 31, .mv (.t 8), none⟩, ⟨some 32, .bin .neq (.t 31) (.c (.int .i64 0)), none⟩]) (.cond (.t 32) (.seq (.reg [⟨some 33, .mv (.t 8), none⟩, ⟨some 4, .mv (.c .emp), none⟩, ⟨some 5, .mv (.t 33), none⟩]) .ret) .skip)) (.seq (.reg [⟨some 34, .ld 2 true (.t 2), none⟩, ⟨some 35, .ld 2 true (.t 3), none⟩, ⟨some 36, .fldA 0 (.t 2), none⟩, ⟨some 37, .ld 1 false (.t 36), none⟩, ⟨some 38, .len (.t 37), none⟩, ⟨some 39, .bld [.emp, .bool false, .emp, .bool false, .emp, .int .i64 0] [(0, (2, (.t 34))), (2, (2, (.t 35))), (5, (1, (.t 38)))], none⟩, ⟨some 40, .box 131 6 (.t 39), none⟩, ⟨some 9, .mv (.t 40), none⟩]) (.seq (.reg [⟨some 41, .mv (.t 9), none⟩, ⟨some 42, .call (.c (.fn 96 [] [])) [.t 41, .c (.int .i64 0), .c (.int .i64 0)], none⟩]) (.seq (.reg [⟨some 43, .mv (.t 9), none⟩, ⟨some 44, .fldA 0 (.t 43), none⟩, ⟨some 45, .fldA 4 (.t 44), none⟩, ⟨some 46, .ld 1 false (.t 45), none⟩, ⟨some 4, .mv (.t 46), none⟩, ⟨some 5, .mv (.c (.int .i64 0)), none⟩]) .ret))))))), [.tmp 4, .tmp 5]⟩
theorem hc50 : toSF Tryz.prog {pure := [47, 95], how := [(40, 6)]} Tryz.f50 = some c50 := by kernel_rfl
theorem hn50 : (Tryz.f50.name == "runtime.NumGoroutine") = false := by kernel_rfl
set_option maxRecDepth 10000 in
theorem diff_ok : PCalls (Pg G) 50 [.agg (eDoc oneD), .agg (eDoc formD)] (.tup [sl eEdit diffL, aInt 0]) := PCalls.outV fun h => by
  have hC := check_ok (G := G) oneD oneD_sm
  have hO := order2_ok (G := G) formD formD_sm
  obtain ⟨b1, b2, b3⟩ := diff_is
  rw [b1] at hC
  rw [b2] at hO
  simp only [eDoc] at hC hO
  have lO : oneD.nodes.length = 3 := rfl
  obtain ⟨L, hL⟩ : ∃ L, orderD formD = L := ⟨_, rfl⟩
  rw [hL] at hO b3
  refine dcalls_of_vc Tryz.func50 hn50 hc50 (by rw [Tryz.ntmps50]; simp) (by rw [Tryz.ntmps50]; decide) ?_
  simp -dsimp -implicitDefEqProofs (disch := omega) only [VCA, Nat.reduceEqDiff, Nat.reduceAdd, ↓reduceIte, c50, eDoc]
  repeat' (first | ((with_reducible refine brC (fun _ => ?_) fun _ => ?_) <;> try (exfalso; omega)) | (with_reducible apply pcallE.of; · exact hC) | (with_reducible apply pcallE.of; · exact hO) | (with_reducible refine And.intro ?_ ?_; · omega) | simp -dsimp -implicitDefEqProofs (disch := omega) only [↓vcOps_sp 22, VCA, Nat.reduceEqDiff, Nat.reduceAdd, Nat.reduceLT, Nat.reduceLeDiff, ↓reduceIte, fillA, okFill, lO, b3])
  all_goals try (exfalso; omega)
  intro r hr
  have D0 : Df h (upd h r (some ⟨.t 131, 6, [[sl eNode oneD.nodes, .bool oneD.quirks, sl eNode formD.nodes, .bool formD.quirks, .emp, aInt 3]]⟩)) r oneD formD [] 3 .emp :=
    ⟨(Sub.refl h).upd hr, .inl ⟨rfl, rfl⟩, (fun _ e => by cases e), upd_same _ _ _, hr, (fun _ e => by cases e)⟩
  refine DCalls.of (pnode_ok (G := G) D0) ?_
  rintro _ h' ⟨rfl, o, D⟩
  have gw := D.w
  have oo := D.own.isV
  have o1 := oo.1
  have o2 := oo.2
  simp -dsimp -implicitDefEqProofs (disch := omega) only [VCA, Nat.reduceEqDiff, Nat.reduceAdd, Nat.reduceLT, Nat.reduceLeDiff, ↓reduceIte, exists_eq_left', gw]
  have n : ∀ t, rootOf o = some t → newH h h' t = h' t := fun t ht => newH_none (D.new.2 t ht).1
  refine ⟨h', Sub.refl _, D.sub, .tup' (.cons ?_ (.cons (.refl _) .nil))⟩
  exact OwnS.vwk (D.own.keep fun t ob ht ho => by rw [n t ht]; exact ho) D.live diff_cells
def c22 : SFun := ⟨.seq (.reg [⟨some 0, .mv (.c (.bool false)), none⟩]) (.seq (.reg [⟨some 6, .pcall 42 [], none⟩, ⟨some 7, .pcall 51 [], none⟩, ⟨some 8, .pcall 50 [.t 6, .t 7], none⟩, ⟨some 5, .mv (.t 8), none⟩, ⟨some 9, .ext (.t 5) 0, none⟩, ⟨some 10, .ext (.t 5) 1, none⟩, ⟨some 1, .mv (.t 9), none⟩, ⟨some 2, .mv (.t 10), none⟩]) (.seq (.reg [⟨some 12, .pcall 42 [], none⟩, ⟨some 13, .mv (.t 1), none⟩, ⟨some 14, .pcall 20 [.t 12, .t 13], none⟩, ⟨some 11, .mv (.t 14), none⟩, ⟨some 15, .ext (.t 11) 0, none⟩, ⟨some 16, .ext (.t 11) 1, none⟩, ⟨some 3, .new 24 2 [.emp, .bool false], none⟩, ⟨none, .st 2 (.t 3) (.t 15), none⟩, ⟨some 4, .mv (.t 16), none⟩]) (.seq (.dreg [(⟨some 17, .mv (.t 2), none⟩, none), (⟨some 18, .bin .eql (.t 17) (.c (.int .i64 0)), none⟩, none), (⟨some 19, .mv (.t 18), none⟩, none), (⟨some 20, .mv (.t 1), some (19, true)⟩, none), (⟨some 21, .len (.t 20), some (19, true)⟩, none), (⟨some 22, .bin .gtr (.t 21) (.c (.int .i64 0)), some (19, true)⟩, none), (⟨some 23, .pick (.t 19) (.t 22) (.c (.bool false)), none⟩, none), (⟨some 24, .mv (.t 23), none⟩, none), (⟨some 25, .mv (.t 4), some (24, true)⟩, none), (⟨some 26, .bin .eql (.t 25) (.c (.int .i64 0)), some (24, true)⟩, none), (⟨some 27, .pick (.t 24) (.t 26) (.c (.bool false)), none⟩, none), (⟨some 28, .mv (.t 27), none⟩, none), (⟨some 29, .ld 2 true (.t 3), some (28, true)⟩, none), (⟨some 30, .pcall 51 [], some (28, true)⟩, none), (⟨some 31, .pcall 52 [.t 29, .t 30], some (28, true)⟩, none), (⟨some 32, .pick (.t 28) (.t 31) (.c (.bool false)), none⟩, none), (⟨some 0, .mv (.t 32), none⟩, none)]) .ret))), [.tmp 0]⟩
theorem hc22 : toSF Tryz.prog {pure := [42, 51, 50, 20, 52]} Tryz.f22 = some c22 := by kernel_rfl
theorem hn22 : (Tryz.f22.name == "runtime.NumGoroutine") = false := by kernel_rfl
theorem patchBegun_ok : PCalls (Pg G) 22 [] (.bool true) := fun h => by
  obtain ⟨b1, b2⟩ := diff_run
  have hP := oneP_ok (G := G)
  have hF := oneForm_ok (G := G)
  have hD := diff_ok (G := G)
  have hR := patRun_ok (G := G) oneD oneD_sm diffL diffL_sm (by decide)
  have sm := patR_sm oneD_sm diffL_sm
  unfold patV at hR
  rw [b1] at hR
  obtain ⟨Z, hZ⟩ : ∃ Z, patR oneD diffL = Z := ⟨_, rfl⟩
  rw [hZ] at hR sm b2
  have hS := sameTree_ok (G := G) Z formD sm formD_sm
  rw [b2] at hS
  have lD : diffL.length = 5 := rfl
  refine dcalls_of_vc Tryz.func22 hn22 hc22 (by rw [Tryz.ntmps22]; simp) (by rw [Tryz.ntmps22]; decide) ?_
  simp -dsimp -implicitDefEqProofs (disch := omega) only [VCA, c22]
  repeat' (first | ((with_reducible refine brC (fun _ => ?_) fun _ => ?_) <;> try (exfalso; omega)) | (with_reducible apply pcallE.of; · exact hP) | (with_reducible apply pcallE.of; · exact hF) | (with_reducible apply pcallE.of; · exact hD) | (with_reducible apply pcallE.of; · exact hR) | (with_reducible refine And.intro ?_ ?_; · omega) | simp -dsimp -implicitDefEqProofs (disch := omega) only [↓vcD_sp 19, VCA, Nat.reduceEqDiff, Nat.reduceAdd, Nat.reduceLT, ↓reduceIte, rsOf, rootsOf, setAt, exists_eq_left', rootL])
  intro r hr
  repeat' (first | ((with_reducible refine brC (fun _ => ?_) fun _ => ?_) <;> try (exfalso; omega)) | (with_reducible apply pcallE.of; · exact hF) | (with_reducible apply pcallE.of; · exact hS) | (with_reducible refine And.intro ?_ ?_; · omega) | simp -dsimp -implicitDefEqProofs (disch := omega) only [↓vcD_sp 24, ↓vcD_sp 28, VCA, Nat.reduceEqDiff, Nat.reduceLT, ↓reduceIte, rsOf, rootsOf, exists_eq_right, exists_eq_left', rootL, lD, eDoc_len, eDoc_take])
  exact (Sub.refl h).upd hr
def c5 : SFun := ⟨.seq (.reg [⟨some 2, .box 24 2 (.t 0), none⟩, ⟨some 4, .mv (.c (.bool false)), none⟩]) (.seq (.dreg [(⟨some 9, .ld 2 true (.t 2), none⟩, none), (⟨some 10, .pcall 10 [.t 9, .c (.int .i64 40)], none⟩, none), (⟨some 11, .mv (.t 1), none⟩, none), (⟨some 12, .mv (.t 1), none⟩, none), (⟨some 13, .len (.t 12), none⟩, none), (⟨some 14, .min2 (.t 13) (.c (.int .i64 90)), none⟩, none), (⟨some 15, .slA 12 (.t 11) none (some (.t 14)), none⟩, none), (⟨none, .st 2 (.t 2) (.t 10), none⟩, (some [9])), (⟨some 1, .mv (.t 15), none⟩, (some [9]))]) (.seq (.reg [⟨some 17, .ld 2 true (.t 2), none⟩, ⟨some 18, .mv (.t 1), none⟩, ⟨some 19, .pcall 20 [.t 17, .t 18], none⟩, ⟨some 16, .mv (.t 19), none⟩, ⟨some 20, .ext (.t 16) 0, none⟩, ⟨some 21, .ext (.t 16) 1, none⟩, ⟨some 5, .new 24 2 [.emp, .bool false], none⟩, ⟨none, .st 2 (.t 5) (.t 20), none⟩, ⟨some 6, .mv (.t 21), none⟩]) (.seq (.reg [⟨some 23, .ld 2 true (.t 2), none⟩, ⟨some 24, .mv (.t 1), none⟩, ⟨some 25, .pcall 21 [.t 23, .t 24], none⟩, ⟨some 22, .mv (.t 25), none⟩, ⟨some 26, .ext (.t 22) 0, none⟩, ⟨some 27, .ext (.t 22) 1, none⟩, ⟨some 7, .new 24 2 [.emp, .bool false], none⟩, ⟨none, .st 2 (.t 7) (.t 26), none⟩, ⟨some 8, .mv (.t 27), none⟩]) (.seq (.reg [⟨some 28, .pcall 22 [], none⟩, ⟨some 29, .mv (.t 28), none⟩, ⟨some 30, .ld 2 true (.t 5), some (29, true)⟩, ⟨some 31, .ld 2 true (.t 7), some (29, true)⟩, ⟨some 32, .pcall 14 [.t 30, .t 31], some (29, true)⟩, ⟨some 33, .pick (.t 29) (.t 32) (.c (.bool false)), none⟩, ⟨some 34, .mv (.t 33), none⟩, ⟨some 35, .mv (.t 6), some (34, true)⟩, ⟨some 36, .mv (.t 8), some (34, true)⟩, ⟨some 37, .bin .eql (.t 35) (.t 36), some (34, true)⟩, ⟨some 38, .pick (.t 34) (.t 37) (.c (.bool false)), none⟩, ⟨some 4, .mv (.t 38), none⟩]) .ret)))), [.tmp 4]⟩
theorem hc5 : toSF Tryz.prog {pure := [10, 22, 20, 21, 14], how := [(2, 6)]} Tryz.f5 = some c5 := by kernel_rfl
theorem hn5 : (Tryz.f5.name == "runtime.NumGoroutine") = false := by kernel_rfl
theorem patchRuns_ok (d : HDoc) (sm : DocSm d) (l : List HEdit) (hl : ∀ e ∈ l, EditSm e) (ll : l.length ≤ 1073741824) : PCalls (Pg G) 5 [.agg (eDoc d), sl eEdit l] (.bool true) := fun h => by
  have hF : PCalls (Pg G) 10 [.agg (eDoc d), .int .i64 40] (.agg (eDoc ⟨d.nodes.take 40, d.quirks⟩)) := few_ok (G := G) d 40 sm
  have fs := sm.few 40
  generalize (⟨d.nodes.take 40, d.quirks⟩ : HDoc) = f at *
  obtain ⟨L, hL⟩ : ∃ L, l.take (min (l.length : Int) 90).toNat = L := ⟨_, rfl⟩
  have hm : ∀ e ∈ L, EditSm e := fun e he => hl e (List.mem_of_mem_take (hL ▸ he))
  have ml : L.length ≤ 1073741824 := by rw [← hL, List.length_take]; omega
  have hA := patRun_ok (G := G) f fs L hm ml
  have hE := patchRun_ok (G := G) f fs L hm ml
  have asm := patR_sm fs hm
  unfold patV at hA hE
  generalize patR f L = D at *
  generalize patE f L = X at *
  have hS2 : PCalls (Pg G) 14 [.agg (eDoc D), .agg (eDoc D)] (.bool true) := by
    have h := sameDoc_ok (G := G) D D asm asm
    rwa [show (D == D) = true by simp] at h
  have hB := patchBegun_ok (G := G)
  have n2 : (X == X) = true := by simp
  refine dcalls_of_vc Tryz.func5 hn5 hc5 (by rw [Tryz.ntmps5]; simp) (by rw [Tryz.ntmps5]; decide) ?_
  simp -dsimp -implicitDefEqProofs (disch := omega) only [VCA, Nat.reduceEqDiff, Nat.reduceLT, ↓reduceIte, rsOf, rootsOf, exists_eq_left', rootL, c5, eDoc_len, eDoc_take]
  intro r2 hr2
  repeat' (first | ((with_reducible refine brC (fun _ => ?_) fun _ => ?_) <;> try (exfalso; omega)) | (with_reducible apply pcallE.of; · exact hF) | (with_reducible apply pcallE.of; · exact hA) | (with_reducible refine And.intro ?_ ?_; · omega) | simp -dsimp -implicitDefEqProofs (disch := omega) only [VCA, ↓upd_none, Nat.reduceEqDiff, Nat.reduceBEq, Nat.reduceAdd, Nat.reduceLT, ↓reduceIte, rsOf, rootsOf, SOp.rd, SI.rd, SX.rd, setAt, ne_eq, exists_eq_left', rootL, eDoc_len, eDoc_take, eDoc_dr, hL])
  intro r5 hr5
  have m1 : ¬ r5 = r2 := hr5.1
  have m2 : ¬ r2 = r5 := fun h => m1 h.symm
  repeat' (first | ((with_reducible refine brC (fun _ => ?_) fun _ => ?_) <;> try (exfalso; omega)) | (with_reducible apply pcallE.of; · exact hE) | (with_reducible refine And.intro ?_ ?_; · omega) | simp -dsimp -implicitDefEqProofs (disch := omega) only [VCA, ↓upd_none, Nat.reduceEqDiff, Nat.reduceAdd, Nat.reduceLT, ↓reduceIte, setAt, ne_eq, exists_eq_left', eDoc_len, eDoc_take, m2])
  intro r9 hr9
  have k1 : ¬ r9 = r2 := hr9.2.1
  have k2 : ¬ r2 = r9 := fun h => k1 h.symm
  have k3 : ¬ r9 = r5 := hr9.1
  have k4 : ¬ r5 = r9 := fun h => k3 h.symm
  repeat' (first | ((with_reducible refine brC (fun _ => ?_) fun _ => ?_) <;> try (exfalso; omega)) | (with_reducible apply pcallE.of; · exact hB) | (with_reducible apply pcallE.of; · exact hS2) | (with_reducible refine And.intro ?_ ?_; · omega) | simp -dsimp -implicitDefEqProofs (disch := omega) only [↓vcOps_sp 29, ↓vcOps_sp 34, VCA, Nat.reduceEqDiff, Nat.reduceLT, ↓reduceIte, exists_eq_right, exists_eq_left', eDoc_len, eDoc_take, n2, k4])
  all_goals exact (((Sub.refl h).upd hr2).upd hr5.2).upd hr9.2.2
end Go.Proofs.K
end
