/- Texts of this claim, one behind the other. -/
import Derived.Test.YtoolkpnnllfhgaaDoorM5
section
set_option linter.unusedSimpArgs false
set_option linter.unusedVariables false
namespace Go.Proofs.K
open Go Go.Sim Go.Proofs
variable {G : Glob}
theorem Dw.mono {X : List Nat} {h0 h h2 : Heap} {rN : Nat} {d : HDoc} {sl : Nat → AVal} (E : Dw X h0 h rN d sl) (S : Sim.Sub h h2) : Dw X h0 h2 rN d sl :=
  ⟨E.sub.trans S, S _ _ E.nodes, E.new, fun i hi => ⟨(E.own i hi).1.keep fun r o _ ho => S _ _ ho, (E.own i hi).2.keep fun r o _ ho => S _ _ ho⟩, E.fresh, E.sep, fun r hr => by obtain ⟨o, ho⟩ := E.keep r hr; exact ⟨o, S _ _ ho⟩⟩
theorem Ed.mono {h0 h h2 : Heap} {re rN : Nat} {d : HDoc} {sl : Nat → AVal} {made : Int} (E : Ed h0 h re rN d sl made) (S : Sim.Sub h h2) : Ed h0 h2 re rN d sl made := ⟨E.dw.mono S, S _ _ E.ed, E.new, E.live⟩
def c121_s6 : SCode := (.seq (.dreg [(⟨some 97, .mv (.t 5), none⟩, none), (⟨some 98, .mv (.t 5), none⟩, none), (⟨some 99, .fldA 0 (.t 98), none⟩, none), (⟨some 100, .fldA 5 (.t 99), none⟩, none), (⟨some 101, .ld 1 false (.t 100), none⟩, none), (⟨some 102, .mv (.t 7), none⟩, none), (⟨some 103, .fldA 2 (.t 3), none⟩, none), (⟨some 104, .ld 1 false (.t 103), none⟩, none), (⟨some 105, .bldR 3 1 [.t 104], none⟩, (some [104])), (⟨some 106, .call (.c (.fn 92 [] [])) [.t 101, .t 102, .t 105], none⟩, (some [101, 104])), (⟨some 107, .fldA 0 (.t 97), none⟩, none), (⟨some 108, .fldA 5 (.t 107), none⟩, none), (⟨none, .st 1 (.t 108) (.t 106), none⟩, (some [101, 104]))]) (.seq (.reg [⟨some 109, .mv (.t 6), none⟩, ⟨some 110, .fldA 1 (.t 3), none⟩, ⟨some 111, .ld 1 false (.t 110), none⟩, ⟨some 112, .fldA 0 (.t 109), none⟩, ⟨some 113, .fldA 4 (.t 112), none⟩, ⟨none, .st 1 (.t 113) (.t 111), none⟩]) (.seq (.reg [⟨some 4, .mv (.c (.int .i64 0)), none⟩]) .ret)))
def c121_s5 : SCode := (.seq (.block 1 (.seq (.reg [⟨some 73, .mv (.t 7), none⟩, ⟨some 74, .bin .lss (.t 73) (.c (.int .i64 0)), none⟩, ⟨some 72, .mv (.t 74), none⟩]) (.cond (.t 72) (.seq (.reg [⟨some 4, .mv (.c (.int .i64 5)), none⟩]) .ret) (.seq (.reg [⟨some 76, .mv (.t 0), none⟩, ⟨some 77, .fldA 1 (.t 3), none⟩, ⟨some 78, .ld 1 false (.t 77), none⟩, ⟨some 79, .fldA 2 (.t 3), none⟩, ⟨some 80, .ld 1 false (.t 79), none⟩, ⟨some 81, .call (.c (.fn 133 [] [])) [.t 76, .t 78, .t 80], none⟩, ⟨some 75, .mv (.t 81), none⟩]) (.cond (.t 75) (.seq (.reg [⟨some 4, .mv (.c (.int .i64 8)), none⟩]) .ret) (.seq (.dreg [(⟨some 83, .mv (.t 0), none⟩, none), (⟨some 84, .fldA 0 (.t 83), none⟩, none), (⟨some 85, .fldA 0 (.t 84), none⟩, none), (⟨some 86, .ld 2 true (.t 85), none⟩, none), (⟨some 87, .fldA 1 (.t 3), none⟩, none), (⟨some 88, .ld 1 false (.t 87), none⟩, none), (⟨some 91, .mv (.t 0), none⟩, none), (⟨some 92, .fldA 2 (.t 3), none⟩, none), (⟨some 93, .ld 1 false (.t 92), none⟩, none), (⟨some 89, .call (.c (.fn 73 [] [])) [.t 86, .t 88], none⟩, (some [86, 88])), (⟨some 90, .bin .add (.t 89) (.c (.int .i64 1)), none⟩, none), (⟨some 94, .call (.c (.fn 134 [] [])) [.t 91, .t 93], none⟩, (some [93, 86, 88])), (⟨some 95, .bin .add (.t 90) (.t 94), none⟩, none), (⟨some 96, .bin .gtr (.t 95) (.c (.int .i64 40)), none⟩, none), (⟨some 82, .mv (.t 96), none⟩, none)]) (.cond (.t 82) (.seq (.reg [⟨some 4, .mv (.c (.int .i64 2)), none⟩]) .ret) .skip))))))) c121_s6)
def c121 : SFun := ⟨.seq (.reg [⟨some 3, .boxF 101 12 (.t 1), none⟩, ⟨some 4, .mv (.c (.int .i64 0)), none⟩]) (.seq (.dreg [(⟨some 8, .mv (.t 0), none⟩, none), (⟨some 9, .fldA 1 (.t 3), none⟩, none), (⟨some 10, .ld 1 false (.t 9), none⟩, none), (⟨some 12, .mv (.t 0), none⟩, none), (⟨some 13, .fldA 2 (.t 3), none⟩, none), (⟨some 14, .ld 1 false (.t 13), none⟩, none), (⟨some 11, .call (.c (.fn 132 [] [])) [.t 8, .t 10], none⟩, (some [10])), (⟨some 15, .call (.c (.fn 132 [] [])) [.t 12, .t 14], none⟩, (some [14, 10])), (⟨some 5, .mv (.t 11), none⟩, none), (⟨some 6, .mv (.t 15), none⟩, none)]) (.seq (.block 0 (.seq (.reg [⟨some 17, .mv (.t 5), none⟩, ⟨some 18, .isnil 1 false (.t 17), none⟩, ⟨some 19, .mv (.t 18), none⟩, ⟨some 20, .mv (.t 6), some (19, false)⟩, ⟨some 21, .isnil 1 false (.t 20), some (19, false)⟩, ⟨some 22, .pick (.t 19) (.c (.bool true)) (.t 21), none⟩, ⟨some 16, .mv (.t 22), none⟩]) (.cond (.t 16) (.seq (.reg [⟨some 4, .mv (.c (.int .i64 5)), none⟩]) .ret) (.seq (.reg [⟨some 24, .mv (.t 5), none⟩, ⟨some 25, .fldA 0 (.t 24), none⟩, ⟨some 26, .fldA 0 (.t 25), none⟩, ⟨some 27, .ld 1 false (.t 26), none⟩, ⟨some 28, .pcall 113 [.t 27], none⟩, ⟨some 29, .un .not (.t 28), none⟩, ⟨some 30, .mv (.t 29), none⟩, ⟨some 31, .mv (.t 6), some (30, false)⟩, ⟨some 32, .fldA 0 (.t 31), some (30, false)⟩, ⟨some 33, .fldA 0 (.t 32), some (30, false)⟩, ⟨some 34, .ld 1 false (.t 33), some (30, false)⟩, ⟨some 35, .bin .eql (.t 34) (.c (.int .i64 1)), some (30, false)⟩, ⟨some 36, .pick (.t 30) (.c (.bool true)) (.t 35), none⟩, ⟨some 37, .mv (.t 36), none⟩, ⟨some 38, .mv (.t 5), some (37, false)⟩, ⟨some 39, .fldA 0 (.t 38), some (37, false)⟩, ⟨some 40, .fldA 0 (.t 39), some (37, false)⟩, ⟨some 41, .ld 1 false (.t 40), some (37, false)⟩, ⟨some 42, .bin .eql (.t 41) (.c (.int .i64 1)), some (37, false)⟩, ⟨some 43, .mv (.t 42), some (37, false)⟩, ⟨some 44, .mv (.t 6), some (43, true)⟩, ⟨some 45, .fldA 0 (.t 44), some (43, true)⟩, ⟨some 46, .fldA 0 (.t 45), some (43, true)⟩, ⟨some 47, .ld 1 false (.t 46), some (43, true)⟩, ⟨some 48, .bin .eql (.t 47) (.c (.int .i64 3)), some (43, true)⟩, ⟨some 49, .pick (.t 43) (.t 48) (.c (.bool false)), some (37, false)⟩, ⟨some 50, .pick (.t 37) (.c (.bool true)) (.t 49), none⟩, ⟨some 23, .mv (.t 50), none⟩]) (.cond (.t 23) (.seq (.reg [⟨some 4, .mv (.c (.int .i64 7)), none⟩]) .ret) (.seq (.reg [⟨some 52, .mv (.t 6), none⟩, ⟨some 53, .fldA 0 (.t 52), none⟩, ⟨some 54, .fldA 4 (.t 53), none⟩, ⟨some 55, .ld 1 false (.t 54), none⟩, ⟨some 56, .bin .geq (.t 55) (.c (.int .i64 0)), none⟩, ⟨some 51, .mv (.t 56), none⟩]) (.cond (.t 51) (.seq (.reg [⟨some 4, .mv (.c (.int .i64 9)), none⟩]) .ret) .skip))))))) (.seq (.reg [⟨some 57, .mv (.t 5), none⟩, ⟨some 58, .fldA 0 (.t 57), none⟩, ⟨some 59, .fldA 5 (.t 58), none⟩, ⟨some 60, .ld 1 false (.t 59), none⟩, ⟨some 61, .len (.t 60), none⟩, ⟨some 7, .mv (.t 61), none⟩]) (.seq (.seq (.reg [⟨some 62, .fldA 3 (.t 3), none⟩, ⟨some 63, .ld 1 false (.t 62), none⟩, ⟨some 64, .bin .neq (.t 63) (.c (.int .i64 (-1))), none⟩]) (.cond (.t 64) (.dreg [(⟨some 65, .mv (.t 5), none⟩, none), (⟨some 66, .fldA 0 (.t 65), none⟩, none), (⟨some 67, .fldA 5 (.t 66), none⟩, none), (⟨some 68, .ld 1 false (.t 67), none⟩, none), (⟨some 69, .fldA 3 (.t 3), none⟩, none), (⟨some 70, .ld 1 false (.t 69), none⟩, none), (⟨some 71, .call (.c (.fn 101 [] [])) [.t 68, .t 70], none⟩, (some [68, 70])), (⟨some 7, .mv (.t 71), none⟩, none)]) .skip)) c121_s5)))), [.tmp 4]⟩
theorem hc121 : toSF Tryd.prog {pure := [113], how := [(105, 2)]} Tryd.f121 = some c121 := by kernel_rfl
theorem hn121 : (Tryd.f121.name == "runtime.NumGoroutine") = false := by kernel_rfl
theorem einsert_ok {h0 h : Heap} {re rN : Nat} {d : HDoc} {sl : Nat → AVal} {made : Int} (E : Ed h0 h re rN d sl made) (V : DV d) (sm : DocSm d) (e : HEdit) (he : EditSm e) (hdo : e.do' = 5) : DCalls (Pg G) 121 [.vp re 0, .agg (eEdit e)] h (EdR h0 h re d e made) := by
  have gN := E.dw.nodes
  have gE := E.ed
  have ner := E.ne
  have vl := V.len
  have hE1 := enode_ok (G := G) E e.at'
  have hE2 := enode_ok (G := G) E e.to
  unfold nodeP at hE1 hE2
  have eE : editE d e = if ¬ inD d e.at' ∨ ¬ inD d e.to then 5
    else if ¬ ((nd d e.at').kind = 1 ∨ (nd d e.at').kind = 2) ∨ (nd d e.to).kind = 1 ∨ ((nd d e.at').kind = 1 ∧ (nd d e.to).kind = 3) then 7
    else if 0 ≤ (nd d e.to).parent then 9 else if e.before ≠ -1 ∧ e.before ∉ (nd d e.at').kids then 5 else if e.to ∈ chain d e.at' then 8
    else if 40 < up d e.at' + 1 + low d e.to then 2 else 0 := by unfold editE; rw [if_neg (by omega), if_neg (by omega), if_neg (by omega), if_neg (by omega), if_pos hdo]
  have eD : editD d e = hung d e.at' e.to (insAt d e) := by unfold editD; rw [if_neg (by omega), if_neg (by omega), if_neg (by omega), if_neg (by omega), if_pos hdo]
  have hm4 : made = if e.do' = 4 then (d.nodes.length : Int) else made := by rw [if_neg (by omega)]
  have s5 : inD d e.at' → inD d e.to → ((nd d e.at').kind = 1 ∨ (nd d e.at').kind = 2) → ¬ (nd d e.to).kind = 1 → ¬ 0 ≤ (nd d e.to).parent → ¬ (e.before ≠ -1 ∧ e.before ∉ (nd d e.at').kids) →
      editE d e = (if e.to ∈ chain d e.at' then 8 else if 40 < up d e.at' + 1 + low d e.to then 2 else 0) → ∀ env : Env, env 0 = .vp re 0 → env 3 = .pin (eEdit e) → env 5 = .ptr rN e.at'.toNat 0 → env 6 = .ptr rN e.to.toNat 0 → env 7 = aInt (insAt d e) →
      vc (Pg G) c121_s5 (retK [.tmp 4] (EdR h0 h re d e made)) env h := by
    intro ha ht hp h71 h9 hb eE env v0 v3 v5 v6 v7
    have ha' := ha.nat.1
    have ht' := ht.nat.1
    have a0 := ha.1
    have t0 := ht.1
    have hBe := (ebelow_ok (G := G) d V made e.at' e.to ha t0)
    have hBe2 : DCalls (Pg G) 133 [.vp re 0, aInt e.at', aInt e.to] h fun r h' => r = .bool (decide (e.to ∈ chain d e.at')) ∧ h' = h := DCalls.bor hBe (.bool _) (.cons E.vw (.cons (.refl _) (.cons (.refl _) .nil)))
    have hUp : DCalls (Pg G) 73 [.agg [.osl rN 6 0 d.nodes.length, .bool d.quirks], aInt e.at'] h fun r h' => r = aInt (up d e.at') ∧ h' = h := DCalls.bor (up_ok (G := G) d sm (fun n hn hp => (V.par_in hn hp).1) e.at' ha) (.int _ _) (.cons E.vwD (.cons (.refl _) .nil))
    have hDe : DCalls (Pg G) 134 [.vp re 0, aInt e.to] h fun r h' => r = aInt (low d e.to) ∧ h' = h := DCalls.bor (edeep_ok (G := G) d V sm made e.to ht) (.int _ _) (.cons E.vw (.cons (.refl _) .nil))
    have u40 := V.deep e.at' ha
    have l40 := low_40 V ht
    have s6 : e.to ∉ chain d e.at' → editE d e = 0 → ∀ env : Env, env 3 = .pin (eEdit e) → env 5 = .ptr rN e.at'.toNat 0 → env 6 = .ptr rN e.to.toNat 0 → env 7 = aInt (insAt d e) →
        vc (Pg G) c121_s6 (retK [.tmp 4] (EdR h0 h re d e made)) env h := by
      intro hc eE env v3 v5 v6 v7
      unfold c121_s6
      skip
      have ga := rowsA_get (sl := sl) ha'
      have gt := rowsA_get (sl := sl) ht'
      have rl := rowsA_len d sl
      have e0 : nth d.nodes e.at'.toNat = nd d e.at' := rfl
      have e1 : nth d.nodes e.to.toNat = nd d e.to := rfl
      rw [e0] at ga
      rw [e1] at gt
      unfold rowA at ga gt
      have kl := (sm.nd e.at').kids
      have lv := E.live (2 * e.at'.toNat + 1) (by omega)
      have hne : e.at' ≠ e.to := fun h => hc (by rw [h]; exact chain_self _ _)
      have hnn : e.at'.toNat ≠ e.to.toNat := by omega
      have hIl : insAt d e ≤ (nd d e.at').kids.length := by
        unfold insAt
        have := idxM_leK (nd d e.at').kids e.before
        split <;> omega
      have nr0 : ∀ t, rootOf (sl (2 * e.at'.toNat + 1)) = some t → t ≠ rN := fun t ht => (E.root_ne (by omega) ht).1
      have kb : (nd d e.at').kids.length ≤ 100000 := by
        have := nodup_len d.nodes.length (nd d e.at').kids (V.nodup _ ha) (fun k hk => (V.kid _ ha k hk).1)
        omega
      simp -dsimp -implicitDefEqProofs (disch := omega) only [↓vcOps_sp 19, ↓vcD_sp 19, ↓vcOps_sp 30, ↓vcD_sp 30, ↓vcOps_sp 37, ↓vcD_sp 37, ↓vcOps_sp 43, ↓vcD_sp 43, VCA, pg_gl, ↓upd_none, Nat.reduceEqDiff, Nat.reduceBEq, Nat.reduceAdd, Nat.reduceSub, Nat.reduceMul, Nat.reduceLT, Nat.reduceLeDiff, ↓reduceIte, reduceCtorEq, rsOf, rootsOf, SOp.rd, SI.rd, SX.rd, rdL, rdO, rdP, okParts, eqCells, okEqCells, fillA, okFill, setAt, implies_true, forall_const, forall_eq, ne_eq, exists_eq_right_right, exists_eq_right, exists_eq_left, exists_eq_left', rootL, eInt, eBool, lit_eq, v3, v5, v6, v7, gN, ga, rl, eEdit]
      refine ⟨by omega, fun r hr => ?_⟩
      have nr : ¬ rN = r := fun h => by rw [← h, gN] at hr; cases hr
      have S1 := (Sub.refl h).upd (x := some ⟨.t 3, 1, [eInt e.to]⟩) hr
      have E1 := E.mono S1
      obtain ⟨oA, oK⟩ := E1.dw.own _ ha'
      rw [e0] at oK
      have hIns := insertI_ok (G := G) (x := e.to) (i := insAt d e) oK lv hIl kb (upd_same _ _ _) (fun h => by obtain ⟨o, ho⟩ := E.dw.slot (k := 2 * e.at'.toNat + 1) (by omega) h; rw [hr] at ho; cases ho)
      have gN1 := E1.dw.nodes
      have keepN : ∀ h9 : Heap, (∀ t o, upd h r (some ⟨.t 3, 1, [eInt e.to]⟩) t = some o → rootOf (sl (2 * e.at'.toNat + 1)) ≠ some t → h9 t = some o) → h9 rN = some ⟨.t 29, 6, rowsA d sl⟩ := fun h9 kp => kp rN _ gN1 (fun h => nr0 _ h rfl)
      unfold eInt at hIns
      simp -dsimp -implicitDefEqProofs (disch := omega) only [↓vcOps_sp 19, ↓vcD_sp 19, ↓vcOps_sp 30, ↓vcD_sp 30, ↓vcOps_sp 37, ↓vcD_sp 37, ↓vcOps_sp 43, ↓vcD_sp 43, VCA, pg_gl, ↓upd_none, Nat.reduceEqDiff, Nat.reduceBEq, Nat.reduceAdd, Nat.reduceSub, Nat.reduceMul, Nat.reduceLT, Nat.reduceLeDiff, ↓reduceIte, reduceCtorEq, rsOf, rootsOf, SOp.rd, SI.rd, SX.rd, rdL, rdO, rdP, okParts, eqCells, okEqCells, fillA, okFill, setAt, implies_true, forall_const, forall_eq, ne_eq, exists_eq_right_right, exists_eq_right, exists_eq_left, exists_eq_left', rootL, eInt, eBool, lit_eq, v3, v5, v6, v7, gN, ga, rl, nr, eEdit]
      refine DCalls.of hIns ?_
      rintro _ h9 ⟨r', rfl, hr', hf, kp⟩
      have gN9 := keepN h9 kp
      have gne := fun (x : List AVal) => getD_set_ne (es := rowsA d sl) (x := x) hnn
      repeat' (first | ((with_reducible refine brC (fun _ => ?_) fun _ => ?_) <;> try (exfalso; omega)) | (with_reducible refine And.intro ?_ ?_; · omega) | simp -dsimp -implicitDefEqProofs (disch := omega) only [↓vcOps_sp 19, ↓vcD_sp 19, ↓vcOps_sp 30, ↓vcD_sp 30, ↓vcOps_sp 37, ↓vcD_sp 37, ↓vcOps_sp 43, ↓vcD_sp 43, VCA, pg_gl, ↓upd_none, Nat.reduceEqDiff, Nat.reduceBEq, Nat.reduceAdd, Nat.reduceSub, Nat.reduceMul, Nat.reduceLT, Nat.reduceLeDiff, ↓reduceIte, reduceCtorEq, rsOf, rootsOf, SOp.rd, SI.rd, SX.rd, rdL, rdO, rdP, okParts, eqCells, okEqCells, fillA, okFill, setAt, implies_true, forall_const, forall_eq, ne_eq, exists_eq_right_right, exists_eq_right, exists_eq_left, exists_eq_left', rootL, eInt, eBool, lit_eq, v3, v5, v6, v7, gN, gN9, ga, gt, rl, nr, gne, List.length_set, eEdit])
      have ln := ins_len (nd d e.at').kids (insAt d e) e.to hIl
      have hO : OwnS h9 3 1 (((nd d e.at').kids.take (insAt d e) ++ e.to :: (nd d e.at').kids.drop (insAt d e)).map eInt) (.osl r' 1 0 ((nd d e.at').kids.length + 1)) :=
        .inr (.inr ⟨r', _, by rw [List.length_map, ln], hr', Nat.le_refl _, List.take_length⟩)
      have E2 := E1.slotK ha' kp hO (fun es e => by cases e) (fun t ht => by cases ht; exact hf)
      rw [e0] at E2
      have nn := E2.dw.rows_eq
      have n1 : nth (d.nodes.set e.at'.toNat { nd d e.at' with kids := (nd d e.at').kids.take (insAt d e) ++ e.to :: (nd d e.at').kids.drop (insAt d e) }) e.to.toNat = nd d e.to := by
        rw [nth_set _ _ _ _ ha', if_neg (fun h => hnn h.symm)]; rfl
      have E3 := E2.cells (i := e.to.toNat) (by simpa using ht') (x' := { nd d e.to with parent := e.at' }) (by show _ = (nth (d.nodes.set _ _) _).attrs; rw [n1]) (by show _ = (nth (d.nodes.set _ _) _).kids; rw [n1])
      rw [← nn] at E3
      have v1 : upd sl (2 * e.at'.toNat + 1) (AVal.osl r' 1 0 ((nd d e.at').kids.length + 1)) (2 * e.to.toNat) = sl (2 * e.to.toNat) := upd_ne _ _ (by omega)
      have v2 : upd sl (2 * e.at'.toNat + 1) (AVal.osl r' 1 0 ((nd d e.at').kids.length + 1)) (2 * e.to.toNat + 1) = sl (2 * e.to.toNat + 1) := upd_ne _ _ (by omega)
      rw [v1, v2, upd_upd] at E3
      exact ⟨_, Sub.refl _, EdR.good eE hm4 (by rw [eD]; exact E3)⟩
    unfold c121_s5
    skip
    simp -dsimp -implicitDefEqProofs (disch := omega) only [↓vcOps_sp 19, ↓vcD_sp 19, ↓vcOps_sp 30, ↓vcD_sp 30, ↓vcOps_sp 37, ↓vcD_sp 37, ↓vcOps_sp 43, ↓vcD_sp 43, VCA, pg_gl, ↓upd_none, Nat.reduceEqDiff, Nat.reduceBEq, Nat.reduceAdd, Nat.reduceSub, Nat.reduceMul, Nat.reduceLT, Nat.reduceLeDiff, ↓reduceIte, reduceCtorEq, rsOf, rootsOf, SOp.rd, SI.rd, SX.rd, rdL, rdO, rdP, okParts, eqCells, okEqCells, fillA, okFill, setAt, implies_true, forall_const, forall_eq, ne_eq, exists_eq_right_right, exists_eq_right, exists_eq_left, exists_eq_left', rootL, eInt, eBool, lit_eq, v0, v3, v5, v6, v7]
    by_cases hc : e.to ∈ chain d e.at'
    · rw [if_pos hc] at eE
      rw [decide_eq_true hc] at hBe2
      repeat' (first | ((with_reducible refine brC (fun _ => ?_) fun _ => ?_) <;> try (exfalso; omega)) | ((refine DCalls.of hBe2 ?_; rintro _ hh ⟨rfl, rfl⟩)) | (with_reducible refine And.intro ?_ ?_; · omega) | simp -dsimp -implicitDefEqProofs (disch := omega) only [↓vcOps_sp 19, ↓vcD_sp 19, ↓vcOps_sp 30, ↓vcD_sp 30, ↓vcOps_sp 37, ↓vcD_sp 37, ↓vcOps_sp 43, ↓vcD_sp 43, VCA, pg_gl, ↓upd_none, Nat.reduceEqDiff, Nat.reduceBEq, Nat.reduceAdd, Nat.reduceSub, Nat.reduceMul, Nat.reduceLT, Nat.reduceLeDiff, ↓reduceIte, reduceCtorEq, rsOf, rootsOf, SOp.rd, SI.rd, SX.rd, rdL, rdO, rdP, okParts, eqCells, okEqCells, fillA, okFill, setAt, implies_true, forall_const, forall_eq, ne_eq, exists_eq_right_right, exists_eq_right, exists_eq_left, exists_eq_left', rootL, eInt, eBool, lit_eq, v0, v3, v5, v6, v7, eEdit])
      all_goals first | (exfalso; omega) | exact ⟨_, Sub.refl _, EdR.bad eE (by decide)⟩ | trace_state
    · rw [if_neg hc] at eE
      rw [decide_eq_false hc] at hBe2
      by_cases h2 : 40 < up d e.at' + 1 + low d e.to
      · rw [if_pos h2] at eE
        repeat' (first | ((with_reducible refine brC (fun _ => ?_) fun _ => ?_) <;> try (exfalso; omega)) | ((refine DCalls.of hBe2 ?_; rintro _ hh ⟨rfl, rfl⟩)) | ((refine DCalls.of hUp ?_; rintro _ hh ⟨rfl, rfl⟩)) | ((refine DCalls.of hDe ?_; rintro _ hh ⟨rfl, rfl⟩)) | (with_reducible refine And.intro ?_ ?_; · omega) | simp -dsimp -implicitDefEqProofs (disch := omega) only [↓vcOps_sp 19, ↓vcD_sp 19, ↓vcOps_sp 30, ↓vcD_sp 30, ↓vcOps_sp 37, ↓vcD_sp 37, ↓vcOps_sp 43, ↓vcD_sp 43, VCA, pg_gl, ↓upd_none, Nat.reduceEqDiff, Nat.reduceBEq, Nat.reduceAdd, Nat.reduceSub, Nat.reduceMul, Nat.reduceLT, Nat.reduceLeDiff, ↓reduceIte, reduceCtorEq, rsOf, rootsOf, SOp.rd, SI.rd, SX.rd, rdL, rdO, rdP, okParts, eqCells, okEqCells, fillA, okFill, setAt, implies_true, forall_const, forall_eq, ne_eq, exists_eq_right_right, exists_eq_right, exists_eq_left, exists_eq_left', rootL, eInt, eBool, lit_eq, v0, v3, v5, v6, v7, gE, eEdit])
        all_goals first | (exfalso; omega) | exact ⟨_, Sub.refl _, EdR.bad eE (by decide)⟩ | trace_state
      · rw [if_neg h2] at eE
        repeat' (first | ((with_reducible refine brC (fun _ => ?_) fun _ => ?_) <;> try (exfalso; omega)) | ((refine DCalls.of hBe2 ?_; rintro _ hh ⟨rfl, rfl⟩)) | ((refine DCalls.of hUp ?_; rintro _ hh ⟨rfl, rfl⟩)) | ((refine DCalls.of hDe ?_; rintro _ hh ⟨rfl, rfl⟩)) | (with_reducible refine And.intro ?_ ?_; · omega) | simp -dsimp -implicitDefEqProofs (disch := omega) only [↓vcOps_sp 19, ↓vcD_sp 19, ↓vcOps_sp 30, ↓vcD_sp 30, ↓vcOps_sp 37, ↓vcD_sp 37, ↓vcOps_sp 43, ↓vcD_sp 43, VCA, pg_gl, ↓upd_none, Nat.reduceEqDiff, Nat.reduceBEq, Nat.reduceAdd, Nat.reduceSub, Nat.reduceMul, Nat.reduceLT, Nat.reduceLeDiff, ↓reduceIte, reduceCtorEq, rsOf, rootsOf, SOp.rd, SI.rd, SX.rd, rdL, rdO, rdP, okParts, eqCells, okEqCells, fillA, okFill, setAt, implies_true, forall_const, forall_eq, ne_eq, exists_eq_right_right, exists_eq_right, exists_eq_left, exists_eq_left', rootL, eInt, eBool, lit_eq, v0, v3, v5, v6, v7, gE, eEdit])
        all_goals first | (exfalso; omega) | exact s6 hc eE _ v3 v5 v6 v7 | trace_state
  have s5b : editE d e = 5 → ∀ (env : Env) (v : Int), v < 0 → env 7 = aInt v → vc (Pg G) c121_s5 (retK [.tmp 4] (EdR h0 h re d e made)) env h := by
    intro eE env v hv v7
    unfold c121_s5
    skip
    simp -dsimp -implicitDefEqProofs (disch := omega) only [↓vcOps_sp 19, ↓vcD_sp 19, ↓vcOps_sp 30, ↓vcD_sp 30, ↓vcOps_sp 37, ↓vcD_sp 37, ↓vcOps_sp 43, ↓vcD_sp 43, VCA, pg_gl, ↓upd_none, Nat.reduceEqDiff, Nat.reduceBEq, Nat.reduceAdd, Nat.reduceSub, Nat.reduceMul, Nat.reduceLT, Nat.reduceLeDiff, ↓reduceIte, reduceCtorEq, rsOf, rootsOf, SOp.rd, SI.rd, SX.rd, rdL, rdO, rdP, okParts, eqCells, okEqCells, fillA, okFill, setAt, implies_true, forall_const, forall_eq, ne_eq, exists_eq_right_right, exists_eq_right, exists_eq_left, exists_eq_left', rootL, eInt, eBool, lit_eq, v7]
    repeat' (first | ((with_reducible refine brC (fun _ => ?_) fun _ => ?_) <;> try (exfalso; omega)) | (with_reducible refine And.intro ?_ ?_; · omega) | simp -dsimp -implicitDefEqProofs (disch := omega) only [↓vcOps_sp 19, ↓vcD_sp 19, ↓vcOps_sp 30, ↓vcD_sp 30, ↓vcOps_sp 37, ↓vcD_sp 37, ↓vcOps_sp 43, ↓vcD_sp 43, VCA, pg_gl, ↓upd_none, Nat.reduceEqDiff, Nat.reduceBEq, Nat.reduceAdd, Nat.reduceSub, Nat.reduceMul, Nat.reduceLT, Nat.reduceLeDiff, ↓reduceIte, reduceCtorEq, rsOf, rootsOf, SOp.rd, SI.rd, SX.rd, rdL, rdO, rdP, okParts, eqCells, okEqCells, fillA, okFill, setAt, implies_true, forall_const, forall_eq, ne_eq, exists_eq_right_right, exists_eq_right, exists_eq_left, exists_eq_left', rootL, eInt, eBool, lit_eq, v7])
    all_goals first | (exfalso; omega) | exact ⟨_, Sub.refl _, EdR.bad eE (by decide)⟩
  refine dcalls_of_vc Tryd.func121 hn121 hc121 (by rw [Tryd.ntmps121]; simp) (by rw [Tryd.ntmps121]; decide) ?_
  simp -dsimp -implicitDefEqProofs (disch := omega) only [↓vcOps_sp 19, ↓vcD_sp 19, ↓vcOps_sp 30, ↓vcD_sp 30, ↓vcOps_sp 37, ↓vcD_sp 37, ↓vcOps_sp 43, ↓vcD_sp 43, VCA, pg_gl, ↓upd_none, Nat.reduceEqDiff, Nat.reduceBEq, Nat.reduceAdd, Nat.reduceSub, Nat.reduceMul, Nat.reduceLT, Nat.reduceLeDiff, ↓reduceIte, reduceCtorEq, rsOf, rootsOf, SOp.rd, SI.rd, SX.rd, rdL, rdO, rdP, okParts, eqCells, okEqCells, fillA, okFill, setAt, implies_true, forall_const, forall_eq, ne_eq, exists_eq_right_right, exists_eq_right, exists_eq_left, exists_eq_left', rootL, eInt, eBool, lit_eq, c121, eEdit]
  by_cases ha : inD d e.at'
  · rw [if_pos ha] at hE1
    by_cases ht : inD d e.to
    · rw [if_pos ht] at hE2
      rw [if_neg (by simp [ha, ht])] at eE
      have ha' := ha.nat.1
      have ht' := ht.nat.1
      have ga := rowsA_get (sl := sl) ha'
      have gt := rowsA_get (sl := sl) ht'
      have rl := rowsA_len d sl
      have e0 : nth d.nodes e.at'.toNat = nd d e.at' := rfl
      have e1 : nth d.nodes e.to.toNat = nd d e.to := rfl
      rw [e0] at ga
      rw [e1] at gt
      unfold rowA at ga gt
      obtain ⟨oA, oK⟩ := E.dw.own _ ha'
      rw [e0] at oK
      have kl := (sm.nd e.at').kids
      have oL := oK.len.1
      have oL2 := oK.len.2
      rw [List.length_map] at oL
      have hPa := parent_ok (G := G) (nd d e.at').kind
      by_cases h7 : ¬ ((nd d e.at').kind = 1 ∨ (nd d e.at').kind = 2) ∨ (nd d e.to).kind = 1 ∨ ((nd d e.at').kind = 1 ∧ (nd d e.to).kind = 3)
      · rw [if_pos h7] at eE
        by_cases hp : (nd d e.at').kind = 1 ∨ (nd d e.at').kind = 2
        · rw [show (decide ((nd d e.at').kind = 1) || decide ((nd d e.at').kind = 2)) = true by simpa using hp] at hPa
          repeat' (first | ((with_reducible refine brC (fun _ => ?_) fun _ => ?_) <;> try (exfalso; omega)) | ((refine DCalls.of hE1 ?_; rintro _ hh ⟨rfl, rfl⟩)) | ((refine DCalls.of hE2 ?_; rintro _ hh ⟨rfl, rfl⟩)) | (with_reducible apply pcallE.of; · exact hPa) | (with_reducible refine And.intro ?_ ?_; · omega) | simp -dsimp -implicitDefEqProofs (disch := omega) only [↓vcOps_sp 19, ↓vcD_sp 19, ↓vcOps_sp 30, ↓vcD_sp 30, ↓vcOps_sp 37, ↓vcD_sp 37, ↓vcOps_sp 43, ↓vcD_sp 43, VCA, pg_gl, ↓upd_none, Nat.reduceEqDiff, Nat.reduceBEq, Nat.reduceAdd, Nat.reduceSub, Nat.reduceMul, Nat.reduceLT, Nat.reduceLeDiff, ↓reduceIte, reduceCtorEq, rsOf, rootsOf, SOp.rd, SI.rd, SX.rd, rdL, rdO, rdP, okParts, eqCells, okEqCells, fillA, okFill, setAt, implies_true, forall_const, forall_eq, ne_eq, exists_eq_right_right, exists_eq_right, exists_eq_left, exists_eq_left', rootL, eInt, eBool, lit_eq, gN, ga, gt, rl, eEdit])
          all_goals first | (exfalso; omega) | exact ⟨_, Sub.refl _, EdR.bad eE (by decide)⟩ | trace_state
        · rw [show (decide ((nd d e.at').kind = 1) || decide ((nd d e.at').kind = 2)) = false by simpa using hp] at hPa
          repeat' (first | ((with_reducible refine brC (fun _ => ?_) fun _ => ?_) <;> try (exfalso; omega)) | ((refine DCalls.of hE1 ?_; rintro _ hh ⟨rfl, rfl⟩)) | ((refine DCalls.of hE2 ?_; rintro _ hh ⟨rfl, rfl⟩)) | (with_reducible apply pcallE.of; · exact hPa) | (with_reducible refine And.intro ?_ ?_; · omega) | simp -dsimp -implicitDefEqProofs (disch := omega) only [↓vcOps_sp 19, ↓vcD_sp 19, ↓vcOps_sp 30, ↓vcD_sp 30, ↓vcOps_sp 37, ↓vcD_sp 37, ↓vcOps_sp 43, ↓vcD_sp 43, VCA, pg_gl, ↓upd_none, Nat.reduceEqDiff, Nat.reduceBEq, Nat.reduceAdd, Nat.reduceSub, Nat.reduceMul, Nat.reduceLT, Nat.reduceLeDiff, ↓reduceIte, reduceCtorEq, rsOf, rootsOf, SOp.rd, SI.rd, SX.rd, rdL, rdO, rdP, okParts, eqCells, okEqCells, fillA, okFill, setAt, implies_true, forall_const, forall_eq, ne_eq, exists_eq_right_right, exists_eq_right, exists_eq_left, exists_eq_left', rootL, eInt, eBool, lit_eq, gN, ga, gt, rl, eEdit])
          all_goals first | (exfalso; omega) | exact ⟨_, Sub.refl _, EdR.bad eE (by decide)⟩ | trace_state
      · rw [if_neg h7] at eE
        have hp : (nd d e.at').kind = 1 ∨ (nd d e.at').kind = 2 := Classical.not_not.1 fun h => h7 (.inl h)
        have h71 : ¬ (nd d e.to).kind = 1 := fun h => h7 (.inr (.inl h))
        have h72 : ¬ ((nd d e.at').kind = 1 ∧ (nd d e.to).kind = 3) := fun h => h7 (.inr (.inr h))
        rw [show (decide ((nd d e.at').kind = 1) || decide ((nd d e.at').kind = 2)) = true by simpa using hp] at hPa
        by_cases h9 : 0 ≤ (nd d e.to).parent
        · rw [if_pos h9] at eE
          repeat' (first | ((with_reducible refine brC (fun _ => ?_) fun _ => ?_) <;> try (exfalso; omega)) | ((refine DCalls.of hE1 ?_; rintro _ hh ⟨rfl, rfl⟩)) | ((refine DCalls.of hE2 ?_; rintro _ hh ⟨rfl, rfl⟩)) | (with_reducible apply pcallE.of; · exact hPa) | (with_reducible refine And.intro ?_ ?_; · omega) | simp -dsimp -implicitDefEqProofs (disch := omega) only [↓vcOps_sp 19, ↓vcD_sp 19, ↓vcOps_sp 30, ↓vcD_sp 30, ↓vcOps_sp 37, ↓vcD_sp 37, ↓vcOps_sp 43, ↓vcD_sp 43, VCA, pg_gl, ↓upd_none, Nat.reduceEqDiff, Nat.reduceBEq, Nat.reduceAdd, Nat.reduceSub, Nat.reduceMul, Nat.reduceLT, Nat.reduceLeDiff, ↓reduceIte, reduceCtorEq, rsOf, rootsOf, SOp.rd, SI.rd, SX.rd, rdL, rdO, rdP, okParts, eqCells, okEqCells, fillA, okFill, setAt, implies_true, forall_const, forall_eq, ne_eq, exists_eq_right_right, exists_eq_right, exists_eq_left, exists_eq_left', rootL, eInt, eBool, lit_eq, gN, ga, gt, rl, eEdit])
          all_goals first | (exfalso; omega) | exact ⟨_, Sub.refl _, EdR.bad eE (by decide)⟩ | trace_state
        · rw [if_neg h9] at eE
          have hIx := index_own (G := G) oK e.before kl
          have i1 := idxM_leK (nd d e.at').kids e.before
          have im := idx_mem (nd d e.at').kids e.before
          by_cases hb : e.before ≠ -1 ∧ e.before ∉ (nd d e.at').kids
          · rw [if_pos hb] at eE
            have hb1 : ¬ 0 ≤ idxM (· == e.before) (nd d e.at').kids := fun h => hb.2 (im.1 h)
            repeat' (first | ((with_reducible refine brC (fun _ => ?_) fun _ => ?_) <;> try (exfalso; omega)) | ((refine DCalls.of hE1 ?_; rintro _ hh ⟨rfl, rfl⟩)) | ((refine DCalls.of hE2 ?_; rintro _ hh ⟨rfl, rfl⟩)) | (with_reducible apply pcallE.of; · exact hPa) | ((refine DCalls.of hIx ?_; rintro _ hh ⟨rfl, rfl⟩)) | (with_reducible refine And.intro ?_ ?_; · omega) | simp -dsimp -implicitDefEqProofs (disch := omega) only [↓vcOps_sp 19, ↓vcD_sp 19, ↓vcOps_sp 30, ↓vcD_sp 30, ↓vcOps_sp 37, ↓vcD_sp 37, ↓vcOps_sp 43, ↓vcD_sp 43, VCA, pg_gl, ↓upd_none, Nat.reduceEqDiff, Nat.reduceBEq, Nat.reduceAdd, Nat.reduceSub, Nat.reduceMul, Nat.reduceLT, Nat.reduceLeDiff, ↓reduceIte, reduceCtorEq, rsOf, rootsOf, SOp.rd, SI.rd, SX.rd, rdL, rdO, rdP, okParts, eqCells, okEqCells, fillA, okFill, setAt, implies_true, forall_const, forall_eq, ne_eq, exists_eq_right_right, exists_eq_right, exists_eq_left, exists_eq_left', rootL, eInt, eBool, lit_eq, gN, ga, gt, rl, eEdit, oL, oL2])
            all_goals first | (exfalso; omega) | exact ⟨_, Sub.refl _, EdR.bad eE (by decide)⟩ | exact s5b eE _ _ (by omega) rfl
          · rw [if_neg hb] at eE
            by_cases hb1 : e.before = -1
            · have hI : insAt d e = (nd d e.at').kids.length := by unfold insAt; rw [if_pos hb1]
              rw [hI] at s5
              repeat' (first | ((with_reducible refine brC (fun _ => ?_) fun _ => ?_) <;> try (exfalso; omega)) | ((refine DCalls.of hE1 ?_; rintro _ hh ⟨rfl, rfl⟩)) | ((refine DCalls.of hE2 ?_; rintro _ hh ⟨rfl, rfl⟩)) | (with_reducible apply pcallE.of; · exact hPa) | (with_reducible refine And.intro ?_ ?_; · omega) | simp -dsimp -implicitDefEqProofs (disch := omega) only [↓vcOps_sp 19, ↓vcD_sp 19, ↓vcOps_sp 30, ↓vcD_sp 30, ↓vcOps_sp 37, ↓vcD_sp 37, ↓vcOps_sp 43, ↓vcD_sp 43, VCA, pg_gl, ↓upd_none, Nat.reduceEqDiff, Nat.reduceBEq, Nat.reduceAdd, Nat.reduceSub, Nat.reduceMul, Nat.reduceLT, Nat.reduceLeDiff, ↓reduceIte, reduceCtorEq, rsOf, rootsOf, SOp.rd, SI.rd, SX.rd, rdL, rdO, rdP, okParts, eqCells, okEqCells, fillA, okFill, setAt, implies_true, forall_const, forall_eq, ne_eq, exists_eq_right_right, exists_eq_right, exists_eq_left, exists_eq_left', rootL, eInt, eBool, lit_eq, gN, ga, gt, rl, eEdit, oL, oL2])
              all_goals first | (exfalso; omega) | refine s5 ha ht hp h71 h9 hb eE _ ?_ ?_ ?_ ?_ ?_ <;> rfl
            · have hbm : e.before ∈ (nd d e.at').kids := Classical.not_not.1 fun h => hb ⟨hb1, h⟩
              have i0 := im.2 hbm
              have hI : (insAt d e : Int) = idxM (· == e.before) (nd d e.at').kids := by unfold insAt; rw [if_neg hb1]; omega
              rw [← hI] at hIx
              repeat' (first | ((with_reducible refine brC (fun _ => ?_) fun _ => ?_) <;> try (exfalso; omega)) | ((refine DCalls.of hE1 ?_; rintro _ hh ⟨rfl, rfl⟩)) | ((refine DCalls.of hE2 ?_; rintro _ hh ⟨rfl, rfl⟩)) | (with_reducible apply pcallE.of; · exact hPa) | ((refine DCalls.of hIx ?_; rintro _ hh ⟨rfl, rfl⟩)) | (with_reducible refine And.intro ?_ ?_; · omega) | simp -dsimp -implicitDefEqProofs (disch := omega) only [↓vcOps_sp 19, ↓vcD_sp 19, ↓vcOps_sp 30, ↓vcD_sp 30, ↓vcOps_sp 37, ↓vcD_sp 37, ↓vcOps_sp 43, ↓vcD_sp 43, VCA, pg_gl, ↓upd_none, Nat.reduceEqDiff, Nat.reduceBEq, Nat.reduceAdd, Nat.reduceSub, Nat.reduceMul, Nat.reduceLT, Nat.reduceLeDiff, ↓reduceIte, reduceCtorEq, rsOf, rootsOf, SOp.rd, SI.rd, SX.rd, rdL, rdO, rdP, okParts, eqCells, okEqCells, fillA, okFill, setAt, implies_true, forall_const, forall_eq, ne_eq, exists_eq_right_right, exists_eq_right, exists_eq_left, exists_eq_left', rootL, eInt, eBool, lit_eq, gN, ga, gt, rl, eEdit, oL, oL2])
              all_goals first | (exfalso; omega) | refine s5 ha ht hp h71 h9 hb eE _ ?_ ?_ ?_ ?_ ?_ <;> rfl
    · rw [if_neg ht] at hE2
      rw [if_pos (.inr ht)] at eE
      repeat' (first | ((with_reducible refine brC (fun _ => ?_) fun _ => ?_) <;> try (exfalso; omega)) | ((refine DCalls.of hE1 ?_; rintro _ hh ⟨rfl, rfl⟩)) | ((refine DCalls.of hE2 ?_; rintro _ hh ⟨rfl, rfl⟩)) | (with_reducible refine And.intro ?_ ?_; · omega) | simp -dsimp -implicitDefEqProofs (disch := omega) only [↓vcOps_sp 19, ↓vcD_sp 19, ↓vcOps_sp 30, ↓vcD_sp 30, ↓vcOps_sp 37, ↓vcD_sp 37, ↓vcOps_sp 43, ↓vcD_sp 43, VCA, pg_gl, ↓upd_none, Nat.reduceEqDiff, Nat.reduceBEq, Nat.reduceAdd, Nat.reduceSub, Nat.reduceMul, Nat.reduceLT, Nat.reduceLeDiff, ↓reduceIte, reduceCtorEq, rsOf, rootsOf, SOp.rd, SI.rd, SX.rd, rdL, rdO, rdP, okParts, eqCells, okEqCells, fillA, okFill, setAt, implies_true, forall_const, forall_eq, ne_eq, exists_eq_right_right, exists_eq_right, exists_eq_left, exists_eq_left', rootL, eInt, eBool, lit_eq, eEdit])
      all_goals first | (exfalso; omega) | exact ⟨_, Sub.refl _, EdR.bad eE (by decide)⟩ | trace_state
  · rw [if_neg ha] at hE1
    rw [if_pos (.inl ha)] at eE
    by_cases ht : inD d e.to
    · rw [if_pos ht] at hE2
      repeat' (first | ((with_reducible refine brC (fun _ => ?_) fun _ => ?_) <;> try (exfalso; omega)) | ((refine DCalls.of hE1 ?_; rintro _ hh ⟨rfl, rfl⟩)) | ((refine DCalls.of hE2 ?_; rintro _ hh ⟨rfl, rfl⟩)) | (with_reducible refine And.intro ?_ ?_; · omega) | simp -dsimp -implicitDefEqProofs (disch := omega) only [↓vcOps_sp 19, ↓vcD_sp 19, ↓vcOps_sp 30, ↓vcD_sp 30, ↓vcOps_sp 37, ↓vcD_sp 37, ↓vcOps_sp 43, ↓vcD_sp 43, VCA, pg_gl, ↓upd_none, Nat.reduceEqDiff, Nat.reduceBEq, Nat.reduceAdd, Nat.reduceSub, Nat.reduceMul, Nat.reduceLT, Nat.reduceLeDiff, ↓reduceIte, reduceCtorEq, rsOf, rootsOf, SOp.rd, SI.rd, SX.rd, rdL, rdO, rdP, okParts, eqCells, okEqCells, fillA, okFill, setAt, implies_true, forall_const, forall_eq, ne_eq, exists_eq_right_right, exists_eq_right, exists_eq_left, exists_eq_left', rootL, eInt, eBool, lit_eq, eEdit])
      all_goals first | (exfalso; omega) | exact ⟨_, Sub.refl _, EdR.bad eE (by decide)⟩ | trace_state
    · rw [if_neg ht] at hE2
      repeat' (first | ((with_reducible refine brC (fun _ => ?_) fun _ => ?_) <;> try (exfalso; omega)) | ((refine DCalls.of hE1 ?_; rintro _ hh ⟨rfl, rfl⟩)) | ((refine DCalls.of hE2 ?_; rintro _ hh ⟨rfl, rfl⟩)) | (with_reducible refine And.intro ?_ ?_; · omega) | simp -dsimp -implicitDefEqProofs (disch := omega) only [↓vcOps_sp 19, ↓vcD_sp 19, ↓vcOps_sp 30, ↓vcD_sp 30, ↓vcOps_sp 37, ↓vcD_sp 37, ↓vcOps_sp 43, ↓vcD_sp 43, VCA, pg_gl, ↓upd_none, Nat.reduceEqDiff, Nat.reduceBEq, Nat.reduceAdd, Nat.reduceSub, Nat.reduceMul, Nat.reduceLT, Nat.reduceLeDiff, ↓reduceIte, reduceCtorEq, rsOf, rootsOf, SOp.rd, SI.rd, SX.rd, rdL, rdO, rdP, okParts, eqCells, okEqCells, fillA, okFill, setAt, implies_true, forall_const, forall_eq, ne_eq, exists_eq_right_right, exists_eq_right, exists_eq_left, exists_eq_left', rootL, eInt, eBool, lit_eq, eEdit])
      all_goals first | (exfalso; omega) | exact ⟨_, Sub.refl _, EdR.bad eE (by decide)⟩ | trace_state
end Go.Proofs.K
end
section
set_option linter.unusedSimpArgs false
set_option linter.unusedVariables false
namespace Go.Proofs.K
open Go Go.Sim Go.Proofs
variable {G : Glob}
theorem rowsA_add {d : HDoc} {x : HNode} {sl : Nat → AVal} {a : AVal} : rowsA (addN d x) (upd (upd sl (2 * d.nodes.length) a) (2 * d.nodes.length + 1) .emp) = rowsA d sl ++ [rowA x a .emp] := by
  unfold rowsA
  rw [addN_len, List.range_succ, List.map_append, List.map_cons, List.map_nil]
  congr 1
  · refine List.map_congr_left fun i hi => ?_
    have hi := List.mem_range.1 hi
    rw [upd_ne _ _ (by omega), upd_ne _ _ (by omega), upd_ne _ _ (by omega), upd_ne _ _ (by omega)]
    have : nth (addN d x).nodes i = nth d.nodes i := by
      unfold addN nth; rw [List.getD_eq_getElem?_getD, List.getD_eq_getElem?_getD, List.getElem?_append_left hi]
    rw [this]
  · rw [upd_same, upd_ne _ _ (by omega), upd_same]
    have : nth (addN d x).nodes d.nodes.length = x := by unfold addN nth; rw [List.getD_eq_getElem?_getD]; simp
    rw [this]
theorem Ed.add {h0 h h2 : Heap} {re rN rN' : Nat} {d : HDoc} {sl : Nat → AVal} {made made' : Int} (E : Ed h0 h re rN d sl made) {x : HNode} {a' : AVal} (hk : x.kids = [])
    (hN : h2 rN' = some ⟨.t 29, 6, rowsA d sl ++ [rowA x a' .emp]⟩) (hre : h2 re = some ⟨.t 127, 3, [[.osl rN' 6 0 (d.nodes.length + 1), .bool d.quirks, aInt made']]⟩)
    (kp : ∀ r o, h r = some o → r ≠ rN → r ≠ re → h2 r = some o) (O : OwnS h2 71 2 (x.attrs.map eAttr) a') (M : Mut a') (fr : ∀ r, rootOf a' = some r → h r = none ∧ r ≠ rN') (fN : rN' = rN ∨ h rN' = none) :
    Ed h0 h2 re rN' (addN d x) (upd (upd sl (2 * d.nodes.length) a') (2 * d.nodes.length + 1) .emp) made' := by
  have hold : ∀ k, k < 2 * d.nodes.length → upd (upd sl (2 * d.nodes.length) a') (2 * d.nodes.length + 1) .emp k = sl k := fun k hk => by rw [upd_ne _ _ (by omega), upd_ne _ _ (by omega)]
  have hnew : upd (upd sl (2 * d.nodes.length) a') (2 * d.nodes.length + 1) .emp (2 * d.nodes.length) = a' := by rw [upd_ne _ _ (by omega), upd_same]
  have hnew2 : upd (upd sl (2 * d.nodes.length) a') (2 * d.nodes.length + 1) AVal.emp (2 * d.nodes.length + 1) = .emp := upd_same _ _ _
  have some_ne : ∀ r o, h r = some o → r ≠ rN → r ≠ rN' := fun r o ho hne e => by
    rcases fN with h1 | h1
    · exact hne (e.trans h1)
    · rw [e, h1] at ho; cases ho
  have ren : re ≠ rN' := some_ne re _ E.ed E.ne
  generalize hs : upd (upd sl (2 * d.nodes.length) a') (2 * d.nodes.length + 1) .emp = sl' at *
  have rws : rowsA (addN d x) sl' = rowsA d sl ++ [rowA x a' .emp] := by rw [← hs]; exact rowsA_add
  have fa : ∀ r, rootOf a' = some r → h0 r = none ∧ r ≠ rN' ∧ r ≠ re := fun r hr => ⟨E.dw.sub.none (fr r hr).1, (fr r hr).2, fun e => by have := (fr r hr).1; rw [e, E.ed] at this; cases this⟩
  have ks : ∀ k, k < 2 * (d.nodes.length + 1) → k < 2 * d.nodes.length ∨ k = 2 * d.nodes.length ∨ k = 2 * d.nodes.length + 1 := fun k hk => by omega
  refine ⟨⟨fun t o ht => ?_, by rw [hN, rws], ⟨?_, by simp only [List.mem_singleton]; exact fun e => ren e.symm⟩, fun i hi => ?_, fun k hk' r hr => ?_, fun j k hj hk' hne r hr => ?_, fun r hr => ?_⟩, by rw [addN_len]; exact hre, E.new, fun k hk' => ?_⟩
  · refine kp t o (E.dw.sub t o ht) (fun e => by rw [e, E.dw.new.1] at ht; cases ht) (fun e => by rw [e, E.new] at ht; cases ht)
  · rcases fN with h1 | h1
    · rw [h1]; exact E.dw.new.1
    · exact E.dw.sub.none h1
  · rw [addN_len] at hi
    by_cases hl : i < d.nodes.length
    · have e1 : nth (addN d x).nodes i = nth d.nodes i := by
        unfold addN nth; rw [List.getD_eq_getElem?_getD, List.getD_eq_getElem?_getD, List.getElem?_append_left hl]
      rw [e1, hold _ (by omega), hold _ (by omega)]
      obtain ⟨g1, g2⟩ := E.dw.own i hl
      exact ⟨g1.keep fun r o hr ho => kp r o ho (E.root_ne (by omega) hr).1 (E.root_ne (by omega) hr).2, g2.keep fun r o hr ho => kp r o ho (E.root_ne (by omega) hr).1 (E.root_ne (by omega) hr).2⟩
    · have e0 : i = d.nodes.length := by omega
      subst e0
      have e1 : nth (addN d x).nodes d.nodes.length = x := by unfold addN nth; rw [List.getD_eq_getElem?_getD]; simp
      rw [e1, hnew, hnew2, hk]
      exact ⟨O, .inl ⟨rfl, rfl⟩⟩
  · rw [addN_len] at hk'
    simp only [List.mem_singleton]
    rcases ks k hk' with h1 | h1 | h1
    · rw [hold k h1] at hr
      have := E.dw.fresh k h1 r hr
      obtain ⟨o, ho⟩ := E.dw.slot h1 hr
      exact ⟨this.1, some_ne r o ho this.2.1, fun e => this.2.2 (by simp [e])⟩
    · rw [h1, hnew] at hr; exact fa r hr
    · rw [h1, hnew2] at hr; cases hr
  · rw [addN_len] at hj hk'
    rcases ks j hj with h1 | h1 | h1
    · rw [hold j h1] at hr
      rcases ks k hk' with h2 | h2 | h2
      · rw [hold k h2]; exact E.dw.sep j k h1 h2 hne r hr
      · rw [h2, hnew]; intro h3
        obtain ⟨o, ho⟩ := E.dw.slot h1 hr
        have := (fr r h3).1; rw [ho] at this; cases this
      · rw [h2, hnew2]; intro h3; cases h3
    · rw [h1, hnew] at hr
      rcases ks k hk' with h2 | h2 | h2
      · rw [hold k h2]; intro h3
        obtain ⟨o, ho⟩ := E.dw.slot h2 h3
        have := (fr r hr).1; rw [ho] at this; cases this
      · omega
      · rw [h2, hnew2]; intro h3; cases h3
    · rw [h1, hnew2] at hr; cases hr
  · simp only [List.mem_singleton] at hr
    exact ⟨_, by rw [hr]; exact hre⟩
  · rw [addN_len] at hk'
    rcases ks k hk' with h1 | h1 | h1
    · rw [hold k h1]; exact E.live k h1
    · rw [h1, hnew]; exact M
    · rw [h1, hnew2]; exact fun es e => by cases e
def c120 : SFun := ⟨.seq (.reg [⟨some 3, .boxF 101 12 (.t 1), none⟩, ⟨some 4, .mv (.c (.int .i64 0)), none⟩]) (.seq (.reg [⟨some 7, .fldA 6 (.t 3), none⟩, ⟨some 8, .ld 6 true (.t 7), none⟩, ⟨some 5, .new 29 6 [.int .i64 0, .str [], .emp, .str [], .int .i64 0, .emp], none⟩, ⟨none, .st 6 (.t 5) (.t 8), none⟩]) (.seq (.block 0 (.seq (.reg [⟨some 10, .fldA 5 (.t 5), none⟩, ⟨some 11, .ld 1 false (.t 10), none⟩, ⟨some 12, .len (.t 11), none⟩, ⟨some 13, .bin .gtr (.t 12) (.c (.int .i64 0)), none⟩, ⟨some 9, .mv (.t 13), none⟩]) (.cond (.t 9) (.seq (.reg [⟨some 4, .mv (.c (.int .i64 3)), none⟩]) .ret) (.seq (.reg [⟨some 15, .fldA 0 (.t 5), none⟩, ⟨some 16, .ld 1 false (.t 15), none⟩, ⟨some 17, .bin .eql (.t 16) (.c (.int .i64 1)), none⟩, ⟨some 14, .mv (.t 17), none⟩]) (.cond (.t 14) (.seq (.reg [⟨some 4, .mv (.c (.int .i64 7)), none⟩]) .ret) .skip))))) (.seq (.seq (.reg [⟨some 18, .ld 6 true (.t 5), none⟩, ⟨some 19, .pcall 71 [.t 18], none⟩, ⟨some 6, .mv (.t 19), none⟩]) (.seq (.reg [⟨some 20, .mv (.t 6), none⟩, ⟨some 21, .bin .neq (.t 20) (.c (.int .i64 0)), none⟩]) (.cond (.t 21) (.seq (.reg [⟨some 22, .mv (.t 6), none⟩, ⟨some 4, .mv (.t 22), none⟩]) .ret) .skip))) (.seq (.seq (.reg [⟨some 23, .mv (.t 0), none⟩, ⟨some 24, .fldA 0 (.t 23), none⟩, ⟨some 25, .fldA 0 (.t 24), none⟩, ⟨some 26, .fldA 0 (.t 25), none⟩, ⟨some 27, .ld 1 false (.t 26), none⟩, ⟨some 28, .len (.t 27), none⟩, ⟨some 29, .bin .eql (.t 28) (.c (.int .i64 200)), none⟩]) (.cond (.t 29) (.seq (.reg [⟨some 4, .mv (.c (.int .i64 2)), none⟩]) .ret) .skip)) (.seq (.reg [⟨some 30, .mv (.t 0), none⟩, ⟨some 31, .mv (.t 0), none⟩, ⟨some 32, .fldA 0 (.t 31), none⟩, ⟨some 33, .fldA 0 (.t 32), none⟩, ⟨some 34, .fldA 0 (.t 33), none⟩, ⟨some 35, .ld 1 false (.t 34), none⟩, ⟨some 36, .len (.t 35), none⟩, ⟨some 37, .fldA 0 (.t 30), none⟩, ⟨some 38, .fldA 2 (.t 37), none⟩, ⟨none, .st 1 (.t 38) (.t 36), none⟩]) (.seq (.dreg [(⟨some 39, .mv (.t 0), none⟩, none), (⟨some 40, .mv (.t 0), none⟩, none), (⟨some 41, .fldA 0 (.t 40), none⟩, none), (⟨some 42, .fldA 0 (.t 41), none⟩, none), (⟨some 43, .fldA 0 (.t 42), none⟩, none), (⟨some 44, .ld 1 false (.t 43), none⟩, none), (⟨some 45, .fldA 0 (.t 5), none⟩, none), (⟨some 46, .ld 1 false (.t 45), none⟩, none), (⟨some 47, .fldA 1 (.t 5), none⟩, none), (⟨some 48, .ld 1 false (.t 47), none⟩, none), (⟨some 49, .fldA 2 (.t 5), none⟩, none), (⟨some 50, .ld 1 false (.t 49), none⟩, none), (⟨some 52, .fldA 3 (.t 5), none⟩, none), (⟨some 53, .ld 1 false (.t 52), none⟩, none), (⟨some 51, .call (.c (.fn 31 [] [])) [.t 50], none⟩, (some [50])), (⟨some 54, .bld [.int .i64 0, .str [], .emp, .str [], .int .i64 0, .emp] [(0, (1, (.t 46))), (1, (1, (.t 48))), (2, (1, (.t 51))), (3, (1, (.t 53))), (4, (1, (.c (.int .i64 (-1)))))], none⟩, none), (⟨some 55, .bldF 29 6 [.t 54], none⟩, none), (⟨some 56, .app 29 6 96 (.t 44) (.t 55), none⟩, (some [44, 46, 48, 53, 50])), (⟨some 57, .fldA 0 (.t 39), none⟩, none), (⟨some 58, .fldA 0 (.t 57), none⟩, none), (⟨some 59, .fldA 0 (.t 58), none⟩, none), (⟨none, .st 1 (.t 59) (.t 56), none⟩, (some [44, 46, 48, 53, 50]))]) (.seq (.reg [⟨some 4, .mv (.c (.int .i64 0)), none⟩]) .ret))))))), [.tmp 4]⟩
theorem hc120 : toSF Tryd.prog {pure := [71]} Tryd.f120 = some c120 := by kernel_rfl
theorem hn120 : (Tryd.f120.name == "runtime.NumGoroutine") = false := by kernel_rfl
theorem emake_ok {h0 h : Heap} {re rN : Nat} {d : HDoc} {sl : Nat → AVal} {made : Int} (E : Ed h0 h re rN d sl made) (hl200 : d.nodes.length ≤ 200) (e : HEdit) (he : EditSm e) (hdo : e.do' = 4) : DCalls (Pg G) 120 [.vp re 0, .agg (eEdit e)] h (EdR h0 h re d e made) := by
  have gN := E.dw.nodes
  have gE := E.ed
  have ner := E.ne
  have hO := one_ok' (G := G) e.node he.node
  unfold eNode at hO
  have eE : editE d e = if e.node.kids ≠ [] then 3 else if e.node.kind = 1 then 7 else if nodeE e.node ≠ 0 then nodeE e.node else if d.nodes.length = 200 then 2 else 0 := by unfold editE; rw [if_neg (by omega), if_neg (by omega), if_neg (by omega), if_pos hdo]
  have eD : editD d e = addN d (madeM e.node) := by unfold editD; rw [if_neg (by omega), if_neg (by omega), if_neg (by omega), if_pos hdo]
  have hm4 : (d.nodes.length : Int) = if e.do' = 4 then (d.nodes.length : Int) else made := by rw [if_pos hdo]
  have rl := rowsA_len d sl
  refine dcalls_of_vc Tryd.func120 hn120 hc120 (by rw [Tryd.ntmps120]; simp) (by rw [Tryd.ntmps120]; decide) ?_
  simp -dsimp -implicitDefEqProofs (disch := omega) only [VCA, pg_gl, ↓upd_none, Nat.reduceEqDiff, Nat.reduceBEq, Nat.reduceAdd, Nat.reduceSub, Nat.reduceMul, Nat.reduceLT, Nat.reduceLeDiff, ↓reduceIte, reduceCtorEq, rsOf, rootsOf, SOp.rd, SI.rd, SX.rd, rdL, rdO, rdP, okParts, eqCells, okEqCells, fillA, okFill, setAt, implies_true, forall_const, forall_eq, ne_eq, exists_eq_right_right, exists_eq_right, exists_eq_left, exists_eq_left', rootL, eInt, eBool, lit_eq, c120, eEdit]
  intro r5 hr5
  have n5 : ¬ re = r5 := fun h => by rw [← h, gE] at hr5; cases hr5
  have n5N : ¬ rN = r5 := fun h => by rw [← h, gN] at hr5; cases hr5
  have n5' : ¬ r5 = re := fun h => n5 h.symm
  have n5N' : ¬ r5 = rN := fun h => n5N h.symm
  have ner' : ¬ rN = re := fun h => ner h.symm
  have S5 : ∀ x, Sim.Sub h (upd h r5 (some x)) := fun x => (Sub.refl h).upd hr5
  by_cases hk : e.node.kids = []
  · have hk0 : ¬ 0 < e.node.kids.length := by rw [hk]; simp
    rw [if_neg (by simpa using hk)] at eE
    by_cases hk1 : e.node.kind = 1
    · rw [if_pos hk1] at eE
      repeat' (first | ((with_reducible refine brC (fun _ => ?_) fun _ => ?_) <;> try (exfalso; omega)) | (with_reducible refine And.intro ?_ ?_; · omega) | simp -dsimp -implicitDefEqProofs (disch := omega) only [VCA, pg_gl, ↓upd_none, Nat.reduceEqDiff, Nat.reduceBEq, Nat.reduceAdd, Nat.reduceSub, Nat.reduceMul, Nat.reduceLT, Nat.reduceLeDiff, ↓reduceIte, reduceCtorEq, rsOf, rootsOf, SOp.rd, SI.rd, SX.rd, rdL, rdO, rdP, okParts, eqCells, okEqCells, fillA, okFill, setAt, implies_true, forall_const, forall_eq, ne_eq, exists_eq_right_right, exists_eq_right, exists_eq_left, exists_eq_left', rootL, eInt, eBool, lit_eq, upd_same, n5, n5N])
      all_goals first | (exfalso; omega) | exact ⟨_, S5 _, EdR.bad eE (by decide)⟩
    · rw [if_neg hk1] at eE
      by_cases hz : nodeE e.node = 0
      · rw [if_neg (by simpa using hz)] at eE
        rw [hz] at hO
        by_cases h200 : d.nodes.length = 200
        · rw [if_pos h200] at eE
          repeat' (first | ((with_reducible refine brC (fun _ => ?_) fun _ => ?_) <;> try (exfalso; omega)) | (with_reducible apply pcallE.of; · exact hO) | (with_reducible refine And.intro ?_ ?_; · omega) | simp -dsimp -implicitDefEqProofs (disch := omega) only [VCA, pg_gl, ↓upd_none, Nat.reduceEqDiff, Nat.reduceBEq, Nat.reduceAdd, Nat.reduceSub, Nat.reduceMul, Nat.reduceLT, Nat.reduceLeDiff, ↓reduceIte, reduceCtorEq, rsOf, rootsOf, SOp.rd, SI.rd, SX.rd, rdL, rdO, rdP, okParts, eqCells, okEqCells, fillA, okFill, setAt, implies_true, forall_const, forall_eq, ne_eq, exists_eq_right_right, exists_eq_right, exists_eq_left, exists_eq_left', rootL, eInt, eBool, lit_eq, upd_same, n5, n5N, gE])
          all_goals first | (exfalso; omega) | exact ⟨_, S5 _, EdR.bad eE (by decide)⟩
        · rw [if_neg h200] at eE
          have hC := fun (hp : Heap) => cloneA_own (G := G) (h := hp) e.node.attrs he.node.attrs
          repeat' (first | ((with_reducible refine brC (fun _ => ?_) fun _ => ?_) <;> try (exfalso; omega)) | (with_reducible apply pcallE.of; · exact hO) | (with_reducible refine And.intro ?_ ?_; · omega) | simp -dsimp -implicitDefEqProofs (disch := omega) only [VCA, pg_gl, ↓upd_none, Nat.reduceEqDiff, Nat.reduceBEq, Nat.reduceAdd, Nat.reduceSub, Nat.reduceMul, Nat.reduceLT, Nat.reduceLeDiff, ↓reduceIte, reduceCtorEq, rsOf, rootsOf, SOp.rd, SI.rd, SX.rd, rdL, rdO, rdP, okParts, eqCells, okEqCells, fillA, okFill, setAt, implies_true, forall_const, forall_eq, ne_eq, exists_eq_right_right, exists_eq_right, exists_eq_left, exists_eq_left', rootL, eInt, eBool, lit_eq, upd_same, n5, n5', n5N, n5N', gE])
          all_goals try (exfalso; omega)
          refine DCalls.of (hC _) ?_
          rintro a h9 ⟨A9, S9⟩
          have gE9 := S9 re _ (upd_same _ _ _)
          have gN9 := S9 rN ⟨29, 6, rowsA d sl⟩ (by simp [upd, ner', n5N, gN])
          have g59 := S9 r5 ⟨29, 6, [[aInt e.node.kind, .str e.node.name, Sim.sl eAttr e.node.attrs, .str e.node.text, aInt e.node.parent, Sim.sl eInt e.node.kids]]⟩ (by simp [upd, n5'])
          obtain ⟨O9, f9, M9⟩ := OwnS.of_acc A9
          obtain ⟨v9, c9⟩ := O9.isV
          repeat' (first | ((with_reducible refine brC (fun _ => ?_) fun _ => ?_) <;> try (exfalso; omega)) | (with_reducible refine And.intro ?_ ?_; · omega) | simp -dsimp -implicitDefEqProofs (disch := omega) only [VCA, pg_gl, ↓upd_none, Nat.reduceEqDiff, Nat.reduceBEq, Nat.reduceAdd, Nat.reduceSub, Nat.reduceMul, Nat.reduceLT, Nat.reduceLeDiff, ↓reduceIte, reduceCtorEq, rsOf, rootsOf, SOp.rd, SI.rd, SX.rd, rdL, rdO, rdP, okParts, eqCells, okEqCells, fillA, okFill, setAt, implies_true, forall_const, forall_eq, ne_eq, exists_eq_right_right, exists_eq_right, exists_eq_left, exists_eq_left', rootL, eInt, eBool, lit_eq, upd_same, n5, n5', n5N, n5N', ner, ner', gE9, gN9, g59, v9, c9])
          intro r' hr'
          have fr' : r' = rN ∨ h9 r' = none := by
            unfold del at hr'
            split at hr'
            · rename_i h1; exact .inl h1
            · exact .inr hr'
          have nre : ¬ re = r' := fun h1 => by
            rcases fr' with h2 | h2
            · exact ner (h1.trans h2)
            · rw [← h1, gE9] at h2; cases h2
          have nre' : ¬ r' = re := fun h1 => nre h1.symm
          have dE : del h9 rN re = some ⟨.t 127, 3, [[.osl rN 6 0 d.nodes.length, .bool d.quirks, aInt d.nodes.length]]⟩ := by
            unfold del; rw [if_neg ner, gE9]
          repeat' (first | ((with_reducible refine brC (fun _ => ?_) fun _ => ?_) <;> try (exfalso; omega)) | (with_reducible refine And.intro ?_ ?_; · omega) | simp -dsimp -implicitDefEqProofs (disch := omega) only [VCA, pg_gl, ↓upd_none, Nat.reduceEqDiff, Nat.reduceBEq, Nat.reduceAdd, Nat.reduceSub, Nat.reduceMul, Nat.reduceLT, Nat.reduceLeDiff, ↓reduceIte, reduceCtorEq, rsOf, rootsOf, SOp.rd, SI.rd, SX.rd, rdL, rdO, rdP, okParts, eqCells, okEqCells, fillA, okFill, setAt, implies_true, forall_const, forall_eq, ne_eq, exists_eq_right_right, exists_eq_right, exists_eq_left, exists_eq_left', rootL, eInt, eBool, lit_eq, upd_same, nre, nre', dE])
          have X0 : ∀ (x y : AObj) t, upd (upd h r5 (some x)) re (some y) t = none → h t = none ∧ t ≠ re ∧ t ≠ r5 := fun x y t ht => by
            unfold upd at ht
            split at ht
            · cases ht
            · rename_i h1
              split at ht
              · cases ht
              · rename_i h2; exact ⟨ht, h1, h2⟩
          have ra : ∀ t, rootOf a = some t → h t = none ∧ t ≠ re ∧ t ≠ r5 ∧ t ≠ rN ∧ t ≠ r' := fun t ht => by
            obtain ⟨x1, x2, x3⟩ := X0 _ _ t (f9 t ht)
            refine ⟨x1, x2, x3, (fun e => by rw [e, gN] at x1; cases x1), fun e => ?_⟩
            rcases fr' with h2 | h2
            · rw [e, h2, gN] at x1; cases x1
            · obtain ⟨o, ho⟩ := O9.root ht
              rw [e, h2] at ho; cases ho
          refine ⟨_, Sub.refl _, EdR.good eE hm4 (by
            rw [eD]
            refine E.add (rN' := r') (a' := a) (x := madeM e.node) rfl ?_ ?_ (fun t o ho h1 h2 => ?_) (O9.keep fun t o ht ho => ?_) M9 (fun t ht => ⟨(ra t ht).1, (ra t ht).2.2.2.2⟩) ?_
            · rw [upd_ne _ _ nre', upd_same, List.take_of_length_le (by rw [rl]; exact Nat.le_refl _)]; rfl
            · exact upd_same _ _ _
            · have h5 : t ≠ r5 := fun e => by rw [e, hr5] at ho; cases ho
              have h9t := S9 t o (by rw [upd_ne _ _ h2, upd_ne _ _ h5]; exact ho)
              rw [upd_ne _ _ h2, upd_ne _ _ (fun e => by
                rcases fr' with h3 | h3
                · exact h1 (e.trans h3)
                · rw [e, h3] at h9t; cases h9t)]
              unfold del; rw [if_neg h1]; exact h9t
            · obtain ⟨y1, y2, y3, y4, y5⟩ := ra t ht
              rw [upd_ne _ _ y2, upd_ne _ _ y5]
              unfold del; rw [if_neg y4]; exact ho
            · rcases fr' with h2 | h2
              · exact .inl h2
              · exact .inr (X0 _ _ r' (S9.none h2)).1)⟩
      · rw [if_pos hz] at eE
        repeat' (first | ((with_reducible refine brC (fun _ => ?_) fun _ => ?_) <;> try (exfalso; omega)) | (with_reducible apply pcallE.of; · exact hO) | (with_reducible refine And.intro ?_ ?_; · omega) | simp -dsimp -implicitDefEqProofs (disch := omega) only [VCA, pg_gl, ↓upd_none, Nat.reduceEqDiff, Nat.reduceBEq, Nat.reduceAdd, Nat.reduceSub, Nat.reduceMul, Nat.reduceLT, Nat.reduceLeDiff, ↓reduceIte, reduceCtorEq, rsOf, rootsOf, SOp.rd, SI.rd, SX.rd, rdL, rdO, rdP, okParts, eqCells, okEqCells, fillA, okFill, setAt, implies_true, forall_const, forall_eq, ne_eq, exists_eq_right_right, exists_eq_right, exists_eq_left, exists_eq_left', rootL, eInt, eBool, lit_eq, upd_same, n5, n5N, hz])
        all_goals first | (exfalso; omega) | exact ⟨_, S5 _, EdR.bad eE hz⟩
  · have hk0 : 0 < e.node.kids.length := List.length_pos_iff.2 hk
    rw [if_pos hk] at eE
    repeat' (first | ((with_reducible refine brC (fun _ => ?_) fun _ => ?_) <;> try (exfalso; omega)) | (with_reducible refine And.intro ?_ ?_; · omega) | simp -dsimp -implicitDefEqProofs (disch := omega) only [VCA, pg_gl, ↓upd_none, Nat.reduceEqDiff, Nat.reduceBEq, Nat.reduceAdd, Nat.reduceSub, Nat.reduceMul, Nat.reduceLT, Nat.reduceLeDiff, ↓reduceIte, reduceCtorEq, rsOf, rootsOf, SOp.rd, SI.rd, SX.rd, rdL, rdO, rdP, okParts, eqCells, okEqCells, fillA, okFill, setAt, implies_true, forall_const, forall_eq, ne_eq, exists_eq_right_right, exists_eq_right, exists_eq_left, exists_eq_left', rootL, eInt, eBool, lit_eq, upd_same, n5, n5N])
    all_goals first | (exfalso; omega) | exact ⟨_, S5 _, EdR.bad eE (by decide)⟩
end Go.Proofs.K
end
section
set_option linter.unusedSimpArgs false
set_option linter.unusedVariables false
namespace Go.Proofs.K
open Go Go.Sim Go.Proofs
variable {G : Glob}
def doesF (re : Nat) (n : Int) : AVal :=
  if n = 1 then .fn 117 [.vp re 0] [] else if n = 2 then .fn 118 [.vp re 0] [] else if n = 3 then .fn 119 [.vp re 0] []
  else if n = 4 then .fn 120 [.vp re 0] [] else if n = 5 then .fn 121 [.vp re 0] [] else if n = 6 then .fn 122 [.vp re 0] [] else .prim .nilFunc
def c100 : SFun := ⟨.seq (.reg [⟨some 4, .mv (.c (.prim .nilFunc)), none⟩]) (.seq (.seq (.reg [⟨some 5, .mv (.t 1), none⟩]) (.block 0 (.seq (.reg [⟨some 7, .bin .eql (.t 5) (.c (.int .i64 1)), none⟩, ⟨some 6, .mv (.t 7), none⟩]) (.cond (.t 6) (.seq (.reg [⟨some 8, .mv (.t 0), none⟩, ⟨some 9, .mkf 117 [.t 8] [], none⟩, ⟨some 4, .mv (.t 9), none⟩]) .ret) (.seq (.reg [⟨some 11, .bin .eql (.t 5) (.c (.int .i64 2)), none⟩, ⟨some 10, .mv (.t 11), none⟩]) (.cond (.t 10) (.seq (.reg [⟨some 12, .mv (.t 0), none⟩, ⟨some 13, .mkf 118 [.t 12] [], none⟩, ⟨some 4, .mv (.t 13), none⟩]) .ret) (.seq (.reg [⟨some 15, .bin .eql (.t 5) (.c (.int .i64 3)), none⟩, ⟨some 14, .mv (.t 15), none⟩]) (.cond (.t 14) (.seq (.reg [⟨some 16, .mv (.t 0), none⟩, ⟨some 17, .mkf 119 [.t 16] [], none⟩, ⟨some 4, .mv (.t 17), none⟩]) .ret) (.seq (.reg [⟨some 19, .bin .eql (.t 5) (.c (.int .i64 4)), none⟩, ⟨some 18, .mv (.t 19), none⟩]) (.cond (.t 18) (.seq (.reg [⟨some 20, .mv (.t 0), none⟩, ⟨some 21, .mkf 120 [.t 20] [], none⟩, ⟨some 4, .mv (.t 21), none⟩]) .ret) (.seq (.reg [⟨some 23, .bin .eql (.t 5) (.c (.int .i64 5)), none⟩, ⟨some 22, .mv (.t 23), none⟩]) (.cond (.t 22) (.seq (.reg [⟨some 24, .mv (.t 0), none⟩, ⟨some 25, .mkf 121 [.t 24] [], none⟩, ⟨some 4, .mv (.t 25), none⟩]) .ret) (.seq (.reg [⟨some 27, .bin .eql (.t 5) (.c (.int .i64 6)), none⟩, ⟨some 26, .mv (.t 27), none⟩]) (.cond (.t 26) (.seq (.reg [⟨some 28, .mv (.t 0), none⟩, ⟨some 29, .mkf 122 [.t 28] [], none⟩, ⟨some 4, .mv (.t 29), none⟩]) .ret) .skip)))))))))))))) (.seq (.reg [⟨some 4, .mv (.c (.prim .nilFunc)), none⟩]) .ret)), [.tmp 4]⟩
theorem hc100 : toSF Tryd.prog {} Tryd.f100 = some c100 := by kernel_rfl
theorem hn100 : (Tryd.f100.name == "runtime.NumGoroutine") = false := by kernel_rfl
theorem edoes_ok (h : Heap) (re : Nat) (n : Int) : DCalls (Pg G) 100 [.vp re 0, aInt n] h fun r h' => r = doesF re n ∧ h' = h := by
  refine dcalls_of_vc Tryd.func100 hn100 hc100 (by rw [Tryd.ntmps100]; simp) (by rw [Tryd.ntmps100]; decide) ?_
  simp -dsimp -implicitDefEqProofs (disch := omega) only [VCA, pg_gl, ↓upd_none, Nat.reduceEqDiff, Nat.reduceBEq, Nat.reduceAdd, Nat.reduceSub, Nat.reduceMul, Nat.reduceLT, Nat.reduceLeDiff, ↓reduceIte, reduceCtorEq, rsOf, rootsOf, SOp.rd, SI.rd, SX.rd, rdL, rdO, rdP, okParts, eqCells, okEqCells, fillA, okFill, setAt, implies_true, forall_const, forall_eq, ne_eq, exists_eq_right_right, exists_eq_right, exists_eq_left, exists_eq_left', rootL, eInt, eBool, lit_eq, c100]
  unfold doesF
  repeat' (first | ((with_reducible refine brC (fun _ => ?_) fun _ => ?_) <;> try (exfalso; omega)) | (with_reducible refine And.intro ?_ ?_; · omega) | simp -dsimp -implicitDefEqProofs (disch := omega) only [VCA, pg_gl, ↓upd_none, Nat.reduceEqDiff, Nat.reduceBEq, Nat.reduceAdd, Nat.reduceSub, Nat.reduceMul, Nat.reduceLT, Nat.reduceLeDiff, ↓reduceIte, reduceCtorEq, rsOf, rootsOf, SOp.rd, SI.rd, SX.rd, rdL, rdO, rdP, okParts, eqCells, okEqCells, fillA, okFill, setAt, implies_true, forall_const, forall_eq, ne_eq, exists_eq_right_right, exists_eq_right, exists_eq_left, exists_eq_left', rootL, eInt, eBool, lit_eq])
  all_goals first
    | (refine ⟨Sub.refl _, ?_⟩; simp_all; done)
    | (simp_all; done)
def c77 : SFun := ⟨.seq (.reg [⟨some 3, .boxF 101 12 (.t 1), none⟩, ⟨some 4, .mv (.c (.int .i64 0)), none⟩]) (.seq (.reg [⟨some 6, .mv (.t 0), none⟩, ⟨some 7, .fldA 0 (.t 3), none⟩, ⟨some 8, .ld 1 false (.t 7), none⟩, ⟨some 9, .call (.c (.fn 100 [] [])) [.t 6, .t 8], none⟩, ⟨some 5, .mv (.t 9), none⟩]) (.seq (.seq (.reg [⟨some 10, .mv (.t 5), none⟩, ⟨some 11, .isnil 2 false (.t 10), none⟩]) (.cond (.t 11) (.seq (.reg [⟨some 4, .mv (.c (.int .i64 1)), none⟩]) .ret) .skip)) (.seq (.reg [⟨some 12, .mv (.t 5), none⟩, ⟨some 13, .ld 12 true (.t 3), none⟩, ⟨some 14, .call (.t 12) [.t 13], none⟩, ⟨some 4, .mv (.t 14), none⟩]) .ret))), [.tmp 4]⟩
theorem hc77 : toSF Tryd.prog {} Tryd.f77 = some c77 := by kernel_rfl
theorem hn77 : (Tryd.f77.name == "runtime.NumGoroutine") = false := by kernel_rfl
theorem eedit_ok {h0 h : Heap} {re rN : Nat} {d : HDoc} {sl : Nat → AVal} {made : Int} (E : Ed h0 h re rN d sl made) (V : DV d) (sm : DocSm d) (e : HEdit) (he : EditSm e) : DCalls (Pg G) 77 [.vp re 0, .agg (eEdit e)] h (EdR h0 h re d e made) := by
  have hD := edoes_ok (G := G) h re e.do'
  have a12 : ∀ n, inD d n → (nd d n).attrs.length ≤ 12 := fun n hn => ((attrsE_iff _).1 ((nodeE_iff _).1 (V.node n hn)).2.2.2.1).1
  have key : ∀ f, DCalls (Pg G) f [.vp re 0, .agg (eEdit e)] h (EdR h0 h re d e made) → doesF re e.do' = .fn f [.vp re 0] [] → DCalls (Pg G) 77 [.vp re 0, .agg (eEdit e)] h (EdR h0 h re d e made) := fun f hf hd => by
    rw [hd] at hD
    unfold eEdit at hf
    refine dcalls_of_vc Tryd.func77 hn77 hc77 (by rw [Tryd.ntmps77]; simp) (by rw [Tryd.ntmps77]; decide) ?_
    simp -dsimp -implicitDefEqProofs (disch := omega) only [VCA, pg_gl, ↓upd_none, Nat.reduceEqDiff, Nat.reduceBEq, Nat.reduceAdd, Nat.reduceSub, Nat.reduceMul, Nat.reduceLT, Nat.reduceLeDiff, ↓reduceIte, reduceCtorEq, rsOf, rootsOf, SOp.rd, SI.rd, SX.rd, rdL, rdO, rdP, okParts, eqCells, okEqCells, fillA, okFill, setAt, implies_true, forall_const, forall_eq, ne_eq, exists_eq_right_right, exists_eq_right, exists_eq_left, exists_eq_left', rootL, eInt, eBool, lit_eq, c77, eEdit]
    refine DCalls.of hD ?_
    rintro _ _ ⟨rfl, rfl⟩
    simp -dsimp -implicitDefEqProofs (disch := omega) only [VCA, pg_gl, ↓upd_none, Nat.reduceEqDiff, Nat.reduceBEq, Nat.reduceAdd, Nat.reduceSub, Nat.reduceMul, Nat.reduceLT, Nat.reduceLeDiff, ↓reduceIte, reduceCtorEq, rsOf, rootsOf, SOp.rd, SI.rd, SX.rd, rdL, rdO, rdP, okParts, eqCells, okEqCells, fillA, okFill, setAt, implies_true, forall_const, forall_eq, ne_eq, exists_eq_right_right, exists_eq_right, exists_eq_left, exists_eq_left', rootL, eInt, eBool, lit_eq, eEdit]
    refine DCalls.of hf ?_
    intro r h9 hr
    simp -dsimp -implicitDefEqProofs (disch := omega) only [VCA, pg_gl, ↓upd_none, Nat.reduceEqDiff, Nat.reduceBEq, Nat.reduceAdd, Nat.reduceSub, Nat.reduceMul, Nat.reduceLT, Nat.reduceLeDiff, ↓reduceIte, reduceCtorEq, rsOf, rootsOf, SOp.rd, SI.rd, SX.rd, rdL, rdO, rdP, okParts, eqCells, okEqCells, fillA, okFill, setAt, implies_true, forall_const, forall_eq, ne_eq, exists_eq_right_right, exists_eq_right, exists_eq_left, exists_eq_left', rootL, eInt, eBool, lit_eq]
    exact ⟨_, Sub.refl _, hr⟩
  by_cases h1 : e.do' = 1
  · exact key _ (eattr_ok E sm a12 e he h1) (by unfold doesF; rw [if_pos h1])
  by_cases h2 : e.do' = 2
  · exact key _ (edrop_ok E sm e he h2) (by unfold doesF; rw [if_neg h1, if_pos h2])
  by_cases h3 : e.do' = 3
  · exact key _ (etext_ok E e he h3) (by unfold doesF; rw [if_neg h1, if_neg h2, if_pos h3])
  by_cases h4 : e.do' = 4
  · exact key _ (emake_ok E V.len e he h4) (by unfold doesF; rw [if_neg h1, if_neg h2, if_neg h3, if_pos h4])
  by_cases h5 : e.do' = 5
  · exact key _ (einsert_ok E V sm e he h5) (by unfold doesF; rw [if_neg h1, if_neg h2, if_neg h3, if_neg h4, if_pos h5])
  by_cases h6 : e.do' = 6
  · exact key _ (eremove_ok E V sm e he h6) (by unfold doesF; rw [if_neg h1, if_neg h2, if_neg h3, if_neg h4, if_neg h5, if_pos h6])
  have hd : doesF re e.do' = .prim .nilFunc := by unfold doesF; rw [if_neg h1, if_neg h2, if_neg h3, if_neg h4, if_neg h5, if_neg h6]
  have eE : editE d e = 1 := by unfold editE; rw [if_neg h1, if_neg h2, if_neg h3, if_neg h4, if_neg h5, if_neg h6]
  rw [hd] at hD
  refine dcalls_of_vc Tryd.func77 hn77 hc77 (by rw [Tryd.ntmps77]; simp) (by rw [Tryd.ntmps77]; decide) ?_
  simp -dsimp -implicitDefEqProofs (disch := omega) only [VCA, pg_gl, ↓upd_none, Nat.reduceEqDiff, Nat.reduceBEq, Nat.reduceAdd, Nat.reduceSub, Nat.reduceMul, Nat.reduceLT, Nat.reduceLeDiff, ↓reduceIte, reduceCtorEq, rsOf, rootsOf, SOp.rd, SI.rd, SX.rd, rdL, rdO, rdP, okParts, eqCells, okEqCells, fillA, okFill, setAt, implies_true, forall_const, forall_eq, ne_eq, exists_eq_right_right, exists_eq_right, exists_eq_left, exists_eq_left', rootL, eInt, eBool, lit_eq, c77, eEdit]
  refine DCalls.of hD ?_
  rintro _ _ ⟨rfl, rfl⟩
  simp -dsimp -implicitDefEqProofs (disch := omega) only [VCA, pg_gl, ↓upd_none, Nat.reduceEqDiff, Nat.reduceBEq, Nat.reduceAdd, Nat.reduceSub, Nat.reduceMul, Nat.reduceLT, Nat.reduceLeDiff, ↓reduceIte, reduceCtorEq, rsOf, rootsOf, SOp.rd, SI.rd, SX.rd, rdL, rdO, rdP, okParts, eqCells, okEqCells, fillA, okFill, setAt, implies_true, forall_const, forall_eq, ne_eq, exists_eq_right_right, exists_eq_right, exists_eq_left, exists_eq_left', rootL, eInt, eBool, lit_eq, eEdit]
  all_goals exact ⟨_, Sub.refl _, EdR.bad eE (by decide)⟩
end Go.Proofs.K
end
section
set_option linter.unusedSimpArgs false
set_option linter.unusedVariables false
namespace Go.Proofs.K
open Go Go.Sim Go.Proofs
variable {G : Glob}
theorem eDoc_len (d : HDoc) : (eDoc d).length = 2 := rfl
theorem eDoc_take (d : HDoc) : (eDoc d).take 2 = eDoc d := rfl
theorem docE_DV {d : HDoc} (h : docE d = 0) : DV d := (docE_iff d).1 h
end Go.Proofs.K
end
section
set_option linter.unusedSimpArgs false
set_option linter.unusedVariables false
namespace Go.Proofs.K
open Go Go.Sim Go.Proofs
variable {G : Glob}
theorem eDoc_dr (d : HDoc) : (eDoc d).drop 2 = [] := rfl
def noDoc : HDoc := ⟨[], false⟩
def applyE (d : HDoc) (e : HEdit) : Int := if docE d ≠ 0 then docE d else editE d e
def applyD (d : HDoc) (e : HEdit) : HDoc := if applyE d e = 0 then editD d e else noDoc
def applyN (d : HDoc) (e : HEdit) : Int := if applyE d e = 0 then editN d e else 0
theorem Dw.new' {X : List Nat} {h0 h : Heap} {rN : Nat} {d : HDoc} {sl : Nat → AVal} (E : Dw X h0 h rN d sl) : Dw [] (fun _ => none) (newH h0 h) rN d sl :=
  ⟨(fun t o ht => by cases ht), by rw [newH_none E.new.1]; exact E.nodes, ⟨rfl, by simp⟩, fun i hi => ⟨(E.own i hi).1.keep fun r o hr ho => by rw [newH_none (E.fresh _ (by omega) r hr).1]; exact ho, (E.own i hi).2.keep fun r o hr ho => by rw [newH_none (E.fresh _ (by omega) r hr).1]; exact ho⟩,
    fun k hk r hr => ⟨rfl, (E.fresh k hk r hr).2.1, by simp⟩, E.sep, fun r hr => by cases hr⟩
theorem Dw.base {X : List Nat} {h0 h00 h : Heap} {rN : Nat} {d : HDoc} {sl : Nat → AVal} (E : Dw X h0 h rN d sl) (S : Sim.Sub h00 h0) : Dw X h00 h rN d sl :=
  ⟨S.trans E.sub, E.nodes, ⟨S.none E.new.1, E.new.2⟩, E.own, fun k hk r hr => ⟨S.none (E.fresh k hk r hr).1, (E.fresh k hk r hr).2⟩, E.sep, E.keep⟩
theorem Dw.beside {X : List Nat} {h0 h00 h : Heap} {rN r : Nat} {d : HDoc} {sl : Nat → AVal} {x : AObj} (E : Dw X h0 h rN d sl) (S : Sim.Sub h00 h0) (h1 : h0 r = some x) (h2 : h00 r = none) (hX : r ∉ X) (y : AObj) : Dw X h00 (upd h r (some y)) rN d sl := by
  have ne : ∀ t, h0 t = none → t ≠ r := fun t ht e => by rw [e, h1] at ht; cases ht
  refine ⟨(S.trans E.sub).upd h2, by rw [upd_ne _ _ (ne _ E.new.1)]; exact E.nodes, ⟨S.none E.new.1, E.new.2⟩, fun i hi => ?_, fun k hk t ht => ⟨S.none (E.fresh k hk t ht).1, (E.fresh k hk t ht).2⟩, E.sep, fun t ht => ?_⟩
  · obtain ⟨g1, g2⟩ := E.own i hi
    exact ⟨g1.keep fun t o ht ho => by rw [upd_ne _ _ (ne t (E.fresh _ (by omega) t ht).1)]; exact ho, g2.keep fun t o ht ho => by rw [upd_ne _ _ (ne t (E.fresh _ (by omega) t ht).1)]; exact ho⟩
  · obtain ⟨o, ho⟩ := E.keep t ht
    exact ⟨o, by rw [upd_ne _ _ (fun e => hX (by rw [← e]; exact ht))]; exact ho⟩
theorem Ed.begin {h h1 : Heap} {rN re : Nat} {d : HDoc} {sl : Nat → AVal} (E : Dw [] h h1 rN d sl) (M : ∀ k, k < 2 * d.nodes.length → Mut (sl k)) (hr : h1 re = none) :
    Ed h (upd h1 re (some ⟨.t 127, 3, [[.osl rN 6 0 d.nodes.length, .bool d.quirks, aInt 0]]⟩)) re rN d sl 0 := ⟨E.more hr _, upd_same _ _ _, E.sub.none hr, M⟩
theorem vw_noDoc (h : Heap) : Vw h (.agg [.emp, .bool false]) (.agg (eDoc noDoc)) := Vw.agg' (.cons .emp (.cons (.refl _) .nil))
theorem editN_made (d : HDoc) (e : HEdit) : (if e.do' = 4 then (d.nodes.length : Int) else 0) = editN d e := rfl
def c57 : SFun := ⟨.seq (.reg [⟨some 2, .boxF 24 2 (.t 0), none⟩, ⟨some 3, .boxF 101 12 (.t 1), none⟩, ⟨some 4, .new 24 2 [.emp, .bool false], none⟩, ⟨some 5, .mv (.c (.int .i64 0)), none⟩, ⟨some 6, .mv (.c (.int .i64 0)), none⟩]) (.seq (.seq (.reg [⟨some 10, .ld 2 true (.t 2), none⟩, ⟨some 11, .pcall 50 [.t 10], none⟩, ⟨some 7, .mv (.t 11), none⟩]) (.seq (.reg [⟨some 12, .mv (.t 7), none⟩, ⟨some 13, .bin .neq (.t 12) (.c (.int .i64 0)), none⟩]) (.cond (.t 13) (.seq (.reg [⟨some 14, .bld [.emp, .bool false] [], none⟩, ⟨some 15, .mv (.t 7), none⟩, ⟨none, .st 2 (.t 4) (.t 14), none⟩, ⟨some 5, .mv (.c (.int .i64 0)), none⟩, ⟨some 6, .mv (.t 15), none⟩]) .ret) .skip))) (.seq (.reg [⟨some 16, .ld 2 true (.t 2), none⟩, ⟨some 17, .call (.c (.fn 51 [] [])) [.t 16], none⟩, ⟨some 18, .bld [.emp, .bool false, .int .i64 0] [(0, (2, (.t 17)))], none⟩, ⟨some 19, .box 127 3 (.t 18), none⟩, ⟨some 8, .mv (.t 19), none⟩]) (.seq (.seq (.reg [⟨some 20, .mv (.t 8), none⟩, ⟨some 21, .ld 12 true (.t 3), none⟩, ⟨some 22, .call (.c (.fn 77 [] [])) [.t 20, .t 21], none⟩, ⟨some 9, .mv (.t 22), none⟩]) (.seq (.reg [⟨some 23, .mv (.t 9), none⟩, ⟨some 24, .bin .neq (.t 23) (.c (.int .i64 0)), none⟩]) (.cond (.t 24) (.seq (.reg [⟨some 25, .bld [.emp, .bool false] [], none⟩, ⟨some 26, .mv (.t 9), none⟩, ⟨none, .st 2 (.t 4) (.t 25), none⟩, ⟨some 5, .mv (.c (.int .i64 0)), none⟩, ⟨some 6, .mv (.t 26), none⟩]) .ret) .skip))) (.seq (.dreg [(⟨some 27, .mv (.t 8), none⟩, none), (⟨some 28, .fldA 0 (.t 27), none⟩, none), (⟨some 29, .fldA 0 (.t 28), none⟩, none), (⟨some 30, .ld 2 true (.t 29), none⟩, none), (⟨some 31, .mv (.t 8), none⟩, none), (⟨some 32, .fldA 0 (.t 31), none⟩, none), (⟨some 33, .fldA 2 (.t 32), none⟩, none), (⟨some 34, .ld 1 false (.t 33), none⟩, none), (⟨none, .st 2 (.t 4) (.t 30), none⟩, (some [30])), (⟨some 5, .mv (.t 34), none⟩, none), (⟨some 6, .mv (.c (.int .i64 0)), none⟩, none)]) .ret)))), [.cell 4 2 true, .tmp 5, .tmp 6]⟩
theorem hc57 : toSF Tryd.prog {pure := [50], how := [(19, 6)]} Tryd.f57 = some c57 := by kernel_rfl
theorem hn57 : (Tryd.f57.name == "runtime.NumGoroutine") = false := by kernel_rfl
theorem apply_ok (d : HDoc) (sm : DocSm d) (e : HEdit) (he : EditSm e) : PCalls (Pg G) 57 [.agg (eDoc d), .agg (eEdit e)] (.tup [.agg (eDoc (applyD d e)), aInt (applyN d e), aInt (applyE d e)]) := PCalls.outV fun h => by
  have hC := check_ok (G := G) d sm
  refine dcalls_of_vc Tryd.func57 hn57 hc57 (by rw [Tryd.ntmps57]; simp) (by rw [Tryd.ntmps57]; decide) ?_
  simp -dsimp -implicitDefEqProofs (disch := omega) only [VCA, pg_gl, ↓upd_none, Nat.reduceEqDiff, Nat.reduceBEq, Nat.reduceAdd, Nat.reduceSub, Nat.reduceMul, Nat.reduceLT, Nat.reduceLeDiff, ↓reduceIte, reduceCtorEq, rsOf, rootsOf, SOp.rd, SI.rd, SX.rd, rdL, rdO, rdP, okParts, eqCells, okEqCells, fillA, okFill, setAt, implies_true, forall_const, forall_eq, ne_eq, exists_eq_right_right, exists_eq_right, exists_eq_left, exists_eq_left', rootL, eInt, eBool, lit_eq, c57, eDoc_len, eDoc_take, eDoc_dr, eEdit, List.append_nil]
  intro r4 hr4
  have S4 : ∀ x, Sim.Sub h (upd h r4 (some x)) := fun x => (Sub.refl h).upd hr4
  by_cases h1 : docE d = 0
  · have V := docE_DV h1
    have hp := V.pos
    rw [h1] at hC
    have aE : applyE d e = editE d e := by unfold applyE; rw [if_neg (by simpa using h1)]
    have hOwn := fun hp => own_ok' (G := G) d sm V.pos hp
    repeat' (first | ((with_reducible refine brC (fun _ => ?_) fun _ => ?_) <;> try (exfalso; omega)) | (with_reducible apply pcallE.of; · exact hC) | (with_reducible refine And.intro ?_ ?_; · omega) | simp -dsimp -implicitDefEqProofs (disch := omega) only [VCA, pg_gl, ↓upd_none, Nat.reduceEqDiff, Nat.reduceBEq, Nat.reduceAdd, Nat.reduceSub, Nat.reduceMul, Nat.reduceLT, Nat.reduceLeDiff, ↓reduceIte, reduceCtorEq, rsOf, rootsOf, SOp.rd, SI.rd, SX.rd, rdL, rdO, rdP, okParts, eqCells, okEqCells, fillA, okFill, setAt, implies_true, forall_const, forall_eq, ne_eq, exists_eq_right_right, exists_eq_right, exists_eq_left, exists_eq_left', rootL, eInt, eBool, lit_eq, upd_same, eDoc_len, eDoc_take, eDoc_dr, List.append_nil])
    refine DCalls.of (hOwn _) ?_
    rintro a h2 ⟨rN, sl, rfl, Dw1, M1⟩
    have g4 := Dw1.sub r4 _ (upd_same _ _ _)
    simp -dsimp -implicitDefEqProofs (disch := omega) only [VCA, pg_gl, ↓upd_none, Nat.reduceEqDiff, Nat.reduceBEq, Nat.reduceAdd, Nat.reduceSub, Nat.reduceMul, Nat.reduceLT, Nat.reduceLeDiff, ↓reduceIte, reduceCtorEq, rsOf, rootsOf, SOp.rd, SI.rd, SX.rd, rdL, rdO, rdP, okParts, eqCells, okEqCells, fillA, okFill, setAt, implies_true, forall_const, forall_eq, ne_eq, exists_eq_right_right, exists_eq_right, exists_eq_left, exists_eq_left', rootL, eInt, eBool, lit_eq]
    intro re hre
    have n4 : ¬ r4 = re := fun h => by rw [← h, g4] at hre; cases hre
    have n4' : ¬ re = r4 := fun h => n4 h.symm
    have E := Ed.begin Dw1 M1 hre
    have hEd := eedit_ok (G := G) E V sm e he
    unfold eEdit at hEd
    refine DCalls.of hEd ?_
    rintro a h3 ⟨rfl, hR⟩
    rcases hR with ⟨hne, rfl⟩ | ⟨hz, rN', sl', E3⟩
    · rw [← aE] at hne
      have aD : applyD d e = noDoc := by unfold applyD; rw [if_neg hne]
      have aN : applyN d e = 0 := by unfold applyN; rw [if_neg hne]
      rw [aD, aN, ← aE]
      repeat' (first | ((with_reducible refine brC (fun _ => ?_) fun _ => ?_) <;> try (exfalso; omega)) | (with_reducible refine And.intro ?_ ?_; · omega) | simp -dsimp -implicitDefEqProofs (disch := omega) only [VCA, pg_gl, ↓upd_none, Nat.reduceEqDiff, Nat.reduceBEq, Nat.reduceAdd, Nat.reduceSub, Nat.reduceMul, Nat.reduceLT, Nat.reduceLeDiff, ↓reduceIte, reduceCtorEq, rsOf, rootsOf, SOp.rd, SI.rd, SX.rd, rdL, rdO, rdP, okParts, eqCells, okEqCells, fillA, okFill, setAt, implies_true, forall_const, forall_eq, ne_eq, exists_eq_right_right, exists_eq_right, exists_eq_left, exists_eq_left', rootL, eInt, eBool, lit_eq, hne, n4, n4', g4])
      all_goals try (exfalso; omega)
      have Sh := (S4 _).trans Dw1.sub
      exact ⟨_, Sub.refl _, (Sh.upd (Sh.none hre)).upd hr4, .tup' (.cons (vw_noDoc _) (.cons (.refl _) (.cons (.refl _) .nil)))⟩
    · rw [← aE] at hz
      have aD : applyD d e = editD d e := by unfold applyD; rw [if_pos hz]
      have aN : applyN d e = editN d e := by unfold applyN; rw [if_pos hz]
      rw [aD, aN, hz, ← aE, hz]
      have gE3 := E3.ed
      have g43 := E3.dw.sub r4 _ (upd_same _ _ _)
      repeat' (first | ((with_reducible refine brC (fun _ => ?_) fun _ => ?_) <;> try (exfalso; omega)) | (with_reducible refine And.intro ?_ ?_; · omega) | simp -dsimp -implicitDefEqProofs (disch := omega) only [VCA, pg_gl, ↓upd_none, Nat.reduceEqDiff, Nat.reduceBEq, Nat.reduceAdd, Nat.reduceSub, Nat.reduceMul, Nat.reduceLT, Nat.reduceLeDiff, ↓reduceIte, reduceCtorEq, rsOf, rootsOf, SOp.rd, SI.rd, SX.rd, rdL, rdO, rdP, okParts, eqCells, okEqCells, fillA, okFill, setAt, implies_true, forall_const, forall_eq, ne_eq, exists_eq_right_right, exists_eq_right, exists_eq_left, exists_eq_left', rootL, eInt, eBool, lit_eq, n4, n4', gE3, g43, editN_made])
      all_goals try (exfalso; omega)
      exact ⟨_, Sub.refl _, ((S4 _).trans E3.dw.sub).upd hr4, .tup' (.cons (Vw.agg' (.cons (E3.dw.beside (S4 _) (upd_same _ _ _) hr4 (by simp [n4]) _).new'.vw (.cons (.refl _) .nil))) (.cons (.refl _) (.cons (.refl _) .nil)))⟩
  · have aE : applyE d e = docE d := by unfold applyE; rw [if_pos h1]
    have aD : applyD d e = noDoc := by unfold applyD; rw [aE, if_neg h1]
    have aN : applyN d e = 0 := by unfold applyN; rw [aE, if_neg h1]
    rw [aD, aE, aN]
    repeat' (first | ((with_reducible refine brC (fun _ => ?_) fun _ => ?_) <;> try (exfalso; omega)) | (with_reducible apply pcallE.of; · exact hC) | (with_reducible refine And.intro ?_ ?_; · omega) | simp -dsimp -implicitDefEqProofs (disch := omega) only [VCA, pg_gl, ↓upd_none, Nat.reduceEqDiff, Nat.reduceBEq, Nat.reduceAdd, Nat.reduceSub, Nat.reduceMul, Nat.reduceLT, Nat.reduceLeDiff, ↓reduceIte, reduceCtorEq, rsOf, rootsOf, SOp.rd, SI.rd, SX.rd, rdL, rdO, rdP, okParts, eqCells, okEqCells, fillA, okFill, setAt, implies_true, forall_const, forall_eq, ne_eq, exists_eq_right_right, exists_eq_right, exists_eq_left, exists_eq_left', rootL, eInt, eBool, lit_eq, h1, upd_same])
    exact ⟨_, Sub.refl _, S4 _, .tup' (.cons (vw_noDoc _) (.cons (.refl _) (.cons (.refl _) .nil)))⟩
end Go.Proofs.K
end
section
set_option linter.unusedSimpArgs false
set_option linter.unusedVariables false
namespace Go.Proofs.K
open Go Go.Sim Go.Proofs
variable {G : Glob}
structure Fresh (h h' : Heap) (ty sz : Nat) (cells : List (List AVal)) (a : AVal) : Prop where
  acc : Acc h ty sz cells a h'
theorem Fresh.own {h h' : Heap} {ty sz : Nat} {cells : List (List AVal)} {a : AVal} (F : Fresh h h' ty sz cells a) : OwnS h' ty sz cells a := (OwnS.of_acc F.acc).1
theorem Fresh.live {h h' : Heap} {ty sz : Nat} {cells : List (List AVal)} {a : AVal} (F : Fresh h h' ty sz cells a) : Mut a := (OwnS.of_acc F.acc).2.2
theorem Fresh.new {h h' : Heap} {ty sz : Nat} {cells : List (List AVal)} {a : AVal} (F : Fresh h h' ty sz cells a) : ∀ r, rootOf a = some r → h r = none := (OwnS.of_acc F.acc).2.1
theorem Fresh.keep {h h' h2 : Heap} {ty sz : Nat} {cells : List (List AVal)} {a : AVal} (F : Fresh h h' ty sz cells a) (hk : ∀ r o, rootOf a = some r → h' r = some o → h2 r = some o) : Fresh h h2 ty sz cells a := ⟨by
  rcases F.acc with h1 | ⟨r, h0, h1, h2⟩
  · exact .inl h1
  · exact .inr ⟨r, h0, hk r _ (by rw [h2]; rfl) h1, h2⟩⟩
def c56 : SFun := ⟨.seq (.reg [⟨some 1, .boxF 24 2 (.t 0), none⟩, ⟨some 2, .new 24 2 [.emp, .bool false], none⟩]) (.seq (.reg [⟨some 6, .fldA 1 (.t 1), none⟩, ⟨some 7, .ld 1 false (.t 6), none⟩, ⟨some 8, .bld [.emp, .bool false] [(1, (1, (.t 7)))], none⟩, ⟨some 3, .new 24 2 [.emp, .bool false], none⟩, ⟨none, .st 2 (.t 3) (.t 8), none⟩]) (.seq (.seq (.reg [⟨some 4, .mv (.c (.int .i64 0)), none⟩]) (.block 0 (.loop (.seq (.seq (.reg [⟨some 9, .mv (.t 4), none⟩, ⟨some 10, .fldA 0 (.t 1), none⟩, ⟨some 11, .ld 1 false (.t 10), none⟩, ⟨some 12, .len (.t 11), none⟩, ⟨some 13, .bin .lss (.t 9) (.t 12), none⟩]) (.cond (.t 13) .skip (.exit 0))) (.seq (.block 1 (.seq (.reg [⟨some 16, .fldA 0 (.t 1), none⟩, ⟨some 17, .ld 1 false (.t 16), none⟩, ⟨some 18, .mv (.t 4), none⟩, ⟨some 19, .idxA 6 (.t 17) (.t 18), none⟩, ⟨some 20, .ld 6 true (.t 19), none⟩, ⟨some 5, .new 29 6 [.int .i64 0, .str [], .emp, .str [], .int .i64 0, .emp], none⟩, ⟨none, .st 6 (.t 5) (.t 20), none⟩]) (.seq (.reg [⟨some 21, .bldF 71 2 [], none⟩, ⟨some 22, .fldA 2 (.t 5), none⟩, ⟨some 23, .ld 1 false (.t 22), none⟩, ⟨some 24, .appF 71 2 32 (.t 21) (.t 23), none⟩, ⟨some 25, .fldA 2 (.t 5), none⟩, ⟨none, .st 1 (.t 25) (.t 24), none⟩]) (.seq (.reg [⟨some 26, .bldF 3 1 [], none⟩, ⟨some 27, .fldA 5 (.t 5), none⟩, ⟨some 28, .ld 1 false (.t 27), none⟩, ⟨some 29, .appF 3 1 8 (.t 26) (.t 28), none⟩, ⟨some 30, .fldA 5 (.t 5), none⟩, ⟨none, .st 1 (.t 30) (.t 29), none⟩]) (.reg [⟨some 31, .fldA 0 (.t 3), none⟩, ⟨some 32, .ld 1 false (.t 31), none⟩, ⟨some 33, .ld 6 true (.t 5), none⟩, ⟨some 34, .bldF 29 6 [.t 33], none⟩, ⟨some 35, .app 29 6 96 (.t 32) (.t 34), none⟩, ⟨some 36, .fldA 0 (.t 3), none⟩, ⟨none, .st 1 (.t 36) (.t 35), none⟩]))))) (.reg [⟨some 14, .mv (.t 4), none⟩, ⟨some 15, .bin .add (.t 14) (.c (.int .i64 1)), none⟩, ⟨some 4, .mv (.t 15), none⟩])))))) (.seq (.reg [⟨some 37, .ld 2 true (.t 3), none⟩, ⟨none, .st 2 (.t 2) (.t 37), none⟩]) .ret))), [.cell 2 2 true]⟩
theorem hc56 : toSF Tryd.prog {how := [(24, 8), (29, 8)]} Tryd.f56 = some c56 := by kernel_rfl
theorem hn56 : (Tryd.f56.name == "runtime.NumGoroutine") = false := by kernel_rfl
end Go.Proofs.K
end
section
set_option linter.unusedSimpArgs false
set_option linter.unusedVariables false
namespace Go.Proofs.K
open Go Go.Sim Go.Proofs
variable {G : Glob}
end Go.Proofs.K
end
section
set_option linter.unusedSimpArgs false
set_option linter.unusedVariables false
namespace Go.Proofs.K
open Go Go.Sim Go.Proofs
variable {G : Glob}
theorem DocSm.setN {d : HDoc} {x : HNode} {n : Int} (sm : DocSm d) (hx : NodeSm x) : DocSm (setN d n x) := ⟨by rw [setN_len]; exact sm.len, fun y hy => by
  rcases List.mem_or_eq_of_mem_set hy with h | h
  · exact sm.each y h
  · exact h ▸ hx⟩
theorem Fresh.vw {α : Type} [Inhabited α] {enc : α → List AVal} {h h' : Heap} {ty sz : Nat} [LenE enc sz] {l : List α} {a : AVal} (F : Fresh h h' ty sz (l.map enc) a) : Vw (newH h h') a (sl enc l) :=
  (F.own.keep fun r o hr ho => by rw [newH_none (F.new r hr)]; exact ho).vw
def Vz (a b : AVal) : Prop := ∀ h, Vw h a b
theorem Vz.refl (a : AVal) : Vz a a := fun h => .refl a
theorem Vz.emp : Vz .emp (.slc []) := fun h => .emp
theorem F2.imp' {α : Type} {R S : α → α → Prop} (hi : ∀ a b, R a b → S a b) {l m : List α} (h : F2 R l m) : F2 S l m := by
  induction h with
  | nil => exact .nil
  | cons h _ ih => exact .cons (hi _ _ h) ih
theorem F2.app {α : Type} {R : α → α → Prop} {l m l2 m2 : List α} (h : F2 R l m) (h2 : F2 R l2 m2) : F2 R (l ++ l2) (m ++ m2) := by
  induction h with
  | nil => exact h2
  | cons h _ ih => exact .cons h ih
theorem OwnS.vwk {α : Type} [Inhabited α] {enc : α → List AVal} {h : Heap} {ty sz : Nat} [LenE enc sz] {l : List α} {cells : List (List AVal)} {a : AVal} (O : OwnS h ty sz cells a) (M : Mut a) (hc : F2 (F2 Vz) cells (l.map enc)) : Vw h a (sl enc l) := by
  rcases O.live M with ⟨h1, h2⟩ | ⟨r, es, ha, hr, h1, h2⟩
  · subst h1
    have : l = [] := by
      have := hc.len
      rw [List.length_map] at this
      exact List.eq_nil_of_length_eq_zero this.symm
    subst this; subst h2; exact .emp
  · subst ha
    refine Vw.osl0 hr hc.len.symm h1 (fun f hf => by obtain ⟨x, _, rfl⟩ := List.mem_map.1 hf; exact LenE.len x) ?_
    show F2 _ (es.take _) _
    rw [h2]
    exact F2.imp' (fun _ _ hb => F2.imp' (fun _ _ hw => hw h) hb) hc
theorem Fresh.vwk {α : Type} [Inhabited α] {enc : α → List AVal} {h h' : Heap} {ty sz : Nat} [LenE enc sz] {l : List α} {cells : List (List AVal)} {a : AVal} (F : Fresh h h' ty sz cells a) (hc : F2 (F2 Vz) cells (l.map enc)) : Vw (newH h h') a (sl enc l) :=
  OwnS.vwk (F.own.keep fun r o hr ho => by rw [newH_none (F.new r hr)]; exact ho) F.live hc
end Go.Proofs.K
end
section
set_option linter.unusedSimpArgs false
set_option linter.unusedVariables false
namespace Go.Proofs.K
open Go Go.Sim Go.Proofs
variable {G : Glob}
section
variable {d : HDoc} {n : Int} {A B : List Int}
end
theorem DCalls.res {P : PG} {f : Nat} {args : List AVal} {h : Heap} {K K' : AVal → Heap → Prop} (hd : DCalls P f args h K) (hk : ∀ a h', K a h' → ∃ b, Wk a b ∧ K' b h') : DCalls P f args h K' :=
  ⟨hd.1, fun g w vs H GR V => (hd.2 g w vs H GR V).mono fun e w' ⟨v', a, h', g', he, k0, H', Va, S⟩ => by
    obtain ⟨b, hb, k1⟩ := hk a h' k0
    exact ⟨v', b, h', g', he, k1, H', hb.rel Va, S⟩⟩
end Go.Proofs.K
end
section
set_option linter.unusedSimpArgs false
set_option linter.unusedVariables false
namespace Go.Proofs.K
open Go Go.Sim Go.Proofs
variable {G : Glob}
structure Tw (h h' : Heap) (t1 z1 t2 z2 : Nat) (A B : List (List AVal)) (a b : AVal) : Prop where
  sub : Sim.Sub h h'
  oA : OwnS h' t1 z1 A a
  oB : OwnS h' t2 z2 B b
  mA : Mut a
  mB : Mut b
  nA : ∀ r, rootOf a = some r → h r = none
  nB : ∀ r, rootOf b = some r → h r = none
  ne : ∀ r, rootOf a = some r → rootOf b ≠ some r
section
variable {h h' : Heap} {t1 z1 t2 z2 : Nat} {A B : List (List AVal)} {a b : AVal}
theorem Tw.start : Tw h h t1 z1 t2 z2 [] [] .emp .emp := ⟨Sub.refl _, .inl ⟨rfl, rfl⟩, .inl ⟨rfl, rfl⟩, (fun _ e => by cases e), (fun _ e => by cases e), (fun _ e => by cases e), (fun _ e => by cases e), (fun _ e => by cases e)⟩
theorem Tw.aside (T : Tw h h' t1 z1 t2 z2 A B a b) {r : Nat} (hr : h' r = none) (x : AObj) : Tw h (upd h' r (some x)) t1 z1 t2 z2 A B a b := by
  have k : ∀ t o, h' t = some o → upd h' r (some x) t = some o := fun t o ht => by rw [upd_ne _ _ (fun e => by rw [e, hr] at ht; cases ht)]; exact ht
  exact ⟨(fun t o ht => k t o (T.sub t o ht)), T.oA.keep (fun t o _ ho => k t o ho), T.oB.keep (fun t o _ ho => k t o ho), T.mA, T.mB, T.nA, T.nB, T.ne⟩
theorem Tw.set (T : Tw h h' t1 z1 t2 z2 A B a b) {r : Nat} (h0 : h r = none) (hA : rootOf a ≠ some r) (hB : rootOf b ≠ some r) (x : AObj) : Tw h (upd h' r (some x)) t1 z1 t2 z2 A B a b :=
  ⟨T.sub.upd h0, T.oA.keep (fun t o ht ho => (by rw [upd_ne _ _ (fun e => hA (by rw [ht, e]))]; exact ho)), T.oB.keep (fun t o ht ho => (by rw [upd_ne _ _ (fun e => hB (by rw [ht, e]))]; exact ho)), T.mA, T.mB, T.nA, T.nB, T.ne⟩
theorem Tw.appA (T : Tw h h' t1 z1 t2 z2 A B a b) {y : Nat} {x : List AVal} (h1 : (A.length + 1) * y ≤ 140737488355328) (h2 : A.length + 1 ≤ 140737488355328) {K : AVal → Heap → Prop}
    (hk : ∀ a' h2, Tw h h2 t1 z1 t2 z2 (A ++ [x]) B a' b → (∀ t o, h' t = some o → rootOf a ≠ some t → h2 t = some o) → K a' h2) : Hd (appE t1 z1 y a [x] h') K .mk := by
  refine T.oA.app T.mA (by rw [List.length_singleton]; exact h1) (by rw [List.length_singleton]; exact h2) fun r' h3 q1 q2 q3 => hk _ _ ⟨fun t o ht => q3 t o (T.sub t o ht) (fun e => by rw [T.nA _ e] at ht; cases ht), ?_, T.oB.keep (fun t o ht ho => q3 t o ho (fun e => T.ne _ e ht)), (fun _ e => by cases e), T.mB, fun r hr => ?_, T.nB, fun r hr hb => ?_⟩ q3
  · exact .inr (.inr ⟨r', _, by rw [List.length_append], q1, Nat.le_refl _, by rw [List.take_length]⟩)
  · cases hr
    rcases q2 with q | q
    · exact T.nA _ q
    · exact T.sub.none q
  · cases hr
    rcases q2 with q | q
    · exact T.ne _ q hb
    · obtain ⟨o, ho⟩ := T.oB.root hb; rw [q] at ho; cases ho
theorem Tw.appB (T : Tw h h' t1 z1 t2 z2 A B a b) {y : Nat} {x : List AVal} (h1 : (B.length + 1) * y ≤ 140737488355328) (h2 : B.length + 1 ≤ 140737488355328) {K : AVal → Heap → Prop}
    (hk : ∀ b' h2, Tw h h2 t1 z1 t2 z2 A (B ++ [x]) a b' → (∀ t o, h' t = some o → rootOf b ≠ some t → h2 t = some o) → K b' h2) : Hd (appE t2 z2 y b [x] h') K .mk := by
  have T' : Tw h h' t2 z2 t1 z1 B A b a := ⟨T.sub, T.oB, T.oA, T.mB, T.mA, T.nB, T.nA, fun r h1 h2 => T.ne r h2 h1⟩
  exact T'.appA h1 h2 fun b' h2 T2 q => hk b' h2 ⟨T2.sub, T2.oB, T2.oA, T2.mB, T2.mA, T2.nB, T2.nA, fun r h1 h2 => T2.ne r h2 h1⟩ q
end
def bareN (x : HNode) : HNode := { x with parent := 0, kids := [] }
def rowB (x : HNode) : List AVal := [aInt x.kind, .str x.name, sl eAttr x.attrs, .str x.text, .int .i64 0, .emp]
def treeL (d : HDoc) : List HNode := (below d 0).map fun n => bareN (nd d n)
def treeD (d : HDoc) : List Int := (below d 0).map fun n => deepM d n
theorem rowB_wk (l : List HNode) : F2 (F2 Vz) (l.map rowB) (l.map (eNode ∘ bareN)) := by
  induction l with
  | nil => exact .nil
  | cons x l ih => exact .cons (.cons (.refl _) (.cons (.refl _) (.cons (.refl _) (.cons (.refl _) (.cons (.refl _) (.cons .emp .nil)))))) ih
def c54 : SFun := ⟨.seq (.reg [⟨some 1, .boxF 24 2 (.t 0), none⟩, ⟨some 2, .mv (.c .emp), none⟩, ⟨some 3, .mv (.c .emp), none⟩]) (.seq (.reg [⟨some 4, .mv (.c .emp), none⟩]) (.seq (.reg [⟨some 5, .mv (.c .emp), none⟩]) (.seq (.reg [⟨some 9, .ld 2 true (.t 1), none⟩, ⟨some 10, .pcall 11 [.t 9, .c (.int .i64 0)], none⟩, ⟨some 6, .mv (.t 10), none⟩]) (.seq (.seq (.reg [⟨some 7, .mv (.c (.int .i64 0)), none⟩]) (.block 0 (.loop (.seq (.seq (.reg [⟨some 11, .mv (.t 7), none⟩, ⟨some 12, .mv (.t 6), none⟩, ⟨some 13, .len (.t 12), none⟩, ⟨some 14, .bin .lss (.t 11) (.t 13), none⟩]) (.cond (.t 14) .skip (.exit 0))) (.seq (.block 1 (.seq (.dreg [(⟨some 17, .fldA 0 (.t 1), none⟩, none), (⟨some 18, .ld 1 false (.t 17), none⟩, none), (⟨some 19, .mv (.t 6), none⟩, none), (⟨some 20, .mv (.t 7), none⟩, none), (⟨some 21, .idxA 1 (.t 19) (.t 20), none⟩, none), (⟨some 22, .ld 1 false (.t 21), none⟩, none), (⟨some 23, .idxA 6 (.t 18) (.t 22), none⟩, none), (⟨some 24, .ld 6 true (.t 23), none⟩, none), (⟨some 8, .new 29 6 [.int .i64 0, .str [], .emp, .str [], .int .i64 0, .emp], none⟩, (some [])), (⟨none, .st 6 (.t 8) (.t 24), none⟩, (some [24, 18, 22]))]) (.seq (.reg [⟨some 25, .fldA 4 (.t 8), none⟩, ⟨none, .st 1 (.t 25) (.c (.int .i64 0)), none⟩]) (.seq (.reg [⟨some 26, .fldA 5 (.t 8), none⟩, ⟨none, .st 1 (.t 26) (.c .emp), none⟩]) (.seq (.reg [⟨some 27, .mv (.t 4), none⟩, ⟨some 28, .ld 6 true (.t 8), none⟩, ⟨some 29, .bldF 29 6 [.t 28], none⟩, ⟨some 30, .app 29 6 96 (.t 27) (.t 29), none⟩, ⟨some 4, .mv (.t 30), none⟩]) (.dreg [(⟨some 31, .mv (.t 5), none⟩, none), (⟨some 32, .ld 2 true (.t 1), none⟩, none), (⟨some 33, .mv (.t 6), none⟩, none), (⟨some 34, .mv (.t 7), none⟩, none), (⟨some 35, .idxA 1 (.t 33) (.t 34), none⟩, none), (⟨some 36, .ld 1 false (.t 35), none⟩, none), (⟨some 37, .pcall 36 [.t 32, .t 36], none⟩, none), (⟨some 38, .bldF 3 1 [.t 37], none⟩, none), (⟨some 39, .app 3 1 8 (.t 31) (.t 38), none⟩, (some [32, 36])), (⟨some 5, .mv (.t 39), none⟩, (some [32, 36]))])))))) (.reg [⟨some 15, .mv (.t 7), none⟩, ⟨some 16, .bin .add (.t 15) (.c (.int .i64 1)), none⟩, ⟨some 7, .mv (.t 16), none⟩])))))) (.seq (.reg [⟨some 40, .mv (.t 4), none⟩, ⟨some 41, .mv (.t 5), none⟩, ⟨some 2, .mv (.t 40), none⟩, ⟨some 3, .mv (.t 41), none⟩]) .ret))))), [.tmp 2, .tmp 3]⟩
theorem hc54 : toSF Tryd.prog {pure := [11, 36]} Tryd.f54 = some c54 := by kernel_rfl
theorem hn54 : (Tryd.f54.name == "runtime.NumGoroutine") = false := by kernel_rfl
set_option maxHeartbeats 1000000 in
set_option maxRecDepth 10000 in
theorem treeText_ok (d : HDoc) (V : DV d) (sm : DocSm d) : PCalls (Pg G) 54 [.agg (eDoc d)] (.tup [sl eNode (treeL d), sl eInt (treeD d)]) := PCalls.outV fun h => by
  have hl := V.len
  have hp := V.pos
  have hBe := below_ok (G := G) d V sm 0 V.zero
  have bin := below_in V 0 V.zero
  have bl := below_len V V.zero
  have hDe := fun n hn => deep_ok (G := G) d sm (fun n hn h0 => (V.par_in hn h0).1) n hn
  unfold treeL treeD
  obtain ⟨L, hL⟩ : ∃ L, below d 0 = L := ⟨_, rfl⟩
  rw [hL] at hBe bin bl ⊢
  simp only [eDoc] at hBe hDe
  refine dcalls_of_vc Tryd.func54 hn54 hc54 (by rw [Tryd.ntmps54]; simp) (by rw [Tryd.ntmps54]; decide) ?_
  simp -dsimp -implicitDefEqProofs (disch := omega) only [VCA, pg_gl, ↓upd_none, Nat.reduceEqDiff, Nat.reduceBEq, Nat.reduceAdd, Nat.reduceSub, Nat.reduceMul, Nat.reduceLT, Nat.reduceLeDiff, ↓reduceIte, reduceCtorEq, rsOf, rootsOf, SOp.rd, SI.rd, SX.rd, rdL, rdO, rdP, okParts, eqCells, okEqCells, fillA, okFill, setAt, implies_true, forall_const, forall_eq, ne_eq, exists_eq_right_right, exists_eq_right, exists_eq_left, exists_eq_left', rootL, eInt, eBool, lit_eq, c54, eDoc]
  repeat' (first | ((with_reducible refine brC (fun _ => ?_) fun _ => ?_) <;> try (exfalso; omega)) | (with_reducible apply pcallE.of; · exact hBe) | (with_reducible refine And.intro ?_ ?_; · omega) | simp -dsimp -implicitDefEqProofs (disch := omega) only [VCA, pg_gl, ↓upd_none, Nat.reduceEqDiff, Nat.reduceBEq, Nat.reduceAdd, Nat.reduceSub, Nat.reduceMul, Nat.reduceLT, Nat.reduceLeDiff, ↓reduceIte, reduceCtorEq, rsOf, rootsOf, SOp.rd, SI.rd, SX.rd, rdL, rdO, rdP, okParts, eqCells, okEqCells, fillA, okFill, setAt, implies_true, forall_const, forall_eq, ne_eq, exists_eq_right_right, exists_eq_right, exists_eq_left, exists_eq_left', rootL, eInt, eBool, lit_eq, eDoc])
  all_goals try (exfalso; omega)
  refine LoopVC.intro (fun m e h' => ∃ (k : Nat) (a b : AVal), k ≤ L.length ∧ m = L.length - k ∧ e 1 = .pin (eDoc d) ∧ e 4 = a ∧ e 5 = b ∧ e 6 = sl eInt L ∧ e 7 = aInt k ∧ Tw h h' 29 6 3 1 ((L.take k).map fun n => rowB (nd d n)) ((L.take k).map fun n => eInt (deepM d n)) a b) L.length ⟨0, .emp, .emp, by omega, rfl, rfl, rfl, rfl, rfl, rfl, Tw.start⟩ ?_
  rintro m e h' ⟨k, a, b, hk, rfl, e1, e4, e5, e6, e7, T⟩
  have iA := T.oA.isV
  have iB := T.oB.isV
  have iA1 := iA.1
  have iA2 := iA.2
  have iB1 := iB.1
  have iB2 := iB.2
  simp -dsimp -implicitDefEqProofs (disch := omega) only [VCA, pg_gl, ↓upd_none, Nat.reduceEqDiff, Nat.reduceBEq, Nat.reduceAdd, Nat.reduceSub, Nat.reduceMul, Nat.reduceLT, Nat.reduceLeDiff, ↓reduceIte, reduceCtorEq, rsOf, rootsOf, SOp.rd, SI.rd, SX.rd, rdL, rdO, rdP, okParts, eqCells, okEqCells, fillA, okFill, setAt, implies_true, forall_const, forall_eq, ne_eq, exists_eq_right_right, exists_eq_right, exists_eq_left, exists_eq_left', rootL, eInt, eBool, lit_eq, e1, e4, e5, e6, e7, iA1, iA2, iB1, iB2]
  refine Br.dec (fun hk1 => ?_) (fun hk1 => ?_)
  · have hkl : k < L.length := by omega
    obtain ⟨n, hn⟩ : ∃ n, nth L k = n := ⟨_, rfl⟩
    have hmem : n ∈ L := by rw [← hn]; exact nth_mem' hkl
    have hin := bin n hmem
    have i0 := hin.1
    have i1 := hin.2
    have e0 : nth d.nodes n.toNat = nd d n := rfl
    obtain ⟨x, hx⟩ : ∃ x, nd d n = x := ⟨_, rfl⟩
    rw [hx] at e0
    have k0 : (0 : Int) ≤ k := by omega
    simp -dsimp -implicitDefEqProofs (disch := omega) only [VCA, pg_gl, ↓upd_none, Nat.reduceEqDiff, Nat.reduceBEq, Nat.reduceAdd, Nat.reduceSub, Nat.reduceMul, Nat.reduceLT, Nat.reduceLeDiff, ↓reduceIte, reduceCtorEq, rsOf, rootsOf, SOp.rd, SI.rd, SX.rd, rdL, rdO, rdP, okParts, eqCells, okEqCells, fillA, okFill, setAt, implies_true, forall_const, forall_eq, ne_eq, exists_eq_right_right, exists_eq_right, exists_eq_left, exists_eq_left', rootL, eInt, eBool, lit_eq, e1, e4, e5, e6, e7, iA1, iA2, iB1, iB2, hn, e0, eDoc, eNode, i0, i1, k0, hk1]
    intro r hr
    have hrA : rootOf a ≠ some r := fun e => by obtain ⟨o, ho⟩ := T.oA.root e; rw [hr] at ho; cases ho
    have hrB : rootOf b ≠ some r := fun e => by obtain ⟨o, ho⟩ := T.oB.root e; rw [hr] at ho; cases ho
    have lk : (L.take k).length = k := by rw [List.length_take]; omega
    have T1 := T.aside hr ⟨29, 6, [rowB x]⟩
    refine T1.appA (by rw [List.length_map, lk]; omega) (by rw [List.length_map, lk]; omega) fun a' h2 T2 q2 => ?_
    have hD := hDe n hin
    have iB := T2.oB.isV
    have iB1 := iB.1
    have iB2 := iB.2
    repeat' (first | ((with_reducible refine brC (fun _ => ?_) fun _ => ?_) <;> try (exfalso; omega)) | (with_reducible apply pcallE.of; · exact hD) | (with_reducible refine And.intro ?_ ?_; · omega) | simp -dsimp -implicitDefEqProofs (disch := omega) only [VCA, pg_gl, ↓upd_none, Nat.reduceEqDiff, Nat.reduceBEq, Nat.reduceAdd, Nat.reduceSub, Nat.reduceMul, Nat.reduceLT, Nat.reduceLeDiff, ↓reduceIte, reduceCtorEq, rsOf, rootsOf, SOp.rd, SI.rd, SX.rd, rdL, rdO, rdP, okParts, eqCells, okEqCells, fillA, okFill, setAt, implies_true, forall_const, forall_eq, ne_eq, exists_eq_right_right, exists_eq_right, exists_eq_left, exists_eq_left', rootL, eInt, eBool, lit_eq, e1, e4, e5, e6, e7, hn, eDoc])
    refine T2.appB (by rw [List.length_map, lk]; omega) (by rw [List.length_map, lk]; omega) fun b' h3 T3 q3 => ?_
    simp -dsimp -implicitDefEqProofs (disch := omega) only [VCA, pg_gl, ↓upd_none, Nat.reduceEqDiff, Nat.reduceBEq, Nat.reduceAdd, Nat.reduceSub, Nat.reduceMul, Nat.reduceLT, Nat.reduceLeDiff, ↓reduceIte, reduceCtorEq, rsOf, rootsOf, SOp.rd, SI.rd, SX.rd, rdL, rdO, rdP, okParts, eqCells, okEqCells, fillA, okFill, setAt, implies_true, forall_const, forall_eq, ne_eq, exists_eq_right_right, exists_eq_right, exists_eq_left, exists_eq_left', rootL, eInt, eBool, lit_eq, e1, e4, e5, e6, e7]
    have tk : L.take (k + 1) = L.take k ++ [n] := by rw [← hn]; exact take_snoc hkl
    refine ⟨L.length - (k + 1), by omega, k + 1, a', b', hkl, rfl, rfl, rfl, rfl, rfl, ?_⟩
    rw [tk]
    simp only [List.map_append, List.map_cons, List.map_nil, hx]
    exact T3
  · have hkE : k = L.length := by omega
    subst hkE
    simp -dsimp -implicitDefEqProofs (disch := omega) only [VCA, pg_gl, ↓upd_none, Nat.reduceEqDiff, Nat.reduceBEq, Nat.reduceAdd, Nat.reduceSub, Nat.reduceMul, Nat.reduceLT, Nat.reduceLeDiff, ↓reduceIte, reduceCtorEq, rsOf, rootsOf, SOp.rd, SI.rd, SX.rd, rdL, rdO, rdP, okParts, eqCells, okEqCells, fillA, okFill, setAt, implies_true, forall_const, forall_eq, ne_eq, exists_eq_right_right, exists_eq_right, exists_eq_left, exists_eq_left', rootL, eInt, eBool, lit_eq, e1, e4, e5, e6, e7, iA1, iA2, iB1, iB2]
    rw [List.take_length] at T
    have na : ∀ r, rootOf a = some r → newH h h' r = h' r := fun r hr => newH_none (T.nA r hr)
    have nb : ∀ r, rootOf b = some r → newH h h' r = h' r := fun r hr => newH_none (T.nB r hr)
    have rw1 : (L.map fun n => rowB (nd d n)) = (L.map fun n => nd d n).map rowB := by rw [List.map_map]; rfl
    have rw2 : (L.map fun n => bareN (nd d n)) = (L.map fun n => nd d n).map bareN := by rw [List.map_map]; rfl
    have rw3 : (L.map fun n => eInt (deepM d n)) = (L.map fun n => deepM d n).map eInt := by rw [List.map_map]; rfl
    have TA := T.oA
    have TB := T.oB
    rw [rw1] at TA
    rw [rw3] at TB
    refine ⟨h', Sub.refl _, T.sub, .tup' (.cons ?_ (.cons ?_ .nil))⟩
    · rw [rw2]
      refine OwnS.vwk (TA.keep fun r o hr ho => by rw [na r hr]; exact ho) T.mA ?_
      generalize (L.map fun n => nd d n) = M
      rw [List.map_map]
      exact rowB_wk _
    · exact (TB.keep fun r o hr ho => by rw [nb r hr]; exact ho).vw
theorem treeL_len (d : HDoc) : (treeL d).length = (treeD d).length := by unfold treeL treeD; rw [List.length_map, List.length_map]
theorem bareN_sm {x : HNode} (h : NodeSm x) : NodeSm (bareN x) := by
  exact ⟨h.name, h.attrs, h.each, h.text, Nat.zero_le _⟩
theorem treeL_sm {d : HDoc} (sm : DocSm d) (k : Nat) : NodeSm (nth (treeL d) k) := by
  by_cases hk : k < (treeL d).length
  · have := nth_mem' hk
    unfold treeL at this
    obtain ⟨n, _, hn⟩ := List.mem_map.1 this
    unfold treeL
    rw [← hn]; exact bareN_sm (sm.nd n)
  · rw [nth_def hk]; exact nodeSm_default
def sameTreeM (a b : HDoc) : Bool := docE a == 0 && docE b == 0 && a.quirks == b.quirks && treeD a == treeD b && treeL a == treeL b
def c25 : SFun := ⟨.seq (.reg [⟨some 2, .boxF 24 2 (.t 0), none⟩, ⟨some 3, .boxF 24 2 (.t 1), none⟩, ⟨some 4, .mv (.c (.bool false)), none⟩]) (.seq (.seq (.reg [⟨some 10, .ld 2 true (.t 2), none⟩, ⟨some 11, .pcall 10 [.t 10], none⟩, ⟨some 12, .bin .neq (.t 11) (.c (.int .i64 0)), none⟩, ⟨some 13, .mv (.t 12), none⟩, ⟨some 14, .ld 2 true (.t 3), some (13, false)⟩, ⟨some 15, .pcall 10 [.t 14], some (13, false)⟩, ⟨some 16, .bin .neq (.t 15) (.c (.int .i64 0)), some (13, false)⟩, ⟨some 17, .pick (.t 13) (.c (.bool true)) (.t 16), none⟩, ⟨some 18, .mv (.t 17), none⟩, ⟨some 19, .fldA 1 (.t 2), some (18, false)⟩, ⟨some 20, .ld 1 false (.t 19), some (18, false)⟩, ⟨some 21, .fldA 1 (.t 3), some (18, false)⟩, ⟨some 22, .ld 1 false (.t 21), some (18, false)⟩, ⟨some 23, .eqb true (.t 20) (.t 22), some (18, false)⟩, ⟨some 24, .pick (.t 18) (.c (.bool true)) (.t 23), none⟩]) (.cond (.t 24) (.seq (.reg [⟨some 4, .mv (.c (.bool false)), none⟩]) .ret) .skip)) (.seq (.reg [⟨some 26, .ld 2 true (.t 2), none⟩, ⟨some 27, .pcall 54 [.t 26], none⟩, ⟨some 25, .mv (.t 27), none⟩, ⟨some 28, .ext (.t 25) 0, none⟩, ⟨some 29, .ext (.t 25) 1, none⟩, ⟨some 5, .mv (.t 28), none⟩, ⟨some 6, .mv (.t 29), none⟩]) (.seq (.reg [⟨some 31, .ld 2 true (.t 3), none⟩, ⟨some 32, .pcall 54 [.t 31], none⟩, ⟨some 30, .mv (.t 32), none⟩, ⟨some 33, .ext (.t 30) 0, none⟩, ⟨some 34, .ext (.t 30) 1, none⟩, ⟨some 7, .mv (.t 33), none⟩, ⟨some 8, .mv (.t 34), none⟩]) (.seq (.seq (.reg [⟨some 35, .mv (.t 6), none⟩, ⟨some 36, .mv (.t 8), none⟩, ⟨some 37, .pcall 13 [.t 35, .t 36], none⟩, ⟨some 38, .un .not (.t 37), none⟩]) (.cond (.t 38) (.seq (.reg [⟨some 4, .mv (.c (.bool false)), none⟩]) .ret) .skip)) (.seq (.seq (.reg [⟨some 9, .mv (.c (.int .i64 0)), none⟩]) (.block 0 (.loop (.seq (.seq (.reg [⟨some 39, .mv (.t 9), none⟩, ⟨some 40, .mv (.t 5), none⟩, ⟨some 41, .len (.t 40), none⟩, ⟨some 42, .bin .lss (.t 39) (.t 41), none⟩]) (.cond (.t 42) .skip (.exit 0))) (.seq (.block 1 (.seq (.dreg [(⟨some 45, .mv (.t 5), none⟩, none), (⟨some 46, .mv (.t 9), none⟩, none), (⟨some 47, .idxA 6 (.t 45) (.t 46), none⟩, none), (⟨some 48, .ld 6 true (.t 47), none⟩, none), (⟨some 49, .mv (.t 7), none⟩, none), (⟨some 50, .mv (.t 9), none⟩, none), (⟨some 51, .idxA 6 (.t 49) (.t 50), none⟩, none), (⟨some 52, .ld 6 true (.t 51), none⟩, none), (⟨some 53, .pcall 55 [.t 48, .t 52], none⟩, none), (⟨some 54, .un .not (.t 53), none⟩, none)]) (.cond (.t 54) (.seq (.reg [⟨some 4, .mv (.c (.bool false)), none⟩]) .ret) .skip))) (.reg [⟨some 43, .mv (.t 9), none⟩, ⟨some 44, .bin .add (.t 43) (.c (.int .i64 1)), none⟩, ⟨some 9, .mv (.t 44), none⟩])))))) (.seq (.reg [⟨some 4, .mv (.c (.bool true)), none⟩]) .ret)))))), [.tmp 4]⟩
theorem hc25 : toSF Tryd.prog {pure := [10, 54, 13, 55]} Tryd.f25 = some c25 := by kernel_rfl
theorem hn25 : (Tryd.f25.name == "runtime.NumGoroutine") = false := by kernel_rfl
set_option maxHeartbeats 1000000 in
theorem sameTree_ok (a b : HDoc) (sa : DocSm a) (sb : DocSm b) : PCalls (Pg G) 25 [.agg (eDoc a), .agg (eDoc b)] (.bool (sameTreeM a b)) := fun h => by
  have hC1 := docErr_ok (G := G) a sa
  have hC2 := docErr_ok (G := G) b sb
  simp only [eDoc] at hC1 hC2
  unfold sameTreeM
  by_cases ha : docE a = 0
  · by_cases hb : docE b = 0
    · by_cases hq : a.quirks = b.quirks
      · have Va := docE_DV ha
        have Vb := docE_DV hb
        have hT1 := treeText_ok (G := G) a Va sa
        have hT2 := treeText_ok (G := G) b Vb sb
        have lA := treeL_len a
        have lB := treeL_len b
        have mA : (treeL a).length ≤ 200 := by unfold treeL; rw [List.length_map]; exact Nat.le_trans (below_len Va Va.zero) Va.len
        have mB : (treeL b).length ≤ 200 := by unfold treeL; rw [List.length_map]; exact Nat.le_trans (below_len Vb Vb.zero) Vb.len
        have hS := sameN_ok (G := G) (treeD a) (treeD b) (by omega) (by omega)
        have hN := fun k => sameNode_ok (G := G) (nth (treeL a) k) (nth (treeL b) k) (treeL_sm sa k) (treeL_sm sb k)
        simp only [eDoc] at hT1 hT2
        rw [hq] at hT1 hC1
        rw [ha] at hC1
        rw [hb] at hC2
        rw [ha, hb, hq]
        have q0 : (b.quirks != b.quirks) = false := by simp
        refine dcalls_of_vc Tryd.func25 hn25 hc25 (by rw [Tryd.ntmps25]; simp) (by rw [Tryd.ntmps25]; decide) ?_
        simp -dsimp -implicitDefEqProofs (disch := omega) only [↓vcOps_sp 13, ↓vcD_sp 13, ↓vcOps_sp 18, ↓vcD_sp 18, VCA, pg_gl, ↓upd_none, Nat.reduceEqDiff, Nat.reduceBEq, Nat.reduceAdd, Nat.reduceSub, Nat.reduceMul, Nat.reduceLT, Nat.reduceLeDiff, ↓reduceIte, reduceCtorEq, rsOf, rootsOf, SOp.rd, SI.rd, SX.rd, rdL, rdO, rdP, okParts, eqCells, okEqCells, fillA, okFill, setAt, implies_true, forall_const, forall_eq, ne_eq, exists_eq_right_right, exists_eq_right, exists_eq_left, exists_eq_left', rootL, eInt, eBool, lit_eq, c25, eDoc, hq]
        repeat' (first | ((with_reducible refine brC (fun _ => ?_) fun _ => ?_) <;> try (exfalso; omega)) | (with_reducible apply pcallE.of; · exact hC1) | (with_reducible apply pcallE.of; · exact hC2) | (with_reducible apply pcallE.of; · exact hT1) | (with_reducible apply pcallE.of; · exact hT2) | (with_reducible apply pcallE.of; · exact hS) | (with_reducible refine And.intro ?_ ?_; · omega) | simp -dsimp -implicitDefEqProofs (disch := omega) only [↓vcOps_sp 13, ↓vcD_sp 13, ↓vcOps_sp 18, ↓vcD_sp 18, VCA, pg_gl, ↓upd_none, Nat.reduceEqDiff, Nat.reduceBEq, Nat.reduceAdd, Nat.reduceSub, Nat.reduceMul, Nat.reduceLT, Nat.reduceLeDiff, ↓reduceIte, reduceCtorEq, rsOf, rootsOf, SOp.rd, SI.rd, SX.rd, rdL, rdO, rdP, okParts, eqCells, okEqCells, fillA, okFill, setAt, implies_true, forall_const, forall_eq, ne_eq, exists_eq_right_right, exists_eq_right, exists_eq_left, exists_eq_left', rootL, eInt, eBool, lit_eq, eDoc, hq, q0])
        · rename_i hx; exact absurd rfl hx
        · rename_i hx
          have hb0 : (treeD a == treeD b) = false := beq_eq_false_iff_ne.2 hx
          exact ⟨Sub.refl _, by rw [hb0]; simp⟩
        · rename_i hx
          have lE : (treeL a).length = (treeL b).length := by rw [lA, lB, hx]
          have hb1 : ∀ c : Bool, (0 == (0 : Int) && 0 == (0 : Int) && b.quirks == b.quirks && treeD a == treeD b && c) = c := fun c => by rw [hx]; simp
          refine LoopVC.intro (fun m e h' => ∃ k : Nat, k ≤ (treeL a).length ∧ m = (treeL a).length - k ∧ e 5 = sl eNode (treeL a) ∧ e 7 = sl eNode (treeL b) ∧ e 9 = aInt k ∧ h' = h ∧ ∀ j, j < k → nth (treeL a) j = nth (treeL b) j) (treeL a).length ⟨0, by omega, by omega, rfl, rfl, rfl, rfl, fun j hj => absurd hj (Nat.not_lt_zero j)⟩ ?_
          rintro m e h' ⟨k, hk, rfl, he5, he7, he9, rfl, hj⟩
          simp -dsimp -implicitDefEqProofs (disch := omega) only [↓vcOps_sp 13, ↓vcD_sp 13, ↓vcOps_sp 18, ↓vcD_sp 18, VCA, pg_gl, ↓upd_none, Nat.reduceEqDiff, Nat.reduceBEq, Nat.reduceAdd, Nat.reduceSub, Nat.reduceMul, Nat.reduceLT, Nat.reduceLeDiff, ↓reduceIte, reduceCtorEq, rsOf, rootsOf, SOp.rd, SI.rd, SX.rd, rdL, rdO, rdP, okParts, eqCells, okEqCells, fillA, okFill, setAt, implies_true, forall_const, forall_eq, ne_eq, exists_eq_right_right, exists_eq_right, exists_eq_left, exists_eq_left', rootL, eInt, eBool, lit_eq, he5, he7, he9]
          refine Br.dec (fun hlt => ?_) (fun hge => ?_)
          · have hNk := hN k
            obtain ⟨x, hx1⟩ : ∃ x, nth (treeL a) k = x := ⟨_, rfl⟩
            obtain ⟨y, hy1⟩ : ∃ y, nth (treeL b) k = y := ⟨_, rfl⟩
            rw [hx1, hy1] at hNk
            simp only [eNode] at hNk
            have k1 : (k : Int) < (treeL b).length := by omega
            have k0 : (0 : Int) ≤ k := by omega
            repeat' (first | ((with_reducible refine brC (fun _ => ?_) fun _ => ?_) <;> try (exfalso; omega)) | (with_reducible apply pcallE.of; · exact hNk) | (with_reducible refine And.intro ?_ ?_; · omega) | simp -dsimp -implicitDefEqProofs (disch := omega) only [↓vcOps_sp 13, ↓vcD_sp 13, ↓vcOps_sp 18, ↓vcD_sp 18, VCA, pg_gl, ↓upd_none, Nat.reduceEqDiff, Nat.reduceBEq, Nat.reduceAdd, Nat.reduceSub, Nat.reduceMul, Nat.reduceLT, Nat.reduceLeDiff, ↓reduceIte, reduceCtorEq, rsOf, rootsOf, SOp.rd, SI.rd, SX.rd, rdL, rdO, rdP, okParts, eqCells, okEqCells, fillA, okFill, setAt, implies_true, forall_const, forall_eq, ne_eq, exists_eq_right_right, exists_eq_right, exists_eq_left, exists_eq_left', rootL, eInt, eBool, lit_eq, he5, he7, he9, hx1, hy1, eNode, hlt, k0, k1])
            · rename_i hne
              have hb0 : (treeL a == treeL b) = false := beq_eq_false_iff_ne.2 fun e => hne (by rw [← hx1, ← hy1, e])
              exact ⟨Sub.refl _, by rw [hb1, hb0]⟩
            · rename_i hxy
              refine ⟨_, ?_, k + 1, by omega, rfl, by omega, fun j hj' => ?_⟩
              · omega
              · by_cases h3 : j = k
                · subst h3; rw [hx1, hy1]; exact hxy
                · exact hj j (by omega)
          · simp -dsimp -implicitDefEqProofs (disch := omega) only [↓vcOps_sp 13, ↓vcD_sp 13, ↓vcOps_sp 18, ↓vcD_sp 18, VCA, pg_gl, ↓upd_none, Nat.reduceEqDiff, Nat.reduceBEq, Nat.reduceAdd, Nat.reduceSub, Nat.reduceMul, Nat.reduceLT, Nat.reduceLeDiff, ↓reduceIte, reduceCtorEq, rsOf, rootsOf, SOp.rd, SI.rd, SX.rd, rdL, rdO, rdP, okParts, eqCells, okEqCells, fillA, okFill, setAt, implies_true, forall_const, forall_eq, ne_eq, exists_eq_right_right, exists_eq_right, exists_eq_left, exists_eq_left', rootL, eInt, eBool, lit_eq]
            have : treeL a = treeL b := ext_nth lE (fun j hj' => hj j (by omega))
            rw [hb1, this]
            exact ⟨Sub.refl _, by simp⟩
      · have hb0 : (a.quirks == b.quirks) = false := beq_eq_false_iff_ne.2 hq
        have hb1 : (a.quirks != b.quirks) = true := by rw [bne, hb0]; rfl
        rw [ha] at hC1
        rw [hb] at hC2
        rw [ha, hb, hb0]
        refine dcalls_of_vc Tryd.func25 hn25 hc25 (by rw [Tryd.ntmps25]; simp) (by rw [Tryd.ntmps25]; decide) ?_
        simp -dsimp -implicitDefEqProofs (disch := omega) only [↓vcOps_sp 13, ↓vcD_sp 13, ↓vcOps_sp 18, ↓vcD_sp 18, VCA, pg_gl, ↓upd_none, Nat.reduceEqDiff, Nat.reduceBEq, Nat.reduceAdd, Nat.reduceSub, Nat.reduceMul, Nat.reduceLT, Nat.reduceLeDiff, ↓reduceIte, reduceCtorEq, rsOf, rootsOf, SOp.rd, SI.rd, SX.rd, rdL, rdO, rdP, okParts, eqCells, okEqCells, fillA, okFill, setAt, implies_true, forall_const, forall_eq, ne_eq, exists_eq_right_right, exists_eq_right, exists_eq_left, exists_eq_left', rootL, eInt, eBool, lit_eq, c25, eDoc]
        repeat' (first | ((with_reducible refine brC (fun _ => ?_) fun _ => ?_) <;> try (exfalso; omega)) | (with_reducible apply pcallE.of; · exact hC1) | (with_reducible apply pcallE.of; · exact hC2) | (with_reducible refine And.intro ?_ ?_; · omega) | simp -dsimp -implicitDefEqProofs (disch := omega) only [↓vcOps_sp 13, ↓vcD_sp 13, ↓vcOps_sp 18, ↓vcD_sp 18, VCA, pg_gl, ↓upd_none, Nat.reduceEqDiff, Nat.reduceBEq, Nat.reduceAdd, Nat.reduceSub, Nat.reduceMul, Nat.reduceLT, Nat.reduceLeDiff, ↓reduceIte, reduceCtorEq, rsOf, rootsOf, SOp.rd, SI.rd, SX.rd, rdL, rdO, rdP, okParts, eqCells, okEqCells, fillA, okFill, setAt, implies_true, forall_const, forall_eq, ne_eq, exists_eq_right_right, exists_eq_right, exists_eq_left, exists_eq_left', rootL, eInt, eBool, lit_eq, eDoc, hb1])
        · exact ⟨Sub.refl _, by simp⟩
        · rename_i hx; exact absurd hx hq
    · have hb0 : (docE b == 0) = false := beq_eq_false_iff_ne.2 hb
      have hb1 : (docE b != 0) = true := by rw [bne, hb0]; rfl
      rw [ha] at hC1
      rw [ha, hb0]
      refine dcalls_of_vc Tryd.func25 hn25 hc25 (by rw [Tryd.ntmps25]; simp) (by rw [Tryd.ntmps25]; decide) ?_
      simp -dsimp -implicitDefEqProofs (disch := omega) only [↓vcOps_sp 13, ↓vcD_sp 13, ↓vcOps_sp 18, ↓vcD_sp 18, VCA, pg_gl, ↓upd_none, Nat.reduceEqDiff, Nat.reduceBEq, Nat.reduceAdd, Nat.reduceSub, Nat.reduceMul, Nat.reduceLT, Nat.reduceLeDiff, ↓reduceIte, reduceCtorEq, rsOf, rootsOf, SOp.rd, SI.rd, SX.rd, rdL, rdO, rdP, okParts, eqCells, okEqCells, fillA, okFill, setAt, implies_true, forall_const, forall_eq, ne_eq, exists_eq_right_right, exists_eq_right, exists_eq_left, exists_eq_left', rootL, eInt, eBool, lit_eq, c25, eDoc]
      repeat' (first | ((with_reducible refine brC (fun _ => ?_) fun _ => ?_) <;> try (exfalso; omega)) | (with_reducible apply pcallE.of; · exact hC1) | (with_reducible apply pcallE.of; · exact hC2) | (with_reducible refine And.intro ?_ ?_; · omega) | simp -dsimp -implicitDefEqProofs (disch := omega) only [↓vcOps_sp 13, ↓vcD_sp 13, ↓vcOps_sp 18, ↓vcD_sp 18, VCA, pg_gl, ↓upd_none, Nat.reduceEqDiff, Nat.reduceBEq, Nat.reduceAdd, Nat.reduceSub, Nat.reduceMul, Nat.reduceLT, Nat.reduceLeDiff, ↓reduceIte, reduceCtorEq, rsOf, rootsOf, SOp.rd, SI.rd, SX.rd, rdL, rdO, rdP, okParts, eqCells, okEqCells, fillA, okFill, setAt, implies_true, forall_const, forall_eq, ne_eq, exists_eq_right_right, exists_eq_right, exists_eq_left, exists_eq_left', rootL, eInt, eBool, lit_eq, eDoc, hb1])
      exact ⟨Sub.refl _, by simp⟩
  · have hb0 : (docE a == 0) = false := beq_eq_false_iff_ne.2 ha
    have hb1 : (docE a != 0) = true := by rw [bne, hb0]; rfl
    rw [hb0]
    refine dcalls_of_vc Tryd.func25 hn25 hc25 (by rw [Tryd.ntmps25]; simp) (by rw [Tryd.ntmps25]; decide) ?_
    simp -dsimp -implicitDefEqProofs (disch := omega) only [↓vcOps_sp 13, ↓vcD_sp 13, ↓vcOps_sp 18, ↓vcD_sp 18, VCA, pg_gl, ↓upd_none, Nat.reduceEqDiff, Nat.reduceBEq, Nat.reduceAdd, Nat.reduceSub, Nat.reduceMul, Nat.reduceLT, Nat.reduceLeDiff, ↓reduceIte, reduceCtorEq, rsOf, rootsOf, SOp.rd, SI.rd, SX.rd, rdL, rdO, rdP, okParts, eqCells, okEqCells, fillA, okFill, setAt, implies_true, forall_const, forall_eq, ne_eq, exists_eq_right_right, exists_eq_right, exists_eq_left, exists_eq_left', rootL, eInt, eBool, lit_eq, c25, eDoc]
    repeat' (first | ((with_reducible refine brC (fun _ => ?_) fun _ => ?_) <;> try (exfalso; omega)) | (with_reducible apply pcallE.of; · exact hC1) | (with_reducible refine And.intro ?_ ?_; · omega) | simp -dsimp -implicitDefEqProofs (disch := omega) only [↓vcOps_sp 13, ↓vcD_sp 13, ↓vcOps_sp 18, ↓vcD_sp 18, VCA, pg_gl, ↓upd_none, Nat.reduceEqDiff, Nat.reduceBEq, Nat.reduceAdd, Nat.reduceSub, Nat.reduceMul, Nat.reduceLT, Nat.reduceLeDiff, ↓reduceIte, reduceCtorEq, rsOf, rootsOf, SOp.rd, SI.rd, SX.rd, rdL, rdO, rdP, okParts, eqCells, okEqCells, fillA, okFill, setAt, implies_true, forall_const, forall_eq, ne_eq, exists_eq_right_right, exists_eq_right, exists_eq_left, exists_eq_left', rootL, eInt, eBool, lit_eq, eDoc, hb1])
    exact ⟨Sub.refl _, by simp⟩
end Go.Proofs.K
end
section
set_option linter.unusedSimpArgs false
set_option linter.unusedVariables false
namespace Go.Proofs.K
open Go Go.Sim Go.Proofs
theorem takeW {α : Type} (p : α → Bool) : ∀ (t r : List α), (∀ y ∈ t, p y = false) → (∀ h r', r = h :: r' → p h = true) → (t ++ r).takeWhile (fun y => !p y) = t
  | [], [], _, _ => rfl
  | [], h :: r, _, hr => by
    show (h :: r).takeWhile _ = []
    rw [List.takeWhile_cons_of_neg (by rw [hr h r rfl]; decide)]
  | y :: t, r, ht, hr => by
    show (y :: (t ++ r)).takeWhile _ = _
    rw [List.takeWhile_cons_of_pos (by rw [ht y List.mem_cons_self]; decide), takeW p t r (fun z hz => ht z (List.mem_cons_of_mem _ hz)) hr]
def Blk {α : Type} (p : α → Bool) (l : List α) : Prop := ∃ h t, l = h :: t ∧ p h = true ∧ ∀ y ∈ t, p y = false
theorem flat_head {α : Type} {p : α → Bool} {A : List (List α)} (h : ∀ x ∈ A, Blk p x) : ∀ y r, A.flatten = y :: r → p y = true := by
  intro y r e
  cases A with
  | nil => cases e
  | cons a A =>
    obtain ⟨b, t, rfl, hb, _⟩ := h _ List.mem_cons_self
    cases e; exact hb
theorem flat_inj {α : Type} (p : α → Bool) : ∀ (A B : List (List α)), (∀ x ∈ A, Blk p x) → (∀ x ∈ B, Blk p x) → A.flatten = B.flatten → A = B
  | [], [], _, _, _ => rfl
  | [], b :: B, _, hB, e => by
    obtain ⟨h, t, rfl, _, _⟩ := hB _ List.mem_cons_self
    cases e
  | a :: A, [], hA, _, e => by
    obtain ⟨h, t, rfl, _, _⟩ := hA _ List.mem_cons_self
    cases e
  | a :: A, b :: B, hA, hB, e => by
    obtain ⟨h, t, rfl, h1, h2⟩ := hA _ List.mem_cons_self
    obtain ⟨h', t', rfl, h1', h2'⟩ := hB _ List.mem_cons_self
    have hA' : ∀ x ∈ A, Blk p x := fun x hx => hA x (List.mem_cons_of_mem _ hx)
    have hB' : ∀ x ∈ B, Blk p x := fun x hx => hB x (List.mem_cons_of_mem _ hx)
    rw [List.flatten_cons, List.flatten_cons, List.cons_append, List.cons_append] at e
    injection e with e1 e2
    have w1 := takeW p t A.flatten h2 (flat_head hA')
    have w2 := takeW p t' B.flatten h2' (flat_head hB')
    rw [e2, w2] at w1
    subst w1; subst e1
    rw [flat_inj p A B hA' hB' (List.append_cancel_left e2)]
section
variable {d : HDoc}
def tr (d : HDoc) (n : Int) : List (HNode × Nat) := (below d n).map fun k => (bareN (nd d k), up d k)
theorem tr_eq (V : DV d) {n : Int} (hn : inD d n) : tr d n = (bareN (nd d n), up d n) :: ((nd d n).kids.map (tr d)).flatten := by
  unfold tr
  rw [below_eq V hn, List.map_cons, List.map_flatMap, List.flatMap_def]
theorem tr_deep (V : DV d) {n m : Int} (hn : inD d n) (hm : m ∈ below d n) : up d n ≤ up d m ∧ (up d m = up d n → m = n) := by
  have h1 := below_in V n hn m hm
  have h2 := (mem_below V h1 hn).1 hm
  have h3 := chain_le V m h1 n h2
  exact ⟨h3.1, fun e => (h3.2 e.symm).symm⟩
theorem tr_blk (V : DV d) {n : Int} (hn : inD d n) : Blk (fun y : HNode × Nat => y.2 == up d n) (tr d n) := by
  refine ⟨_, _, tr_eq V hn, by simp, fun y hy => ?_⟩
  obtain ⟨l, hl, hy⟩ := List.mem_flatten.1 hy
  obtain ⟨k, hk, rfl⟩ := List.mem_map.1 hl
  obtain ⟨m, hm, rfl⟩ := List.mem_map.1 hy
  have hki := (V.kid n hn k hk).1
  have := tr_deep V hki hm
  have uk := V.up_kid hn hk
  simp only [beq_eq_false_iff_ne]
  omega
theorem tr_kids (V : DV d) {n : Int} (hn : inD d n) : ∀ x ∈ (nd d n).kids.map (tr d), Blk (fun y : HNode × Nat => y.2 == up d n + 1) x := by
  intro x hx
  obtain ⟨k, hk, rfl⟩ := List.mem_map.1 hx
  have := tr_blk V (V.kid n hn k hk).1
  rwa [V.up_kid hn hk] at this
end
theorem tr_iff {a b : HDoc} (Va : DV a) (Vb : DV b) {n m : Int} (hn : inD a n) (hm : inD b m) (hu : up a n = up b m) :
    tr a n = tr b m ↔ bareN (nd a n) = bareN (nd b m) ∧ (nd a n).kids.map (tr a) = (nd b m).kids.map (tr b) := by
  rw [tr_eq Va hn, tr_eq Vb hm]
  constructor
  · intro e
    injection e with e1 e2
    injection e1 with e1 _
    refine ⟨e1, flat_inj _ _ _ (tr_kids Va hn) ?_ e2⟩
    rw [hu]; exact tr_kids Vb hm
  · rintro ⟨e1, e2⟩
    rw [e1, e2, hu]
theorem tr_two {a b : HDoc} (Va : DV a) (Vb : DV b) : tr a 0 = tr b 0 ↔ treeL a = treeL b ∧ treeD a = treeD b := by
  have key : ∀ {d : HDoc}, DV d → ∀ n ∈ below d 0, deepM d n = up d n := fun {d} V n hn => by
    unfold deepM
    rw [if_neg]
    have := V.fin n (below_in V 0 V.zero n hn)
    omega
  have f1 : ∀ d : HDoc, treeL d = (tr d 0).map Prod.fst := fun d => by unfold treeL tr; rw [List.map_map]; rfl
  have f2 : ∀ d : HDoc, DV d → treeD d = ((tr d 0).map Prod.snd).map fun (i : Nat) => (i : Int) := fun d V => by
    unfold treeD tr
    rw [List.map_map, List.map_map]
    exact List.map_congr_left fun n hn => key V n hn
  have inj : ∀ (l m : List Nat), l.map (fun (i : Nat) => (i : Int)) = m.map (fun (i : Nat) => (i : Int)) → l = m := fun l => by
    induction l with
    | nil => intro m h; cases m with
      | nil => rfl
      | cons x m => cases h
    | cons x l ih => intro m h; cases m with
      | nil => cases h
      | cons y m =>
        rw [List.map_cons, List.map_cons] at h
        injection h with h1 h2
        rw [ih m h2, Int.ofNat.inj h1]
  have two : ∀ (l m : List (HNode × Nat)), l.map Prod.fst = m.map Prod.fst → l.map Prod.snd = m.map Prod.snd → l = m := fun l => by
    induction l with
    | nil => intro m h _; cases m with
      | nil => rfl
      | cons x m => cases h
    | cons x l ih => intro m h h'; cases m with
      | nil => cases h
      | cons y m =>
        rw [List.map_cons, List.map_cons] at h h'
        injection h with h1 h2
        injection h' with h3 h4
        rw [ih m h2 h4, Prod.ext h1 h3]
  constructor
  · intro e
    exact ⟨by rw [f1, f1, e], by rw [f2 a Va, f2 b Vb, e]⟩
  · rintro ⟨e1, e2⟩
    rw [f1, f1] at e1
    rw [f2 a Va, f2 b Vb] at e2
    exact two _ _ e1 (inj _ _ e2)
end Go.Proofs.K
end
section
set_option linter.unusedSimpArgs false
set_option linter.unusedVariables false
namespace Go.Proofs.K
open Go Go.Sim Go.Proofs
theorem sub_flat {f : Int → List Int} : ∀ {l : List Int} {k : Int}, k ∈ l → (f k).Sublist (l.flatMap f)
  | [], k, h => by cases h
  | x :: l, k, h => by
    rw [List.flatMap_cons]
    rcases List.mem_cons.1 h with rfl | h
    · exact List.sublist_append_left _ _
    · exact (sub_flat h).trans (List.sublist_append_right _ _)
section
variable {d : HDoc}
theorem below_sub (V : DV d) : ∀ n, inD d n → ∀ p ∈ below d n, (below d p).Sublist (below d n) := V.down fun n hn ih p hp => by
  by_cases e : p = n
  · rw [e]; exact List.Sublist.refl _
  · rw [below_eq V hn] at hp ⊢
    rcases List.mem_cons.1 hp with h | hp
    · exact absurd h e
    · obtain ⟨k, hk, hp⟩ := List.mem_flatMap.1 hp
      exact (ih k hk p hp).trans (List.Sublist.cons _ (sub_flat hk))
theorem kids_flat (V : DV d) : ∀ l : List Int, (∀ k ∈ l, inD d k) → l.Sublist (l.flatMap (below d))
  | [], _ => List.Sublist.slnil
  | k :: l, h => by
    rw [List.flatMap_cons, below_eq V (h k List.mem_cons_self), List.cons_append]
    exact List.Sublist.cons_cons _ ((kids_flat V l fun x hx => h x (List.mem_cons_of_mem _ hx)).trans (List.sublist_append_right _ _))
theorem fam_below (V : DV d) {n p : Int} (hn : inD d n) (hp : p ∈ below d n) : (p :: (nd d p).kids).Sublist (below d n) := by
  have hpi := below_in V n hn p hp
  refine List.Sublist.trans ?_ (below_sub V n hn p hp)
  rw [below_eq V hpi]
  exact List.Sublist.cons_cons _ (kids_flat V _ fun k hk => (V.kid p hpi k hk).1)
theorem par_below (V : DV d) {n k : Int} (hn : inD d n) (hk : k ∈ below d n) (hne : k ≠ n) : 0 ≤ (nd d k).parent ∧ (nd d k).parent ∈ below d n ∧ k ∈ (nd d (nd d k).parent).kids := by
  have hki := below_in V n hn k hk
  have hc := (mem_below V hki hn).1 hk
  have h0 : 0 ≤ (nd d k).parent := Classical.byContradiction fun h => by
    rw [chain_top V h] at hc
    exact hne (List.mem_singleton.1 hc).symm
  obtain ⟨hp, hpk⟩ := V.par_in hki h0
  rw [chain_up V hki h0] at hc
  rcases List.mem_cons.1 hc with h | h
  · exact absurd h.symm hne
  · exact ⟨h0, (mem_below V hp hn).2 h, hpk⟩
end
section
variable {A K : List Int}
theorem cut_at {j : Nat} (hj : j < A.length) : A = A.take j ++ nth A j :: A.drop (j + 1) := by
  conv => lhs; rw [← List.take_append_drop j A]
  congr 1
  rw [List.drop_eq_getElem_cons hj]
  congr 1
  unfold nth; rw [List.getD_eq_getElem?_getD, List.getElem?_eq_getElem hj]; rfl
theorem nodup_cut (h : A.Nodup) {j : Nat} (hj : j < A.length) : nth A j ∉ A.take j ∧ nth A j ∉ A.drop (j + 1) ∧ ∀ x ∈ A.take j, x ∉ A.drop (j + 1) := by
  rw [cut_at hj, List.nodup_append] at h
  obtain ⟨h1, h2, h3⟩ := h
  rw [List.nodup_cons] at h2
  exact ⟨fun q => h3 _ q _ List.mem_cons_self rfl, h2.1, fun x hx q => h3 _ hx _ (List.mem_cons_of_mem _ q) rfl⟩
theorem fil_step (hK : K.Sublist A) (h : A.Nodup) {j : Nat} (hj : j < A.length) :
    K.filter (· ∈ A.take (j + 1)) = if nth A j ∈ K then K.filter (· ∈ A.take j) ++ [nth A j] else K.filter (· ∈ A.take j) := by
  obtain ⟨n1, n2, n3⟩ := nodup_cut h hj
  rw [cut_at hj] at hK
  obtain ⟨K1, K2, rfl, s1, s2⟩ := List.sublist_append_iff.1 hK
  have m1 : ∀ x ∈ K1, x ∈ A.take j := fun x hx => s1.subset hx
  have tk : A.take (j + 1) = A.take j ++ [nth A j] := take_snoc hj
  have f1 : K1.filter (· ∈ A.take j) = K1 := List.filter_eq_self.2 fun x hx => by simpa using m1 x hx
  have f2 : K1.filter (· ∈ A.take (j + 1)) = K1 := List.filter_eq_self.2 fun x hx => by rw [tk]; simp [m1 x hx]
  have out : ∀ L : List Int, L.Sublist (A.drop (j + 1)) → L.filter (· ∈ A.take j) = [] ∧ L.filter (· ∈ A.take (j + 1)) = [] ∧ nth A j ∉ L := fun L hL =>
    ⟨List.filter_eq_nil_iff.2 fun x hx => by simpa using fun q => n3 x q (hL.subset hx),
     List.filter_eq_nil_iff.2 fun x hx => by
      rw [tk]
      simp only [List.mem_append, List.mem_singleton, decide_eq_true_eq]
      rintro (q | q)
      · exact n3 x q (hL.subset hx)
      · exact n2 (q ▸ hL.subset hx),
     fun q => n2 (hL.subset q)⟩
  rw [List.filter_append, List.filter_append, f1, f2]
  rcases List.sublist_cons_iff.1 s2 with h2 | ⟨L, rfl, h2⟩
  · obtain ⟨o1, o2, o3⟩ := out K2 h2
    rw [o1, o2, if_neg]
    rw [List.mem_append]
    rintro (q | q)
    · exact n1 (m1 _ q)
    · exact o3 q
  · obtain ⟨o1, o2, o3⟩ := out L h2
    rw [if_pos (by simp), List.filter_cons_of_pos (by rw [tk]; simp), List.filter_cons_of_neg (by simpa using n1), o1, o2, List.append_nil]
theorem fil_all (hK : K.Sublist A) : K.filter (· ∈ A.take A.length) = K := List.filter_eq_self.2 fun x hx => by
  rw [List.take_length]; simpa using hK.subset hx
theorem pair_pos {p : Int} {j : Nat} (hj : j < A.length) (h : A.Nodup) (hs : [p, nth A j].Sublist A) : p ∈ A.take j := by
  obtain ⟨n1, n2, n3⟩ := nodup_cut h hj
  have e := cut_at hj
  generalize nth A j = k at *
  have hs' : [p, k].Sublist (A.take j ++ (k :: A.drop (j + 1))) := e ▸ hs
  obtain ⟨K1, K2, e1, s1, s2⟩ := List.sublist_append_iff.1 hs'
  cases K1 with
  | nil =>
    exfalso
    rw [List.nil_append] at e1
    subst e1
    rcases List.sublist_cons_iff.1 s2 with h2 | ⟨L, e2, h2⟩
    · exact n2 (h2.subset (by simp))
    · cases e2; exact n2 (h2.subset (by simp))
  | cons x K1 =>
    rw [List.cons_append] at e1
    injection e1 with e1 e2
    rw [e1]; exact s1.subset List.mem_cons_self
def ix (l : List Int) (c : Int) : Int := idxM (· == c) l
theorem ix_nth (h : A.Nodup) {j : Nat} (hj : j < A.length) : ix A (nth A j) = j := by
  refine idxM_some hj (fun i hi => ?_) (by simp)
  obtain ⟨n1, _, _⟩ := nodup_cut h hj
  rw [beq_eq_false_iff_ne]
  intro e
  refine n1 (e ▸ ?_)
  have hi' : i < A.length := by omega
  have e1 : nth A i = A[i] := by unfold nth; rw [List.getD_eq_getElem?_getD, List.getElem?_eq_getElem hi']; rfl
  rw [e1]
  exact List.mem_take_iff_getElem.2 ⟨i, by omega, rfl⟩
theorem ix_mem (h : A.Nodup) {c : Int} {j : Nat} (hj : j ≤ A.length) (hc : c ∈ A.take j) : ∃ i, i < j ∧ i < A.length ∧ nth A i = c ∧ ix A c = i := by
  obtain ⟨i, hi, e⟩ := List.mem_iff_getElem.1 hc
  rw [List.length_take] at hi
  have hi' : i < A.length := by omega
  have : nth A i = c := by
    rw [← e]
    unfold nth; rw [List.getD_eq_getElem?_getD, List.getElem?_eq_getElem hi', List.getElem_take]; rfl
  exact ⟨i, by omega, hi', this, by rw [← this]; exact ix_nth h hi'⟩
end
def cpN (d : HDoc) (A : List Int) (n : Int) (j : Nat) (k : Int) : HNode :=
  { nd d k with parent := if k = n then -1 else d.nodes.length + ix A (nd d k).parent, kids := ((nd d k).kids.filter (· ∈ A.take j)).map fun c => (d.nodes.length : Int) + ix A c }
def cpD (d : HDoc) (n : Int) (j : Nat) : HDoc := ⟨d.nodes ++ ((below d n).take j).map (cpN d (below d n) n j), d.quirks⟩
def cpX (d : HDoc) (A : List Int) (n : Int) (k : Int) : HNode := { nd d k with parent := if k = n then -1 else d.nodes.length + ix A (nd d k).parent, kids := [] }
section
variable {d : HDoc}
theorem cpD_len (n : Int) {j : Nat} (hj : j ≤ (below d n).length) : (cpD d n j).nodes.length = d.nodes.length + j := by
  unfold cpD; rw [List.length_append, List.length_map, List.length_take]; omega
theorem cpD_zero (n : Int) : cpD d n 0 = d := by unfold cpD; simp
theorem cpD_old (n : Int) (j : Nat) {i : Nat} (hi : i < d.nodes.length) : nth (cpD d n j).nodes i = nth d.nodes i := by
  unfold cpD nth; rw [List.getD_eq_getElem?_getD, List.getD_eq_getElem?_getD, List.getElem?_append_left hi]
theorem cpD_new (n : Int) {j i : Nat} (hj : j ≤ (below d n).length) (hi : i < j) : nth (cpD d n j).nodes (d.nodes.length + i) = cpN d (below d n) n j (nth (below d n) i) := by
  unfold cpD nth
  rw [List.getD_eq_getElem?_getD, List.getElem?_append_right (by omega), List.getElem?_map, show d.nodes.length + i - d.nodes.length = i by omega, List.getElem?_take_of_lt hi, List.getElem?_eq_getElem (by omega), List.getD_eq_getElem?_getD, List.getElem?_eq_getElem (by omega)]; rfl
theorem cp_first (V : DV d) {n : Int} (hn : inD d n) : nth (below d n) 0 = n := by rw [below_eq V hn]; rfl
theorem cp_self (V : DV d) {n : Int} (hn : inD d n) {j : Nat} (hj : j < (below d n).length) : nth (below d n) j = n ↔ j = 0 := by
  constructor
  · intro e
    have := ix_nth (below_nodup V n hn) hj
    have h0 := ix_nth (below_nodup V n hn) (show 0 < (below d n).length by omega)
    rw [cp_first V hn] at h0
    rw [e, h0] at this
    omega
  · rintro rfl; exact cp_first V hn
theorem cp_begin (V : DV d) {n : Int} (hn : inD d n) : cpD d n 1 = addN d (cpX d (below d n) n n) := by
  have hl : 0 < (below d n).length := by rw [below_eq V hn]; simp
  have h0 := cp_first V hn
  have tk : (below d n).take 1 = [n] := by rw [below_eq V hn]; rfl
  unfold cpD addN
  rw [tk]
  have e : cpN d (below d n) n 1 n = cpX d (below d n) n n := by
    unfold cpN cpX
    have : (nd d n).kids.filter (· ∈ (below d n).take 1) = [] := List.filter_eq_nil_iff.2 fun c hc => by
      rw [tk]
      have := V.up_kid hn hc
      simp only [List.mem_singleton, decide_eq_true_eq]
      intro e; rw [e] at this; omega
    rw [this]; rfl
  rw [List.map_cons, List.map_nil, e]
theorem cp_par (V : DV d) {n : Int} (hn : inD d n) {j : Nat} (hj : j < (below d n).length) (h0 : 0 < j) :
    ∃ i, i < j ∧ nth (below d n) i = (nd d (nth (below d n) j)).parent ∧ ix (below d n) (nd d (nth (below d n) j)).parent = i := by
  have nu := below_nodup V n hn
  have hne : nth (below d n) j ≠ n := fun e => by have := (cp_self V hn hj).1 e; omega
  obtain ⟨p0, p1, p2⟩ := par_below V hn (nth_mem' hj) hne
  have hs : [(nd d (nth (below d n) j)).parent, nth (below d n) j].Sublist (below d n) :=
    (List.Sublist.cons_cons _ (List.singleton_sublist.2 p2)).trans (fam_below V hn p1)
  obtain ⟨i, a, _, b, c⟩ := ix_mem nu (Nat.le_of_lt hj) (pair_pos hj nu hs)
  exact ⟨i, a, b, c⟩
theorem cp_step (V : DV d) {n : Int} (hn : inD d n) {j i : Nat} (hj : j < (below d n).length) (h0 : 0 < j) (hi : i < j) (hp : nth (below d n) i = (nd d (nth (below d n) j)).parent) :
    cpD d n (j + 1) = addN (setN (cpD d n j) ((d.nodes.length + i : Nat) : Int) { nth (cpD d n j).nodes (d.nodes.length + i) with kids := (nth (cpD d n j).nodes (d.nodes.length + i)).kids ++ [((d.nodes.length + j : Nat) : Int)] }) (cpX d (below d n) n (nth (below d n) j)) := by
  have nu := below_nodup V n hn
  obtain ⟨A, hA⟩ : ∃ A, below d n = A := ⟨_, rfl⟩
  have fam := fun {p : Int} (h : p ∈ below d n) => fam_below V hn h
  have lj := cpD_len (d := d) n (Nat.le_of_lt hj)
  have lj1 := cpD_len (d := d) n (show j + 1 ≤ (below d n).length from hj)
  have hne : nth (below d n) j ≠ n := fun e => by have := (cp_self V hn hj).1 e; omega
  obtain ⟨p0, p1, p2⟩ := par_below V hn (nth_mem' hj) hne
  rw [← hp] at p1 p2
  have one : ∀ q ∈ below d n, nth (below d n) j ∈ (nd d q).kids ↔ q = nth (below d n) i := fun q hq => by
    constructor
    · intro h
      have h1 := (V.kid q (below_in V n hn q hq) _ h).2
      rw [hp, h1]
    · rintro rfl; exact p2
  have ij := ix_nth nu hj
  have eq : (cpD d n (j + 1)).quirks = d.quirks := rfl
  have nodes : (cpD d n (j + 1)).nodes = (addN (setN (cpD d n j) ((d.nodes.length + i : Nat) : Int) { nth (cpD d n j).nodes (d.nodes.length + i) with kids := (nth (cpD d n j).nodes (d.nodes.length + i)).kids ++ [((d.nodes.length + j : Nat) : Int)] }) (cpX d (below d n) n (nth (below d n) j))).nodes := by
    refine ext_nth (by rw [lj1, addN_len, setN_len, lj]; omega) fun t ht => ?_
    rw [lj1] at ht
    have hset : ∀ y, nth ((cpD d n j).nodes.set (d.nodes.length + i) y) t = if t = d.nodes.length + i then y else nth (cpD d n j).nodes t := fun y => nth_set _ _ _ _ (by rw [lj]; omega)
    have hap : ∀ (l : List HNode) y, l.length = d.nodes.length + j → nth (l ++ [y]) t = if t < d.nodes.length + j then nth l t else y := fun l y hl => by
      unfold nth
      rw [List.getD_eq_getElem?_getD, List.getD_eq_getElem?_getD]
      by_cases h : t < d.nodes.length + j
      · rw [if_pos h, List.getElem?_append_left (by omega)]
      · rw [if_neg h, show t = l.length by omega]; simp
    unfold addN setN
    show _ = nth ((cpD d n j).nodes.set (Int.toNat ((d.nodes.length + i : Nat) : Int)) _ ++ [_]) t
    rw [hap _ _ (by rw [List.length_set, lj]), Int.toNat_natCast, hset]
    by_cases t1 : t < d.nodes.length
    · rw [if_pos (by omega), if_neg (by omega), cpD_old n _ t1, cpD_old n _ t1]
    · by_cases t2 : t < d.nodes.length + j
      · rw [if_pos t2]
        obtain ⟨s, rfl⟩ : ∃ s, t = d.nodes.length + s := ⟨t - d.nodes.length, by omega⟩
        have hs : s < j := by omega
        have sm : nth (below d n) s ∈ below d n := nth_mem' (by omega)
        rw [cpD_new n hj (by omega), cpD_new n (Nat.le_of_lt hj) hs]
        have fs := fil_step (K := (nd d (nth (below d n) s)).kids) ((fam sm).trans (List.Sublist.refl _) |> fun h => (List.sublist_cons_self _ _).trans h) nu hj
        by_cases t3 : s = i
        · subst t3
          rw [if_pos rfl, cpD_new n (Nat.le_of_lt hj) hs]
          unfold cpN
          rw [fs, if_pos p2, List.map_append, List.map_cons, List.map_nil, ij]
          simp
        · rw [if_neg (by omega)]
          have hno : nth (below d n) j ∉ (nd d (nth (below d n) s)).kids := fun h => by
            have e := (one _ sm).1 h
            have e1 := ix_nth nu (show s < (below d n).length by omega)
            have e2 := ix_nth nu (show i < (below d n).length by omega)
            rw [e, e2] at e1
            omega
          unfold cpN
          rw [fs, if_neg hno]
      · rw [if_neg t2]
        obtain rfl : t = d.nodes.length + j := by omega
        rw [cpD_new n hj (by omega)]
        unfold cpN cpX
        have : (nd d (nth (below d n) j)).kids.filter (· ∈ (below d n).take (j + 1)) = [] := List.filter_eq_nil_iff.2 fun c hc => by
          simp only [decide_eq_true_eq]
          intro hcm
          obtain ⟨s, s1, s2, s3, _⟩ := ix_mem nu hj hcm
          have hs : [nth (below d n) j, nth (below d n) s].Sublist (below d n) := by
            rw [s3]
            exact (List.Sublist.cons_cons _ (List.singleton_sublist.2 hc)).trans (fam (nth_mem' hj))
          obtain ⟨u, u1, _, u3, _⟩ := ix_mem nu (Nat.le_of_lt s2) (pair_pos s2 nu hs)
          have e1 := ix_nth nu (show u < (below d n).length by omega)
          rw [u3, ij] at e1
          omega
        rw [this]; rfl
  have : ∀ a b : HDoc, a.nodes = b.nodes → a.quirks = b.quirks → a = b := fun a b h1 h2 => by cases a; cases b; cases h1; cases h2; rfl
  exact this _ _ nodes rfl
def cpR (d : HDoc) (n : Int) (k : Int) : HNode := { nd d k with parent := if k = n then -1 else d.nodes.length + ix (below d n) (nd d k).parent, kids := (nd d k).kids.map fun c => (d.nodes.length : Int) + ix (below d n) c }
def cpT (d : HDoc) (n : Int) (j : Nat) : HDoc := ⟨d.nodes ++ ((below d n).take j).map (cpR d n), d.quirks⟩
theorem cp_all (V : DV d) {n : Int} (hn : inD d n) : cpD d n (below d n).length = cpT d n (below d n).length := by
  unfold cpD cpT
  congr 2
  refine List.map_congr_left fun k hk => ?_
  unfold cpN cpR
  rw [fil_all ((List.sublist_cons_self _ _).trans (fam_below V hn (List.mem_of_mem_take hk)))]
end
end Go.Proofs.K
end
section
set_option linter.unusedSimpArgs false
set_option linter.unusedVariables false
namespace Go.Proofs.K
open Go Go.Sim Go.Proofs
variable {G : Glob}
def rowG (x : HNode) (r : Nat) : List AVal := rowA x (sl eAttr x.attrs) (.osl r 1 0 x.kids.length)
def rowsG (f : Nat → HNode) (g : Nat → Nat) (k : Nat) : List (List AVal) := (List.range k).map fun i => rowG (f i) (g i)
theorem rowsG_len (f : Nat → HNode) (g : Nat → Nat) (k : Nat) : (rowsG f g k).length = k := by simp [rowsG]
theorem rowsG_cong {f f' : Nat → HNode} {g g' : Nat → Nat} {k : Nat} (h : ∀ j, j < k → f' j = f j ∧ g' j = g j) : rowsG f' g' k = rowsG f g k := by
  unfold rowsG
  apply List.map_congr_left
  intro i hi
  rw [List.mem_range] at hi
  rw [(h i hi).1, (h i hi).2]
theorem rowsG_get {f : Nat → HNode} {g : Nat → Nat} {k i : Nat} (hi : i < k) : (rowsG f g k).getD i [] = rowG (f i) (g i) := by
  rw [List.getD_eq_getElem?_getD, rowsG, List.getElem?_map, List.getElem?_range hi]; rfl
structure Kp (X : List Nat) (h h' : Heap) (f : Nat → HNode) (k : Nat) (b : AVal) (g : Nat → Nat) : Prop where
  sub : Sim.Sub h h'
  nodes : (k = 0 ∧ b = .emp) ∨ ∃ rN, b = .osl rN 6 0 k ∧ h rN = none ∧ rN ∉ X ∧ h' rN = some ⟨.t 29, 6, rowsG f g k⟩
  kids : ∀ i, i < k → h (g i) = none ∧ g i ∉ X ∧ rootOf b ≠ some (g i) ∧ h' (g i) = some ⟨.t 3, 1, (f i).kids.map eInt⟩
  keep : ∀ r ∈ X, h r = none ∧ ∃ o, h' r = some o
section
variable {X : List Nat} {h h' : Heap} {f : Nat → HNode} {k : Nat} {b : AVal} {g : Nat → Nat}
theorem Kp.base (C : Kp X h h' f k b g) {r : Nat} (hr : rootOf b = some r) : h r = none ∧ r ∉ X ∧ ∃ o, h' r = some o := by
  rcases C.nodes with ⟨_, e⟩ | ⟨rN, e, h1, h2, h3⟩
  · rw [e] at hr; cases hr
  · rw [e] at hr; cases hr; exact ⟨h1, h2, _, h3⟩
theorem Kp.rows (C : Kp X h h' f k b g) : OwnS h' 29 6 (rowsG f g k) b ∧ Mut b := by
  rcases C.nodes with ⟨e0, e⟩ | ⟨rN, e, h1, h2, h3⟩
  · exact ⟨.inl ⟨by rw [e0]; rfl, e⟩, fun es q => by rw [e] at q; cases q⟩
  · exact ⟨.inr (.inr ⟨rN, _, by rw [rowsG_len, e], h3, Nat.le_refl _, by rw [List.take_length]⟩), fun es q => by rw [e] at q; cases q⟩
theorem Kp.cong (C : Kp X h h' f k b g) {f' : Nat → HNode} (hf : ∀ i, i < k → f' i = f i) : Kp X h h' f' k b g := by
  refine ⟨C.sub, ?_, fun i hi => by rw [hf i hi]; exact C.kids i hi, C.keep⟩
  rw [rowsG_cong (f := f) (f' := f') (g := g) (g' := g) fun j hj => ⟨hf j hj, rfl⟩]
  exact C.nodes
theorem Kp.mono (C : Kp X h h' f k b g) {h2 : Heap} (S : Sim.Sub h' h2) : Kp X h h2 f k b g := by
  refine ⟨C.sub.trans S, ?_, fun i hi => ⟨(C.kids i hi).1, (C.kids i hi).2.1, (C.kids i hi).2.2.1, S _ _ (C.kids i hi).2.2.2⟩, fun r hr => ⟨(C.keep r hr).1, ?_⟩⟩
  · rcases C.nodes with e | ⟨rN, e, h1, h2, h3⟩
    · exact .inl e
    · exact .inr ⟨rN, e, h1, h2, S _ _ h3⟩
  · obtain ⟨_, o, ho⟩ := C.keep r hr; exact ⟨o, S _ _ ho⟩
theorem Kp.other (C : Kp X h h' f k b g) {r : Nat} (hr : r ∈ X) (o : AObj) : Kp X h (upd h' r (some o)) f k b g := by
  refine ⟨C.sub.upd (C.keep r hr).1, ?_, fun i hi => ?_, fun t ht => ⟨(C.keep t ht).1, ?_⟩⟩
  · rcases C.nodes with e | ⟨rN, e, h1, h2, h3⟩
    · exact .inl e
    · exact .inr ⟨rN, e, h1, h2, by rw [upd_ne _ _ (fun q => h2 (by rw [q]; exact hr))]; exact h3⟩
  · obtain ⟨g1, g2, g3, g4⟩ := C.kids i hi
    exact ⟨g1, g2, g3, by rw [upd_ne _ _ (fun q => g2 (by rw [q]; exact hr))]; exact g4⟩
  · by_cases e : t = r
    · rw [e]; exact ⟨_, upd_same _ _ _⟩
    · rw [upd_ne _ _ e]; exact (C.keep t ht).2
theorem Kp.less {Y : List Nat} (C : Kp X h h' f k b g) (hY : ∀ r ∈ Y, r ∈ X) : Kp Y h h' f k b g := by
  refine ⟨C.sub, ?_, fun i hi => ⟨(C.kids i hi).1, fun e => (C.kids i hi).2.1 (hY _ e), (C.kids i hi).2.2⟩, fun r hr => C.keep r (hY r hr)⟩
  rcases C.nodes with e | ⟨rN, e, h1, h2, h3⟩
  · exact .inl e
  · exact .inr ⟨rN, e, h1, fun q => h2 (hY _ q), h3⟩
theorem Kp.more (C : Kp X h h' f k b g) {r : Nat} (hr : h' r = none) (o : AObj) : Kp (r :: X) h (upd h' r (some o)) f k b g := by
  have ne : ∀ t o, h' t = some o → t ≠ r := fun t o ht e => by rw [e, hr] at ht; cases ht
  refine ⟨C.sub.upd (C.sub.none hr), ?_, fun i hi => ?_, fun t ht => ?_⟩
  · rcases C.nodes with e | ⟨rN, e, h1, h2, h3⟩
    · exact .inl e
    · exact .inr ⟨rN, e, h1, by simp only [List.mem_cons, not_or]; exact ⟨ne _ _ h3, h2⟩, by rw [upd_ne _ _ (ne _ _ h3)]; exact h3⟩
  · obtain ⟨g1, g2, g3, g4⟩ := C.kids i hi
    exact ⟨g1, by simp only [List.mem_cons, not_or]; exact ⟨ne _ _ g4, g2⟩, g3, by rw [upd_ne _ _ (ne _ _ g4)]; exact g4⟩
  · rcases List.mem_cons.1 ht with e | ht
    · rw [e]; exact ⟨C.sub.none hr, _, upd_same _ _ _⟩
    · obtain ⟨h1, o', ho⟩ := C.keep t ht
      exact ⟨h1, o', by rw [upd_ne _ _ (ne _ _ ho)]; exact ho⟩
theorem Kp.snoc (C : Kp X h h' f k b g) {h2 h3 : Heap} {rK r' : Nat} (S2 : Sim.Sub h' h2) (n : h' rK = none) (gK : h2 rK = some ⟨.t 3, 1, (f k).kids.map eInt⟩)
    (q1 : h3 r' = some ⟨.t 29, 6, rowsG f g k ++ [rowG (f k) rK]⟩) (q2 : rootOf b = some r' ∨ h2 r' = none) (q3 : ∀ t o, h2 t = some o → rootOf b ≠ some t → h3 t = some o) :
    Kp X h h3 f (k + 1) (.osl r' 6 0 (k + 1)) (upd g k rK) := by
  have Sh2 : Sim.Sub h h2 := C.sub.trans S2
  have kX : ∀ r ∈ X, h2 r ≠ none := fun r hr e => by obtain ⟨_, o, ho⟩ := C.keep r hr; rw [S2 _ _ ho] at e; cases e
  have bK : rootOf b ≠ some rK := fun e => by obtain ⟨_, _, o, ho⟩ := C.base e; rw [n] at ho; cases ho
  have hr' : h r' = none ∧ r' ∉ X := by
    rcases q2 with q | q
    · exact ⟨(C.base q).1, (C.base q).2.1⟩
    · exact ⟨Sh2.none q, fun e => kX _ e q⟩
  have nr : ∀ t, rootOf b ≠ some t → (∃ o, h2 t = some o) → r' ≠ t := fun t h1 ⟨o, ho⟩ e => by
    rcases q2 with q | q
    · exact h1 (e ▸ q)
    · rw [e, ho] at q; cases q
  have rk : rowsG f (upd g k rK) (k + 1) = rowsG f g k ++ [rowG (f k) rK] := by
    rw [← rowsG_cong (f := f) (f' := f) (g := g) (g' := upd g k rK) fun j hj => ⟨rfl, upd_ne _ _ (by omega)⟩]
    unfold rowsG
    rw [List.range_succ, List.map_append, List.map_cons, List.map_nil, upd_same]
  refine ⟨fun t o ht => q3 t o (Sh2 t o ht) (fun e => by rw [(C.base e).1] at ht; cases ht), .inr ⟨r', rfl, hr'.1, hr'.2, by rw [rk]; exact q1⟩, fun i hi => ?_, fun r hr => ⟨(C.keep r hr).1, ?_⟩⟩
  · by_cases hk : i < k
    · rw [upd_ne _ _ (by omega)]
      obtain ⟨g1, g2, g3, g4⟩ := C.kids i hk
      exact ⟨g1, g2, fun e => nr _ g3 ⟨_, S2 _ _ g4⟩ (by cases e; rfl), q3 _ _ (S2 _ _ g4) g3⟩
    · obtain rfl : i = k := by omega
      rw [upd_same]
      have k1 : rK ∉ X := fun e => by
        obtain ⟨_, o, ho⟩ := C.keep _ e
        rw [n] at ho; cases ho
      have k2 : rootOf (.osl r' 6 0 (i + 1)) ≠ some rK := fun e => nr _ bK ⟨_, gK⟩ (by cases e; rfl)
      exact ⟨C.sub.none n, k1, k2, q3 _ _ gK bK⟩
  · obtain ⟨_, o, ho⟩ := C.keep r hr
    exact ⟨o, q3 r o (S2 _ _ ho) (fun e => (C.base e).2.1 hr)⟩
theorem Kp.vw (C : Kp X h h' f k b g) : Vw (newH h h') b (sl eNode ((List.range k).map f)) := by
  have nw : ∀ r o, h r = none → h' r = some o → newH h h' r = some o := fun r o h1 h2 => by rw [newH_none h1]; exact h2
  rcases C.nodes with ⟨e0, e⟩ | ⟨rN, e, h1, h2, h3⟩
  · subst e0; subst e; exact .emp
  · subst e
    refine Vw.osl0 (nw _ _ h1 h3) (by simp) (by rw [rowsG_len]; exact Nat.le_refl _) (fun f hf => by obtain ⟨x, _, rfl⟩ := List.mem_map.1 hf; rfl) ?_
    show F2 (F2 (Vw (newH h h'))) ((rowsG f g k).take k) (((List.range k).map f).map eNode)
    rw [List.take_of_length_le (by rw [rowsG_len]; exact Nat.le_refl _), List.map_map]
    unfold rowsG
    have key : ∀ i, i < k → F2 (Vw (newH h h')) (rowG (f i) (g i)) (eNode (f i)) := fun i hi => by
      obtain ⟨g1, g2, g3, g4⟩ := C.kids i hi
      refine .cons (.refl _) (.cons (.refl _) (.cons (.refl _) (.cons (.refl _) (.cons (.refl _) (.cons ?_ .nil)))))
      exact Vw.osl0 (nw _ _ g1 g4) (by simp) (by simp) (fun f hf => by obtain ⟨x, _, rfl⟩ := List.mem_map.1 hf; rfl) (by
        show F2 (F2 (Vw _)) (((f i).kids.map eInt).take (f i).kids.length) _
        rw [List.take_of_length_le (by simp)]
        exact F2.refl (fun a => F2.refl (fun x => .refl x) a) _)
    have gen : ∀ l : List Nat, (∀ i ∈ l, i < k) → F2 (F2 (Vw (newH h h'))) (l.map fun i => rowG (f i) (g i)) (l.map (eNode ∘ f)) := fun l => by
      induction l with
      | nil => intro _; exact .nil
      | cons i l ih => intro hl; exact .cons (key i (hl i List.mem_cons_self)) (ih fun j hj => hl j (List.mem_cons_of_mem _ hj))
    exact gen _ fun i hi => List.mem_range.1 hi
end
namespace Own2
def c56 : SFun := ⟨.seq (.reg [⟨some 1, .boxF 24 2 (.t 0), none⟩, ⟨some 2, .new 24 2 [.emp, .bool false], none⟩]) (.seq (.reg [⟨some 6, .fldA 1 (.t 1), none⟩, ⟨some 7, .ld 1 false (.t 6), none⟩, ⟨some 8, .bld [.emp, .bool false] [(1, (1, (.t 7)))], none⟩, ⟨some 3, .new 24 2 [.emp, .bool false], none⟩, ⟨none, .st 2 (.t 3) (.t 8), none⟩]) (.seq (.seq (.reg [⟨some 4, .mv (.c (.int .i64 0)), none⟩]) (.block 0 (.loop (.seq (.seq (.reg [⟨some 9, .mv (.t 4), none⟩, ⟨some 10, .fldA 0 (.t 1), none⟩, ⟨some 11, .ld 1 false (.t 10), none⟩, ⟨some 12, .len (.t 11), none⟩, ⟨some 13, .bin .lss (.t 9) (.t 12), none⟩]) (.cond (.t 13) .skip (.exit 0))) (.seq (.block 1 (.seq (.reg [⟨some 16, .fldA 0 (.t 1), none⟩, ⟨some 17, .ld 1 false (.t 16), none⟩, ⟨some 18, .mv (.t 4), none⟩, ⟨some 19, .idxA 6 (.t 17) (.t 18), none⟩, ⟨some 20, .ld 6 true (.t 19), none⟩, ⟨some 5, .new 29 6 [.int .i64 0, .str [], .emp, .str [], .int .i64 0, .emp], none⟩, ⟨none, .st 6 (.t 5) (.t 20), none⟩]) (.seq (.reg [⟨some 21, .bldF 71 2 [], none⟩, ⟨some 22, .fldA 2 (.t 5), none⟩, ⟨some 23, .ld 1 false (.t 22), none⟩, ⟨some 24, .appF 71 2 32 (.t 21) (.t 23), none⟩, ⟨some 25, .fldA 2 (.t 5), none⟩, ⟨none, .st 1 (.t 25) (.t 24), none⟩]) (.seq (.reg [⟨some 26, .bldF 3 1 [], none⟩, ⟨some 27, .fldA 5 (.t 5), none⟩, ⟨some 28, .ld 1 false (.t 27), none⟩, ⟨some 29, .app 3 1 8 (.t 26) (.t 28), none⟩, ⟨some 30, .fldA 5 (.t 5), none⟩, ⟨none, .st 1 (.t 30) (.t 29), none⟩]) (.reg [⟨some 31, .fldA 0 (.t 3), none⟩, ⟨some 32, .ld 1 false (.t 31), none⟩, ⟨some 33, .ld 6 true (.t 5), none⟩, ⟨some 34, .bldF 29 6 [.t 33], none⟩, ⟨some 35, .app 29 6 96 (.t 32) (.t 34), none⟩, ⟨some 36, .fldA 0 (.t 3), none⟩, ⟨none, .st 1 (.t 36) (.t 35), none⟩]))))) (.reg [⟨some 14, .mv (.t 4), none⟩, ⟨some 15, .bin .add (.t 14) (.c (.int .i64 1)), none⟩, ⟨some 4, .mv (.t 15), none⟩])))))) (.seq (.reg [⟨some 37, .ld 2 true (.t 3), none⟩, ⟨none, .st 2 (.t 2) (.t 37), none⟩]) .ret))), [.cell 2 2 true]⟩
theorem hc56 : toSF Tryd.prog {how := [(24, 8)]} Tryd.f56 = some c56 := by kernel_rfl
theorem hn56 : (Tryd.f56.name == "runtime.NumGoroutine") = false := by kernel_rfl
theorem copyDoc_own (d : HDoc) (sm : DocSm d) (h : Heap) : DCalls (Pg G) 56 [.agg (eDoc d)] h fun a h' => ∃ b g, a = .agg [b, .bool d.quirks] ∧ Kp [] h h' (nth d.nodes) d.nodes.length b g := by
  have hl := sm.len
  refine dcalls_of_vc Tryd.func56 hn56 hc56 (by rw [Tryd.ntmps56]; simp) (by rw [Tryd.ntmps56]; decide) ?_
  simp -dsimp -implicitDefEqProofs (disch := omega) only [VCA, pg_gl, ↓upd_none, Nat.reduceEqDiff, Nat.reduceBEq, Nat.reduceAdd, Nat.reduceSub, Nat.reduceMul, Nat.reduceLT, Nat.reduceLeDiff, ↓reduceIte, reduceCtorEq, rsOf, rootsOf, SOp.rd, SI.rd, SX.rd, rdL, rdO, rdP, okParts, eqCells, okEqCells, fillA, okFill, setAt, implies_true, forall_const, forall_eq, ne_eq, exists_eq_right_right, exists_eq_right, exists_eq_left, exists_eq_left', rootL, eInt, eBool, lit_eq, eDoc, c56, eDoc]
  intro r2 hr2 r3 hr3
  have n32 : r3 ≠ r2 := hr3.1
  have g2 : ∀ x y, (upd (upd h r2 (some x)) r3 (some y)) r2 = some x := fun x y => by rw [upd_ne _ _ (fun e => n32 e.symm), upd_same]
  refine LoopVC.intro (fun m e h' => ∃ (k : Nat) (b : AVal) (g : Nat → Nat), k ≤ d.nodes.length ∧ m = d.nodes.length - k ∧ e 1 = .pin (eDoc d) ∧ e 2 = .vp r2 0 ∧ e 3 = .vp r3 0 ∧ e 4 = aInt k ∧ Kp [r2, r3] h h' (nth d.nodes) k b g ∧
    h' r2 = some ⟨.t 24, 2, [[.emp, .bool false]]⟩ ∧ h' r3 = some ⟨.t 24, 2, [[b, .bool d.quirks]]⟩) d.nodes.length
    ⟨0, .emp, fun _ => 0, by omega, by omega, rfl, rfl, rfl, rfl, ⟨((Sub.refl h).upd hr2).upd hr3.2, .inl ⟨rfl, rfl⟩, fun i hi => by omega, fun r hr => by
      simp at hr
      rcases hr with rfl | rfl
      · exact ⟨hr2, _, g2 _ _⟩
      · exact ⟨hr3.2, _, upd_same _ _ _⟩⟩, g2 _ _, upd_same _ _ _⟩ ?_
  rintro m e h' ⟨k, b, g, hk, rfl, he1, he2, he3, he4, C, k2, k3⟩
  simp -dsimp -implicitDefEqProofs (disch := omega) only [VCA, pg_gl, ↓upd_none, Nat.reduceEqDiff, Nat.reduceBEq, Nat.reduceAdd, Nat.reduceSub, Nat.reduceMul, Nat.reduceLT, Nat.reduceLeDiff, ↓reduceIte, reduceCtorEq, rsOf, rootsOf, SOp.rd, SI.rd, SX.rd, rdL, rdO, rdP, okParts, eqCells, okEqCells, fillA, okFill, setAt, implies_true, forall_const, forall_eq, ne_eq, exists_eq_right_right, exists_eq_right, exists_eq_left, exists_eq_left', rootL, eInt, eBool, lit_eq, eDoc, he1, he2, he3, he4, k2, k3]
  refine Br.dec (fun hlt => ?_) (fun hge => ?_)
  · have hk' : k < d.nodes.length := by omega
    have sx := sm.nth k
    have sa := sx.attrs
    have sk := sx.kids
    simp -dsimp -implicitDefEqProofs (disch := omega) only [VCA, pg_gl, ↓upd_none, Nat.reduceEqDiff, Nat.reduceBEq, Nat.reduceAdd, Nat.reduceSub, Nat.reduceMul, Nat.reduceLT, Nat.reduceLeDiff, ↓reduceIte, reduceCtorEq, rsOf, rootsOf, SOp.rd, SI.rd, SX.rd, rdL, rdO, rdP, okParts, eqCells, okEqCells, fillA, okFill, setAt, implies_true, forall_const, forall_eq, ne_eq, exists_eq_right_right, exists_eq_right, exists_eq_left, exists_eq_left', rootL, eInt, eBool, lit_eq, eDoc, he1, he2, he3, he4, k2, k3, eNode]
    refine ⟨by omega, fun r5 hr5 => ⟨by omega, by omega, by omega, by omega, fun rK hrK => ?_⟩⟩
    have n35 : ¬ r3 = r5 := fun e => by rw [← e, k3] at hr5; cases hr5
    have n25 : ¬ r2 = r5 := fun e => by rw [← e, k2] at hr5; cases hr5
    have n3A : ¬ r3 = rK := fun e => by rw [← e, k3] at hrK; cases hrK.2
    have n2A : ¬ r2 = rK := fun e => by rw [← e, k2] at hrK; cases hrK.2
    have n5A : ¬ r5 = rK := fun e => hrK.1 e.symm
    have nA5 : ¬ rK = r5 := hrK.1
    simp -dsimp -implicitDefEqProofs (disch := omega) only [VCA, pg_gl, ↓upd_none, Nat.reduceEqDiff, Nat.reduceBEq, Nat.reduceAdd, Nat.reduceSub, Nat.reduceMul, Nat.reduceLT, Nat.reduceLeDiff, ↓reduceIte, reduceCtorEq, rsOf, rootsOf, SOp.rd, SI.rd, SX.rd, rdL, rdO, rdP, okParts, eqCells, okEqCells, fillA, okFill, setAt, implies_true, forall_const, forall_eq, ne_eq, exists_eq_right_right, exists_eq_right, exists_eq_left, exists_eq_left', rootL, eInt, eBool, lit_eq, eDoc, he1, he2, he3, he4, k2, k3, eNode, n35, n25, n3A, n2A, n5A, nA5, upd_same]
    obtain ⟨O, MB⟩ := C.rows
    obtain ⟨h5, hh5⟩ : ∃ h5, h5 = upd (upd (upd h' r5 (some ⟨.t 29, 6, [eNode (nth d.nodes k)]⟩)) rK (some ⟨.t 3, 1, (nth d.nodes k).kids.map eInt⟩)) r5 (some ⟨.t 29, 6, [rowG (nth d.nodes k) rK]⟩) := ⟨_, rfl⟩
    show Hd (appE 29 6 96 b [rowG (nth d.nodes k) rK] (upd (upd (upd h' r5 (some ⟨.t 29, 6, [eNode (nth d.nodes k)]⟩)) rK (some ⟨.t 3, 1, (nth d.nodes k).kids.map eInt⟩)) r5 (some ⟨.t 29, 6, [rowG (nth d.nodes k) rK]⟩))) _ _
    rw [← hh5]
    have k5 : ∀ t o, h' t = some o → h5 t = some o := fun t o ht => by
      have t5 : t ≠ r5 := fun e => by rw [e, hr5] at ht; cases ht
      have tA : t ≠ rK := fun e => by rw [e, hrK.2] at ht; cases ht
      rw [hh5, upd_ne _ _ t5, upd_ne _ _ tA, upd_ne _ _ t5]; exact ht
    have gA : h5 rK = some ⟨.t 3, 1, (nth d.nodes k).kids.map eInt⟩ := by rw [hh5, upd_ne _ _ nA5, upd_same]
    refine (O.keep fun r o _ ho => k5 r o ho).app MB (by rw [rowsG_len, List.length_singleton]; omega) (by rw [rowsG_len, List.length_singleton]; omega) fun r' h2 q1 q2 q3 => ?_
    rw [rowsG_len, List.length_singleton]
    have C' := C.snoc (h2 := h5) (h3 := h2) (rK := rK) (r' := r') k5 hrK.2 gA q1 q2 q3
    have nb3 : rootOf b ≠ some r3 := fun e => (C.base e).2.1 (by simp)
    have nb2 : rootOf b ≠ some r2 := fun e => (C.base e).2.1 (by simp)
    have k32 := q3 _ _ (k5 _ _ k3) nb3
    have k22 := q3 _ _ (k5 _ _ k2) nb2
    simp -dsimp -implicitDefEqProofs (disch := omega) only [VCA, pg_gl, ↓upd_none, Nat.reduceEqDiff, Nat.reduceBEq, Nat.reduceAdd, Nat.reduceSub, Nat.reduceMul, Nat.reduceLT, Nat.reduceLeDiff, ↓reduceIte, reduceCtorEq, rsOf, rootsOf, SOp.rd, SI.rd, SX.rd, rdL, rdO, rdP, okParts, eqCells, okEqCells, fillA, okFill, setAt, implies_true, forall_const, forall_eq, ne_eq, exists_eq_right_right, exists_eq_right, exists_eq_left, exists_eq_left', rootL, eInt, eBool, lit_eq, eDoc, he1, he2, he3, he4, k32, k22, eNode]
    refine ⟨_, by omega, k + 1, .osl r' 6 0 (k + 1), _, by omega, rfl, by omega, C'.other (r := r3) (by simp) _, by rw [if_neg (fun e => n32 e.symm)], rfl⟩
  · simp -dsimp -implicitDefEqProofs (disch := omega) only [VCA, pg_gl, ↓upd_none, Nat.reduceEqDiff, Nat.reduceBEq, Nat.reduceAdd, Nat.reduceSub, Nat.reduceMul, Nat.reduceLT, Nat.reduceLeDiff, ↓reduceIte, reduceCtorEq, rsOf, rootsOf, SOp.rd, SI.rd, SX.rd, rdL, rdO, rdP, okParts, eqCells, okEqCells, fillA, okFill, setAt, implies_true, forall_const, forall_eq, ne_eq, exists_eq_right_right, exists_eq_right, exists_eq_left, exists_eq_left', rootL, eInt, eBool, lit_eq, eDoc, he1, he2, he3, he4, k2, k3]
    obtain rfl : k = d.nodes.length := by omega
    exact ⟨_, Sub.refl _, b, g, rfl, (C.other (r := r2) (by simp) _).less (by simp)⟩
end Own2
end Go.Proofs.K
end
section
set_option linter.unusedSimpArgs false
set_option linter.unusedVariables false
namespace Go.Proofs.K
open Go Go.Sim Go.Proofs
variable {G : Glob}
theorem Kp.under {X Y : List Nat} {h h1 h' : Heap} {f : Nat → HNode} {k : Nat} {b : AVal} {g : Nat → Nat} (C : Kp X h1 h' f k b g) (S : Sim.Sub h h1) (hY : ∀ r ∈ Y, h r = none ∧ ∃ o, h1 r = some o) : Kp (Y ++ X) h h' f k b g := by
  have no : ∀ r, h1 r = none → r ∉ X → r ∉ Y ++ X := fun r hr hx => by
    rw [List.mem_append]
    rintro (q | q)
    · obtain ⟨_, o, ho⟩ := hY r q; rw [hr] at ho; cases ho
    · exact hx q
  refine ⟨S.trans C.sub, ?_, fun i hi => ?_, fun r hr => ?_⟩
  · rcases C.nodes with e | ⟨rN, e, h1, h2, h3⟩
    · exact .inl e
    · exact .inr ⟨rN, e, S.none h1, no _ h1 h2, h3⟩
  · obtain ⟨g1, g2, g3, g4⟩ := C.kids i hi
    exact ⟨S.none g1, no _ g1 g2, g3, g4⟩
  · rcases List.mem_append.1 hr with q | q
    · obtain ⟨a, o, ho⟩ := hY r q; exact ⟨a, o, C.sub _ _ ho⟩
    · exact ⟨S.none (C.keep r q).1, (C.keep r q).2⟩
theorem upd_id {α : Type} (f : Nat → α) (r : Nat) : upd f r (f r) = f := by
  funext t
  by_cases h : t = r
  · rw [h, upd_same]
  · rw [upd_ne _ _ h]
def mix (K : List Int) (f : Int → Int) (j : Nat) : List Int := (K.map f).take j ++ K.drop j
theorem mix_len (K : List Int) (f : Int → Int) (j : Nat) : (mix K f j).length = K.length := by
  unfold mix; rw [List.length_append, List.length_take, List.length_drop, List.length_map]; omega
theorem mix_zero (K : List Int) (f : Int → Int) : mix K f 0 = K := by unfold mix; simp
theorem mix_all (K : List Int) (f : Int → Int) : mix K f K.length = K.map f := by unfold mix; rw [List.take_of_length_le (by simp), List.drop_eq_nil_of_le (Nat.le_refl _), List.append_nil]
theorem mix_nth {K : List Int} {f : Int → Int} {j : Nat} (hj : j < K.length) : nth (mix K f j) j = nth K j := by
  unfold mix nth
  rw [List.getD_eq_getElem?_getD, List.getElem?_append_right (by rw [List.length_take]; omega), List.length_take, List.length_map, show j - min j K.length = 0 by omega, List.getElem?_drop, List.getD_eq_getElem?_getD]; rfl
theorem mix_set {K : List Int} {f : Int → Int} {j : Nat} (hj : j < K.length) : (mix K f j).set j (f (nth K j)) = mix K f (j + 1) := by
  refine ext_nth (by rw [List.length_set, mix_len, mix_len]) fun i hi => ?_
  rw [List.length_set, mix_len] at hi
  rw [nth_set _ _ _ _ (by rw [mix_len]; exact hj)]
  have e1 : ∀ t, nth (mix K f t) i = if i < t then f (nth K i) else nth K i := fun t => by
    unfold mix
    have hf : nth (K.map f) i = f (nth K i) := by
      unfold nth; rw [List.getD_eq_getElem?_getD, List.getElem?_map, List.getElem?_eq_getElem hi, List.getD_eq_getElem?_getD, List.getElem?_eq_getElem hi]; rfl
    by_cases h : i < t
    · rw [if_pos h, ← hf]
      unfold nth; rw [List.getD_eq_getElem?_getD, List.getElem?_append_left (by rw [List.length_take, List.length_map]; omega), List.getElem?_take_of_lt h, List.getD_eq_getElem?_getD]
    · rw [if_neg h]
      unfold nth; rw [List.getD_eq_getElem?_getD, List.getElem?_append_right (by rw [List.length_take]; omega), List.length_take, List.length_map, List.getElem?_drop, show t + (i - min t K.length) = i by omega, List.getD_eq_getElem?_getD]
  rw [e1, e1]
  by_cases h : i = j
  · rw [if_pos h, if_pos (by omega), h]
  · rw [if_neg h]
    by_cases h2 : i < j
    · rw [if_pos h2, if_pos (by omega)]
    · rw [if_neg h2, if_neg (by omega)]
def cpF (d : HDoc) (n : Int) (i : Nat) : HNode := if i < d.nodes.length then nth d.nodes i else cpR d n (nth (below d n) (i - d.nodes.length))
theorem cpF_all (d : HDoc) (n : Int) : (List.range (d.nodes.length + (below d n).length)).map (cpF d n) = (cpT d n (below d n).length).nodes := by
  unfold cpT
  rw [List.take_length]
  refine ext_nth (by simp) fun i hi => ?_
  rw [List.length_map, List.length_range] at hi
  have l : nth ((List.range (d.nodes.length + (below d n).length)).map (cpF d n)) i = cpF d n i := by
    unfold nth; rw [List.getD_eq_getElem?_getD, List.getElem?_map, List.getElem?_range hi]; rfl
  rw [l]
  unfold cpF nth
  by_cases h : i < d.nodes.length
  · rw [if_pos h, List.getD_eq_getElem?_getD, List.getD_eq_getElem?_getD, List.getElem?_append_left h]
  · rw [if_neg h, List.getD_eq_getElem?_getD (l := _ ++ _), List.getElem?_append_right (by omega), List.getElem?_map, List.getElem?_eq_getElem (by omega), List.getD_eq_getElem?_getD, List.getElem?_eq_getElem (by omega)]; rfl
def c26 : SFun := ⟨.seq (.reg [⟨some 2, .boxF 24 2 (.t 0), none⟩, ⟨some 4, .new 24 2 [.emp, .bool false], none⟩, ⟨some 5, .mv (.c (.int .i64 0)), none⟩]) (.seq (.reg [⟨some 12, .ld 2 true (.t 2), none⟩, ⟨some 13, .call (.c (.fn 56 [] [])) [.t 12], none⟩, ⟨some 6, .new 24 2 [.emp, .bool false], none⟩, ⟨none, .st 2 (.t 6) (.t 13), none⟩]) (.seq (.reg [⟨some 14, .ld 2 true (.t 2), none⟩, ⟨some 15, .mv (.t 1), none⟩, ⟨some 16, .pcall 11 [.t 14, .t 15], none⟩, ⟨some 7, .mv (.t 16), none⟩]) (.seq (.reg [⟨some 17, .fldA 0 (.t 2), none⟩, ⟨some 18, .ld 1 false (.t 17), none⟩, ⟨some 19, .len (.t 18), none⟩, ⟨some 8, .mv (.t 19), none⟩]) (.seq (.seq (.reg [⟨some 9, .mv (.c (.int .i64 0)), none⟩]) (.block 0 (.loop (.seq (.seq (.reg [⟨some 20, .mv (.t 9), none⟩, ⟨some 21, .mv (.t 7), none⟩, ⟨some 22, .len (.t 21), none⟩, ⟨some 23, .bin .lss (.t 20) (.t 22), none⟩]) (.cond (.t 23) .skip (.exit 0))) (.seq (.block 1 (.seq (.dreg [(⟨some 26, .ld 2 true (.t 2), none⟩, none), (⟨some 29, .mv (.t 7), none⟩, none), (⟨some 30, .mv (.t 9), none⟩, none), (⟨some 31, .idxA 1 (.t 29) (.t 30), none⟩, none), (⟨some 32, .ld 1 false (.t 31), none⟩, none), (⟨some 27, .call (.c (.fn 56 [] [])) [.t 26], none⟩, (some [26])), (⟨some 28, .fld 0 1 false (.t 27), none⟩, none), (⟨some 33, .idxA 6 (.t 28) (.t 32), none⟩, none), (⟨some 34, .ld 6 true (.t 33), none⟩, none), (⟨some 10, .new 29 6 [.int .i64 0, .str [], .emp, .str [], .int .i64 0, .emp], none⟩, (some [])), (⟨none, .st 6 (.t 10) (.t 34), none⟩, (some [34, 32, 26]))]) (.seq (.seq (.reg [⟨some 11, .mv (.c (.int .i64 0)), none⟩]) (.block 2 (.loop (.seq (.seq (.reg [⟨some 35, .mv (.t 11), none⟩, ⟨some 36, .fldA 5 (.t 10), none⟩, ⟨some 37, .ld 1 false (.t 36), none⟩, ⟨some 38, .len (.t 37), none⟩, ⟨some 39, .bin .lss (.t 35) (.t 38), none⟩]) (.cond (.t 39) .skip (.exit 2))) (.seq (.block 3 (.dreg [(⟨some 42, .fldA 5 (.t 10), none⟩, none), (⟨some 43, .ld 1 false (.t 42), none⟩, none), (⟨some 44, .mv (.t 11), none⟩, none), (⟨some 45, .mv (.t 8), none⟩, none), (⟨some 46, .mv (.t 7), none⟩, none), (⟨some 47, .fldA 5 (.t 10), none⟩, none), (⟨some 48, .ld 1 false (.t 47), none⟩, none), (⟨some 49, .mv (.t 11), none⟩, none), (⟨some 50, .idxA 1 (.t 48) (.t 49), none⟩, none), (⟨some 51, .ld 1 false (.t 50), none⟩, none), (⟨some 52, .pcall 35 [.t 46, .t 51], none⟩, none), (⟨some 53, .bin .add (.t 45) (.t 52), none⟩, none), (⟨some 54, .idxA 1 (.t 43) (.t 44), none⟩, none), (⟨none, .st 1 (.t 54) (.t 53), none⟩, (some [43, 51, 48]))])) (.reg [⟨some 40, .mv (.t 11), none⟩, ⟨some 41, .bin .add (.t 40) (.c (.int .i64 1)), none⟩, ⟨some 11, .mv (.t 41), none⟩])))))) (.seq (.seq (.reg [⟨some 55, .mv (.t 9), none⟩, ⟨some 56, .bin .eql (.t 55) (.c (.int .i64 0)), none⟩]) (.cond (.t 56) (.reg [⟨some 57, .fldA 4 (.t 10), none⟩, ⟨none, .st 1 (.t 57) (.c (.int .i64 (-1))), none⟩]) (.reg [⟨some 58, .mv (.t 8), none⟩, ⟨some 59, .mv (.t 7), none⟩, ⟨some 60, .fldA 4 (.t 10), none⟩, ⟨some 61, .ld 1 false (.t 60), none⟩, ⟨some 62, .pcall 35 [.t 59, .t 61], none⟩, ⟨some 63, .bin .add (.t 58) (.t 62), none⟩, ⟨some 64, .fldA 4 (.t 10), none⟩, ⟨none, .st 1 (.t 64) (.t 63), none⟩]))) (.reg [⟨some 65, .fldA 0 (.t 6), none⟩, ⟨some 66, .ld 1 false (.t 65), none⟩, ⟨some 67, .ld 6 true (.t 10), none⟩, ⟨some 68, .bldF 29 6 [.t 67], none⟩, ⟨some 69, .app 29 6 96 (.t 66) (.t 68), none⟩, ⟨some 70, .fldA 0 (.t 6), none⟩, ⟨none, .st 1 (.t 70) (.t 69), none⟩]))))) (.reg [⟨some 24, .mv (.t 9), none⟩, ⟨some 25, .bin .add (.t 24) (.c (.int .i64 1)), none⟩, ⟨some 9, .mv (.t 25), none⟩])))))) (.seq (.reg [⟨some 71, .ld 2 true (.t 6), none⟩, ⟨some 72, .mv (.t 8), none⟩, ⟨none, .st 2 (.t 4) (.t 71), none⟩, ⟨some 5, .mv (.t 72), none⟩]) .ret))))), [.cell 4 2 true, .tmp 5]⟩
theorem hc26 : toSF Tryd.prog {pure := [11, 35]} Tryd.f26 = some c26 := by kernel_rfl
theorem hn26 : (Tryd.f26.name == "runtime.NumGoroutine") = false := by kernel_rfl
set_option maxHeartbeats 1000000 in
theorem copied_ok (d : HDoc) (V : DV d) (sm : DocSm d) (n : Int) (hn : inD d n) : PCalls (Pg G) 26 [.agg (eDoc d), aInt n] (.tup [.agg (eDoc (cpT d n (below d n).length)), aInt d.nodes.length]) := PCalls.outV fun h => by
  have hl := V.len
  have hp := V.pos
  have hBe := below_ok (G := G) d V sm n hn
  have bin := below_in V n hn
  have bl := below_len V hn
  have cD := fun hh => Own2.copyDoc_own (G := G) d sm hh
  obtain ⟨A, hA⟩ : ∃ A, below d n = A := ⟨_, rfl⟩
  have fA := cpF_all d n
  rw [hA] at hBe bin bl fA ⊢
  have hPl := fun c => placeIn_ok (G := G) A c (by omega)
  simp only [eDoc] at hBe cD
  refine dcalls_of_vc Tryd.func26 hn26 hc26 (by rw [Tryd.ntmps26]; simp) (by rw [Tryd.ntmps26]; decide) ?_
  simp -dsimp -implicitDefEqProofs (disch := omega) only [VCA, pg_gl, ↓upd_none, Nat.reduceEqDiff, Nat.reduceBEq, Nat.reduceAdd, Nat.reduceSub, Nat.reduceMul, Nat.reduceLT, Nat.reduceLeDiff, ↓reduceIte, reduceCtorEq, rsOf, rootsOf, SOp.rd, SI.rd, SX.rd, rdL, rdO, rdP, okParts, eqCells, okEqCells, fillA, okFill, setAt, implies_true, forall_const, forall_eq, ne_eq, exists_eq_right_right, exists_eq_right, exists_eq_left, exists_eq_left', rootL, eInt, eBool, lit_eq, eDoc, c26, eDoc]
  intro r4 hr4
  refine DCalls.of (cD _) ?_
  rintro _ h1 ⟨b, g, rfl, C1⟩
  have k4 := C1.sub _ _ (upd_same _ _ _)
  simp -dsimp -implicitDefEqProofs (disch := omega) only [VCA, pg_gl, ↓upd_none, Nat.reduceEqDiff, Nat.reduceBEq, Nat.reduceAdd, Nat.reduceSub, Nat.reduceMul, Nat.reduceLT, Nat.reduceLeDiff, ↓reduceIte, reduceCtorEq, rsOf, rootsOf, SOp.rd, SI.rd, SX.rd, rdL, rdO, rdP, okParts, eqCells, okEqCells, fillA, okFill, setAt, implies_true, forall_const, forall_eq, ne_eq, exists_eq_right_right, exists_eq_right, exists_eq_left, exists_eq_left', rootL, eInt, eBool, lit_eq, eDoc, k4]
  intro r6 hr6
  repeat' (first | ((with_reducible refine brC (fun _ => ?_) fun _ => ?_) <;> try (exfalso; omega)) | (with_reducible apply pcallE.of; · exact hBe) | (with_reducible refine And.intro ?_ ?_; · omega) | simp -dsimp -implicitDefEqProofs (disch := omega) only [VCA, pg_gl, ↓upd_none, Nat.reduceEqDiff, Nat.reduceBEq, Nat.reduceAdd, Nat.reduceSub, Nat.reduceMul, Nat.reduceLT, Nat.reduceLeDiff, ↓reduceIte, reduceCtorEq, rsOf, rootsOf, SOp.rd, SI.rd, SX.rd, rdL, rdO, rdP, okParts, eqCells, okEqCells, fillA, okFill, setAt, implies_true, forall_const, forall_eq, ne_eq, exists_eq_right_right, exists_eq_right, exists_eq_left, exists_eq_left', rootL, eInt, eBool, lit_eq, eDoc, k4])
  have n64 : r6 ≠ r4 := fun e => by rw [e, k4] at hr6; cases hr6
  have C2 := (((C1.under (Y := [r4]) ((Sub.refl h).upd hr4) (fun r hr => by simp at hr; subst hr; exact ⟨hr4, _, upd_same _ _ _⟩)).more hr6 ⟨24, 2, [[b, .bool d.quirks]]⟩).cong (f' := cpF d n) (fun i hi => by unfold cpF; rw [if_pos hi]))
  have k4' : upd h1 r6 (some ⟨.t 24, 2, [[b, .bool d.quirks]]⟩) r4 = some ⟨.t 24, 2, [[.emp, .bool false]]⟩ := by rw [upd_ne _ _ (fun e => n64 e.symm)]; exact k4
  refine LoopVC.intro (fun m e h' => ∃ (k : Nat) (b : AVal) (g : Nat → Nat), k ≤ A.length ∧ m = A.length - k ∧ e 2 = .pin (eDoc d) ∧ e 4 = .vp r4 0 ∧ e 6 = .vp r6 0 ∧ e 7 = sl eInt A ∧ e 8 = aInt d.nodes.length ∧ e 9 = aInt k ∧ Kp [r6, r4] h h' (cpF d n) (d.nodes.length + k) b g ∧
    h' r4 = some ⟨.t 24, 2, [[.emp, .bool false]]⟩ ∧ h' r6 = some ⟨.t 24, 2, [[b, .bool d.quirks]]⟩) A.length
    ⟨0, b, g, by omega, by omega, rfl, rfl, rfl, rfl, rfl, rfl, C2, k4', upd_same _ _ _⟩ ?_
  clear C2 k4' C1 k4 hr6
  rintro m e h' ⟨k, b, g, hk, rfl, e2, e4, e6, e7, e8, e9, C, k4, k6⟩
  simp -dsimp -implicitDefEqProofs (disch := omega) only [VCA, pg_gl, ↓upd_none, Nat.reduceEqDiff, Nat.reduceBEq, Nat.reduceAdd, Nat.reduceSub, Nat.reduceMul, Nat.reduceLT, Nat.reduceLeDiff, ↓reduceIte, reduceCtorEq, rsOf, rootsOf, SOp.rd, SI.rd, SX.rd, rdL, rdO, rdP, okParts, eqCells, okEqCells, fillA, okFill, setAt, implies_true, forall_const, forall_eq, ne_eq, exists_eq_right_right, exists_eq_right, exists_eq_left, exists_eq_left', rootL, eInt, eBool, lit_eq, eDoc, e2, e4, e6, e7, e8, e9, k4, k6]
  refine Br.dec (fun hlt => ?_) (fun hge => ?_)
  · have hk' : k < A.length := by omega
    obtain ⟨c, hc⟩ : ∃ c, nth A k = c := ⟨_, rfl⟩
    have hcA : c ∈ A := by rw [← hc]; exact nth_mem' hk'
    have hci := bin c hcA
    have c0 := hci.1
    have c1 := hci.2
    have cn := hci.nat
    simp -dsimp -implicitDefEqProofs (disch := omega) only [VCA, pg_gl, ↓upd_none, Nat.reduceEqDiff, Nat.reduceBEq, Nat.reduceAdd, Nat.reduceSub, Nat.reduceMul, Nat.reduceLT, Nat.reduceLeDiff, ↓reduceIte, reduceCtorEq, rsOf, rootsOf, SOp.rd, SI.rd, SX.rd, rdL, rdO, rdP, okParts, eqCells, okEqCells, fillA, okFill, setAt, implies_true, forall_const, forall_eq, ne_eq, exists_eq_right_right, exists_eq_right, exists_eq_left, exists_eq_left', rootL, eInt, eBool, lit_eq, eDoc, e2, e4, e6, e7, e8, e9, k4, k6, hc]
    refine ⟨by omega, DCalls.of (cD _) ?_⟩
    rintro _ h1 ⟨b1, g1, rfl, D⟩
    have S1 := D.sub
    obtain ⟨rN, rfl, nN, _, gN⟩ : ∃ rN, b1 = .osl rN 6 0 d.nodes.length ∧ h' rN = none ∧ rN ∉ ([] : List Nat) ∧ h1 rN = some ⟨.t 29, 6, rowsG (nth d.nodes) g1 d.nodes.length⟩ := by
      rcases D.nodes with ⟨e, _⟩ | q
      · omega
      · exact q
    obtain ⟨nK, _, neK, gK⟩ := D.kids _ cn.1
    have k41 := S1 _ _ k4
    have k61 := S1 _ _ k6
    have gr := rowsG_get (f := nth d.nodes) (g := g1) cn.1
    have rl := rowsG_len (nth d.nodes) g1 d.nodes.length
    obtain ⟨x, hx⟩ : ∃ x, nd d c = x := ⟨_, rfl⟩
    have hx' : nth d.nodes c.toNat = x := hx
    rw [hx'] at gr gK
    obtain ⟨rK, hrK⟩ : ∃ rK, g1 c.toNat = rK := ⟨_, rfl⟩
    rw [hrK] at gr gK nK neK
    have C1 := C.mono S1
    have neK' : ¬ rN = rK := fun e => neK (by rw [e]; rfl)
    refine ⟨fun _ h2 _ => ?_, ?_⟩
    · cases h2
    simp -dsimp -implicitDefEqProofs (disch := omega) only [VCA, pg_gl, ↓upd_none, Nat.reduceEqDiff, Nat.reduceBEq, Nat.reduceAdd, Nat.reduceSub, Nat.reduceMul, Nat.reduceLT, Nat.reduceLeDiff, ↓reduceIte, reduceCtorEq, rsOf, rootsOf, SOp.rd, SI.rd, SX.rd, rdL, rdO, rdP, okParts, eqCells, okEqCells, fillA, okFill, setAt, implies_true, forall_const, forall_eq, ne_eq, exists_eq_right_right, exists_eq_right, exists_eq_left, exists_eq_left', rootL, eInt, eBool, lit_eq, eDoc, e2, e4, e6, e7, e8, e9, k41, k61, hc, gN, gr, rl, rowG, rowA]
    refine ⟨by omega, by omega, fun r10 hr10 => ?_⟩
    have m1 : ∀ t o, h1 t = some o → ¬ t = r10 := fun t o ht e => by rw [e, hr10] at ht; cases ht
    have m4 := m1 _ _ k41
    have m6 := m1 _ _ k61
    have mK := m1 _ _ gK
    have mN := m1 _ _ gN
    have m4' : ¬ r10 = r4 := fun e => m4 e.symm
    have m6' : ¬ r10 = r6 := fun e => m6 e.symm
    have mK' : ¬ r10 = rK := fun e => mK e.symm
    refine ⟨by rw [if_neg mN], ?_⟩
    obtain ⟨HB, hHB⟩ : ∃ HB, HB = upd h1 r10 (some ⟨.t 29, 6, [rowG x rK]⟩) := ⟨_, rfl⟩
    obtain ⟨F, hF⟩ : ∃ F : Int → Int, F = fun c => (d.nodes.length : Int) + ix A c := ⟨_, rfl⟩
    have b10 : HB r10 = some ⟨.t 29, 6, [rowG x rK]⟩ := by rw [hHB, upd_same]
    have bK : HB rK = some ⟨.t 3, 1, x.kids.map eInt⟩ := by rw [hHB, upd_ne _ _ mK]; exact gK
    have b4 : HB r4 = some ⟨.t 24, 2, [[.emp, .bool false]]⟩ := by rw [hHB, upd_ne _ _ m4]; exact k41
    have b6 : HB r6 = some ⟨.t 24, 2, [[b, .bool d.quirks]]⟩ := by rw [hHB, upd_ne _ _ m6]; exact k61
    have z4 : ¬ r4 = rK := fun e => by rw [e, nK] at k4; cases k4
    have z6 : ¬ r6 = rK := fun e => by rw [e, nK] at k6; cases k6
    have sx := sm.nd c
    rw [hx] at sx
    have lx := sx.kids
    show LoopVC _ _ _ (upd h1 r10 (some ⟨.t 29, 6, [rowG x rK]⟩))
    rw [← hHB]
    refine LoopVC.intro (fun m e h' => ∃ j : Nat, j ≤ x.kids.length ∧ m = x.kids.length - j ∧ e 2 = .pin (eDoc d) ∧ e 4 = .vp r4 0 ∧ e 6 = .vp r6 0 ∧ e 7 = sl eInt A ∧ e 8 = aInt d.nodes.length ∧ e 9 = aInt k ∧ e 10 = .vp r10 0 ∧ e 11 = aInt j ∧
      h' = upd HB rK (some ⟨.t 3, 1, (mix x.kids F j).map eInt⟩)) x.kids.length ⟨0, by omega, by omega, e2, e4, e6, e7, e8, e9, rfl, rfl, by rw [mix_zero, ← bK, upd_id]⟩ ?_
    clear e2 e4 e6 e7 e8 e9
    rintro m e H ⟨j, hj, rfl, e2, e4, e6, e7, e8, e9, e10, e11, hH⟩
    have h10 : H r10 = some ⟨.t 29, 6, [rowG x rK]⟩ := by rw [hH, upd_ne _ _ mK']; exact b10
    have hK : H rK = some ⟨.t 3, 1, (mix x.kids F j).map eInt⟩ := by rw [hH, upd_same]
    have h4 : H r4 = some ⟨.t 24, 2, [[.emp, .bool false]]⟩ := by rw [hH, upd_ne _ _ z4]; exact b4
    have h6 : H r6 = some ⟨.t 24, 2, [[b, .bool d.quirks]]⟩ := by rw [hH, upd_ne _ _ z6]; exact b6
    simp -dsimp -implicitDefEqProofs (disch := omega) only [VCA, pg_gl, ↓upd_none, Nat.reduceEqDiff, Nat.reduceBEq, Nat.reduceAdd, Nat.reduceSub, Nat.reduceMul, Nat.reduceLT, Nat.reduceLeDiff, ↓reduceIte, reduceCtorEq, rsOf, rootsOf, SOp.rd, SI.rd, SX.rd, rdL, rdO, rdP, okParts, eqCells, okEqCells, fillA, okFill, setAt, implies_true, forall_const, forall_eq, ne_eq, exists_eq_right_right, exists_eq_right, exists_eq_left, exists_eq_left', rootL, eInt, eBool, lit_eq, eDoc, e2, e4, e6, e7, e8, e9, e10, e11, h10, h4, h6, rowG, rowA]
    refine Br.dec (fun hlj => ?_) (fun hgj => ?_)
    · have hj' : j < x.kids.length := by omega
      obtain ⟨q, hq⟩ : ∃ q, nth x.kids j = q := ⟨_, rfl⟩
      have hP := hPl q
      have iq := idxM_leK A q
      have iq1 := iq.1
      have iq2 := iq.2.1
      have ml := mix_len x.kids F j
      have mn := mix_nth (f := F) hj'
      rw [hq] at mn
      have gq : ((mix x.kids F j).map eInt).getD j [] = [.int .i64 q] := by
        rw [List.getD_eq_getElem?_getD, List.getElem?_map, nth_some (by rw [ml]; exact hj'), mn]; rfl
      repeat' (first | ((with_reducible refine brC (fun _ => ?_) fun _ => ?_) <;> try (exfalso; omega)) | (with_reducible apply pcallE.of; · exact hP) | (with_reducible refine And.intro ?_ ?_; · omega) | simp -dsimp -implicitDefEqProofs (disch := omega) only [VCA, pg_gl, ↓upd_none, Nat.reduceEqDiff, Nat.reduceBEq, Nat.reduceAdd, Nat.reduceSub, Nat.reduceMul, Nat.reduceLT, Nat.reduceLeDiff, ↓reduceIte, reduceCtorEq, rsOf, rootsOf, SOp.rd, SI.rd, SX.rd, rdL, rdO, rdP, okParts, eqCells, okEqCells, fillA, okFill, setAt, implies_true, forall_const, forall_eq, ne_eq, exists_eq_right_right, exists_eq_right, exists_eq_left, exists_eq_left', rootL, eInt, eBool, lit_eq, eDoc, e2, e4, e6, e7, e8, e9, e10, e11, h10, h4, h6, rowG, rowA, hK, ml, mn, gq, List.length_map])
      refine ⟨_, by omega, j + 1, hj', rfl, by omega, ?_⟩
      rw [hH, upd_upd, ← mix_set hj', hq, List.map_set, hF]
      rfl
    · obtain rfl : j = x.kids.length := by omega
      simp -dsimp -implicitDefEqProofs (disch := omega) only [VCA, pg_gl, ↓upd_none, Nat.reduceEqDiff, Nat.reduceBEq, Nat.reduceAdd, Nat.reduceSub, Nat.reduceMul, Nat.reduceLT, Nat.reduceLeDiff, ↓reduceIte, reduceCtorEq, rsOf, rootsOf, SOp.rd, SI.rd, SX.rd, rdL, rdO, rdP, okParts, eqCells, okEqCells, fillA, okFill, setAt, implies_true, forall_const, forall_eq, ne_eq, exists_eq_right_right, exists_eq_right, exists_eq_left, exists_eq_left', rootL, eInt, eBool, lit_eq, eDoc, e2, e4, e6, e7, e8, e9, e10, e11, h10, h4, h6, rowG, rowA]
      rw [mix_all] at hH
      have S2 : ∀ pp : Int, Sim.Sub h' (upd H r10 (some ⟨.t 29, 6, [[aInt x.kind, .str x.name, sl eAttr x.attrs, .str x.text, aInt pp, .osl rK 1 0 x.kids.length]]⟩)) := fun pp t o ht => by
        have t1 := S1 t o ht
        have t2 : t ≠ r10 := fun e => m1 t o t1 e
        have t3 : t ≠ rK := fun e => by rw [e, nK] at ht; cases ht
        rw [upd_ne _ _ t2, hH, upd_ne _ _ t3, hHB, upd_ne _ _ t2]; exact t1
      have fk : cpF d n (d.nodes.length + k) = { x with parent := if k = 0 then -1 else F x.parent, kids := x.kids.map F } := by
        have e1 : nth (below d n) k = n ↔ k = 0 := cp_self V hn (by rw [hA]; exact hk')
        unfold cpF cpR
        rw [if_neg (by omega), show d.nodes.length + k - d.nodes.length = k by omega, hA, hc, hx, hF]
        rw [hA, hc] at e1
        by_cases h0 : k = 0
        · rw [if_pos (e1.2 h0), if_pos h0]
        · rw [if_neg (fun q => h0 (e1.1 q)), if_neg h0]
      have two : ∀ pp : Int, pp = (if k = 0 then -1 else F x.parent) → rowG (cpF d n (d.nodes.length + k)) rK = [aInt x.kind, .str x.name, sl eAttr x.attrs, .str x.text, aInt pp, .osl rK 1 0 x.kids.length] := fun pp hpp => by
        rw [fk, hpp]; unfold rowG rowA; rw [List.length_map]
      by_cases h0 : k = 0
      · have kb : ((k : Int) == 0) = true := by rw [h0]; rfl
        obtain ⟨pp, hpp⟩ : ∃ pp : Int, pp = -1 := ⟨_, rfl⟩
        have hp2 : pp = (if k = 0 then -1 else F x.parent) := by rw [if_pos h0]; exact hpp
        rw [kb]
        simp -dsimp -implicitDefEqProofs (disch := omega) only [VCA, pg_gl, ↓upd_none, Nat.reduceEqDiff, Nat.reduceBEq, Nat.reduceAdd, Nat.reduceSub, Nat.reduceMul, Nat.reduceLT, Nat.reduceLeDiff, ↓reduceIte, reduceCtorEq, rsOf, rootsOf, SOp.rd, SI.rd, SX.rd, rdL, rdO, rdP, okParts, eqCells, okEqCells, fillA, okFill, setAt, implies_true, forall_const, forall_eq, ne_eq, exists_eq_right_right, exists_eq_right, exists_eq_left, exists_eq_left', rootL, eInt, eBool, lit_eq, eDoc, e2, e4, e6, e7, e8, e9, e10, e11, h10, h4, h6, rowG, rowA, upd_same, m4, m6, m4', m6']
        rw [← hpp]
        have C2 := C.mono (S2 pp)
        obtain ⟨O, MB⟩ := C2.rows
        obtain ⟨H2, hH2⟩ : ∃ H2, H2 = upd H r10 (some ⟨.t 29, 6, [[aInt x.kind, .str x.name, sl eAttr x.attrs, .str x.text, aInt pp, .osl rK 1 0 x.kids.length]]⟩) := ⟨_, rfl⟩
        have S2' : Sim.Sub h' H2 := by rw [hH2]; exact S2 pp
        have gK2 : H2 rK = some ⟨.t 3, 1, (cpF d n (d.nodes.length + k)).kids.map eInt⟩ := by rw [hH2, upd_ne _ _ mK, hH, upd_same, fk]
        rw [← hH2] at O
        have tw := two pp hp2
        show Hd (appE 29 6 96 b [[aInt x.kind, .str x.name, sl eAttr x.attrs, .str x.text, aInt pp, .osl rK 1 0 x.kids.length]] (upd H r10 (some ⟨.t 29, 6, [[aInt x.kind, .str x.name, sl eAttr x.attrs, .str x.text, aInt pp, .osl rK 1 0 x.kids.length]]⟩))) _ _
        rw [← hH2, ← tw]
        refine O.app MB (by rw [rowsG_len, List.length_singleton]; omega) (by rw [rowsG_len, List.length_singleton]; omega) fun r' h3 q1 q2 q3 => ?_
        rw [rowsG_len, List.length_singleton]
        have C' := C.snoc (h2 := H2) (h3 := h3) (rK := rK) (r' := r') S2' nK gK2 q1 q2 q3
        have nb6 : rootOf b ≠ some r6 := fun e => (C.base e).2.1 (by simp)
        have nb4 : rootOf b ≠ some r4 := fun e => (C.base e).2.1 (by simp)
        have k62 := q3 _ _ (S2' _ _ k6) nb6
        have k42 := q3 _ _ (S2' _ _ k4) nb4
        simp -dsimp -implicitDefEqProofs (disch := omega) only [VCA, pg_gl, ↓upd_none, Nat.reduceEqDiff, Nat.reduceBEq, Nat.reduceAdd, Nat.reduceSub, Nat.reduceMul, Nat.reduceLT, Nat.reduceLeDiff, ↓reduceIte, reduceCtorEq, rsOf, rootsOf, SOp.rd, SI.rd, SX.rd, rdL, rdO, rdP, okParts, eqCells, okEqCells, fillA, okFill, setAt, implies_true, forall_const, forall_eq, ne_eq, exists_eq_right_right, exists_eq_right, exists_eq_left, exists_eq_left', rootL, eInt, eBool, lit_eq, eDoc, e2, e4, e6, e7, e8, e9, e10, e11, k62, k42]
        refine ⟨_, by omega, k + 1, .osl r' 6 0 (d.nodes.length + k + 1), upd g (d.nodes.length + k) rK, by omega, rfl, by omega, C'.other (r := r6) (by simp) _, by rw [if_neg (fun e => n64 e.symm)], rfl⟩
      · have kb : ((k : Int) == 0) = false := by rw [beq_eq_false_iff_ne]; omega
        obtain ⟨pp, hpp⟩ : ∃ pp : Int, pp = F x.parent := ⟨_, rfl⟩
        have hp2 : pp = (if k = 0 then -1 else F x.parent) := by rw [if_neg h0]; exact hpp
        rw [kb]
        have hP := hPl x.parent
        have iq := idxM_leK A x.parent
        have iq1 := iq.1
        have iq2 := iq.2.1
        simp -dsimp -implicitDefEqProofs (disch := omega) only [VCA, pg_gl, ↓upd_none, Nat.reduceEqDiff, Nat.reduceBEq, Nat.reduceAdd, Nat.reduceSub, Nat.reduceMul, Nat.reduceLT, Nat.reduceLeDiff, ↓reduceIte, reduceCtorEq, rsOf, rootsOf, SOp.rd, SI.rd, SX.rd, rdL, rdO, rdP, okParts, eqCells, okEqCells, fillA, okFill, setAt, implies_true, forall_const, forall_eq, ne_eq, exists_eq_right_right, exists_eq_right, exists_eq_left, exists_eq_left', rootL, eInt, eBool, lit_eq, eDoc]
        repeat' (first | ((with_reducible refine brC (fun _ => ?_) fun _ => ?_) <;> try (exfalso; omega)) | (with_reducible apply pcallE.of; · exact hP) | (with_reducible refine And.intro ?_ ?_; · omega) | simp -dsimp -implicitDefEqProofs (disch := omega) only [VCA, pg_gl, ↓upd_none, Nat.reduceEqDiff, Nat.reduceBEq, Nat.reduceAdd, Nat.reduceSub, Nat.reduceMul, Nat.reduceLT, Nat.reduceLeDiff, ↓reduceIte, reduceCtorEq, rsOf, rootsOf, SOp.rd, SI.rd, SX.rd, rdL, rdO, rdP, okParts, eqCells, okEqCells, fillA, okFill, setAt, implies_true, forall_const, forall_eq, ne_eq, exists_eq_right_right, exists_eq_right, exists_eq_left, exists_eq_left', rootL, eInt, eBool, lit_eq, eDoc, e2, e4, e6, e7, e8, e9, e10, e11, h10, h4, h6, rowG, rowA, upd_same, m4, m6, m4', m6'])
        have eF : (d.nodes.length : Int) + idxM (· == x.parent) A = F x.parent := by rw [hF]; rfl
        rw [eF]
        rw [← hpp]
        have C2 := C.mono (S2 pp)
        obtain ⟨O, MB⟩ := C2.rows
        obtain ⟨H2, hH2⟩ : ∃ H2, H2 = upd H r10 (some ⟨.t 29, 6, [[aInt x.kind, .str x.name, sl eAttr x.attrs, .str x.text, aInt pp, .osl rK 1 0 x.kids.length]]⟩) := ⟨_, rfl⟩
        have S2' : Sim.Sub h' H2 := by rw [hH2]; exact S2 pp
        have gK2 : H2 rK = some ⟨.t 3, 1, (cpF d n (d.nodes.length + k)).kids.map eInt⟩ := by rw [hH2, upd_ne _ _ mK, hH, upd_same, fk]
        rw [← hH2] at O
        have tw := two pp hp2
        show Hd (appE 29 6 96 b [[aInt x.kind, .str x.name, sl eAttr x.attrs, .str x.text, aInt pp, .osl rK 1 0 x.kids.length]] (upd H r10 (some ⟨.t 29, 6, [[aInt x.kind, .str x.name, sl eAttr x.attrs, .str x.text, aInt pp, .osl rK 1 0 x.kids.length]]⟩))) _ _
        rw [← hH2, ← tw]
        refine O.app MB (by rw [rowsG_len, List.length_singleton]; omega) (by rw [rowsG_len, List.length_singleton]; omega) fun r' h3 q1 q2 q3 => ?_
        rw [rowsG_len, List.length_singleton]
        have C' := C.snoc (h2 := H2) (h3 := h3) (rK := rK) (r' := r') S2' nK gK2 q1 q2 q3
        have nb6 : rootOf b ≠ some r6 := fun e => (C.base e).2.1 (by simp)
        have nb4 : rootOf b ≠ some r4 := fun e => (C.base e).2.1 (by simp)
        have k62 := q3 _ _ (S2' _ _ k6) nb6
        have k42 := q3 _ _ (S2' _ _ k4) nb4
        simp -dsimp -implicitDefEqProofs (disch := omega) only [VCA, pg_gl, ↓upd_none, Nat.reduceEqDiff, Nat.reduceBEq, Nat.reduceAdd, Nat.reduceSub, Nat.reduceMul, Nat.reduceLT, Nat.reduceLeDiff, ↓reduceIte, reduceCtorEq, rsOf, rootsOf, SOp.rd, SI.rd, SX.rd, rdL, rdO, rdP, okParts, eqCells, okEqCells, fillA, okFill, setAt, implies_true, forall_const, forall_eq, ne_eq, exists_eq_right_right, exists_eq_right, exists_eq_left, exists_eq_left', rootL, eInt, eBool, lit_eq, eDoc, e2, e4, e6, e7, e8, e9, e10, e11, k62, k42]
        refine ⟨_, by omega, k + 1, .osl r' 6 0 (d.nodes.length + k + 1), upd g (d.nodes.length + k) rK, by omega, rfl, by omega, C'.other (r := r6) (by simp) _, by rw [if_neg (fun e => n64 e.symm)], rfl⟩
  · obtain rfl : k = A.length := by omega
    simp -dsimp -implicitDefEqProofs (disch := omega) only [VCA, pg_gl, ↓upd_none, Nat.reduceEqDiff, Nat.reduceBEq, Nat.reduceAdd, Nat.reduceSub, Nat.reduceMul, Nat.reduceLT, Nat.reduceLeDiff, ↓reduceIte, reduceCtorEq, rsOf, rootsOf, SOp.rd, SI.rd, SX.rd, rdL, rdO, rdP, okParts, eqCells, okEqCells, fillA, okFill, setAt, implies_true, forall_const, forall_eq, ne_eq, exists_eq_right_right, exists_eq_right, exists_eq_left, exists_eq_left', rootL, eInt, eBool, lit_eq, eDoc, e2, e4, e6, e7, e8, e9, k4, k6]
    have C' := (C.other (r := r4) (by simp) ⟨24, 2, [[b, .bool d.quirks]]⟩)
    have v := C'.vw
    rw [fA] at v
    exact ⟨_, Sub.refl _, C'.sub, .tup' (.cons (Vw.agg' (.cons v (.cons (.refl _) .nil))) (.cons (.refl _) .nil))⟩
end Go.Proofs.K
end
section
set_option linter.unusedSimpArgs false
set_option linter.unusedVariables false
namespace Go.Proofs.K
open Go Go.Sim Go.Proofs
variable {G : Glob}
end Go.Proofs.K
end
section
set_option linter.unusedSimpArgs false
set_option linter.unusedVariables false
namespace Go.Proofs.K
open Go Go.Sim Go.Proofs
section
variable {d : HDoc}
def path (d : HDoc) (n : Int) : List Int := (chain d n).reverse
theorem path_len (V : DV d) {n : Int} (hn : inD d n) : (path d n).length = up d n + 1 := by unfold path; rw [List.length_reverse, chain_len V n hn]
theorem path_up (V : DV d) {n : Int} (hn : inD d n) (hp : 0 ≤ (nd d n).parent) : path d n = path d (nd d n).parent ++ [n] := by unfold path; rw [chain_up V hn hp, List.reverse_cons]
theorem path_top (V : DV d) {n : Int} (hp : ¬ 0 ≤ (nd d n).parent) : path d n = [n] := by unfold path; rw [chain_top V hp]; rfl
theorem nth_snoc_lt {l : List Int} {x : Int} {j : Nat} (h : j < l.length) : nth (l ++ [x]) j = nth l j := by
  unfold nth; rw [List.getD_eq_getElem?_getD, List.getElem?_append_left h, ← List.getD_eq_getElem?_getD]
theorem nth_snoc_eq {l : List Int} {x : Int} : nth (l ++ [x]) l.length = x := by simp [nth, List.getD_eq_getElem?_getD]
theorem path_at (V : DV d) : ∀ n, inD d n → ∀ j, j ≤ up d n → nth (path d n) j ∈ chain d n ∧ up d (nth (path d n) j) = j := V.rise fun n hn ih j hj => by
  by_cases hp : 0 ≤ (nd d n).parent
  · have hu := V.up_par hn hp
    have hl := path_len V (V.par_in hn hp).1
    rw [path_up V hn hp]
    by_cases h1 : j = up d n
    · have : j = (path d (nd d n).parent).length := by omega
      rw [this, nth_snoc_eq]; exact ⟨chain_self _ _, by omega⟩
    · obtain ⟨h2, h3⟩ := ih hp j (by omega)
      rw [nth_snoc_lt (by omega)]
      exact ⟨by rw [chain_up V hn hp]; exact List.mem_cons_of_mem _ h2, h3⟩
  · have hu := V.up_top hp
    obtain rfl : j = 0 := by omega
    rw [path_top V hp]; exact ⟨chain_self _ _, hu⟩
structure Part (d : HDoc) (a b : Int) (i : Nat) : Prop where
  pos : 1 ≤ i
  la : i ≤ (path d a).length
  lb : i ≤ (path d b).length
  eq : ∀ j, j < i → nth (path d a) j = nth (path d b) j
  ne : ¬ (i < (path d a).length ∧ i < (path d b).length ∧ nth (path d a) i = nth (path d b) i)
variable {a b : Int} {i : Nat}
theorem Part.node (V : DV d) (ha : inD d a) (hb : inD d b) (p : Part d a b i) : nth (path d a) (i - 1) ∈ chain d a ∧ nth (path d a) (i - 1) ∈ chain d b ∧ up d (nth (path d a) (i - 1)) = i - 1 := by
  have h1 := path_at V a ha (i - 1) (by have := p.la; rw [path_len V ha] at this; omega)
  have h2 := path_at V b hb (i - 1) (by have := p.lb; rw [path_len V hb] at this; omega)
  exact ⟨h1.1, by rw [p.eq _ (by have := p.pos; omega)]; exact h2.1, h1.2⟩
end
end Go.Proofs.K
end
section
set_option linter.unusedSimpArgs false
set_option linter.unusedVariables false
namespace Go.Proofs.K
open Go Go.Sim Go.Proofs
variable {G : Glob}
end Go.Proofs.K
end
section
set_option linter.unusedSimpArgs false
set_option linter.unusedVariables false
namespace Go.Proofs.K
open Go Go.Sim Go.Proofs
variable {G : Glob}
end Go.Proofs.K
end
section
set_option linter.unusedSimpArgs false
set_option linter.unusedVariables false
namespace Go.Proofs.K
open Go Go.Sim Go.Proofs
variable {G : Glob}
structure HPoint where
  node : Int
  at' : Int
deriving DecidableEq, Inhabited
def eP (p : HPoint) : List AVal := [aInt p.node, aInt p.at']
instance : LenE eP 2 := ⟨fun _ => rfl⟩
structure HSpan where
  a : HPoint
  b : HPoint
deriving DecidableEq, Inhabited
def eS (s : HSpan) : List AVal := [aInt s.a.node, aInt s.a.at', aInt s.b.node, aInt s.b.at']
instance : LenE eS 4 := ⟨fun _ => rfl⟩
end Go.Proofs.K
end
section
set_option linter.unusedSimpArgs false
set_option linter.unusedVariables false
namespace Go.Proofs.K
open Go Go.Sim Go.Proofs
variable {G : Glob}
section
variable {d : HDoc}
end
end Go.Proofs.K
end
section
set_option linter.unusedSimpArgs false
set_option linter.unusedVariables false
namespace Go.Proofs.K
open Go Go.Sim Go.Proofs
section
variable {d : HDoc}
end
end Go.Proofs.K
end
section
set_option linter.unusedSimpArgs false
set_option linter.unusedVariables false
namespace Go.Proofs.K
open Go Go.Sim Go.Proofs
variable {G : Glob}
end Go.Proofs.K
end
section
set_option linter.unusedSimpArgs false
set_option linter.unusedVariables false
namespace Go.Proofs.K
open Go Go.Sim Go.Proofs
variable {G : Glob}
end Go.Proofs.K
end
section
set_option linter.unusedSimpArgs false
set_option linter.unusedVariables false
namespace Go.Proofs.K
open Go Go.Sim Go.Proofs
variable {G : Glob}
def c52 : SFun := ⟨.seq (.reg [⟨some 3, .boxF 24 2 (.t 0), none⟩, ⟨some 6, .mv (.c .emp), none⟩]) (.seq (.reg [⟨some 9, .mv (.t 2), none⟩, ⟨some 10, .mv (.t 1), none⟩, ⟨some 11, .bldF 3 1 [.t 10], none⟩, ⟨some 12, .app 3 1 8 (.t 9) (.t 11), none⟩, ⟨some 2, .mv (.t 12), none⟩]) (.seq (.seq (.reg [⟨some 13, .fldA 0 (.t 3), none⟩, ⟨some 14, .ld 1 false (.t 13), none⟩, ⟨some 15, .mv (.t 1), none⟩, ⟨some 16, .idxA 6 (.t 14) (.t 15), none⟩, ⟨some 17, .fldA 5 (.t 16), none⟩, ⟨some 18, .ld 1 false (.t 17), none⟩, ⟨some 19, .len (.t 18), none⟩, ⟨some 20, .mv (.c (.int .i64 0)), none⟩]) (.block 0 (.loop (.seq (.reg [⟨some 21, .bin .lss (.t 20) (.t 19), none⟩]) (.seq (.cond (.t 21) .skip (.exit 0)) (.seq (.block 1 (.seq (.reg [⟨some 22, .idxA 1 (.t 18) (.t 20), none⟩, ⟨some 23, .ld 1 false (.t 22), none⟩, ⟨some 8, .mv (.t 23), none⟩]) (.reg [⟨some 24, .ld 2 true (.t 3), none⟩, ⟨some 25, .mv (.t 8), none⟩, ⟨some 26, .mv (.t 2), none⟩, ⟨some 27, .call (.c (.fn 52 [] [])) [.t 24, .t 25, .t 26], none⟩, ⟨some 2, .mv (.t 27), none⟩]))) (.reg [⟨some 28, .bin .add (.t 20) (.c (.int .i64 1)), none⟩, ⟨some 20, .mv (.t 28), none⟩]))))))) (.seq (.reg [⟨some 29, .mv (.t 2), none⟩, ⟨some 6, .mv (.t 29), none⟩]) .ret))), [.tmp 6]⟩
theorem hc52 : toSF Tryd.prog {} Tryd.f52 = some c52 := by kernel_rfl
theorem hn52 : (Tryd.f52.name == "runtime.NumGoroutine") = false := by kernel_rfl
theorem walk_ok (d : HDoc) (V : DV d) (sm : DocSm d) : ∀ n, inD d n → ∀ (h h1 : Heap) (L : List Int) (a : AVal), Acc h 3 1 (L.map eInt) a h1 → Sim.Sub h h1 → L.length + (below d n).length ≤ 1000000 →
    DCalls (Pg G) 52 [.agg (eDoc d), aInt n, a] h1 fun r h2 => Acc h 3 1 ((L ++ below d n).map eInt) r h2 ∧ Sim.Sub h h2 := V.down fun n hn ih h h1 L a A S hL => by
  have hl := V.len
  have n0 := hn.1
  have n1 := hn.2
  have e0 : nth d.nodes n.toNat = nd d n := rfl
  have kl := (sm.nd n).kids
  have bl := below_len V hn
  have be := below_eq V hn
  refine dcalls_of_vc Tryd.func52 hn52 hc52 (by rw [Tryd.ntmps52]; simp) (by rw [Tryd.ntmps52]; decide) ?_
  simp -dsimp -implicitDefEqProofs (disch := omega) only [VCA, pg_gl, ↓upd_none, Nat.reduceEqDiff, Nat.reduceBEq, Nat.reduceAdd, Nat.reduceSub, Nat.reduceMul, Nat.reduceLT, Nat.reduceLeDiff, ↓reduceIte, reduceCtorEq, rsOf, rootsOf, SOp.rd, SI.rd, SX.rd, rdL, rdO, rdP, okParts, eqCells, okEqCells, fillA, okFill, setAt, implies_true, forall_const, forall_eq, ne_eq, exists_eq_right_right, exists_eq_right, exists_eq_left, exists_eq_left', rootL, eInt, eBool, lit_eq, c52, eDoc, eNode]
  refine A.app S (by simp only [List.length_map, List.length_cons, List.length_nil]; omega) (by simp only [List.length_map, List.length_cons, List.length_nil]; omega) fun a2 h2 A2 S2 => ?_
  simp -dsimp -implicitDefEqProofs (disch := omega) only [VCA, pg_gl, ↓upd_none, Nat.reduceEqDiff, Nat.reduceBEq, Nat.reduceAdd, Nat.reduceSub, Nat.reduceMul, Nat.reduceLT, Nat.reduceLeDiff, ↓reduceIte, reduceCtorEq, rsOf, rootsOf, SOp.rd, SI.rd, SX.rd, rdL, rdO, rdP, okParts, eqCells, okEqCells, fillA, okFill, setAt, implies_true, forall_const, forall_eq, ne_eq, exists_eq_right_right, exists_eq_right, exists_eq_left, exists_eq_left', rootL, eInt, eBool, lit_eq, eDoc, eNode, e0]
  refine ⟨by omega, ?_⟩
  have A0 : Acc h 3 1 ((L ++ n :: ((nd d n).kids.take 0).flatMap (below d)).map eInt) a2 h2 := by simpa [eInt] using A2
  have bel : (below d n).length = 1 + ((nd d n).kids.flatMap (below d)).length := by rw [be, List.length_cons]; omega
  refine LoopVC.intro (fun m e h' => ∃ k : Nat, k ≤ (nd d n).kids.length ∧ m = (nd d n).kids.length - k ∧ e 3 = .pin (eDoc d) ∧ e 18 = sl eInt (nd d n).kids ∧ e 19 = aInt (nd d n).kids.length ∧ e 20 = aInt k ∧ Acc h 3 1 ((L ++ n :: ((nd d n).kids.take k).flatMap (below d)).map eInt) (e 2) h' ∧ Sim.Sub h h') _ ⟨0, by omega, rfl, rfl, rfl, rfl, rfl, A0, S2⟩ ?_
  clear A0 A2 S2 A S
  rintro m e h' ⟨k, hk, rfl, he3, he18, he19, he20, A, S⟩
  simp -dsimp -implicitDefEqProofs (disch := omega) only [VCA, pg_gl, ↓upd_none, Nat.reduceEqDiff, Nat.reduceBEq, Nat.reduceAdd, Nat.reduceSub, Nat.reduceMul, Nat.reduceLT, Nat.reduceLeDiff, ↓reduceIte, reduceCtorEq, rsOf, rootsOf, SOp.rd, SI.rd, SX.rd, rdL, rdO, rdP, okParts, eqCells, okEqCells, fillA, okFill, setAt, implies_true, forall_const, forall_eq, ne_eq, exists_eq_right_right, exists_eq_right, exists_eq_left, exists_eq_left', rootL, eInt, eBool, lit_eq, he3, he18, he19, he20]
  refine Br.dec (fun hlt => ?_) (fun hge => ?_)
  · have hk' : k < (nd d n).kids.length := by omega
    have hfl : (((nd d n).kids.take (k + 1)).flatMap (below d)).length ≤ ((nd d n).kids.flatMap (below d)).length := by
      conv => rhs; rw [← List.take_append_drop (k + 1) (nd d n).kids, List.flatMap_append, List.length_append]
      omega
    rw [take_snoc hk', List.flatMap_append, List.length_append] at hfl
    simp only [List.flatMap_cons, List.flatMap_nil, List.append_nil] at hfl
    have hI := ih _ (nth_mem' hk') h h' (L ++ n :: ((nd d n).kids.take k).flatMap (below d)) (e 2) A S (by rw [List.length_append, List.length_cons]; omega)
    simp -dsimp -implicitDefEqProofs (disch := omega) only [VCA, pg_gl, ↓upd_none, Nat.reduceEqDiff, Nat.reduceBEq, Nat.reduceAdd, Nat.reduceSub, Nat.reduceMul, Nat.reduceLT, Nat.reduceLeDiff, ↓reduceIte, reduceCtorEq, rsOf, rootsOf, SOp.rd, SI.rd, SX.rd, rdL, rdO, rdP, okParts, eqCells, okEqCells, fillA, okFill, setAt, implies_true, forall_const, forall_eq, ne_eq, exists_eq_right_right, exists_eq_right, exists_eq_left, exists_eq_left', rootL, eInt, eBool, lit_eq, he3, he18, he19, he20, eDoc_len, eDoc_take]
    refine ⟨by omega, ?_⟩
    refine DCalls.of hI ?_
    rintro r h3 ⟨A3, S3⟩
    have A4 : Acc h 3 1 ((L ++ n :: ((nd d n).kids.take (k + 1)).flatMap (below d)).map eInt) r h3 := by
      rw [take_snoc hk', List.flatMap_append]
      simpa using A3
    simp -dsimp -implicitDefEqProofs (disch := omega) only [VCA, pg_gl, ↓upd_none, Nat.reduceEqDiff, Nat.reduceBEq, Nat.reduceAdd, Nat.reduceSub, Nat.reduceMul, Nat.reduceLT, Nat.reduceLeDiff, ↓reduceIte, reduceCtorEq, rsOf, rootsOf, SOp.rd, SI.rd, SX.rd, rdL, rdO, rdP, okParts, eqCells, okEqCells, fillA, okFill, setAt, implies_true, forall_const, forall_eq, ne_eq, exists_eq_right_right, exists_eq_right, exists_eq_left, exists_eq_left', rootL, eInt, eBool, lit_eq, he3, he18, he19, he20]
    exact ⟨_, by omega, k + 1, by omega, rfl, by omega, A4, S3⟩
  · obtain rfl : k = (nd d n).kids.length := by omega
    rw [List.take_length, ← be] at A
    simp -dsimp -implicitDefEqProofs (disch := omega) only [VCA, pg_gl, ↓upd_none, Nat.reduceEqDiff, Nat.reduceBEq, Nat.reduceAdd, Nat.reduceSub, Nat.reduceMul, Nat.reduceLT, Nat.reduceLeDiff, ↓reduceIte, reduceCtorEq, rsOf, rootsOf, SOp.rd, SI.rd, SX.rd, rdL, rdO, rdP, okParts, eqCells, okEqCells, fillA, okFill, setAt, implies_true, forall_const, forall_eq, ne_eq, exists_eq_right_right, exists_eq_right, exists_eq_left, exists_eq_left', rootL, eInt, eBool, lit_eq]
    exact ⟨_, Sub.refl _, A, S⟩
theorem walk0_ok (d : HDoc) (V : DV d) (sm : DocSm d) (n : Int) (hn : inD d n) : PCalls (Pg G) 52 [.agg (eDoc d), aInt n, .emp] (sl eInt (below d n)) := PCalls.acc (ty := 3) (sz := 1) fun h =>
  (walk_ok (G := G) d V sm n hn h h [] .emp .nil (Sub.refl _) (by have := below_len V hn; have := V.len; simp; omega)).mono fun r h' hh => by rw [List.nil_append] at hh; exact hh
def c40 : SFun := ⟨.seq (.reg [⟨some 1, .boxF 24 2 (.t 0), none⟩, ⟨some 2, .mv (.c .emp), none⟩, ⟨some 3, .mv (.c (.int .i64 0)), none⟩]) (.seq (.seq (.reg [⟨some 5, .ld 2 true (.t 1), none⟩, ⟨some 6, .pcall 50 [.t 5], none⟩, ⟨some 4, .mv (.t 6), none⟩]) (.seq (.reg [⟨some 7, .mv (.t 4), none⟩, ⟨some 8, .bin .neq (.t 7) (.c (.int .i64 0)), none⟩]) (.cond (.t 8) (.seq (.reg [⟨some 9, .mv (.t 4), none⟩, ⟨some 2, .mv (.c .emp), none⟩, ⟨some 3, .mv (.t 9), none⟩]) .ret) .skip))) (.seq (.reg [⟨some 10, .ld 2 true (.t 1), none⟩, ⟨some 11, .pcall 52 [.t 10, .c (.int .i64 0), .c .emp], none⟩, ⟨some 2, .mv (.t 11), none⟩, ⟨some 3, .mv (.c (.int .i64 0)), none⟩]) .ret)), [.tmp 2, .tmp 3]⟩
theorem hc40 : toSF Tryd.prog {pure := [50, 52]} Tryd.f40 = some c40 := by kernel_rfl
theorem hn40 : (Tryd.f40.name == "runtime.NumGoroutine") = false := by kernel_rfl
theorem domOrder_ok (d : HDoc) (V : DV d) (h0 : docE d = 0) (sm : DocSm d) : PCalls (Pg G) 40 [.agg (eDoc d)] (.tup [sl eInt (below d 0), aInt 0]) := fun h => by
  have hC := check_ok (G := G) d sm
  have hW := walk0_ok (G := G) d V sm 0 V.zero
  rw [h0] at hC
  refine dcalls_of_vc Tryd.func40 hn40 hc40 (by rw [Tryd.ntmps40]; simp) (by rw [Tryd.ntmps40]; decide) ?_
  simp -dsimp -implicitDefEqProofs (disch := omega) only [VCA, pg_gl, ↓upd_none, Nat.reduceEqDiff, Nat.reduceBEq, Nat.reduceAdd, Nat.reduceSub, Nat.reduceMul, Nat.reduceLT, Nat.reduceLeDiff, ↓reduceIte, reduceCtorEq, rsOf, rootsOf, SOp.rd, SI.rd, SX.rd, rdL, rdO, rdP, okParts, eqCells, okEqCells, fillA, okFill, setAt, implies_true, forall_const, forall_eq, ne_eq, exists_eq_right_right, exists_eq_right, exists_eq_left, exists_eq_left', rootL, eInt, eBool, lit_eq, c40, eDoc_len, eDoc_take]
  repeat' (first | ((with_reducible refine brC (fun _ => ?_) fun _ => ?_) <;> try (exfalso; omega)) | (with_reducible apply pcallE.of; · exact hC) | (with_reducible apply pcallE.of; · exact hW) | (with_reducible refine And.intro ?_ ?_; · omega) | simp -dsimp -implicitDefEqProofs (disch := omega) only [VCA, pg_gl, ↓upd_none, Nat.reduceEqDiff, Nat.reduceBEq, Nat.reduceAdd, Nat.reduceSub, Nat.reduceMul, Nat.reduceLT, Nat.reduceLeDiff, ↓reduceIte, reduceCtorEq, rsOf, rootsOf, SOp.rd, SI.rd, SX.rd, rdL, rdO, rdP, okParts, eqCells, okEqCells, fillA, okFill, setAt, implies_true, forall_const, forall_eq, ne_eq, exists_eq_right_right, exists_eq_right, exists_eq_left, exists_eq_left', rootL, eInt, eBool, lit_eq, eDoc_len, eDoc_take])
  all_goals exact Sub.refl _
end Go.Proofs.K
end
section
set_option linter.unusedSimpArgs false
set_option linter.unusedVariables false
namespace Go.Proofs.K
open Go Go.Sim Go.Proofs
variable {G : Glob}
def newD : HDoc := ⟨[⟨1, [], [], [], -1, []⟩], false⟩
def newA : AVal := .agg [.slc [[.int .i64 1, .str [], .emp, .str [], .int .i64 (-1), .emp]], .bool false]
theorem newA_wk : Wk newA (.agg (eDoc newD)) := Wk.agg' (.cons (Wk.slc' (.cons (.cons (.refl _) (.cons (.refl _) (.cons .emp (.cons (.refl _) (.cons (.refl _) (.cons .emp .nil)))))) .nil)) (.cons (.refl _) .nil))
def c58 : SFun := ⟨.seq (.reg [⟨some 0, .new 24 2 [.emp, .bool false], none⟩]) (.seq (.reg [⟨some 1, .bld [.int .i64 0, .str [], .emp, .str [], .int .i64 0, .emp] [(0, (1, (.c (.int .i64 1)))), (4, (1, (.c (.int .i64 (-1)))))], none⟩, ⟨some 2, .bldF 29 6 [.t 1], none⟩, ⟨some 3, .bld [.emp, .bool false] [(0, (1, (.t 2)))], none⟩, ⟨none, .st 2 (.t 0) (.t 3), none⟩]) .ret), [.cell 0 2 true]⟩
theorem hc58 : toSF Tryd.prog {} Tryd.f58 = some c58 := by kernel_rfl
theorem hn58 : (Tryd.f58.name == "runtime.NumGoroutine") = false := by kernel_rfl
theorem new_ok : PCalls (Pg G) 58 [] (.agg (eDoc newD)) := fun h => by
  refine DCalls.res (K := fun a h' => a = newA ∧ h' = h) ?_ ?_
  · refine dcalls_of_vc Tryd.func58 hn58 hc58 (by rw [Tryd.ntmps58]; simp) (by rw [Tryd.ntmps58]; decide) ?_
    simp -dsimp -implicitDefEqProofs (disch := omega) only [VCA, pg_gl, ↓upd_none, Nat.reduceEqDiff, Nat.reduceBEq, Nat.reduceAdd, Nat.reduceSub, Nat.reduceMul, Nat.reduceLT, Nat.reduceLeDiff, ↓reduceIte, reduceCtorEq, rsOf, rootsOf, SOp.rd, SI.rd, SX.rd, rdL, rdO, rdP, okParts, eqCells, okEqCells, fillA, okFill, setAt, implies_true, forall_const, forall_eq, ne_eq, exists_eq_right_right, exists_eq_right, exists_eq_left, exists_eq_left', rootL, eInt, eBool, lit_eq, c58]
    intro r hr
    repeat' (first | ((with_reducible refine brC (fun _ => ?_) fun _ => ?_) <;> try (exfalso; omega)) | (with_reducible refine And.intro ?_ ?_; · omega) | simp -dsimp -implicitDefEqProofs (disch := omega) only [VCA, pg_gl, ↓upd_none, Nat.reduceEqDiff, Nat.reduceBEq, Nat.reduceAdd, Nat.reduceSub, Nat.reduceMul, Nat.reduceLT, Nat.reduceLeDiff, ↓reduceIte, reduceCtorEq, rsOf, rootsOf, SOp.rd, SI.rd, SX.rd, rdL, rdO, rdP, okParts, eqCells, okEqCells, fillA, okFill, setAt, implies_true, forall_const, forall_eq, ne_eq, exists_eq_right_right, exists_eq_right, exists_eq_left, exists_eq_left', rootL, eInt, eBool, lit_eq, upd_same])
    exact ⟨(Sub.refl _).upd hr, rfl⟩
  · rintro a h' ⟨rfl, rfl⟩
    exact ⟨_, newA_wk, rfl, rfl⟩
theorem newD_sm : DocSm newD := ⟨by decide, fun x hx => by
  have : x = ⟨1, [], [], [], -1, []⟩ := by simpa [newD] using hx
  subst this
  exact ⟨by decide, by decide, (fun a ha => by cases ha), by decide, by decide⟩⟩
theorem edit_wk (e : HEdit) (h1 : e.node.attrs = []) (h2 : e.node.kids = []) : Wk (.agg (eE0 e)) (.agg (eEdit e)) := Wk.agg' (by
  unfold eE0 eEdit
  rw [h1, h2]
  exact .cons (.refl _) (.cons (.refl _) (.cons (.refl _) (.cons (.refl _) (.cons (.refl _) (.cons (.refl _) (.cons (.refl _) (.cons (.refl _) (.cons .emp (.cons (.refl _) (.cons (.refl _) (.cons .emp .nil))))))))))))
def beg1 : HEdit := ⟨4, 0, 0, 0, [], [], ⟨2, [112], [], [], 0, []⟩⟩
def beg2 : HEdit := ⟨5, 0, 1, -1, [], [], ⟨0, [], [], [], 0, []⟩⟩
def begD1 : HDoc := ⟨[⟨1, [], [], [], -1, []⟩, ⟨2, [112], [], [], -1, []⟩], false⟩
def begD2 : HDoc := ⟨[⟨1, [], [], [], -1, [1]⟩, ⟨2, [112], [], [], 0, []⟩], false⟩
theorem beg_is : applyD newD beg1 = begD1 ∧ applyN newD beg1 = 1 ∧ applyE newD beg1 = 0 ∧ applyD begD1 beg2 = begD2 ∧ applyE begD1 beg2 = 0 ∧ docE begD2 = 0 ∧ below begD2 0 = [0, 1] ∧ docE noDoc = 3 := by decide +kernel
theorem beg_sm : EditSm beg1 ∧ EditSm beg2 ∧ DocSm begD1 ∧ DocSm begD2 := ⟨⟨by decide, by decide, by decide, by decide, (fun a ha => by cases ha), by decide, by decide⟩, ⟨by decide, by decide, by decide, by decide, (fun a ha => by cases ha), by decide, by decide⟩,
  ⟨by decide, fun x hx => by
    have : x = ⟨1, [], [], [], -1, []⟩ ∨ x = ⟨2, [112], [], [], -1, []⟩ := by simpa [begD1] using hx
    rcases this with rfl | rfl <;> exact ⟨by decide, by decide, (fun a ha => by cases ha), by decide, by decide⟩⟩,
  ⟨by decide, fun x hx => by
    have : x = ⟨1, [], [], [], -1, [1]⟩ ∨ x = ⟨2, [112], [], [], 0, []⟩ := by simpa [begD2] using hx
    rcases this with rfl | rfl <;> exact ⟨by decide, by decide, (fun a ha => by cases ha), by decide, by decide⟩⟩⟩
def c27 : SFun := ⟨.seq (.reg [⟨some 0, .mv (.c (.bool false)), none⟩]) (.seq (.reg [⟨some 9, .pcall 58 [], none⟩, ⟨some 10, .bld [.int .i64 0, .str [], .emp, .str [], .int .i64 0, .emp] [(0, (1, (.c (.int .i64 2)))), (1, (1, (.c (.str [112]))))], none⟩, ⟨some 11, .bld [.int .i64 0, .int .i64 0, .int .i64 0, .int .i64 0, .str [], .str [], .int .i64 0, .str [], .emp, .str [], .int .i64 0, .emp] [(0, (1, (.c (.int .i64 4)))), (6, (6, (.t 10)))], none⟩, ⟨some 12, .pcall 57 [.t 9, .t 11], none⟩, ⟨some 8, .mv (.t 12), none⟩, ⟨some 13, .ext (.t 8) 0, none⟩, ⟨some 14, .ext (.t 8) 1, none⟩, ⟨some 15, .ext (.t 8) 2, none⟩, ⟨some 1, .new 24 2 [.emp, .bool false], none⟩, ⟨none, .st 2 (.t 1) (.t 13), none⟩, ⟨some 2, .mv (.t 14), none⟩, ⟨some 3, .mv (.t 15), none⟩]) (.seq (.reg [⟨some 17, .ld 2 true (.t 1), none⟩, ⟨some 18, .mv (.t 2), none⟩, ⟨some 19, .bld [.int .i64 0, .int .i64 0, .int .i64 0, .int .i64 0, .str [], .str [], .int .i64 0, .str [], .emp, .str [], .int .i64 0, .emp] [(0, (1, (.c (.int .i64 5)))), (1, (1, (.c (.int .i64 0)))), (2, (1, (.t 18))), (3, (1, (.c (.int .i64 (-1)))))], none⟩, ⟨some 20, .pcall 57 [.t 17, .t 19], none⟩, ⟨some 16, .mv (.t 20), none⟩, ⟨some 21, .ext (.t 16) 0, none⟩, ⟨some 22, .ext (.t 16) 1, none⟩, ⟨some 23, .ext (.t 16) 2, none⟩, ⟨none, .st 2 (.t 1) (.t 21), none⟩, ⟨some 4, .mv (.t 22), none⟩, ⟨some 5, .mv (.t 23), none⟩]) (.seq (.reg [⟨some 25, .ld 2 true (.t 1), none⟩, ⟨some 26, .pcall 40 [.t 25], none⟩, ⟨some 24, .mv (.t 26), none⟩, ⟨some 27, .ext (.t 24) 0, none⟩, ⟨some 28, .ext (.t 24) 1, none⟩, ⟨some 6, .mv (.t 27), none⟩, ⟨some 7, .mv (.t 28), none⟩]) (.seq (.reg [⟨some 29, .mv (.t 2), none⟩, ⟨some 30, .bin .eql (.t 29) (.c (.int .i64 1)), none⟩, ⟨some 31, .mv (.t 30), none⟩, ⟨some 32, .mv (.t 3), some (31, true)⟩, ⟨some 33, .bin .eql (.t 32) (.c (.int .i64 0)), some (31, true)⟩, ⟨some 34, .pick (.t 31) (.t 33) (.c (.bool false)), none⟩, ⟨some 35, .mv (.t 34), none⟩, ⟨some 36, .mv (.t 5), some (35, true)⟩, ⟨some 37, .bin .eql (.t 36) (.c (.int .i64 0)), some (35, true)⟩, ⟨some 38, .pick (.t 35) (.t 37) (.c (.bool false)), none⟩, ⟨some 39, .mv (.t 38), none⟩, ⟨some 40, .mv (.t 7), some (39, true)⟩, ⟨some 41, .bin .eql (.t 40) (.c (.int .i64 0)), some (39, true)⟩, ⟨some 42, .pick (.t 39) (.t 41) (.c (.bool false)), none⟩, ⟨some 43, .mv (.t 42), none⟩, ⟨some 44, .mv (.t 6), some (43, true)⟩, ⟨some 45, .bldF 3 1 [.c (.int .i64 0), .c (.int .i64 1)], some (43, true)⟩, ⟨some 46, .pcall 13 [.t 44, .t 45], some (43, true)⟩, ⟨some 47, .pick (.t 43) (.t 46) (.c (.bool false)), none⟩, ⟨some 48, .mv (.t 47), none⟩, ⟨some 49, .bld [.emp, .bool false] [], some (48, true)⟩, ⟨some 50, .pcall 50 [.t 49], some (48, true)⟩, ⟨some 51, .bin .eql (.t 50) (.c (.int .i64 3)), some (48, true)⟩, ⟨some 52, .pick (.t 48) (.t 51) (.c (.bool false)), none⟩, ⟨some 0, .mv (.t 52), none⟩]) .ret)))), [.tmp 0]⟩
theorem hc27 : toSF Tryd.prog {pure := [57, 58, 40, 13, 50]} Tryd.f27 = some c27 := by kernel_rfl
theorem hn27 : (Tryd.f27.name == "runtime.NumGoroutine") = false := by kernel_rfl
theorem domBegun_ok : PCalls (Pg G) 27 [] (.bool true) := fun h => by
  obtain ⟨b1, b2, b3, b4, b5, b6, b7, b8⟩ := beg_is
  obtain ⟨s1, s2, s3, s4⟩ := beg_sm
  have h1 : PCalls (Pg G) 57 [.agg (eDoc newD), .agg (eE0 beg1)] (.tup [.agg (eDoc begD1), aInt 1, aInt 0]) := by
    have h := (apply_ok (G := G) newD newD_sm beg1 s1).wk (args := [.agg (eDoc newD), .agg (eE0 beg1)]) (.cons (.refl _) (.cons (edit_wk beg1 rfl rfl) .nil))
    rw [b1, b2, b3] at h
    exact h
  have h2 : PCalls (Pg G) 57 [.agg (eDoc begD1), .agg (eE0 beg2)] (.tup [.agg (eDoc begD2), aInt (applyN begD1 beg2), aInt 0]) := by
    have h := (apply_ok (G := G) begD1 s3 beg2 s2).wk (args := [.agg (eDoc begD1), .agg (eE0 beg2)]) (.cons (.refl _) (.cons (edit_wk beg2 rfl rfl) .nil))
    rw [b4, b5] at h
    exact h
  have h3 : PCalls (Pg G) 40 [.agg (eDoc begD2)] (.tup [sl eInt [0, 1], aInt 0]) := by
    have h := domOrder_ok (G := G) begD2 (docE_DV b6) b6 s4
    rw [b7] at h
    exact h
  have h4 : PCalls (Pg G) 13 [sl eInt [0, 1], .slc [[.int .i64 0], [.int .i64 1]]] (.bool true) := sameN_ok (G := G) [0, 1] [0, 1] (by simp) (by simp)
  have h5 : PCalls (Pg G) 50 [.agg [.emp, .bool false]] (aInt 3) := by
    have h := (check_ok (G := G) noDoc ⟨by decide, fun x hx => by cases hx⟩).wk (args := [.agg [.emp, .bool false]]) (.cons (Wk.agg' (.cons .emp (.cons (.refl _) .nil))) .nil)
    rw [b8] at h
    exact h
  unfold eE0 beg1 at h1
  unfold eE0 beg2 at h2
  refine dcalls_of_vc Tryd.func27 hn27 hc27 (by rw [Tryd.ntmps27]; simp) (by rw [Tryd.ntmps27]; decide) ?_
  simp -dsimp -implicitDefEqProofs (disch := omega) only [↓vcOps_sp 31, ↓vcD_sp 31, ↓vcOps_sp 35, ↓vcD_sp 35, ↓vcOps_sp 39, ↓vcD_sp 39, ↓vcOps_sp 43, ↓vcD_sp 43, ↓vcOps_sp 48, ↓vcD_sp 48, VCA, pg_gl, ↓upd_none, Nat.reduceEqDiff, Nat.reduceBEq, Nat.reduceAdd, Nat.reduceSub, Nat.reduceMul, Nat.reduceLT, Nat.reduceLeDiff, ↓reduceIte, reduceCtorEq, rsOf, rootsOf, SOp.rd, SI.rd, SX.rd, rdL, rdO, rdP, okParts, eqCells, okEqCells, fillA, okFill, setAt, implies_true, forall_const, forall_eq, ne_eq, exists_eq_right_right, exists_eq_right, exists_eq_left, exists_eq_left', rootL, eInt, eBool, lit_eq, c27]
  repeat' (first | ((with_reducible refine brC (fun _ => ?_) fun _ => ?_) <;> try (exfalso; omega)) | (with_reducible apply pcallE.of; · exact new_ok (G := G)) | (with_reducible apply pcallE.of; · exact h1) | (with_reducible refine And.intro ?_ ?_; · omega) | simp -dsimp -implicitDefEqProofs (disch := omega) only [↓vcOps_sp 31, ↓vcD_sp 31, ↓vcOps_sp 35, ↓vcD_sp 35, ↓vcOps_sp 39, ↓vcD_sp 39, ↓vcOps_sp 43, ↓vcD_sp 43, ↓vcOps_sp 48, ↓vcD_sp 48, VCA, pg_gl, ↓upd_none, Nat.reduceEqDiff, Nat.reduceBEq, Nat.reduceAdd, Nat.reduceSub, Nat.reduceMul, Nat.reduceLT, Nat.reduceLeDiff, ↓reduceIte, reduceCtorEq, rsOf, rootsOf, SOp.rd, SI.rd, SX.rd, rdL, rdO, rdP, okParts, eqCells, okEqCells, fillA, okFill, setAt, implies_true, forall_const, forall_eq, ne_eq, exists_eq_right_right, exists_eq_right, exists_eq_left, exists_eq_left', rootL, eInt, eBool, lit_eq, upd_same])
  intro r hr
  repeat' (first | ((with_reducible refine brC (fun _ => ?_) fun _ => ?_) <;> try (exfalso; omega)) | (with_reducible apply pcallE.of; · exact h2) | (with_reducible apply pcallE.of; · exact h3) | (with_reducible apply pcallE.of; · exact h4) | (with_reducible apply pcallE.of; · exact h5) | (with_reducible refine And.intro ?_ ?_; · omega) | simp -dsimp -implicitDefEqProofs (disch := omega) only [↓vcOps_sp 31, ↓vcD_sp 31, ↓vcOps_sp 35, ↓vcD_sp 35, ↓vcOps_sp 39, ↓vcD_sp 39, ↓vcOps_sp 43, ↓vcD_sp 43, ↓vcOps_sp 48, ↓vcD_sp 48, VCA, pg_gl, ↓upd_none, Nat.reduceEqDiff, Nat.reduceBEq, Nat.reduceAdd, Nat.reduceSub, Nat.reduceMul, Nat.reduceLT, Nat.reduceLeDiff, ↓reduceIte, reduceCtorEq, rsOf, rootsOf, SOp.rd, SI.rd, SX.rd, rdL, rdO, rdP, okParts, eqCells, okEqCells, fillA, okFill, setAt, implies_true, forall_const, forall_eq, ne_eq, exists_eq_right_right, exists_eq_right, exists_eq_left, exists_eq_left', rootL, eInt, eBool, lit_eq, upd_same, eDoc_len, eDoc_take, eDoc_dr, List.append_nil])
  exact ⟨(Sub.refl h).upd hr, rfl⟩
end Go.Proofs.K
end
