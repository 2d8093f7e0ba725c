/- Texts of this claim, one behind the other. -/
import Derived.Test.YtmfechcelhchcaaDoorM4
section
/- The editor: insert. -/
set_option linter.unusedSimpArgs false
set_option linter.unusedVariables false
namespace Go.Proofs.K
open Go Go.Sim Go.Proofs
variable {G : Glob}
theorem Dw.mono {X : List Nat} {h0 h h2 : Heap} {rN : Nat} {d : HDoc} {sl : Nat → AVal} (E : Dw X h0 h rN d sl) (S : Sim.Sub h h2) : Dw X h0 h2 rN d sl :=
  ⟨E.sub.trans S, S _ _ E.nodes, E.new, fun i hi => ⟨(E.own i hi).1.keep fun r o _ ho => S _ _ ho, (E.own i hi).2.keep fun r o _ ho => S _ _ ho⟩, E.fresh, E.sep, fun r hr => by obtain ⟨o, ho⟩ := E.keep r hr; exact ⟨o, S _ _ ho⟩⟩
theorem Ed.mono {h0 h h2 : Heap} {re rN : Nat} {d : HDoc} {sl : Nat → AVal} {made : Int} (E : Ed h0 h re rN d sl made) (S : Sim.Sub h h2) : Ed h0 h2 re rN d sl made := ⟨E.dw.mono S, S _ _ E.ed, E.new, E.live⟩
def c165_s6 : SCode := (.seq (.dreg [(⟨(some 97), (.mv (.t 5)), none⟩, none), (⟨(some 98), (.mv (.t 5)), none⟩, none), (⟨(some 99), (.fldA 0 (.t 98)), none⟩, none), (⟨(some 100), (.fldA 5 (.t 99)), none⟩, none), (⟨(some 101), (.ld 1 false (.t 100)), none⟩, none), (⟨(some 102), (.mv (.t 7)), none⟩, none), (⟨(some 103), (.fldA 2 (.t 3)), none⟩, none), (⟨(some 104), (.ld 1 false (.t 103)), none⟩, none), (⟨(some 105), (.bldR 3 1 [(.t 104)]), none⟩, (some [104])), (⟨(some 106), (.call (.c (.fn 153 [] [])) [(.t 101), (.t 102), (.t 105)]), none⟩, (some [101, 104])), (⟨(some 107), (.fldA 0 (.t 97)), none⟩, none), (⟨(some 108), (.fldA 5 (.t 107)), none⟩, none), (⟨none, (.st 1 (.t 108) (.t 106)), none⟩, (some [101, 104]))]) (.seq (.reg [⟨(some 109), (.mv (.t 6)), none⟩, ⟨(some 110), (.fldA 1 (.t 3)), none⟩, ⟨(some 111), (.ld 1 false (.t 110)), none⟩, ⟨(some 112), (.fldA 0 (.t 109)), none⟩, ⟨(some 113), (.fldA 4 (.t 112)), none⟩, ⟨none, (.st 1 (.t 113) (.t 111)), none⟩]) (.seq (.reg [⟨(some 4), (.mv (.c (.int .i64 (0)))), none⟩]) .ret)))
def c165_s5 : SCode := (.seq (.block 1 (.seq (.reg [⟨(some 73), (.mv (.t 7)), none⟩, ⟨(some 74), (.bin .lss (.t 73) (.c (.int .i64 (0)))), none⟩, ⟨(some 72), (.mv (.t 74)), none⟩]) (.cond (.t 72) (.seq (.reg [⟨(some 4), (.mv (.c (.int .i64 (5)))), none⟩]) .ret) (.seq (.reg [⟨(some 76), (.mv (.t 0)), none⟩, ⟨(some 77), (.fldA 1 (.t 3)), none⟩, ⟨(some 78), (.ld 1 false (.t 77)), none⟩, ⟨(some 79), (.fldA 2 (.t 3)), none⟩, ⟨(some 80), (.ld 1 false (.t 79)), none⟩, ⟨(some 81), (.call (.c (.fn 181 [] [])) [(.t 76), (.t 78), (.t 80)]), none⟩, ⟨(some 75), (.mv (.t 81)), none⟩]) (.cond (.t 75) (.seq (.reg [⟨(some 4), (.mv (.c (.int .i64 (8)))), none⟩]) .ret) (.seq (.dreg [(⟨(some 83), (.mv (.t 0)), none⟩, none), (⟨(some 84), (.fldA 0 (.t 83)), none⟩, none), (⟨(some 85), (.fldA 0 (.t 84)), none⟩, none), (⟨(some 86), (.ld 2 true (.t 85)), none⟩, none), (⟨(some 87), (.fldA 1 (.t 3)), none⟩, none), (⟨(some 88), (.ld 1 false (.t 87)), none⟩, none), (⟨(some 91), (.mv (.t 0)), none⟩, none), (⟨(some 92), (.fldA 2 (.t 3)), none⟩, none), (⟨(some 93), (.ld 1 false (.t 92)), none⟩, none), (⟨(some 89), (.call (.c (.fn 102 [] [])) [(.t 86), (.t 88)]), none⟩, (some [86, 88])), (⟨(some 90), (.bin .add (.t 89) (.c (.int .i64 (1)))), none⟩, none), (⟨(some 94), (.call (.c (.fn 182 [] [])) [(.t 91), (.t 93)]), none⟩, (some [93, 86, 88])), (⟨(some 95), (.bin .add (.t 90) (.t 94)), none⟩, none), (⟨(some 96), (.bin .gtr (.t 95) (.c (.int .i64 (40)))), none⟩, none), (⟨(some 82), (.mv (.t 96)), none⟩, none)]) (.cond (.t 82) (.seq (.reg [⟨(some 4), (.mv (.c (.int .i64 (2)))), none⟩]) .ret) .skip))))))) c165_s6)
def c165 : SFun := ⟨(.seq (.reg [⟨(some 3), (.boxF 87 12 (.t 1)), none⟩, ⟨(some 4), (.mv (.c (.int .i64 (0)))), none⟩]) (.seq (.dreg [(⟨(some 8), (.mv (.t 0)), none⟩, none), (⟨(some 9), (.fldA 1 (.t 3)), none⟩, none), (⟨(some 10), (.ld 1 false (.t 9)), none⟩, none), (⟨(some 12), (.mv (.t 0)), none⟩, none), (⟨(some 13), (.fldA 2 (.t 3)), none⟩, none), (⟨(some 14), (.ld 1 false (.t 13)), none⟩, none), (⟨(some 11), (.call (.c (.fn 180 [] [])) [(.t 8), (.t 10)]), none⟩, (some [10])), (⟨(some 15), (.call (.c (.fn 180 [] [])) [(.t 12), (.t 14)]), none⟩, (some [14, 10])), (⟨(some 5), (.mv (.t 11)), none⟩, none), (⟨(some 6), (.mv (.t 15)), none⟩, none)]) (.seq (.block 0 (.seq (.reg [⟨(some 17), (.mv (.t 5)), none⟩, ⟨(some 18), (.isnil 1 false (.t 17)), none⟩, ⟨(some 19), (.mv (.t 18)), none⟩, ⟨(some 20), (.mv (.t 6)), (some (19, false))⟩, ⟨(some 21), (.isnil 1 false (.t 20)), (some (19, false))⟩, ⟨(some 22), (.pick (.t 19) (.c (.bool true)) (.t 21)), none⟩, ⟨(some 16), (.mv (.t 22)), none⟩]) (.cond (.t 16) (.seq (.reg [⟨(some 4), (.mv (.c (.int .i64 (5)))), none⟩]) .ret) (.seq (.reg [⟨(some 24), (.mv (.t 5)), none⟩, ⟨(some 25), (.fldA 0 (.t 24)), none⟩, ⟨(some 26), (.fldA 0 (.t 25)), none⟩, ⟨(some 27), (.ld 1 false (.t 26)), none⟩, ⟨(some 28), (.pcall 158 [(.t 27)]), none⟩, ⟨(some 29), (.un .not (.t 28)), none⟩, ⟨(some 30), (.mv (.t 29)), none⟩, ⟨(some 31), (.mv (.t 6)), (some (30, false))⟩, ⟨(some 32), (.fldA 0 (.t 31)), (some (30, false))⟩, ⟨(some 33), (.fldA 0 (.t 32)), (some (30, false))⟩, ⟨(some 34), (.ld 1 false (.t 33)), (some (30, false))⟩, ⟨(some 35), (.bin .eql (.t 34) (.c (.int .i64 (1)))), (some (30, false))⟩, ⟨(some 36), (.pick (.t 30) (.c (.bool true)) (.t 35)), none⟩, ⟨(some 37), (.mv (.t 36)), none⟩, ⟨(some 38), (.mv (.t 5)), (some (37, false))⟩, ⟨(some 39), (.fldA 0 (.t 38)), (some (37, false))⟩, ⟨(some 40), (.fldA 0 (.t 39)), (some (37, false))⟩, ⟨(some 41), (.ld 1 false (.t 40)), (some (37, false))⟩, ⟨(some 42), (.bin .eql (.t 41) (.c (.int .i64 (1)))), (some (37, false))⟩, ⟨(some 43), (.mv (.t 42)), (some (37, false))⟩, ⟨(some 44), (.mv (.t 6)), (some (43, true))⟩, ⟨(some 45), (.fldA 0 (.t 44)), (some (43, true))⟩, ⟨(some 46), (.fldA 0 (.t 45)), (some (43, true))⟩, ⟨(some 47), (.ld 1 false (.t 46)), (some (43, true))⟩, ⟨(some 48), (.bin .eql (.t 47) (.c (.int .i64 (3)))), (some (43, true))⟩, ⟨(some 49), (.pick (.t 43) (.t 48) (.c (.bool false))), (some (37, false))⟩, ⟨(some 50), (.pick (.t 37) (.c (.bool true)) (.t 49)), none⟩, ⟨(some 23), (.mv (.t 50)), none⟩]) (.cond (.t 23) (.seq (.reg [⟨(some 4), (.mv (.c (.int .i64 (7)))), none⟩]) .ret) (.seq (.reg [⟨(some 52), (.mv (.t 6)), none⟩, ⟨(some 53), (.fldA 0 (.t 52)), none⟩, ⟨(some 54), (.fldA 4 (.t 53)), none⟩, ⟨(some 55), (.ld 1 false (.t 54)), none⟩, ⟨(some 56), (.bin .geq (.t 55) (.c (.int .i64 (0)))), none⟩, ⟨(some 51), (.mv (.t 56)), none⟩]) (.cond (.t 51) (.seq (.reg [⟨(some 4), (.mv (.c (.int .i64 (9)))), none⟩]) .ret) .skip))))))) (.seq (.reg [⟨(some 57), (.mv (.t 5)), none⟩, ⟨(some 58), (.fldA 0 (.t 57)), none⟩, ⟨(some 59), (.fldA 5 (.t 58)), none⟩, ⟨(some 60), (.ld 1 false (.t 59)), none⟩, ⟨(some 61), (.len (.t 60)), none⟩, ⟨(some 7), (.mv (.t 61)), none⟩]) (.seq (.seq (.reg [⟨(some 62), (.fldA 3 (.t 3)), none⟩, ⟨(some 63), (.ld 1 false (.t 62)), none⟩, ⟨(some 64), (.bin .neq (.t 63) (.c (.int .i64 (-1)))), none⟩]) (.cond (.t 64) (.dreg [(⟨(some 65), (.mv (.t 5)), none⟩, none), (⟨(some 66), (.fldA 0 (.t 65)), none⟩, none), (⟨(some 67), (.fldA 5 (.t 66)), none⟩, none), (⟨(some 68), (.ld 1 false (.t 67)), none⟩, none), (⟨(some 69), (.fldA 3 (.t 3)), none⟩, none), (⟨(some 70), (.ld 1 false (.t 69)), none⟩, none), (⟨(some 71), (.call (.c (.fn 77 [] [])) [(.t 68), (.t 70)]), none⟩, (some [68, 70])), (⟨(some 7), (.mv (.t 71)), none⟩, none)]) .skip)) c165_s5))))), [(.tmp 4)]⟩
theorem hc165 : toSF Tryd.prog {pure := [158], how := [(105, 2)]} Tryd.f165 = some c165 := by kernel_rfl
theorem hn165 : (Tryd.f165.name == "runtime.NumGoroutine") = false := by kernel_rfl
theorem einsert_ok {h0 h : Heap} {re rN : Nat} {d : HDoc} {sl : Nat → AVal} {made : Int} (E : Ed h0 h re rN d sl made) (V : DV d) (sm : DocSm d) (e : HEdit) (he : EditSm e) (hdo : e.do' = 5) : DCalls (Pg G) 165 [.vp re 0, .agg (eEdit e)] h (EdR h0 h re d e made) := by
  have gN := E.dw.nodes
  have gE := E.ed
  have ner := E.ne
  have vl := V.len
  have hE1 := enode_ok (G := G) E e.at'
  have hE2 := enode_ok (G := G) E e.to
  unfold nodeP at hE1 hE2
  have eE : editE d e = if ¬ inD d e.at' ∨ ¬ inD d e.to then 5
    else if ¬ ((nd d e.at').kind = 1 ∨ (nd d e.at').kind = 2) ∨ (nd d e.to).kind = 1 ∨ ((nd d e.at').kind = 1 ∧ (nd d e.to).kind = 3) then 7
    else if 0 ≤ (nd d e.to).parent then 9 else if e.before ≠ -1 ∧ e.before ∉ (nd d e.at').kids then 5 else if e.to ∈ chain d e.at' then 8
    else if 40 < up d e.at' + 1 + low d e.to then 2 else 0 := by unfold editE; rw [if_neg (by omega), if_neg (by omega), if_neg (by omega), if_neg (by omega), if_pos hdo]
  have eD : editD d e = hung d e.at' e.to (insAt d e) := by unfold editD; rw [if_neg (by omega), if_neg (by omega), if_neg (by omega), if_neg (by omega), if_pos hdo]
  have hm4 : made = if e.do' = 4 then (d.nodes.length : Int) else made := by rw [if_neg (by omega)]
  have s5 : inD d e.at' → inD d e.to → ((nd d e.at').kind = 1 ∨ (nd d e.at').kind = 2) → ¬ (nd d e.to).kind = 1 → ¬ 0 ≤ (nd d e.to).parent → ¬ (e.before ≠ -1 ∧ e.before ∉ (nd d e.at').kids) →
      editE d e = (if e.to ∈ chain d e.at' then 8 else if 40 < up d e.at' + 1 + low d e.to then 2 else 0) → ∀ env : Env, env 0 = .vp re 0 → env 3 = .pin (eEdit e) → env 5 = .ptr rN e.at'.toNat 0 → env 6 = .ptr rN e.to.toNat 0 → env 7 = aInt (insAt d e) →
      vc (Pg G) c165_s5 (retK [.tmp 4] (EdR h0 h re d e made)) env h := by
    intro ha ht hp h71 h9 hb eE env v0 v3 v5 v6 v7
    have ha' := ha.nat.1
    have ht' := ht.nat.1
    have a0 := ha.1
    have t0 := ht.1
    have hBe := (ebelow_ok (G := G) d V made e.at' e.to ha t0)
    have hBe2 : DCalls (Pg G) 181 [.vp re 0, aInt e.at', aInt e.to] h fun r h' => r = .bool (decide (e.to ∈ chain d e.at')) ∧ h' = h := DCalls.bor hBe (.bool _) (.cons E.vw (.cons (.refl _) (.cons (.refl _) .nil)))
    have hUp : DCalls (Pg G) 102 [.agg [.osl rN 6 0 d.nodes.length, .bool d.quirks], aInt e.at'] h fun r h' => r = aInt (up d e.at') ∧ h' = h := DCalls.bor (up_ok (G := G) d sm (fun n hn hp => (V.par_in hn hp).1) e.at' ha) (.int _ _) (.cons E.vwD (.cons (.refl _) .nil))
    have hDe : DCalls (Pg G) 182 [.vp re 0, aInt e.to] h fun r h' => r = aInt (low d e.to) ∧ h' = h := DCalls.bor (edeep_ok (G := G) d V sm made e.to ht) (.int _ _) (.cons E.vw (.cons (.refl _) .nil))
    have u40 := V.deep e.at' ha
    have l40 := low_40 V ht
    have s6 : e.to ∉ chain d e.at' → editE d e = 0 → ∀ env : Env, env 3 = .pin (eEdit e) → env 5 = .ptr rN e.at'.toNat 0 → env 6 = .ptr rN e.to.toNat 0 → env 7 = aInt (insAt d e) →
        vc (Pg G) c165_s6 (retK [.tmp 4] (EdR h0 h re d e made)) env h := by
      intro hc eE env v3 v5 v6 v7
      unfold c165_s6
      skip
      have ga := rowsA_get (sl := sl) ha'
      have gt := rowsA_get (sl := sl) ht'
      have rl := rowsA_len d sl
      have e0 : nth d.nodes e.at'.toNat = nd d e.at' := rfl
      have e1 : nth d.nodes e.to.toNat = nd d e.to := rfl
      rw [e0] at ga
      rw [e1] at gt
      unfold rowA at ga gt
      have kl := (sm.nd e.at').kids
      have lv := E.live (2 * e.at'.toNat + 1) (by omega)
      have hne : e.at' ≠ e.to := fun h => hc (by rw [h]; exact chain_self _ _)
      have hnn : e.at'.toNat ≠ e.to.toNat := by omega
      have hIl : insAt d e ≤ (nd d e.at').kids.length := by
        unfold insAt
        have := idxM_leK (nd d e.at').kids e.before
        split <;> omega
      have nr0 : ∀ t, rootOf (sl (2 * e.at'.toNat + 1)) = some t → t ≠ rN := fun t ht => (E.root_ne (by omega) ht).1
      have kb : (nd d e.at').kids.length ≤ 100000 := by
        have := nodup_len d.nodes.length (nd d e.at').kids (V.nodup _ ha) (fun k hk => (V.kid _ ha k hk).1)
        omega
      simp -dsimp -implicitDefEqProofs (disch := omega) only [↓vcOps_sp 19, ↓vcD_sp 19, ↓vcOps_sp 30, ↓vcD_sp 30, ↓vcOps_sp 37, ↓vcD_sp 37, ↓vcOps_sp 43, ↓vcD_sp 43, VCA, pg_gl, ↓upd_none, Nat.reduceEqDiff, Nat.reduceBEq, Nat.reduceAdd, Nat.reduceSub, Nat.reduceMul, Nat.reduceLT, Nat.reduceLeDiff, ↓reduceIte, reduceCtorEq, rsOf, rootsOf, SOp.rd, SI.rd, SX.rd, rdL, rdO, rdP, okParts, eqCells, okEqCells, fillA, okFill, setAt, implies_true, forall_const, forall_eq, ne_eq, exists_eq_right_right, exists_eq_right, exists_eq_left, exists_eq_left', eInt, eBool, lit_eq, v3, v5, v6, v7, gN, ga, rl, eEdit]
      refine ⟨by omega, fun r hr => ?_⟩
      have nr : ¬ rN = r := fun h => by rw [← h, gN] at hr; cases hr
      have S1 := (Sub.refl h).upd (x := some ⟨3, 1, [eInt e.to]⟩) hr
      have E1 := E.mono S1
      obtain ⟨oA, oK⟩ := E1.dw.own _ ha'
      rw [e0] at oK
      have hIns := insertI_ok (G := G) (x := e.to) (i := insAt d e) oK lv hIl kb (upd_same _ _ _) (fun h => by obtain ⟨o, ho⟩ := E.dw.slot (k := 2 * e.at'.toNat + 1) (by omega) h; rw [hr] at ho; cases ho)
      have gN1 := E1.dw.nodes
      have keepN : ∀ h9 : Heap, (∀ t o, upd h r (some ⟨3, 1, [eInt e.to]⟩) t = some o → rootOf (sl (2 * e.at'.toNat + 1)) ≠ some t → h9 t = some o) → h9 rN = some ⟨43, 6, rowsA d sl⟩ := fun h9 kp => kp rN _ gN1 (fun h => nr0 _ h rfl)
      unfold eInt at hIns
      simp -dsimp -implicitDefEqProofs (disch := omega) only [↓vcOps_sp 19, ↓vcD_sp 19, ↓vcOps_sp 30, ↓vcD_sp 30, ↓vcOps_sp 37, ↓vcD_sp 37, ↓vcOps_sp 43, ↓vcD_sp 43, VCA, pg_gl, ↓upd_none, Nat.reduceEqDiff, Nat.reduceBEq, Nat.reduceAdd, Nat.reduceSub, Nat.reduceMul, Nat.reduceLT, Nat.reduceLeDiff, ↓reduceIte, reduceCtorEq, rsOf, rootsOf, SOp.rd, SI.rd, SX.rd, rdL, rdO, rdP, okParts, eqCells, okEqCells, fillA, okFill, setAt, implies_true, forall_const, forall_eq, ne_eq, exists_eq_right_right, exists_eq_right, exists_eq_left, exists_eq_left', eInt, eBool, lit_eq, v3, v5, v6, v7, gN, ga, rl, nr, eEdit]
      refine DCalls.of hIns ?_
      rintro _ h9 ⟨r', rfl, hr', hf, kp⟩
      have gN9 := keepN h9 kp
      have gne := fun (x : List AVal) => getD_set_ne (es := rowsA d sl) (x := x) hnn
      repeat' (first | ((with_reducible refine Br.dec (fun _ => ?_) (fun _ => ?_)) <;> try (exfalso; omega)) | ((with_reducible refine Br.eq (fun _ => ?_) (fun _ => ?_)) <;> try (exfalso; omega)) | ((with_reducible refine Br.ne (fun _ => ?_) (fun _ => ?_)) <;> try (exfalso; omega)) | ((with_reducible refine brNdec (fun _ => ?_) (fun _ => ?_)) <;> try (exfalso; omega)) | ((with_reducible refine brNeq (fun _ => ?_) (fun _ => ?_)) <;> try (exfalso; omega)) | with_reducible refine Br.intro (fun _ => ?_) (fun _ => ?_) | (with_reducible refine And.intro ?_ ?_; · omega) | simp -dsimp -implicitDefEqProofs (disch := omega) only [↓vcOps_sp 19, ↓vcD_sp 19, ↓vcOps_sp 30, ↓vcD_sp 30, ↓vcOps_sp 37, ↓vcD_sp 37, ↓vcOps_sp 43, ↓vcD_sp 43, VCA, pg_gl, ↓upd_none, Nat.reduceEqDiff, Nat.reduceBEq, Nat.reduceAdd, Nat.reduceSub, Nat.reduceMul, Nat.reduceLT, Nat.reduceLeDiff, ↓reduceIte, reduceCtorEq, rsOf, rootsOf, SOp.rd, SI.rd, SX.rd, rdL, rdO, rdP, okParts, eqCells, okEqCells, fillA, okFill, setAt, implies_true, forall_const, forall_eq, ne_eq, exists_eq_right_right, exists_eq_right, exists_eq_left, exists_eq_left', eInt, eBool, lit_eq, v3, v5, v6, v7, gN, gN9, ga, gt, rl, nr, gne, List.length_set, eEdit])
      have ln := ins_len (nd d e.at').kids (insAt d e) e.to hIl
      have hO : OwnS h9 3 1 (((nd d e.at').kids.take (insAt d e) ++ e.to :: (nd d e.at').kids.drop (insAt d e)).map eInt) (.osl r' 1 0 ((nd d e.at').kids.length + 1)) :=
        .inr (.inr ⟨r', _, by rw [List.length_map, ln], hr', Nat.le_refl _, List.take_length⟩)
      have E2 := E1.slotK ha' kp hO (fun es e => by cases e) (fun t ht => by cases ht; exact hf)
      rw [e0] at E2
      have nn := E2.dw.rows_eq
      have n1 : nth (d.nodes.set e.at'.toNat { nd d e.at' with kids := (nd d e.at').kids.take (insAt d e) ++ e.to :: (nd d e.at').kids.drop (insAt d e) }) e.to.toNat = nd d e.to := by
        rw [nth_set _ _ _ _ ha', if_neg (fun h => hnn h.symm)]; rfl
      have E3 := E2.cells (i := e.to.toNat) (by simpa using ht') (x' := { nd d e.to with parent := e.at' }) (by show _ = (nth (d.nodes.set _ _) _).attrs; rw [n1]) (by show _ = (nth (d.nodes.set _ _) _).kids; rw [n1])
      rw [← nn] at E3
      have v1 : upd sl (2 * e.at'.toNat + 1) (AVal.osl r' 1 0 ((nd d e.at').kids.length + 1)) (2 * e.to.toNat) = sl (2 * e.to.toNat) := upd_ne _ _ (by omega)
      have v2 : upd sl (2 * e.at'.toNat + 1) (AVal.osl r' 1 0 ((nd d e.at').kids.length + 1)) (2 * e.to.toNat + 1) = sl (2 * e.to.toNat + 1) := upd_ne _ _ (by omega)
      rw [v1, v2, upd_upd] at E3
      exact ⟨_, Sub.refl _, EdR.good eE hm4 (by rw [eD]; exact E3)⟩
    unfold c165_s5
    skip
    simp -dsimp -implicitDefEqProofs (disch := omega) only [↓vcOps_sp 19, ↓vcD_sp 19, ↓vcOps_sp 30, ↓vcD_sp 30, ↓vcOps_sp 37, ↓vcD_sp 37, ↓vcOps_sp 43, ↓vcD_sp 43, VCA, pg_gl, ↓upd_none, Nat.reduceEqDiff, Nat.reduceBEq, Nat.reduceAdd, Nat.reduceSub, Nat.reduceMul, Nat.reduceLT, Nat.reduceLeDiff, ↓reduceIte, reduceCtorEq, rsOf, rootsOf, SOp.rd, SI.rd, SX.rd, rdL, rdO, rdP, okParts, eqCells, okEqCells, fillA, okFill, setAt, implies_true, forall_const, forall_eq, ne_eq, exists_eq_right_right, exists_eq_right, exists_eq_left, exists_eq_left', eInt, eBool, lit_eq, v0, v3, v5, v6, v7]
    by_cases hc : e.to ∈ chain d e.at'
    · rw [if_pos hc] at eE
      rw [decide_eq_true hc] at hBe2
      repeat' (first | ((with_reducible refine Br.dec (fun _ => ?_) (fun _ => ?_)) <;> try (exfalso; omega)) | ((with_reducible refine Br.eq (fun _ => ?_) (fun _ => ?_)) <;> try (exfalso; omega)) | ((with_reducible refine Br.ne (fun _ => ?_) (fun _ => ?_)) <;> try (exfalso; omega)) | ((with_reducible refine brNdec (fun _ => ?_) (fun _ => ?_)) <;> try (exfalso; omega)) | ((with_reducible refine brNeq (fun _ => ?_) (fun _ => ?_)) <;> try (exfalso; omega)) | with_reducible refine Br.intro (fun _ => ?_) (fun _ => ?_) | ((refine DCalls.of hBe2 ?_; rintro _ hh ⟨rfl, rfl⟩)) | (with_reducible refine And.intro ?_ ?_; · omega) | simp -dsimp -implicitDefEqProofs (disch := omega) only [↓vcOps_sp 19, ↓vcD_sp 19, ↓vcOps_sp 30, ↓vcD_sp 30, ↓vcOps_sp 37, ↓vcD_sp 37, ↓vcOps_sp 43, ↓vcD_sp 43, VCA, pg_gl, ↓upd_none, Nat.reduceEqDiff, Nat.reduceBEq, Nat.reduceAdd, Nat.reduceSub, Nat.reduceMul, Nat.reduceLT, Nat.reduceLeDiff, ↓reduceIte, reduceCtorEq, rsOf, rootsOf, SOp.rd, SI.rd, SX.rd, rdL, rdO, rdP, okParts, eqCells, okEqCells, fillA, okFill, setAt, implies_true, forall_const, forall_eq, ne_eq, exists_eq_right_right, exists_eq_right, exists_eq_left, exists_eq_left', eInt, eBool, lit_eq, v0, v3, v5, v6, v7, eEdit])
      all_goals first | (exfalso; omega) | exact ⟨_, Sub.refl _, EdR.bad eE (by decide)⟩ | trace_state
    · rw [if_neg hc] at eE
      rw [decide_eq_false hc] at hBe2
      by_cases h2 : 40 < up d e.at' + 1 + low d e.to
      · rw [if_pos h2] at eE
        repeat' (first | ((with_reducible refine Br.dec (fun _ => ?_) (fun _ => ?_)) <;> try (exfalso; omega)) | ((with_reducible refine Br.eq (fun _ => ?_) (fun _ => ?_)) <;> try (exfalso; omega)) | ((with_reducible refine Br.ne (fun _ => ?_) (fun _ => ?_)) <;> try (exfalso; omega)) | ((with_reducible refine brNdec (fun _ => ?_) (fun _ => ?_)) <;> try (exfalso; omega)) | ((with_reducible refine brNeq (fun _ => ?_) (fun _ => ?_)) <;> try (exfalso; omega)) | with_reducible refine Br.intro (fun _ => ?_) (fun _ => ?_) | ((refine DCalls.of hBe2 ?_; rintro _ hh ⟨rfl, rfl⟩)) | ((refine DCalls.of hUp ?_; rintro _ hh ⟨rfl, rfl⟩)) | ((refine DCalls.of hDe ?_; rintro _ hh ⟨rfl, rfl⟩)) | (with_reducible refine And.intro ?_ ?_; · omega) | simp -dsimp -implicitDefEqProofs (disch := omega) only [↓vcOps_sp 19, ↓vcD_sp 19, ↓vcOps_sp 30, ↓vcD_sp 30, ↓vcOps_sp 37, ↓vcD_sp 37, ↓vcOps_sp 43, ↓vcD_sp 43, VCA, pg_gl, ↓upd_none, Nat.reduceEqDiff, Nat.reduceBEq, Nat.reduceAdd, Nat.reduceSub, Nat.reduceMul, Nat.reduceLT, Nat.reduceLeDiff, ↓reduceIte, reduceCtorEq, rsOf, rootsOf, SOp.rd, SI.rd, SX.rd, rdL, rdO, rdP, okParts, eqCells, okEqCells, fillA, okFill, setAt, implies_true, forall_const, forall_eq, ne_eq, exists_eq_right_right, exists_eq_right, exists_eq_left, exists_eq_left', eInt, eBool, lit_eq, v0, v3, v5, v6, v7, gE, eEdit])
        all_goals first | (exfalso; omega) | exact ⟨_, Sub.refl _, EdR.bad eE (by decide)⟩ | trace_state
      · rw [if_neg h2] at eE
        repeat' (first | ((with_reducible refine Br.dec (fun _ => ?_) (fun _ => ?_)) <;> try (exfalso; omega)) | ((with_reducible refine Br.eq (fun _ => ?_) (fun _ => ?_)) <;> try (exfalso; omega)) | ((with_reducible refine Br.ne (fun _ => ?_) (fun _ => ?_)) <;> try (exfalso; omega)) | ((with_reducible refine brNdec (fun _ => ?_) (fun _ => ?_)) <;> try (exfalso; omega)) | ((with_reducible refine brNeq (fun _ => ?_) (fun _ => ?_)) <;> try (exfalso; omega)) | with_reducible refine Br.intro (fun _ => ?_) (fun _ => ?_) | ((refine DCalls.of hBe2 ?_; rintro _ hh ⟨rfl, rfl⟩)) | ((refine DCalls.of hUp ?_; rintro _ hh ⟨rfl, rfl⟩)) | ((refine DCalls.of hDe ?_; rintro _ hh ⟨rfl, rfl⟩)) | (with_reducible refine And.intro ?_ ?_; · omega) | simp -dsimp -implicitDefEqProofs (disch := omega) only [↓vcOps_sp 19, ↓vcD_sp 19, ↓vcOps_sp 30, ↓vcD_sp 30, ↓vcOps_sp 37, ↓vcD_sp 37, ↓vcOps_sp 43, ↓vcD_sp 43, VCA, pg_gl, ↓upd_none, Nat.reduceEqDiff, Nat.reduceBEq, Nat.reduceAdd, Nat.reduceSub, Nat.reduceMul, Nat.reduceLT, Nat.reduceLeDiff, ↓reduceIte, reduceCtorEq, rsOf, rootsOf, SOp.rd, SI.rd, SX.rd, rdL, rdO, rdP, okParts, eqCells, okEqCells, fillA, okFill, setAt, implies_true, forall_const, forall_eq, ne_eq, exists_eq_right_right, exists_eq_right, exists_eq_left, exists_eq_left', eInt, eBool, lit_eq, v0, v3, v5, v6, v7, gE, eEdit])
        all_goals first | (exfalso; omega) | exact s6 hc eE _ v3 v5 v6 v7 | trace_state
  have s5b : editE d e = 5 → ∀ (env : Env) (v : Int), v < 0 → env 7 = aInt v → vc (Pg G) c165_s5 (retK [.tmp 4] (EdR h0 h re d e made)) env h := by
    intro eE env v hv v7
    unfold c165_s5
    skip
    simp -dsimp -implicitDefEqProofs (disch := omega) only [↓vcOps_sp 19, ↓vcD_sp 19, ↓vcOps_sp 30, ↓vcD_sp 30, ↓vcOps_sp 37, ↓vcD_sp 37, ↓vcOps_sp 43, ↓vcD_sp 43, VCA, pg_gl, ↓upd_none, Nat.reduceEqDiff, Nat.reduceBEq, Nat.reduceAdd, Nat.reduceSub, Nat.reduceMul, Nat.reduceLT, Nat.reduceLeDiff, ↓reduceIte, reduceCtorEq, rsOf, rootsOf, SOp.rd, SI.rd, SX.rd, rdL, rdO, rdP, okParts, eqCells, okEqCells, fillA, okFill, setAt, implies_true, forall_const, forall_eq, ne_eq, exists_eq_right_right, exists_eq_right, exists_eq_left, exists_eq_left', eInt, eBool, lit_eq, v7]
    repeat' (first | ((with_reducible refine Br.dec (fun _ => ?_) (fun _ => ?_)) <;> try (exfalso; omega)) | ((with_reducible refine Br.eq (fun _ => ?_) (fun _ => ?_)) <;> try (exfalso; omega)) | ((with_reducible refine Br.ne (fun _ => ?_) (fun _ => ?_)) <;> try (exfalso; omega)) | ((with_reducible refine brNdec (fun _ => ?_) (fun _ => ?_)) <;> try (exfalso; omega)) | ((with_reducible refine brNeq (fun _ => ?_) (fun _ => ?_)) <;> try (exfalso; omega)) | with_reducible refine Br.intro (fun _ => ?_) (fun _ => ?_) | (with_reducible refine And.intro ?_ ?_; · omega) | simp -dsimp -implicitDefEqProofs (disch := omega) only [↓vcOps_sp 19, ↓vcD_sp 19, ↓vcOps_sp 30, ↓vcD_sp 30, ↓vcOps_sp 37, ↓vcD_sp 37, ↓vcOps_sp 43, ↓vcD_sp 43, VCA, pg_gl, ↓upd_none, Nat.reduceEqDiff, Nat.reduceBEq, Nat.reduceAdd, Nat.reduceSub, Nat.reduceMul, Nat.reduceLT, Nat.reduceLeDiff, ↓reduceIte, reduceCtorEq, rsOf, rootsOf, SOp.rd, SI.rd, SX.rd, rdL, rdO, rdP, okParts, eqCells, okEqCells, fillA, okFill, setAt, implies_true, forall_const, forall_eq, ne_eq, exists_eq_right_right, exists_eq_right, exists_eq_left, exists_eq_left', eInt, eBool, lit_eq, v7])
    all_goals first | (exfalso; omega) | exact ⟨_, Sub.refl _, EdR.bad eE (by decide)⟩
  refine dcalls_of_vc Tryd.func165 hn165 hc165 (by rw [Tryd.ntmps165]; simp) (by rw [Tryd.ntmps165]; decide) ?_
  simp -dsimp -implicitDefEqProofs (disch := omega) only [↓vcOps_sp 19, ↓vcD_sp 19, ↓vcOps_sp 30, ↓vcD_sp 30, ↓vcOps_sp 37, ↓vcD_sp 37, ↓vcOps_sp 43, ↓vcD_sp 43, VCA, pg_gl, ↓upd_none, Nat.reduceEqDiff, Nat.reduceBEq, Nat.reduceAdd, Nat.reduceSub, Nat.reduceMul, Nat.reduceLT, Nat.reduceLeDiff, ↓reduceIte, reduceCtorEq, rsOf, rootsOf, SOp.rd, SI.rd, SX.rd, rdL, rdO, rdP, okParts, eqCells, okEqCells, fillA, okFill, setAt, implies_true, forall_const, forall_eq, ne_eq, exists_eq_right_right, exists_eq_right, exists_eq_left, exists_eq_left', eInt, eBool, lit_eq, c165, eEdit]
  by_cases ha : inD d e.at'
  · rw [if_pos ha] at hE1
    by_cases ht : inD d e.to
    · rw [if_pos ht] at hE2
      rw [if_neg (by simp [ha, ht])] at eE
      have ha' := ha.nat.1
      have ht' := ht.nat.1
      have ga := rowsA_get (sl := sl) ha'
      have gt := rowsA_get (sl := sl) ht'
      have rl := rowsA_len d sl
      have e0 : nth d.nodes e.at'.toNat = nd d e.at' := rfl
      have e1 : nth d.nodes e.to.toNat = nd d e.to := rfl
      rw [e0] at ga
      rw [e1] at gt
      unfold rowA at ga gt
      obtain ⟨oA, oK⟩ := E.dw.own _ ha'
      rw [e0] at oK
      have kl := (sm.nd e.at').kids
      have oL := oK.len.1
      have oL2 := oK.len.2
      rw [List.length_map] at oL
      have hPa := parent_ok (G := G) (nd d e.at').kind
      by_cases h7 : ¬ ((nd d e.at').kind = 1 ∨ (nd d e.at').kind = 2) ∨ (nd d e.to).kind = 1 ∨ ((nd d e.at').kind = 1 ∧ (nd d e.to).kind = 3)
      · rw [if_pos h7] at eE
        by_cases hp : (nd d e.at').kind = 1 ∨ (nd d e.at').kind = 2
        · rw [show (decide ((nd d e.at').kind = 1) || decide ((nd d e.at').kind = 2)) = true by simpa using hp] at hPa
          repeat' (first | ((with_reducible refine Br.dec (fun _ => ?_) (fun _ => ?_)) <;> try (exfalso; omega)) | ((with_reducible refine Br.eq (fun _ => ?_) (fun _ => ?_)) <;> try (exfalso; omega)) | ((with_reducible refine Br.ne (fun _ => ?_) (fun _ => ?_)) <;> try (exfalso; omega)) | ((with_reducible refine brNdec (fun _ => ?_) (fun _ => ?_)) <;> try (exfalso; omega)) | ((with_reducible refine brNeq (fun _ => ?_) (fun _ => ?_)) <;> try (exfalso; omega)) | with_reducible refine Br.intro (fun _ => ?_) (fun _ => ?_) | ((refine DCalls.of hE1 ?_; rintro _ hh ⟨rfl, rfl⟩)) | ((refine DCalls.of hE2 ?_; rintro _ hh ⟨rfl, rfl⟩)) | (with_reducible apply pcallE.of; · exact hPa) | (with_reducible refine And.intro ?_ ?_; · omega) | simp -dsimp -implicitDefEqProofs (disch := omega) only [↓vcOps_sp 19, ↓vcD_sp 19, ↓vcOps_sp 30, ↓vcD_sp 30, ↓vcOps_sp 37, ↓vcD_sp 37, ↓vcOps_sp 43, ↓vcD_sp 43, VCA, pg_gl, ↓upd_none, Nat.reduceEqDiff, Nat.reduceBEq, Nat.reduceAdd, Nat.reduceSub, Nat.reduceMul, Nat.reduceLT, Nat.reduceLeDiff, ↓reduceIte, reduceCtorEq, rsOf, rootsOf, SOp.rd, SI.rd, SX.rd, rdL, rdO, rdP, okParts, eqCells, okEqCells, fillA, okFill, setAt, implies_true, forall_const, forall_eq, ne_eq, exists_eq_right_right, exists_eq_right, exists_eq_left, exists_eq_left', eInt, eBool, lit_eq, gN, ga, gt, rl, eEdit])
          all_goals first | (exfalso; omega) | exact ⟨_, Sub.refl _, EdR.bad eE (by decide)⟩ | trace_state
        · rw [show (decide ((nd d e.at').kind = 1) || decide ((nd d e.at').kind = 2)) = false by simpa using hp] at hPa
          repeat' (first | ((with_reducible refine Br.dec (fun _ => ?_) (fun _ => ?_)) <;> try (exfalso; omega)) | ((with_reducible refine Br.eq (fun _ => ?_) (fun _ => ?_)) <;> try (exfalso; omega)) | ((with_reducible refine Br.ne (fun _ => ?_) (fun _ => ?_)) <;> try (exfalso; omega)) | ((with_reducible refine brNdec (fun _ => ?_) (fun _ => ?_)) <;> try (exfalso; omega)) | ((with_reducible refine brNeq (fun _ => ?_) (fun _ => ?_)) <;> try (exfalso; omega)) | with_reducible refine Br.intro (fun _ => ?_) (fun _ => ?_) | ((refine DCalls.of hE1 ?_; rintro _ hh ⟨rfl, rfl⟩)) | ((refine DCalls.of hE2 ?_; rintro _ hh ⟨rfl, rfl⟩)) | (with_reducible apply pcallE.of; · exact hPa) | (with_reducible refine And.intro ?_ ?_; · omega) | simp -dsimp -implicitDefEqProofs (disch := omega) only [↓vcOps_sp 19, ↓vcD_sp 19, ↓vcOps_sp 30, ↓vcD_sp 30, ↓vcOps_sp 37, ↓vcD_sp 37, ↓vcOps_sp 43, ↓vcD_sp 43, VCA, pg_gl, ↓upd_none, Nat.reduceEqDiff, Nat.reduceBEq, Nat.reduceAdd, Nat.reduceSub, Nat.reduceMul, Nat.reduceLT, Nat.reduceLeDiff, ↓reduceIte, reduceCtorEq, rsOf, rootsOf, SOp.rd, SI.rd, SX.rd, rdL, rdO, rdP, okParts, eqCells, okEqCells, fillA, okFill, setAt, implies_true, forall_const, forall_eq, ne_eq, exists_eq_right_right, exists_eq_right, exists_eq_left, exists_eq_left', eInt, eBool, lit_eq, gN, ga, gt, rl, eEdit])
          all_goals first | (exfalso; omega) | exact ⟨_, Sub.refl _, EdR.bad eE (by decide)⟩ | trace_state
      · rw [if_neg h7] at eE
        have hp : (nd d e.at').kind = 1 ∨ (nd d e.at').kind = 2 := Classical.not_not.1 fun h => h7 (.inl h)
        have h71 : ¬ (nd d e.to).kind = 1 := fun h => h7 (.inr (.inl h))
        have h72 : ¬ ((nd d e.at').kind = 1 ∧ (nd d e.to).kind = 3) := fun h => h7 (.inr (.inr h))
        rw [show (decide ((nd d e.at').kind = 1) || decide ((nd d e.at').kind = 2)) = true by simpa using hp] at hPa
        by_cases h9 : 0 ≤ (nd d e.to).parent
        · rw [if_pos h9] at eE
          repeat' (first | ((with_reducible refine Br.dec (fun _ => ?_) (fun _ => ?_)) <;> try (exfalso; omega)) | ((with_reducible refine Br.eq (fun _ => ?_) (fun _ => ?_)) <;> try (exfalso; omega)) | ((with_reducible refine Br.ne (fun _ => ?_) (fun _ => ?_)) <;> try (exfalso; omega)) | ((with_reducible refine brNdec (fun _ => ?_) (fun _ => ?_)) <;> try (exfalso; omega)) | ((with_reducible refine brNeq (fun _ => ?_) (fun _ => ?_)) <;> try (exfalso; omega)) | with_reducible refine Br.intro (fun _ => ?_) (fun _ => ?_) | ((refine DCalls.of hE1 ?_; rintro _ hh ⟨rfl, rfl⟩)) | ((refine DCalls.of hE2 ?_; rintro _ hh ⟨rfl, rfl⟩)) | (with_reducible apply pcallE.of; · exact hPa) | (with_reducible refine And.intro ?_ ?_; · omega) | simp -dsimp -implicitDefEqProofs (disch := omega) only [↓vcOps_sp 19, ↓vcD_sp 19, ↓vcOps_sp 30, ↓vcD_sp 30, ↓vcOps_sp 37, ↓vcD_sp 37, ↓vcOps_sp 43, ↓vcD_sp 43, VCA, pg_gl, ↓upd_none, Nat.reduceEqDiff, Nat.reduceBEq, Nat.reduceAdd, Nat.reduceSub, Nat.reduceMul, Nat.reduceLT, Nat.reduceLeDiff, ↓reduceIte, reduceCtorEq, rsOf, rootsOf, SOp.rd, SI.rd, SX.rd, rdL, rdO, rdP, okParts, eqCells, okEqCells, fillA, okFill, setAt, implies_true, forall_const, forall_eq, ne_eq, exists_eq_right_right, exists_eq_right, exists_eq_left, exists_eq_left', eInt, eBool, lit_eq, gN, ga, gt, rl, eEdit])
          all_goals first | (exfalso; omega) | exact ⟨_, Sub.refl _, EdR.bad eE (by decide)⟩ | trace_state
        · rw [if_neg h9] at eE
          have hIx := index_own (G := G) oK e.before kl
          have i1 := idxM_leK (nd d e.at').kids e.before
          have im := idx_mem (nd d e.at').kids e.before
          by_cases hb : e.before ≠ -1 ∧ e.before ∉ (nd d e.at').kids
          · rw [if_pos hb] at eE
            have hb1 : ¬ 0 ≤ idxM (· == e.before) (nd d e.at').kids := fun h => hb.2 (im.1 h)
            repeat' (first | ((with_reducible refine Br.dec (fun _ => ?_) (fun _ => ?_)) <;> try (exfalso; omega)) | ((with_reducible refine Br.eq (fun _ => ?_) (fun _ => ?_)) <;> try (exfalso; omega)) | ((with_reducible refine Br.ne (fun _ => ?_) (fun _ => ?_)) <;> try (exfalso; omega)) | ((with_reducible refine brNdec (fun _ => ?_) (fun _ => ?_)) <;> try (exfalso; omega)) | ((with_reducible refine brNeq (fun _ => ?_) (fun _ => ?_)) <;> try (exfalso; omega)) | with_reducible refine Br.intro (fun _ => ?_) (fun _ => ?_) | ((refine DCalls.of hE1 ?_; rintro _ hh ⟨rfl, rfl⟩)) | ((refine DCalls.of hE2 ?_; rintro _ hh ⟨rfl, rfl⟩)) | (with_reducible apply pcallE.of; · exact hPa) | ((refine DCalls.of hIx ?_; rintro _ hh ⟨rfl, rfl⟩)) | (with_reducible refine And.intro ?_ ?_; · omega) | simp -dsimp -implicitDefEqProofs (disch := omega) only [↓vcOps_sp 19, ↓vcD_sp 19, ↓vcOps_sp 30, ↓vcD_sp 30, ↓vcOps_sp 37, ↓vcD_sp 37, ↓vcOps_sp 43, ↓vcD_sp 43, VCA, pg_gl, ↓upd_none, Nat.reduceEqDiff, Nat.reduceBEq, Nat.reduceAdd, Nat.reduceSub, Nat.reduceMul, Nat.reduceLT, Nat.reduceLeDiff, ↓reduceIte, reduceCtorEq, rsOf, rootsOf, SOp.rd, SI.rd, SX.rd, rdL, rdO, rdP, okParts, eqCells, okEqCells, fillA, okFill, setAt, implies_true, forall_const, forall_eq, ne_eq, exists_eq_right_right, exists_eq_right, exists_eq_left, exists_eq_left', eInt, eBool, lit_eq, gN, ga, gt, rl, eEdit, oL, oL2])
            all_goals first | (exfalso; omega) | exact ⟨_, Sub.refl _, EdR.bad eE (by decide)⟩ | exact s5b eE _ _ (by omega) rfl
          · rw [if_neg hb] at eE
            by_cases hb1 : e.before = -1
            · have hI : insAt d e = (nd d e.at').kids.length := by unfold insAt; rw [if_pos hb1]
              rw [hI] at s5
              repeat' (first | ((with_reducible refine Br.dec (fun _ => ?_) (fun _ => ?_)) <;> try (exfalso; omega)) | ((with_reducible refine Br.eq (fun _ => ?_) (fun _ => ?_)) <;> try (exfalso; omega)) | ((with_reducible refine Br.ne (fun _ => ?_) (fun _ => ?_)) <;> try (exfalso; omega)) | ((with_reducible refine brNdec (fun _ => ?_) (fun _ => ?_)) <;> try (exfalso; omega)) | ((with_reducible refine brNeq (fun _ => ?_) (fun _ => ?_)) <;> try (exfalso; omega)) | with_reducible refine Br.intro (fun _ => ?_) (fun _ => ?_) | ((refine DCalls.of hE1 ?_; rintro _ hh ⟨rfl, rfl⟩)) | ((refine DCalls.of hE2 ?_; rintro _ hh ⟨rfl, rfl⟩)) | (with_reducible apply pcallE.of; · exact hPa) | (with_reducible refine And.intro ?_ ?_; · omega) | simp -dsimp -implicitDefEqProofs (disch := omega) only [↓vcOps_sp 19, ↓vcD_sp 19, ↓vcOps_sp 30, ↓vcD_sp 30, ↓vcOps_sp 37, ↓vcD_sp 37, ↓vcOps_sp 43, ↓vcD_sp 43, VCA, pg_gl, ↓upd_none, Nat.reduceEqDiff, Nat.reduceBEq, Nat.reduceAdd, Nat.reduceSub, Nat.reduceMul, Nat.reduceLT, Nat.reduceLeDiff, ↓reduceIte, reduceCtorEq, rsOf, rootsOf, SOp.rd, SI.rd, SX.rd, rdL, rdO, rdP, okParts, eqCells, okEqCells, fillA, okFill, setAt, implies_true, forall_const, forall_eq, ne_eq, exists_eq_right_right, exists_eq_right, exists_eq_left, exists_eq_left', eInt, eBool, lit_eq, gN, ga, gt, rl, eEdit, oL, oL2])
              all_goals first | (exfalso; omega) | refine s5 ha ht hp h71 h9 hb eE _ ?_ ?_ ?_ ?_ ?_ <;> rfl
            · have hbm : e.before ∈ (nd d e.at').kids := Classical.not_not.1 fun h => hb ⟨hb1, h⟩
              have i0 := im.2 hbm
              have hI : (insAt d e : Int) = idxM (· == e.before) (nd d e.at').kids := by unfold insAt; rw [if_neg hb1]; omega
              rw [← hI] at hIx
              repeat' (first | ((with_reducible refine Br.dec (fun _ => ?_) (fun _ => ?_)) <;> try (exfalso; omega)) | ((with_reducible refine Br.eq (fun _ => ?_) (fun _ => ?_)) <;> try (exfalso; omega)) | ((with_reducible refine Br.ne (fun _ => ?_) (fun _ => ?_)) <;> try (exfalso; omega)) | ((with_reducible refine brNdec (fun _ => ?_) (fun _ => ?_)) <;> try (exfalso; omega)) | ((with_reducible refine brNeq (fun _ => ?_) (fun _ => ?_)) <;> try (exfalso; omega)) | with_reducible refine Br.intro (fun _ => ?_) (fun _ => ?_) | ((refine DCalls.of hE1 ?_; rintro _ hh ⟨rfl, rfl⟩)) | ((refine DCalls.of hE2 ?_; rintro _ hh ⟨rfl, rfl⟩)) | (with_reducible apply pcallE.of; · exact hPa) | ((refine DCalls.of hIx ?_; rintro _ hh ⟨rfl, rfl⟩)) | (with_reducible refine And.intro ?_ ?_; · omega) | simp -dsimp -implicitDefEqProofs (disch := omega) only [↓vcOps_sp 19, ↓vcD_sp 19, ↓vcOps_sp 30, ↓vcD_sp 30, ↓vcOps_sp 37, ↓vcD_sp 37, ↓vcOps_sp 43, ↓vcD_sp 43, VCA, pg_gl, ↓upd_none, Nat.reduceEqDiff, Nat.reduceBEq, Nat.reduceAdd, Nat.reduceSub, Nat.reduceMul, Nat.reduceLT, Nat.reduceLeDiff, ↓reduceIte, reduceCtorEq, rsOf, rootsOf, SOp.rd, SI.rd, SX.rd, rdL, rdO, rdP, okParts, eqCells, okEqCells, fillA, okFill, setAt, implies_true, forall_const, forall_eq, ne_eq, exists_eq_right_right, exists_eq_right, exists_eq_left, exists_eq_left', eInt, eBool, lit_eq, gN, ga, gt, rl, eEdit, oL, oL2])
              all_goals first | (exfalso; omega) | refine s5 ha ht hp h71 h9 hb eE _ ?_ ?_ ?_ ?_ ?_ <;> rfl
    · rw [if_neg ht] at hE2
      rw [if_pos (.inr ht)] at eE
      repeat' (first | ((with_reducible refine Br.dec (fun _ => ?_) (fun _ => ?_)) <;> try (exfalso; omega)) | ((with_reducible refine Br.eq (fun _ => ?_) (fun _ => ?_)) <;> try (exfalso; omega)) | ((with_reducible refine Br.ne (fun _ => ?_) (fun _ => ?_)) <;> try (exfalso; omega)) | ((with_reducible refine brNdec (fun _ => ?_) (fun _ => ?_)) <;> try (exfalso; omega)) | ((with_reducible refine brNeq (fun _ => ?_) (fun _ => ?_)) <;> try (exfalso; omega)) | with_reducible refine Br.intro (fun _ => ?_) (fun _ => ?_) | ((refine DCalls.of hE1 ?_; rintro _ hh ⟨rfl, rfl⟩)) | ((refine DCalls.of hE2 ?_; rintro _ hh ⟨rfl, rfl⟩)) | (with_reducible refine And.intro ?_ ?_; · omega) | simp -dsimp -implicitDefEqProofs (disch := omega) only [↓vcOps_sp 19, ↓vcD_sp 19, ↓vcOps_sp 30, ↓vcD_sp 30, ↓vcOps_sp 37, ↓vcD_sp 37, ↓vcOps_sp 43, ↓vcD_sp 43, VCA, pg_gl, ↓upd_none, Nat.reduceEqDiff, Nat.reduceBEq, Nat.reduceAdd, Nat.reduceSub, Nat.reduceMul, Nat.reduceLT, Nat.reduceLeDiff, ↓reduceIte, reduceCtorEq, rsOf, rootsOf, SOp.rd, SI.rd, SX.rd, rdL, rdO, rdP, okParts, eqCells, okEqCells, fillA, okFill, setAt, implies_true, forall_const, forall_eq, ne_eq, exists_eq_right_right, exists_eq_right, exists_eq_left, exists_eq_left', eInt, eBool, lit_eq, eEdit])
      all_goals first | (exfalso; omega) | exact ⟨_, Sub.refl _, EdR.bad eE (by decide)⟩ | trace_state
  · rw [if_neg ha] at hE1
    rw [if_pos (.inl ha)] at eE
    by_cases ht : inD d e.to
    · rw [if_pos ht] at hE2
      repeat' (first | ((with_reducible refine Br.dec (fun _ => ?_) (fun _ => ?_)) <;> try (exfalso; omega)) | ((with_reducible refine Br.eq (fun _ => ?_) (fun _ => ?_)) <;> try (exfalso; omega)) | ((with_reducible refine Br.ne (fun _ => ?_) (fun _ => ?_)) <;> try (exfalso; omega)) | ((with_reducible refine brNdec (fun _ => ?_) (fun _ => ?_)) <;> try (exfalso; omega)) | ((with_reducible refine brNeq (fun _ => ?_) (fun _ => ?_)) <;> try (exfalso; omega)) | with_reducible refine Br.intro (fun _ => ?_) (fun _ => ?_) | ((refine DCalls.of hE1 ?_; rintro _ hh ⟨rfl, rfl⟩)) | ((refine DCalls.of hE2 ?_; rintro _ hh ⟨rfl, rfl⟩)) | (with_reducible refine And.intro ?_ ?_; · omega) | simp -dsimp -implicitDefEqProofs (disch := omega) only [↓vcOps_sp 19, ↓vcD_sp 19, ↓vcOps_sp 30, ↓vcD_sp 30, ↓vcOps_sp 37, ↓vcD_sp 37, ↓vcOps_sp 43, ↓vcD_sp 43, VCA, pg_gl, ↓upd_none, Nat.reduceEqDiff, Nat.reduceBEq, Nat.reduceAdd, Nat.reduceSub, Nat.reduceMul, Nat.reduceLT, Nat.reduceLeDiff, ↓reduceIte, reduceCtorEq, rsOf, rootsOf, SOp.rd, SI.rd, SX.rd, rdL, rdO, rdP, okParts, eqCells, okEqCells, fillA, okFill, setAt, implies_true, forall_const, forall_eq, ne_eq, exists_eq_right_right, exists_eq_right, exists_eq_left, exists_eq_left', eInt, eBool, lit_eq, eEdit])
      all_goals first | (exfalso; omega) | exact ⟨_, Sub.refl _, EdR.bad eE (by decide)⟩ | trace_state
    · rw [if_neg ht] at hE2
      repeat' (first | ((with_reducible refine Br.dec (fun _ => ?_) (fun _ => ?_)) <;> try (exfalso; omega)) | ((with_reducible refine Br.eq (fun _ => ?_) (fun _ => ?_)) <;> try (exfalso; omega)) | ((with_reducible refine Br.ne (fun _ => ?_) (fun _ => ?_)) <;> try (exfalso; omega)) | ((with_reducible refine brNdec (fun _ => ?_) (fun _ => ?_)) <;> try (exfalso; omega)) | ((with_reducible refine brNeq (fun _ => ?_) (fun _ => ?_)) <;> try (exfalso; omega)) | with_reducible refine Br.intro (fun _ => ?_) (fun _ => ?_) | ((refine DCalls.of hE1 ?_; rintro _ hh ⟨rfl, rfl⟩)) | ((refine DCalls.of hE2 ?_; rintro _ hh ⟨rfl, rfl⟩)) | (with_reducible refine And.intro ?_ ?_; · omega) | simp -dsimp -implicitDefEqProofs (disch := omega) only [↓vcOps_sp 19, ↓vcD_sp 19, ↓vcOps_sp 30, ↓vcD_sp 30, ↓vcOps_sp 37, ↓vcD_sp 37, ↓vcOps_sp 43, ↓vcD_sp 43, VCA, pg_gl, ↓upd_none, Nat.reduceEqDiff, Nat.reduceBEq, Nat.reduceAdd, Nat.reduceSub, Nat.reduceMul, Nat.reduceLT, Nat.reduceLeDiff, ↓reduceIte, reduceCtorEq, rsOf, rootsOf, SOp.rd, SI.rd, SX.rd, rdL, rdO, rdP, okParts, eqCells, okEqCells, fillA, okFill, setAt, implies_true, forall_const, forall_eq, ne_eq, exists_eq_right_right, exists_eq_right, exists_eq_left, exists_eq_left', eInt, eBool, lit_eq, eEdit])
      all_goals first | (exfalso; omega) | exact ⟨_, Sub.refl _, EdR.bad eE (by decide)⟩ | trace_state
end Go.Proofs.K
end
section
/- The editor: make. -/
set_option linter.unusedSimpArgs false
set_option linter.unusedVariables false
namespace Go.Proofs.K
open Go Go.Sim Go.Proofs
variable {G : Glob}
theorem rowsA_add {d : HDoc} {x : HNode} {sl : Nat → AVal} {a : AVal} : rowsA (addN d x) (upd (upd sl (2 * d.nodes.length) a) (2 * d.nodes.length + 1) .emp) = rowsA d sl ++ [rowA x a .emp] := by
  unfold rowsA
  rw [addN_len, List.range_succ, List.map_append, List.map_cons, List.map_nil]
  congr 1
  · refine List.map_congr_left fun i hi => ?_
    have hi := List.mem_range.1 hi
    rw [upd_ne _ _ (by omega), upd_ne _ _ (by omega), upd_ne _ _ (by omega), upd_ne _ _ (by omega)]
    have : nth (addN d x).nodes i = nth d.nodes i := by
      unfold addN nth; rw [List.getD_eq_getElem?_getD, List.getD_eq_getElem?_getD, List.getElem?_append_left hi]
    rw [this]
  · rw [upd_same, upd_ne _ _ (by omega), upd_same]
    have : nth (addN d x).nodes d.nodes.length = x := by unfold addN nth; rw [List.getD_eq_getElem?_getD]; simp
    rw [this]
theorem Ed.add {h0 h h2 : Heap} {re rN rN' : Nat} {d : HDoc} {sl : Nat → AVal} {made made' : Int} (E : Ed h0 h re rN d sl made) {x : HNode} {a' : AVal} (hk : x.kids = [])
    (hN : h2 rN' = some ⟨43, 6, rowsA d sl ++ [rowA x a' .emp]⟩) (hre : h2 re = some ⟨147, 3, [[.osl rN' 6 0 (d.nodes.length + 1), .bool d.quirks, aInt made']]⟩)
    (kp : ∀ r o, h r = some o → r ≠ rN → r ≠ re → h2 r = some o) (O : OwnS h2 122 2 (x.attrs.map eAttr) a') (M : Mut a') (fr : ∀ r, rootOf a' = some r → h r = none ∧ r ≠ rN') (fN : rN' = rN ∨ h rN' = none) :
    Ed h0 h2 re rN' (addN d x) (upd (upd sl (2 * d.nodes.length) a') (2 * d.nodes.length + 1) .emp) made' := by
  have hold : ∀ k, k < 2 * d.nodes.length → upd (upd sl (2 * d.nodes.length) a') (2 * d.nodes.length + 1) .emp k = sl k := fun k hk => by rw [upd_ne _ _ (by omega), upd_ne _ _ (by omega)]
  have hnew : upd (upd sl (2 * d.nodes.length) a') (2 * d.nodes.length + 1) .emp (2 * d.nodes.length) = a' := by rw [upd_ne _ _ (by omega), upd_same]
  have hnew2 : upd (upd sl (2 * d.nodes.length) a') (2 * d.nodes.length + 1) AVal.emp (2 * d.nodes.length + 1) = .emp := upd_same _ _ _
  have some_ne : ∀ r o, h r = some o → r ≠ rN → r ≠ rN' := fun r o ho hne e => by
    rcases fN with h1 | h1
    · exact hne (e.trans h1)
    · rw [e, h1] at ho; cases ho
  have ren : re ≠ rN' := some_ne re _ E.ed E.ne
  generalize hs : upd (upd sl (2 * d.nodes.length) a') (2 * d.nodes.length + 1) .emp = sl' at *
  have rws : rowsA (addN d x) sl' = rowsA d sl ++ [rowA x a' .emp] := by rw [← hs]; exact rowsA_add
  have fa : ∀ r, rootOf a' = some r → h0 r = none ∧ r ≠ rN' ∧ r ≠ re := fun r hr => ⟨E.dw.sub.none (fr r hr).1, (fr r hr).2, fun e => by have := (fr r hr).1; rw [e, E.ed] at this; cases this⟩
  have ks : ∀ k, k < 2 * (d.nodes.length + 1) → k < 2 * d.nodes.length ∨ k = 2 * d.nodes.length ∨ k = 2 * d.nodes.length + 1 := fun k hk => by omega
  refine ⟨⟨fun t o ht => ?_, by rw [hN, rws], ⟨?_, by simp only [List.mem_singleton]; exact fun e => ren e.symm⟩, fun i hi => ?_, fun k hk' r hr => ?_, fun j k hj hk' hne r hr => ?_, fun r hr => ?_⟩, by rw [addN_len]; exact hre, E.new, fun k hk' => ?_⟩
  · refine kp t o (E.dw.sub t o ht) (fun e => by rw [e, E.dw.new.1] at ht; cases ht) (fun e => by rw [e, E.new] at ht; cases ht)
  · rcases fN with h1 | h1
    · rw [h1]; exact E.dw.new.1
    · exact E.dw.sub.none h1
  · rw [addN_len] at hi
    by_cases hl : i < d.nodes.length
    · have e1 : nth (addN d x).nodes i = nth d.nodes i := by
        unfold addN nth; rw [List.getD_eq_getElem?_getD, List.getD_eq_getElem?_getD, List.getElem?_append_left hl]
      rw [e1, hold _ (by omega), hold _ (by omega)]
      obtain ⟨g1, g2⟩ := E.dw.own i hl
      exact ⟨g1.keep fun r o hr ho => kp r o ho (E.root_ne (by omega) hr).1 (E.root_ne (by omega) hr).2, g2.keep fun r o hr ho => kp r o ho (E.root_ne (by omega) hr).1 (E.root_ne (by omega) hr).2⟩
    · have e0 : i = d.nodes.length := by omega
      subst e0
      have e1 : nth (addN d x).nodes d.nodes.length = x := by unfold addN nth; rw [List.getD_eq_getElem?_getD]; simp
      rw [e1, hnew, hnew2, hk]
      exact ⟨O, .inl ⟨rfl, rfl⟩⟩
  · rw [addN_len] at hk'
    simp only [List.mem_singleton]
    rcases ks k hk' with h1 | h1 | h1
    · rw [hold k h1] at hr
      have := E.dw.fresh k h1 r hr
      obtain ⟨o, ho⟩ := E.dw.slot h1 hr
      exact ⟨this.1, some_ne r o ho this.2.1, fun e => this.2.2 (by simp [e])⟩
    · rw [h1, hnew] at hr; exact fa r hr
    · rw [h1, hnew2] at hr; cases hr
  · rw [addN_len] at hj hk'
    rcases ks j hj with h1 | h1 | h1
    · rw [hold j h1] at hr
      rcases ks k hk' with h2 | h2 | h2
      · rw [hold k h2]; exact E.dw.sep j k h1 h2 hne r hr
      · rw [h2, hnew]; intro h3
        obtain ⟨o, ho⟩ := E.dw.slot h1 hr
        have := (fr r h3).1; rw [ho] at this; cases this
      · rw [h2, hnew2]; intro h3; cases h3
    · rw [h1, hnew] at hr
      rcases ks k hk' with h2 | h2 | h2
      · rw [hold k h2]; intro h3
        obtain ⟨o, ho⟩ := E.dw.slot h2 h3
        have := (fr r hr).1; rw [ho] at this; cases this
      · omega
      · rw [h2, hnew2]; intro h3; cases h3
    · rw [h1, hnew2] at hr; cases hr
  · simp only [List.mem_singleton] at hr
    exact ⟨_, by rw [hr]; exact hre⟩
  · rw [addN_len] at hk'
    rcases ks k hk' with h1 | h1 | h1
    · rw [hold k h1]; exact E.live k h1
    · rw [h1, hnew]; exact M
    · rw [h1, hnew2]; exact fun es e => by cases e
def c164 : SFun := ⟨(.seq (.reg [⟨(some 3), (.boxF 87 12 (.t 1)), none⟩, ⟨(some 4), (.mv (.c (.int .i64 (0)))), none⟩]) (.seq (.reg [⟨(some 7), (.fldA 6 (.t 3)), none⟩, ⟨(some 8), (.ld 6 true (.t 7)), none⟩, ⟨(some 5), (.new 43 6 [(.int .i64 (0)), (.str []), .emp, (.str []), (.int .i64 (0)), .emp]), none⟩, ⟨none, (.st 6 (.t 5) (.t 8)), none⟩]) (.seq (.block 0 (.seq (.reg [⟨(some 10), (.fldA 5 (.t 5)), none⟩, ⟨(some 11), (.ld 1 false (.t 10)), none⟩, ⟨(some 12), (.len (.t 11)), none⟩, ⟨(some 13), (.bin .gtr (.t 12) (.c (.int .i64 (0)))), none⟩, ⟨(some 9), (.mv (.t 13)), none⟩]) (.cond (.t 9) (.seq (.reg [⟨(some 4), (.mv (.c (.int .i64 (3)))), none⟩]) .ret) (.seq (.reg [⟨(some 15), (.fldA 0 (.t 5)), none⟩, ⟨(some 16), (.ld 1 false (.t 15)), none⟩, ⟨(some 17), (.bin .eql (.t 16) (.c (.int .i64 (1)))), none⟩, ⟨(some 14), (.mv (.t 17)), none⟩]) (.cond (.t 14) (.seq (.reg [⟨(some 4), (.mv (.c (.int .i64 (7)))), none⟩]) .ret) .skip))))) (.seq (.seq (.reg [⟨(some 18), (.ld 6 true (.t 5)), none⟩, ⟨(some 19), (.pcall 100 [(.t 18)]), none⟩, ⟨(some 6), (.mv (.t 19)), none⟩]) (.seq (.reg [⟨(some 20), (.mv (.t 6)), none⟩, ⟨(some 21), (.bin .neq (.t 20) (.c (.int .i64 (0)))), none⟩]) (.cond (.t 21) (.seq (.reg [⟨(some 22), (.mv (.t 6)), none⟩, ⟨(some 4), (.mv (.t 22)), none⟩]) .ret) .skip))) (.seq (.seq (.reg [⟨(some 23), (.mv (.t 0)), none⟩, ⟨(some 24), (.fldA 0 (.t 23)), none⟩, ⟨(some 25), (.fldA 0 (.t 24)), none⟩, ⟨(some 26), (.fldA 0 (.t 25)), none⟩, ⟨(some 27), (.ld 1 false (.t 26)), none⟩, ⟨(some 28), (.len (.t 27)), none⟩, ⟨(some 29), (.bin .eql (.t 28) (.c (.int .i64 (200)))), none⟩]) (.cond (.t 29) (.seq (.reg [⟨(some 4), (.mv (.c (.int .i64 (2)))), none⟩]) .ret) .skip)) (.seq (.reg [⟨(some 30), (.mv (.t 0)), none⟩, ⟨(some 31), (.mv (.t 0)), none⟩, ⟨(some 32), (.fldA 0 (.t 31)), none⟩, ⟨(some 33), (.fldA 0 (.t 32)), none⟩, ⟨(some 34), (.fldA 0 (.t 33)), none⟩, ⟨(some 35), (.ld 1 false (.t 34)), none⟩, ⟨(some 36), (.len (.t 35)), none⟩, ⟨(some 37), (.fldA 0 (.t 30)), none⟩, ⟨(some 38), (.fldA 2 (.t 37)), none⟩, ⟨none, (.st 1 (.t 38) (.t 36)), none⟩]) (.seq (.dreg [(⟨(some 39), (.mv (.t 0)), none⟩, none), (⟨(some 40), (.mv (.t 0)), none⟩, none), (⟨(some 41), (.fldA 0 (.t 40)), none⟩, none), (⟨(some 42), (.fldA 0 (.t 41)), none⟩, none), (⟨(some 43), (.fldA 0 (.t 42)), none⟩, none), (⟨(some 44), (.ld 1 false (.t 43)), none⟩, none), (⟨(some 45), (.fldA 0 (.t 5)), none⟩, none), (⟨(some 46), (.ld 1 false (.t 45)), none⟩, none), (⟨(some 47), (.fldA 1 (.t 5)), none⟩, none), (⟨(some 48), (.ld 1 false (.t 47)), none⟩, none), (⟨(some 49), (.fldA 2 (.t 5)), none⟩, none), (⟨(some 50), (.ld 1 false (.t 49)), none⟩, none), (⟨(some 52), (.fldA 3 (.t 5)), none⟩, none), (⟨(some 53), (.ld 1 false (.t 52)), none⟩, none), (⟨(some 51), (.call (.c (.fn 80 [] [])) [(.t 50)]), none⟩, (some [50])), (⟨(some 54), (.bld [(.int .i64 (0)), (.str []), .emp, (.str []), (.int .i64 (0)), .emp] [(0, (1, (.t 46))), (1, (1, (.t 48))), (2, (1, (.t 51))), (3, (1, (.t 53))), (4, (1, (.c (.int .i64 (-1)))))]), none⟩, none), (⟨(some 55), (.bldF 43 6 [(.t 54)]), none⟩, none), (⟨(some 56), (.app 43 6 96 (.t 44) (.t 55)), none⟩, (some [44, 46, 48, 53, 50])), (⟨(some 57), (.fldA 0 (.t 39)), none⟩, none), (⟨(some 58), (.fldA 0 (.t 57)), none⟩, none), (⟨(some 59), (.fldA 0 (.t 58)), none⟩, none), (⟨none, (.st 1 (.t 59) (.t 56)), none⟩, (some [44, 46, 48, 53, 50]))]) (.seq (.reg [⟨(some 4), (.mv (.c (.int .i64 (0)))), none⟩]) .ret)))))))), [(.tmp 4)]⟩
theorem hc164 : toSF Tryd.prog {pure := [100]} Tryd.f164 = some c164 := by kernel_rfl
theorem hn164 : (Tryd.f164.name == "runtime.NumGoroutine") = false := by kernel_rfl
theorem emake_ok {h0 h : Heap} {re rN : Nat} {d : HDoc} {sl : Nat → AVal} {made : Int} (E : Ed h0 h re rN d sl made) (hl200 : d.nodes.length ≤ 200) (e : HEdit) (he : EditSm e) (hdo : e.do' = 4) : DCalls (Pg G) 164 [.vp re 0, .agg (eEdit e)] h (EdR h0 h re d e made) := by
  have gN := E.dw.nodes
  have gE := E.ed
  have ner := E.ne
  have hO := one_ok' (G := G) e.node he.node
  unfold eNode at hO
  have eE : editE d e = if e.node.kids ≠ [] then 3 else if e.node.kind = 1 then 7 else if nodeE e.node ≠ 0 then nodeE e.node else if d.nodes.length = 200 then 2 else 0 := by unfold editE; rw [if_neg (by omega), if_neg (by omega), if_neg (by omega), if_pos hdo]
  have eD : editD d e = addN d (madeM e.node) := by unfold editD; rw [if_neg (by omega), if_neg (by omega), if_neg (by omega), if_pos hdo]
  have hm4 : (d.nodes.length : Int) = if e.do' = 4 then (d.nodes.length : Int) else made := by rw [if_pos hdo]
  have rl := rowsA_len d sl
  refine dcalls_of_vc Tryd.func164 hn164 hc164 (by rw [Tryd.ntmps164]; simp) (by rw [Tryd.ntmps164]; decide) ?_
  simp -dsimp -implicitDefEqProofs (disch := omega) only [VCA, pg_gl, ↓upd_none, Nat.reduceEqDiff, Nat.reduceBEq, Nat.reduceAdd, Nat.reduceSub, Nat.reduceMul, Nat.reduceLT, Nat.reduceLeDiff, ↓reduceIte, reduceCtorEq, rsOf, rootsOf, SOp.rd, SI.rd, SX.rd, rdL, rdO, rdP, okParts, eqCells, okEqCells, fillA, okFill, setAt, implies_true, forall_const, forall_eq, ne_eq, exists_eq_right_right, exists_eq_right, exists_eq_left, exists_eq_left', eInt, eBool, lit_eq, c164, eEdit]
  intro r5 hr5
  have n5 : ¬ re = r5 := fun h => by rw [← h, gE] at hr5; cases hr5
  have n5N : ¬ rN = r5 := fun h => by rw [← h, gN] at hr5; cases hr5
  have n5' : ¬ r5 = re := fun h => n5 h.symm
  have n5N' : ¬ r5 = rN := fun h => n5N h.symm
  have ner' : ¬ rN = re := fun h => ner h.symm
  have S5 : ∀ x, Sim.Sub h (upd h r5 (some x)) := fun x => (Sub.refl h).upd hr5
  by_cases hk : e.node.kids = []
  · have hk0 : ¬ 0 < e.node.kids.length := by rw [hk]; simp
    rw [if_neg (by simpa using hk)] at eE
    by_cases hk1 : e.node.kind = 1
    · rw [if_pos hk1] at eE
      repeat' (first | ((with_reducible refine Br.dec (fun _ => ?_) (fun _ => ?_)) <;> try (exfalso; omega)) | ((with_reducible refine Br.eq (fun _ => ?_) (fun _ => ?_)) <;> try (exfalso; omega)) | ((with_reducible refine Br.ne (fun _ => ?_) (fun _ => ?_)) <;> try (exfalso; omega)) | ((with_reducible refine brNdec (fun _ => ?_) (fun _ => ?_)) <;> try (exfalso; omega)) | ((with_reducible refine brNeq (fun _ => ?_) (fun _ => ?_)) <;> try (exfalso; omega)) | with_reducible refine Br.intro (fun _ => ?_) (fun _ => ?_) | (with_reducible refine And.intro ?_ ?_; · omega) | simp -dsimp -implicitDefEqProofs (disch := omega) only [VCA, pg_gl, ↓upd_none, Nat.reduceEqDiff, Nat.reduceBEq, Nat.reduceAdd, Nat.reduceSub, Nat.reduceMul, Nat.reduceLT, Nat.reduceLeDiff, ↓reduceIte, reduceCtorEq, rsOf, rootsOf, SOp.rd, SI.rd, SX.rd, rdL, rdO, rdP, okParts, eqCells, okEqCells, fillA, okFill, setAt, implies_true, forall_const, forall_eq, ne_eq, exists_eq_right_right, exists_eq_right, exists_eq_left, exists_eq_left', eInt, eBool, lit_eq, upd_same, n5, n5N])
      all_goals first | (exfalso; omega) | exact ⟨_, S5 _, EdR.bad eE (by decide)⟩
    · rw [if_neg hk1] at eE
      by_cases hz : nodeE e.node = 0
      · rw [if_neg (by simpa using hz)] at eE
        rw [hz] at hO
        by_cases h200 : d.nodes.length = 200
        · rw [if_pos h200] at eE
          repeat' (first | ((with_reducible refine Br.dec (fun _ => ?_) (fun _ => ?_)) <;> try (exfalso; omega)) | ((with_reducible refine Br.eq (fun _ => ?_) (fun _ => ?_)) <;> try (exfalso; omega)) | ((with_reducible refine Br.ne (fun _ => ?_) (fun _ => ?_)) <;> try (exfalso; omega)) | ((with_reducible refine brNdec (fun _ => ?_) (fun _ => ?_)) <;> try (exfalso; omega)) | ((with_reducible refine brNeq (fun _ => ?_) (fun _ => ?_)) <;> try (exfalso; omega)) | with_reducible refine Br.intro (fun _ => ?_) (fun _ => ?_) | (with_reducible apply pcallE.of; · exact hO) | (with_reducible refine And.intro ?_ ?_; · omega) | simp -dsimp -implicitDefEqProofs (disch := omega) only [VCA, pg_gl, ↓upd_none, Nat.reduceEqDiff, Nat.reduceBEq, Nat.reduceAdd, Nat.reduceSub, Nat.reduceMul, Nat.reduceLT, Nat.reduceLeDiff, ↓reduceIte, reduceCtorEq, rsOf, rootsOf, SOp.rd, SI.rd, SX.rd, rdL, rdO, rdP, okParts, eqCells, okEqCells, fillA, okFill, setAt, implies_true, forall_const, forall_eq, ne_eq, exists_eq_right_right, exists_eq_right, exists_eq_left, exists_eq_left', eInt, eBool, lit_eq, upd_same, n5, n5N, gE])
          all_goals first | (exfalso; omega) | exact ⟨_, S5 _, EdR.bad eE (by decide)⟩
        · rw [if_neg h200] at eE
          have hC := fun (hp : Heap) => cloneA_own (G := G) (h := hp) e.node.attrs he.node.attrs
          repeat' (first | ((with_reducible refine Br.dec (fun _ => ?_) (fun _ => ?_)) <;> try (exfalso; omega)) | ((with_reducible refine Br.eq (fun _ => ?_) (fun _ => ?_)) <;> try (exfalso; omega)) | ((with_reducible refine Br.ne (fun _ => ?_) (fun _ => ?_)) <;> try (exfalso; omega)) | ((with_reducible refine brNdec (fun _ => ?_) (fun _ => ?_)) <;> try (exfalso; omega)) | ((with_reducible refine brNeq (fun _ => ?_) (fun _ => ?_)) <;> try (exfalso; omega)) | with_reducible refine Br.intro (fun _ => ?_) (fun _ => ?_) | (with_reducible apply pcallE.of; · exact hO) | (with_reducible refine And.intro ?_ ?_; · omega) | simp -dsimp -implicitDefEqProofs (disch := omega) only [VCA, pg_gl, ↓upd_none, Nat.reduceEqDiff, Nat.reduceBEq, Nat.reduceAdd, Nat.reduceSub, Nat.reduceMul, Nat.reduceLT, Nat.reduceLeDiff, ↓reduceIte, reduceCtorEq, rsOf, rootsOf, SOp.rd, SI.rd, SX.rd, rdL, rdO, rdP, okParts, eqCells, okEqCells, fillA, okFill, setAt, implies_true, forall_const, forall_eq, ne_eq, exists_eq_right_right, exists_eq_right, exists_eq_left, exists_eq_left', eInt, eBool, lit_eq, upd_same, n5, n5', n5N, n5N', gE])
          all_goals try (exfalso; omega)
          refine DCalls.of (hC _) ?_
          rintro a h9 ⟨A9, S9⟩
          have gE9 := S9 re _ (upd_same _ _ _)
          have gN9 := S9 rN ⟨43, 6, rowsA d sl⟩ (by simp [upd, ner', n5N, gN])
          have g59 := S9 r5 ⟨43, 6, [[aInt e.node.kind, .str e.node.name, Sim.sl eAttr e.node.attrs, .str e.node.text, aInt e.node.parent, Sim.sl eInt e.node.kids]]⟩ (by simp [upd, n5'])
          obtain ⟨O9, f9, M9⟩ := OwnS.of_acc A9
          obtain ⟨v9, c9⟩ := O9.isV
          repeat' (first | ((with_reducible refine Br.dec (fun _ => ?_) (fun _ => ?_)) <;> try (exfalso; omega)) | ((with_reducible refine Br.eq (fun _ => ?_) (fun _ => ?_)) <;> try (exfalso; omega)) | ((with_reducible refine Br.ne (fun _ => ?_) (fun _ => ?_)) <;> try (exfalso; omega)) | ((with_reducible refine brNdec (fun _ => ?_) (fun _ => ?_)) <;> try (exfalso; omega)) | ((with_reducible refine brNeq (fun _ => ?_) (fun _ => ?_)) <;> try (exfalso; omega)) | with_reducible refine Br.intro (fun _ => ?_) (fun _ => ?_) | (with_reducible refine And.intro ?_ ?_; · omega) | simp -dsimp -implicitDefEqProofs (disch := omega) only [VCA, pg_gl, ↓upd_none, Nat.reduceEqDiff, Nat.reduceBEq, Nat.reduceAdd, Nat.reduceSub, Nat.reduceMul, Nat.reduceLT, Nat.reduceLeDiff, ↓reduceIte, reduceCtorEq, rsOf, rootsOf, SOp.rd, SI.rd, SX.rd, rdL, rdO, rdP, okParts, eqCells, okEqCells, fillA, okFill, setAt, implies_true, forall_const, forall_eq, ne_eq, exists_eq_right_right, exists_eq_right, exists_eq_left, exists_eq_left', eInt, eBool, lit_eq, upd_same, n5, n5', n5N, n5N', ner, ner', gE9, gN9, g59, v9, c9])
          intro r' hr'
          have fr' : r' = rN ∨ h9 r' = none := by
            unfold del at hr'
            split at hr'
            · rename_i h1; exact .inl h1
            · exact .inr hr'
          have nre : ¬ re = r' := fun h1 => by
            rcases fr' with h2 | h2
            · exact ner (h1.trans h2)
            · rw [← h1, gE9] at h2; cases h2
          have nre' : ¬ r' = re := fun h1 => nre h1.symm
          have dE : del h9 rN re = some ⟨147, 3, [[.osl rN 6 0 d.nodes.length, .bool d.quirks, aInt d.nodes.length]]⟩ := by
            unfold del; rw [if_neg ner, gE9]
          repeat' (first | ((with_reducible refine Br.dec (fun _ => ?_) (fun _ => ?_)) <;> try (exfalso; omega)) | ((with_reducible refine Br.eq (fun _ => ?_) (fun _ => ?_)) <;> try (exfalso; omega)) | ((with_reducible refine Br.ne (fun _ => ?_) (fun _ => ?_)) <;> try (exfalso; omega)) | ((with_reducible refine brNdec (fun _ => ?_) (fun _ => ?_)) <;> try (exfalso; omega)) | ((with_reducible refine brNeq (fun _ => ?_) (fun _ => ?_)) <;> try (exfalso; omega)) | with_reducible refine Br.intro (fun _ => ?_) (fun _ => ?_) | (with_reducible refine And.intro ?_ ?_; · omega) | simp -dsimp -implicitDefEqProofs (disch := omega) only [VCA, pg_gl, ↓upd_none, Nat.reduceEqDiff, Nat.reduceBEq, Nat.reduceAdd, Nat.reduceSub, Nat.reduceMul, Nat.reduceLT, Nat.reduceLeDiff, ↓reduceIte, reduceCtorEq, rsOf, rootsOf, SOp.rd, SI.rd, SX.rd, rdL, rdO, rdP, okParts, eqCells, okEqCells, fillA, okFill, setAt, implies_true, forall_const, forall_eq, ne_eq, exists_eq_right_right, exists_eq_right, exists_eq_left, exists_eq_left', eInt, eBool, lit_eq, upd_same, nre, nre', dE])
          have X0 : ∀ (x y : AObj) t, upd (upd h r5 (some x)) re (some y) t = none → h t = none ∧ t ≠ re ∧ t ≠ r5 := fun x y t ht => by
            unfold upd at ht
            split at ht
            · cases ht
            · rename_i h1
              split at ht
              · cases ht
              · rename_i h2; exact ⟨ht, h1, h2⟩
          have ra : ∀ t, rootOf a = some t → h t = none ∧ t ≠ re ∧ t ≠ r5 ∧ t ≠ rN ∧ t ≠ r' := fun t ht => by
            obtain ⟨x1, x2, x3⟩ := X0 _ _ t (f9 t ht)
            refine ⟨x1, x2, x3, (fun e => by rw [e, gN] at x1; cases x1), fun e => ?_⟩
            rcases fr' with h2 | h2
            · rw [e, h2, gN] at x1; cases x1
            · obtain ⟨o, ho⟩ := O9.root ht
              rw [e, h2] at ho; cases ho
          refine ⟨_, Sub.refl _, EdR.good eE hm4 (by
            rw [eD]
            refine E.add (rN' := r') (a' := a) (x := madeM e.node) rfl ?_ ?_ (fun t o ho h1 h2 => ?_) (O9.keep fun t o ht ho => ?_) M9 (fun t ht => ⟨(ra t ht).1, (ra t ht).2.2.2.2⟩) ?_
            · rw [upd_ne _ _ nre', upd_same, List.take_of_length_le (by rw [rl]; exact Nat.le_refl _)]; rfl
            · exact upd_same _ _ _
            · have h5 : t ≠ r5 := fun e => by rw [e, hr5] at ho; cases ho
              have h9t := S9 t o (by rw [upd_ne _ _ h2, upd_ne _ _ h5]; exact ho)
              rw [upd_ne _ _ h2, upd_ne _ _ (fun e => by
                rcases fr' with h3 | h3
                · exact h1 (e.trans h3)
                · rw [e, h3] at h9t; cases h9t)]
              unfold del; rw [if_neg h1]; exact h9t
            · obtain ⟨y1, y2, y3, y4, y5⟩ := ra t ht
              rw [upd_ne _ _ y2, upd_ne _ _ y5]
              unfold del; rw [if_neg y4]; exact ho
            · rcases fr' with h2 | h2
              · exact .inl h2
              · exact .inr (X0 _ _ r' (S9.none h2)).1)⟩
      · rw [if_pos hz] at eE
        repeat' (first | ((with_reducible refine Br.dec (fun _ => ?_) (fun _ => ?_)) <;> try (exfalso; omega)) | ((with_reducible refine Br.eq (fun _ => ?_) (fun _ => ?_)) <;> try (exfalso; omega)) | ((with_reducible refine Br.ne (fun _ => ?_) (fun _ => ?_)) <;> try (exfalso; omega)) | ((with_reducible refine brNdec (fun _ => ?_) (fun _ => ?_)) <;> try (exfalso; omega)) | ((with_reducible refine brNeq (fun _ => ?_) (fun _ => ?_)) <;> try (exfalso; omega)) | with_reducible refine Br.intro (fun _ => ?_) (fun _ => ?_) | (with_reducible apply pcallE.of; · exact hO) | (with_reducible refine And.intro ?_ ?_; · omega) | simp -dsimp -implicitDefEqProofs (disch := omega) only [VCA, pg_gl, ↓upd_none, Nat.reduceEqDiff, Nat.reduceBEq, Nat.reduceAdd, Nat.reduceSub, Nat.reduceMul, Nat.reduceLT, Nat.reduceLeDiff, ↓reduceIte, reduceCtorEq, rsOf, rootsOf, SOp.rd, SI.rd, SX.rd, rdL, rdO, rdP, okParts, eqCells, okEqCells, fillA, okFill, setAt, implies_true, forall_const, forall_eq, ne_eq, exists_eq_right_right, exists_eq_right, exists_eq_left, exists_eq_left', eInt, eBool, lit_eq, upd_same, n5, n5N, hz])
        all_goals first | (exfalso; omega) | exact ⟨_, S5 _, EdR.bad eE hz⟩
  · have hk0 : 0 < e.node.kids.length := List.length_pos_iff.2 hk
    rw [if_pos hk] at eE
    repeat' (first | ((with_reducible refine Br.dec (fun _ => ?_) (fun _ => ?_)) <;> try (exfalso; omega)) | ((with_reducible refine Br.eq (fun _ => ?_) (fun _ => ?_)) <;> try (exfalso; omega)) | ((with_reducible refine Br.ne (fun _ => ?_) (fun _ => ?_)) <;> try (exfalso; omega)) | ((with_reducible refine brNdec (fun _ => ?_) (fun _ => ?_)) <;> try (exfalso; omega)) | ((with_reducible refine brNeq (fun _ => ?_) (fun _ => ?_)) <;> try (exfalso; omega)) | with_reducible refine Br.intro (fun _ => ?_) (fun _ => ?_) | (with_reducible refine And.intro ?_ ?_; · omega) | simp -dsimp -implicitDefEqProofs (disch := omega) only [VCA, pg_gl, ↓upd_none, Nat.reduceEqDiff, Nat.reduceBEq, Nat.reduceAdd, Nat.reduceSub, Nat.reduceMul, Nat.reduceLT, Nat.reduceLeDiff, ↓reduceIte, reduceCtorEq, rsOf, rootsOf, SOp.rd, SI.rd, SX.rd, rdL, rdO, rdP, okParts, eqCells, okEqCells, fillA, okFill, setAt, implies_true, forall_const, forall_eq, ne_eq, exists_eq_right_right, exists_eq_right, exists_eq_left, exists_eq_left', eInt, eBool, lit_eq, upd_same, n5, n5N])
    all_goals first | (exfalso; omega) | exact ⟨_, S5 _, EdR.bad eE (by decide)⟩
end Go.Proofs.K
end
section
/- The editor: does, edit. -/
set_option linter.unusedSimpArgs false
set_option linter.unusedVariables false
namespace Go.Proofs.K
open Go Go.Sim Go.Proofs
variable {G : Glob}
def doesF (re : Nat) (n : Int) : AVal :=
  if n = 1 then .fn 161 [.vp re 0] [] else if n = 2 then .fn 162 [.vp re 0] [] else if n = 3 then .fn 163 [.vp re 0] []
  else if n = 4 then .fn 164 [.vp re 0] [] else if n = 5 then .fn 165 [.vp re 0] [] else if n = 6 then .fn 166 [.vp re 0] [] else .prim .nilFunc
def c140 : SFun := ⟨(.seq (.reg [⟨(some 4), (.mv (.c (.prim .nilFunc))), none⟩]) (.seq (.seq (.reg [⟨(some 5), (.mv (.t 1)), none⟩]) (.block 0 (.seq (.reg [⟨(some 7), (.bin .eql (.t 5) (.c (.int .i64 (1)))), none⟩, ⟨(some 6), (.mv (.t 7)), none⟩]) (.cond (.t 6) (.seq (.reg [⟨(some 8), (.mv (.t 0)), none⟩, ⟨(some 9), (.mkf 161 [(.t 8)] []), none⟩, ⟨(some 4), (.mv (.t 9)), none⟩]) .ret) (.seq (.reg [⟨(some 11), (.bin .eql (.t 5) (.c (.int .i64 (2)))), none⟩, ⟨(some 10), (.mv (.t 11)), none⟩]) (.cond (.t 10) (.seq (.reg [⟨(some 12), (.mv (.t 0)), none⟩, ⟨(some 13), (.mkf 162 [(.t 12)] []), none⟩, ⟨(some 4), (.mv (.t 13)), none⟩]) .ret) (.seq (.reg [⟨(some 15), (.bin .eql (.t 5) (.c (.int .i64 (3)))), none⟩, ⟨(some 14), (.mv (.t 15)), none⟩]) (.cond (.t 14) (.seq (.reg [⟨(some 16), (.mv (.t 0)), none⟩, ⟨(some 17), (.mkf 163 [(.t 16)] []), none⟩, ⟨(some 4), (.mv (.t 17)), none⟩]) .ret) (.seq (.reg [⟨(some 19), (.bin .eql (.t 5) (.c (.int .i64 (4)))), none⟩, ⟨(some 18), (.mv (.t 19)), none⟩]) (.cond (.t 18) (.seq (.reg [⟨(some 20), (.mv (.t 0)), none⟩, ⟨(some 21), (.mkf 164 [(.t 20)] []), none⟩, ⟨(some 4), (.mv (.t 21)), none⟩]) .ret) (.seq (.reg [⟨(some 23), (.bin .eql (.t 5) (.c (.int .i64 (5)))), none⟩, ⟨(some 22), (.mv (.t 23)), none⟩]) (.cond (.t 22) (.seq (.reg [⟨(some 24), (.mv (.t 0)), none⟩, ⟨(some 25), (.mkf 165 [(.t 24)] []), none⟩, ⟨(some 4), (.mv (.t 25)), none⟩]) .ret) (.seq (.reg [⟨(some 27), (.bin .eql (.t 5) (.c (.int .i64 (6)))), none⟩, ⟨(some 26), (.mv (.t 27)), none⟩]) (.cond (.t 26) (.seq (.reg [⟨(some 28), (.mv (.t 0)), none⟩, ⟨(some 29), (.mkf 166 [(.t 28)] []), none⟩, ⟨(some 4), (.mv (.t 29)), none⟩]) .ret) .skip)))))))))))))) (.seq (.reg [⟨(some 4), (.mv (.c (.prim .nilFunc))), none⟩]) .ret))), [(.tmp 4)]⟩
theorem hc140 : toSF Tryd.prog {} Tryd.f140 = some c140 := by kernel_rfl
theorem hn140 : (Tryd.f140.name == "runtime.NumGoroutine") = false := by kernel_rfl
theorem edoes_ok (h : Heap) (re : Nat) (n : Int) : DCalls (Pg G) 140 [.vp re 0, aInt n] h fun r h' => r = doesF re n ∧ h' = h := by
  refine dcalls_of_vc Tryd.func140 hn140 hc140 (by rw [Tryd.ntmps140]; simp) (by rw [Tryd.ntmps140]; decide) ?_
  simp -dsimp -implicitDefEqProofs (disch := omega) only [VCA, pg_gl, ↓upd_none, Nat.reduceEqDiff, Nat.reduceBEq, Nat.reduceAdd, Nat.reduceSub, Nat.reduceMul, Nat.reduceLT, Nat.reduceLeDiff, ↓reduceIte, reduceCtorEq, rsOf, rootsOf, SOp.rd, SI.rd, SX.rd, rdL, rdO, rdP, okParts, eqCells, okEqCells, fillA, okFill, setAt, implies_true, forall_const, forall_eq, ne_eq, exists_eq_right_right, exists_eq_right, exists_eq_left, exists_eq_left', eInt, eBool, lit_eq, c140]
  unfold doesF
  repeat' (first | ((with_reducible refine Br.dec (fun _ => ?_) (fun _ => ?_)) <;> try (exfalso; omega)) | ((with_reducible refine Br.eq (fun _ => ?_) (fun _ => ?_)) <;> try (exfalso; omega)) | ((with_reducible refine Br.ne (fun _ => ?_) (fun _ => ?_)) <;> try (exfalso; omega)) | ((with_reducible refine brNdec (fun _ => ?_) (fun _ => ?_)) <;> try (exfalso; omega)) | ((with_reducible refine brNeq (fun _ => ?_) (fun _ => ?_)) <;> try (exfalso; omega)) | with_reducible refine Br.intro (fun _ => ?_) (fun _ => ?_) | (with_reducible refine And.intro ?_ ?_; · omega) | simp -dsimp -implicitDefEqProofs (disch := omega) only [VCA, pg_gl, ↓upd_none, Nat.reduceEqDiff, Nat.reduceBEq, Nat.reduceAdd, Nat.reduceSub, Nat.reduceMul, Nat.reduceLT, Nat.reduceLeDiff, ↓reduceIte, reduceCtorEq, rsOf, rootsOf, SOp.rd, SI.rd, SX.rd, rdL, rdO, rdP, okParts, eqCells, okEqCells, fillA, okFill, setAt, implies_true, forall_const, forall_eq, ne_eq, exists_eq_right_right, exists_eq_right, exists_eq_left, exists_eq_left', eInt, eBool, lit_eq])
  all_goals first
    | (refine ⟨Sub.refl _, ?_⟩; simp_all; done)
    | (simp_all; done)
    | trace_state
def c105 : SFun := ⟨(.seq (.reg [⟨(some 3), (.boxF 87 12 (.t 1)), none⟩, ⟨(some 4), (.mv (.c (.int .i64 (0)))), none⟩]) (.seq (.reg [⟨(some 6), (.mv (.t 0)), none⟩, ⟨(some 7), (.fldA 0 (.t 3)), none⟩, ⟨(some 8), (.ld 1 false (.t 7)), none⟩, ⟨(some 9), (.call (.c (.fn 140 [] [])) [(.t 6), (.t 8)]), none⟩, ⟨(some 5), (.mv (.t 9)), none⟩]) (.seq (.seq (.reg [⟨(some 10), (.mv (.t 5)), none⟩, ⟨(some 11), (.isnil 2 false (.t 10)), none⟩]) (.cond (.t 11) (.seq (.reg [⟨(some 4), (.mv (.c (.int .i64 (1)))), none⟩]) .ret) .skip)) (.seq (.reg [⟨(some 12), (.mv (.t 5)), none⟩, ⟨(some 13), (.ld 12 true (.t 3)), none⟩, ⟨(some 14), (.call (.t 12) [(.t 13)]), none⟩, ⟨(some 4), (.mv (.t 14)), none⟩]) .ret)))), [(.tmp 4)]⟩
theorem hc105 : toSF Tryd.prog {} Tryd.f105 = some c105 := by kernel_rfl
theorem hn105 : (Tryd.f105.name == "runtime.NumGoroutine") = false := by kernel_rfl
theorem eedit_ok {h0 h : Heap} {re rN : Nat} {d : HDoc} {sl : Nat → AVal} {made : Int} (E : Ed h0 h re rN d sl made) (V : DV d) (sm : DocSm d) (e : HEdit) (he : EditSm e) : DCalls (Pg G) 105 [.vp re 0, .agg (eEdit e)] h (EdR h0 h re d e made) := by
  have hD := edoes_ok (G := G) h re e.do'
  have a12 : ∀ n, inD d n → (nd d n).attrs.length ≤ 12 := fun n hn => ((attrsE_iff _).1 ((nodeE_iff _).1 (V.node n hn)).2.2.2.1).1
  have key : ∀ f, DCalls (Pg G) f [.vp re 0, .agg (eEdit e)] h (EdR h0 h re d e made) → doesF re e.do' = .fn f [.vp re 0] [] → DCalls (Pg G) 105 [.vp re 0, .agg (eEdit e)] h (EdR h0 h re d e made) := fun f hf hd => by
    rw [hd] at hD
    unfold eEdit at hf
    refine dcalls_of_vc Tryd.func105 hn105 hc105 (by rw [Tryd.ntmps105]; simp) (by rw [Tryd.ntmps105]; decide) ?_
    simp -dsimp -implicitDefEqProofs (disch := omega) only [VCA, pg_gl, ↓upd_none, Nat.reduceEqDiff, Nat.reduceBEq, Nat.reduceAdd, Nat.reduceSub, Nat.reduceMul, Nat.reduceLT, Nat.reduceLeDiff, ↓reduceIte, reduceCtorEq, rsOf, rootsOf, SOp.rd, SI.rd, SX.rd, rdL, rdO, rdP, okParts, eqCells, okEqCells, fillA, okFill, setAt, implies_true, forall_const, forall_eq, ne_eq, exists_eq_right_right, exists_eq_right, exists_eq_left, exists_eq_left', eInt, eBool, lit_eq, c105, eEdit]
    refine DCalls.of hD ?_
    rintro _ _ ⟨rfl, rfl⟩
    simp -dsimp -implicitDefEqProofs (disch := omega) only [VCA, pg_gl, ↓upd_none, Nat.reduceEqDiff, Nat.reduceBEq, Nat.reduceAdd, Nat.reduceSub, Nat.reduceMul, Nat.reduceLT, Nat.reduceLeDiff, ↓reduceIte, reduceCtorEq, rsOf, rootsOf, SOp.rd, SI.rd, SX.rd, rdL, rdO, rdP, okParts, eqCells, okEqCells, fillA, okFill, setAt, implies_true, forall_const, forall_eq, ne_eq, exists_eq_right_right, exists_eq_right, exists_eq_left, exists_eq_left', eInt, eBool, lit_eq, eEdit]
    refine DCalls.of hf ?_
    intro r h9 hr
    simp -dsimp -implicitDefEqProofs (disch := omega) only [VCA, pg_gl, ↓upd_none, Nat.reduceEqDiff, Nat.reduceBEq, Nat.reduceAdd, Nat.reduceSub, Nat.reduceMul, Nat.reduceLT, Nat.reduceLeDiff, ↓reduceIte, reduceCtorEq, rsOf, rootsOf, SOp.rd, SI.rd, SX.rd, rdL, rdO, rdP, okParts, eqCells, okEqCells, fillA, okFill, setAt, implies_true, forall_const, forall_eq, ne_eq, exists_eq_right_right, exists_eq_right, exists_eq_left, exists_eq_left', eInt, eBool, lit_eq]
    exact ⟨_, Sub.refl _, hr⟩
  by_cases h1 : e.do' = 1
  · exact key _ (eattr_ok E sm a12 e he h1) (by unfold doesF; rw [if_pos h1])
  by_cases h2 : e.do' = 2
  · exact key _ (edrop_ok E sm e he h2) (by unfold doesF; rw [if_neg h1, if_pos h2])
  by_cases h3 : e.do' = 3
  · exact key _ (etext_ok E e he h3) (by unfold doesF; rw [if_neg h1, if_neg h2, if_pos h3])
  by_cases h4 : e.do' = 4
  · exact key _ (emake_ok E V.len e he h4) (by unfold doesF; rw [if_neg h1, if_neg h2, if_neg h3, if_pos h4])
  by_cases h5 : e.do' = 5
  · exact key _ (einsert_ok E V sm e he h5) (by unfold doesF; rw [if_neg h1, if_neg h2, if_neg h3, if_neg h4, if_pos h5])
  by_cases h6 : e.do' = 6
  · exact key _ (eremove_ok E V sm e he h6) (by unfold doesF; rw [if_neg h1, if_neg h2, if_neg h3, if_neg h4, if_neg h5, if_pos h6])
  have hd : doesF re e.do' = .prim .nilFunc := by unfold doesF; rw [if_neg h1, if_neg h2, if_neg h3, if_neg h4, if_neg h5, if_neg h6]
  have eE : editE d e = 1 := by unfold editE; rw [if_neg h1, if_neg h2, if_neg h3, if_neg h4, if_neg h5, if_neg h6]
  rw [hd] at hD
  refine dcalls_of_vc Tryd.func105 hn105 hc105 (by rw [Tryd.ntmps105]; simp) (by rw [Tryd.ntmps105]; decide) ?_
  simp -dsimp -implicitDefEqProofs (disch := omega) only [VCA, pg_gl, ↓upd_none, Nat.reduceEqDiff, Nat.reduceBEq, Nat.reduceAdd, Nat.reduceSub, Nat.reduceMul, Nat.reduceLT, Nat.reduceLeDiff, ↓reduceIte, reduceCtorEq, rsOf, rootsOf, SOp.rd, SI.rd, SX.rd, rdL, rdO, rdP, okParts, eqCells, okEqCells, fillA, okFill, setAt, implies_true, forall_const, forall_eq, ne_eq, exists_eq_right_right, exists_eq_right, exists_eq_left, exists_eq_left', eInt, eBool, lit_eq, c105, eEdit]
  refine DCalls.of hD ?_
  rintro _ _ ⟨rfl, rfl⟩
  simp -dsimp -implicitDefEqProofs (disch := omega) only [VCA, pg_gl, ↓upd_none, Nat.reduceEqDiff, Nat.reduceBEq, Nat.reduceAdd, Nat.reduceSub, Nat.reduceMul, Nat.reduceLT, Nat.reduceLeDiff, ↓reduceIte, reduceCtorEq, rsOf, rootsOf, SOp.rd, SI.rd, SX.rd, rdL, rdO, rdP, okParts, eqCells, okEqCells, fillA, okFill, setAt, implies_true, forall_const, forall_eq, ne_eq, exists_eq_right_right, exists_eq_right, exists_eq_left, exists_eq_left', eInt, eBool, lit_eq, eEdit]
  all_goals trace_state
  all_goals exact ⟨_, Sub.refl _, EdR.bad eE (by decide)⟩
end Go.Proofs.K
end
section
/- Ways through a tree: check, Step; the reference. -/
set_option linter.unusedSimpArgs false
set_option linter.unusedVariables false
namespace Go.Proofs.K
open Go Go.Sim Go.Proofs
variable {G : Glob}
theorem eDoc_len (d : HDoc) : (eDoc d).length = 2 := rfl
theorem eDoc_take (d : HDoc) : (eDoc d).take 2 = eDoc d := rfl
theorem docE_DV {d : HDoc} (h : docE d = 0) : DV d := (docE_iff d).1 h
end Go.Proofs.K
end
section
/- dom.Apply, dom.New. -/
set_option linter.unusedSimpArgs false
set_option linter.unusedVariables false
namespace Go.Proofs.K
open Go Go.Sim Go.Proofs
variable {G : Glob}
theorem eDoc_dr (d : HDoc) : (eDoc d).drop 2 = [] := rfl
def noDoc : HDoc := ⟨[], false⟩
def applyE (d : HDoc) (e : HEdit) : Int := if docE d ≠ 0 then docE d else editE d e
def applyD (d : HDoc) (e : HEdit) : HDoc := if applyE d e = 0 then editD d e else noDoc
def applyN (d : HDoc) (e : HEdit) : Int := if applyE d e = 0 then editN d e else 0
theorem Dw.new' {X : List Nat} {h0 h : Heap} {rN : Nat} {d : HDoc} {sl : Nat → AVal} (E : Dw X h0 h rN d sl) : Dw [] (fun _ => none) (newH h0 h) rN d sl :=
  ⟨(fun t o ht => by cases ht), by rw [newH_none E.new.1]; exact E.nodes, ⟨rfl, by simp⟩, fun i hi => ⟨(E.own i hi).1.keep fun r o hr ho => by rw [newH_none (E.fresh _ (by omega) r hr).1]; exact ho, (E.own i hi).2.keep fun r o hr ho => by rw [newH_none (E.fresh _ (by omega) r hr).1]; exact ho⟩,
    fun k hk r hr => ⟨rfl, (E.fresh k hk r hr).2.1, by simp⟩, E.sep, fun r hr => by cases hr⟩
theorem Dw.base {X : List Nat} {h0 h00 h : Heap} {rN : Nat} {d : HDoc} {sl : Nat → AVal} (E : Dw X h0 h rN d sl) (S : Sim.Sub h00 h0) : Dw X h00 h rN d sl :=
  ⟨S.trans E.sub, E.nodes, ⟨S.none E.new.1, E.new.2⟩, E.own, fun k hk r hr => ⟨S.none (E.fresh k hk r hr).1, (E.fresh k hk r hr).2⟩, E.sep, E.keep⟩
/-- a root that was there before is changed -/
theorem Dw.beside {X : List Nat} {h0 h00 h : Heap} {rN r : Nat} {d : HDoc} {sl : Nat → AVal} {x : AObj} (E : Dw X h0 h rN d sl) (S : Sim.Sub h00 h0) (h1 : h0 r = some x) (h2 : h00 r = none) (hX : r ∉ X) (y : AObj) : Dw X h00 (upd h r (some y)) rN d sl := by
  have ne : ∀ t, h0 t = none → t ≠ r := fun t ht e => by rw [e, h1] at ht; cases ht
  refine ⟨(S.trans E.sub).upd h2, by rw [upd_ne _ _ (ne _ E.new.1)]; exact E.nodes, ⟨S.none E.new.1, E.new.2⟩, fun i hi => ?_, fun k hk t ht => ⟨S.none (E.fresh k hk t ht).1, (E.fresh k hk t ht).2⟩, E.sep, fun t ht => ?_⟩
  · obtain ⟨g1, g2⟩ := E.own i hi
    exact ⟨g1.keep fun t o ht ho => by rw [upd_ne _ _ (ne t (E.fresh _ (by omega) t ht).1)]; exact ho, g2.keep fun t o ht ho => by rw [upd_ne _ _ (ne t (E.fresh _ (by omega) t ht).1)]; exact ho⟩
  · obtain ⟨o, ho⟩ := E.keep t ht
    exact ⟨o, by rw [upd_ne _ _ (fun e => hX (by rw [← e]; exact ht))]; exact ho⟩
/-- the editor, made of a document -/
theorem Ed.begin {h h1 : Heap} {rN re : Nat} {d : HDoc} {sl : Nat → AVal} (E : Dw [] h h1 rN d sl) (M : ∀ k, k < 2 * d.nodes.length → Mut (sl k)) (hr : h1 re = none) :
    Ed h (upd h1 re (some ⟨147, 3, [[.osl rN 6 0 d.nodes.length, .bool d.quirks, aInt 0]]⟩)) re rN d sl 0 := ⟨E.more hr _, upd_same _ _ _, E.sub.none hr, M⟩
theorem vw_noDoc (h : Heap) : Vw h (.agg [.emp, .bool false]) (.agg (eDoc noDoc)) := Vw.agg' (.cons .emp (.cons (.refl _) .nil))
theorem editN_made (d : HDoc) (e : HEdit) : (if e.do' = 4 then (d.nodes.length : Int) else 0) = editN d e := rfl
def c55 : SFun := ⟨(.seq (.reg [⟨(some 2), (.boxF 24 2 (.t 0)), none⟩, ⟨(some 3), (.boxF 87 12 (.t 1)), none⟩, ⟨(some 4), (.new 24 2 [.emp, (.bool false)]), none⟩, ⟨(some 5), (.mv (.c (.int .i64 (0)))), none⟩, ⟨(some 6), (.mv (.c (.int .i64 (0)))), none⟩]) (.seq (.seq (.reg [⟨(some 10), (.ld 2 true (.t 2)), none⟩, ⟨(some 11), (.pcall 52 [(.t 10)]), none⟩, ⟨(some 7), (.mv (.t 11)), none⟩]) (.seq (.reg [⟨(some 12), (.mv (.t 7)), none⟩, ⟨(some 13), (.bin .neq (.t 12) (.c (.int .i64 (0)))), none⟩]) (.cond (.t 13) (.seq (.reg [⟨(some 14), (.bld [.emp, (.bool false)] []), none⟩, ⟨(some 15), (.mv (.t 7)), none⟩, ⟨none, (.st 2 (.t 4) (.t 14)), none⟩, ⟨(some 5), (.mv (.c (.int .i64 (0)))), none⟩, ⟨(some 6), (.mv (.t 15)), none⟩]) .ret) .skip))) (.seq (.reg [⟨(some 16), (.ld 2 true (.t 2)), none⟩, ⟨(some 17), (.call (.c (.fn 104 [] [])) [(.t 16)]), none⟩, ⟨(some 18), (.bld [.emp, (.bool false), (.int .i64 (0))] [(0, (2, (.t 17)))]), none⟩, ⟨(some 19), (.box 147 3 (.t 18)), none⟩, ⟨(some 8), (.mv (.t 19)), none⟩]) (.seq (.seq (.reg [⟨(some 20), (.mv (.t 8)), none⟩, ⟨(some 21), (.ld 12 true (.t 3)), none⟩, ⟨(some 22), (.call (.c (.fn 105 [] [])) [(.t 20), (.t 21)]), none⟩, ⟨(some 9), (.mv (.t 22)), none⟩]) (.seq (.reg [⟨(some 23), (.mv (.t 9)), none⟩, ⟨(some 24), (.bin .neq (.t 23) (.c (.int .i64 (0)))), none⟩]) (.cond (.t 24) (.seq (.reg [⟨(some 25), (.bld [.emp, (.bool false)] []), none⟩, ⟨(some 26), (.mv (.t 9)), none⟩, ⟨none, (.st 2 (.t 4) (.t 25)), none⟩, ⟨(some 5), (.mv (.c (.int .i64 (0)))), none⟩, ⟨(some 6), (.mv (.t 26)), none⟩]) .ret) .skip))) (.seq (.dreg [(⟨(some 27), (.mv (.t 8)), none⟩, none), (⟨(some 28), (.fldA 0 (.t 27)), none⟩, none), (⟨(some 29), (.fldA 0 (.t 28)), none⟩, none), (⟨(some 30), (.ld 2 true (.t 29)), none⟩, none), (⟨(some 31), (.mv (.t 8)), none⟩, none), (⟨(some 32), (.fldA 0 (.t 31)), none⟩, none), (⟨(some 33), (.fldA 2 (.t 32)), none⟩, none), (⟨(some 34), (.ld 1 false (.t 33)), none⟩, none), (⟨none, (.st 2 (.t 4) (.t 30)), none⟩, (some [30])), (⟨(some 5), (.mv (.t 34)), none⟩, none), (⟨(some 6), (.mv (.c (.int .i64 (0)))), none⟩, none)]) .ret))))), [(.cell 4 2 true), (.tmp 5), (.tmp 6)]⟩
theorem hc55 : toSF Tryd.prog {pure := [52], how := [(19, 6)]} Tryd.f55 = some c55 := by kernel_rfl
theorem hn55 : (Tryd.f55.name == "runtime.NumGoroutine") = false := by kernel_rfl
theorem apply_ok (d : HDoc) (sm : DocSm d) (e : HEdit) (he : EditSm e) : PCalls (Pg G) 55 [.agg (eDoc d), .agg (eEdit e)] (.tup [.agg (eDoc (applyD d e)), aInt (applyN d e), aInt (applyE d e)]) := PCalls.outV fun h => by
  have hC := check_ok (G := G) d sm
  refine dcalls_of_vc Tryd.func55 hn55 hc55 (by rw [Tryd.ntmps55]; simp) (by rw [Tryd.ntmps55]; decide) ?_
  simp -dsimp -implicitDefEqProofs (disch := omega) only [VCA, pg_gl, ↓upd_none, Nat.reduceEqDiff, Nat.reduceBEq, Nat.reduceAdd, Nat.reduceSub, Nat.reduceMul, Nat.reduceLT, Nat.reduceLeDiff, ↓reduceIte, reduceCtorEq, rsOf, rootsOf, SOp.rd, SI.rd, SX.rd, rdL, rdO, rdP, okParts, eqCells, okEqCells, fillA, okFill, setAt, implies_true, forall_const, forall_eq, ne_eq, exists_eq_right_right, exists_eq_right, exists_eq_left, exists_eq_left', eInt, eBool, lit_eq, c55, eDoc_len, eDoc_take, eDoc_dr, eEdit, List.append_nil]
  intro r4 hr4
  have S4 : ∀ x, Sim.Sub h (upd h r4 (some x)) := fun x => (Sub.refl h).upd hr4
  by_cases h1 : docE d = 0
  · have V := docE_DV h1
    have hp := V.pos
    rw [h1] at hC
    have aE : applyE d e = editE d e := by unfold applyE; rw [if_neg (by simpa using h1)]
    have hOwn := fun hp => own_ok' (G := G) d sm V.pos hp
    repeat' (first | ((with_reducible refine Br.dec (fun _ => ?_) (fun _ => ?_)) <;> try (exfalso; omega)) | ((with_reducible refine Br.eq (fun _ => ?_) (fun _ => ?_)) <;> try (exfalso; omega)) | ((with_reducible refine Br.ne (fun _ => ?_) (fun _ => ?_)) <;> try (exfalso; omega)) | ((with_reducible refine brNdec (fun _ => ?_) (fun _ => ?_)) <;> try (exfalso; omega)) | ((with_reducible refine brNeq (fun _ => ?_) (fun _ => ?_)) <;> try (exfalso; omega)) | with_reducible refine Br.intro (fun _ => ?_) (fun _ => ?_) | (with_reducible apply pcallE.of; · exact hC) | (with_reducible refine And.intro ?_ ?_; · omega) | simp -dsimp -implicitDefEqProofs (disch := omega) only [VCA, pg_gl, ↓upd_none, Nat.reduceEqDiff, Nat.reduceBEq, Nat.reduceAdd, Nat.reduceSub, Nat.reduceMul, Nat.reduceLT, Nat.reduceLeDiff, ↓reduceIte, reduceCtorEq, rsOf, rootsOf, SOp.rd, SI.rd, SX.rd, rdL, rdO, rdP, okParts, eqCells, okEqCells, fillA, okFill, setAt, implies_true, forall_const, forall_eq, ne_eq, exists_eq_right_right, exists_eq_right, exists_eq_left, exists_eq_left', eInt, eBool, lit_eq, upd_same, eDoc_len, eDoc_take, eDoc_dr, List.append_nil])
    refine DCalls.of (hOwn _) ?_
    rintro a h2 ⟨rN, sl, rfl, Dw1, M1⟩
    have g4 := Dw1.sub r4 _ (upd_same _ _ _)
    simp -dsimp -implicitDefEqProofs (disch := omega) only [VCA, pg_gl, ↓upd_none, Nat.reduceEqDiff, Nat.reduceBEq, Nat.reduceAdd, Nat.reduceSub, Nat.reduceMul, Nat.reduceLT, Nat.reduceLeDiff, ↓reduceIte, reduceCtorEq, rsOf, rootsOf, SOp.rd, SI.rd, SX.rd, rdL, rdO, rdP, okParts, eqCells, okEqCells, fillA, okFill, setAt, implies_true, forall_const, forall_eq, ne_eq, exists_eq_right_right, exists_eq_right, exists_eq_left, exists_eq_left', eInt, eBool, lit_eq]
    intro re hre
    have n4 : ¬ r4 = re := fun h => by rw [← h, g4] at hre; cases hre
    have n4' : ¬ re = r4 := fun h => n4 h.symm
    have E := Ed.begin Dw1 M1 hre
    have hEd := eedit_ok (G := G) E V sm e he
    unfold eEdit at hEd
    refine DCalls.of hEd ?_
    rintro a h3 ⟨rfl, hR⟩
    rcases hR with ⟨hne, rfl⟩ | ⟨hz, rN', sl', E3⟩
    · rw [← aE] at hne
      have aD : applyD d e = noDoc := by unfold applyD; rw [if_neg hne]
      have aN : applyN d e = 0 := by unfold applyN; rw [if_neg hne]
      rw [aD, aN, ← aE]
      repeat' (first | ((with_reducible refine Br.dec (fun _ => ?_) (fun _ => ?_)) <;> try (exfalso; omega)) | ((with_reducible refine Br.eq (fun _ => ?_) (fun _ => ?_)) <;> try (exfalso; omega)) | ((with_reducible refine Br.ne (fun _ => ?_) (fun _ => ?_)) <;> try (exfalso; omega)) | ((with_reducible refine brNdec (fun _ => ?_) (fun _ => ?_)) <;> try (exfalso; omega)) | ((with_reducible refine brNeq (fun _ => ?_) (fun _ => ?_)) <;> try (exfalso; omega)) | with_reducible refine Br.intro (fun _ => ?_) (fun _ => ?_) | (with_reducible refine And.intro ?_ ?_; · omega) | simp -dsimp -implicitDefEqProofs (disch := omega) only [VCA, pg_gl, ↓upd_none, Nat.reduceEqDiff, Nat.reduceBEq, Nat.reduceAdd, Nat.reduceSub, Nat.reduceMul, Nat.reduceLT, Nat.reduceLeDiff, ↓reduceIte, reduceCtorEq, rsOf, rootsOf, SOp.rd, SI.rd, SX.rd, rdL, rdO, rdP, okParts, eqCells, okEqCells, fillA, okFill, setAt, implies_true, forall_const, forall_eq, ne_eq, exists_eq_right_right, exists_eq_right, exists_eq_left, exists_eq_left', eInt, eBool, lit_eq, hne, n4, n4', g4])
      all_goals try (exfalso; omega)
      have Sh := (S4 _).trans Dw1.sub
      exact ⟨_, Sub.refl _, (Sh.upd (Sh.none hre)).upd hr4, .tup' (.cons (vw_noDoc _) (.cons (.refl _) (.cons (.refl _) .nil)))⟩
    · rw [← aE] at hz
      have aD : applyD d e = editD d e := by unfold applyD; rw [if_pos hz]
      have aN : applyN d e = editN d e := by unfold applyN; rw [if_pos hz]
      rw [aD, aN, hz, ← aE, hz]
      have gE3 := E3.ed
      have g43 := E3.dw.sub r4 _ (upd_same _ _ _)
      repeat' (first | ((with_reducible refine Br.dec (fun _ => ?_) (fun _ => ?_)) <;> try (exfalso; omega)) | ((with_reducible refine Br.eq (fun _ => ?_) (fun _ => ?_)) <;> try (exfalso; omega)) | ((with_reducible refine Br.ne (fun _ => ?_) (fun _ => ?_)) <;> try (exfalso; omega)) | ((with_reducible refine brNdec (fun _ => ?_) (fun _ => ?_)) <;> try (exfalso; omega)) | ((with_reducible refine brNeq (fun _ => ?_) (fun _ => ?_)) <;> try (exfalso; omega)) | with_reducible refine Br.intro (fun _ => ?_) (fun _ => ?_) | (with_reducible refine And.intro ?_ ?_; · omega) | simp -dsimp -implicitDefEqProofs (disch := omega) only [VCA, pg_gl, ↓upd_none, Nat.reduceEqDiff, Nat.reduceBEq, Nat.reduceAdd, Nat.reduceSub, Nat.reduceMul, Nat.reduceLT, Nat.reduceLeDiff, ↓reduceIte, reduceCtorEq, rsOf, rootsOf, SOp.rd, SI.rd, SX.rd, rdL, rdO, rdP, okParts, eqCells, okEqCells, fillA, okFill, setAt, implies_true, forall_const, forall_eq, ne_eq, exists_eq_right_right, exists_eq_right, exists_eq_left, exists_eq_left', eInt, eBool, lit_eq, n4, n4', gE3, g43, editN_made])
      all_goals try (exfalso; omega)
      exact ⟨_, Sub.refl _, ((S4 _).trans E3.dw.sub).upd hr4, .tup' (.cons (Vw.agg' (.cons (E3.dw.beside (S4 _) (upd_same _ _ _) hr4 (by simp [n4]) _).new'.vw (.cons (.refl _) .nil))) (.cons (.refl _) (.cons (.refl _) .nil)))⟩
  · have aE : applyE d e = docE d := by unfold applyE; rw [if_pos h1]
    have aD : applyD d e = noDoc := by unfold applyD; rw [aE, if_neg h1]
    have aN : applyN d e = 0 := by unfold applyN; rw [aE, if_neg h1]
    rw [aD, aE, aN]
    repeat' (first | ((with_reducible refine Br.dec (fun _ => ?_) (fun _ => ?_)) <;> try (exfalso; omega)) | ((with_reducible refine Br.eq (fun _ => ?_) (fun _ => ?_)) <;> try (exfalso; omega)) | ((with_reducible refine Br.ne (fun _ => ?_) (fun _ => ?_)) <;> try (exfalso; omega)) | ((with_reducible refine brNdec (fun _ => ?_) (fun _ => ?_)) <;> try (exfalso; omega)) | ((with_reducible refine brNeq (fun _ => ?_) (fun _ => ?_)) <;> try (exfalso; omega)) | with_reducible refine Br.intro (fun _ => ?_) (fun _ => ?_) | (with_reducible apply pcallE.of; · exact hC) | (with_reducible refine And.intro ?_ ?_; · omega) | simp -dsimp -implicitDefEqProofs (disch := omega) only [VCA, pg_gl, ↓upd_none, Nat.reduceEqDiff, Nat.reduceBEq, Nat.reduceAdd, Nat.reduceSub, Nat.reduceMul, Nat.reduceLT, Nat.reduceLeDiff, ↓reduceIte, reduceCtorEq, rsOf, rootsOf, SOp.rd, SI.rd, SX.rd, rdL, rdO, rdP, okParts, eqCells, okEqCells, fillA, okFill, setAt, implies_true, forall_const, forall_eq, ne_eq, exists_eq_right_right, exists_eq_right, exists_eq_left, exists_eq_left', eInt, eBool, lit_eq, h1, upd_same])
    exact ⟨_, Sub.refl _, S4 _, .tup' (.cons (vw_noDoc _) (.cons (.refl _) (.cons (.refl _) .nil)))⟩
end Go.Proofs.K
end
section
/- Ways through a tree: the reference's WalkStep; Common; what must be in any case. -/
set_option linter.unusedSimpArgs false
set_option linter.unusedVariables false
namespace Go.Proofs.K
open Go Go.Sim Go.Proofs
variable {G : Glob}
section
variable {d : HDoc} {n : Int} {A B : List Int}
end
/-! ## the common node -/
/-- a result's weaker reading -/
theorem DCalls.res {P : PG} {f : Nat} {args : List AVal} {h : Heap} {K K' : AVal → Heap → Prop} (hd : DCalls P f args h K) (hk : ∀ a h', K a h' → ∃ b, Wk a b ∧ K' b h') : DCalls P f args h K' :=
  ⟨hd.1, fun g w vs H GR V => (hd.2 g w vs H GR V).mono fun e w' ⟨v', a, h', g', he, k0, H', Va, S⟩ => by
    obtain ⟨b, hb, k1⟩ := hk a h' k0
    exact ⟨v', b, h', g', he, k1, H', hb.rel Va, S⟩⟩
end Go.Proofs.K
end
section
/- Ways through a tree: the law of Step. -/
set_option linter.unusedSimpArgs false
set_option linter.unusedVariables false
namespace Go.Proofs.K
open Go Go.Sim Go.Proofs
variable {G : Glob}
end Go.Proofs.K
end
section
/- Ways through a tree: pairs of nodes, plain law. -/
set_option linter.unusedSimpArgs false
set_option linter.unusedVariables false
namespace Go.Proofs.K
open Go Go.Sim Go.Proofs
section
variable {d : HDoc}
def path (d : HDoc) (n : Int) : List Int := (chain d n).reverse
theorem path_len (V : DV d) {n : Int} (hn : inD d n) : (path d n).length = up d n + 1 := by unfold path; rw [List.length_reverse, chain_len V n hn]
theorem path_up (V : DV d) {n : Int} (hn : inD d n) (hp : 0 ≤ (nd d n).parent) : path d n = path d (nd d n).parent ++ [n] := by unfold path; rw [chain_up V hn hp, List.reverse_cons]
theorem path_top (V : DV d) {n : Int} (hp : ¬ 0 ≤ (nd d n).parent) : path d n = [n] := by unfold path; rw [chain_top V hp]; rfl
theorem nth_snoc_lt {l : List Int} {x : Int} {j : Nat} (h : j < l.length) : nth (l ++ [x]) j = nth l j := by
  unfold nth; rw [List.getD_eq_getElem?_getD, List.getElem?_append_left h, ← List.getD_eq_getElem?_getD]
theorem nth_snoc_eq {l : List Int} {x : Int} : nth (l ++ [x]) l.length = x := by simp [nth, List.getD_eq_getElem?_getD]
theorem path_at (V : DV d) : ∀ n, inD d n → ∀ j, j ≤ up d n → nth (path d n) j ∈ chain d n ∧ up d (nth (path d n) j) = j := V.rise fun n hn ih j hj => by
  by_cases hp : 0 ≤ (nd d n).parent
  · have hu := V.up_par hn hp
    have hl := path_len V (V.par_in hn hp).1
    rw [path_up V hn hp]
    by_cases h1 : j = up d n
    · have : j = (path d (nd d n).parent).length := by omega
      rw [this, nth_snoc_eq]; exact ⟨chain_self _ _, by omega⟩
    · obtain ⟨h2, h3⟩ := ih hp j (by omega)
      rw [nth_snoc_lt (by omega)]
      exact ⟨by rw [chain_up V hn hp]; exact List.mem_cons_of_mem _ h2, h3⟩
  · have hu := V.up_top hp
    obtain rfl : j = 0 := by omega
    rw [path_top V hp]; exact ⟨chain_self _ _, hu⟩
/-- where the ways down to two nodes part -/
structure Part (d : HDoc) (a b : Int) (i : Nat) : Prop where
  pos : 1 ≤ i
  la : i ≤ (path d a).length
  lb : i ≤ (path d b).length
  eq : ∀ j, j < i → nth (path d a) j = nth (path d b) j
  ne : ¬ (i < (path d a).length ∧ i < (path d b).length ∧ nth (path d a) i = nth (path d b) i)
variable {a b : Int} {i : Nat}
theorem Part.node (V : DV d) (ha : inD d a) (hb : inD d b) (p : Part d a b i) : nth (path d a) (i - 1) ∈ chain d a ∧ nth (path d a) (i - 1) ∈ chain d b ∧ up d (nth (path d a) (i - 1)) = i - 1 := by
  have h1 := path_at V a ha (i - 1) (by have := p.la; rw [path_len V ha] at this; omega)
  have h2 := path_at V b hb (i - 1) (by have := p.lb; rw [path_len V hb] at this; omega)
  exact ⟨h1.1, by rw [p.eq _ (by have := p.pos; omega)]; exact h2.1, h1.2⟩
end
end Go.Proofs.K
end
section
/- Ways through a tree: Before, Within, Common, Place. -/
set_option linter.unusedSimpArgs false
set_option linter.unusedVariables false
namespace Go.Proofs.K
open Go Go.Sim Go.Proofs
variable {G : Glob}
end Go.Proofs.K
end
section
/- Ways through a tree: the law of pairs. -/
set_option linter.unusedSimpArgs false
set_option linter.unusedVariables false
namespace Go.Proofs.K
open Go Go.Sim Go.Proofs
variable {G : Glob}
end Go.Proofs.K
end
section
/- Ranges: paths of points, their order. -/
set_option linter.unusedSimpArgs false
set_option linter.unusedVariables false
namespace Go.Proofs.K
open Go Go.Sim Go.Proofs
variable {G : Glob}
structure HPoint where
  node : Int
  at' : Int
deriving DecidableEq, Inhabited
def eP (p : HPoint) : List AVal := [aInt p.node, aInt p.at']
instance : LenE eP 2 := ⟨fun _ => rfl⟩
structure HSpan where
  a : HPoint
  b : HPoint
deriving DecidableEq, Inhabited
def eS (s : HSpan) : List AVal := [aInt s.a.node, aInt s.a.at', aInt s.b.node, aInt s.b.at']
instance : LenE eS 4 := ⟨fun _ => rfl⟩
end Go.Proofs.K
end
section
/- Ranges: points, spans: contracts. -/
set_option linter.unusedSimpArgs false
set_option linter.unusedVariables false
namespace Go.Proofs.K
open Go Go.Sim Go.Proofs
variable {G : Glob}
section
variable {d : HDoc}
end
end Go.Proofs.K
end
section
/- Ranges: the order of points, plain law. -/
set_option linter.unusedSimpArgs false
set_option linter.unusedVariables false
namespace Go.Proofs.K
open Go Go.Sim Go.Proofs
/-! ## lists by their order -/
/-! ## all points of a tree, in their order -/
section
variable {d : HDoc}
end
end Go.Proofs.K
end
section
/- Ranges: order, points, span, Check, Less; the reference's errors. -/
set_option linter.unusedSimpArgs false
set_option linter.unusedVariables false
namespace Go.Proofs.K
open Go Go.Sim Go.Proofs
variable {G : Glob}
end Go.Proofs.K
end
section
/- Ranges: the reference's marks, SpanErr. -/
set_option linter.unusedSimpArgs false
set_option linter.unusedVariables false
namespace Go.Proofs.K
open Go Go.Sim Go.Proofs
variable {G : Glob}
end Go.Proofs.K
end
section
/- Ranges: the tree's order, as a list. -/
set_option linter.unusedSimpArgs false
set_option linter.unusedVariables false
namespace Go.Proofs.K
open Go Go.Sim Go.Proofs
variable {G : Glob}
def c109 : SFun := ⟨(.seq (.reg [⟨(some 3), (.boxF 24 2 (.t 0)), none⟩, ⟨(some 6), (.mv (.c .emp)), none⟩]) (.seq (.reg [⟨(some 9), (.mv (.t 2)), none⟩, ⟨(some 10), (.mv (.t 1)), none⟩, ⟨(some 11), (.bldF 3 1 [(.t 10)]), none⟩, ⟨(some 12), (.app 3 1 8 (.t 9) (.t 11)), none⟩, ⟨(some 2), (.mv (.t 12)), none⟩]) (.seq (.seq (.reg [⟨(some 13), (.fldA 0 (.t 3)), none⟩, ⟨(some 14), (.ld 1 false (.t 13)), none⟩, ⟨(some 15), (.mv (.t 1)), none⟩, ⟨(some 16), (.idxA 6 (.t 14) (.t 15)), none⟩, ⟨(some 17), (.fldA 5 (.t 16)), none⟩, ⟨(some 18), (.ld 1 false (.t 17)), none⟩, ⟨(some 19), (.len (.t 18)), none⟩, ⟨(some 20), (.mv (.c (.int .i64 (0)))), none⟩]) (.block 0 (.loop (.seq (.reg [⟨(some 21), (.bin .lss (.t 20) (.t 19)), none⟩]) (.seq (.cond (.t 21) .skip (.exit 0)) (.seq (.block 1 (.seq (.reg [⟨(some 22), (.idxA 1 (.t 18) (.t 20)), none⟩, ⟨(some 23), (.ld 1 false (.t 22)), none⟩, ⟨(some 8), (.mv (.t 23)), none⟩]) (.reg [⟨(some 24), (.ld 2 true (.t 3)), none⟩, ⟨(some 25), (.mv (.t 8)), none⟩, ⟨(some 26), (.mv (.t 2)), none⟩, ⟨(some 27), (.call (.c (.fn 109 [] [])) [(.t 24), (.t 25), (.t 26)]), none⟩, ⟨(some 2), (.mv (.t 27)), none⟩]))) (.reg [⟨(some 28), (.bin .add (.t 20) (.c (.int .i64 (1)))), none⟩, ⟨(some 20), (.mv (.t 28)), none⟩]))))))) (.seq (.reg [⟨(some 29), (.mv (.t 2)), none⟩, ⟨(some 6), (.mv (.t 29)), none⟩]) .ret)))), [(.tmp 6)]⟩
theorem hc109 : toSF Tryd.prog {} Tryd.f109 = some c109 := by kernel_rfl
theorem hn109 : (Tryd.f109.name == "runtime.NumGoroutine") = false := by kernel_rfl
theorem walk_ok (d : HDoc) (V : DV d) (sm : DocSm d) : ∀ n, inD d n → ∀ (h h1 : Heap) (L : List Int) (a : AVal), Acc h 3 1 (L.map eInt) a h1 → Sim.Sub h h1 → L.length + (below d n).length ≤ 1000000 →
    DCalls (Pg G) 109 [.agg (eDoc d), aInt n, a] h1 fun r h2 => Acc h 3 1 ((L ++ below d n).map eInt) r h2 ∧ Sim.Sub h h2 := V.down fun n hn ih h h1 L a A S hL => by
  have hl := V.len
  have n0 := hn.1
  have n1 := hn.2
  have e0 : nth d.nodes n.toNat = nd d n := rfl
  have kl := (sm.nd n).kids
  have bl := below_len V hn
  have be := below_eq V hn
  refine dcalls_of_vc Tryd.func109 hn109 hc109 (by rw [Tryd.ntmps109]; simp) (by rw [Tryd.ntmps109]; decide) ?_
  simp -dsimp -implicitDefEqProofs (disch := omega) only [VCA, pg_gl, ↓upd_none, Nat.reduceEqDiff, Nat.reduceBEq, Nat.reduceAdd, Nat.reduceSub, Nat.reduceMul, Nat.reduceLT, Nat.reduceLeDiff, ↓reduceIte, reduceCtorEq, rsOf, rootsOf, SOp.rd, SI.rd, SX.rd, rdL, rdO, rdP, okParts, eqCells, okEqCells, fillA, okFill, setAt, implies_true, forall_const, forall_eq, ne_eq, exists_eq_right_right, exists_eq_right, exists_eq_left, exists_eq_left', eInt, eBool, lit_eq, c109, eDoc, eNode]
  refine A.app S (by simp only [List.length_map, List.length_cons, List.length_nil]; omega) (by simp only [List.length_map, List.length_cons, List.length_nil]; omega) fun a2 h2 A2 S2 => ?_
  simp -dsimp -implicitDefEqProofs (disch := omega) only [VCA, pg_gl, ↓upd_none, Nat.reduceEqDiff, Nat.reduceBEq, Nat.reduceAdd, Nat.reduceSub, Nat.reduceMul, Nat.reduceLT, Nat.reduceLeDiff, ↓reduceIte, reduceCtorEq, rsOf, rootsOf, SOp.rd, SI.rd, SX.rd, rdL, rdO, rdP, okParts, eqCells, okEqCells, fillA, okFill, setAt, implies_true, forall_const, forall_eq, ne_eq, exists_eq_right_right, exists_eq_right, exists_eq_left, exists_eq_left', eInt, eBool, lit_eq, eDoc, eNode, e0]
  refine ⟨by omega, ?_⟩
  have A0 : Acc h 3 1 ((L ++ n :: ((nd d n).kids.take 0).flatMap (below d)).map eInt) a2 h2 := by simpa [eInt] using A2
  have bel : (below d n).length = 1 + ((nd d n).kids.flatMap (below d)).length := by rw [be, List.length_cons]; omega
  refine LoopVC.intro (fun m e h' => ∃ k : Nat, k ≤ (nd d n).kids.length ∧ m = (nd d n).kids.length - k ∧ e 3 = .pin (eDoc d) ∧ e 18 = sl eInt (nd d n).kids ∧ e 19 = aInt (nd d n).kids.length ∧ e 20 = aInt k ∧ Acc h 3 1 ((L ++ n :: ((nd d n).kids.take k).flatMap (below d)).map eInt) (e 2) h' ∧ Sim.Sub h h') _ ⟨0, by omega, rfl, rfl, rfl, rfl, rfl, A0, S2⟩ ?_
  clear A0 A2 S2 A S
  rintro m e h' ⟨k, hk, rfl, he3, he18, he19, he20, A, S⟩
  simp -dsimp -implicitDefEqProofs (disch := omega) only [VCA, pg_gl, ↓upd_none, Nat.reduceEqDiff, Nat.reduceBEq, Nat.reduceAdd, Nat.reduceSub, Nat.reduceMul, Nat.reduceLT, Nat.reduceLeDiff, ↓reduceIte, reduceCtorEq, rsOf, rootsOf, SOp.rd, SI.rd, SX.rd, rdL, rdO, rdP, okParts, eqCells, okEqCells, fillA, okFill, setAt, implies_true, forall_const, forall_eq, ne_eq, exists_eq_right_right, exists_eq_right, exists_eq_left, exists_eq_left', eInt, eBool, lit_eq, he3, he18, he19, he20]
  refine Br.dec (fun hlt => ?_) (fun hge => ?_)
  · have hk' : k < (nd d n).kids.length := by omega
    have hfl : (((nd d n).kids.take (k + 1)).flatMap (below d)).length ≤ ((nd d n).kids.flatMap (below d)).length := by
      conv => rhs; rw [← List.take_append_drop (k + 1) (nd d n).kids, List.flatMap_append, List.length_append]
      omega
    rw [take_snoc hk', List.flatMap_append, List.length_append] at hfl
    simp only [List.flatMap_cons, List.flatMap_nil, List.append_nil] at hfl
    have hI := ih _ (nth_mem' hk') h h' (L ++ n :: ((nd d n).kids.take k).flatMap (below d)) (e 2) A S (by rw [List.length_append, List.length_cons]; omega)
    simp -dsimp -implicitDefEqProofs (disch := omega) only [VCA, pg_gl, ↓upd_none, Nat.reduceEqDiff, Nat.reduceBEq, Nat.reduceAdd, Nat.reduceSub, Nat.reduceMul, Nat.reduceLT, Nat.reduceLeDiff, ↓reduceIte, reduceCtorEq, rsOf, rootsOf, SOp.rd, SI.rd, SX.rd, rdL, rdO, rdP, okParts, eqCells, okEqCells, fillA, okFill, setAt, implies_true, forall_const, forall_eq, ne_eq, exists_eq_right_right, exists_eq_right, exists_eq_left, exists_eq_left', eInt, eBool, lit_eq, he3, he18, he19, he20, eDoc_len, eDoc_take]
    refine ⟨by omega, ?_⟩
    refine DCalls.of hI ?_
    rintro r h3 ⟨A3, S3⟩
    have A4 : Acc h 3 1 ((L ++ n :: ((nd d n).kids.take (k + 1)).flatMap (below d)).map eInt) r h3 := by
      rw [take_snoc hk', List.flatMap_append]
      simpa using A3
    simp -dsimp -implicitDefEqProofs (disch := omega) only [VCA, pg_gl, ↓upd_none, Nat.reduceEqDiff, Nat.reduceBEq, Nat.reduceAdd, Nat.reduceSub, Nat.reduceMul, Nat.reduceLT, Nat.reduceLeDiff, ↓reduceIte, reduceCtorEq, rsOf, rootsOf, SOp.rd, SI.rd, SX.rd, rdL, rdO, rdP, okParts, eqCells, okEqCells, fillA, okFill, setAt, implies_true, forall_const, forall_eq, ne_eq, exists_eq_right_right, exists_eq_right, exists_eq_left, exists_eq_left', eInt, eBool, lit_eq, he3, he18, he19, he20]
    exact ⟨_, by omega, k + 1, by omega, rfl, by omega, A4, S3⟩
  · obtain rfl : k = (nd d n).kids.length := by omega
    rw [List.take_length, ← be] at A
    simp -dsimp -implicitDefEqProofs (disch := omega) only [VCA, pg_gl, ↓upd_none, Nat.reduceEqDiff, Nat.reduceBEq, Nat.reduceAdd, Nat.reduceSub, Nat.reduceMul, Nat.reduceLT, Nat.reduceLeDiff, ↓reduceIte, reduceCtorEq, rsOf, rootsOf, SOp.rd, SI.rd, SX.rd, rdL, rdO, rdP, okParts, eqCells, okEqCells, fillA, okFill, setAt, implies_true, forall_const, forall_eq, ne_eq, exists_eq_right_right, exists_eq_right, exists_eq_left, exists_eq_left', eInt, eBool, lit_eq]
    exact ⟨_, Sub.refl _, A, S⟩
theorem walk0_ok (d : HDoc) (V : DV d) (sm : DocSm d) (n : Int) (hn : inD d n) : PCalls (Pg G) 109 [.agg (eDoc d), aInt n, .emp] (sl eInt (below d n)) := PCalls.acc (ty := 3) (sz := 1) fun h =>
  (walk_ok (G := G) d V sm n hn h h [] .emp .nil (Sub.refl _) (by have := below_len V hn; have := V.len; simp; omega)).mono fun r h' hh => by rw [List.nil_append] at hh; exact hh
def c59 : SFun := ⟨(.seq (.reg [⟨(some 1), (.boxF 24 2 (.t 0)), none⟩, ⟨(some 2), (.mv (.c .emp)), none⟩, ⟨(some 3), (.mv (.c (.int .i64 (0)))), none⟩]) (.seq (.seq (.reg [⟨(some 5), (.ld 2 true (.t 1)), none⟩, ⟨(some 6), (.pcall 52 [(.t 5)]), none⟩, ⟨(some 4), (.mv (.t 6)), none⟩]) (.seq (.reg [⟨(some 7), (.mv (.t 4)), none⟩, ⟨(some 8), (.bin .neq (.t 7) (.c (.int .i64 (0)))), none⟩]) (.cond (.t 8) (.seq (.reg [⟨(some 9), (.mv (.t 4)), none⟩, ⟨(some 2), (.mv (.c .emp)), none⟩, ⟨(some 3), (.mv (.t 9)), none⟩]) .ret) .skip))) (.seq (.reg [⟨(some 10), (.ld 2 true (.t 1)), none⟩, ⟨(some 11), (.pcall 109 [(.t 10), (.c (.int .i64 (0))), (.c .emp)]), none⟩, ⟨(some 2), (.mv (.t 11)), none⟩, ⟨(some 3), (.mv (.c (.int .i64 (0)))), none⟩]) .ret))), [(.tmp 2), (.tmp 3)]⟩
theorem hc59 : toSF Tryd.prog {pure := [52, 109]} Tryd.f59 = some c59 := by kernel_rfl
theorem hn59 : (Tryd.f59.name == "runtime.NumGoroutine") = false := by kernel_rfl
theorem domOrder_ok (d : HDoc) (V : DV d) (h0 : docE d = 0) (sm : DocSm d) : PCalls (Pg G) 59 [.agg (eDoc d)] (.tup [sl eInt (below d 0), aInt 0]) := fun h => by
  have hC := check_ok (G := G) d sm
  have hW := walk0_ok (G := G) d V sm 0 V.zero
  rw [h0] at hC
  refine dcalls_of_vc Tryd.func59 hn59 hc59 (by rw [Tryd.ntmps59]; simp) (by rw [Tryd.ntmps59]; decide) ?_
  simp -dsimp -implicitDefEqProofs (disch := omega) only [VCA, pg_gl, ↓upd_none, Nat.reduceEqDiff, Nat.reduceBEq, Nat.reduceAdd, Nat.reduceSub, Nat.reduceMul, Nat.reduceLT, Nat.reduceLeDiff, ↓reduceIte, reduceCtorEq, rsOf, rootsOf, SOp.rd, SI.rd, SX.rd, rdL, rdO, rdP, okParts, eqCells, okEqCells, fillA, okFill, setAt, implies_true, forall_const, forall_eq, ne_eq, exists_eq_right_right, exists_eq_right, exists_eq_left, exists_eq_left', eInt, eBool, lit_eq, c59, eDoc_len, eDoc_take]
  repeat' (first | ((with_reducible refine Br.dec (fun _ => ?_) (fun _ => ?_)) <;> try (exfalso; omega)) | ((with_reducible refine Br.eq (fun _ => ?_) (fun _ => ?_)) <;> try (exfalso; omega)) | ((with_reducible refine Br.ne (fun _ => ?_) (fun _ => ?_)) <;> try (exfalso; omega)) | ((with_reducible refine brNdec (fun _ => ?_) (fun _ => ?_)) <;> try (exfalso; omega)) | ((with_reducible refine brNeq (fun _ => ?_) (fun _ => ?_)) <;> try (exfalso; omega)) | with_reducible refine Br.intro (fun _ => ?_) (fun _ => ?_) | (with_reducible apply pcallE.of; · exact hC) | (with_reducible apply pcallE.of; · exact hW) | (with_reducible refine And.intro ?_ ?_; · omega) | simp -dsimp -implicitDefEqProofs (disch := omega) only [VCA, pg_gl, ↓upd_none, Nat.reduceEqDiff, Nat.reduceBEq, Nat.reduceAdd, Nat.reduceSub, Nat.reduceMul, Nat.reduceLT, Nat.reduceLeDiff, ↓reduceIte, reduceCtorEq, rsOf, rootsOf, SOp.rd, SI.rd, SX.rd, rdL, rdO, rdP, okParts, eqCells, okEqCells, fillA, okFill, setAt, implies_true, forall_const, forall_eq, ne_eq, exists_eq_right_right, exists_eq_right, exists_eq_left, exists_eq_left', eInt, eBool, lit_eq, eDoc_len, eDoc_take])
  all_goals exact Sub.refl _
end Go.Proofs.K
end
section
/- Documents: what must be in any case; the law of checks. -/
set_option linter.unusedSimpArgs false
set_option linter.unusedVariables false
namespace Go.Proofs.K
open Go Go.Sim Go.Proofs
variable {G : Glob}
def newD : HDoc := ⟨[⟨1, [], [], [], -1, []⟩], false⟩
def newA : AVal := .agg [.slc [[.int .i64 1, .str [], .emp, .str [], .int .i64 (-1), .emp]], .bool false]
theorem newA_wk : Wk newA (.agg (eDoc newD)) := Wk.agg' (.cons (Wk.slc' (.cons (.cons (.refl _) (.cons (.refl _) (.cons .emp (.cons (.refl _) (.cons (.refl _) (.cons .emp .nil)))))) .nil)) (.cons (.refl _) .nil))
def c54 : SFun := ⟨(.seq (.reg [⟨(some 0), (.new 24 2 [.emp, (.bool false)]), none⟩]) (.seq (.reg [⟨(some 1), (.bld [(.int .i64 (0)), (.str []), .emp, (.str []), (.int .i64 (0)), .emp] [(0, (1, (.c (.int .i64 (1))))), (4, (1, (.c (.int .i64 (-1)))))]), none⟩, ⟨(some 2), (.bldF 43 6 [(.t 1)]), none⟩, ⟨(some 3), (.bld [.emp, (.bool false)] [(0, (1, (.t 2)))]), none⟩, ⟨none, (.st 2 (.t 0) (.t 3)), none⟩]) .ret)), [(.cell 0 2 true)]⟩
theorem hc54 : toSF Tryd.prog {} Tryd.f54 = some c54 := by kernel_rfl
theorem hn54 : (Tryd.f54.name == "runtime.NumGoroutine") = false := by kernel_rfl
theorem new_ok : PCalls (Pg G) 54 [] (.agg (eDoc newD)) := fun h => by
  refine DCalls.res (K := fun a h' => a = newA ∧ h' = h) ?_ ?_
  · refine dcalls_of_vc Tryd.func54 hn54 hc54 (by rw [Tryd.ntmps54]; simp) (by rw [Tryd.ntmps54]; decide) ?_
    simp -dsimp -implicitDefEqProofs (disch := omega) only [VCA, pg_gl, ↓upd_none, Nat.reduceEqDiff, Nat.reduceBEq, Nat.reduceAdd, Nat.reduceSub, Nat.reduceMul, Nat.reduceLT, Nat.reduceLeDiff, ↓reduceIte, reduceCtorEq, rsOf, rootsOf, SOp.rd, SI.rd, SX.rd, rdL, rdO, rdP, okParts, eqCells, okEqCells, fillA, okFill, setAt, implies_true, forall_const, forall_eq, ne_eq, exists_eq_right_right, exists_eq_right, exists_eq_left, exists_eq_left', eInt, eBool, lit_eq, c54]
    intro r hr
    repeat' (first | ((with_reducible refine Br.dec (fun _ => ?_) (fun _ => ?_)) <;> try (exfalso; omega)) | ((with_reducible refine Br.eq (fun _ => ?_) (fun _ => ?_)) <;> try (exfalso; omega)) | ((with_reducible refine Br.ne (fun _ => ?_) (fun _ => ?_)) <;> try (exfalso; omega)) | ((with_reducible refine brNdec (fun _ => ?_) (fun _ => ?_)) <;> try (exfalso; omega)) | ((with_reducible refine brNeq (fun _ => ?_) (fun _ => ?_)) <;> try (exfalso; omega)) | with_reducible refine Br.intro (fun _ => ?_) (fun _ => ?_) | (with_reducible refine And.intro ?_ ?_; · omega) | simp -dsimp -implicitDefEqProofs (disch := omega) only [VCA, pg_gl, ↓upd_none, Nat.reduceEqDiff, Nat.reduceBEq, Nat.reduceAdd, Nat.reduceSub, Nat.reduceMul, Nat.reduceLT, Nat.reduceLeDiff, ↓reduceIte, reduceCtorEq, rsOf, rootsOf, SOp.rd, SI.rd, SX.rd, rdL, rdO, rdP, okParts, eqCells, okEqCells, fillA, okFill, setAt, implies_true, forall_const, forall_eq, ne_eq, exists_eq_right_right, exists_eq_right, exists_eq_left, exists_eq_left', eInt, eBool, lit_eq, upd_same])
    exact ⟨(Sub.refl _).upd hr, rfl⟩
  · rintro a h' ⟨rfl, rfl⟩
    exact ⟨_, newA_wk, rfl, rfl⟩
theorem newD_sm : DocSm newD := ⟨by decide, fun x hx => by
  have : x = ⟨1, [], [], [], -1, []⟩ := by simpa [newD] using hx
  subst this
  exact ⟨by decide, by decide, (fun a ha => by cases ha), by decide, by decide⟩⟩
/-- an edit as it is written: no lists -/
theorem edit_wk (e : HEdit) (h1 : e.node.attrs = []) (h2 : e.node.kids = []) : Wk (.agg (eE0 e)) (.agg (eEdit e)) := Wk.agg' (by
  unfold eE0 eEdit
  rw [h1, h2]
  exact .cons (.refl _) (.cons (.refl _) (.cons (.refl _) (.cons (.refl _) (.cons (.refl _) (.cons (.refl _) (.cons (.refl _) (.cons (.refl _) (.cons .emp (.cons (.refl _) (.cons (.refl _) (.cons .emp .nil))))))))))))
def beg1 : HEdit := ⟨4, 0, 0, 0, [], [], ⟨2, [112], [], [], 0, []⟩⟩
def beg2 : HEdit := ⟨5, 0, 1, -1, [], [], ⟨0, [], [], [], 0, []⟩⟩
def begD1 : HDoc := ⟨[⟨1, [], [], [], -1, []⟩, ⟨2, [112], [], [], -1, []⟩], false⟩
def begD2 : HDoc := ⟨[⟨1, [], [], [], -1, [1]⟩, ⟨2, [112], [], [], 0, []⟩], false⟩
theorem beg_is : applyD newD beg1 = begD1 ∧ applyN newD beg1 = 1 ∧ applyE newD beg1 = 0 ∧ applyD begD1 beg2 = begD2 ∧ applyE begD1 beg2 = 0 ∧ docE begD2 = 0 ∧ below begD2 0 = [0, 1] ∧ docE noDoc = 3 := by decide +kernel
theorem beg_sm : EditSm beg1 ∧ EditSm beg2 ∧ DocSm begD1 ∧ DocSm begD2 := ⟨⟨by decide, by decide, by decide, by decide, (fun a ha => by cases ha), by decide, by decide⟩, ⟨by decide, by decide, by decide, by decide, (fun a ha => by cases ha), by decide, by decide⟩,
  ⟨by decide, fun x hx => by
    have : x = ⟨1, [], [], [], -1, []⟩ ∨ x = ⟨2, [112], [], [], -1, []⟩ := by simpa [begD1] using hx
    rcases this with rfl | rfl <;> exact ⟨by decide, by decide, (fun a ha => by cases ha), by decide, by decide⟩⟩,
  ⟨by decide, fun x hx => by
    have : x = ⟨1, [], [], [], -1, [1]⟩ ∨ x = ⟨2, [112], [], [], 0, []⟩ := by simpa [begD2] using hx
    rcases this with rfl | rfl <;> exact ⟨by decide, by decide, (fun a ha => by cases ha), by decide, by decide⟩⟩⟩
def c51 : SFun := ⟨(.seq (.reg [⟨(some 0), (.mv (.c (.bool false))), none⟩]) (.seq (.reg [⟨(some 9), (.pcall 54 []), none⟩, ⟨(some 10), (.bld [(.int .i64 (0)), (.str []), .emp, (.str []), (.int .i64 (0)), .emp] [(0, (1, (.c (.int .i64 (2))))), (1, (1, (.c (.str [112]))))]), none⟩, ⟨(some 11), (.bld [(.int .i64 (0)), (.int .i64 (0)), (.int .i64 (0)), (.int .i64 (0)), (.str []), (.str []), (.int .i64 (0)), (.str []), .emp, (.str []), (.int .i64 (0)), .emp] [(0, (1, (.c (.int .i64 (4))))), (6, (6, (.t 10)))]), none⟩, ⟨(some 12), (.pcall 55 [(.t 9), (.t 11)]), none⟩, ⟨(some 8), (.mv (.t 12)), none⟩, ⟨(some 13), (.ext (.t 8) 0), none⟩, ⟨(some 14), (.ext (.t 8) 1), none⟩, ⟨(some 15), (.ext (.t 8) 2), none⟩, ⟨(some 1), (.new 24 2 [.emp, (.bool false)]), none⟩, ⟨none, (.st 2 (.t 1) (.t 13)), none⟩, ⟨(some 2), (.mv (.t 14)), none⟩, ⟨(some 3), (.mv (.t 15)), none⟩]) (.seq (.reg [⟨(some 17), (.ld 2 true (.t 1)), none⟩, ⟨(some 18), (.mv (.t 2)), none⟩, ⟨(some 19), (.bld [(.int .i64 (0)), (.int .i64 (0)), (.int .i64 (0)), (.int .i64 (0)), (.str []), (.str []), (.int .i64 (0)), (.str []), .emp, (.str []), (.int .i64 (0)), .emp] [(0, (1, (.c (.int .i64 (5))))), (1, (1, (.c (.int .i64 (0))))), (2, (1, (.t 18))), (3, (1, (.c (.int .i64 (-1)))))]), none⟩, ⟨(some 20), (.pcall 55 [(.t 17), (.t 19)]), none⟩, ⟨(some 16), (.mv (.t 20)), none⟩, ⟨(some 21), (.ext (.t 16) 0), none⟩, ⟨(some 22), (.ext (.t 16) 1), none⟩, ⟨(some 23), (.ext (.t 16) 2), none⟩, ⟨none, (.st 2 (.t 1) (.t 21)), none⟩, ⟨(some 4), (.mv (.t 22)), none⟩, ⟨(some 5), (.mv (.t 23)), none⟩]) (.seq (.reg [⟨(some 25), (.ld 2 true (.t 1)), none⟩, ⟨(some 26), (.pcall 59 [(.t 25)]), none⟩, ⟨(some 24), (.mv (.t 26)), none⟩, ⟨(some 27), (.ext (.t 24) 0), none⟩, ⟨(some 28), (.ext (.t 24) 1), none⟩, ⟨(some 6), (.mv (.t 27)), none⟩, ⟨(some 7), (.mv (.t 28)), none⟩]) (.seq (.reg [⟨(some 29), (.mv (.t 2)), none⟩, ⟨(some 30), (.bin .eql (.t 29) (.c (.int .i64 (1)))), none⟩, ⟨(some 31), (.mv (.t 30)), none⟩, ⟨(some 32), (.mv (.t 3)), (some (31, true))⟩, ⟨(some 33), (.bin .eql (.t 32) (.c (.int .i64 (0)))), (some (31, true))⟩, ⟨(some 34), (.pick (.t 31) (.t 33) (.c (.bool false))), none⟩, ⟨(some 35), (.mv (.t 34)), none⟩, ⟨(some 36), (.mv (.t 5)), (some (35, true))⟩, ⟨(some 37), (.bin .eql (.t 36) (.c (.int .i64 (0)))), (some (35, true))⟩, ⟨(some 38), (.pick (.t 35) (.t 37) (.c (.bool false))), none⟩, ⟨(some 39), (.mv (.t 38)), none⟩, ⟨(some 40), (.mv (.t 7)), (some (39, true))⟩, ⟨(some 41), (.bin .eql (.t 40) (.c (.int .i64 (0)))), (some (39, true))⟩, ⟨(some 42), (.pick (.t 39) (.t 41) (.c (.bool false))), none⟩, ⟨(some 43), (.mv (.t 42)), none⟩, ⟨(some 44), (.mv (.t 6)), (some (43, true))⟩, ⟨(some 45), (.bldF 3 1 [(.c (.int .i64 (0))), (.c (.int .i64 (1)))]), (some (43, true))⟩, ⟨(some 46), (.pcall 30 [(.t 44), (.t 45)]), (some (43, true))⟩, ⟨(some 47), (.pick (.t 43) (.t 46) (.c (.bool false))), none⟩, ⟨(some 48), (.mv (.t 47)), none⟩, ⟨(some 49), (.bld [.emp, (.bool false)] []), (some (48, true))⟩, ⟨(some 50), (.pcall 52 [(.t 49)]), (some (48, true))⟩, ⟨(some 51), (.bin .eql (.t 50) (.c (.int .i64 (3)))), (some (48, true))⟩, ⟨(some 52), (.pick (.t 48) (.t 51) (.c (.bool false))), none⟩, ⟨(some 0), (.mv (.t 52)), none⟩]) .ret))))), [(.tmp 0)]⟩
theorem hc51 : toSF Tryd.prog {pure := [55, 54, 59, 30, 52]} Tryd.f51 = some c51 := by kernel_rfl
theorem hn51 : (Tryd.f51.name == "runtime.NumGoroutine") = false := by kernel_rfl
theorem domBegun_ok : PCalls (Pg G) 51 [] (.bool true) := fun h => by
  obtain ⟨b1, b2, b3, b4, b5, b6, b7, b8⟩ := beg_is
  obtain ⟨s1, s2, s3, s4⟩ := beg_sm
  have h1 : PCalls (Pg G) 55 [.agg (eDoc newD), .agg (eE0 beg1)] (.tup [.agg (eDoc begD1), aInt 1, aInt 0]) := by
    have h := (apply_ok (G := G) newD newD_sm beg1 s1).wk (args := [.agg (eDoc newD), .agg (eE0 beg1)]) (.cons (.refl _) (.cons (edit_wk beg1 rfl rfl) .nil))
    rw [b1, b2, b3] at h
    exact h
  have h2 : PCalls (Pg G) 55 [.agg (eDoc begD1), .agg (eE0 beg2)] (.tup [.agg (eDoc begD2), aInt (applyN begD1 beg2), aInt 0]) := by
    have h := (apply_ok (G := G) begD1 s3 beg2 s2).wk (args := [.agg (eDoc begD1), .agg (eE0 beg2)]) (.cons (.refl _) (.cons (edit_wk beg2 rfl rfl) .nil))
    rw [b4, b5] at h
    exact h
  have h3 : PCalls (Pg G) 59 [.agg (eDoc begD2)] (.tup [sl eInt [0, 1], aInt 0]) := by
    have h := domOrder_ok (G := G) begD2 (docE_DV b6) b6 s4
    rw [b7] at h
    exact h
  have h4 : PCalls (Pg G) 30 [sl eInt [0, 1], .slc [[.int .i64 0], [.int .i64 1]]] (.bool true) := sameN_ok (G := G) [0, 1] [0, 1] (by simp) (by simp)
  have h5 : PCalls (Pg G) 52 [.agg [.emp, .bool false]] (aInt 3) := by
    have h := (check_ok (G := G) noDoc ⟨by decide, fun x hx => by cases hx⟩).wk (args := [.agg [.emp, .bool false]]) (.cons (Wk.agg' (.cons .emp (.cons (.refl _) .nil))) .nil)
    rw [b8] at h
    exact h
  unfold eE0 beg1 at h1
  unfold eE0 beg2 at h2
  refine dcalls_of_vc Tryd.func51 hn51 hc51 (by rw [Tryd.ntmps51]; simp) (by rw [Tryd.ntmps51]; decide) ?_
  simp -dsimp -implicitDefEqProofs (disch := omega) only [↓vcOps_sp 31, ↓vcD_sp 31, ↓vcOps_sp 35, ↓vcD_sp 35, ↓vcOps_sp 39, ↓vcD_sp 39, ↓vcOps_sp 43, ↓vcD_sp 43, ↓vcOps_sp 48, ↓vcD_sp 48, VCA, pg_gl, ↓upd_none, Nat.reduceEqDiff, Nat.reduceBEq, Nat.reduceAdd, Nat.reduceSub, Nat.reduceMul, Nat.reduceLT, Nat.reduceLeDiff, ↓reduceIte, reduceCtorEq, rsOf, rootsOf, SOp.rd, SI.rd, SX.rd, rdL, rdO, rdP, okParts, eqCells, okEqCells, fillA, okFill, setAt, implies_true, forall_const, forall_eq, ne_eq, exists_eq_right_right, exists_eq_right, exists_eq_left, exists_eq_left', eInt, eBool, lit_eq, c51]
  repeat' (first | ((with_reducible refine Br.dec (fun _ => ?_) (fun _ => ?_)) <;> try (exfalso; omega)) | ((with_reducible refine Br.eq (fun _ => ?_) (fun _ => ?_)) <;> try (exfalso; omega)) | ((with_reducible refine Br.ne (fun _ => ?_) (fun _ => ?_)) <;> try (exfalso; omega)) | ((with_reducible refine brNdec (fun _ => ?_) (fun _ => ?_)) <;> try (exfalso; omega)) | ((with_reducible refine brNeq (fun _ => ?_) (fun _ => ?_)) <;> try (exfalso; omega)) | with_reducible refine Br.intro (fun _ => ?_) (fun _ => ?_) | (with_reducible apply pcallE.of; · exact new_ok (G := G)) | (with_reducible apply pcallE.of; · exact h1) | (with_reducible refine And.intro ?_ ?_; · omega) | simp -dsimp -implicitDefEqProofs (disch := omega) only [↓vcOps_sp 31, ↓vcD_sp 31, ↓vcOps_sp 35, ↓vcD_sp 35, ↓vcOps_sp 39, ↓vcD_sp 39, ↓vcOps_sp 43, ↓vcD_sp 43, ↓vcOps_sp 48, ↓vcD_sp 48, VCA, pg_gl, ↓upd_none, Nat.reduceEqDiff, Nat.reduceBEq, Nat.reduceAdd, Nat.reduceSub, Nat.reduceMul, Nat.reduceLT, Nat.reduceLeDiff, ↓reduceIte, reduceCtorEq, rsOf, rootsOf, SOp.rd, SI.rd, SX.rd, rdL, rdO, rdP, okParts, eqCells, okEqCells, fillA, okFill, setAt, implies_true, forall_const, forall_eq, ne_eq, exists_eq_right_right, exists_eq_right, exists_eq_left, exists_eq_left', eInt, eBool, lit_eq, upd_same])
  intro r hr
  repeat' (first | ((with_reducible refine Br.dec (fun _ => ?_) (fun _ => ?_)) <;> try (exfalso; omega)) | ((with_reducible refine Br.eq (fun _ => ?_) (fun _ => ?_)) <;> try (exfalso; omega)) | ((with_reducible refine Br.ne (fun _ => ?_) (fun _ => ?_)) <;> try (exfalso; omega)) | ((with_reducible refine brNdec (fun _ => ?_) (fun _ => ?_)) <;> try (exfalso; omega)) | ((with_reducible refine brNeq (fun _ => ?_) (fun _ => ?_)) <;> try (exfalso; omega)) | with_reducible refine Br.intro (fun _ => ?_) (fun _ => ?_) | (with_reducible apply pcallE.of; · exact h2) | (with_reducible apply pcallE.of; · exact h3) | (with_reducible apply pcallE.of; · exact h4) | (with_reducible apply pcallE.of; · exact h5) | (with_reducible refine And.intro ?_ ?_; · omega) | simp -dsimp -implicitDefEqProofs (disch := omega) only [↓vcOps_sp 31, ↓vcD_sp 31, ↓vcOps_sp 35, ↓vcD_sp 35, ↓vcOps_sp 39, ↓vcD_sp 39, ↓vcOps_sp 43, ↓vcD_sp 43, ↓vcOps_sp 48, ↓vcD_sp 48, VCA, pg_gl, ↓upd_none, Nat.reduceEqDiff, Nat.reduceBEq, Nat.reduceAdd, Nat.reduceSub, Nat.reduceMul, Nat.reduceLT, Nat.reduceLeDiff, ↓reduceIte, reduceCtorEq, rsOf, rootsOf, SOp.rd, SI.rd, SX.rd, rdL, rdO, rdP, okParts, eqCells, okEqCells, fillA, okFill, setAt, implies_true, forall_const, forall_eq, ne_eq, exists_eq_right_right, exists_eq_right, exists_eq_left, exists_eq_left', eInt, eBool, lit_eq, upd_same, eDoc_len, eDoc_take, eDoc_dr, List.append_nil])
  exact ⟨(Sub.refl h).upd hr, rfl⟩
def c10 : SFun := ⟨(.seq (.reg [⟨(some 1), (.box 24 2 (.t 0)), none⟩, ⟨(some 2), (.mv (.c (.bool false))), none⟩]) (.seq (.reg [⟨(some 3), (.ld 2 true (.t 1)), none⟩, ⟨(some 4), (.pcall 15 [(.t 3), (.c (.int .i64 (210)))]), none⟩, ⟨none, (.st 2 (.t 1) (.t 4)), none⟩]) (.seq (.dreg [(⟨(some 5), (.pcall 51 []), none⟩, none), (⟨(some 6), (.mv (.t 5)), none⟩, none), (⟨(some 7), (.ld 2 true (.t 1)), (some (6, true))⟩, none), (⟨(some 8), (.pcall 52 [(.t 7)]), (some (6, true))⟩, none), (⟨(some 9), (.ld 2 true (.t 1)), (some (6, true))⟩, none), (⟨(some 10), (.pcall 17 [(.t 9)]), (some (6, true))⟩, none), (⟨(some 11), (.bin .eql (.t 8) (.t 10)), (some (6, true))⟩, none), (⟨(some 12), (.pick (.t 6) (.t 11) (.c (.bool false))), none⟩, none), (⟨(some 13), (.mv (.t 12)), none⟩, none), (⟨(some 14), (.pcall 54 []), (some (13, true))⟩, none), (⟨(some 15), (.bld [(.int .i64 (0)), (.str []), .emp, (.str []), (.int .i64 (0)), .emp] [(0, (1, (.c (.int .i64 (1))))), (4, (1, (.c (.int .i64 (-1)))))]), (some (13, true))⟩, none), (⟨(some 16), (.bldF 43 6 [(.t 15)]), (some (13, true))⟩, none), (⟨(some 17), (.bld [.emp, (.bool false)] [(0, (1, (.t 16)))]), (some (13, true))⟩, none), (⟨(some 18), (.pcall 53 [(.t 14), (.t 17)]), (some (13, true))⟩, none), (⟨(some 19), (.pick (.t 13) (.t 18) (.c (.bool false))), none⟩, none), (⟨(some 2), (.mv (.t 19)), none⟩, none)]) .ret))), [(.tmp 2)]⟩
theorem hc10 : toSF Tryd.prog {pure := [15, 51, 52, 17, 54, 53], how := [(1, 6)]} Tryd.f10 = some c10 := by kernel_rfl
theorem hn10 : (Tryd.f10.name == "runtime.NumGoroutine") = false := by kernel_rfl
theorem domChecks_ok (d : HDoc) (sm : DocSm d) : PCalls (Pg G) 10 [.agg (eDoc d)] (.bool true) := fun h => by
  have hF : PCalls (Pg G) 15 [.agg (eDoc d), .int .i64 210] (.agg (eDoc ⟨d.nodes.take 210, d.quirks⟩)) := few_ok (G := G) d 210 sm
  have fs := sm.few 210
  generalize (⟨d.nodes.take 210, d.quirks⟩ : HDoc) = f at *
  have hC := check_ok (G := G) f fs
  have hD := docErr_ok (G := G) f fs
  have hS : PCalls (Pg G) 53 [.agg (eDoc newD), .agg [.slc [[.int .i64 1, .str [], .emp, .str [], .int .i64 (-1), .emp]], .bool false]] (.bool true) :=
    (sameDoc_ok (G := G) newD newD newD_sm newD_sm).wk (.cons (.refl _) (.cons newA_wk .nil))
  refine dcalls_of_vc Tryd.func10 hn10 hc10 (by rw [Tryd.ntmps10]; simp) (by rw [Tryd.ntmps10]; decide) ?_
  simp -dsimp -implicitDefEqProofs (disch := omega) only [↓vcOps_sp 6, ↓vcD_sp 6, ↓vcOps_sp 13, ↓vcD_sp 13, VCA, pg_gl, ↓upd_none, Nat.reduceEqDiff, Nat.reduceBEq, Nat.reduceAdd, Nat.reduceSub, Nat.reduceMul, Nat.reduceLT, Nat.reduceLeDiff, ↓reduceIte, reduceCtorEq, rsOf, rootsOf, SOp.rd, SI.rd, SX.rd, rdL, rdO, rdP, okParts, eqCells, okEqCells, fillA, okFill, setAt, implies_true, forall_const, forall_eq, ne_eq, exists_eq_right_right, exists_eq_right, exists_eq_left, exists_eq_left', eInt, eBool, lit_eq, c10, eDoc_len, eDoc_take, eDoc_dr, List.append_nil]
  intro r hr
  repeat' (first | ((with_reducible refine Br.dec (fun _ => ?_) (fun _ => ?_)) <;> try (exfalso; omega)) | ((with_reducible refine Br.eq (fun _ => ?_) (fun _ => ?_)) <;> try (exfalso; omega)) | ((with_reducible refine Br.ne (fun _ => ?_) (fun _ => ?_)) <;> try (exfalso; omega)) | ((with_reducible refine brNdec (fun _ => ?_) (fun _ => ?_)) <;> try (exfalso; omega)) | ((with_reducible refine brNeq (fun _ => ?_) (fun _ => ?_)) <;> try (exfalso; omega)) | with_reducible refine Br.intro (fun _ => ?_) (fun _ => ?_) | (with_reducible apply pcallE.of; · exact hF) | (with_reducible apply pcallE.of; · exact domBegun_ok (G := G)) | (with_reducible apply pcallE.of; · exact hC) | (with_reducible apply pcallE.of; · exact hD) | (with_reducible apply pcallE.of; · exact new_ok (G := G)) | (with_reducible apply pcallE.of; · exact hS) | (with_reducible refine And.intro ?_ ?_; · omega) | simp -dsimp -implicitDefEqProofs (disch := omega) only [↓vcOps_sp 6, ↓vcD_sp 6, ↓vcOps_sp 13, ↓vcD_sp 13, VCA, pg_gl, ↓upd_none, Nat.reduceEqDiff, Nat.reduceBEq, Nat.reduceAdd, Nat.reduceSub, Nat.reduceMul, Nat.reduceLT, Nat.reduceLeDiff, ↓reduceIte, reduceCtorEq, rsOf, rootsOf, SOp.rd, SI.rd, SX.rd, rdL, rdO, rdP, okParts, eqCells, okEqCells, fillA, okFill, setAt, implies_true, forall_const, forall_eq, ne_eq, exists_eq_right_right, exists_eq_right, exists_eq_left, exists_eq_left', eInt, eBool, lit_eq, upd_same, eDoc_len, eDoc_take, eDoc_dr, List.append_nil])
  all_goals first | exact ⟨(Sub.refl h).upd hr, by simp⟩ | exact (Sub.refl h).upd hr | (rename_i q; exact absurd rfl q)
end Go.Proofs.K
end
