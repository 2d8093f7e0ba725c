/- Texts of this claim, one behind the other. -/
import Derived.Test.YtmfechcelhchcaaDoorM4
import Derived.Shelf.Spec.SlicesInsert
import Derived.Shelf.Spec.SlicesInsertGrow
section
/- The editor: attr. -/
set_option linter.unusedSimpArgs false
set_option linter.unusedVariables false
namespace Go.Proofs.K
open Go Go.Sim Go.Proofs
variable {G : Glob}
theorem elem_zero {d : HDoc} {n : Int} (hz : elemE d n = 0) : inD d n ∧ (nd d n).kind = 2 := by
  unfold elemE at hz
  split at hz
  · omega
  · rename_i h
    have hn := Classical.not_not.1 h
    split at hz
    · omega
    · rename_i h2; exact ⟨hn, Classical.not_not.1 h2⟩
def c161 : SFun := ⟨(.seq (.reg [⟨(some 3), (.boxF 87 12 (.t 1)), none⟩, ⟨(some 4), (.mv (.c (.int .i64 (0)))), none⟩]) (.seq (.reg [⟨(some 9), (.mv (.t 0)), none⟩, ⟨(some 10), (.fldA 1 (.t 3)), none⟩, ⟨(some 11), (.ld 1 false (.t 10)), none⟩, ⟨(some 12), (.call (.c (.fn 178 [] [])) [(.t 9), (.t 11)]), none⟩, ⟨(some 8), (.mv (.t 12)), none⟩, ⟨(some 13), (.ext (.t 8) 0), none⟩, ⟨(some 14), (.ext (.t 8) 1), none⟩, ⟨(some 5), (.mv (.t 13)), none⟩, ⟨(some 6), (.mv (.t 14)), none⟩]) (.seq (.seq (.reg [⟨(some 15), (.mv (.t 6)), none⟩, ⟨(some 16), (.bin .neq (.t 15) (.c (.int .i64 (0)))), none⟩]) (.cond (.t 16) (.seq (.reg [⟨(some 17), (.mv (.t 6)), none⟩, ⟨(some 4), (.mv (.t 17)), none⟩]) .ret) .skip)) (.seq (.dreg [(⟨(some 18), (.mv (.t 5)), none⟩, none), (⟨(some 19), (.fldA 0 (.t 18)), none⟩, none), (⟨(some 20), (.fldA 2 (.t 19)), none⟩, none), (⟨(some 21), (.ld 1 false (.t 20)), none⟩, none), (⟨(some 22), (.fldA 4 (.t 3)), none⟩, none), (⟨(some 23), (.ld 1 false (.t 22)), none⟩, none), (⟨(some 24), (.call (.c (.fn 112 [] [])) [(.t 21), (.t 23)]), none⟩, (some [21, 23])), (⟨(some 7), (.mv (.t 24)), none⟩, none)]) (.seq (.block 0 (.seq (.reg [⟨(some 26), (.fldA 4 (.t 3)), none⟩, ⟨(some 27), (.ld 1 false (.t 26)), none⟩, ⟨(some 28), (.pcall 160 [(.t 27)]), none⟩, ⟨(some 29), (.un .not (.t 28)), none⟩, ⟨(some 25), (.mv (.t 29)), none⟩]) (.cond (.t 25) (.seq (.reg [⟨(some 4), (.mv (.c (.int .i64 (3)))), none⟩]) .ret) (.seq (.reg [⟨(some 31), (.fldA 5 (.t 3)), none⟩, ⟨(some 32), (.ld 1 false (.t 31)), none⟩, ⟨(some 33), (.lenS (.t 32)), none⟩, ⟨(some 34), (.bin .gtr (.t 33) (.c (.int .i64 (400)))), none⟩, ⟨(some 35), (.mv (.t 34)), none⟩, ⟨(some 36), (.mv (.t 7)), (some (35, false))⟩, ⟨(some 37), (.bin .lss (.t 36) (.c (.int .i64 (0)))), (some (35, false))⟩, ⟨(some 38), (.mv (.t 37)), (some (35, false))⟩, ⟨(some 39), (.mv (.t 5)), (some (38, true))⟩, ⟨(some 40), (.fldA 0 (.t 39)), (some (38, true))⟩, ⟨(some 41), (.fldA 2 (.t 40)), (some (38, true))⟩, ⟨(some 42), (.ld 1 false (.t 41)), (some (38, true))⟩, ⟨(some 43), (.len (.t 42)), (some (38, true))⟩, ⟨(some 44), (.bin .eql (.t 43) (.c (.int .i64 (12)))), (some (38, true))⟩, ⟨(some 45), (.pick (.t 38) (.t 44) (.c (.bool false))), (some (35, false))⟩, ⟨(some 46), (.pick (.t 35) (.c (.bool true)) (.t 45)), none⟩, ⟨(some 30), (.mv (.t 46)), none⟩]) (.cond (.t 30) (.seq (.reg [⟨(some 4), (.mv (.c (.int .i64 (2)))), none⟩]) .ret) (.seq (.reg [⟨(some 48), (.mv (.t 7)), none⟩, ⟨(some 49), (.bin .lss (.t 48) (.c (.int .i64 (0)))), none⟩, ⟨(some 47), (.mv (.t 49)), none⟩]) (.cond (.t 47) (.seq (.dreg [(⟨(some 50), (.mv (.t 5)), none⟩, none), (⟨(some 51), (.mv (.t 5)), none⟩, none), (⟨(some 52), (.fldA 0 (.t 51)), none⟩, none), (⟨(some 53), (.fldA 2 (.t 52)), none⟩, none), (⟨(some 54), (.ld 1 false (.t 53)), none⟩, none), (⟨(some 55), (.fldA 4 (.t 3)), none⟩, none), (⟨(some 56), (.ld 1 false (.t 55)), none⟩, none), (⟨(some 57), (.bld [(.str []), (.str [])] [(0, (1, (.t 56)))]), none⟩, none), (⟨(some 58), (.bldF 122 2 [(.t 57)]), none⟩, none), (⟨(some 59), (.app 122 2 32 (.t 54) (.t 58)), none⟩, (some [54, 56])), (⟨(some 60), (.fldA 0 (.t 50)), none⟩, none), (⟨(some 61), (.fldA 2 (.t 60)), none⟩, none), (⟨none, (.st 1 (.t 61) (.t 59)), none⟩, (some [54, 56]))]) (.reg [⟨(some 62), (.mv (.t 5)), none⟩, ⟨(some 63), (.fldA 0 (.t 62)), none⟩, ⟨(some 64), (.fldA 2 (.t 63)), none⟩, ⟨(some 65), (.ld 1 false (.t 64)), none⟩, ⟨(some 66), (.len (.t 65)), none⟩, ⟨(some 67), (.bin .sub (.t 66) (.c (.int .i64 (1)))), none⟩, ⟨(some 7), (.mv (.t 67)), none⟩])) .skip))))))) (.seq (.dreg [(⟨(some 68), (.mv (.t 5)), none⟩, none), (⟨(some 69), (.fldA 0 (.t 68)), none⟩, none), (⟨(some 70), (.fldA 2 (.t 69)), none⟩, none), (⟨(some 71), (.ld 1 false (.t 70)), none⟩, none), (⟨(some 72), (.mv (.t 7)), none⟩, none), (⟨(some 73), (.fldA 5 (.t 3)), none⟩, none), (⟨(some 74), (.ld 1 false (.t 73)), none⟩, none), (⟨(some 75), (.idxA 2 (.t 71) (.t 72)), none⟩, none), (⟨(some 76), (.fldA 1 (.t 75)), none⟩, none), (⟨none, (.st 1 (.t 76) (.t 74)), none⟩, (some [71, 74]))]) (.seq (.reg [⟨(some 4), (.mv (.c (.int .i64 (0)))), none⟩]) .ret))))))), [(.tmp 4)]⟩
theorem hc161 : toSF Tryd.prog {pure := [160]} Tryd.f161 = some c161 := by kernel_rfl
theorem hn161 : (Tryd.f161.name == "runtime.NumGoroutine") = false := by kernel_rfl
theorem eattr_ok {h0 h : Heap} {re rN : Nat} {d : HDoc} {sl : Nat → AVal} {made : Int} (E : Ed h0 h re rN d sl made) (sm : DocSm d) (al12 : ∀ n, inD d n → (nd d n).attrs.length ≤ 12) (e : HEdit) (he : EditSm e) (hdo : e.do' = 1) : DCalls (Pg G) 161 [.vp re 0, .agg (eEdit e)] h (EdR h0 h re d e made) := by
  have gN := E.dw.nodes
  have hE := element_ok (G := G) E e.at'
  have vl := he.value
  have eE : editE d e = if ¬ inD d e.at' then 5 else if (nd d e.at').kind ≠ 2 then 7 else if nameOK false e.name = false then 3
    else if 400 < e.value.length ∨ (¬ 0 ≤ attrAt (nd d e.at').attrs e.name ∧ (nd d e.at').attrs.length = 12) then 2 else 0 := by unfold editE; rw [if_pos hdo]
  have eD : editD d e = setN d e.at' { nd d e.at' with attrs := setAttr (nd d e.at').attrs e.name e.value } := by unfold editD; rw [if_pos hdo]
  have hm4 : made = if e.do' = 4 then (d.nodes.length : Int) else made := by rw [if_neg (by omega)]
  have hAN := attrName_ok (G := G) e.name he.name
  refine dcalls_of_vc Tryd.func161 hn161 hc161 (by rw [Tryd.ntmps161]; simp) (by rw [Tryd.ntmps161]; decide) ?_
  simp -dsimp -implicitDefEqProofs (disch := omega) only [↓vcOps_sp 35, ↓vcD_sp 35, ↓vcOps_sp 38, ↓vcD_sp 38, VCA, pg_gl, ↓upd_none, Nat.reduceEqDiff, Nat.reduceBEq, Nat.reduceAdd, Nat.reduceSub, Nat.reduceMul, Nat.reduceLT, Nat.reduceLeDiff, ↓reduceIte, reduceCtorEq, rsOf, rootsOf, SOp.rd, SI.rd, SX.rd, rdL, rdO, rdP, okParts, eqCells, okEqCells, fillA, okFill, setAt, implies_true, forall_const, forall_eq, ne_eq, exists_eq_right_right, exists_eq_right, exists_eq_left, exists_eq_left', eInt, eBool, lit_eq, c161, eEdit]
  by_cases hz : elemE d e.at' = 0
  · obtain ⟨hn, hk⟩ := elem_zero hz
    rw [hz, if_pos rfl] at hE
    rw [if_neg (by simpa using hn), if_neg (by simpa using hk)] at eE
    have hn' := hn.nat.1
    have gk := rowsA_get (sl := sl) hn'
    have rl := rowsA_len d sl
    have e0 : nth d.nodes e.at'.toNat = nd d e.at' := rfl
    rw [e0] at gk
    obtain ⟨oA, oK⟩ := E.dw.own _ hn'
    rw [e0] at oA
    have al := (sm.nd e.at').attrs
    have a12 := al12 _ hn
    have hF := find_own (G := G) oA e.name al
    have lv := E.live (2 * e.at'.toNat) (by omega)
    unfold rowA at gk
    have oL := oA.len.1
    have oL2 := oA.len.2
    rw [List.length_map] at oL
    by_cases h3 : nameOK false e.name = false
    · rw [if_pos h3] at eE
      rw [h3] at hAN
      refine DCalls.of hE ?_
      rintro _ hh ⟨rfl, rfl⟩
      repeat' (first | ((with_reducible refine Br.dec (fun _ => ?_) (fun _ => ?_)) <;> try (exfalso; omega)) | ((with_reducible refine Br.eq (fun _ => ?_) (fun _ => ?_)) <;> try (exfalso; omega)) | ((with_reducible refine Br.ne (fun _ => ?_) (fun _ => ?_)) <;> try (exfalso; omega)) | ((with_reducible refine brNdec (fun _ => ?_) (fun _ => ?_)) <;> try (exfalso; omega)) | ((with_reducible refine brNeq (fun _ => ?_) (fun _ => ?_)) <;> try (exfalso; omega)) | with_reducible refine Br.intro (fun _ => ?_) (fun _ => ?_) | ((refine DCalls.of hF ?_; rintro _ hh ⟨rfl, rfl⟩)) | (with_reducible apply pcallE.of; · exact hAN) | (with_reducible refine And.intro ?_ ?_; · omega) | simp -dsimp -implicitDefEqProofs (disch := omega) only [↓vcOps_sp 35, ↓vcD_sp 35, ↓vcOps_sp 38, ↓vcD_sp 38, VCA, pg_gl, ↓upd_none, Nat.reduceEqDiff, Nat.reduceBEq, Nat.reduceAdd, Nat.reduceSub, Nat.reduceMul, Nat.reduceLT, Nat.reduceLeDiff, ↓reduceIte, reduceCtorEq, rsOf, rootsOf, SOp.rd, SI.rd, SX.rd, rdL, rdO, rdP, okParts, eqCells, okEqCells, fillA, okFill, setAt, implies_true, forall_const, forall_eq, ne_eq, exists_eq_right_right, exists_eq_right, exists_eq_left, exists_eq_left', eInt, eBool, lit_eq, gN, gk, rl, e0, eEdit])
      all_goals first | (exfalso; omega) | exact ⟨_, Sub.refl _, EdR.bad eE (by decide)⟩
    · rw [if_neg h3] at eE
      have h3' : nameOK false e.name = true := by simpa using h3
      rw [h3'] at hAN
      by_cases h2 : 400 < e.value.length ∨ (¬ 0 ≤ attrAt (nd d e.at').attrs e.name ∧ (nd d e.at').attrs.length = 12)
      · rw [if_pos h2] at eE
        refine DCalls.of hE ?_
        rintro _ hh ⟨rfl, rfl⟩
        repeat' (first | ((with_reducible refine Br.dec (fun _ => ?_) (fun _ => ?_)) <;> try (exfalso; omega)) | ((with_reducible refine Br.eq (fun _ => ?_) (fun _ => ?_)) <;> try (exfalso; omega)) | ((with_reducible refine Br.ne (fun _ => ?_) (fun _ => ?_)) <;> try (exfalso; omega)) | ((with_reducible refine brNdec (fun _ => ?_) (fun _ => ?_)) <;> try (exfalso; omega)) | ((with_reducible refine brNeq (fun _ => ?_) (fun _ => ?_)) <;> try (exfalso; omega)) | with_reducible refine Br.intro (fun _ => ?_) (fun _ => ?_) | ((refine DCalls.of hF ?_; rintro _ hh ⟨rfl, rfl⟩)) | (with_reducible apply pcallE.of; · exact hAN) | (with_reducible refine And.intro ?_ ?_; · omega) | simp -dsimp -implicitDefEqProofs (disch := omega) only [↓vcOps_sp 35, ↓vcD_sp 35, ↓vcOps_sp 38, ↓vcD_sp 38, VCA, pg_gl, ↓upd_none, Nat.reduceEqDiff, Nat.reduceBEq, Nat.reduceAdd, Nat.reduceSub, Nat.reduceMul, Nat.reduceLT, Nat.reduceLeDiff, ↓reduceIte, reduceCtorEq, rsOf, rootsOf, SOp.rd, SI.rd, SX.rd, rdL, rdO, rdP, okParts, eqCells, okEqCells, fillA, okFill, setAt, implies_true, forall_const, forall_eq, ne_eq, exists_eq_right_right, exists_eq_right, exists_eq_left, exists_eq_left', eInt, eBool, lit_eq, gN, gk, rl, e0, eEdit, oL, oL2])
        all_goals first | (exfalso; omega) | exact ⟨_, Sub.refl _, EdR.bad eE (by decide)⟩ | trace_state
      · rw [if_neg h2] at eE
        by_cases hi0 : 0 ≤ attrAt (nd d e.at').attrs e.name
        · obtain ⟨g1, g2, g3⟩ := attrAt_spec _ _ hi0
          have hsa : setAttr (nd d e.at').attrs e.name e.value = (nd d e.at').attrs.set (attrAt (nd d e.at').attrs e.name).toNat ⟨e.name, e.value⟩ := by unfold setAttr; rw [if_pos hi0]
          rw [← g3] at hF
          rcases oA.live lv with ⟨q, _⟩ | ⟨r, es, ha, hr, hl, ht⟩
          · have : (nd d e.at').attrs = [] := by simpa using q
            rw [this] at g1; simp at g1
          · rw [List.length_map] at ha hl ht
            have IA := fun h1 => E.inA hn' (h1 := h1) (l' := setAttr (nd d e.at').attrs e.name e.value)
            have hnr : ¬ rN = r := fun h => (E.root_ne (k := 2 * e.at'.toNat) (by omega) (by rw [ha]; rfl)).1 h.symm
            have gi := getD_take_enc ht g1
            have ga : eAttr (nth (nd d e.at').attrs (attrAt (nd d e.at').attrs e.name).toNat) = [.str e.name, .str (nth (nd d e.at').attrs (attrAt (nd d e.at').attrs e.name).toNat).value] := by unfold eAttr; rw [g2]
            rw [ga] at gi
            rw [ha] at gk hF IA oL oL2
            generalize (attrAt (nd d e.at').attrs e.name).toNat = i at *
            refine DCalls.of hE ?_
            rintro _ hh ⟨rfl, rfl⟩
            repeat' (first | ((with_reducible refine Br.dec (fun _ => ?_) (fun _ => ?_)) <;> try (exfalso; omega)) | ((with_reducible refine Br.eq (fun _ => ?_) (fun _ => ?_)) <;> try (exfalso; omega)) | ((with_reducible refine Br.ne (fun _ => ?_) (fun _ => ?_)) <;> try (exfalso; omega)) | ((with_reducible refine brNdec (fun _ => ?_) (fun _ => ?_)) <;> try (exfalso; omega)) | ((with_reducible refine brNeq (fun _ => ?_) (fun _ => ?_)) <;> try (exfalso; omega)) | with_reducible refine Br.intro (fun _ => ?_) (fun _ => ?_) | ((refine DCalls.of hF ?_; rintro _ hh ⟨rfl, rfl⟩)) | (with_reducible apply pcallE.of; · exact hAN) | (with_reducible refine And.intro ?_ ?_; · omega) | simp -dsimp -implicitDefEqProofs (disch := omega) only [↓vcOps_sp 35, ↓vcD_sp 35, ↓vcOps_sp 38, ↓vcD_sp 38, VCA, pg_gl, ↓upd_none, Nat.reduceEqDiff, Nat.reduceBEq, Nat.reduceAdd, Nat.reduceSub, Nat.reduceMul, Nat.reduceLT, Nat.reduceLeDiff, ↓reduceIte, reduceCtorEq, rsOf, rootsOf, SOp.rd, SI.rd, SX.rd, rdL, rdO, rdP, okParts, eqCells, okEqCells, fillA, okFill, setAt, implies_true, forall_const, forall_eq, ne_eq, exists_eq_right_right, exists_eq_right, exists_eq_left, exists_eq_left', eInt, eBool, lit_eq, gN, gk, rl, e0, eEdit, hr, gi])
            all_goals try (exfalso; omega)
            have hO : OwnS (upd hh r (some ⟨122, 2, es.set i [.str e.name, .str e.value]⟩)) 122 2 ((setAttr (nd d e.at').attrs e.name e.value).map eAttr) (.osl r 2 0 (nd d e.at').attrs.length) :=
              .inr (.inr ⟨r, _, by rw [hsa, List.length_map, List.length_set], upd_same _ _ _, by rw [hsa, List.length_map, List.length_set, List.length_set]; exact hl, by
                rw [hsa, List.length_map, List.length_set, List.take_set, ht, List.map_set]; rfl⟩)
            exact ⟨_, Sub.refl _, EdR.good eE hm4 (by rw [eD]; exact IA _ (fun t o ho hne => by rw [upd_ne _ _ (fun e => hne (by rw [e]; rfl))]; exact ho) hO)⟩
        · have hsa : setAttr (nd d e.at').attrs e.name e.value = (nd d e.at').attrs ++ [⟨e.name, e.value⟩] := by unfold setAttr; rw [if_neg hi0]
          refine DCalls.of hE ?_
          rintro _ hh ⟨rfl, rfl⟩
          repeat' (first | ((with_reducible refine Br.dec (fun _ => ?_) (fun _ => ?_)) <;> try (exfalso; omega)) | ((with_reducible refine Br.eq (fun _ => ?_) (fun _ => ?_)) <;> try (exfalso; omega)) | ((with_reducible refine Br.ne (fun _ => ?_) (fun _ => ?_)) <;> try (exfalso; omega)) | ((with_reducible refine brNdec (fun _ => ?_) (fun _ => ?_)) <;> try (exfalso; omega)) | ((with_reducible refine brNeq (fun _ => ?_) (fun _ => ?_)) <;> try (exfalso; omega)) | with_reducible refine Br.intro (fun _ => ?_) (fun _ => ?_) | ((refine DCalls.of hF ?_; rintro _ hh ⟨rfl, rfl⟩)) | (with_reducible apply pcallE.of; · exact hAN) | (with_reducible refine And.intro ?_ ?_; · omega) | simp -dsimp -implicitDefEqProofs (disch := omega) only [↓vcOps_sp 35, ↓vcD_sp 35, ↓vcOps_sp 38, ↓vcD_sp 38, VCA, pg_gl, ↓upd_none, Nat.reduceEqDiff, Nat.reduceBEq, Nat.reduceAdd, Nat.reduceSub, Nat.reduceMul, Nat.reduceLT, Nat.reduceLeDiff, ↓reduceIte, reduceCtorEq, rsOf, rootsOf, SOp.rd, SI.rd, SX.rd, rdL, rdO, rdP, okParts, eqCells, okEqCells, fillA, okFill, setAt, implies_true, forall_const, forall_eq, ne_eq, exists_eq_right_right, exists_eq_right, exists_eq_left, exists_eq_left', eInt, eBool, lit_eq, gN, gk, rl, e0, eEdit, oL, oL2])
          all_goals try (exfalso; omega)
          refine OwnS.app oA lv (by rw [List.length_map]; simp; omega) (by rw [List.length_map]; simp; omega) fun r h9 hr hf kp => ?_
          rw [List.length_map]
          have nr : ∀ t, rootOf (sl (2 * e.at'.toNat)) = some t → t ≠ rN := fun t ht => (E.root_ne (by omega) ht).1
          have gN9 := kp rN _ gN (fun h => nr _ h rfl)
          have hnr : ¬ r = rN := fun h => by
            rcases hf with h1 | h1
            · exact nr _ h1 h
            · rw [h, gN] at h1; cases h1
          have hnr2 : ¬ rN = r := fun h => hnr h.symm
          have ln : ((nd d e.at').attrs.map eAttr).length = (nd d e.at').attrs.length := List.length_map ..
          have gg : ((nd d e.at').attrs.map eAttr ++ [[AVal.str e.name, AVal.str []]]).getD (nd d e.at').attrs.length [] = [AVal.str e.name, AVal.str []] := by
            rw [List.getD_eq_getElem?_getD, List.getElem?_append_right (by omega), ln]; simp
          have lx : ((nd d e.at').attrs.length : Int) + 1 - 1 = (nd d e.at').attrs.length := by omega
          have ly : (((nd d e.at').attrs.length : Int)).toNat = (nd d e.at').attrs.length := by omega
          repeat' (first | ((with_reducible refine Br.dec (fun _ => ?_) (fun _ => ?_)) <;> try (exfalso; omega)) | ((with_reducible refine Br.eq (fun _ => ?_) (fun _ => ?_)) <;> try (exfalso; omega)) | ((with_reducible refine Br.ne (fun _ => ?_) (fun _ => ?_)) <;> try (exfalso; omega)) | ((with_reducible refine brNdec (fun _ => ?_) (fun _ => ?_)) <;> try (exfalso; omega)) | ((with_reducible refine brNeq (fun _ => ?_) (fun _ => ?_)) <;> try (exfalso; omega)) | with_reducible refine Br.intro (fun _ => ?_) (fun _ => ?_) | (with_reducible refine And.intro ?_ ?_; · omega) | simp -dsimp -implicitDefEqProofs (disch := omega) only [↓vcOps_sp 35, ↓vcD_sp 35, ↓vcOps_sp 38, ↓vcD_sp 38, VCA, pg_gl, ↓upd_none, Nat.reduceEqDiff, Nat.reduceBEq, Nat.reduceAdd, Nat.reduceSub, Nat.reduceMul, Nat.reduceLT, Nat.reduceLeDiff, ↓reduceIte, reduceCtorEq, rsOf, rootsOf, SOp.rd, SI.rd, SX.rd, rdL, rdO, rdP, okParts, eqCells, okEqCells, fillA, okFill, setAt, implies_true, forall_const, forall_eq, ne_eq, exists_eq_right_right, exists_eq_right, exists_eq_left, exists_eq_left', eInt, eBool, lit_eq, gN, gN9, gk, rl, e0, hr, hnr, hnr2, gg, lx, ly, getD_set_same, set_set_same, List.length_set, List.length_append, ln, List.length_cons, List.length_nil])
          have O9 : OwnS h9 122 2 (((nd d e.at').attrs ++ [(⟨e.name, []⟩ : HAttr)]).map eAttr) (.osl r 2 0 ((nd d e.at').attrs.length + 1)) :=
            .inr (.inr ⟨r, _, by simp, hr, by simp, by rw [List.take_of_length_le (by simp)]; simp [eAttr]⟩)
          have E1 := E.slotA hn' kp O9 (fun es e => by cases e) (fun t ht => by cases ht; exact hf)
          rw [e0] at E1
          have s1 : upd sl (2 * e.at'.toNat) (.osl r 2 0 ((nd d e.at').attrs.length + 1)) (2 * e.at'.toNat) = .osl r 2 0 ((nd d e.at').attrs.length + 1) := upd_same _ _ _
          have IA := fun h1 => E1.inA (i := e.at'.toNat) (by simpa using hn') (h1 := h1) (l' := setAttr (nd d e.at').attrs e.name e.value)
          rw [s1] at IA
          have sd : ∀ (l : List HAttr), (⟨(d.nodes.set e.at'.toNat { nd d e.at' with attrs := (nd d e.at').attrs ++ [(⟨e.name, []⟩ : HAttr)] }).set e.at'.toNat { nth (d.nodes.set e.at'.toNat { nd d e.at' with attrs := (nd d e.at').attrs ++ [(⟨e.name, []⟩ : HAttr)] }) e.at'.toNat with attrs := l }, d.quirks⟩ : HDoc) = setN d e.at' { nd d e.at' with attrs := l } := fun l => by
            rw [nth_set _ _ _ _ hn', if_pos rfl, List.set_set]; rfl
          simp only [sd] at IA
          have hO : ∀ h8 : Heap, OwnS (upd h8 r (some ⟨122, 2, ((nd d e.at').attrs.map eAttr ++ [[AVal.str e.name, AVal.str []]]).set (nd d e.at').attrs.length [AVal.str e.name, AVal.str e.value]⟩)) 122 2 ((setAttr (nd d e.at').attrs e.name e.value).map eAttr) (.osl r 2 0 ((nd d e.at').attrs.length + 1)) := fun h8 =>
            .inr (.inr ⟨r, _, by rw [hsa]; simp, upd_same _ _ _, by rw [hsa]; simp, by
              rw [hsa, List.take_of_length_le (by simp), List.set_append_right _ _ (by simp)]
              simp [eAttr]⟩)
          refine ⟨_, Sub.refl _, EdR.good eE hm4 (by rw [eD]; exact IA _ (fun t o ho hne => by rw [upd_ne _ _ (fun e => hne (by rw [e]; rfl))]; exact ho) (hO _))⟩
  · rw [if_neg hz] at hE
    have eE2 : editE d e = elemE d e.at' := by
      unfold elemE at hz ⊢
      rw [eE]
      by_cases hn : inD d e.at'
      · rw [if_neg (by simpa using hn)] at hz ⊢
        by_cases hk : (nd d e.at').kind ≠ 2
        · rw [if_neg (show ¬ ¬ inD d e.at' from fun h => h hn)]; rw [if_pos hk]
          try rw [if_pos hk]
        · rw [if_neg hk] at hz; exact absurd rfl hz
      · rw [if_pos hn, if_pos hn]
    refine DCalls.of hE ?_
    rintro _ hh ⟨rfl, rfl⟩
    repeat' (first | ((with_reducible refine Br.dec (fun _ => ?_) (fun _ => ?_)) <;> try (exfalso; omega)) | ((with_reducible refine Br.eq (fun _ => ?_) (fun _ => ?_)) <;> try (exfalso; omega)) | ((with_reducible refine Br.ne (fun _ => ?_) (fun _ => ?_)) <;> try (exfalso; omega)) | ((with_reducible refine brNdec (fun _ => ?_) (fun _ => ?_)) <;> try (exfalso; omega)) | ((with_reducible refine brNeq (fun _ => ?_) (fun _ => ?_)) <;> try (exfalso; omega)) | with_reducible refine Br.intro (fun _ => ?_) (fun _ => ?_) | (with_reducible refine And.intro ?_ ?_; · omega) | simp -dsimp -implicitDefEqProofs (disch := omega) only [↓vcOps_sp 35, ↓vcD_sp 35, ↓vcOps_sp 38, ↓vcD_sp 38, VCA, pg_gl, ↓upd_none, Nat.reduceEqDiff, Nat.reduceBEq, Nat.reduceAdd, Nat.reduceSub, Nat.reduceMul, Nat.reduceLT, Nat.reduceLeDiff, ↓reduceIte, reduceCtorEq, rsOf, rootsOf, SOp.rd, SI.rd, SX.rd, rdL, rdO, rdP, okParts, eqCells, okEqCells, fillA, okFill, setAt, implies_true, forall_const, forall_eq, ne_eq, exists_eq_right_right, exists_eq_right, exists_eq_left, exists_eq_left', eInt, eBool, lit_eq, hz])
    all_goals exact ⟨_, Sub.refl _, EdR.bad eE2 hz⟩
end Go.Proofs.K
end
section
/- The editor: remove, below, deep. -/
set_option linter.unusedSimpArgs false
set_option linter.unusedVariables false
namespace Go.Proofs.K
open Go Go.Sim Go.Proofs
variable {G : Glob}
theorem index_own {h : Heap} {l : List Int} {a : AVal} (O : OwnS h 3 1 (l.map eInt) a) (x : Int) (hl : l.length ≤ 1073741824) : DCalls (Pg G) 77 [a, aInt x] h fun r h' => r = aInt (idxM (· == x) l) ∧ h' = h :=
  DCalls.bor (hasII_ok (G := G) l x hl) (.int _ _) (.cons O.vw (.cons (.refl _) .nil))
theorem getD_set_ne {es : List (List AVal)} {j k : Nat} {x : List AVal} (hk : j ≠ k) : (es.set j x).getD k [] = es.getD k [] := by
  rw [List.getD_eq_getElem?_getD, List.getElem?_set, if_neg hk, List.getD_eq_getElem?_getD]
theorem Dw.rows_eq {X : List Nat} {h0 h1 : Heap} {rN : Nat} {d : HDoc} {sl : Nat → AVal} {T Z : Nat} {es : List (List AVal)} (E : Dw X h0 (upd h1 rN (some ⟨T, Z, es⟩)) rN d sl) : es = rowsA d sl := by
  have nn := E.nodes
  rw [upd_same] at nn
  exact congrArg AObj.es (Option.some.inj nn)
def c166 : SFun := ⟨(.seq (.reg [⟨(some 3), (.boxF 87 12 (.t 1)), none⟩, ⟨(some 4), (.mv (.c (.int .i64 (0)))), none⟩]) (.seq (.reg [⟨(some 8), (.mv (.t 0)), none⟩, ⟨(some 9), (.fldA 1 (.t 3)), none⟩, ⟨(some 10), (.ld 1 false (.t 9)), none⟩, ⟨(some 11), (.call (.c (.fn 180 [] [])) [(.t 8), (.t 10)]), none⟩, ⟨(some 5), (.mv (.t 11)), none⟩]) (.seq (.block 0 (.seq (.reg [⟨(some 13), (.mv (.t 5)), none⟩, ⟨(some 14), (.isnil 1 false (.t 13)), none⟩, ⟨(some 12), (.mv (.t 14)), none⟩]) (.cond (.t 12) (.seq (.reg [⟨(some 4), (.mv (.c (.int .i64 (5)))), none⟩]) .ret) (.seq (.reg [⟨(some 16), (.mv (.t 5)), none⟩, ⟨(some 17), (.fldA 0 (.t 16)), none⟩, ⟨(some 18), (.fldA 0 (.t 17)), none⟩, ⟨(some 19), (.ld 1 false (.t 18)), none⟩, ⟨(some 20), (.bin .eql (.t 19) (.c (.int .i64 (1)))), none⟩, ⟨(some 15), (.mv (.t 20)), none⟩]) (.cond (.t 15) (.seq (.reg [⟨(some 4), (.mv (.c (.int .i64 (7)))), none⟩]) .ret) (.seq (.reg [⟨(some 22), (.mv (.t 5)), none⟩, ⟨(some 23), (.fldA 0 (.t 22)), none⟩, ⟨(some 24), (.fldA 4 (.t 23)), none⟩, ⟨(some 25), (.ld 1 false (.t 24)), none⟩, ⟨(some 26), (.bin .lss (.t 25) (.c (.int .i64 (0)))), none⟩, ⟨(some 21), (.mv (.t 26)), none⟩]) (.cond (.t 21) (.seq (.reg [⟨(some 4), (.mv (.c (.int .i64 (5)))), none⟩]) .ret) .skip))))))) (.seq (.dreg [(⟨(some 27), (.mv (.t 0)), none⟩, none), (⟨(some 28), (.fldA 0 (.t 27)), none⟩, none), (⟨(some 29), (.fldA 0 (.t 28)), none⟩, none), (⟨(some 30), (.fldA 0 (.t 29)), none⟩, none), (⟨(some 31), (.ld 1 false (.t 30)), none⟩, none), (⟨(some 32), (.mv (.t 5)), none⟩, none), (⟨(some 33), (.fldA 0 (.t 32)), none⟩, none), (⟨(some 34), (.fldA 4 (.t 33)), none⟩, none), (⟨(some 35), (.ld 1 false (.t 34)), none⟩, none), (⟨(some 36), (.idxA 6 (.t 31) (.t 35)), none⟩, none), (⟨(some 6), (.mv (.t 36)), none⟩, none)]) (.seq (.dreg [(⟨(some 37), (.mv (.t 6)), none⟩, none), (⟨(some 38), (.fldA 0 (.t 37)), none⟩, none), (⟨(some 39), (.fldA 5 (.t 38)), none⟩, none), (⟨(some 40), (.ld 1 false (.t 39)), none⟩, none), (⟨(some 41), (.fldA 1 (.t 3)), none⟩, none), (⟨(some 42), (.ld 1 false (.t 41)), none⟩, none), (⟨(some 43), (.call (.c (.fn 77 [] [])) [(.t 40), (.t 42)]), none⟩, (some [40, 42])), (⟨(some 7), (.mv (.t 43)), none⟩, none)]) (.seq (.reg [⟨(some 44), (.mv (.t 6)), none⟩, ⟨(some 45), (.mv (.t 5)), none⟩, ⟨(some 46), (.mv (.t 6)), none⟩, ⟨(some 47), (.fldA 0 (.t 46)), none⟩, ⟨(some 48), (.fldA 5 (.t 47)), none⟩, ⟨(some 49), (.ld 1 false (.t 48)), none⟩, ⟨(some 50), (.mv (.t 7)), none⟩, ⟨(some 51), (.mv (.t 7)), none⟩, ⟨(some 52), (.bin .add (.t 51) (.c (.int .i64 (1)))), none⟩, ⟨(some 53), (.call (.c (.fn 183 [] [])) [(.t 49), (.t 50), (.t 52)]), none⟩, ⟨(some 54), (.fldA 0 (.t 44)), none⟩, ⟨(some 55), (.fldA 5 (.t 54)), none⟩, ⟨none, (.st 1 (.t 55) (.t 53)), none⟩, ⟨(some 56), (.fldA 0 (.t 45)), none⟩, ⟨(some 57), (.fldA 4 (.t 56)), none⟩, ⟨none, (.st 1 (.t 57) (.c (.int .i64 (-1)))), none⟩]) (.seq (.reg [⟨(some 4), (.mv (.c (.int .i64 (0)))), none⟩]) .ret))))))), [(.tmp 4)]⟩
theorem hc166 : toSF Tryd.prog {} Tryd.f166 = some c166 := by kernel_rfl
theorem hn166 : (Tryd.f166.name == "runtime.NumGoroutine") = false := by kernel_rfl
theorem eremove_ok {h0 h : Heap} {re rN : Nat} {d : HDoc} {sl : Nat → AVal} {made : Int} (E : Ed h0 h re rN d sl made) (V : DV d) (sm : DocSm d) (e : HEdit) (he : EditSm e) (hdo : e.do' = 6) : DCalls (Pg G) 166 [.vp re 0, .agg (eEdit e)] h (EdR h0 h re d e made) := by
  have gN := E.dw.nodes
  have gE := E.ed
  have ner := E.ne
  have hE := enode_ok (G := G) E e.at'
  unfold nodeP at hE
  have eE : editE d e = if ¬ inD d e.at' then 5 else if (nd d e.at').kind = 1 then 7 else if ¬ 0 ≤ (nd d e.at').parent then 5 else 0 := by unfold editE; rw [if_neg (by omega), if_neg (by omega), if_neg (by omega), if_neg (by omega), if_neg (by omega), if_pos hdo]
  have eD : editD d e = cutN d e.at' (idxM (· == e.at') (nd d (nd d e.at').parent).kids).toNat := by unfold editD; rw [if_neg (by omega), if_neg (by omega), if_neg (by omega), if_neg (by omega), if_neg (by omega)]
  have hm4 : made = if e.do' = 4 then (d.nodes.length : Int) else made := by rw [if_neg (by omega)]
  refine dcalls_of_vc Tryd.func166 hn166 hc166 (by rw [Tryd.ntmps166]; simp) (by rw [Tryd.ntmps166]; decide) ?_
  simp -dsimp -implicitDefEqProofs (disch := omega) only [VCA, pg_gl, ↓upd_none, Nat.reduceEqDiff, Nat.reduceBEq, Nat.reduceAdd, Nat.reduceSub, Nat.reduceMul, Nat.reduceLT, Nat.reduceLeDiff, ↓reduceIte, reduceCtorEq, rsOf, rootsOf, SOp.rd, SI.rd, SX.rd, rdL, rdO, rdP, okParts, eqCells, okEqCells, fillA, okFill, setAt, implies_true, forall_const, forall_eq, ne_eq, exists_eq_right_right, exists_eq_right, exists_eq_left, exists_eq_left', eInt, eBool, lit_eq, c166, eEdit]
  by_cases hn : inD d e.at'
  · rw [if_pos hn] at hE
    have hn' := hn.nat.1
    have gk := rowsA_get (sl := sl) hn'
    have rl := rowsA_len d sl
    have e0 : nth d.nodes e.at'.toNat = nd d e.at' := rfl
    rw [e0] at gk
    unfold rowA at gk
    rw [if_neg (by simpa using hn)] at eE
    by_cases hk : (nd d e.at').kind = 1
    · rw [if_pos hk] at eE
      refine DCalls.of hE ?_
      rintro _ hh ⟨rfl, rfl⟩
      repeat' (first | ((with_reducible refine Br.dec (fun _ => ?_) (fun _ => ?_)) <;> try (exfalso; omega)) | ((with_reducible refine Br.eq (fun _ => ?_) (fun _ => ?_)) <;> try (exfalso; omega)) | ((with_reducible refine Br.ne (fun _ => ?_) (fun _ => ?_)) <;> try (exfalso; omega)) | ((with_reducible refine brNdec (fun _ => ?_) (fun _ => ?_)) <;> try (exfalso; omega)) | ((with_reducible refine brNeq (fun _ => ?_) (fun _ => ?_)) <;> try (exfalso; omega)) | with_reducible refine Br.intro (fun _ => ?_) (fun _ => ?_) | (with_reducible refine And.intro ?_ ?_; · omega) | simp -dsimp -implicitDefEqProofs (disch := omega) only [VCA, pg_gl, ↓upd_none, Nat.reduceEqDiff, Nat.reduceBEq, Nat.reduceAdd, Nat.reduceSub, Nat.reduceMul, Nat.reduceLT, Nat.reduceLeDiff, ↓reduceIte, reduceCtorEq, rsOf, rootsOf, SOp.rd, SI.rd, SX.rd, rdL, rdO, rdP, okParts, eqCells, okEqCells, fillA, okFill, setAt, implies_true, forall_const, forall_eq, ne_eq, exists_eq_right_right, exists_eq_right, exists_eq_left, exists_eq_left', eInt, eBool, lit_eq, gN, gk, rl, e0, eEdit])
      all_goals first | (exfalso; omega) | exact ⟨_, Sub.refl _, EdR.bad eE (by decide)⟩
    · rw [if_neg hk] at eE
      by_cases hp : 0 ≤ (nd d e.at').parent
      · rw [if_neg (by simpa using hp)] at eE
        obtain ⟨hpi, hpm⟩ := V.par_in hn hp
        have hp' := hpi.nat.1
        have p1 := hpi.2
        have hne : (nd d e.at').parent ≠ e.at' := fun h => by have := V.up_par hn hp; rw [h] at this; omega
        have hnn : (nd d e.at').parent.toNat ≠ e.at'.toNat := by have := hn.1; omega
        have gp := rowsA_get (sl := sl) hp'
        have ep : nth d.nodes (nd d e.at').parent.toNat = nd d (nd d e.at').parent := rfl
        rw [ep] at gp
        unfold rowA at gp
        obtain ⟨oA, oK⟩ := E.dw.own _ hp'
        rw [ep] at oK
        have kl := (sm.nd (nd d e.at').parent).kids
        have hI := index_own (G := G) oK e.at' kl
        obtain ⟨i1, i2⟩ := idx_at hpm
        have i3 := (idx_mem (nd d (nd d e.at').parent).kids e.at').2 hpm
        have i4 : ((idxM (· == e.at') (nd d (nd d e.at').parent).kids).toNat : Int) = idxM (· == e.at') (nd d (nd d e.at').parent).kids := by omega
        rw [← i4] at hI
        have lv := E.live (2 * (nd d e.at').parent.toNat + 1) (by omega)
        rcases oK.live lv with ⟨q, _⟩ | ⟨r, es, ha, hr, hl, ht⟩
        · have : (nd d (nd d e.at').parent).kids = [] := by simpa using q
          rw [this] at i1; simp at i1
        · rw [List.length_map] at ha hl ht
          have hD := deleteZ_ok (G := G) (i := (idxM (· == e.at') (nd d (nd d e.at').parent).kids).toNat) (j := (idxM (· == e.at') (nd d (nd d e.at').parent).kids).toNat + 1) hr hl (by omega) (by omega) (by omega)
          have SK := fun h1 a' l' => E.slotK hp' (h1 := h1) (a' := a') (l' := l')
          rw [ha] at gp hI SK
          rw [ep] at SK
          have cdef : cutN d e.at' (idxM (· == e.at') (nd d (nd d e.at').parent).kids).toNat = setN (setN d (nd d e.at').parent { nd d (nd d e.at').parent with kids := (nd d (nd d e.at').parent).kids.take (idxM (· == e.at') (nd d (nd d e.at').parent).kids).toNat ++ (nd d (nd d e.at').parent).kids.drop ((idxM (· == e.at') (nd d (nd d e.at').parent).kids).toNat + 1) }) e.at' { nd d e.at' with parent := -1 } := rfl
          generalize (idxM (· == e.at') (nd d (nd d e.at').parent).kids).toNat = i at *
          have hnr : ¬ rN = r := fun h => (E.root_ne (k := 2 * (nd d e.at').parent.toNat + 1) (by omega) (by rw [ha]; rfl)).1 h.symm
          refine DCalls.of hE ?_
          rintro _ hh ⟨rfl, rfl⟩
          repeat' (first | ((with_reducible refine Br.dec (fun _ => ?_) (fun _ => ?_)) <;> try (exfalso; omega)) | ((with_reducible refine Br.eq (fun _ => ?_) (fun _ => ?_)) <;> try (exfalso; omega)) | ((with_reducible refine Br.ne (fun _ => ?_) (fun _ => ?_)) <;> try (exfalso; omega)) | ((with_reducible refine brNdec (fun _ => ?_) (fun _ => ?_)) <;> try (exfalso; omega)) | ((with_reducible refine brNeq (fun _ => ?_) (fun _ => ?_)) <;> try (exfalso; omega)) | with_reducible refine Br.intro (fun _ => ?_) (fun _ => ?_) | ((refine DCalls.of hI ?_; rintro _ hh ⟨rfl, rfl⟩)) | (with_reducible refine And.intro ?_ ?_; · omega) | simp -dsimp -implicitDefEqProofs (disch := omega) only [VCA, pg_gl, ↓upd_none, Nat.reduceEqDiff, Nat.reduceBEq, Nat.reduceAdd, Nat.reduceSub, Nat.reduceMul, Nat.reduceLT, Nat.reduceLeDiff, ↓reduceIte, reduceCtorEq, rsOf, rootsOf, SOp.rd, SI.rd, SX.rd, rdL, rdO, rdP, okParts, eqCells, okEqCells, fillA, okFill, setAt, implies_true, forall_const, forall_eq, ne_eq, exists_eq_right_right, exists_eq_right, exists_eq_left, exists_eq_left', eInt, eBool, lit_eq, gN, gE, gk, gp, rl, e0, ep, ner, eEdit])
          all_goals try (exfalso; omega)
          refine DCalls.of hD ?_
          rintro _ _ ⟨rfl, es', rfl, hl2, ht2⟩
          have gne := fun (x : List AVal) => getD_set_ne (es := rowsA d sl) (x := x) hnn
          repeat' (first | ((with_reducible refine Br.dec (fun _ => ?_) (fun _ => ?_)) <;> try (exfalso; omega)) | ((with_reducible refine Br.eq (fun _ => ?_) (fun _ => ?_)) <;> try (exfalso; omega)) | ((with_reducible refine Br.ne (fun _ => ?_) (fun _ => ?_)) <;> try (exfalso; omega)) | ((with_reducible refine brNdec (fun _ => ?_) (fun _ => ?_)) <;> try (exfalso; omega)) | ((with_reducible refine brNeq (fun _ => ?_) (fun _ => ?_)) <;> try (exfalso; omega)) | with_reducible refine Br.intro (fun _ => ?_) (fun _ => ?_) | (with_reducible refine And.intro ?_ ?_; · omega) | simp -dsimp -implicitDefEqProofs (disch := omega) only [VCA, pg_gl, ↓upd_none, Nat.reduceEqDiff, Nat.reduceBEq, Nat.reduceAdd, Nat.reduceSub, Nat.reduceMul, Nat.reduceLT, Nat.reduceLeDiff, ↓reduceIte, reduceCtorEq, rsOf, rootsOf, SOp.rd, SI.rd, SX.rd, rdL, rdO, rdP, okParts, eqCells, okEqCells, fillA, okFill, setAt, implies_true, forall_const, forall_eq, ne_eq, exists_eq_right_right, exists_eq_right, exists_eq_left, exists_eq_left', eInt, eBool, lit_eq, gN, gE, gk, gp, rl, e0, ep, ner, hnr, gne, List.length_set])
          have ln : ((nd d (nd d e.at').parent).kids.take i ++ (nd d (nd d e.at').parent).kids.drop (i + 1)).length = (nd d (nd d e.at').parent).kids.length - (i + 1 - i) := by
            rw [List.length_append, List.length_take, List.length_drop]; omega
          have hO : OwnS (upd hh r (some ⟨3, 1, es'⟩)) 3 1 (((nd d (nd d e.at').parent).kids.take i ++ (nd d (nd d e.at').parent).kids.drop (i + 1)).map eInt) (.osl r 1 0 ((nd d (nd d e.at').parent).kids.length - (i + 1 - i))) :=
            .inr (.inr ⟨r, es', by rw [List.length_map, ln], upd_same _ _ _, by rw [List.length_map, ln]; exact hl2, by
              rw [List.length_map, ln, ht2, List.map_append, List.map_take, List.map_drop, ← ht, List.take_take, Nat.min_eq_left (by omega)]⟩)
          have E1 := SK _ _ _ (fun t o ho hne => by rw [upd_ne _ _ (fun e => hne (by rw [e]; rfl))]; exact ho) hO (fun es e => by cases e) (fun t ht => .inl ht)
          have nn := E1.dw.rows_eq
          have n1 : nth (d.nodes.set (nd d e.at').parent.toNat { nd d (nd d e.at').parent with kids := (nd d (nd d e.at').parent).kids.take i ++ (nd d (nd d e.at').parent).kids.drop (i + 1) }) e.at'.toNat = nd d e.at' := by
            rw [nth_set _ _ _ _ hp', if_neg (fun h => hnn h.symm)]; rfl
          have E2 := E1.cells (i := e.at'.toNat) (by simpa using hn') (x' := { nd d e.at' with parent := -1 }) (by show _ = (nth (d.nodes.set _ _) _).attrs; rw [n1]) (by show _ = (nth (d.nodes.set _ _) _).kids; rw [n1])
          rw [← nn] at E2
          have v1 : upd sl (2 * (nd d e.at').parent.toNat + 1) (AVal.osl r 1 0 ((nd d (nd d e.at').parent).kids.length - (i + 1 - i))) (2 * e.at'.toNat) = sl (2 * e.at'.toNat) := upd_ne _ _ (by omega)
          have v2 : upd sl (2 * (nd d e.at').parent.toNat + 1) (AVal.osl r 1 0 ((nd d (nd d e.at').parent).kids.length - (i + 1 - i))) (2 * e.at'.toNat + 1) = sl (2 * e.at'.toNat + 1) := upd_ne _ _ (by omega)
          rw [v1, v2, upd_upd] at E2
          exact ⟨_, Sub.refl _, EdR.good eE hm4 (by rw [eD, cdef]; exact E2)⟩
      · rw [if_pos hp] at eE
        refine DCalls.of hE ?_
        rintro _ hh ⟨rfl, rfl⟩
        repeat' (first | ((with_reducible refine Br.dec (fun _ => ?_) (fun _ => ?_)) <;> try (exfalso; omega)) | ((with_reducible refine Br.eq (fun _ => ?_) (fun _ => ?_)) <;> try (exfalso; omega)) | ((with_reducible refine Br.ne (fun _ => ?_) (fun _ => ?_)) <;> try (exfalso; omega)) | ((with_reducible refine brNdec (fun _ => ?_) (fun _ => ?_)) <;> try (exfalso; omega)) | ((with_reducible refine brNeq (fun _ => ?_) (fun _ => ?_)) <;> try (exfalso; omega)) | with_reducible refine Br.intro (fun _ => ?_) (fun _ => ?_) | (with_reducible refine And.intro ?_ ?_; · omega) | simp -dsimp -implicitDefEqProofs (disch := omega) only [VCA, pg_gl, ↓upd_none, Nat.reduceEqDiff, Nat.reduceBEq, Nat.reduceAdd, Nat.reduceSub, Nat.reduceMul, Nat.reduceLT, Nat.reduceLeDiff, ↓reduceIte, reduceCtorEq, rsOf, rootsOf, SOp.rd, SI.rd, SX.rd, rdL, rdO, rdP, okParts, eqCells, okEqCells, fillA, okFill, setAt, implies_true, forall_const, forall_eq, ne_eq, exists_eq_right_right, exists_eq_right, exists_eq_left, exists_eq_left', eInt, eBool, lit_eq, gN, gk, rl, e0, eEdit])
        all_goals first | (exfalso; omega) | exact ⟨_, Sub.refl _, EdR.bad eE (by decide)⟩
  · rw [if_neg hn] at hE
    rw [if_pos hn] at eE
    refine DCalls.of hE ?_
    rintro _ hh ⟨rfl, rfl⟩
    repeat' (first | ((with_reducible refine Br.dec (fun _ => ?_) (fun _ => ?_)) <;> try (exfalso; omega)) | ((with_reducible refine Br.eq (fun _ => ?_) (fun _ => ?_)) <;> try (exfalso; omega)) | ((with_reducible refine Br.ne (fun _ => ?_) (fun _ => ?_)) <;> try (exfalso; omega)) | ((with_reducible refine brNdec (fun _ => ?_) (fun _ => ?_)) <;> try (exfalso; omega)) | ((with_reducible refine brNeq (fun _ => ?_) (fun _ => ?_)) <;> try (exfalso; omega)) | with_reducible refine Br.intro (fun _ => ?_) (fun _ => ?_) | (with_reducible refine And.intro ?_ ?_; · omega) | simp -dsimp -implicitDefEqProofs (disch := omega) only [VCA, pg_gl, ↓upd_none, Nat.reduceEqDiff, Nat.reduceBEq, Nat.reduceAdd, Nat.reduceSub, Nat.reduceMul, Nat.reduceLT, Nat.reduceLeDiff, ↓reduceIte, reduceCtorEq, rsOf, rootsOf, SOp.rd, SI.rd, SX.rd, rdL, rdO, rdP, okParts, eqCells, okEqCells, fillA, okFill, setAt, implies_true, forall_const, forall_eq, ne_eq, exists_eq_right_right, exists_eq_right, exists_eq_left, exists_eq_left', eInt, eBool, lit_eq])
    all_goals exact ⟨_, Sub.refl _, EdR.bad eE (by decide)⟩
end Go.Proofs.K
end
section
/- The editor: below, deep: readers of the whole. -/
set_option linter.unusedSimpArgs false
set_option linter.unusedVariables false
namespace Go.Proofs.K
open Go Go.Sim Go.Proofs
variable {G : Glob}
def edC (d : HDoc) (made : Int) : List AVal := [sl eNode d.nodes, .bool d.quirks, aInt made]
theorem Ed.vw {h0 h : Heap} {re rN : Nat} {d : HDoc} {sl : Nat → AVal} {made : Int} (E : Ed h0 h re rN d sl made) : Vw h (.vp re 0) (.pin (edC d made)) := by
  refine .vp _ _ _ (.ptr re 0 0 _ _ E.ed (by simp) (by simp [edC]) fun k a b ha hb => ?_)
  have F : F2 (Vw h) [AVal.osl rN 6 0 d.nodes.length, .bool d.quirks, aInt made] (edC d made) := .cons E.dw.vw (.cons (.refl _) (.cons (.refl _) .nil))
  exact F.get k a b ha hb
theorem Ed.vwD {h0 h : Heap} {re rN : Nat} {d : HDoc} {sl : Nat → AVal} {made : Int} (E : Ed h0 h re rN d sl made) : Vw h (.agg [.osl rN 6 0 d.nodes.length, .bool d.quirks]) (.agg (eDoc d)) :=
  Vw.agg' (.cons E.dw.vw (.cons (.refl _) .nil))
def c181 : SFun := ⟨(.seq (.reg [⟨(some 6), (.mv (.c (.bool false))), none⟩]) (.seq (.block 0 (.loop (.seq (.seq (.reg [⟨(some 7), (.mv (.t 1)), none⟩, ⟨(some 8), (.bin .geq (.t 7) (.c (.int .i64 (0)))), none⟩, ⟨(some 9), (.mv (.t 8)), none⟩, ⟨(some 10), (.mv (.t 1)), (some (9, true))⟩, ⟨(some 11), (.mv (.t 2)), (some (9, true))⟩, ⟨(some 12), (.bin .neq (.t 10) (.t 11)), (some (9, true))⟩, ⟨(some 13), (.pick (.t 9) (.t 12) (.c (.bool false))), none⟩]) (.cond (.t 13) .skip (.exit 0))) (.block 1 (.reg [⟨(some 14), (.mv (.t 0)), none⟩, ⟨(some 15), (.fldA 0 (.t 14)), none⟩, ⟨(some 16), (.fldA 0 (.t 15)), none⟩, ⟨(some 17), (.fldA 0 (.t 16)), none⟩, ⟨(some 18), (.ld 1 false (.t 17)), none⟩, ⟨(some 19), (.mv (.t 1)), none⟩, ⟨(some 20), (.idxA 6 (.t 18) (.t 19)), none⟩, ⟨(some 21), (.fldA 4 (.t 20)), none⟩, ⟨(some 22), (.ld 1 false (.t 21)), none⟩, ⟨(some 1), (.mv (.t 22)), none⟩]))))) (.seq (.reg [⟨(some 23), (.mv (.t 1)), none⟩, ⟨(some 24), (.mv (.t 2)), none⟩, ⟨(some 25), (.bin .eql (.t 23) (.t 24)), none⟩, ⟨(some 6), (.mv (.t 25)), none⟩]) .ret))), [(.tmp 6)]⟩
theorem hc181 : toSF Tryd.prog {} Tryd.f181 = some c181 := by kernel_rfl
theorem hn181 : (Tryd.f181.name == "runtime.NumGoroutine") = false := by kernel_rfl
theorem ebelow_ok (d : HDoc) (V : DV d) (made n top : Int) (hn : inD d n) (ht : 0 ≤ top) : PCalls (Pg G) 181 [.pin (edC d made), aInt n, aInt top] (.bool (decide (top ∈ chain d n))) := fun h => by
  have hl := V.len
  refine dcalls_of_vc Tryd.func181 hn181 hc181 (by rw [Tryd.ntmps181]; simp) (by rw [Tryd.ntmps181]; decide) ?_
  simp -dsimp -implicitDefEqProofs (disch := omega) only [↓vcOps_sp 9, ↓vcD_sp 9, VCA, pg_gl, ↓upd_none, Nat.reduceEqDiff, Nat.reduceBEq, Nat.reduceAdd, Nat.reduceSub, Nat.reduceMul, Nat.reduceLT, Nat.reduceLeDiff, ↓reduceIte, reduceCtorEq, rsOf, rootsOf, SOp.rd, SI.rd, SX.rd, rdL, rdO, rdP, okParts, eqCells, okEqCells, fillA, okFill, setAt, implies_true, forall_const, forall_eq, ne_eq, exists_eq_right_right, exists_eq_right, exists_eq_left, exists_eq_left', eInt, eBool, lit_eq, c181, edC]
  refine LoopVC.intro (fun m e h' => ∃ c : Int, m = (if c = -1 then 0 else up d c + 1) ∧ (c = -1 ∨ inD d c) ∧ e 1 = aInt c ∧ e 2 = aInt top ∧ e 0 = .pin (edC d made) ∧ h' = h ∧ (c = -1 → top ∉ chain d n) ∧ (inD d c → (top ∈ chain d n ↔ top ∈ chain d c))) _ ⟨n, rfl, .inr hn, rfl, rfl, rfl, rfl, fun e => by have := hn.1; omega, fun _ => Iff.rfl⟩ ?_
  rintro m e h' ⟨c, rfl, hc, he1, he2, he0, rfl, hno, hyes⟩
  by_cases h2 : c = -1
  · subst h2
    have h3 : ((-1 : Int) == top) = false := by simp; omega
    simp -dsimp -implicitDefEqProofs (disch := omega) only [↓vcOps_sp 9, ↓vcD_sp 9, VCA, pg_gl, ↓upd_none, Nat.reduceEqDiff, Nat.reduceBEq, Nat.reduceAdd, Nat.reduceSub, Nat.reduceMul, Nat.reduceLT, Nat.reduceLeDiff, ↓reduceIte, reduceCtorEq, rsOf, rootsOf, SOp.rd, SI.rd, SX.rd, rdL, rdO, rdP, okParts, eqCells, okEqCells, fillA, okFill, setAt, implies_true, forall_const, forall_eq, ne_eq, exists_eq_right_right, exists_eq_right, exists_eq_left, exists_eq_left', eInt, eBool, lit_eq, he1, he2, he0, h3]
    repeat' (first | ((with_reducible refine Br.dec (fun _ => ?_) (fun _ => ?_)) <;> try (exfalso; omega)) | ((with_reducible refine Br.eq (fun _ => ?_) (fun _ => ?_)) <;> try (exfalso; omega)) | ((with_reducible refine Br.ne (fun _ => ?_) (fun _ => ?_)) <;> try (exfalso; omega)) | ((with_reducible refine brNdec (fun _ => ?_) (fun _ => ?_)) <;> try (exfalso; omega)) | ((with_reducible refine brNeq (fun _ => ?_) (fun _ => ?_)) <;> try (exfalso; omega)) | with_reducible refine Br.intro (fun _ => ?_) (fun _ => ?_) | (with_reducible refine And.intro ?_ ?_; · omega) | simp -dsimp -implicitDefEqProofs (disch := omega) only [↓vcOps_sp 9, ↓vcD_sp 9, VCA, pg_gl, ↓upd_none, Nat.reduceEqDiff, Nat.reduceBEq, Nat.reduceAdd, Nat.reduceSub, Nat.reduceMul, Nat.reduceLT, Nat.reduceLeDiff, ↓reduceIte, reduceCtorEq, rsOf, rootsOf, SOp.rd, SI.rd, SX.rd, rdL, rdO, rdP, okParts, eqCells, okEqCells, fillA, okFill, setAt, implies_true, forall_const, forall_eq, ne_eq, exists_eq_right_right, exists_eq_right, exists_eq_left, exists_eq_left', eInt, eBool, lit_eq, he1, he2, he0, h3])
    exact ⟨Sub.refl _, by simp [hno rfl]⟩
  · have hc : inD d c := hc.resolve_left h2
    have hc0 := hc.1
    have hc1 := hc.2
    have e0 : nth d.nodes c.toNat = nd d c := rfl
    simp -dsimp -implicitDefEqProofs (disch := omega) only [↓vcOps_sp 9, ↓vcD_sp 9, VCA, pg_gl, ↓upd_none, Nat.reduceEqDiff, Nat.reduceBEq, Nat.reduceAdd, Nat.reduceSub, Nat.reduceMul, Nat.reduceLT, Nat.reduceLeDiff, ↓reduceIte, reduceCtorEq, rsOf, rootsOf, SOp.rd, SI.rd, SX.rd, rdL, rdO, rdP, okParts, eqCells, okEqCells, fillA, okFill, setAt, implies_true, forall_const, forall_eq, ne_eq, exists_eq_right_right, exists_eq_right, exists_eq_left, exists_eq_left', eInt, eBool, lit_eq, he1, he2, he0]
    repeat' (first | ((with_reducible refine Br.dec (fun _ => ?_) (fun _ => ?_)) <;> try (exfalso; omega)) | ((with_reducible refine Br.eq (fun _ => ?_) (fun _ => ?_)) <;> try (exfalso; omega)) | ((with_reducible refine Br.ne (fun _ => ?_) (fun _ => ?_)) <;> try (exfalso; omega)) | ((with_reducible refine brNdec (fun _ => ?_) (fun _ => ?_)) <;> try (exfalso; omega)) | ((with_reducible refine brNeq (fun _ => ?_) (fun _ => ?_)) <;> try (exfalso; omega)) | with_reducible refine Br.intro (fun _ => ?_) (fun _ => ?_) | (with_reducible refine And.intro ?_ ?_; · omega) | simp -dsimp -implicitDefEqProofs (disch := omega) only [↓vcOps_sp 9, ↓vcD_sp 9, VCA, pg_gl, ↓upd_none, Nat.reduceEqDiff, Nat.reduceBEq, Nat.reduceAdd, Nat.reduceSub, Nat.reduceMul, Nat.reduceLT, Nat.reduceLeDiff, ↓reduceIte, reduceCtorEq, rsOf, rootsOf, SOp.rd, SI.rd, SX.rd, rdL, rdO, rdP, okParts, eqCells, okEqCells, fillA, okFill, setAt, implies_true, forall_const, forall_eq, ne_eq, exists_eq_right_right, exists_eq_right, exists_eq_left, exists_eq_left', eInt, eBool, lit_eq, he1, he2, he0, edC, eNode, e0])
    · rename_i h0 h1
      refine ⟨_, ?_, (nd d c).parent, rfl, ?_, rfl, ?_, ?_⟩
      · rw [if_neg (show ¬ c = -1 by omega)]
        split
        · omega
        · rename_i hp
          have := V.up_par hc (by have := V.par c hc; unfold inD at this; omega)
          omega
      · rcases V.par c hc with h | h
        · exact .inl h
        · exact .inr h.1
      · intro hp
        rw [hyes hc, chain_top V (by omega)]
        simp; exact fun e => h1 e.symm
      · intro hp
        rw [hyes hc, chain_up V hc hp.1]
        simp; exact fun e => absurd e.symm h1
    · rename_i h0 h1
      subst h1
      exact ⟨Sub.refl _, by simp [(hyes hc).2 (chain_self _ _)]⟩
def c182 : SFun := ⟨(.seq (.reg [⟨(some 4), (.mv (.c (.int .i64 (0)))), none⟩]) (.seq (.seq (.reg [⟨(some 7), (.mv (.t 0)), none⟩, ⟨(some 8), (.fldA 0 (.t 7)), none⟩, ⟨(some 9), (.fldA 0 (.t 8)), none⟩, ⟨(some 10), (.fldA 0 (.t 9)), none⟩, ⟨(some 11), (.ld 1 false (.t 10)), none⟩, ⟨(some 12), (.mv (.t 1)), none⟩, ⟨(some 13), (.idxA 6 (.t 11) (.t 12)), none⟩, ⟨(some 14), (.fldA 5 (.t 13)), none⟩, ⟨(some 15), (.ld 1 false (.t 14)), none⟩, ⟨(some 16), (.len (.t 15)), none⟩, ⟨(some 17), (.mv (.c (.int .i64 (0)))), none⟩]) (.block 0 (.loop (.seq (.reg [⟨(some 18), (.bin .lss (.t 17) (.t 16)), none⟩]) (.seq (.cond (.t 18) .skip (.exit 0)) (.seq (.block 1 (.seq (.reg [⟨(some 19), (.idxA 1 (.t 15) (.t 17)), none⟩, ⟨(some 20), (.ld 1 false (.t 19)), none⟩, ⟨(some 6), (.mv (.t 20)), none⟩]) (.reg [⟨(some 21), (.mv (.t 4)), none⟩, ⟨(some 22), (.mv (.t 0)), none⟩, ⟨(some 23), (.mv (.t 6)), none⟩, ⟨(some 24), (.pcall 182 [(.t 22), (.t 23)]), none⟩, ⟨(some 25), (.bin .add (.t 24) (.c (.int .i64 (1)))), none⟩, ⟨(some 26), (.max2 (.t 21) (.t 25)), none⟩, ⟨(some 4), (.mv (.t 26)), none⟩]))) (.reg [⟨(some 27), (.bin .add (.t 17) (.c (.int .i64 (1)))), none⟩, ⟨(some 17), (.mv (.t 27)), none⟩]))))))) (.seq (.reg [⟨(some 28), (.mv (.t 4)), none⟩, ⟨(some 4), (.mv (.t 28)), none⟩]) .ret))), [(.tmp 4)]⟩
theorem hc182 : toSF Tryd.prog {pure := [182]} Tryd.f182 = some c182 := by kernel_rfl
theorem hn182 : (Tryd.f182.name == "runtime.NumGoroutine") = false := by kernel_rfl
theorem edeep_ok (d : HDoc) (V : DV d) (sm : DocSm d) (made : Int) : ∀ n, inD d n → PCalls (Pg G) 182 [.pin (edC d made), aInt n] (aInt (low d n)) := V.down fun n hn ih h => by
  have hl := V.len
  have n0 := hn.1
  have n1 := hn.2
  have e0 : nth d.nodes n.toNat = nd d n := rfl
  have kl := (sm.nd n).kids
  refine dcalls_of_vc Tryd.func182 hn182 hc182 (by rw [Tryd.ntmps182]; simp) (by rw [Tryd.ntmps182]; decide) ?_
  simp -dsimp -implicitDefEqProofs (disch := omega) only [VCA, pg_gl, ↓upd_none, Nat.reduceEqDiff, Nat.reduceBEq, Nat.reduceAdd, Nat.reduceSub, Nat.reduceMul, Nat.reduceLT, Nat.reduceLeDiff, ↓reduceIte, reduceCtorEq, rsOf, rootsOf, SOp.rd, SI.rd, SX.rd, rdL, rdO, rdP, okParts, eqCells, okEqCells, fillA, okFill, setAt, implies_true, forall_const, forall_eq, ne_eq, exists_eq_right_right, exists_eq_right, exists_eq_left, exists_eq_left', eInt, eBool, lit_eq, c182, edC, eNode]
  rw [e0]
  refine ⟨by omega, ?_⟩
  have lk : ∀ k ∈ (nd d n).kids, low d k ≤ 40 := fun k hk => low_40 V (V.kid n hn k hk).1
  rw [low_eq V hn]
  refine LoopVC.intro (fun m e h' => ∃ k : Nat, k ≤ (nd d n).kids.length ∧ m = (nd d n).kids.length - k ∧ e 0 = .pin (edC d made) ∧ e 15 = sl eInt (nd d n).kids ∧ e 16 = aInt (nd d n).kids.length ∧ e 17 = aInt k ∧ e 4 = aInt ((((nd d n).kids.take k).map fun k => low d k + 1).foldl max 0 : Nat) ∧ h' = h) _ ⟨0, by omega, rfl, rfl, rfl, rfl, rfl, rfl, rfl⟩ ?_
  rintro m e h' ⟨k, hk, rfl, he0, he15, he16, he17, he4, rfl⟩
  simp -dsimp -implicitDefEqProofs (disch := omega) only [VCA, pg_gl, ↓upd_none, Nat.reduceEqDiff, Nat.reduceBEq, Nat.reduceAdd, Nat.reduceSub, Nat.reduceMul, Nat.reduceLT, Nat.reduceLeDiff, ↓reduceIte, reduceCtorEq, rsOf, rootsOf, SOp.rd, SI.rd, SX.rd, rdL, rdO, rdP, okParts, eqCells, okEqCells, fillA, okFill, setAt, implies_true, forall_const, forall_eq, ne_eq, exists_eq_right_right, exists_eq_right, exists_eq_left, exists_eq_left', eInt, eBool, lit_eq, he0, he15, he16, he17, he4]
  refine Br.dec (fun hlt => ?_) (fun hge => ?_)
  · have hk' : k < (nd d n).kids.length := by omega
    have hD := ih _ (nth_mem' hk')
    have l40 := lk _ (nth_mem' hk')
    unfold edC at hD
    simp -dsimp -implicitDefEqProofs (disch := omega) only [VCA, pg_gl, ↓upd_none, Nat.reduceEqDiff, Nat.reduceBEq, Nat.reduceAdd, Nat.reduceSub, Nat.reduceMul, Nat.reduceLT, Nat.reduceLeDiff, ↓reduceIte, reduceCtorEq, rsOf, rootsOf, SOp.rd, SI.rd, SX.rd, rdL, rdO, rdP, okParts, eqCells, okEqCells, fillA, okFill, setAt, implies_true, forall_const, forall_eq, ne_eq, exists_eq_right_right, exists_eq_right, exists_eq_left, exists_eq_left', eInt, eBool, lit_eq, he0, he15, he16, he17, he4, edC]
    refine ⟨by omega, ?_⟩
    refine pcallE.of (hD) ?_; simp -dsimp -implicitDefEqProofs (disch := omega) only [VCA, pg_gl, ↓upd_none, Nat.reduceEqDiff, Nat.reduceBEq, Nat.reduceAdd, Nat.reduceSub, Nat.reduceMul, Nat.reduceLT, Nat.reduceLeDiff, ↓reduceIte, reduceCtorEq, rsOf, rootsOf, SOp.rd, SI.rd, SX.rd, rdL, rdO, rdP, okParts, eqCells, okEqCells, fillA, okFill, setAt, implies_true, forall_const, forall_eq, ne_eq, exists_eq_right_right, exists_eq_right, exists_eq_left, exists_eq_left', eInt, eBool, lit_eq, he0, he15, he16, he17, he4]
    refine ⟨_, by omega, k + 1, by omega, rfl, rfl, by omega, ?_⟩
    rw [take_snoc hk', List.map_append, List.foldl_append]
    simp only [List.map_cons, List.map_nil, List.foldl_cons, List.foldl_nil]
    omega
  · obtain rfl : k = (nd d n).kids.length := by omega
    rw [List.take_length] at he4
    simp -dsimp -implicitDefEqProofs (disch := omega) only [VCA, pg_gl, ↓upd_none, Nat.reduceEqDiff, Nat.reduceBEq, Nat.reduceAdd, Nat.reduceSub, Nat.reduceMul, Nat.reduceLT, Nat.reduceLeDiff, ↓reduceIte, reduceCtorEq, rsOf, rootsOf, SOp.rd, SI.rd, SX.rd, rdL, rdO, rdP, okParts, eqCells, okEqCells, fillA, okFill, setAt, implies_true, forall_const, forall_eq, ne_eq, exists_eq_right_right, exists_eq_right, exists_eq_left, exists_eq_left', eInt, eBool, lit_eq, he4]
    exact Sub.refl _
end Go.Proofs.K
end
section
/- Into a list of one's own: slices.Insert. -/
set_option linter.unusedSimpArgs false
set_option linter.unusedVariables false
namespace Go.Proofs.K
open Go Go.Sim Go.Proofs Go.Shelf
variable {G : Glob}
def iren : Ren := ⟨fun | 21 => 153 | 27 => 174 | 28 => 175 | 35 => 186 | 39 => 111 | n => n, fun | 0 => 0 | 3 => 3 | 4 => 4 | 22 => 31 | n => n, fun n => n⟩
theorem lays21 : Lays2.n21 Tryd.prog iren := {
  mixed := by kernel_rfl
  f21 := Tryd.func153.trans (congrArg some (by kernel_rfl))
  f27 := Tryd.func174.trans (congrArg some (by kernel_rfl))
  f28 := Tryd.func175.trans (congrArg some (by kernel_rfl))
  f35 := Tryd.func186.trans (congrArg some (by kernel_rfl))
  f39 := Tryd.func111.trans (congrArg some (by kernel_rfl))
  t0 := Tryd.underlying0
  a0 := Tryd.isAgg0
  z0 := Tryd.sizeOf0
  v0 := Tryd.zeroValue0
  t3 := Tryd.underlying3
  a3 := Tryd.isAgg3
  z3 := Tryd.sizeOf3
  v3 := Tryd.zeroValue3
  t4 := Tryd.underlying4
  a4 := Tryd.isAgg4
  z4 := Tryd.sizeOf4
  v4 := Tryd.zeroValue4
  t22 := Tryd.underlying31
  a22 := Tryd.isAgg31
  z22 := Tryd.sizeOf31
  v22 := Tryd.zeroValue31
  i3 := by kernel_rfl }
theorem setCells_blk (b : Nat) : ∀ (vs : List Value) (o : Nat) (w : World) (cur : Array Value) (t : TypeId) (f : Nat × Nat), w.heap[b]? = some (.cells cur t f) → o + vs.length ≤ cur.size →
    ∃ cur' : Array Value, (w.setCells b o vs).heap[b]? = some (.cells cur' t f) ∧ cur'.size = cur.size ∧ (∀ k, cur'[k]? = if o ≤ k ∧ k < o + vs.length then vs[k - o]? else cur[k]?) ∧ (∀ k, k ≠ b → (w.setCells b o vs).heap[k]? = w.heap[k]?) ∧
      (w.setCells b o vs).heap.size = w.heap.size ∧ (w.setCells b o vs).os = w.os ∧ (w.setCells b o vs).tape = w.tape ∧ (w.setCells b o vs).output = w.output
  | [], o, w, cur, t, f, hb, _ => ⟨cur, hb, rfl, fun k => by rw [if_neg (by simp)], fun _ _ => rfl, rfl, rfl, rfl, rfl⟩
  | v :: r, o, w, cur, t, f, hb, hl => by
    have hlt : b < w.heap.size := (Array.getElem?_eq_some_iff.1 hb).1
    have h1 : (w.setCell ⟨b, o, none⟩ v).heap[b]? = some (.cells (cur.setIfInBounds o v) t f) := by
      unfold World.setCell
      rw [Array.getElem?_modify, if_pos rfl, hb]; rfl
    simp only [List.length_cons] at hl
    obtain ⟨cur', g1, g2, g3, g4, g5, g6, g7, g8⟩ := setCells_blk b r (o + 1) (w.setCell ⟨b, o, none⟩ v) _ t f h1 (by simp; omega)
    refine ⟨cur', g1, by rw [g2]; simp, fun k => ?_, fun k hk => ?_, ?_, g6, g7, g8⟩
    · rw [g3]
      by_cases hk : k = o
      · subst hk
        rw [if_neg (by omega), if_pos (by simp)]
        rw [Array.getElem?_setIfInBounds]
        first | (simp; omega) | simp
        try omega
      · by_cases hi : o + 1 ≤ k ∧ k < o + 1 + r.length
        · rw [if_pos hi, if_pos (by simp; omega), show k - o = (k - (o + 1)) + 1 by omega, List.getElem?_cons_succ]
        · rw [if_neg hi, if_neg (by simp; omega), Array.getElem?_setIfInBounds, if_neg (by omega)]
    · rw [World.setCells, g4 k hk]
      unfold World.setCell
      rw [Array.getElem?_modify, if_neg (fun h => hk h.symm)]
    · rw [World.setCells, g5]; simp [World.setCell]
/-- numbers in a block -/
def IntsAt (cur : Array Value) (bo : Nat) (l : List Int) : Prop := ∀ k, k < l.length → cur[bo + k]? = some (.int .i64 (nth l k))
theorem IntsAt.cells {cur : Array Value} {bo : Nat} {l : List Int} (I : IntsAt cur bo l) (g : Ghost) (w : World) : ∀ (i j : Nat) (e : List AVal) (x : AVal), (l.map eInt)[i]? = some e → e[j]? = some x → ∃ u : Value, cur[bo + (i * 1 + j)]? = some u ∧ u.oneCell' = true ∧ VRel g w u x := by
  intro i j e x he hx
  rw [List.getElem?_map] at he
  obtain ⟨n, hn, rfl⟩ := Option.map_eq_some_iff.1 he
  have hi := (List.getElem?_eq_some_iff.1 hn).1
  have hj : j = 0 := by
    have := (List.getElem?_eq_some_iff.1 hx).1
    simp [eInt] at this; exact this
  subst hj
  cases hx
  have e1 : nth l i = n := by rw [nth_some hi] at hn; exact Option.some.inj hn
  refine ⟨.int .i64 n, ?_, rfl, .int _ _⟩
  have := I i hi
  rw [e1] at this
  simpa using this
theorem ints_block {h : Heap} {g : Ghost} {w : World} (H : HRel h g w) {r : Nat} {es : List (List AVal)} {l : List Int} (hr : h r = some ⟨3, 1, es⟩) (hl : l.length ≤ es.length) (ht : es.take l.length = l.map eInt) (hc : g.cap r ≠ 0) :
    ∃ cur : Array Value, w.heap[g.eta r]? = some (.cells cur 3 (0, 0)) ∧ g.bo r + g.cap r = cur.size ∧ IntsAt cur (g.bo r) l := by
  have O := H.obj r _ hr
  rcases O.block with h0 | ⟨_, _, cur, hcur, hsz, hcell⟩
  · exact absurd h0 hc
  · refine ⟨cur, hcur, by simpa using hsz, fun k hk => ?_⟩
    have he : es[k]? = some (eInt (nth l k)) := by
      have h1 : (es.take l.length)[k]? = some (eInt (nth l k)) := by rw [ht, List.getElem?_map, nth_some hk]; rfl
      rw [List.getElem?_take, if_pos hk] at h1; exact h1
    obtain ⟨u, hu, _, hv⟩ := hcell k 0 _ _ he rfl
    rw [hv.int_inv] at hu
    simpa using hu
/-- a new block of the call's own -/
theorem new_fin {h : Heap} {g : Ghost} {w w' : World} (H : HRel h g w) {cells : Array Value} {cap : Nat} {l : List Int} (hp : w'.heap = (w.alloc (.cells cells 3)).heap) (h1 : w'.os = w.os) (h2 : w'.tape = w.tape) (h3 : w'.output = w.output)
    (hcs : cells.size = cap) (hle : l.length ≤ cap) (hm : cap ≤ maxLen) (I : IntsAt cells 0 l) :
    ∃ g', GS g w g' w' ∧ HRel (upd h g.nxt (some ⟨3, 1, l.map eInt⟩)) g' w' ∧ VRel g' w' (.slice (some ⟨w.heap.size, 0, none⟩) l.length cap) (.osl g.nxt 1 0 l.length) := by
  obtain ⟨S1, H1⟩ := root_new H cells (ty := 3) (sz := 1) (cap := cap) (es := l.map eInt) (by decide) (by omega) (by simpa using hle) (fun e he => by obtain ⟨x, _, rfl⟩ := List.mem_map.1 he; rfl) (fun i j e x he hx => by
    have := I.cells g w i j e x he hx
    simpa using this)
  obtain ⟨S2, H2⟩ := H1.ext (w' := w') (fun b _ => by rw [hp]) h1 h2 h3 (by rw [hp]; exact Nat.le_refl _)
  refine ⟨_, S1.trans S2, H2, ?_⟩
  have := VRel.osl (g := g.add w.heap.size 0 cap 1) (w := w') g.nxt 1 0 l.length cap 0 (Nat.lt_succ_self _) (by simp [Ghost.add]) hle hm (by simp [Ghost.add]) (fun _ => by simp [Ghost.add])
  simpa [Ghost.add] using this
/-- a block of the call's own written over -/
theorem put_fin {h : Heap} {g : Ghost} {w w' : World} (H : HRel h g w) {r : Nat} {es : List (List AVal)} (hr : h r = some ⟨3, 1, es⟩) (hc : g.cap r ≠ 0) {cur' : Array Value} {l : List Int} (hb : w'.heap[g.eta r]? = some (.cells cur' 3 (0, 0)))
    (hs : ∀ b, b ≠ g.eta r → w'.heap[b]? = w.heap[b]?) (hz : w'.heap.size = w.heap.size) (h1 : w'.os = w.os) (h2 : w'.tape = w.tape) (h3 : w'.output = w.output) (hsz : g.bo r + g.cap r = cur'.size) (hle : l.length ≤ g.cap r) (hm : g.cap r ≤ maxLen) (I : IntsAt cur' (g.bo r) l) :
    ∃ g', GS g w g' w' ∧ HRel (upd (del h r) g.nxt (some ⟨3, 1, l.map eInt⟩)) g' w' ∧ VRel g' w' (.slice (some ⟨g.eta r, g.bo r, none⟩) l.length (g.cap r)) (.osl g.nxt 1 0 l.length) := by
  have O := H.obj r _ hr
  rcases O.block with h0 | ⟨hlt, hnf, cur, hcur, _, _⟩
  · exact absurd h0 hc
  · obtain ⟨S, H1⟩ := root_touch H hr hc (w' := w') hs hz h1 h2 h3 ⟨_, _, _, hb⟩
    have H2 := H1.add (blk := g.eta r) (bo := g.bo r) (cap := g.cap r) (sz := 1) (ty := 3) (es := l.map eInt) (by decide) (fun e he => by obtain ⟨x, _, rfl⟩ := List.mem_map.1 he; rfl) (by simpa using hle) (.inr ⟨by rw [hz]; exact hlt, hnf, fun t ob ht h0 he => by
      unfold Sim.del at ht
      split at ht
      · cases ht
      · rename_i hne; exact hne (H.inj t r ob _ ht hr h0 hc he), cur', hb, by omega, I.cells g w'⟩)
    refine ⟨_, S.addTo _ _ _ _ (.inr (.inl ⟨r, O.lt, hc, rfl⟩)), H2, ?_⟩
    have := VRel.osl (g := g.add (g.eta r) (g.bo r) (g.cap r) 1) (w := w') g.nxt 1 0 l.length (g.cap r) (g.bo r) (Nat.lt_succ_self _) (by simp [Ghost.add]) hle hm (by simp [Ghost.add]) (fun _ => by simp [Ghost.add])
    simpa [Ghost.add] using this
theorem ins_len (l : List Int) (i : Nat) (x : Int) (hi : i ≤ l.length) : (l.take i ++ x :: l.drop i).length = l.length + 1 := by
  rw [List.length_append, List.length_cons, List.length_take, List.length_drop]; omega
theorem ins_nth (l : List Int) (i : Nat) (x : Int) (hi : i ≤ l.length) (k : Nat) : nth (l.take i ++ x :: l.drop i) k = if k < i then nth l k else if k = i then x else nth l (k - 1) := by
  unfold nth
  simp only [List.getD_eq_getElem?_getD]
  by_cases h1 : k < i
  · rw [if_pos h1, List.getElem?_append_left (by rw [List.length_take]; omega), List.getElem?_take, if_pos h1]
  · rw [if_neg h1, List.getElem?_append_right (by rw [List.length_take]; omega), List.length_take, Nat.min_eq_left hi]
    by_cases h2 : k = i
    · rw [if_pos h2, h2]; simp
    · rw [if_neg h2, show k - i = (k - i - 1) + 1 by omega, List.getElem?_cons_succ, List.getElem?_drop, show i + (k - i - 1) = k - 1 by omega]
end Go.Proofs.K
end
section
/- Into a list of one's own: the contract of slices.Insert. -/
set_option linter.unusedSimpArgs false
set_option linter.unusedVariables false
namespace Go.Proofs.K
open Go Go.Sim Go.Proofs Go.Shelf
variable {G : Glob}
theorem vrel_three {g : Ghost} {w : World} {vs : Array Value} {a b c : AVal} (V : VRelL g w vs [a, b, c]) : ∃ u v x, vs = #[u, v, x] ∧ VRel g w u a ∧ VRel g w v b ∧ VRel g w x c := by
  obtain ⟨hs, hv⟩ := V
  obtain ⟨l⟩ := vs
  match l, hs with
  | [u, v, x], _ => exact ⟨u, v, x, rfl, hv 0 u a rfl rfl, hv 1 v b rfl rfl, hv 2 x c rfl rfl⟩
def intsV (l : List Int) : List Value := l.map (Value.int .i64)
theorem intsV_get {l : List Int} {j : Nat} {v : Value} (h : (intsV l)[j]? = some v) : j < l.length ∧ v = .int .i64 (nth l j) := by
  unfold intsV at h
  rw [List.getElem?_map] at h
  obtain ⟨n, hn, rfl⟩ := Option.map_eq_some_iff.1 h
  have hj := (List.getElem?_eq_some_iff.1 hn).1
  refine ⟨hj, ?_⟩
  rw [nth_some hj] at hn
  rw [Option.some.inj hn]
theorem intsV_at {l : List Int} {j : Nat} (h : j < l.length) : (intsV l)[j]? = some (.int .i64 (nth l j)) := by
  unfold intsV; rw [List.getElem?_map, nth_some h]; rfl
theorem intsV_one {l : List Int} : ∀ v ∈ intsV l, v.oneCell' = true := fun v hv => by
  obtain ⟨x, _, rfl⟩ := List.mem_map.1 hv; rfl
/-- a number into a list -/
theorem insertI_ok {h : Heap} {a : AVal} {l : List Int} {x : Int} {i rv : Nat} (O : OwnS h 3 1 (l.map eInt) a) (M : Mut a) (hi : i ≤ l.length) (hl : l.length ≤ 100000) (hrv : h rv = some ⟨3, 1, [eInt x]⟩) (hne : rootOf a ≠ some rv) :
    DCalls (Pg G) 153 [a, aInt i, .osl rv 1 0 1] h fun r h' => ∃ r', r = .osl r' 1 0 (l.length + 1) ∧ h' r' = some ⟨3, 1, (l.take i ++ x :: l.drop i).map eInt⟩ ∧ (rootOf a = some r' ∨ h r' = none) ∧ (∀ t o, h t = some o → rootOf a ≠ some t → h' t = some o) := by
  refine ⟨⟨_, Tryd.func153, by kernel_rfl, by kernel_rfl⟩, fun g w vs H GR V => ?_⟩
  obtain ⟨va, vi, vv, rfl, ha, hvi, hv⟩ := vrel_three V
  rw [hvi.int_inv]
  obtain ⟨hrl, hsz, hc⟩ := hv.osl_inv
  rcases hc with ⟨_, _, h0, _⟩ | ⟨capv, offv, rfl, hncv, hmv, hiv, hoffv⟩
  · omega
  have hcv : g.cap rv ≠ 0 := by omega
  obtain ⟨curv, hcurv, hszv, Iv⟩ := ints_block H (l := [x]) hrv (by simp) (by simp) hcv
  have hov : offv = g.bo rv := by have := hoffv (by omega); omega
  subst hov
  have cv : ∀ j v, [Value.int .i64 x][j]? = some v → w.cell? ⟨g.eta rv, g.bo rv + j, none⟩ = some v := fun j v hj => by
    have h1 := intsV_get (l := [x]) (j := j) (v := v) hj
    rw [cell_of_row w _ _ curv _ _ hcurv, Iv j h1.1, h1.2]
  have one1 : ∀ v ∈ [Value.int .i64 x], v.oneCell' = true := fun v hv => by simp at hv; subst hv; rfl
  have nx := H.none_nxt
  have ins := ins_len l i x hi
  have insn := ins_nth l i x hi
  -- where nothing is there yet
  have empty : l = [] → ∀ (A : Option Addr), va = .slice A 0 0 → Calls Tryd.prog 153 #[va, .int .i64 i, .slice (some ⟨g.eta rv, g.bo rv, none⟩) 1 capv] w fun e w' => ∃ v r h' g', e = .returned v ∧ (∃ r', r = .osl r' 1 0 (l.length + 1) ∧ h' r' = some ⟨3, 1, (l.take i ++ x :: l.drop i).map eInt⟩ ∧ (rootOf a = some r' ∨ h r' = none) ∧ (∀ t o, h t = some o → rootOf a ≠ some t → h' t = some o)) ∧ HRel h' g' w' ∧ VRel g' w' v r ∧ GS g w g' w' := by
    intro hl0 A hA
    subst hl0
    obtain rfl : i = 0 := by simpa using hi
    rw [hA]
    refine (Any2.slices_Insert_int_end_grow lays21 A 0 0 (g.eta rv) (g.bo rv) 1 capv [] [.int .i64 x] w (by decide) (by decide) (by decide) (by decide) rfl rfl (fun _ => rfl) (fun _ _ j v hj => by simp at hj) cv one1).mono fun e w' ⟨he, hw⟩ => ?_
    have ge := grownCap_ge w (0 + 1) 0 (iren.t 3)
    have gm := grownCap_le_maxLen w (0 + 1) 0 (iren.t 3) (by decide)
    generalize grownCap w (0 + 1) 0 (iren.t 3) = gc at *
    obtain ⟨g', S, H', V'⟩ := new_fin (w' := w') (l := [x]) (cap := gc) H (by rw [hw]; rfl) (by rw [hw]; rfl) (by rw [hw]; rfl) (by rw [hw]; rfl) (by rw [Array.size_append, size_zeroCells]; show 1 + (gc - (0 + 1)) * 1 = gc; omega) (by simpa using ge) gm (fun k hk => by
      have : k = 0 := by simpa using hk
      subst this
      rw [Array.getElem?_append_left (by simp)]; rfl)
    refine ⟨_, .osl g.nxt 1 0 1, _, g', he, ⟨g.nxt, rfl, upd_same _ _ _, .inr nx, fun t o ht _ => by rw [upd_ne _ _ (fun e => by rw [e, nx] at ht; cases ht)]; exact ht⟩, H', by simpa using V', S⟩
  rcases O.live M with ⟨hl0, rfl⟩ | ⟨r, es, rfl, hr, hle, hte⟩
  · obtain ⟨A, hA, _⟩ := ha.emp_inv
    exact empty (by simpa using hl0) A hA
  · rw [List.length_map] at ha hle hte ⊢
    obtain ⟨_, _, hca⟩ := ha.osl_inv
    rcases hca with ⟨hA, _, h0, _⟩ | ⟨c, off, hA, hnc, hm, hic, hoff⟩
    · have : l = [] := List.eq_nil_of_length_eq_zero h0
      exact empty this none (by rw [hA])
    · have hcap : g.cap r = c := by omega
      have hle2 := (H.obj r _ hr).le
      by_cases hc0 : c = 0
      · have hn0 : l.length = 0 := by omega
        subst hc0
        exact empty (List.eq_nil_of_length_eq_zero hn0) (some ⟨g.eta r, off, none⟩) (by rw [hA, hn0])
      · have hof : off = g.bo r := by have := hoff (by omega); omega
        subst hof
        have hcr : g.cap r ≠ 0 := by omega
        obtain ⟨cur, hcur, hsz2, I⟩ := ints_block H hr hle hte hcr
        rw [hA]
        have cs : ∀ j v, (intsV l)[j]? = some v → w.cell? ⟨g.eta r, g.bo r + j, none⟩ = some v := fun j v hj => by
          obtain ⟨h1, rfl⟩ := intsV_get hj
          rw [cell_of_row w _ _ cur _ _ hcur, I j h1]
        have cln : (intsV l).length = l.length := by simp [intsV]
        have hnb : g.eta rv ≠ g.eta r := fun e => hne (by rw [H.inj rv r _ _ hrv hr hcv hcr e]; rfl)
        have sp : ∀ j, g.bo r + j < cur.size → (w.cell? ⟨g.eta r, g.bo r + j, none⟩).isSome = true := fun j hj => by
          rw [cell_of_row w _ _ cur _ _ hcur, Array.getElem?_eq_getElem hj]; rfl
        have fzn : ∀ b k (cu : Array Value) t, w.heap[b]? = some (.cells cu t (0, 0)) → w.frozen? ⟨b, k, none⟩ = false := fun b k cu t hb => by simp [World.frozen?, hb]
        have kp : ∀ (ob : AObj) t o, h t = some o → rootOf (.osl r 1 0 l.length) ≠ some t → upd (del h r) g.nxt (some ob) t = some o := fun ob t o ht hn => by
          rw [upd_ne _ _ (fun e => by rw [e, nx] at ht; cases ht)]
          unfold del
          rw [if_neg (fun e => hn (by rw [e]; rfl))]; exact ht
        have kp2 : ∀ (ob : AObj) t o, h t = some o → rootOf (.osl r 1 0 l.length) ≠ some t → upd h g.nxt (some ob) t = some o := fun ob t o ht hn => by
          rw [upd_ne _ _ (fun e => by rw [e, nx] at ht; cases ht)]; exact ht
        have dl : ((intsV l).drop i).length = l.length - i := by rw [List.length_drop, cln]
        by_cases hroom : l.length + 1 ≤ c
        · by_cases hin : i < l.length
          · refine (Any2.slices_Insert_int_shift lays21 (g.eta r) (g.bo r) l.length c i (g.eta rv) (g.bo rv) 1 capv (intsV l) [.int .i64 x] w hin (by decide) hroom (by simp only [maxLen] at hm; omega) hnb cln rfl cs (fun j hj => sp j (by omega)) (fun j _ => fzn _ _ _ _ hcur) cv intsV_one one1 3 3 curv.size cur.size (by simp [World.shape?, hcurv]) (by simp [World.shape?, hcur]) (by omega) (fzn _ _ _ _ hcurv) (fzn _ _ _ _ hcurv)).mono fun e w' ⟨he, hw⟩ => ?_
            obtain ⟨c1, b1, s1, k1, o1, z1, p1, p2, p3⟩ := setCells_blk (g.eta r) ((intsV l).drop i) (g.bo r + (i + 1)) w.drew cur _ _ hcur (by rw [dl]; omega)
            obtain ⟨c2, b2, s2, k2, o2, z2, q1, q2, q3⟩ := setCells_blk (g.eta r) [.int .i64 x] (g.bo r + i) (w.drew.setCells (g.eta r) (g.bo r + (i + 1)) ((intsV l).drop i)) c1 _ _ b1 (by simp; omega)
            have I2 : IntsAt c2 (g.bo r) (l.take i ++ x :: l.drop i) := fun k hk => by
              rw [ins] at hk
              rw [k2, insn k]
              by_cases h1 : k = i
              · rw [if_pos (by simp; omega), if_neg (by omega), if_pos h1, h1, Nat.sub_self]; rfl
              · rw [if_neg (by simp; omega), k1, dl]
                by_cases h2 : k < i
                · rw [if_neg (by omega), if_pos h2]; exact I k (by omega)
                · rw [if_pos (by omega), if_neg h2, if_neg h1, List.getElem?_drop, show i + (g.bo r + k - (g.bo r + (i + 1))) = k - 1 by omega]
                  exact intsV_at (by omega)
            obtain ⟨g', S, H', V'⟩ := put_fin (w' := w') (cur' := c2) H hr hcr (by rw [hw]; exact b2) (fun b hb => by rw [hw, o2 b hb, o1 b hb]; rfl) (by rw [hw, z2, z1]; rfl) (by rw [hw, q1, p1]; rfl) (by rw [hw, q2, p2]; rfl) (by rw [hw, q3, p3]; rfl) (by omega) (by omega) (by omega) I2
            rw [ins, hcap] at V'
            exact ⟨_, .osl g.nxt 1 0 (l.length + 1), _, g', he, ⟨g.nxt, rfl, upd_same _ _ _, .inr nx, kp _⟩, H', V', S⟩
          · obtain rfl : i = l.length := by omega
            refine (Any2.slices_Insert_int_end_room lays21 (g.eta r) (g.bo r) l.length c (g.eta rv) (g.bo rv) 1 capv [.int .i64 x] w (by decide) hroom (by simp only [maxLen] at hm; omega) rfl (fun j hj => by rw [Nat.add_assoc]; exact sp _ (by omega)) (fun j _ => fzn _ _ _ _ hcur) cv one1).mono fun e w' ⟨he, hw⟩ => ?_
            obtain ⟨c2, b2, s2, k2, o2, z2, q1, q2, q3⟩ := setCells_blk (g.eta r) [.int .i64 x] (g.bo r + l.length) w cur _ _ hcur (by simp; omega)
            have I2 : IntsAt c2 (g.bo r) (l.take l.length ++ x :: l.drop l.length) := fun k hk => by
              rw [ins] at hk
              rw [k2, insn k]
              by_cases h1 : k = l.length
              · rw [if_pos (by simp; omega), if_neg (by omega), if_pos h1, h1, Nat.sub_self]; rfl
              · rw [if_neg (by simp; omega), if_pos (by omega)]; exact I k (by omega)
            obtain ⟨g', S, H', V'⟩ := put_fin (w' := w') (cur' := c2) H hr hcr (by rw [hw]; exact b2) (fun b hb => by rw [hw, o2 b hb]) (by rw [hw, z2]) (by rw [hw, q1]) (by rw [hw, q2]) (by rw [hw, q3]) (by omega) (by omega) (by omega) I2
            rw [ins, hcap] at V'
            exact ⟨_, .osl g.nxt 1 0 (l.length + 1), _, g', he, ⟨g.nxt, rfl, upd_same _ _ _, .inr nx, kp _⟩, H', V', S⟩
        · have ge := grownCap_ge w (l.length + 1) c (iren.t 3)
          have gm := grownCap_le_maxLen w (l.length + 1) c (iren.t 3) (by simp only [maxLen]; omega)
          by_cases hin : i < l.length
          · refine (Any2.slices_Insert_int_grow lays21 (g.eta r) (g.bo r) l.length c i (g.eta rv) (g.bo rv) 1 capv (intsV l) [.int .i64 x] w hin (by decide) hnc (by omega) (by omega) cln rfl cs cv intsV_one one1).mono fun e w' ⟨he, hw⟩ => ?_
            generalize grownCap w (l.length + 1) c (iren.t 3) = gc at *
            have z0 : ∀ k, (Builtin.zeroCells (Value.int .i64 0).cells k).size = k := fun k => by rw [size_zeroCells]; show k * 1 = k; omega
            rw [show iren.t 3 = 3 from rfl] at hw
            generalize hC0 : (((intsV l).take i).toArray ++ Builtin.zeroCells (Value.int .i64 0).cells (l.length + 1 - i) ++ Builtin.zeroCells (Value.int .i64 0).cells (gc - (l.length + 1))) = C0 at hw
            have sC : C0.size = gc := by
              rw [← hC0, Array.size_append, Array.size_append, z0, z0, List.size_toArray, List.length_take, cln]; omega
            have gC : ∀ k, k < i → C0[k]? = some (.int .i64 (nth l k)) := fun k hk => by
              rw [← hC0, Array.append_assoc, Array.getElem?_append_left (by rw [List.size_toArray, List.length_take, cln]; omega), List.getElem?_toArray, List.getElem?_take, if_pos hk]
              exact intsV_at (by omega)
            have hb0 : (w.alloc (.cells C0 3)).drew.heap[w.heap.size]? = some (.cells C0 3 (0, 0)) := heap_push_new w _
            obtain ⟨c1, b1, s1, k1, o1, z1, p1, p2, p3⟩ := setCells_blk w.heap.size [.int .i64 x] i (w.alloc (.cells C0 3)).drew C0 _ _ hb0 (by simp; omega)
            obtain ⟨c2, b2, s2, k2, o2, z2, q1, q2, q3⟩ := setCells_blk w.heap.size ((intsV l).drop i) (i + 1) ((w.alloc (.cells C0 3)).drew.setCells w.heap.size i [.int .i64 x]).drew c1 _ _ b1 (by rw [dl]; omega)
            have I2 : IntsAt c2 0 (l.take i ++ x :: l.drop i) := fun k hk => by
              rw [ins] at hk
              rw [k2, insn k, dl]
              by_cases h1 : i < k
              · rw [if_pos (by omega), if_neg (by omega), if_neg (by omega), List.getElem?_drop, show i + (0 + k - (i + 1)) = k - 1 by omega]
                exact intsV_at (by omega)
              · rw [if_neg (by omega), k1]
                by_cases h2 : k = i
                · rw [if_pos (by simp; omega), if_neg (by omega), if_pos h2, h2]; simp
                · rw [if_neg (by simp; omega), if_pos (by omega), Nat.zero_add]; exact gC k (by omega)
            have hp : w'.heap = (w.alloc (.cells c2 3)).heap := by
              rw [hw]
              apply Array.ext_getElem?
              intro b
              by_cases hb : b = w.heap.size
              · subst hb; rw [b2]; exact (heap_push_new w _).symm
              · rw [o2 b hb]
                refine (o1 b hb).trans ?_
                show (w.heap.push _)[b]? = (w.heap.push _)[b]?
                rw [Array.getElem?_push, Array.getElem?_push, if_neg hb, if_neg hb]
            obtain ⟨g', S, H', V'⟩ := new_fin (w' := w') (cap := gc) H hp (by rw [hw, q1]; exact p1) (by rw [hw, q2]; exact p2) (by rw [hw, q3]; exact p3) (by omega) (by omega) gm I2
            rw [ins] at V'
            exact ⟨_, .osl g.nxt 1 0 (l.length + 1), _, g', he, ⟨g.nxt, rfl, upd_same _ _ _, .inr nx, kp2 _⟩, H', V', S⟩
          · obtain rfl : i = l.length := by omega
            refine (Any2.slices_Insert_int_end_grow lays21 (some ⟨g.eta r, g.bo r, none⟩) l.length c (g.eta rv) (g.bo rv) 1 capv (intsV l) [.int .i64 x] w (by decide) hnc (by omega) (by omega) cln rfl (fun h => by cases h) (fun a ha j v hj => by cases ha; rw [Addr.add_lit]; exact cs j v hj) cv one1).mono fun e w' ⟨he, hw⟩ => ?_
            generalize grownCap w (l.length + 1) c (iren.t 3) = gc at *
            have z0 : ∀ k, (Builtin.zeroCells (Value.int .i64 0).cells k).size = k := fun k => by rw [size_zeroCells]; show k * 1 = k; omega
            obtain ⟨g', S, H', V'⟩ := new_fin (w' := w') (l := l.take l.length ++ x :: l.drop l.length) (cap := gc) H (by rw [hw]; rfl) (by rw [hw]; rfl) (by rw [hw]; rfl) (by rw [hw]; rfl) (by rw [Array.size_append, z0, List.size_toArray, List.length_append, cln, List.length_singleton]; omega) (by omega) gm (fun k hk => by
              rw [ins] at hk
              rw [Nat.zero_add, insn k, Array.getElem?_append_left (by rw [List.size_toArray, List.length_append, cln, List.length_singleton]; omega), List.getElem?_toArray]
              by_cases h1 : k < l.length
              · rw [if_pos h1, List.getElem?_append_left (by omega)]; exact intsV_at h1
              · rw [if_neg h1, if_pos (by omega), List.getElem?_append_right (by omega), cln, show k - l.length = 0 by omega]; rfl)
            rw [ins] at V'
            exact ⟨_, .osl g.nxt 1 0 (l.length + 1), _, g', he, ⟨g.nxt, rfl, upd_same _ _ _, .inr nx, kp2 _⟩, H', V', S⟩
end Go.Proofs.K
end
section
/- The editor: insert. -/
set_option linter.unusedSimpArgs false
set_option linter.unusedVariables false
namespace Go.Proofs.K
open Go Go.Sim Go.Proofs
variable {G : Glob}
theorem Dw.mono {X : List Nat} {h0 h h2 : Heap} {rN : Nat} {d : HDoc} {sl : Nat → AVal} (E : Dw X h0 h rN d sl) (S : Sim.Sub h h2) : Dw X h0 h2 rN d sl :=
  ⟨E.sub.trans S, S _ _ E.nodes, E.new, fun i hi => ⟨(E.own i hi).1.keep fun r o _ ho => S _ _ ho, (E.own i hi).2.keep fun r o _ ho => S _ _ ho⟩, E.fresh, E.sep, fun r hr => by obtain ⟨o, ho⟩ := E.keep r hr; exact ⟨o, S _ _ ho⟩⟩
theorem Ed.mono {h0 h h2 : Heap} {re rN : Nat} {d : HDoc} {sl : Nat → AVal} {made : Int} (E : Ed h0 h re rN d sl made) (S : Sim.Sub h h2) : Ed h0 h2 re rN d sl made := ⟨E.dw.mono S, S _ _ E.ed, E.new, E.live⟩
def c165_s6 : SCode := (.seq (.dreg [(⟨(some 97), (.mv (.t 5)), none⟩, none), (⟨(some 98), (.mv (.t 5)), none⟩, none), (⟨(some 99), (.fldA 0 (.t 98)), none⟩, none), (⟨(some 100), (.fldA 5 (.t 99)), none⟩, none), (⟨(some 101), (.ld 1 false (.t 100)), none⟩, none), (⟨(some 102), (.mv (.t 7)), none⟩, none), (⟨(some 103), (.fldA 2 (.t 3)), none⟩, none), (⟨(some 104), (.ld 1 false (.t 103)), none⟩, none), (⟨(some 105), (.bldR 3 1 [(.t 104)]), none⟩, (some [104])), (⟨(some 106), (.call (.c (.fn 153 [] [])) [(.t 101), (.t 102), (.t 105)]), none⟩, (some [101, 104])), (⟨(some 107), (.fldA 0 (.t 97)), none⟩, none), (⟨(some 108), (.fldA 5 (.t 107)), none⟩, none), (⟨none, (.st 1 (.t 108) (.t 106)), none⟩, (some [101, 104]))]) (.seq (.reg [⟨(some 109), (.mv (.t 6)), none⟩, ⟨(some 110), (.fldA 1 (.t 3)), none⟩, ⟨(some 111), (.ld 1 false (.t 110)), none⟩, ⟨(some 112), (.fldA 0 (.t 109)), none⟩, ⟨(some 113), (.fldA 4 (.t 112)), none⟩, ⟨none, (.st 1 (.t 113) (.t 111)), none⟩]) (.seq (.reg [⟨(some 4), (.mv (.c (.int .i64 (0)))), none⟩]) .ret)))
def c165_s5 : SCode := (.seq (.block 1 (.seq (.reg [⟨(some 73), (.mv (.t 7)), none⟩, ⟨(some 74), (.bin .lss (.t 73) (.c (.int .i64 (0)))), none⟩, ⟨(some 72), (.mv (.t 74)), none⟩]) (.cond (.t 72) (.seq (.reg [⟨(some 4), (.mv (.c (.int .i64 (5)))), none⟩]) .ret) (.seq (.reg [⟨(some 76), (.mv (.t 0)), none⟩, ⟨(some 77), (.fldA 1 (.t 3)), none⟩, ⟨(some 78), (.ld 1 false (.t 77)), none⟩, ⟨(some 79), (.fldA 2 (.t 3)), none⟩, ⟨(some 80), (.ld 1 false (.t 79)), none⟩, ⟨(some 81), (.call (.c (.fn 181 [] [])) [(.t 76), (.t 78), (.t 80)]), none⟩, ⟨(some 75), (.mv (.t 81)), none⟩]) (.cond (.t 75) (.seq (.reg [⟨(some 4), (.mv (.c (.int .i64 (8)))), none⟩]) .ret) (.seq (.dreg [(⟨(some 83), (.mv (.t 0)), none⟩, none), (⟨(some 84), (.fldA 0 (.t 83)), none⟩, none), (⟨(some 85), (.fldA 0 (.t 84)), none⟩, none), (⟨(some 86), (.ld 2 true (.t 85)), none⟩, none), (⟨(some 87), (.fldA 1 (.t 3)), none⟩, none), (⟨(some 88), (.ld 1 false (.t 87)), none⟩, none), (⟨(some 91), (.mv (.t 0)), none⟩, none), (⟨(some 92), (.fldA 2 (.t 3)), none⟩, none), (⟨(some 93), (.ld 1 false (.t 92)), none⟩, none), (⟨(some 89), (.call (.c (.fn 102 [] [])) [(.t 86), (.t 88)]), none⟩, (some [86, 88])), (⟨(some 90), (.bin .add (.t 89) (.c (.int .i64 (1)))), none⟩, none), (⟨(some 94), (.call (.c (.fn 182 [] [])) [(.t 91), (.t 93)]), none⟩, (some [93, 86, 88])), (⟨(some 95), (.bin .add (.t 90) (.t 94)), none⟩, none), (⟨(some 96), (.bin .gtr (.t 95) (.c (.int .i64 (40)))), none⟩, none), (⟨(some 82), (.mv (.t 96)), none⟩, none)]) (.cond (.t 82) (.seq (.reg [⟨(some 4), (.mv (.c (.int .i64 (2)))), none⟩]) .ret) .skip))))))) c165_s6)
def c165 : SFun := ⟨(.seq (.reg [⟨(some 3), (.boxF 87 12 (.t 1)), none⟩, ⟨(some 4), (.mv (.c (.int .i64 (0)))), none⟩]) (.seq (.dreg [(⟨(some 8), (.mv (.t 0)), none⟩, none), (⟨(some 9), (.fldA 1 (.t 3)), none⟩, none), (⟨(some 10), (.ld 1 false (.t 9)), none⟩, none), (⟨(some 12), (.mv (.t 0)), none⟩, none), (⟨(some 13), (.fldA 2 (.t 3)), none⟩, none), (⟨(some 14), (.ld 1 false (.t 13)), none⟩, none), (⟨(some 11), (.call (.c (.fn 180 [] [])) [(.t 8), (.t 10)]), none⟩, (some [10])), (⟨(some 15), (.call (.c (.fn 180 [] [])) [(.t 12), (.t 14)]), none⟩, (some [14, 10])), (⟨(some 5), (.mv (.t 11)), none⟩, none), (⟨(some 6), (.mv (.t 15)), none⟩, none)]) (.seq (.block 0 (.seq (.reg [⟨(some 17), (.mv (.t 5)), none⟩, ⟨(some 18), (.isnil 1 false (.t 17)), none⟩, ⟨(some 19), (.mv (.t 18)), none⟩, ⟨(some 20), (.mv (.t 6)), (some (19, false))⟩, ⟨(some 21), (.isnil 1 false (.t 20)), (some (19, false))⟩, ⟨(some 22), (.pick (.t 19) (.c (.bool true)) (.t 21)), none⟩, ⟨(some 16), (.mv (.t 22)), none⟩]) (.cond (.t 16) (.seq (.reg [⟨(some 4), (.mv (.c (.int .i64 (5)))), none⟩]) .ret) (.seq (.reg [⟨(some 24), (.mv (.t 5)), none⟩, ⟨(some 25), (.fldA 0 (.t 24)), none⟩, ⟨(some 26), (.fldA 0 (.t 25)), none⟩, ⟨(some 27), (.ld 1 false (.t 26)), none⟩, ⟨(some 28), (.pcall 158 [(.t 27)]), none⟩, ⟨(some 29), (.un .not (.t 28)), none⟩, ⟨(some 30), (.mv (.t 29)), none⟩, ⟨(some 31), (.mv (.t 6)), (some (30, false))⟩, ⟨(some 32), (.fldA 0 (.t 31)), (some (30, false))⟩, ⟨(some 33), (.fldA 0 (.t 32)), (some (30, false))⟩, ⟨(some 34), (.ld 1 false (.t 33)), (some (30, false))⟩, ⟨(some 35), (.bin .eql (.t 34) (.c (.int .i64 (1)))), (some (30, false))⟩, ⟨(some 36), (.pick (.t 30) (.c (.bool true)) (.t 35)), none⟩, ⟨(some 37), (.mv (.t 36)), none⟩, ⟨(some 38), (.mv (.t 5)), (some (37, false))⟩, ⟨(some 39), (.fldA 0 (.t 38)), (some (37, false))⟩, ⟨(some 40), (.fldA 0 (.t 39)), (some (37, false))⟩, ⟨(some 41), (.ld 1 false (.t 40)), (some (37, false))⟩, ⟨(some 42), (.bin .eql (.t 41) (.c (.int .i64 (1)))), (some (37, false))⟩, ⟨(some 43), (.mv (.t 42)), (some (37, false))⟩, ⟨(some 44), (.mv (.t 6)), (some (43, true))⟩, ⟨(some 45), (.fldA 0 (.t 44)), (some (43, true))⟩, ⟨(some 46), (.fldA 0 (.t 45)), (some (43, true))⟩, ⟨(some 47), (.ld 1 false (.t 46)), (some (43, true))⟩, ⟨(some 48), (.bin .eql (.t 47) (.c (.int .i64 (3)))), (some (43, true))⟩, ⟨(some 49), (.pick (.t 43) (.t 48) (.c (.bool false))), (some (37, false))⟩, ⟨(some 50), (.pick (.t 37) (.c (.bool true)) (.t 49)), none⟩, ⟨(some 23), (.mv (.t 50)), none⟩]) (.cond (.t 23) (.seq (.reg [⟨(some 4), (.mv (.c (.int .i64 (7)))), none⟩]) .ret) (.seq (.reg [⟨(some 52), (.mv (.t 6)), none⟩, ⟨(some 53), (.fldA 0 (.t 52)), none⟩, ⟨(some 54), (.fldA 4 (.t 53)), none⟩, ⟨(some 55), (.ld 1 false (.t 54)), none⟩, ⟨(some 56), (.bin .geq (.t 55) (.c (.int .i64 (0)))), none⟩, ⟨(some 51), (.mv (.t 56)), none⟩]) (.cond (.t 51) (.seq (.reg [⟨(some 4), (.mv (.c (.int .i64 (9)))), none⟩]) .ret) .skip))))))) (.seq (.reg [⟨(some 57), (.mv (.t 5)), none⟩, ⟨(some 58), (.fldA 0 (.t 57)), none⟩, ⟨(some 59), (.fldA 5 (.t 58)), none⟩, ⟨(some 60), (.ld 1 false (.t 59)), none⟩, ⟨(some 61), (.len (.t 60)), none⟩, ⟨(some 7), (.mv (.t 61)), none⟩]) (.seq (.seq (.reg [⟨(some 62), (.fldA 3 (.t 3)), none⟩, ⟨(some 63), (.ld 1 false (.t 62)), none⟩, ⟨(some 64), (.bin .neq (.t 63) (.c (.int .i64 (-1)))), none⟩]) (.cond (.t 64) (.dreg [(⟨(some 65), (.mv (.t 5)), none⟩, none), (⟨(some 66), (.fldA 0 (.t 65)), none⟩, none), (⟨(some 67), (.fldA 5 (.t 66)), none⟩, none), (⟨(some 68), (.ld 1 false (.t 67)), none⟩, none), (⟨(some 69), (.fldA 3 (.t 3)), none⟩, none), (⟨(some 70), (.ld 1 false (.t 69)), none⟩, none), (⟨(some 71), (.call (.c (.fn 77 [] [])) [(.t 68), (.t 70)]), none⟩, (some [68, 70])), (⟨(some 7), (.mv (.t 71)), none⟩, none)]) .skip)) c165_s5))))), [(.tmp 4)]⟩
theorem hc165 : toSF Tryd.prog {pure := [158], how := [(105, 2)]} Tryd.f165 = some c165 := by kernel_rfl
theorem hn165 : (Tryd.f165.name == "runtime.NumGoroutine") = false := by kernel_rfl
theorem einsert_ok {h0 h : Heap} {re rN : Nat} {d : HDoc} {sl : Nat → AVal} {made : Int} (E : Ed h0 h re rN d sl made) (V : DV d) (sm : DocSm d) (e : HEdit) (he : EditSm e) (hdo : e.do' = 5) : DCalls (Pg G) 165 [.vp re 0, .agg (eEdit e)] h (EdR h0 h re d e made) := by
  have gN := E.dw.nodes
  have gE := E.ed
  have ner := E.ne
  have vl := V.len
  have hE1 := enode_ok (G := G) E e.at'
  have hE2 := enode_ok (G := G) E e.to
  unfold nodeP at hE1 hE2
  have eE : editE d e = if ¬ inD d e.at' ∨ ¬ inD d e.to then 5
    else if ¬ ((nd d e.at').kind = 1 ∨ (nd d e.at').kind = 2) ∨ (nd d e.to).kind = 1 ∨ ((nd d e.at').kind = 1 ∧ (nd d e.to).kind = 3) then 7
    else if 0 ≤ (nd d e.to).parent then 9 else if e.before ≠ -1 ∧ e.before ∉ (nd d e.at').kids then 5 else if e.to ∈ chain d e.at' then 8
    else if 40 < up d e.at' + 1 + low d e.to then 2 else 0 := by unfold editE; rw [if_neg (by omega), if_neg (by omega), if_neg (by omega), if_neg (by omega), if_pos hdo]
  have eD : editD d e = hung d e.at' e.to (insAt d e) := by unfold editD; rw [if_neg (by omega), if_neg (by omega), if_neg (by omega), if_neg (by omega), if_pos hdo]
  have hm4 : made = if e.do' = 4 then (d.nodes.length : Int) else made := by rw [if_neg (by omega)]
  have s5 : inD d e.at' → inD d e.to → ((nd d e.at').kind = 1 ∨ (nd d e.at').kind = 2) → ¬ (nd d e.to).kind = 1 → ¬ 0 ≤ (nd d e.to).parent → ¬ (e.before ≠ -1 ∧ e.before ∉ (nd d e.at').kids) →
      editE d e = (if e.to ∈ chain d e.at' then 8 else if 40 < up d e.at' + 1 + low d e.to then 2 else 0) → ∀ env : Env, env 0 = .vp re 0 → env 3 = .pin (eEdit e) → env 5 = .ptr rN e.at'.toNat 0 → env 6 = .ptr rN e.to.toNat 0 → env 7 = aInt (insAt d e) →
      vc (Pg G) c165_s5 (retK [.tmp 4] (EdR h0 h re d e made)) env h := by
    intro ha ht hp h71 h9 hb eE env v0 v3 v5 v6 v7
    have ha' := ha.nat.1
    have ht' := ht.nat.1
    have a0 := ha.1
    have t0 := ht.1
    have hBe := (ebelow_ok (G := G) d V made e.at' e.to ha t0)
    have hBe2 : DCalls (Pg G) 181 [.vp re 0, aInt e.at', aInt e.to] h fun r h' => r = .bool (decide (e.to ∈ chain d e.at')) ∧ h' = h := DCalls.bor hBe (.bool _) (.cons E.vw (.cons (.refl _) (.cons (.refl _) .nil)))
    have hUp : DCalls (Pg G) 102 [.agg [.osl rN 6 0 d.nodes.length, .bool d.quirks], aInt e.at'] h fun r h' => r = aInt (up d e.at') ∧ h' = h := DCalls.bor (up_ok (G := G) d sm (fun n hn hp => (V.par_in hn hp).1) e.at' ha) (.int _ _) (.cons E.vwD (.cons (.refl _) .nil))
    have hDe : DCalls (Pg G) 182 [.vp re 0, aInt e.to] h fun r h' => r = aInt (low d e.to) ∧ h' = h := DCalls.bor (edeep_ok (G := G) d V sm made e.to ht) (.int _ _) (.cons E.vw (.cons (.refl _) .nil))
    have u40 := V.deep e.at' ha
    have l40 := low_40 V ht
    have s6 : e.to ∉ chain d e.at' → editE d e = 0 → ∀ env : Env, env 3 = .pin (eEdit e) → env 5 = .ptr rN e.at'.toNat 0 → env 6 = .ptr rN e.to.toNat 0 → env 7 = aInt (insAt d e) →
        vc (Pg G) c165_s6 (retK [.tmp 4] (EdR h0 h re d e made)) env h := by
      intro hc eE env v3 v5 v6 v7
      unfold c165_s6
      skip
      have ga := rowsA_get (sl := sl) ha'
      have gt := rowsA_get (sl := sl) ht'
      have rl := rowsA_len d sl
      have e0 : nth d.nodes e.at'.toNat = nd d e.at' := rfl
      have e1 : nth d.nodes e.to.toNat = nd d e.to := rfl
      rw [e0] at ga
      rw [e1] at gt
      unfold rowA at ga gt
      have kl := (sm.nd e.at').kids
      have lv := E.live (2 * e.at'.toNat + 1) (by omega)
      have hne : e.at' ≠ e.to := fun h => hc (by rw [h]; exact chain_self _ _)
      have hnn : e.at'.toNat ≠ e.to.toNat := by omega
      have hIl : insAt d e ≤ (nd d e.at').kids.length := by
        unfold insAt
        have := idxM_leK (nd d e.at').kids e.before
        split <;> omega
      have nr0 : ∀ t, rootOf (sl (2 * e.at'.toNat + 1)) = some t → t ≠ rN := fun t ht => (E.root_ne (by omega) ht).1
      have kb : (nd d e.at').kids.length ≤ 100000 := by
        have := nodup_len d.nodes.length (nd d e.at').kids (V.nodup _ ha) (fun k hk => (V.kid _ ha k hk).1)
        omega
      simp -dsimp -implicitDefEqProofs (disch := omega) only [↓vcOps_sp 19, ↓vcD_sp 19, ↓vcOps_sp 30, ↓vcD_sp 30, ↓vcOps_sp 37, ↓vcD_sp 37, ↓vcOps_sp 43, ↓vcD_sp 43, VCA, pg_gl, ↓upd_none, Nat.reduceEqDiff, Nat.reduceBEq, Nat.reduceAdd, Nat.reduceSub, Nat.reduceMul, Nat.reduceLT, Nat.reduceLeDiff, ↓reduceIte, reduceCtorEq, rsOf, rootsOf, SOp.rd, SI.rd, SX.rd, rdL, rdO, rdP, okParts, eqCells, okEqCells, fillA, okFill, setAt, implies_true, forall_const, forall_eq, ne_eq, exists_eq_right_right, exists_eq_right, exists_eq_left, exists_eq_left', eInt, eBool, lit_eq, v3, v5, v6, v7, gN, ga, rl, eEdit]
      refine ⟨by omega, fun r hr => ?_⟩
      have nr : ¬ rN = r := fun h => by rw [← h, gN] at hr; cases hr
      have S1 := (Sub.refl h).upd (x := some ⟨3, 1, [eInt e.to]⟩) hr
      have E1 := E.mono S1
      obtain ⟨oA, oK⟩ := E1.dw.own _ ha'
      rw [e0] at oK
      have hIns := insertI_ok (G := G) (x := e.to) (i := insAt d e) oK lv hIl kb (upd_same _ _ _) (fun h => by obtain ⟨o, ho⟩ := E.dw.slot (k := 2 * e.at'.toNat + 1) (by omega) h; rw [hr] at ho; cases ho)
      have gN1 := E1.dw.nodes
      have keepN : ∀ h9 : Heap, (∀ t o, upd h r (some ⟨3, 1, [eInt e.to]⟩) t = some o → rootOf (sl (2 * e.at'.toNat + 1)) ≠ some t → h9 t = some o) → h9 rN = some ⟨43, 6, rowsA d sl⟩ := fun h9 kp => kp rN _ gN1 (fun h => nr0 _ h rfl)
      unfold eInt at hIns
      simp -dsimp -implicitDefEqProofs (disch := omega) only [↓vcOps_sp 19, ↓vcD_sp 19, ↓vcOps_sp 30, ↓vcD_sp 30, ↓vcOps_sp 37, ↓vcD_sp 37, ↓vcOps_sp 43, ↓vcD_sp 43, VCA, pg_gl, ↓upd_none, Nat.reduceEqDiff, Nat.reduceBEq, Nat.reduceAdd, Nat.reduceSub, Nat.reduceMul, Nat.reduceLT, Nat.reduceLeDiff, ↓reduceIte, reduceCtorEq, rsOf, rootsOf, SOp.rd, SI.rd, SX.rd, rdL, rdO, rdP, okParts, eqCells, okEqCells, fillA, okFill, setAt, implies_true, forall_const, forall_eq, ne_eq, exists_eq_right_right, exists_eq_right, exists_eq_left, exists_eq_left', eInt, eBool, lit_eq, v3, v5, v6, v7, gN, ga, rl, nr, eEdit]
      refine DCalls.of hIns ?_
      rintro _ h9 ⟨r', rfl, hr', hf, kp⟩
      have gN9 := keepN h9 kp
      have gne := fun (x : List AVal) => getD_set_ne (es := rowsA d sl) (x := x) hnn
      repeat' (first | ((with_reducible refine Br.dec (fun _ => ?_) (fun _ => ?_)) <;> try (exfalso; omega)) | ((with_reducible refine Br.eq (fun _ => ?_) (fun _ => ?_)) <;> try (exfalso; omega)) | ((with_reducible refine Br.ne (fun _ => ?_) (fun _ => ?_)) <;> try (exfalso; omega)) | ((with_reducible refine brNdec (fun _ => ?_) (fun _ => ?_)) <;> try (exfalso; omega)) | ((with_reducible refine brNeq (fun _ => ?_) (fun _ => ?_)) <;> try (exfalso; omega)) | with_reducible refine Br.intro (fun _ => ?_) (fun _ => ?_) | (with_reducible refine And.intro ?_ ?_; · omega) | simp -dsimp -implicitDefEqProofs (disch := omega) only [↓vcOps_sp 19, ↓vcD_sp 19, ↓vcOps_sp 30, ↓vcD_sp 30, ↓vcOps_sp 37, ↓vcD_sp 37, ↓vcOps_sp 43, ↓vcD_sp 43, VCA, pg_gl, ↓upd_none, Nat.reduceEqDiff, Nat.reduceBEq, Nat.reduceAdd, Nat.reduceSub, Nat.reduceMul, Nat.reduceLT, Nat.reduceLeDiff, ↓reduceIte, reduceCtorEq, rsOf, rootsOf, SOp.rd, SI.rd, SX.rd, rdL, rdO, rdP, okParts, eqCells, okEqCells, fillA, okFill, setAt, implies_true, forall_const, forall_eq, ne_eq, exists_eq_right_right, exists_eq_right, exists_eq_left, exists_eq_left', eInt, eBool, lit_eq, v3, v5, v6, v7, gN, gN9, ga, gt, rl, nr, gne, List.length_set, eEdit])
      have ln := ins_len (nd d e.at').kids (insAt d e) e.to hIl
      have hO : OwnS h9 3 1 (((nd d e.at').kids.take (insAt d e) ++ e.to :: (nd d e.at').kids.drop (insAt d e)).map eInt) (.osl r' 1 0 ((nd d e.at').kids.length + 1)) :=
        .inr (.inr ⟨r', _, by rw [List.length_map, ln], hr', Nat.le_refl _, List.take_length⟩)
      have E2 := E1.slotK ha' kp hO (fun es e => by cases e) (fun t ht => by cases ht; exact hf)
      rw [e0] at E2
      have nn := E2.dw.rows_eq
      have n1 : nth (d.nodes.set e.at'.toNat { nd d e.at' with kids := (nd d e.at').kids.take (insAt d e) ++ e.to :: (nd d e.at').kids.drop (insAt d e) }) e.to.toNat = nd d e.to := by
        rw [nth_set _ _ _ _ ha', if_neg (fun h => hnn h.symm)]; rfl
      have E3 := E2.cells (i := e.to.toNat) (by simpa using ht') (x' := { nd d e.to with parent := e.at' }) (by show _ = (nth (d.nodes.set _ _) _).attrs; rw [n1]) (by show _ = (nth (d.nodes.set _ _) _).kids; rw [n1])
      rw [← nn] at E3
      have v1 : upd sl (2 * e.at'.toNat + 1) (AVal.osl r' 1 0 ((nd d e.at').kids.length + 1)) (2 * e.to.toNat) = sl (2 * e.to.toNat) := upd_ne _ _ (by omega)
      have v2 : upd sl (2 * e.at'.toNat + 1) (AVal.osl r' 1 0 ((nd d e.at').kids.length + 1)) (2 * e.to.toNat + 1) = sl (2 * e.to.toNat + 1) := upd_ne _ _ (by omega)
      rw [v1, v2, upd_upd] at E3
      exact ⟨_, Sub.refl _, EdR.good eE hm4 (by rw [eD]; exact E3)⟩
    unfold c165_s5
    skip
    simp -dsimp -implicitDefEqProofs (disch := omega) only [↓vcOps_sp 19, ↓vcD_sp 19, ↓vcOps_sp 30, ↓vcD_sp 30, ↓vcOps_sp 37, ↓vcD_sp 37, ↓vcOps_sp 43, ↓vcD_sp 43, VCA, pg_gl, ↓upd_none, Nat.reduceEqDiff, Nat.reduceBEq, Nat.reduceAdd, Nat.reduceSub, Nat.reduceMul, Nat.reduceLT, Nat.reduceLeDiff, ↓reduceIte, reduceCtorEq, rsOf, rootsOf, SOp.rd, SI.rd, SX.rd, rdL, rdO, rdP, okParts, eqCells, okEqCells, fillA, okFill, setAt, implies_true, forall_const, forall_eq, ne_eq, exists_eq_right_right, exists_eq_right, exists_eq_left, exists_eq_left', eInt, eBool, lit_eq, v0, v3, v5, v6, v7]
    by_cases hc : e.to ∈ chain d e.at'
    · rw [if_pos hc] at eE
      rw [decide_eq_true hc] at hBe2
      repeat' (first | ((with_reducible refine Br.dec (fun _ => ?_) (fun _ => ?_)) <;> try (exfalso; omega)) | ((with_reducible refine Br.eq (fun _ => ?_) (fun _ => ?_)) <;> try (exfalso; omega)) | ((with_reducible refine Br.ne (fun _ => ?_) (fun _ => ?_)) <;> try (exfalso; omega)) | ((with_reducible refine brNdec (fun _ => ?_) (fun _ => ?_)) <;> try (exfalso; omega)) | ((with_reducible refine brNeq (fun _ => ?_) (fun _ => ?_)) <;> try (exfalso; omega)) | with_reducible refine Br.intro (fun _ => ?_) (fun _ => ?_) | ((refine DCalls.of hBe2 ?_; rintro _ hh ⟨rfl, rfl⟩)) | (with_reducible refine And.intro ?_ ?_; · omega) | simp -dsimp -implicitDefEqProofs (disch := omega) only [↓vcOps_sp 19, ↓vcD_sp 19, ↓vcOps_sp 30, ↓vcD_sp 30, ↓vcOps_sp 37, ↓vcD_sp 37, ↓vcOps_sp 43, ↓vcD_sp 43, VCA, pg_gl, ↓upd_none, Nat.reduceEqDiff, Nat.reduceBEq, Nat.reduceAdd, Nat.reduceSub, Nat.reduceMul, Nat.reduceLT, Nat.reduceLeDiff, ↓reduceIte, reduceCtorEq, rsOf, rootsOf, SOp.rd, SI.rd, SX.rd, rdL, rdO, rdP, okParts, eqCells, okEqCells, fillA, okFill, setAt, implies_true, forall_const, forall_eq, ne_eq, exists_eq_right_right, exists_eq_right, exists_eq_left, exists_eq_left', eInt, eBool, lit_eq, v0, v3, v5, v6, v7, eEdit])
      all_goals first | (exfalso; omega) | exact ⟨_, Sub.refl _, EdR.bad eE (by decide)⟩ | trace_state
    · rw [if_neg hc] at eE
      rw [decide_eq_false hc] at hBe2
      by_cases h2 : 40 < up d e.at' + 1 + low d e.to
      · rw [if_pos h2] at eE
        repeat' (first | ((with_reducible refine Br.dec (fun _ => ?_) (fun _ => ?_)) <;> try (exfalso; omega)) | ((with_reducible refine Br.eq (fun _ => ?_) (fun _ => ?_)) <;> try (exfalso; omega)) | ((with_reducible refine Br.ne (fun _ => ?_) (fun _ => ?_)) <;> try (exfalso; omega)) | ((with_reducible refine brNdec (fun _ => ?_) (fun _ => ?_)) <;> try (exfalso; omega)) | ((with_reducible refine brNeq (fun _ => ?_) (fun _ => ?_)) <;> try (exfalso; omega)) | with_reducible refine Br.intro (fun _ => ?_) (fun _ => ?_) | ((refine DCalls.of hBe2 ?_; rintro _ hh ⟨rfl, rfl⟩)) | ((refine DCalls.of hUp ?_; rintro _ hh ⟨rfl, rfl⟩)) | ((refine DCalls.of hDe ?_; rintro _ hh ⟨rfl, rfl⟩)) | (with_reducible refine And.intro ?_ ?_; · omega) | simp -dsimp -implicitDefEqProofs (disch := omega) only [↓vcOps_sp 19, ↓vcD_sp 19, ↓vcOps_sp 30, ↓vcD_sp 30, ↓vcOps_sp 37, ↓vcD_sp 37, ↓vcOps_sp 43, ↓vcD_sp 43, VCA, pg_gl, ↓upd_none, Nat.reduceEqDiff, Nat.reduceBEq, Nat.reduceAdd, Nat.reduceSub, Nat.reduceMul, Nat.reduceLT, Nat.reduceLeDiff, ↓reduceIte, reduceCtorEq, rsOf, rootsOf, SOp.rd, SI.rd, SX.rd, rdL, rdO, rdP, okParts, eqCells, okEqCells, fillA, okFill, setAt, implies_true, forall_const, forall_eq, ne_eq, exists_eq_right_right, exists_eq_right, exists_eq_left, exists_eq_left', eInt, eBool, lit_eq, v0, v3, v5, v6, v7, gE, eEdit])
        all_goals first | (exfalso; omega) | exact ⟨_, Sub.refl _, EdR.bad eE (by decide)⟩ | trace_state
      · rw [if_neg h2] at eE
        repeat' (first | ((with_reducible refine Br.dec (fun _ => ?_) (fun _ => ?_)) <;> try (exfalso; omega)) | ((with_reducible refine Br.eq (fun _ => ?_) (fun _ => ?_)) <;> try (exfalso; omega)) | ((with_reducible refine Br.ne (fun _ => ?_) (fun _ => ?_)) <;> try (exfalso; omega)) | ((with_reducible refine brNdec (fun _ => ?_) (fun _ => ?_)) <;> try (exfalso; omega)) | ((with_reducible refine brNeq (fun _ => ?_) (fun _ => ?_)) <;> try (exfalso; omega)) | with_reducible refine Br.intro (fun _ => ?_) (fun _ => ?_) | ((refine DCalls.of hBe2 ?_; rintro _ hh ⟨rfl, rfl⟩)) | ((refine DCalls.of hUp ?_; rintro _ hh ⟨rfl, rfl⟩)) | ((refine DCalls.of hDe ?_; rintro _ hh ⟨rfl, rfl⟩)) | (with_reducible refine And.intro ?_ ?_; · omega) | simp -dsimp -implicitDefEqProofs (disch := omega) only [↓vcOps_sp 19, ↓vcD_sp 19, ↓vcOps_sp 30, ↓vcD_sp 30, ↓vcOps_sp 37, ↓vcD_sp 37, ↓vcOps_sp 43, ↓vcD_sp 43, VCA, pg_gl, ↓upd_none, Nat.reduceEqDiff, Nat.reduceBEq, Nat.reduceAdd, Nat.reduceSub, Nat.reduceMul, Nat.reduceLT, Nat.reduceLeDiff, ↓reduceIte, reduceCtorEq, rsOf, rootsOf, SOp.rd, SI.rd, SX.rd, rdL, rdO, rdP, okParts, eqCells, okEqCells, fillA, okFill, setAt, implies_true, forall_const, forall_eq, ne_eq, exists_eq_right_right, exists_eq_right, exists_eq_left, exists_eq_left', eInt, eBool, lit_eq, v0, v3, v5, v6, v7, gE, eEdit])
        all_goals first | (exfalso; omega) | exact s6 hc eE _ v3 v5 v6 v7 | trace_state
  have s5b : editE d e = 5 → ∀ (env : Env) (v : Int), v < 0 → env 7 = aInt v → vc (Pg G) c165_s5 (retK [.tmp 4] (EdR h0 h re d e made)) env h := by
    intro eE env v hv v7
    unfold c165_s5
    skip
    simp -dsimp -implicitDefEqProofs (disch := omega) only [↓vcOps_sp 19, ↓vcD_sp 19, ↓vcOps_sp 30, ↓vcD_sp 30, ↓vcOps_sp 37, ↓vcD_sp 37, ↓vcOps_sp 43, ↓vcD_sp 43, VCA, pg_gl, ↓upd_none, Nat.reduceEqDiff, Nat.reduceBEq, Nat.reduceAdd, Nat.reduceSub, Nat.reduceMul, Nat.reduceLT, Nat.reduceLeDiff, ↓reduceIte, reduceCtorEq, rsOf, rootsOf, SOp.rd, SI.rd, SX.rd, rdL, rdO, rdP, okParts, eqCells, okEqCells, fillA, okFill, setAt, implies_true, forall_const, forall_eq, ne_eq, exists_eq_right_right, exists_eq_right, exists_eq_left, exists_eq_left', eInt, eBool, lit_eq, v7]
    repeat' (first | ((with_reducible refine Br.dec (fun _ => ?_) (fun _ => ?_)) <;> try (exfalso; omega)) | ((with_reducible refine Br.eq (fun _ => ?_) (fun _ => ?_)) <;> try (exfalso; omega)) | ((with_reducible refine Br.ne (fun _ => ?_) (fun _ => ?_)) <;> try (exfalso; omega)) | ((with_reducible refine brNdec (fun _ => ?_) (fun _ => ?_)) <;> try (exfalso; omega)) | ((with_reducible refine brNeq (fun _ => ?_) (fun _ => ?_)) <;> try (exfalso; omega)) | with_reducible refine Br.intro (fun _ => ?_) (fun _ => ?_) | (with_reducible refine And.intro ?_ ?_; · omega) | simp -dsimp -implicitDefEqProofs (disch := omega) only [↓vcOps_sp 19, ↓vcD_sp 19, ↓vcOps_sp 30, ↓vcD_sp 30, ↓vcOps_sp 37, ↓vcD_sp 37, ↓vcOps_sp 43, ↓vcD_sp 43, VCA, pg_gl, ↓upd_none, Nat.reduceEqDiff, Nat.reduceBEq, Nat.reduceAdd, Nat.reduceSub, Nat.reduceMul, Nat.reduceLT, Nat.reduceLeDiff, ↓reduceIte, reduceCtorEq, rsOf, rootsOf, SOp.rd, SI.rd, SX.rd, rdL, rdO, rdP, okParts, eqCells, okEqCells, fillA, okFill, setAt, implies_true, forall_const, forall_eq, ne_eq, exists_eq_right_right, exists_eq_right, exists_eq_left, exists_eq_left', eInt, eBool, lit_eq, v7])
    all_goals first | (exfalso; omega) | exact ⟨_, Sub.refl _, EdR.bad eE (by decide)⟩
  refine dcalls_of_vc Tryd.func165 hn165 hc165 (by rw [Tryd.ntmps165]; simp) (by rw [Tryd.ntmps165]; decide) ?_
  simp -dsimp -implicitDefEqProofs (disch := omega) only [↓vcOps_sp 19, ↓vcD_sp 19, ↓vcOps_sp 30, ↓vcD_sp 30, ↓vcOps_sp 37, ↓vcD_sp 37, ↓vcOps_sp 43, ↓vcD_sp 43, VCA, pg_gl, ↓upd_none, Nat.reduceEqDiff, Nat.reduceBEq, Nat.reduceAdd, Nat.reduceSub, Nat.reduceMul, Nat.reduceLT, Nat.reduceLeDiff, ↓reduceIte, reduceCtorEq, rsOf, rootsOf, SOp.rd, SI.rd, SX.rd, rdL, rdO, rdP, okParts, eqCells, okEqCells, fillA, okFill, setAt, implies_true, forall_const, forall_eq, ne_eq, exists_eq_right_right, exists_eq_right, exists_eq_left, exists_eq_left', eInt, eBool, lit_eq, c165, eEdit]
  by_cases ha : inD d e.at'
  · rw [if_pos ha] at hE1
    by_cases ht : inD d e.to
    · rw [if_pos ht] at hE2
      rw [if_neg (by simp [ha, ht])] at eE
      have ha' := ha.nat.1
      have ht' := ht.nat.1
      have ga := rowsA_get (sl := sl) ha'
      have gt := rowsA_get (sl := sl) ht'
      have rl := rowsA_len d sl
      have e0 : nth d.nodes e.at'.toNat = nd d e.at' := rfl
      have e1 : nth d.nodes e.to.toNat = nd d e.to := rfl
      rw [e0] at ga
      rw [e1] at gt
      unfold rowA at ga gt
      obtain ⟨oA, oK⟩ := E.dw.own _ ha'
      rw [e0] at oK
      have kl := (sm.nd e.at').kids
      have oL := oK.len.1
      have oL2 := oK.len.2
      rw [List.length_map] at oL
      have hPa := parent_ok (G := G) (nd d e.at').kind
      by_cases h7 : ¬ ((nd d e.at').kind = 1 ∨ (nd d e.at').kind = 2) ∨ (nd d e.to).kind = 1 ∨ ((nd d e.at').kind = 1 ∧ (nd d e.to).kind = 3)
      · rw [if_pos h7] at eE
        by_cases hp : (nd d e.at').kind = 1 ∨ (nd d e.at').kind = 2
        · rw [show (decide ((nd d e.at').kind = 1) || decide ((nd d e.at').kind = 2)) = true by simpa using hp] at hPa
          repeat' (first | ((with_reducible refine Br.dec (fun _ => ?_) (fun _ => ?_)) <;> try (exfalso; omega)) | ((with_reducible refine Br.eq (fun _ => ?_) (fun _ => ?_)) <;> try (exfalso; omega)) | ((with_reducible refine Br.ne (fun _ => ?_) (fun _ => ?_)) <;> try (exfalso; omega)) | ((with_reducible refine brNdec (fun _ => ?_) (fun _ => ?_)) <;> try (exfalso; omega)) | ((with_reducible refine brNeq (fun _ => ?_) (fun _ => ?_)) <;> try (exfalso; omega)) | with_reducible refine Br.intro (fun _ => ?_) (fun _ => ?_) | ((refine DCalls.of hE1 ?_; rintro _ hh ⟨rfl, rfl⟩)) | ((refine DCalls.of hE2 ?_; rintro _ hh ⟨rfl, rfl⟩)) | (with_reducible apply pcallE.of; · exact hPa) | (with_reducible refine And.intro ?_ ?_; · omega) | simp -dsimp -implicitDefEqProofs (disch := omega) only [↓vcOps_sp 19, ↓vcD_sp 19, ↓vcOps_sp 30, ↓vcD_sp 30, ↓vcOps_sp 37, ↓vcD_sp 37, ↓vcOps_sp 43, ↓vcD_sp 43, VCA, pg_gl, ↓upd_none, Nat.reduceEqDiff, Nat.reduceBEq, Nat.reduceAdd, Nat.reduceSub, Nat.reduceMul, Nat.reduceLT, Nat.reduceLeDiff, ↓reduceIte, reduceCtorEq, rsOf, rootsOf, SOp.rd, SI.rd, SX.rd, rdL, rdO, rdP, okParts, eqCells, okEqCells, fillA, okFill, setAt, implies_true, forall_const, forall_eq, ne_eq, exists_eq_right_right, exists_eq_right, exists_eq_left, exists_eq_left', eInt, eBool, lit_eq, gN, ga, gt, rl, eEdit])
          all_goals first | (exfalso; omega) | exact ⟨_, Sub.refl _, EdR.bad eE (by decide)⟩ | trace_state
        · rw [show (decide ((nd d e.at').kind = 1) || decide ((nd d e.at').kind = 2)) = false by simpa using hp] at hPa
          repeat' (first | ((with_reducible refine Br.dec (fun _ => ?_) (fun _ => ?_)) <;> try (exfalso; omega)) | ((with_reducible refine Br.eq (fun _ => ?_) (fun _ => ?_)) <;> try (exfalso; omega)) | ((with_reducible refine Br.ne (fun _ => ?_) (fun _ => ?_)) <;> try (exfalso; omega)) | ((with_reducible refine brNdec (fun _ => ?_) (fun _ => ?_)) <;> try (exfalso; omega)) | ((with_reducible refine brNeq (fun _ => ?_) (fun _ => ?_)) <;> try (exfalso; omega)) | with_reducible refine Br.intro (fun _ => ?_) (fun _ => ?_) | ((refine DCalls.of hE1 ?_; rintro _ hh ⟨rfl, rfl⟩)) | ((refine DCalls.of hE2 ?_; rintro _ hh ⟨rfl, rfl⟩)) | (with_reducible apply pcallE.of; · exact hPa) | (with_reducible refine And.intro ?_ ?_; · omega) | simp -dsimp -implicitDefEqProofs (disch := omega) only [↓vcOps_sp 19, ↓vcD_sp 19, ↓vcOps_sp 30, ↓vcD_sp 30, ↓vcOps_sp 37, ↓vcD_sp 37, ↓vcOps_sp 43, ↓vcD_sp 43, VCA, pg_gl, ↓upd_none, Nat.reduceEqDiff, Nat.reduceBEq, Nat.reduceAdd, Nat.reduceSub, Nat.reduceMul, Nat.reduceLT, Nat.reduceLeDiff, ↓reduceIte, reduceCtorEq, rsOf, rootsOf, SOp.rd, SI.rd, SX.rd, rdL, rdO, rdP, okParts, eqCells, okEqCells, fillA, okFill, setAt, implies_true, forall_const, forall_eq, ne_eq, exists_eq_right_right, exists_eq_right, exists_eq_left, exists_eq_left', eInt, eBool, lit_eq, gN, ga, gt, rl, eEdit])
          all_goals first | (exfalso; omega) | exact ⟨_, Sub.refl _, EdR.bad eE (by decide)⟩ | trace_state
      · rw [if_neg h7] at eE
        have hp : (nd d e.at').kind = 1 ∨ (nd d e.at').kind = 2 := Classical.not_not.1 fun h => h7 (.inl h)
        have h71 : ¬ (nd d e.to).kind = 1 := fun h => h7 (.inr (.inl h))
        have h72 : ¬ ((nd d e.at').kind = 1 ∧ (nd d e.to).kind = 3) := fun h => h7 (.inr (.inr h))
        rw [show (decide ((nd d e.at').kind = 1) || decide ((nd d e.at').kind = 2)) = true by simpa using hp] at hPa
        by_cases h9 : 0 ≤ (nd d e.to).parent
        · rw [if_pos h9] at eE
          repeat' (first | ((with_reducible refine Br.dec (fun _ => ?_) (fun _ => ?_)) <;> try (exfalso; omega)) | ((with_reducible refine Br.eq (fun _ => ?_) (fun _ => ?_)) <;> try (exfalso; omega)) | ((with_reducible refine Br.ne (fun _ => ?_) (fun _ => ?_)) <;> try (exfalso; omega)) | ((with_reducible refine brNdec (fun _ => ?_) (fun _ => ?_)) <;> try (exfalso; omega)) | ((with_reducible refine brNeq (fun _ => ?_) (fun _ => ?_)) <;> try (exfalso; omega)) | with_reducible refine Br.intro (fun _ => ?_) (fun _ => ?_) | ((refine DCalls.of hE1 ?_; rintro _ hh ⟨rfl, rfl⟩)) | ((refine DCalls.of hE2 ?_; rintro _ hh ⟨rfl, rfl⟩)) | (with_reducible apply pcallE.of; · exact hPa) | (with_reducible refine And.intro ?_ ?_; · omega) | simp -dsimp -implicitDefEqProofs (disch := omega) only [↓vcOps_sp 19, ↓vcD_sp 19, ↓vcOps_sp 30, ↓vcD_sp 30, ↓vcOps_sp 37, ↓vcD_sp 37, ↓vcOps_sp 43, ↓vcD_sp 43, VCA, pg_gl, ↓upd_none, Nat.reduceEqDiff, Nat.reduceBEq, Nat.reduceAdd, Nat.reduceSub, Nat.reduceMul, Nat.reduceLT, Nat.reduceLeDiff, ↓reduceIte, reduceCtorEq, rsOf, rootsOf, SOp.rd, SI.rd, SX.rd, rdL, rdO, rdP, okParts, eqCells, okEqCells, fillA, okFill, setAt, implies_true, forall_const, forall_eq, ne_eq, exists_eq_right_right, exists_eq_right, exists_eq_left, exists_eq_left', eInt, eBool, lit_eq, gN, ga, gt, rl, eEdit])
          all_goals first | (exfalso; omega) | exact ⟨_, Sub.refl _, EdR.bad eE (by decide)⟩ | trace_state
        · rw [if_neg h9] at eE
          have hIx := index_own (G := G) oK e.before kl
          have i1 := idxM_leK (nd d e.at').kids e.before
          have im := idx_mem (nd d e.at').kids e.before
          by_cases hb : e.before ≠ -1 ∧ e.before ∉ (nd d e.at').kids
          · rw [if_pos hb] at eE
            have hb1 : ¬ 0 ≤ idxM (· == e.before) (nd d e.at').kids := fun h => hb.2 (im.1 h)
            repeat' (first | ((with_reducible refine Br.dec (fun _ => ?_) (fun _ => ?_)) <;> try (exfalso; omega)) | ((with_reducible refine Br.eq (fun _ => ?_) (fun _ => ?_)) <;> try (exfalso; omega)) | ((with_reducible refine Br.ne (fun _ => ?_) (fun _ => ?_)) <;> try (exfalso; omega)) | ((with_reducible refine brNdec (fun _ => ?_) (fun _ => ?_)) <;> try (exfalso; omega)) | ((with_reducible refine brNeq (fun _ => ?_) (fun _ => ?_)) <;> try (exfalso; omega)) | with_reducible refine Br.intro (fun _ => ?_) (fun _ => ?_) | ((refine DCalls.of hE1 ?_; rintro _ hh ⟨rfl, rfl⟩)) | ((refine DCalls.of hE2 ?_; rintro _ hh ⟨rfl, rfl⟩)) | (with_reducible apply pcallE.of; · exact hPa) | ((refine DCalls.of hIx ?_; rintro _ hh ⟨rfl, rfl⟩)) | (with_reducible refine And.intro ?_ ?_; · omega) | simp -dsimp -implicitDefEqProofs (disch := omega) only [↓vcOps_sp 19, ↓vcD_sp 19, ↓vcOps_sp 30, ↓vcD_sp 30, ↓vcOps_sp 37, ↓vcD_sp 37, ↓vcOps_sp 43, ↓vcD_sp 43, VCA, pg_gl, ↓upd_none, Nat.reduceEqDiff, Nat.reduceBEq, Nat.reduceAdd, Nat.reduceSub, Nat.reduceMul, Nat.reduceLT, Nat.reduceLeDiff, ↓reduceIte, reduceCtorEq, rsOf, rootsOf, SOp.rd, SI.rd, SX.rd, rdL, rdO, rdP, okParts, eqCells, okEqCells, fillA, okFill, setAt, implies_true, forall_const, forall_eq, ne_eq, exists_eq_right_right, exists_eq_right, exists_eq_left, exists_eq_left', eInt, eBool, lit_eq, gN, ga, gt, rl, eEdit, oL, oL2])
            all_goals first | (exfalso; omega) | exact ⟨_, Sub.refl _, EdR.bad eE (by decide)⟩ | exact s5b eE _ _ (by omega) rfl
          · rw [if_neg hb] at eE
            by_cases hb1 : e.before = -1
            · have hI : insAt d e = (nd d e.at').kids.length := by unfold insAt; rw [if_pos hb1]
              rw [hI] at s5
              repeat' (first | ((with_reducible refine Br.dec (fun _ => ?_) (fun _ => ?_)) <;> try (exfalso; omega)) | ((with_reducible refine Br.eq (fun _ => ?_) (fun _ => ?_)) <;> try (exfalso; omega)) | ((with_reducible refine Br.ne (fun _ => ?_) (fun _ => ?_)) <;> try (exfalso; omega)) | ((with_reducible refine brNdec (fun _ => ?_) (fun _ => ?_)) <;> try (exfalso; omega)) | ((with_reducible refine brNeq (fun _ => ?_) (fun _ => ?_)) <;> try (exfalso; omega)) | with_reducible refine Br.intro (fun _ => ?_) (fun _ => ?_) | ((refine DCalls.of hE1 ?_; rintro _ hh ⟨rfl, rfl⟩)) | ((refine DCalls.of hE2 ?_; rintro _ hh ⟨rfl, rfl⟩)) | (with_reducible apply pcallE.of; · exact hPa) | (with_reducible refine And.intro ?_ ?_; · omega) | simp -dsimp -implicitDefEqProofs (disch := omega) only [↓vcOps_sp 19, ↓vcD_sp 19, ↓vcOps_sp 30, ↓vcD_sp 30, ↓vcOps_sp 37, ↓vcD_sp 37, ↓vcOps_sp 43, ↓vcD_sp 43, VCA, pg_gl, ↓upd_none, Nat.reduceEqDiff, Nat.reduceBEq, Nat.reduceAdd, Nat.reduceSub, Nat.reduceMul, Nat.reduceLT, Nat.reduceLeDiff, ↓reduceIte, reduceCtorEq, rsOf, rootsOf, SOp.rd, SI.rd, SX.rd, rdL, rdO, rdP, okParts, eqCells, okEqCells, fillA, okFill, setAt, implies_true, forall_const, forall_eq, ne_eq, exists_eq_right_right, exists_eq_right, exists_eq_left, exists_eq_left', eInt, eBool, lit_eq, gN, ga, gt, rl, eEdit, oL, oL2])
              all_goals first | (exfalso; omega) | refine s5 ha ht hp h71 h9 hb eE _ ?_ ?_ ?_ ?_ ?_ <;> rfl
            · have hbm : e.before ∈ (nd d e.at').kids := Classical.not_not.1 fun h => hb ⟨hb1, h⟩
              have i0 := im.2 hbm
              have hI : (insAt d e : Int) = idxM (· == e.before) (nd d e.at').kids := by unfold insAt; rw [if_neg hb1]; omega
              rw [← hI] at hIx
              repeat' (first | ((with_reducible refine Br.dec (fun _ => ?_) (fun _ => ?_)) <;> try (exfalso; omega)) | ((with_reducible refine Br.eq (fun _ => ?_) (fun _ => ?_)) <;> try (exfalso; omega)) | ((with_reducible refine Br.ne (fun _ => ?_) (fun _ => ?_)) <;> try (exfalso; omega)) | ((with_reducible refine brNdec (fun _ => ?_) (fun _ => ?_)) <;> try (exfalso; omega)) | ((with_reducible refine brNeq (fun _ => ?_) (fun _ => ?_)) <;> try (exfalso; omega)) | with_reducible refine Br.intro (fun _ => ?_) (fun _ => ?_) | ((refine DCalls.of hE1 ?_; rintro _ hh ⟨rfl, rfl⟩)) | ((refine DCalls.of hE2 ?_; rintro _ hh ⟨rfl, rfl⟩)) | (with_reducible apply pcallE.of; · exact hPa) | ((refine DCalls.of hIx ?_; rintro _ hh ⟨rfl, rfl⟩)) | (with_reducible refine And.intro ?_ ?_; · omega) | simp -dsimp -implicitDefEqProofs (disch := omega) only [↓vcOps_sp 19, ↓vcD_sp 19, ↓vcOps_sp 30, ↓vcD_sp 30, ↓vcOps_sp 37, ↓vcD_sp 37, ↓vcOps_sp 43, ↓vcD_sp 43, VCA, pg_gl, ↓upd_none, Nat.reduceEqDiff, Nat.reduceBEq, Nat.reduceAdd, Nat.reduceSub, Nat.reduceMul, Nat.reduceLT, Nat.reduceLeDiff, ↓reduceIte, reduceCtorEq, rsOf, rootsOf, SOp.rd, SI.rd, SX.rd, rdL, rdO, rdP, okParts, eqCells, okEqCells, fillA, okFill, setAt, implies_true, forall_const, forall_eq, ne_eq, exists_eq_right_right, exists_eq_right, exists_eq_left, exists_eq_left', eInt, eBool, lit_eq, gN, ga, gt, rl, eEdit, oL, oL2])
              all_goals first | (exfalso; omega) | refine s5 ha ht hp h71 h9 hb eE _ ?_ ?_ ?_ ?_ ?_ <;> rfl
    · rw [if_neg ht] at hE2
      rw [if_pos (.inr ht)] at eE
      repeat' (first | ((with_reducible refine Br.dec (fun _ => ?_) (fun _ => ?_)) <;> try (exfalso; omega)) | ((with_reducible refine Br.eq (fun _ => ?_) (fun _ => ?_)) <;> try (exfalso; omega)) | ((with_reducible refine Br.ne (fun _ => ?_) (fun _ => ?_)) <;> try (exfalso; omega)) | ((with_reducible refine brNdec (fun _ => ?_) (fun _ => ?_)) <;> try (exfalso; omega)) | ((with_reducible refine brNeq (fun _ => ?_) (fun _ => ?_)) <;> try (exfalso; omega)) | with_reducible refine Br.intro (fun _ => ?_) (fun _ => ?_) | ((refine DCalls.of hE1 ?_; rintro _ hh ⟨rfl, rfl⟩)) | ((refine DCalls.of hE2 ?_; rintro _ hh ⟨rfl, rfl⟩)) | (with_reducible refine And.intro ?_ ?_; · omega) | simp -dsimp -implicitDefEqProofs (disch := omega) only [↓vcOps_sp 19, ↓vcD_sp 19, ↓vcOps_sp 30, ↓vcD_sp 30, ↓vcOps_sp 37, ↓vcD_sp 37, ↓vcOps_sp 43, ↓vcD_sp 43, VCA, pg_gl, ↓upd_none, Nat.reduceEqDiff, Nat.reduceBEq, Nat.reduceAdd, Nat.reduceSub, Nat.reduceMul, Nat.reduceLT, Nat.reduceLeDiff, ↓reduceIte, reduceCtorEq, rsOf, rootsOf, SOp.rd, SI.rd, SX.rd, rdL, rdO, rdP, okParts, eqCells, okEqCells, fillA, okFill, setAt, implies_true, forall_const, forall_eq, ne_eq, exists_eq_right_right, exists_eq_right, exists_eq_left, exists_eq_left', eInt, eBool, lit_eq, eEdit])
      all_goals first | (exfalso; omega) | exact ⟨_, Sub.refl _, EdR.bad eE (by decide)⟩ | trace_state
  · rw [if_neg ha] at hE1
    rw [if_pos (.inl ha)] at eE
    by_cases ht : inD d e.to
    · rw [if_pos ht] at hE2
      repeat' (first | ((with_reducible refine Br.dec (fun _ => ?_) (fun _ => ?_)) <;> try (exfalso; omega)) | ((with_reducible refine Br.eq (fun _ => ?_) (fun _ => ?_)) <;> try (exfalso; omega)) | ((with_reducible refine Br.ne (fun _ => ?_) (fun _ => ?_)) <;> try (exfalso; omega)) | ((with_reducible refine brNdec (fun _ => ?_) (fun _ => ?_)) <;> try (exfalso; omega)) | ((with_reducible refine brNeq (fun _ => ?_) (fun _ => ?_)) <;> try (exfalso; omega)) | with_reducible refine Br.intro (fun _ => ?_) (fun _ => ?_) | ((refine DCalls.of hE1 ?_; rintro _ hh ⟨rfl, rfl⟩)) | ((refine DCalls.of hE2 ?_; rintro _ hh ⟨rfl, rfl⟩)) | (with_reducible refine And.intro ?_ ?_; · omega) | simp -dsimp -implicitDefEqProofs (disch := omega) only [↓vcOps_sp 19, ↓vcD_sp 19, ↓vcOps_sp 30, ↓vcD_sp 30, ↓vcOps_sp 37, ↓vcD_sp 37, ↓vcOps_sp 43, ↓vcD_sp 43, VCA, pg_gl, ↓upd_none, Nat.reduceEqDiff, Nat.reduceBEq, Nat.reduceAdd, Nat.reduceSub, Nat.reduceMul, Nat.reduceLT, Nat.reduceLeDiff, ↓reduceIte, reduceCtorEq, rsOf, rootsOf, SOp.rd, SI.rd, SX.rd, rdL, rdO, rdP, okParts, eqCells, okEqCells, fillA, okFill, setAt, implies_true, forall_const, forall_eq, ne_eq, exists_eq_right_right, exists_eq_right, exists_eq_left, exists_eq_left', eInt, eBool, lit_eq, eEdit])
      all_goals first | (exfalso; omega) | exact ⟨_, Sub.refl _, EdR.bad eE (by decide)⟩ | trace_state
    · rw [if_neg ht] at hE2
      repeat' (first | ((with_reducible refine Br.dec (fun _ => ?_) (fun _ => ?_)) <;> try (exfalso; omega)) | ((with_reducible refine Br.eq (fun _ => ?_) (fun _ => ?_)) <;> try (exfalso; omega)) | ((with_reducible refine Br.ne (fun _ => ?_) (fun _ => ?_)) <;> try (exfalso; omega)) | ((with_reducible refine brNdec (fun _ => ?_) (fun _ => ?_)) <;> try (exfalso; omega)) | ((with_reducible refine brNeq (fun _ => ?_) (fun _ => ?_)) <;> try (exfalso; omega)) | with_reducible refine Br.intro (fun _ => ?_) (fun _ => ?_) | ((refine DCalls.of hE1 ?_; rintro _ hh ⟨rfl, rfl⟩)) | ((refine DCalls.of hE2 ?_; rintro _ hh ⟨rfl, rfl⟩)) | (with_reducible refine And.intro ?_ ?_; · omega) | simp -dsimp -implicitDefEqProofs (disch := omega) only [↓vcOps_sp 19, ↓vcD_sp 19, ↓vcOps_sp 30, ↓vcD_sp 30, ↓vcOps_sp 37, ↓vcD_sp 37, ↓vcOps_sp 43, ↓vcD_sp 43, VCA, pg_gl, ↓upd_none, Nat.reduceEqDiff, Nat.reduceBEq, Nat.reduceAdd, Nat.reduceSub, Nat.reduceMul, Nat.reduceLT, Nat.reduceLeDiff, ↓reduceIte, reduceCtorEq, rsOf, rootsOf, SOp.rd, SI.rd, SX.rd, rdL, rdO, rdP, okParts, eqCells, okEqCells, fillA, okFill, setAt, implies_true, forall_const, forall_eq, ne_eq, exists_eq_right_right, exists_eq_right, exists_eq_left, exists_eq_left', eInt, eBool, lit_eq, eEdit])
      all_goals first | (exfalso; omega) | exact ⟨_, Sub.refl _, EdR.bad eE (by decide)⟩ | trace_state
end Go.Proofs.K
end
section
/- The editor: make. -/
set_option linter.unusedSimpArgs false
set_option linter.unusedVariables false
namespace Go.Proofs.K
open Go Go.Sim Go.Proofs
variable {G : Glob}
theorem rowsA_add {d : HDoc} {x : HNode} {sl : Nat → AVal} {a : AVal} : rowsA (addN d x) (upd (upd sl (2 * d.nodes.length) a) (2 * d.nodes.length + 1) .emp) = rowsA d sl ++ [rowA x a .emp] := by
  unfold rowsA
  rw [addN_len, List.range_succ, List.map_append, List.map_cons, List.map_nil]
  congr 1
  · refine List.map_congr_left fun i hi => ?_
    have hi := List.mem_range.1 hi
    rw [upd_ne _ _ (by omega), upd_ne _ _ (by omega), upd_ne _ _ (by omega), upd_ne _ _ (by omega)]
    have : nth (addN d x).nodes i = nth d.nodes i := by
      unfold addN nth; rw [List.getD_eq_getElem?_getD, List.getD_eq_getElem?_getD, List.getElem?_append_left hi]
    rw [this]
  · rw [upd_same, upd_ne _ _ (by omega), upd_same]
    have : nth (addN d x).nodes d.nodes.length = x := by unfold addN nth; rw [List.getD_eq_getElem?_getD]; simp
    rw [this]
theorem Ed.add {h0 h h2 : Heap} {re rN rN' : Nat} {d : HDoc} {sl : Nat → AVal} {made made' : Int} (E : Ed h0 h re rN d sl made) {x : HNode} {a' : AVal} (hk : x.kids = [])
    (hN : h2 rN' = some ⟨43, 6, rowsA d sl ++ [rowA x a' .emp]⟩) (hre : h2 re = some ⟨147, 3, [[.osl rN' 6 0 (d.nodes.length + 1), .bool d.quirks, aInt made']]⟩)
    (kp : ∀ r o, h r = some o → r ≠ rN → r ≠ re → h2 r = some o) (O : OwnS h2 122 2 (x.attrs.map eAttr) a') (M : Mut a') (fr : ∀ r, rootOf a' = some r → h r = none ∧ r ≠ rN') (fN : rN' = rN ∨ h rN' = none) :
    Ed h0 h2 re rN' (addN d x) (upd (upd sl (2 * d.nodes.length) a') (2 * d.nodes.length + 1) .emp) made' := by
  have hold : ∀ k, k < 2 * d.nodes.length → upd (upd sl (2 * d.nodes.length) a') (2 * d.nodes.length + 1) .emp k = sl k := fun k hk => by rw [upd_ne _ _ (by omega), upd_ne _ _ (by omega)]
  have hnew : upd (upd sl (2 * d.nodes.length) a') (2 * d.nodes.length + 1) .emp (2 * d.nodes.length) = a' := by rw [upd_ne _ _ (by omega), upd_same]
  have hnew2 : upd (upd sl (2 * d.nodes.length) a') (2 * d.nodes.length + 1) AVal.emp (2 * d.nodes.length + 1) = .emp := upd_same _ _ _
  have some_ne : ∀ r o, h r = some o → r ≠ rN → r ≠ rN' := fun r o ho hne e => by
    rcases fN with h1 | h1
    · exact hne (e.trans h1)
    · rw [e, h1] at ho; cases ho
  have ren : re ≠ rN' := some_ne re _ E.ed E.ne
  generalize hs : upd (upd sl (2 * d.nodes.length) a') (2 * d.nodes.length + 1) .emp = sl' at *
  have rws : rowsA (addN d x) sl' = rowsA d sl ++ [rowA x a' .emp] := by rw [← hs]; exact rowsA_add
  have fa : ∀ r, rootOf a' = some r → h0 r = none ∧ r ≠ rN' ∧ r ≠ re := fun r hr => ⟨E.dw.sub.none (fr r hr).1, (fr r hr).2, fun e => by have := (fr r hr).1; rw [e, E.ed] at this; cases this⟩
  have ks : ∀ k, k < 2 * (d.nodes.length + 1) → k < 2 * d.nodes.length ∨ k = 2 * d.nodes.length ∨ k = 2 * d.nodes.length + 1 := fun k hk => by omega
  refine ⟨⟨fun t o ht => ?_, by rw [hN, rws], ⟨?_, by simp only [List.mem_singleton]; exact fun e => ren e.symm⟩, fun i hi => ?_, fun k hk' r hr => ?_, fun j k hj hk' hne r hr => ?_, fun r hr => ?_⟩, by rw [addN_len]; exact hre, E.new, fun k hk' => ?_⟩
  · refine kp t o (E.dw.sub t o ht) (fun e => by rw [e, E.dw.new.1] at ht; cases ht) (fun e => by rw [e, E.new] at ht; cases ht)
  · rcases fN with h1 | h1
    · rw [h1]; exact E.dw.new.1
    · exact E.dw.sub.none h1
  · rw [addN_len] at hi
    by_cases hl : i < d.nodes.length
    · have e1 : nth (addN d x).nodes i = nth d.nodes i := by
        unfold addN nth; rw [List.getD_eq_getElem?_getD, List.getD_eq_getElem?_getD, List.getElem?_append_left hl]
      rw [e1, hold _ (by omega), hold _ (by omega)]
      obtain ⟨g1, g2⟩ := E.dw.own i hl
      exact ⟨g1.keep fun r o hr ho => kp r o ho (E.root_ne (by omega) hr).1 (E.root_ne (by omega) hr).2, g2.keep fun r o hr ho => kp r o ho (E.root_ne (by omega) hr).1 (E.root_ne (by omega) hr).2⟩
    · have e0 : i = d.nodes.length := by omega
      subst e0
      have e1 : nth (addN d x).nodes d.nodes.length = x := by unfold addN nth; rw [List.getD_eq_getElem?_getD]; simp
      rw [e1, hnew, hnew2, hk]
      exact ⟨O, .inl ⟨rfl, rfl⟩⟩
  · rw [addN_len] at hk'
    simp only [List.mem_singleton]
    rcases ks k hk' with h1 | h1 | h1
    · rw [hold k h1] at hr
      have := E.dw.fresh k h1 r hr
      obtain ⟨o, ho⟩ := E.dw.slot h1 hr
      exact ⟨this.1, some_ne r o ho this.2.1, fun e => this.2.2 (by simp [e])⟩
    · rw [h1, hnew] at hr; exact fa r hr
    · rw [h1, hnew2] at hr; cases hr
  · rw [addN_len] at hj hk'
    rcases ks j hj with h1 | h1 | h1
    · rw [hold j h1] at hr
      rcases ks k hk' with h2 | h2 | h2
      · rw [hold k h2]; exact E.dw.sep j k h1 h2 hne r hr
      · rw [h2, hnew]; intro h3
        obtain ⟨o, ho⟩ := E.dw.slot h1 hr
        have := (fr r h3).1; rw [ho] at this; cases this
      · rw [h2, hnew2]; intro h3; cases h3
    · rw [h1, hnew] at hr
      rcases ks k hk' with h2 | h2 | h2
      · rw [hold k h2]; intro h3
        obtain ⟨o, ho⟩ := E.dw.slot h2 h3
        have := (fr r hr).1; rw [ho] at this; cases this
      · omega
      · rw [h2, hnew2]; intro h3; cases h3
    · rw [h1, hnew2] at hr; cases hr
  · simp only [List.mem_singleton] at hr
    exact ⟨_, by rw [hr]; exact hre⟩
  · rw [addN_len] at hk'
    rcases ks k hk' with h1 | h1 | h1
    · rw [hold k h1]; exact E.live k h1
    · rw [h1, hnew]; exact M
    · rw [h1, hnew2]; exact fun es e => by cases e
def c164 : SFun := ⟨(.seq (.reg [⟨(some 3), (.boxF 87 12 (.t 1)), none⟩, ⟨(some 4), (.mv (.c (.int .i64 (0)))), none⟩]) (.seq (.reg [⟨(some 7), (.fldA 6 (.t 3)), none⟩, ⟨(some 8), (.ld 6 true (.t 7)), none⟩, ⟨(some 5), (.new 43 6 [(.int .i64 (0)), (.str []), .emp, (.str []), (.int .i64 (0)), .emp]), none⟩, ⟨none, (.st 6 (.t 5) (.t 8)), none⟩]) (.seq (.block 0 (.seq (.reg [⟨(some 10), (.fldA 5 (.t 5)), none⟩, ⟨(some 11), (.ld 1 false (.t 10)), none⟩, ⟨(some 12), (.len (.t 11)), none⟩, ⟨(some 13), (.bin .gtr (.t 12) (.c (.int .i64 (0)))), none⟩, ⟨(some 9), (.mv (.t 13)), none⟩]) (.cond (.t 9) (.seq (.reg [⟨(some 4), (.mv (.c (.int .i64 (3)))), none⟩]) .ret) (.seq (.reg [⟨(some 15), (.fldA 0 (.t 5)), none⟩, ⟨(some 16), (.ld 1 false (.t 15)), none⟩, ⟨(some 17), (.bin .eql (.t 16) (.c (.int .i64 (1)))), none⟩, ⟨(some 14), (.mv (.t 17)), none⟩]) (.cond (.t 14) (.seq (.reg [⟨(some 4), (.mv (.c (.int .i64 (7)))), none⟩]) .ret) .skip))))) (.seq (.seq (.reg [⟨(some 18), (.ld 6 true (.t 5)), none⟩, ⟨(some 19), (.pcall 100 [(.t 18)]), none⟩, ⟨(some 6), (.mv (.t 19)), none⟩]) (.seq (.reg [⟨(some 20), (.mv (.t 6)), none⟩, ⟨(some 21), (.bin .neq (.t 20) (.c (.int .i64 (0)))), none⟩]) (.cond (.t 21) (.seq (.reg [⟨(some 22), (.mv (.t 6)), none⟩, ⟨(some 4), (.mv (.t 22)), none⟩]) .ret) .skip))) (.seq (.seq (.reg [⟨(some 23), (.mv (.t 0)), none⟩, ⟨(some 24), (.fldA 0 (.t 23)), none⟩, ⟨(some 25), (.fldA 0 (.t 24)), none⟩, ⟨(some 26), (.fldA 0 (.t 25)), none⟩, ⟨(some 27), (.ld 1 false (.t 26)), none⟩, ⟨(some 28), (.len (.t 27)), none⟩, ⟨(some 29), (.bin .eql (.t 28) (.c (.int .i64 (200)))), none⟩]) (.cond (.t 29) (.seq (.reg [⟨(some 4), (.mv (.c (.int .i64 (2)))), none⟩]) .ret) .skip)) (.seq (.reg [⟨(some 30), (.mv (.t 0)), none⟩, ⟨(some 31), (.mv (.t 0)), none⟩, ⟨(some 32), (.fldA 0 (.t 31)), none⟩, ⟨(some 33), (.fldA 0 (.t 32)), none⟩, ⟨(some 34), (.fldA 0 (.t 33)), none⟩, ⟨(some 35), (.ld 1 false (.t 34)), none⟩, ⟨(some 36), (.len (.t 35)), none⟩, ⟨(some 37), (.fldA 0 (.t 30)), none⟩, ⟨(some 38), (.fldA 2 (.t 37)), none⟩, ⟨none, (.st 1 (.t 38) (.t 36)), none⟩]) (.seq (.dreg [(⟨(some 39), (.mv (.t 0)), none⟩, none), (⟨(some 40), (.mv (.t 0)), none⟩, none), (⟨(some 41), (.fldA 0 (.t 40)), none⟩, none), (⟨(some 42), (.fldA 0 (.t 41)), none⟩, none), (⟨(some 43), (.fldA 0 (.t 42)), none⟩, none), (⟨(some 44), (.ld 1 false (.t 43)), none⟩, none), (⟨(some 45), (.fldA 0 (.t 5)), none⟩, none), (⟨(some 46), (.ld 1 false (.t 45)), none⟩, none), (⟨(some 47), (.fldA 1 (.t 5)), none⟩, none), (⟨(some 48), (.ld 1 false (.t 47)), none⟩, none), (⟨(some 49), (.fldA 2 (.t 5)), none⟩, none), (⟨(some 50), (.ld 1 false (.t 49)), none⟩, none), (⟨(some 52), (.fldA 3 (.t 5)), none⟩, none), (⟨(some 53), (.ld 1 false (.t 52)), none⟩, none), (⟨(some 51), (.call (.c (.fn 80 [] [])) [(.t 50)]), none⟩, (some [50])), (⟨(some 54), (.bld [(.int .i64 (0)), (.str []), .emp, (.str []), (.int .i64 (0)), .emp] [(0, (1, (.t 46))), (1, (1, (.t 48))), (2, (1, (.t 51))), (3, (1, (.t 53))), (4, (1, (.c (.int .i64 (-1)))))]), none⟩, none), (⟨(some 55), (.bldF 43 6 [(.t 54)]), none⟩, none), (⟨(some 56), (.app 43 6 96 (.t 44) (.t 55)), none⟩, (some [44, 46, 48, 53, 50])), (⟨(some 57), (.fldA 0 (.t 39)), none⟩, none), (⟨(some 58), (.fldA 0 (.t 57)), none⟩, none), (⟨(some 59), (.fldA 0 (.t 58)), none⟩, none), (⟨none, (.st 1 (.t 59) (.t 56)), none⟩, (some [44, 46, 48, 53, 50]))]) (.seq (.reg [⟨(some 4), (.mv (.c (.int .i64 (0)))), none⟩]) .ret)))))))), [(.tmp 4)]⟩
theorem hc164 : toSF Tryd.prog {pure := [100]} Tryd.f164 = some c164 := by kernel_rfl
theorem hn164 : (Tryd.f164.name == "runtime.NumGoroutine") = false := by kernel_rfl
theorem emake_ok {h0 h : Heap} {re rN : Nat} {d : HDoc} {sl : Nat → AVal} {made : Int} (E : Ed h0 h re rN d sl made) (hl200 : d.nodes.length ≤ 200) (e : HEdit) (he : EditSm e) (hdo : e.do' = 4) : DCalls (Pg G) 164 [.vp re 0, .agg (eEdit e)] h (EdR h0 h re d e made) := by
  have gN := E.dw.nodes
  have gE := E.ed
  have ner := E.ne
  have hO := one_ok' (G := G) e.node he.node
  unfold eNode at hO
  have eE : editE d e = if e.node.kids ≠ [] then 3 else if e.node.kind = 1 then 7 else if nodeE e.node ≠ 0 then nodeE e.node else if d.nodes.length = 200 then 2 else 0 := by unfold editE; rw [if_neg (by omega), if_neg (by omega), if_neg (by omega), if_pos hdo]
  have eD : editD d e = addN d (madeM e.node) := by unfold editD; rw [if_neg (by omega), if_neg (by omega), if_neg (by omega), if_pos hdo]
  have hm4 : (d.nodes.length : Int) = if e.do' = 4 then (d.nodes.length : Int) else made := by rw [if_pos hdo]
  have rl := rowsA_len d sl
  refine dcalls_of_vc Tryd.func164 hn164 hc164 (by rw [Tryd.ntmps164]; simp) (by rw [Tryd.ntmps164]; decide) ?_
  simp -dsimp -implicitDefEqProofs (disch := omega) only [VCA, pg_gl, ↓upd_none, Nat.reduceEqDiff, Nat.reduceBEq, Nat.reduceAdd, Nat.reduceSub, Nat.reduceMul, Nat.reduceLT, Nat.reduceLeDiff, ↓reduceIte, reduceCtorEq, rsOf, rootsOf, SOp.rd, SI.rd, SX.rd, rdL, rdO, rdP, okParts, eqCells, okEqCells, fillA, okFill, setAt, implies_true, forall_const, forall_eq, ne_eq, exists_eq_right_right, exists_eq_right, exists_eq_left, exists_eq_left', eInt, eBool, lit_eq, c164, eEdit]
  intro r5 hr5
  have n5 : ¬ re = r5 := fun h => by rw [← h, gE] at hr5; cases hr5
  have n5N : ¬ rN = r5 := fun h => by rw [← h, gN] at hr5; cases hr5
  have n5' : ¬ r5 = re := fun h => n5 h.symm
  have n5N' : ¬ r5 = rN := fun h => n5N h.symm
  have ner' : ¬ rN = re := fun h => ner h.symm
  have S5 : ∀ x, Sim.Sub h (upd h r5 (some x)) := fun x => (Sub.refl h).upd hr5
  by_cases hk : e.node.kids = []
  · have hk0 : ¬ 0 < e.node.kids.length := by rw [hk]; simp
    rw [if_neg (by simpa using hk)] at eE
    by_cases hk1 : e.node.kind = 1
    · rw [if_pos hk1] at eE
      repeat' (first | ((with_reducible refine Br.dec (fun _ => ?_) (fun _ => ?_)) <;> try (exfalso; omega)) | ((with_reducible refine Br.eq (fun _ => ?_) (fun _ => ?_)) <;> try (exfalso; omega)) | ((with_reducible refine Br.ne (fun _ => ?_) (fun _ => ?_)) <;> try (exfalso; omega)) | ((with_reducible refine brNdec (fun _ => ?_) (fun _ => ?_)) <;> try (exfalso; omega)) | ((with_reducible refine brNeq (fun _ => ?_) (fun _ => ?_)) <;> try (exfalso; omega)) | with_reducible refine Br.intro (fun _ => ?_) (fun _ => ?_) | (with_reducible refine And.intro ?_ ?_; · omega) | simp -dsimp -implicitDefEqProofs (disch := omega) only [VCA, pg_gl, ↓upd_none, Nat.reduceEqDiff, Nat.reduceBEq, Nat.reduceAdd, Nat.reduceSub, Nat.reduceMul, Nat.reduceLT, Nat.reduceLeDiff, ↓reduceIte, reduceCtorEq, rsOf, rootsOf, SOp.rd, SI.rd, SX.rd, rdL, rdO, rdP, okParts, eqCells, okEqCells, fillA, okFill, setAt, implies_true, forall_const, forall_eq, ne_eq, exists_eq_right_right, exists_eq_right, exists_eq_left, exists_eq_left', eInt, eBool, lit_eq, upd_same, n5, n5N])
      all_goals first | (exfalso; omega) | exact ⟨_, S5 _, EdR.bad eE (by decide)⟩
    · rw [if_neg hk1] at eE
      by_cases hz : nodeE e.node = 0
      · rw [if_neg (by simpa using hz)] at eE
        rw [hz] at hO
        by_cases h200 : d.nodes.length = 200
        · rw [if_pos h200] at eE
          repeat' (first | ((with_reducible refine Br.dec (fun _ => ?_) (fun _ => ?_)) <;> try (exfalso; omega)) | ((with_reducible refine Br.eq (fun _ => ?_) (fun _ => ?_)) <;> try (exfalso; omega)) | ((with_reducible refine Br.ne (fun _ => ?_) (fun _ => ?_)) <;> try (exfalso; omega)) | ((with_reducible refine brNdec (fun _ => ?_) (fun _ => ?_)) <;> try (exfalso; omega)) | ((with_reducible refine brNeq (fun _ => ?_) (fun _ => ?_)) <;> try (exfalso; omega)) | with_reducible refine Br.intro (fun _ => ?_) (fun _ => ?_) | (with_reducible apply pcallE.of; · exact hO) | (with_reducible refine And.intro ?_ ?_; · omega) | simp -dsimp -implicitDefEqProofs (disch := omega) only [VCA, pg_gl, ↓upd_none, Nat.reduceEqDiff, Nat.reduceBEq, Nat.reduceAdd, Nat.reduceSub, Nat.reduceMul, Nat.reduceLT, Nat.reduceLeDiff, ↓reduceIte, reduceCtorEq, rsOf, rootsOf, SOp.rd, SI.rd, SX.rd, rdL, rdO, rdP, okParts, eqCells, okEqCells, fillA, okFill, setAt, implies_true, forall_const, forall_eq, ne_eq, exists_eq_right_right, exists_eq_right, exists_eq_left, exists_eq_left', eInt, eBool, lit_eq, upd_same, n5, n5N, gE])
          all_goals first | (exfalso; omega) | exact ⟨_, S5 _, EdR.bad eE (by decide)⟩
        · rw [if_neg h200] at eE
          have hC := fun (hp : Heap) => cloneA_own (G := G) (h := hp) e.node.attrs he.node.attrs
          repeat' (first | ((with_reducible refine Br.dec (fun _ => ?_) (fun _ => ?_)) <;> try (exfalso; omega)) | ((with_reducible refine Br.eq (fun _ => ?_) (fun _ => ?_)) <;> try (exfalso; omega)) | ((with_reducible refine Br.ne (fun _ => ?_) (fun _ => ?_)) <;> try (exfalso; omega)) | ((with_reducible refine brNdec (fun _ => ?_) (fun _ => ?_)) <;> try (exfalso; omega)) | ((with_reducible refine brNeq (fun _ => ?_) (fun _ => ?_)) <;> try (exfalso; omega)) | with_reducible refine Br.intro (fun _ => ?_) (fun _ => ?_) | (with_reducible apply pcallE.of; · exact hO) | (with_reducible refine And.intro ?_ ?_; · omega) | simp -dsimp -implicitDefEqProofs (disch := omega) only [VCA, pg_gl, ↓upd_none, Nat.reduceEqDiff, Nat.reduceBEq, Nat.reduceAdd, Nat.reduceSub, Nat.reduceMul, Nat.reduceLT, Nat.reduceLeDiff, ↓reduceIte, reduceCtorEq, rsOf, rootsOf, SOp.rd, SI.rd, SX.rd, rdL, rdO, rdP, okParts, eqCells, okEqCells, fillA, okFill, setAt, implies_true, forall_const, forall_eq, ne_eq, exists_eq_right_right, exists_eq_right, exists_eq_left, exists_eq_left', eInt, eBool, lit_eq, upd_same, n5, n5', n5N, n5N', gE])
          all_goals try (exfalso; omega)
          refine DCalls.of (hC _) ?_
          rintro a h9 ⟨A9, S9⟩
          have gE9 := S9 re _ (upd_same _ _ _)
          have gN9 := S9 rN ⟨43, 6, rowsA d sl⟩ (by simp [upd, ner', n5N, gN])
          have g59 := S9 r5 ⟨43, 6, [[aInt e.node.kind, .str e.node.name, Sim.sl eAttr e.node.attrs, .str e.node.text, aInt e.node.parent, Sim.sl eInt e.node.kids]]⟩ (by simp [upd, n5'])
          obtain ⟨O9, f9, M9⟩ := OwnS.of_acc A9
          obtain ⟨v9, c9⟩ := O9.isV
          repeat' (first | ((with_reducible refine Br.dec (fun _ => ?_) (fun _ => ?_)) <;> try (exfalso; omega)) | ((with_reducible refine Br.eq (fun _ => ?_) (fun _ => ?_)) <;> try (exfalso; omega)) | ((with_reducible refine Br.ne (fun _ => ?_) (fun _ => ?_)) <;> try (exfalso; omega)) | ((with_reducible refine brNdec (fun _ => ?_) (fun _ => ?_)) <;> try (exfalso; omega)) | ((with_reducible refine brNeq (fun _ => ?_) (fun _ => ?_)) <;> try (exfalso; omega)) | with_reducible refine Br.intro (fun _ => ?_) (fun _ => ?_) | (with_reducible refine And.intro ?_ ?_; · omega) | simp -dsimp -implicitDefEqProofs (disch := omega) only [VCA, pg_gl, ↓upd_none, Nat.reduceEqDiff, Nat.reduceBEq, Nat.reduceAdd, Nat.reduceSub, Nat.reduceMul, Nat.reduceLT, Nat.reduceLeDiff, ↓reduceIte, reduceCtorEq, rsOf, rootsOf, SOp.rd, SI.rd, SX.rd, rdL, rdO, rdP, okParts, eqCells, okEqCells, fillA, okFill, setAt, implies_true, forall_const, forall_eq, ne_eq, exists_eq_right_right, exists_eq_right, exists_eq_left, exists_eq_left', eInt, eBool, lit_eq, upd_same, n5, n5', n5N, n5N', ner, ner', gE9, gN9, g59, v9, c9])
          intro r' hr'
          have fr' : r' = rN ∨ h9 r' = none := by
            unfold del at hr'
            split at hr'
            · rename_i h1; exact .inl h1
            · exact .inr hr'
          have nre : ¬ re = r' := fun h1 => by
            rcases fr' with h2 | h2
            · exact ner (h1.trans h2)
            · rw [← h1, gE9] at h2; cases h2
          have nre' : ¬ r' = re := fun h1 => nre h1.symm
          have dE : del h9 rN re = some ⟨147, 3, [[.osl rN 6 0 d.nodes.length, .bool d.quirks, aInt d.nodes.length]]⟩ := by
            unfold del; rw [if_neg ner, gE9]
          repeat' (first | ((with_reducible refine Br.dec (fun _ => ?_) (fun _ => ?_)) <;> try (exfalso; omega)) | ((with_reducible refine Br.eq (fun _ => ?_) (fun _ => ?_)) <;> try (exfalso; omega)) | ((with_reducible refine Br.ne (fun _ => ?_) (fun _ => ?_)) <;> try (exfalso; omega)) | ((with_reducible refine brNdec (fun _ => ?_) (fun _ => ?_)) <;> try (exfalso; omega)) | ((with_reducible refine brNeq (fun _ => ?_) (fun _ => ?_)) <;> try (exfalso; omega)) | with_reducible refine Br.intro (fun _ => ?_) (fun _ => ?_) | (with_reducible refine And.intro ?_ ?_; · omega) | simp -dsimp -implicitDefEqProofs (disch := omega) only [VCA, pg_gl, ↓upd_none, Nat.reduceEqDiff, Nat.reduceBEq, Nat.reduceAdd, Nat.reduceSub, Nat.reduceMul, Nat.reduceLT, Nat.reduceLeDiff, ↓reduceIte, reduceCtorEq, rsOf, rootsOf, SOp.rd, SI.rd, SX.rd, rdL, rdO, rdP, okParts, eqCells, okEqCells, fillA, okFill, setAt, implies_true, forall_const, forall_eq, ne_eq, exists_eq_right_right, exists_eq_right, exists_eq_left, exists_eq_left', eInt, eBool, lit_eq, upd_same, nre, nre', dE])
          have X0 : ∀ (x y : AObj) t, upd (upd h r5 (some x)) re (some y) t = none → h t = none ∧ t ≠ re ∧ t ≠ r5 := fun x y t ht => by
            unfold upd at ht
            split at ht
            · cases ht
            · rename_i h1
              split at ht
              · cases ht
              · rename_i h2; exact ⟨ht, h1, h2⟩
          have ra : ∀ t, rootOf a = some t → h t = none ∧ t ≠ re ∧ t ≠ r5 ∧ t ≠ rN ∧ t ≠ r' := fun t ht => by
            obtain ⟨x1, x2, x3⟩ := X0 _ _ t (f9 t ht)
            refine ⟨x1, x2, x3, (fun e => by rw [e, gN] at x1; cases x1), fun e => ?_⟩
            rcases fr' with h2 | h2
            · rw [e, h2, gN] at x1; cases x1
            · obtain ⟨o, ho⟩ := O9.root ht
              rw [e, h2] at ho; cases ho
          refine ⟨_, Sub.refl _, EdR.good eE hm4 (by
            rw [eD]
            refine E.add (rN' := r') (a' := a) (x := madeM e.node) rfl ?_ ?_ (fun t o ho h1 h2 => ?_) (O9.keep fun t o ht ho => ?_) M9 (fun t ht => ⟨(ra t ht).1, (ra t ht).2.2.2.2⟩) ?_
            · rw [upd_ne _ _ nre', upd_same, List.take_of_length_le (by rw [rl]; exact Nat.le_refl _)]; rfl
            · exact upd_same _ _ _
            · have h5 : t ≠ r5 := fun e => by rw [e, hr5] at ho; cases ho
              have h9t := S9 t o (by rw [upd_ne _ _ h2, upd_ne _ _ h5]; exact ho)
              rw [upd_ne _ _ h2, upd_ne _ _ (fun e => by
                rcases fr' with h3 | h3
                · exact h1 (e.trans h3)
                · rw [e, h3] at h9t; cases h9t)]
              unfold del; rw [if_neg h1]; exact h9t
            · obtain ⟨y1, y2, y3, y4, y5⟩ := ra t ht
              rw [upd_ne _ _ y2, upd_ne _ _ y5]
              unfold del; rw [if_neg y4]; exact ho
            · rcases fr' with h2 | h2
              · exact .inl h2
              · exact .inr (X0 _ _ r' (S9.none h2)).1)⟩
      · rw [if_pos hz] at eE
        repeat' (first | ((with_reducible refine Br.dec (fun _ => ?_) (fun _ => ?_)) <;> try (exfalso; omega)) | ((with_reducible refine Br.eq (fun _ => ?_) (fun _ => ?_)) <;> try (exfalso; omega)) | ((with_reducible refine Br.ne (fun _ => ?_) (fun _ => ?_)) <;> try (exfalso; omega)) | ((with_reducible refine brNdec (fun _ => ?_) (fun _ => ?_)) <;> try (exfalso; omega)) | ((with_reducible refine brNeq (fun _ => ?_) (fun _ => ?_)) <;> try (exfalso; omega)) | with_reducible refine Br.intro (fun _ => ?_) (fun _ => ?_) | (with_reducible apply pcallE.of; · exact hO) | (with_reducible refine And.intro ?_ ?_; · omega) | simp -dsimp -implicitDefEqProofs (disch := omega) only [VCA, pg_gl, ↓upd_none, Nat.reduceEqDiff, Nat.reduceBEq, Nat.reduceAdd, Nat.reduceSub, Nat.reduceMul, Nat.reduceLT, Nat.reduceLeDiff, ↓reduceIte, reduceCtorEq, rsOf, rootsOf, SOp.rd, SI.rd, SX.rd, rdL, rdO, rdP, okParts, eqCells, okEqCells, fillA, okFill, setAt, implies_true, forall_const, forall_eq, ne_eq, exists_eq_right_right, exists_eq_right, exists_eq_left, exists_eq_left', eInt, eBool, lit_eq, upd_same, n5, n5N, hz])
        all_goals first | (exfalso; omega) | exact ⟨_, S5 _, EdR.bad eE hz⟩
  · have hk0 : 0 < e.node.kids.length := List.length_pos_iff.2 hk
    rw [if_pos hk] at eE
    repeat' (first | ((with_reducible refine Br.dec (fun _ => ?_) (fun _ => ?_)) <;> try (exfalso; omega)) | ((with_reducible refine Br.eq (fun _ => ?_) (fun _ => ?_)) <;> try (exfalso; omega)) | ((with_reducible refine Br.ne (fun _ => ?_) (fun _ => ?_)) <;> try (exfalso; omega)) | ((with_reducible refine brNdec (fun _ => ?_) (fun _ => ?_)) <;> try (exfalso; omega)) | ((with_reducible refine brNeq (fun _ => ?_) (fun _ => ?_)) <;> try (exfalso; omega)) | with_reducible refine Br.intro (fun _ => ?_) (fun _ => ?_) | (with_reducible refine And.intro ?_ ?_; · omega) | simp -dsimp -implicitDefEqProofs (disch := omega) only [VCA, pg_gl, ↓upd_none, Nat.reduceEqDiff, Nat.reduceBEq, Nat.reduceAdd, Nat.reduceSub, Nat.reduceMul, Nat.reduceLT, Nat.reduceLeDiff, ↓reduceIte, reduceCtorEq, rsOf, rootsOf, SOp.rd, SI.rd, SX.rd, rdL, rdO, rdP, okParts, eqCells, okEqCells, fillA, okFill, setAt, implies_true, forall_const, forall_eq, ne_eq, exists_eq_right_right, exists_eq_right, exists_eq_left, exists_eq_left', eInt, eBool, lit_eq, upd_same, n5, n5N])
    all_goals first | (exfalso; omega) | exact ⟨_, S5 _, EdR.bad eE (by decide)⟩
end Go.Proofs.K
end
section
/- The editor: does, edit. -/
set_option linter.unusedSimpArgs false
set_option linter.unusedVariables false
namespace Go.Proofs.K
open Go Go.Sim Go.Proofs
variable {G : Glob}
def doesF (re : Nat) (n : Int) : AVal :=
  if n = 1 then .fn 161 [.vp re 0] [] else if n = 2 then .fn 162 [.vp re 0] [] else if n = 3 then .fn 163 [.vp re 0] []
  else if n = 4 then .fn 164 [.vp re 0] [] else if n = 5 then .fn 165 [.vp re 0] [] else if n = 6 then .fn 166 [.vp re 0] [] else .prim .nilFunc
def c140 : SFun := ⟨(.seq (.reg [⟨(some 4), (.mv (.c (.prim .nilFunc))), none⟩]) (.seq (.seq (.reg [⟨(some 5), (.mv (.t 1)), none⟩]) (.block 0 (.seq (.reg [⟨(some 7), (.bin .eql (.t 5) (.c (.int .i64 (1)))), none⟩, ⟨(some 6), (.mv (.t 7)), none⟩]) (.cond (.t 6) (.seq (.reg [⟨(some 8), (.mv (.t 0)), none⟩, ⟨(some 9), (.mkf 161 [(.t 8)] []), none⟩, ⟨(some 4), (.mv (.t 9)), none⟩]) .ret) (.seq (.reg [⟨(some 11), (.bin .eql (.t 5) (.c (.int .i64 (2)))), none⟩, ⟨(some 10), (.mv (.t 11)), none⟩]) (.cond (.t 10) (.seq (.reg [⟨(some 12), (.mv (.t 0)), none⟩, ⟨(some 13), (.mkf 162 [(.t 12)] []), none⟩, ⟨(some 4), (.mv (.t 13)), none⟩]) .ret) (.seq (.reg [⟨(some 15), (.bin .eql (.t 5) (.c (.int .i64 (3)))), none⟩, ⟨(some 14), (.mv (.t 15)), none⟩]) (.cond (.t 14) (.seq (.reg [⟨(some 16), (.mv (.t 0)), none⟩, ⟨(some 17), (.mkf 163 [(.t 16)] []), none⟩, ⟨(some 4), (.mv (.t 17)), none⟩]) .ret) (.seq (.reg [⟨(some 19), (.bin .eql (.t 5) (.c (.int .i64 (4)))), none⟩, ⟨(some 18), (.mv (.t 19)), none⟩]) (.cond (.t 18) (.seq (.reg [⟨(some 20), (.mv (.t 0)), none⟩, ⟨(some 21), (.mkf 164 [(.t 20)] []), none⟩, ⟨(some 4), (.mv (.t 21)), none⟩]) .ret) (.seq (.reg [⟨(some 23), (.bin .eql (.t 5) (.c (.int .i64 (5)))), none⟩, ⟨(some 22), (.mv (.t 23)), none⟩]) (.cond (.t 22) (.seq (.reg [⟨(some 24), (.mv (.t 0)), none⟩, ⟨(some 25), (.mkf 165 [(.t 24)] []), none⟩, ⟨(some 4), (.mv (.t 25)), none⟩]) .ret) (.seq (.reg [⟨(some 27), (.bin .eql (.t 5) (.c (.int .i64 (6)))), none⟩, ⟨(some 26), (.mv (.t 27)), none⟩]) (.cond (.t 26) (.seq (.reg [⟨(some 28), (.mv (.t 0)), none⟩, ⟨(some 29), (.mkf 166 [(.t 28)] []), none⟩, ⟨(some 4), (.mv (.t 29)), none⟩]) .ret) .skip)))))))))))))) (.seq (.reg [⟨(some 4), (.mv (.c (.prim .nilFunc))), none⟩]) .ret))), [(.tmp 4)]⟩
theorem hc140 : toSF Tryd.prog {} Tryd.f140 = some c140 := by kernel_rfl
theorem hn140 : (Tryd.f140.name == "runtime.NumGoroutine") = false := by kernel_rfl
theorem edoes_ok (h : Heap) (re : Nat) (n : Int) : DCalls (Pg G) 140 [.vp re 0, aInt n] h fun r h' => r = doesF re n ∧ h' = h := by
  refine dcalls_of_vc Tryd.func140 hn140 hc140 (by rw [Tryd.ntmps140]; simp) (by rw [Tryd.ntmps140]; decide) ?_
  simp -dsimp -implicitDefEqProofs (disch := omega) only [VCA, pg_gl, ↓upd_none, Nat.reduceEqDiff, Nat.reduceBEq, Nat.reduceAdd, Nat.reduceSub, Nat.reduceMul, Nat.reduceLT, Nat.reduceLeDiff, ↓reduceIte, reduceCtorEq, rsOf, rootsOf, SOp.rd, SI.rd, SX.rd, rdL, rdO, rdP, okParts, eqCells, okEqCells, fillA, okFill, setAt, implies_true, forall_const, forall_eq, ne_eq, exists_eq_right_right, exists_eq_right, exists_eq_left, exists_eq_left', eInt, eBool, lit_eq, c140]
  unfold doesF
  repeat' (first | ((with_reducible refine Br.dec (fun _ => ?_) (fun _ => ?_)) <;> try (exfalso; omega)) | ((with_reducible refine Br.eq (fun _ => ?_) (fun _ => ?_)) <;> try (exfalso; omega)) | ((with_reducible refine Br.ne (fun _ => ?_) (fun _ => ?_)) <;> try (exfalso; omega)) | ((with_reducible refine brNdec (fun _ => ?_) (fun _ => ?_)) <;> try (exfalso; omega)) | ((with_reducible refine brNeq (fun _ => ?_) (fun _ => ?_)) <;> try (exfalso; omega)) | with_reducible refine Br.intro (fun _ => ?_) (fun _ => ?_) | (with_reducible refine And.intro ?_ ?_; · omega) | simp -dsimp -implicitDefEqProofs (disch := omega) only [VCA, pg_gl, ↓upd_none, Nat.reduceEqDiff, Nat.reduceBEq, Nat.reduceAdd, Nat.reduceSub, Nat.reduceMul, Nat.reduceLT, Nat.reduceLeDiff, ↓reduceIte, reduceCtorEq, rsOf, rootsOf, SOp.rd, SI.rd, SX.rd, rdL, rdO, rdP, okParts, eqCells, okEqCells, fillA, okFill, setAt, implies_true, forall_const, forall_eq, ne_eq, exists_eq_right_right, exists_eq_right, exists_eq_left, exists_eq_left', eInt, eBool, lit_eq])
  all_goals first
    | (refine ⟨Sub.refl _, ?_⟩; simp_all; done)
    | (simp_all; done)
def c105 : SFun := ⟨(.seq (.reg [⟨(some 3), (.boxF 87 12 (.t 1)), none⟩, ⟨(some 4), (.mv (.c (.int .i64 (0)))), none⟩]) (.seq (.reg [⟨(some 6), (.mv (.t 0)), none⟩, ⟨(some 7), (.fldA 0 (.t 3)), none⟩, ⟨(some 8), (.ld 1 false (.t 7)), none⟩, ⟨(some 9), (.call (.c (.fn 140 [] [])) [(.t 6), (.t 8)]), none⟩, ⟨(some 5), (.mv (.t 9)), none⟩]) (.seq (.seq (.reg [⟨(some 10), (.mv (.t 5)), none⟩, ⟨(some 11), (.isnil 2 false (.t 10)), none⟩]) (.cond (.t 11) (.seq (.reg [⟨(some 4), (.mv (.c (.int .i64 (1)))), none⟩]) .ret) .skip)) (.seq (.reg [⟨(some 12), (.mv (.t 5)), none⟩, ⟨(some 13), (.ld 12 true (.t 3)), none⟩, ⟨(some 14), (.call (.t 12) [(.t 13)]), none⟩, ⟨(some 4), (.mv (.t 14)), none⟩]) .ret)))), [(.tmp 4)]⟩
theorem hc105 : toSF Tryd.prog {} Tryd.f105 = some c105 := by kernel_rfl
theorem hn105 : (Tryd.f105.name == "runtime.NumGoroutine") = false := by kernel_rfl
theorem eedit_ok {h0 h : Heap} {re rN : Nat} {d : HDoc} {sl : Nat → AVal} {made : Int} (E : Ed h0 h re rN d sl made) (V : DV d) (sm : DocSm d) (e : HEdit) (he : EditSm e) : DCalls (Pg G) 105 [.vp re 0, .agg (eEdit e)] h (EdR h0 h re d e made) := by
  have hD := edoes_ok (G := G) h re e.do'
  have a12 : ∀ n, inD d n → (nd d n).attrs.length ≤ 12 := fun n hn => ((attrsE_iff _).1 ((nodeE_iff _).1 (V.node n hn)).2.2.2.1).1
  have key : ∀ f, DCalls (Pg G) f [.vp re 0, .agg (eEdit e)] h (EdR h0 h re d e made) → doesF re e.do' = .fn f [.vp re 0] [] → DCalls (Pg G) 105 [.vp re 0, .agg (eEdit e)] h (EdR h0 h re d e made) := fun f hf hd => by
    rw [hd] at hD
    unfold eEdit at hf
    refine dcalls_of_vc Tryd.func105 hn105 hc105 (by rw [Tryd.ntmps105]; simp) (by rw [Tryd.ntmps105]; decide) ?_
    simp -dsimp -implicitDefEqProofs (disch := omega) only [VCA, pg_gl, ↓upd_none, Nat.reduceEqDiff, Nat.reduceBEq, Nat.reduceAdd, Nat.reduceSub, Nat.reduceMul, Nat.reduceLT, Nat.reduceLeDiff, ↓reduceIte, reduceCtorEq, rsOf, rootsOf, SOp.rd, SI.rd, SX.rd, rdL, rdO, rdP, okParts, eqCells, okEqCells, fillA, okFill, setAt, implies_true, forall_const, forall_eq, ne_eq, exists_eq_right_right, exists_eq_right, exists_eq_left, exists_eq_left', eInt, eBool, lit_eq, c105, eEdit]
    refine DCalls.of hD ?_
    rintro _ _ ⟨rfl, rfl⟩
    simp -dsimp -implicitDefEqProofs (disch := omega) only [VCA, pg_gl, ↓upd_none, Nat.reduceEqDiff, Nat.reduceBEq, Nat.reduceAdd, Nat.reduceSub, Nat.reduceMul, Nat.reduceLT, Nat.reduceLeDiff, ↓reduceIte, reduceCtorEq, rsOf, rootsOf, SOp.rd, SI.rd, SX.rd, rdL, rdO, rdP, okParts, eqCells, okEqCells, fillA, okFill, setAt, implies_true, forall_const, forall_eq, ne_eq, exists_eq_right_right, exists_eq_right, exists_eq_left, exists_eq_left', eInt, eBool, lit_eq, eEdit]
    refine DCalls.of hf ?_
    intro r h9 hr
    simp -dsimp -implicitDefEqProofs (disch := omega) only [VCA, pg_gl, ↓upd_none, Nat.reduceEqDiff, Nat.reduceBEq, Nat.reduceAdd, Nat.reduceSub, Nat.reduceMul, Nat.reduceLT, Nat.reduceLeDiff, ↓reduceIte, reduceCtorEq, rsOf, rootsOf, SOp.rd, SI.rd, SX.rd, rdL, rdO, rdP, okParts, eqCells, okEqCells, fillA, okFill, setAt, implies_true, forall_const, forall_eq, ne_eq, exists_eq_right_right, exists_eq_right, exists_eq_left, exists_eq_left', eInt, eBool, lit_eq]
    exact ⟨_, Sub.refl _, hr⟩
  by_cases h1 : e.do' = 1
  · exact key _ (eattr_ok E sm a12 e he h1) (by unfold doesF; rw [if_pos h1])
  by_cases h2 : e.do' = 2
  · exact key _ (edrop_ok E sm e he h2) (by unfold doesF; rw [if_neg h1, if_pos h2])
  by_cases h3 : e.do' = 3
  · exact key _ (etext_ok E e he h3) (by unfold doesF; rw [if_neg h1, if_neg h2, if_pos h3])
  by_cases h4 : e.do' = 4
  · exact key _ (emake_ok E V.len e he h4) (by unfold doesF; rw [if_neg h1, if_neg h2, if_neg h3, if_pos h4])
  by_cases h5 : e.do' = 5
  · exact key _ (einsert_ok E V sm e he h5) (by unfold doesF; rw [if_neg h1, if_neg h2, if_neg h3, if_neg h4, if_pos h5])
  by_cases h6 : e.do' = 6
  · exact key _ (eremove_ok E V sm e he h6) (by unfold doesF; rw [if_neg h1, if_neg h2, if_neg h3, if_neg h4, if_neg h5, if_pos h6])
  have hd : doesF re e.do' = .prim .nilFunc := by unfold doesF; rw [if_neg h1, if_neg h2, if_neg h3, if_neg h4, if_neg h5, if_neg h6]
  have eE : editE d e = 1 := by unfold editE; rw [if_neg h1, if_neg h2, if_neg h3, if_neg h4, if_neg h5, if_neg h6]
  rw [hd] at hD
  refine dcalls_of_vc Tryd.func105 hn105 hc105 (by rw [Tryd.ntmps105]; simp) (by rw [Tryd.ntmps105]; decide) ?_
  simp -dsimp -implicitDefEqProofs (disch := omega) only [VCA, pg_gl, ↓upd_none, Nat.reduceEqDiff, Nat.reduceBEq, Nat.reduceAdd, Nat.reduceSub, Nat.reduceMul, Nat.reduceLT, Nat.reduceLeDiff, ↓reduceIte, reduceCtorEq, rsOf, rootsOf, SOp.rd, SI.rd, SX.rd, rdL, rdO, rdP, okParts, eqCells, okEqCells, fillA, okFill, setAt, implies_true, forall_const, forall_eq, ne_eq, exists_eq_right_right, exists_eq_right, exists_eq_left, exists_eq_left', eInt, eBool, lit_eq, c105, eEdit]
  refine DCalls.of hD ?_
  rintro _ _ ⟨rfl, rfl⟩
  simp -dsimp -implicitDefEqProofs (disch := omega) only [VCA, pg_gl, ↓upd_none, Nat.reduceEqDiff, Nat.reduceBEq, Nat.reduceAdd, Nat.reduceSub, Nat.reduceMul, Nat.reduceLT, Nat.reduceLeDiff, ↓reduceIte, reduceCtorEq, rsOf, rootsOf, SOp.rd, SI.rd, SX.rd, rdL, rdO, rdP, okParts, eqCells, okEqCells, fillA, okFill, setAt, implies_true, forall_const, forall_eq, ne_eq, exists_eq_right_right, exists_eq_right, exists_eq_left, exists_eq_left', eInt, eBool, lit_eq, eEdit]
  all_goals exact ⟨_, Sub.refl _, EdR.bad eE (by decide)⟩
end Go.Proofs.K
end
section
/- dom.Apply, dom.New. -/
set_option linter.unusedSimpArgs false
set_option linter.unusedVariables false
namespace Go.Proofs.K
open Go Go.Sim Go.Proofs
variable {G : Glob}
theorem eDoc_dr (d : HDoc) : (eDoc d).drop 2 = [] := rfl
def noDoc : HDoc := ⟨[], false⟩
def applyE (d : HDoc) (e : HEdit) : Int := if docE d ≠ 0 then docE d else editE d e
def applyD (d : HDoc) (e : HEdit) : HDoc := if applyE d e = 0 then editD d e else noDoc
def applyN (d : HDoc) (e : HEdit) : Int := if applyE d e = 0 then editN d e else 0
theorem Dw.new' {X : List Nat} {h0 h : Heap} {rN : Nat} {d : HDoc} {sl : Nat → AVal} (E : Dw X h0 h rN d sl) : Dw [] (fun _ => none) (newH h0 h) rN d sl :=
  ⟨(fun t o ht => by cases ht), by rw [newH_none E.new.1]; exact E.nodes, ⟨rfl, by simp⟩, fun i hi => ⟨(E.own i hi).1.keep fun r o hr ho => by rw [newH_none (E.fresh _ (by omega) r hr).1]; exact ho, (E.own i hi).2.keep fun r o hr ho => by rw [newH_none (E.fresh _ (by omega) r hr).1]; exact ho⟩,
    fun k hk r hr => ⟨rfl, (E.fresh k hk r hr).2.1, by simp⟩, E.sep, fun r hr => by cases hr⟩
theorem Dw.base {X : List Nat} {h0 h00 h : Heap} {rN : Nat} {d : HDoc} {sl : Nat → AVal} (E : Dw X h0 h rN d sl) (S : Sim.Sub h00 h0) : Dw X h00 h rN d sl :=
  ⟨S.trans E.sub, E.nodes, ⟨S.none E.new.1, E.new.2⟩, E.own, fun k hk r hr => ⟨S.none (E.fresh k hk r hr).1, (E.fresh k hk r hr).2⟩, E.sep, E.keep⟩
/-- a root that was there before is changed -/
theorem Dw.beside {X : List Nat} {h0 h00 h : Heap} {rN r : Nat} {d : HDoc} {sl : Nat → AVal} {x : AObj} (E : Dw X h0 h rN d sl) (S : Sim.Sub h00 h0) (h1 : h0 r = some x) (h2 : h00 r = none) (hX : r ∉ X) (y : AObj) : Dw X h00 (upd h r (some y)) rN d sl := by
  have ne : ∀ t, h0 t = none → t ≠ r := fun t ht e => by rw [e, h1] at ht; cases ht
  refine ⟨(S.trans E.sub).upd h2, by rw [upd_ne _ _ (ne _ E.new.1)]; exact E.nodes, ⟨S.none E.new.1, E.new.2⟩, fun i hi => ?_, fun k hk t ht => ⟨S.none (E.fresh k hk t ht).1, (E.fresh k hk t ht).2⟩, E.sep, fun t ht => ?_⟩
  · obtain ⟨g1, g2⟩ := E.own i hi
    exact ⟨g1.keep fun t o ht ho => by rw [upd_ne _ _ (ne t (E.fresh _ (by omega) t ht).1)]; exact ho, g2.keep fun t o ht ho => by rw [upd_ne _ _ (ne t (E.fresh _ (by omega) t ht).1)]; exact ho⟩
  · obtain ⟨o, ho⟩ := E.keep t ht
    exact ⟨o, by rw [upd_ne _ _ (fun e => hX (by rw [← e]; exact ht))]; exact ho⟩
/-- the editor, made of a document -/
theorem Ed.begin {h h1 : Heap} {rN re : Nat} {d : HDoc} {sl : Nat → AVal} (E : Dw [] h h1 rN d sl) (M : ∀ k, k < 2 * d.nodes.length → Mut (sl k)) (hr : h1 re = none) :
    Ed h (upd h1 re (some ⟨147, 3, [[.osl rN 6 0 d.nodes.length, .bool d.quirks, aInt 0]]⟩)) re rN d sl 0 := ⟨E.more hr _, upd_same _ _ _, E.sub.none hr, M⟩
theorem vw_noDoc (h : Heap) : Vw h (.agg [.emp, .bool false]) (.agg (eDoc noDoc)) := Vw.agg' (.cons .emp (.cons (.refl _) .nil))
theorem editN_made (d : HDoc) (e : HEdit) : (if e.do' = 4 then (d.nodes.length : Int) else 0) = editN d e := rfl
def c55 : SFun := ⟨(.seq (.reg [⟨(some 2), (.boxF 24 2 (.t 0)), none⟩, ⟨(some 3), (.boxF 87 12 (.t 1)), none⟩, ⟨(some 4), (.new 24 2 [.emp, (.bool false)]), none⟩, ⟨(some 5), (.mv (.c (.int .i64 (0)))), none⟩, ⟨(some 6), (.mv (.c (.int .i64 (0)))), none⟩]) (.seq (.seq (.reg [⟨(some 10), (.ld 2 true (.t 2)), none⟩, ⟨(some 11), (.pcall 52 [(.t 10)]), none⟩, ⟨(some 7), (.mv (.t 11)), none⟩]) (.seq (.reg [⟨(some 12), (.mv (.t 7)), none⟩, ⟨(some 13), (.bin .neq (.t 12) (.c (.int .i64 (0)))), none⟩]) (.cond (.t 13) (.seq (.reg [⟨(some 14), (.bld [.emp, (.bool false)] []), none⟩, ⟨(some 15), (.mv (.t 7)), none⟩, ⟨none, (.st 2 (.t 4) (.t 14)), none⟩, ⟨(some 5), (.mv (.c (.int .i64 (0)))), none⟩, ⟨(some 6), (.mv (.t 15)), none⟩]) .ret) .skip))) (.seq (.reg [⟨(some 16), (.ld 2 true (.t 2)), none⟩, ⟨(some 17), (.call (.c (.fn 104 [] [])) [(.t 16)]), none⟩, ⟨(some 18), (.bld [.emp, (.bool false), (.int .i64 (0))] [(0, (2, (.t 17)))]), none⟩, ⟨(some 19), (.box 147 3 (.t 18)), none⟩, ⟨(some 8), (.mv (.t 19)), none⟩]) (.seq (.seq (.reg [⟨(some 20), (.mv (.t 8)), none⟩, ⟨(some 21), (.ld 12 true (.t 3)), none⟩, ⟨(some 22), (.call (.c (.fn 105 [] [])) [(.t 20), (.t 21)]), none⟩, ⟨(some 9), (.mv (.t 22)), none⟩]) (.seq (.reg [⟨(some 23), (.mv (.t 9)), none⟩, ⟨(some 24), (.bin .neq (.t 23) (.c (.int .i64 (0)))), none⟩]) (.cond (.t 24) (.seq (.reg [⟨(some 25), (.bld [.emp, (.bool false)] []), none⟩, ⟨(some 26), (.mv (.t 9)), none⟩, ⟨none, (.st 2 (.t 4) (.t 25)), none⟩, ⟨(some 5), (.mv (.c (.int .i64 (0)))), none⟩, ⟨(some 6), (.mv (.t 26)), none⟩]) .ret) .skip))) (.seq (.dreg [(⟨(some 27), (.mv (.t 8)), none⟩, none), (⟨(some 28), (.fldA 0 (.t 27)), none⟩, none), (⟨(some 29), (.fldA 0 (.t 28)), none⟩, none), (⟨(some 30), (.ld 2 true (.t 29)), none⟩, none), (⟨(some 31), (.mv (.t 8)), none⟩, none), (⟨(some 32), (.fldA 0 (.t 31)), none⟩, none), (⟨(some 33), (.fldA 2 (.t 32)), none⟩, none), (⟨(some 34), (.ld 1 false (.t 33)), none⟩, none), (⟨none, (.st 2 (.t 4) (.t 30)), none⟩, (some [30])), (⟨(some 5), (.mv (.t 34)), none⟩, none), (⟨(some 6), (.mv (.c (.int .i64 (0)))), none⟩, none)]) .ret))))), [(.cell 4 2 true), (.tmp 5), (.tmp 6)]⟩
theorem hc55 : toSF Tryd.prog {pure := [52], how := [(19, 6)]} Tryd.f55 = some c55 := by kernel_rfl
theorem hn55 : (Tryd.f55.name == "runtime.NumGoroutine") = false := by kernel_rfl
theorem apply_ok (d : HDoc) (sm : DocSm d) (e : HEdit) (he : EditSm e) : PCalls (Pg G) 55 [.agg (eDoc d), .agg (eEdit e)] (.tup [.agg (eDoc (applyD d e)), aInt (applyN d e), aInt (applyE d e)]) := PCalls.outV fun h => by
  have hC := check_ok (G := G) d sm
  refine dcalls_of_vc Tryd.func55 hn55 hc55 (by rw [Tryd.ntmps55]; simp) (by rw [Tryd.ntmps55]; decide) ?_
  simp -dsimp -implicitDefEqProofs (disch := omega) only [VCA, pg_gl, ↓upd_none, Nat.reduceEqDiff, Nat.reduceBEq, Nat.reduceAdd, Nat.reduceSub, Nat.reduceMul, Nat.reduceLT, Nat.reduceLeDiff, ↓reduceIte, reduceCtorEq, rsOf, rootsOf, SOp.rd, SI.rd, SX.rd, rdL, rdO, rdP, okParts, eqCells, okEqCells, fillA, okFill, setAt, implies_true, forall_const, forall_eq, ne_eq, exists_eq_right_right, exists_eq_right, exists_eq_left, exists_eq_left', eInt, eBool, lit_eq, c55, eDoc_len, eDoc_take, eDoc_dr, eEdit, List.append_nil]
  intro r4 hr4
  have S4 : ∀ x, Sim.Sub h (upd h r4 (some x)) := fun x => (Sub.refl h).upd hr4
  by_cases h1 : docE d = 0
  · have V := docE_DV h1
    have hp := V.pos
    rw [h1] at hC
    have aE : applyE d e = editE d e := by unfold applyE; rw [if_neg (by simpa using h1)]
    have hOwn := fun hp => own_ok' (G := G) d sm V.pos hp
    repeat' (first | ((with_reducible refine Br.dec (fun _ => ?_) (fun _ => ?_)) <;> try (exfalso; omega)) | ((with_reducible refine Br.eq (fun _ => ?_) (fun _ => ?_)) <;> try (exfalso; omega)) | ((with_reducible refine Br.ne (fun _ => ?_) (fun _ => ?_)) <;> try (exfalso; omega)) | ((with_reducible refine brNdec (fun _ => ?_) (fun _ => ?_)) <;> try (exfalso; omega)) | ((with_reducible refine brNeq (fun _ => ?_) (fun _ => ?_)) <;> try (exfalso; omega)) | with_reducible refine Br.intro (fun _ => ?_) (fun _ => ?_) | (with_reducible apply pcallE.of; · exact hC) | (with_reducible refine And.intro ?_ ?_; · omega) | simp -dsimp -implicitDefEqProofs (disch := omega) only [VCA, pg_gl, ↓upd_none, Nat.reduceEqDiff, Nat.reduceBEq, Nat.reduceAdd, Nat.reduceSub, Nat.reduceMul, Nat.reduceLT, Nat.reduceLeDiff, ↓reduceIte, reduceCtorEq, rsOf, rootsOf, SOp.rd, SI.rd, SX.rd, rdL, rdO, rdP, okParts, eqCells, okEqCells, fillA, okFill, setAt, implies_true, forall_const, forall_eq, ne_eq, exists_eq_right_right, exists_eq_right, exists_eq_left, exists_eq_left', eInt, eBool, lit_eq, upd_same, eDoc_len, eDoc_take, eDoc_dr, List.append_nil])
    refine DCalls.of (hOwn _) ?_
    rintro a h2 ⟨rN, sl, rfl, Dw1, M1⟩
    have g4 := Dw1.sub r4 _ (upd_same _ _ _)
    simp -dsimp -implicitDefEqProofs (disch := omega) only [VCA, pg_gl, ↓upd_none, Nat.reduceEqDiff, Nat.reduceBEq, Nat.reduceAdd, Nat.reduceSub, Nat.reduceMul, Nat.reduceLT, Nat.reduceLeDiff, ↓reduceIte, reduceCtorEq, rsOf, rootsOf, SOp.rd, SI.rd, SX.rd, rdL, rdO, rdP, okParts, eqCells, okEqCells, fillA, okFill, setAt, implies_true, forall_const, forall_eq, ne_eq, exists_eq_right_right, exists_eq_right, exists_eq_left, exists_eq_left', eInt, eBool, lit_eq]
    intro re hre
    have n4 : ¬ r4 = re := fun h => by rw [← h, g4] at hre; cases hre
    have n4' : ¬ re = r4 := fun h => n4 h.symm
    have E := Ed.begin Dw1 M1 hre
    have hEd := eedit_ok (G := G) E V sm e he
    unfold eEdit at hEd
    refine DCalls.of hEd ?_
    rintro a h3 ⟨rfl, hR⟩
    rcases hR with ⟨hne, rfl⟩ | ⟨hz, rN', sl', E3⟩
    · rw [← aE] at hne
      have aD : applyD d e = noDoc := by unfold applyD; rw [if_neg hne]
      have aN : applyN d e = 0 := by unfold applyN; rw [if_neg hne]
      rw [aD, aN, ← aE]
      repeat' (first | ((with_reducible refine Br.dec (fun _ => ?_) (fun _ => ?_)) <;> try (exfalso; omega)) | ((with_reducible refine Br.eq (fun _ => ?_) (fun _ => ?_)) <;> try (exfalso; omega)) | ((with_reducible refine Br.ne (fun _ => ?_) (fun _ => ?_)) <;> try (exfalso; omega)) | ((with_reducible refine brNdec (fun _ => ?_) (fun _ => ?_)) <;> try (exfalso; omega)) | ((with_reducible refine brNeq (fun _ => ?_) (fun _ => ?_)) <;> try (exfalso; omega)) | with_reducible refine Br.intro (fun _ => ?_) (fun _ => ?_) | (with_reducible refine And.intro ?_ ?_; · omega) | simp -dsimp -implicitDefEqProofs (disch := omega) only [VCA, pg_gl, ↓upd_none, Nat.reduceEqDiff, Nat.reduceBEq, Nat.reduceAdd, Nat.reduceSub, Nat.reduceMul, Nat.reduceLT, Nat.reduceLeDiff, ↓reduceIte, reduceCtorEq, rsOf, rootsOf, SOp.rd, SI.rd, SX.rd, rdL, rdO, rdP, okParts, eqCells, okEqCells, fillA, okFill, setAt, implies_true, forall_const, forall_eq, ne_eq, exists_eq_right_right, exists_eq_right, exists_eq_left, exists_eq_left', eInt, eBool, lit_eq, hne, n4, n4', g4])
      all_goals try (exfalso; omega)
      have Sh := (S4 _).trans Dw1.sub
      exact ⟨_, Sub.refl _, (Sh.upd (Sh.none hre)).upd hr4, .tup' (.cons (vw_noDoc _) (.cons (.refl _) (.cons (.refl _) .nil)))⟩
    · rw [← aE] at hz
      have aD : applyD d e = editD d e := by unfold applyD; rw [if_pos hz]
      have aN : applyN d e = editN d e := by unfold applyN; rw [if_pos hz]
      rw [aD, aN, hz, ← aE, hz]
      have gE3 := E3.ed
      have g43 := E3.dw.sub r4 _ (upd_same _ _ _)
      repeat' (first | ((with_reducible refine Br.dec (fun _ => ?_) (fun _ => ?_)) <;> try (exfalso; omega)) | ((with_reducible refine Br.eq (fun _ => ?_) (fun _ => ?_)) <;> try (exfalso; omega)) | ((with_reducible refine Br.ne (fun _ => ?_) (fun _ => ?_)) <;> try (exfalso; omega)) | ((with_reducible refine brNdec (fun _ => ?_) (fun _ => ?_)) <;> try (exfalso; omega)) | ((with_reducible refine brNeq (fun _ => ?_) (fun _ => ?_)) <;> try (exfalso; omega)) | with_reducible refine Br.intro (fun _ => ?_) (fun _ => ?_) | (with_reducible refine And.intro ?_ ?_; · omega) | simp -dsimp -implicitDefEqProofs (disch := omega) only [VCA, pg_gl, ↓upd_none, Nat.reduceEqDiff, Nat.reduceBEq, Nat.reduceAdd, Nat.reduceSub, Nat.reduceMul, Nat.reduceLT, Nat.reduceLeDiff, ↓reduceIte, reduceCtorEq, rsOf, rootsOf, SOp.rd, SI.rd, SX.rd, rdL, rdO, rdP, okParts, eqCells, okEqCells, fillA, okFill, setAt, implies_true, forall_const, forall_eq, ne_eq, exists_eq_right_right, exists_eq_right, exists_eq_left, exists_eq_left', eInt, eBool, lit_eq, n4, n4', gE3, g43, editN_made])
      all_goals try (exfalso; omega)
      exact ⟨_, Sub.refl _, ((S4 _).trans E3.dw.sub).upd hr4, .tup' (.cons (Vw.agg' (.cons (E3.dw.beside (S4 _) (upd_same _ _ _) hr4 (by simp [n4]) _).new'.vw (.cons (.refl _) .nil))) (.cons (.refl _) (.cons (.refl _) .nil)))⟩
  · have aE : applyE d e = docE d := by unfold applyE; rw [if_pos h1]
    have aD : applyD d e = noDoc := by unfold applyD; rw [aE, if_neg h1]
    have aN : applyN d e = 0 := by unfold applyN; rw [aE, if_neg h1]
    rw [aD, aE, aN]
    repeat' (first | ((with_reducible refine Br.dec (fun _ => ?_) (fun _ => ?_)) <;> try (exfalso; omega)) | ((with_reducible refine Br.eq (fun _ => ?_) (fun _ => ?_)) <;> try (exfalso; omega)) | ((with_reducible refine Br.ne (fun _ => ?_) (fun _ => ?_)) <;> try (exfalso; omega)) | ((with_reducible refine brNdec (fun _ => ?_) (fun _ => ?_)) <;> try (exfalso; omega)) | ((with_reducible refine brNeq (fun _ => ?_) (fun _ => ?_)) <;> try (exfalso; omega)) | with_reducible refine Br.intro (fun _ => ?_) (fun _ => ?_) | (with_reducible apply pcallE.of; · exact hC) | (with_reducible refine And.intro ?_ ?_; · omega) | simp -dsimp -implicitDefEqProofs (disch := omega) only [VCA, pg_gl, ↓upd_none, Nat.reduceEqDiff, Nat.reduceBEq, Nat.reduceAdd, Nat.reduceSub, Nat.reduceMul, Nat.reduceLT, Nat.reduceLeDiff, ↓reduceIte, reduceCtorEq, rsOf, rootsOf, SOp.rd, SI.rd, SX.rd, rdL, rdO, rdP, okParts, eqCells, okEqCells, fillA, okFill, setAt, implies_true, forall_const, forall_eq, ne_eq, exists_eq_right_right, exists_eq_right, exists_eq_left, exists_eq_left', eInt, eBool, lit_eq, h1, upd_same])
    exact ⟨_, Sub.refl _, S4 _, .tup' (.cons (vw_noDoc _) (.cons (.refl _) (.cons (.refl _) .nil)))⟩
end Go.Proofs.K
end
section
/- Documents: what must be in any case; the law of checks. -/
set_option linter.unusedSimpArgs false
set_option linter.unusedVariables false
namespace Go.Proofs.K
open Go Go.Sim Go.Proofs
variable {G : Glob}
def newD : HDoc := ⟨[⟨1, [], [], [], -1, []⟩], false⟩
def newA : AVal := .agg [.slc [[.int .i64 1, .str [], .emp, .str [], .int .i64 (-1), .emp]], .bool false]
theorem newA_wk : Wk newA (.agg (eDoc newD)) := Wk.agg' (.cons (Wk.slc' (.cons (.cons (.refl _) (.cons (.refl _) (.cons .emp (.cons (.refl _) (.cons (.refl _) (.cons .emp .nil)))))) .nil)) (.cons (.refl _) .nil))
def c54 : SFun := ⟨(.seq (.reg [⟨(some 0), (.new 24 2 [.emp, (.bool false)]), none⟩]) (.seq (.reg [⟨(some 1), (.bld [(.int .i64 (0)), (.str []), .emp, (.str []), (.int .i64 (0)), .emp] [(0, (1, (.c (.int .i64 (1))))), (4, (1, (.c (.int .i64 (-1)))))]), none⟩, ⟨(some 2), (.bldF 43 6 [(.t 1)]), none⟩, ⟨(some 3), (.bld [.emp, (.bool false)] [(0, (1, (.t 2)))]), none⟩, ⟨none, (.st 2 (.t 0) (.t 3)), none⟩]) .ret)), [(.cell 0 2 true)]⟩
theorem hc54 : toSF Tryd.prog {} Tryd.f54 = some c54 := by kernel_rfl
theorem hn54 : (Tryd.f54.name == "runtime.NumGoroutine") = false := by kernel_rfl
theorem new_ok : PCalls (Pg G) 54 [] (.agg (eDoc newD)) := fun h => by
  refine DCalls.res (K := fun a h' => a = newA ∧ h' = h) ?_ ?_
  · refine dcalls_of_vc Tryd.func54 hn54 hc54 (by rw [Tryd.ntmps54]; simp) (by rw [Tryd.ntmps54]; decide) ?_
    simp -dsimp -implicitDefEqProofs (disch := omega) only [VCA, pg_gl, ↓upd_none, Nat.reduceEqDiff, Nat.reduceBEq, Nat.reduceAdd, Nat.reduceSub, Nat.reduceMul, Nat.reduceLT, Nat.reduceLeDiff, ↓reduceIte, reduceCtorEq, rsOf, rootsOf, SOp.rd, SI.rd, SX.rd, rdL, rdO, rdP, okParts, eqCells, okEqCells, fillA, okFill, setAt, implies_true, forall_const, forall_eq, ne_eq, exists_eq_right_right, exists_eq_right, exists_eq_left, exists_eq_left', eInt, eBool, lit_eq, c54]
    intro r hr
    repeat' (first | ((with_reducible refine Br.dec (fun _ => ?_) (fun _ => ?_)) <;> try (exfalso; omega)) | ((with_reducible refine Br.eq (fun _ => ?_) (fun _ => ?_)) <;> try (exfalso; omega)) | ((with_reducible refine Br.ne (fun _ => ?_) (fun _ => ?_)) <;> try (exfalso; omega)) | ((with_reducible refine brNdec (fun _ => ?_) (fun _ => ?_)) <;> try (exfalso; omega)) | ((with_reducible refine brNeq (fun _ => ?_) (fun _ => ?_)) <;> try (exfalso; omega)) | with_reducible refine Br.intro (fun _ => ?_) (fun _ => ?_) | (with_reducible refine And.intro ?_ ?_; · omega) | simp -dsimp -implicitDefEqProofs (disch := omega) only [VCA, pg_gl, ↓upd_none, Nat.reduceEqDiff, Nat.reduceBEq, Nat.reduceAdd, Nat.reduceSub, Nat.reduceMul, Nat.reduceLT, Nat.reduceLeDiff, ↓reduceIte, reduceCtorEq, rsOf, rootsOf, SOp.rd, SI.rd, SX.rd, rdL, rdO, rdP, okParts, eqCells, okEqCells, fillA, okFill, setAt, implies_true, forall_const, forall_eq, ne_eq, exists_eq_right_right, exists_eq_right, exists_eq_left, exists_eq_left', eInt, eBool, lit_eq, upd_same])
    exact ⟨(Sub.refl _).upd hr, rfl⟩
  · rintro a h' ⟨rfl, rfl⟩
    exact ⟨_, newA_wk, rfl, rfl⟩
theorem newD_sm : DocSm newD := ⟨by decide, fun x hx => by
  have : x = ⟨1, [], [], [], -1, []⟩ := by simpa [newD] using hx
  subst this
  exact ⟨by decide, by decide, (fun a ha => by cases ha), by decide, by decide⟩⟩
/-- an edit as it is written: no lists -/
theorem edit_wk (e : HEdit) (h1 : e.node.attrs = []) (h2 : e.node.kids = []) : Wk (.agg (eE0 e)) (.agg (eEdit e)) := Wk.agg' (by
  unfold eE0 eEdit
  rw [h1, h2]
  exact .cons (.refl _) (.cons (.refl _) (.cons (.refl _) (.cons (.refl _) (.cons (.refl _) (.cons (.refl _) (.cons (.refl _) (.cons (.refl _) (.cons .emp (.cons (.refl _) (.cons (.refl _) (.cons .emp .nil))))))))))))
def beg1 : HEdit := ⟨4, 0, 0, 0, [], [], ⟨2, [112], [], [], 0, []⟩⟩
def beg2 : HEdit := ⟨5, 0, 1, -1, [], [], ⟨0, [], [], [], 0, []⟩⟩
def begD1 : HDoc := ⟨[⟨1, [], [], [], -1, []⟩, ⟨2, [112], [], [], -1, []⟩], false⟩
def begD2 : HDoc := ⟨[⟨1, [], [], [], -1, [1]⟩, ⟨2, [112], [], [], 0, []⟩], false⟩
theorem beg_is : applyD newD beg1 = begD1 ∧ applyN newD beg1 = 1 ∧ applyE newD beg1 = 0 ∧ applyD begD1 beg2 = begD2 ∧ applyE begD1 beg2 = 0 ∧ docE begD2 = 0 ∧ below begD2 0 = [0, 1] ∧ docE noDoc = 3 := by decide +kernel
theorem beg_sm : EditSm beg1 ∧ EditSm beg2 ∧ DocSm begD1 ∧ DocSm begD2 := ⟨⟨by decide, by decide, by decide, by decide, (fun a ha => by cases ha), by decide, by decide⟩, ⟨by decide, by decide, by decide, by decide, (fun a ha => by cases ha), by decide, by decide⟩,
  ⟨by decide, fun x hx => by
    have : x = ⟨1, [], [], [], -1, []⟩ ∨ x = ⟨2, [112], [], [], -1, []⟩ := by simpa [begD1] using hx
    rcases this with rfl | rfl <;> exact ⟨by decide, by decide, (fun a ha => by cases ha), by decide, by decide⟩⟩,
  ⟨by decide, fun x hx => by
    have : x = ⟨1, [], [], [], -1, [1]⟩ ∨ x = ⟨2, [112], [], [], 0, []⟩ := by simpa [begD2] using hx
    rcases this with rfl | rfl <;> exact ⟨by decide, by decide, (fun a ha => by cases ha), by decide, by decide⟩⟩⟩
def c51 : SFun := ⟨(.seq (.reg [⟨(some 0), (.mv (.c (.bool false))), none⟩]) (.seq (.reg [⟨(some 9), (.pcall 54 []), none⟩, ⟨(some 10), (.bld [(.int .i64 (0)), (.str []), .emp, (.str []), (.int .i64 (0)), .emp] [(0, (1, (.c (.int .i64 (2))))), (1, (1, (.c (.str [112]))))]), none⟩, ⟨(some 11), (.bld [(.int .i64 (0)), (.int .i64 (0)), (.int .i64 (0)), (.int .i64 (0)), (.str []), (.str []), (.int .i64 (0)), (.str []), .emp, (.str []), (.int .i64 (0)), .emp] [(0, (1, (.c (.int .i64 (4))))), (6, (6, (.t 10)))]), none⟩, ⟨(some 12), (.pcall 55 [(.t 9), (.t 11)]), none⟩, ⟨(some 8), (.mv (.t 12)), none⟩, ⟨(some 13), (.ext (.t 8) 0), none⟩, ⟨(some 14), (.ext (.t 8) 1), none⟩, ⟨(some 15), (.ext (.t 8) 2), none⟩, ⟨(some 1), (.new 24 2 [.emp, (.bool false)]), none⟩, ⟨none, (.st 2 (.t 1) (.t 13)), none⟩, ⟨(some 2), (.mv (.t 14)), none⟩, ⟨(some 3), (.mv (.t 15)), none⟩]) (.seq (.reg [⟨(some 17), (.ld 2 true (.t 1)), none⟩, ⟨(some 18), (.mv (.t 2)), none⟩, ⟨(some 19), (.bld [(.int .i64 (0)), (.int .i64 (0)), (.int .i64 (0)), (.int .i64 (0)), (.str []), (.str []), (.int .i64 (0)), (.str []), .emp, (.str []), (.int .i64 (0)), .emp] [(0, (1, (.c (.int .i64 (5))))), (1, (1, (.c (.int .i64 (0))))), (2, (1, (.t 18))), (3, (1, (.c (.int .i64 (-1)))))]), none⟩, ⟨(some 20), (.pcall 55 [(.t 17), (.t 19)]), none⟩, ⟨(some 16), (.mv (.t 20)), none⟩, ⟨(some 21), (.ext (.t 16) 0), none⟩, ⟨(some 22), (.ext (.t 16) 1), none⟩, ⟨(some 23), (.ext (.t 16) 2), none⟩, ⟨none, (.st 2 (.t 1) (.t 21)), none⟩, ⟨(some 4), (.mv (.t 22)), none⟩, ⟨(some 5), (.mv (.t 23)), none⟩]) (.seq (.reg [⟨(some 25), (.ld 2 true (.t 1)), none⟩, ⟨(some 26), (.pcall 59 [(.t 25)]), none⟩, ⟨(some 24), (.mv (.t 26)), none⟩, ⟨(some 27), (.ext (.t 24) 0), none⟩, ⟨(some 28), (.ext (.t 24) 1), none⟩, ⟨(some 6), (.mv (.t 27)), none⟩, ⟨(some 7), (.mv (.t 28)), none⟩]) (.seq (.reg [⟨(some 29), (.mv (.t 2)), none⟩, ⟨(some 30), (.bin .eql (.t 29) (.c (.int .i64 (1)))), none⟩, ⟨(some 31), (.mv (.t 30)), none⟩, ⟨(some 32), (.mv (.t 3)), (some (31, true))⟩, ⟨(some 33), (.bin .eql (.t 32) (.c (.int .i64 (0)))), (some (31, true))⟩, ⟨(some 34), (.pick (.t 31) (.t 33) (.c (.bool false))), none⟩, ⟨(some 35), (.mv (.t 34)), none⟩, ⟨(some 36), (.mv (.t 5)), (some (35, true))⟩, ⟨(some 37), (.bin .eql (.t 36) (.c (.int .i64 (0)))), (some (35, true))⟩, ⟨(some 38), (.pick (.t 35) (.t 37) (.c (.bool false))), none⟩, ⟨(some 39), (.mv (.t 38)), none⟩, ⟨(some 40), (.mv (.t 7)), (some (39, true))⟩, ⟨(some 41), (.bin .eql (.t 40) (.c (.int .i64 (0)))), (some (39, true))⟩, ⟨(some 42), (.pick (.t 39) (.t 41) (.c (.bool false))), none⟩, ⟨(some 43), (.mv (.t 42)), none⟩, ⟨(some 44), (.mv (.t 6)), (some (43, true))⟩, ⟨(some 45), (.bldF 3 1 [(.c (.int .i64 (0))), (.c (.int .i64 (1)))]), (some (43, true))⟩, ⟨(some 46), (.pcall 30 [(.t 44), (.t 45)]), (some (43, true))⟩, ⟨(some 47), (.pick (.t 43) (.t 46) (.c (.bool false))), none⟩, ⟨(some 48), (.mv (.t 47)), none⟩, ⟨(some 49), (.bld [.emp, (.bool false)] []), (some (48, true))⟩, ⟨(some 50), (.pcall 52 [(.t 49)]), (some (48, true))⟩, ⟨(some 51), (.bin .eql (.t 50) (.c (.int .i64 (3)))), (some (48, true))⟩, ⟨(some 52), (.pick (.t 48) (.t 51) (.c (.bool false))), none⟩, ⟨(some 0), (.mv (.t 52)), none⟩]) .ret))))), [(.tmp 0)]⟩
theorem hc51 : toSF Tryd.prog {pure := [55, 54, 59, 30, 52]} Tryd.f51 = some c51 := by kernel_rfl
theorem hn51 : (Tryd.f51.name == "runtime.NumGoroutine") = false := by kernel_rfl
theorem domBegun_ok : PCalls (Pg G) 51 [] (.bool true) := fun h => by
  obtain ⟨b1, b2, b3, b4, b5, b6, b7, b8⟩ := beg_is
  obtain ⟨s1, s2, s3, s4⟩ := beg_sm
  have h1 : PCalls (Pg G) 55 [.agg (eDoc newD), .agg (eE0 beg1)] (.tup [.agg (eDoc begD1), aInt 1, aInt 0]) := by
    have h := (apply_ok (G := G) newD newD_sm beg1 s1).wk (args := [.agg (eDoc newD), .agg (eE0 beg1)]) (.cons (.refl _) (.cons (edit_wk beg1 rfl rfl) .nil))
    rw [b1, b2, b3] at h
    exact h
  have h2 : PCalls (Pg G) 55 [.agg (eDoc begD1), .agg (eE0 beg2)] (.tup [.agg (eDoc begD2), aInt (applyN begD1 beg2), aInt 0]) := by
    have h := (apply_ok (G := G) begD1 s3 beg2 s2).wk (args := [.agg (eDoc begD1), .agg (eE0 beg2)]) (.cons (.refl _) (.cons (edit_wk beg2 rfl rfl) .nil))
    rw [b4, b5] at h
    exact h
  have h3 : PCalls (Pg G) 59 [.agg (eDoc begD2)] (.tup [sl eInt [0, 1], aInt 0]) := by
    have h := domOrder_ok (G := G) begD2 (docE_DV b6) b6 s4
    rw [b7] at h
    exact h
  have h4 : PCalls (Pg G) 30 [sl eInt [0, 1], .slc [[.int .i64 0], [.int .i64 1]]] (.bool true) := sameN_ok (G := G) [0, 1] [0, 1] (by simp) (by simp)
  have h5 : PCalls (Pg G) 52 [.agg [.emp, .bool false]] (aInt 3) := by
    have h := (check_ok (G := G) noDoc ⟨by decide, fun x hx => by cases hx⟩).wk (args := [.agg [.emp, .bool false]]) (.cons (Wk.agg' (.cons .emp (.cons (.refl _) .nil))) .nil)
    rw [b8] at h
    exact h
  unfold eE0 beg1 at h1
  unfold eE0 beg2 at h2
  refine dcalls_of_vc Tryd.func51 hn51 hc51 (by rw [Tryd.ntmps51]; simp) (by rw [Tryd.ntmps51]; decide) ?_
  simp -dsimp -implicitDefEqProofs (disch := omega) only [↓vcOps_sp 31, ↓vcD_sp 31, ↓vcOps_sp 35, ↓vcD_sp 35, ↓vcOps_sp 39, ↓vcD_sp 39, ↓vcOps_sp 43, ↓vcD_sp 43, ↓vcOps_sp 48, ↓vcD_sp 48, VCA, pg_gl, ↓upd_none, Nat.reduceEqDiff, Nat.reduceBEq, Nat.reduceAdd, Nat.reduceSub, Nat.reduceMul, Nat.reduceLT, Nat.reduceLeDiff, ↓reduceIte, reduceCtorEq, rsOf, rootsOf, SOp.rd, SI.rd, SX.rd, rdL, rdO, rdP, okParts, eqCells, okEqCells, fillA, okFill, setAt, implies_true, forall_const, forall_eq, ne_eq, exists_eq_right_right, exists_eq_right, exists_eq_left, exists_eq_left', eInt, eBool, lit_eq, c51]
  repeat' (first | ((with_reducible refine Br.dec (fun _ => ?_) (fun _ => ?_)) <;> try (exfalso; omega)) | ((with_reducible refine Br.eq (fun _ => ?_) (fun _ => ?_)) <;> try (exfalso; omega)) | ((with_reducible refine Br.ne (fun _ => ?_) (fun _ => ?_)) <;> try (exfalso; omega)) | ((with_reducible refine brNdec (fun _ => ?_) (fun _ => ?_)) <;> try (exfalso; omega)) | ((with_reducible refine brNeq (fun _ => ?_) (fun _ => ?_)) <;> try (exfalso; omega)) | with_reducible refine Br.intro (fun _ => ?_) (fun _ => ?_) | (with_reducible apply pcallE.of; · exact new_ok (G := G)) | (with_reducible apply pcallE.of; · exact h1) | (with_reducible refine And.intro ?_ ?_; · omega) | simp -dsimp -implicitDefEqProofs (disch := omega) only [↓vcOps_sp 31, ↓vcD_sp 31, ↓vcOps_sp 35, ↓vcD_sp 35, ↓vcOps_sp 39, ↓vcD_sp 39, ↓vcOps_sp 43, ↓vcD_sp 43, ↓vcOps_sp 48, ↓vcD_sp 48, VCA, pg_gl, ↓upd_none, Nat.reduceEqDiff, Nat.reduceBEq, Nat.reduceAdd, Nat.reduceSub, Nat.reduceMul, Nat.reduceLT, Nat.reduceLeDiff, ↓reduceIte, reduceCtorEq, rsOf, rootsOf, SOp.rd, SI.rd, SX.rd, rdL, rdO, rdP, okParts, eqCells, okEqCells, fillA, okFill, setAt, implies_true, forall_const, forall_eq, ne_eq, exists_eq_right_right, exists_eq_right, exists_eq_left, exists_eq_left', eInt, eBool, lit_eq, upd_same])
  intro r hr
  repeat' (first | ((with_reducible refine Br.dec (fun _ => ?_) (fun _ => ?_)) <;> try (exfalso; omega)) | ((with_reducible refine Br.eq (fun _ => ?_) (fun _ => ?_)) <;> try (exfalso; omega)) | ((with_reducible refine Br.ne (fun _ => ?_) (fun _ => ?_)) <;> try (exfalso; omega)) | ((with_reducible refine brNdec (fun _ => ?_) (fun _ => ?_)) <;> try (exfalso; omega)) | ((with_reducible refine brNeq (fun _ => ?_) (fun _ => ?_)) <;> try (exfalso; omega)) | with_reducible refine Br.intro (fun _ => ?_) (fun _ => ?_) | (with_reducible apply pcallE.of; · exact h2) | (with_reducible apply pcallE.of; · exact h3) | (with_reducible apply pcallE.of; · exact h4) | (with_reducible apply pcallE.of; · exact h5) | (with_reducible refine And.intro ?_ ?_; · omega) | simp -dsimp -implicitDefEqProofs (disch := omega) only [↓vcOps_sp 31, ↓vcD_sp 31, ↓vcOps_sp 35, ↓vcD_sp 35, ↓vcOps_sp 39, ↓vcD_sp 39, ↓vcOps_sp 43, ↓vcD_sp 43, ↓vcOps_sp 48, ↓vcD_sp 48, VCA, pg_gl, ↓upd_none, Nat.reduceEqDiff, Nat.reduceBEq, Nat.reduceAdd, Nat.reduceSub, Nat.reduceMul, Nat.reduceLT, Nat.reduceLeDiff, ↓reduceIte, reduceCtorEq, rsOf, rootsOf, SOp.rd, SI.rd, SX.rd, rdL, rdO, rdP, okParts, eqCells, okEqCells, fillA, okFill, setAt, implies_true, forall_const, forall_eq, ne_eq, exists_eq_right_right, exists_eq_right, exists_eq_left, exists_eq_left', eInt, eBool, lit_eq, upd_same, eDoc_len, eDoc_take, eDoc_dr, List.append_nil])
  exact ⟨(Sub.refl h).upd hr, rfl⟩
end Go.Proofs.K
end
section
/- Asking a document: the law. -/
set_option linter.unusedSimpArgs false
set_option linter.unusedVariables false
namespace Go.Proofs.K
open Go Go.Sim Go.Proofs
variable {G : Glob}
theorem path_par {d : HDoc} (V : DV d) {n : Int} (hn : inD d n) {j : Nat} (h1 : 1 ≤ j) (h2 : j ≤ up d n) : (nd d (nth (path d n) j)).parent = nth (path d n) (j - 1) := by
  obtain ⟨c1, u1⟩ := path_at V n hn j h2
  obtain ⟨c2, u2⟩ := path_at V n hn (j - 1) (by omega)
  have hi := chain_in V n hn _ c1
  have hp : 0 ≤ (nd d (nth (path d n) j)).parent := Classical.byContradiction fun h => by
    rw [V.up_top h] at u1; omega
  have hu := V.up_par hi hp
  refine chain_one V n hn _ (chain_trans V n hn _ c1 _ ?_) _ c2 (by omega)
  rw [chain_up V hi hp]
  exact List.mem_cons_of_mem _ (chain_self d _)
def c13 : SFun := ⟨(.seq (.reg [⟨(some 3), (.box 24 2 (.t 0)), none⟩, ⟨(some 6), (.mv (.c (.bool false))), none⟩]) (.seq (.reg [⟨(some 20), (.ld 2 true (.t 3)), none⟩, ⟨(some 21), (.pcall 15 [(.t 20), (.c (.int .i64 (60)))]), none⟩, ⟨none, (.st 2 (.t 3) (.t 21)), none⟩]) (.seq (.reg [⟨(some 23), (.ld 2 true (.t 3)), none⟩, ⟨(some 24), (.pcall 59 [(.t 23)]), none⟩, ⟨(some 22), (.mv (.t 24)), none⟩, ⟨(some 25), (.ext (.t 22) 0), none⟩, ⟨(some 26), (.ext (.t 22) 1), none⟩, ⟨(some 7), (.mv (.t 25)), none⟩, ⟨(some 8), (.mv (.t 26)), none⟩]) (.seq (.reg [⟨(some 28), (.ld 2 true (.t 3)), none⟩, ⟨(some 29), (.mv (.t 1)), none⟩, ⟨(some 30), (.pcall 60 [(.t 28), (.t 29)]), none⟩, ⟨(some 27), (.mv (.t 30)), none⟩, ⟨(some 31), (.ext (.t 27) 0), none⟩, ⟨(some 32), (.ext (.t 27) 1), none⟩, ⟨(some 9), (.mv (.t 31)), none⟩, ⟨(some 10), (.mv (.t 32)), none⟩]) (.seq (.reg [⟨(some 34), (.ld 2 true (.t 3)), none⟩, ⟨(some 35), (.mv (.t 1)), none⟩, ⟨(some 36), (.mv (.t 2)), none⟩, ⟨(some 37), (.pcall 61 [(.t 34), (.t 35), (.t 36)]), none⟩, ⟨(some 33), (.mv (.t 37)), none⟩, ⟨(some 38), (.ext (.t 33) 0), none⟩, ⟨(some 39), (.ext (.t 33) 1), none⟩, ⟨(some 40), (.ext (.t 33) 2), none⟩, ⟨(some 11), (.mv (.t 38)), none⟩, ⟨(some 12), (.mv (.t 39)), none⟩, ⟨(some 13), (.mv (.t 40)), none⟩]) (.seq (.reg [⟨(some 42), (.ld 2 true (.t 3)), none⟩, ⟨(some 43), (.mv (.t 1)), none⟩, ⟨(some 44), (.pcall 62 [(.t 42), (.t 43)]), none⟩, ⟨(some 41), (.mv (.t 44)), none⟩, ⟨(some 45), (.ext (.t 41) 0), none⟩, ⟨(some 46), (.ext (.t 41) 1), none⟩, ⟨(some 14), (.mv (.t 45)), none⟩, ⟨(some 15), (.mv (.t 46)), none⟩]) (.seq (.reg [⟨(some 47), (.ld 2 true (.t 3)), none⟩, ⟨(some 48), (.pcall 17 [(.t 47)]), none⟩, ⟨(some 16), (.mv (.t 48)), none⟩]) (.seq (.seq (.reg [⟨(some 49), (.mv (.t 16)), none⟩, ⟨(some 50), (.bin .neq (.t 49) (.c (.int .i64 (0)))), none⟩]) (.cond (.t 50) (.seq (.reg [⟨(some 51), (.pcall 51 []), none⟩, ⟨(some 52), (.mv (.t 51)), none⟩, ⟨(some 53), (.mv (.t 8)), (some (52, true))⟩, ⟨(some 54), (.mv (.t 16)), (some (52, true))⟩, ⟨(some 55), (.bin .eql (.t 53) (.t 54)), (some (52, true))⟩, ⟨(some 56), (.pick (.t 52) (.t 55) (.c (.bool false))), none⟩, ⟨(some 57), (.mv (.t 56)), none⟩, ⟨(some 58), (.mv (.t 10)), (some (57, true))⟩, ⟨(some 59), (.mv (.t 16)), (some (57, true))⟩, ⟨(some 60), (.bin .eql (.t 58) (.t 59)), (some (57, true))⟩, ⟨(some 61), (.pick (.t 57) (.t 60) (.c (.bool false))), none⟩, ⟨(some 62), (.mv (.t 61)), none⟩, ⟨(some 63), (.mv (.t 13)), (some (62, true))⟩, ⟨(some 64), (.mv (.t 16)), (some (62, true))⟩, ⟨(some 65), (.bin .eql (.t 63) (.t 64)), (some (62, true))⟩, ⟨(some 66), (.pick (.t 62) (.t 65) (.c (.bool false))), none⟩, ⟨(some 67), (.mv (.t 66)), none⟩, ⟨(some 68), (.mv (.t 15)), (some (67, true))⟩, ⟨(some 69), (.mv (.t 16)), (some (67, true))⟩, ⟨(some 70), (.bin .eql (.t 68) (.t 69)), (some (67, true))⟩, ⟨(some 71), (.pick (.t 67) (.t 70) (.c (.bool false))), none⟩, ⟨(some 72), (.mv (.t 71)), none⟩, ⟨(some 73), (.mv (.t 7)), (some (72, true))⟩, ⟨(some 74), (.len (.t 73)), (some (72, true))⟩, ⟨(some 75), (.mv (.t 9)), (some (72, true))⟩, ⟨(some 76), (.len (.t 75)), (some (72, true))⟩, ⟨(some 77), (.bin .add (.t 74) (.t 76)), (some (72, true))⟩, ⟨(some 78), (.bin .eql (.t 77) (.c (.int .i64 (0)))), (some (72, true))⟩, ⟨(some 79), (.pick (.t 72) (.t 78) (.c (.bool false))), none⟩, ⟨(some 80), (.mv (.t 79)), none⟩, ⟨(some 81), (.mv (.t 11)), (some (80, true))⟩, ⟨(some 82), (.bin .eql (.t 81) (.c (.str []))), (some (80, true))⟩, ⟨(some 83), (.pick (.t 80) (.t 82) (.c (.bool false))), none⟩, ⟨(some 84), (.mv (.t 83)), none⟩, ⟨(some 85), (.mv (.t 12)), (some (84, true))⟩, ⟨(some 86), (.un .not (.t 85)), (some (84, true))⟩, ⟨(some 87), (.pick (.t 84) (.t 86) (.c (.bool false))), none⟩, ⟨(some 88), (.mv (.t 87)), none⟩, ⟨(some 89), (.mv (.t 14)), (some (88, true))⟩, ⟨(some 90), (.bin .eql (.t 89) (.c (.str []))), (some (88, true))⟩, ⟨(some 91), (.pick (.t 88) (.t 90) (.c (.bool false))), none⟩, ⟨(some 6), (.mv (.t 91)), none⟩]) .ret) .skip)) (.seq (.seq (.reg [⟨(some 92), (.mv (.t 8)), none⟩, ⟨(some 93), (.bin .neq (.t 92) (.c (.int .i64 (0)))), none⟩, ⟨(some 94), (.mv (.t 93)), none⟩, ⟨(some 95), (.mv (.t 7)), (some (94, false))⟩, ⟨(some 96), (.ld 2 true (.t 3)), (some (94, false))⟩, ⟨(some 97), (.pcall 25 [(.t 96), (.c (.int .i64 (0)))]), (some (94, false))⟩, ⟨(some 98), (.pcall 30 [(.t 95), (.t 97)]), (some (94, false))⟩, ⟨(some 99), (.un .not (.t 98)), (some (94, false))⟩, ⟨(some 100), (.pick (.t 94) (.c (.bool true)) (.t 99)), none⟩]) (.cond (.t 100) (.seq (.reg [⟨(some 6), (.mv (.c (.bool false))), none⟩]) .ret) .skip)) (.seq (.seq (.reg [⟨(some 101), (.mv (.t 1)), none⟩, ⟨(some 102), (.bin .lss (.t 101) (.c (.int .i64 (0)))), none⟩, ⟨(some 103), (.mv (.t 102)), none⟩, ⟨(some 104), (.mv (.t 1)), (some (103, false))⟩, ⟨(some 105), (.fldA 0 (.t 3)), (some (103, false))⟩, ⟨(some 106), (.ld 1 false (.t 105)), (some (103, false))⟩, ⟨(some 107), (.len (.t 106)), (some (103, false))⟩, ⟨(some 108), (.bin .geq (.t 104) (.t 107)), (some (103, false))⟩, ⟨(some 109), (.pick (.t 103) (.c (.bool true)) (.t 108)), none⟩]) (.cond (.t 109) (.seq (.reg [⟨(some 110), (.pcall 51 []), none⟩, ⟨(some 111), (.mv (.t 110)), none⟩, ⟨(some 112), (.mv (.t 10)), (some (111, true))⟩, ⟨(some 113), (.bin .eql (.t 112) (.c (.int .i64 (1)))), (some (111, true))⟩, ⟨(some 114), (.pick (.t 111) (.t 113) (.c (.bool false))), none⟩, ⟨(some 115), (.mv (.t 114)), none⟩, ⟨(some 116), (.mv (.t 13)), (some (115, true))⟩, ⟨(some 117), (.bin .eql (.t 116) (.c (.int .i64 (1)))), (some (115, true))⟩, ⟨(some 118), (.pick (.t 115) (.t 117) (.c (.bool false))), none⟩, ⟨(some 119), (.mv (.t 118)), none⟩, ⟨(some 120), (.mv (.t 15)), (some (119, true))⟩, ⟨(some 121), (.bin .eql (.t 120) (.c (.int .i64 (1)))), (some (119, true))⟩, ⟨(some 122), (.pick (.t 119) (.t 121) (.c (.bool false))), none⟩, ⟨(some 123), (.mv (.t 122)), none⟩, ⟨(some 124), (.mv (.t 9)), (some (123, true))⟩, ⟨(some 125), (.len (.t 124)), (some (123, true))⟩, ⟨(some 126), (.bin .eql (.t 125) (.c (.int .i64 (0)))), (some (123, true))⟩, ⟨(some 127), (.pick (.t 123) (.t 126) (.c (.bool false))), none⟩, ⟨(some 128), (.mv (.t 127)), none⟩, ⟨(some 129), (.mv (.t 11)), (some (128, true))⟩, ⟨(some 130), (.bin .eql (.t 129) (.c (.str []))), (some (128, true))⟩, ⟨(some 131), (.pick (.t 128) (.t 130) (.c (.bool false))), none⟩, ⟨(some 132), (.mv (.t 131)), none⟩, ⟨(some 133), (.mv (.t 12)), (some (132, true))⟩, ⟨(some 134), (.un .not (.t 133)), (some (132, true))⟩, ⟨(some 135), (.pick (.t 132) (.t 134) (.c (.bool false))), none⟩, ⟨(some 136), (.mv (.t 135)), none⟩, ⟨(some 137), (.mv (.t 14)), (some (136, true))⟩, ⟨(some 138), (.bin .eql (.t 137) (.c (.str []))), (some (136, true))⟩, ⟨(some 139), (.pick (.t 136) (.t 138) (.c (.bool false))), none⟩, ⟨(some 6), (.mv (.t 139)), none⟩]) .ret) .skip)) (.seq (.seq (.reg [⟨(some 140), (.mv (.t 15)), none⟩, ⟨(some 141), (.bin .neq (.t 140) (.c (.int .i64 (0)))), none⟩, ⟨(some 142), (.mv (.t 141)), none⟩, ⟨(some 143), (.mv (.t 14)), (some (142, false))⟩, ⟨(some 144), (.ld 2 true (.t 3)), (some (142, false))⟩, ⟨(some 145), (.mv (.t 1)), (some (142, false))⟩, ⟨(some 146), (.pcall 63 [(.t 144), (.t 145)]), (some (142, false))⟩, ⟨(some 147), (.bin .neq (.t 143) (.t 146)), (some (142, false))⟩, ⟨(some 148), (.pick (.t 142) (.c (.bool true)) (.t 147)), none⟩]) (.cond (.t 148) (.seq (.reg [⟨(some 6), (.mv (.c (.bool false))), none⟩]) .ret) .skip)) (.seq (.seq (.reg [⟨(some 149), (.fldA 0 (.t 3)), none⟩, ⟨(some 150), (.ld 1 false (.t 149)), none⟩, ⟨(some 151), (.mv (.t 1)), none⟩, ⟨(some 152), (.idxA 6 (.t 150) (.t 151)), none⟩, ⟨(some 153), (.fldA 0 (.t 152)), none⟩, ⟨(some 154), (.ld 1 false (.t 153)), none⟩, ⟨(some 155), (.bin .neq (.t 154) (.c (.int .i64 (2)))), none⟩]) (.cond (.t 155) (.seq (.reg [⟨(some 156), (.mv (.t 13)), none⟩, ⟨(some 157), (.bin .neq (.t 156) (.c (.int .i64 (7)))), none⟩, ⟨(some 158), (.mv (.t 157)), none⟩, ⟨(some 159), (.mv (.t 11)), (some (158, false))⟩, ⟨(some 160), (.bin .neq (.t 159) (.c (.str []))), (some (158, false))⟩, ⟨(some 161), (.pick (.t 158) (.c (.bool true)) (.t 160)), none⟩, ⟨(some 162), (.mv (.t 161)), none⟩, ⟨(some 163), (.mv (.t 12)), (some (162, false))⟩, ⟨(some 164), (.pick (.t 162) (.c (.bool true)) (.t 163)), none⟩]) (.cond (.t 164) (.seq (.reg [⟨(some 6), (.mv (.c (.bool false))), none⟩]) .ret) .skip)) (.seq (.reg [⟨(some 166), (.fldA 0 (.t 3)), none⟩, ⟨(some 167), (.ld 1 false (.t 166)), none⟩, ⟨(some 168), (.mv (.t 1)), none⟩, ⟨(some 169), (.idxA 6 (.t 167) (.t 168)), none⟩, ⟨(some 170), (.fldA 2 (.t 169)), none⟩, ⟨(some 171), (.ld 1 false (.t 170)), none⟩, ⟨(some 172), (.mv (.t 2)), none⟩, ⟨(some 173), (.pcall 64 [(.t 171), (.t 172)]), none⟩, ⟨(some 165), (.mv (.t 173)), none⟩, ⟨(some 174), (.ext (.t 165) 0), none⟩, ⟨(some 175), (.ext (.t 165) 1), none⟩, ⟨(some 17), (.mv (.t 174)), none⟩, ⟨(some 18), (.mv (.t 175)), none⟩]) (.seq (.reg [⟨(some 176), (.mv (.t 13)), none⟩, ⟨(some 177), (.bin .neq (.t 176) (.c (.int .i64 (0)))), none⟩, ⟨(some 178), (.mv (.t 177)), none⟩, ⟨(some 179), (.mv (.t 11)), (some (178, false))⟩, ⟨(some 180), (.mv (.t 17)), (some (178, false))⟩, ⟨(some 181), (.bin .neq (.t 179) (.t 180)), (some (178, false))⟩, ⟨(some 182), (.pick (.t 178) (.c (.bool true)) (.t 181)), none⟩, ⟨(some 183), (.mv (.t 182)), none⟩, ⟨(some 184), (.mv (.t 12)), (some (183, false))⟩, ⟨(some 185), (.mv (.t 18)), (some (183, false))⟩, ⟨(some 186), (.eqb true (.t 184) (.t 185)), (some (183, false))⟩, ⟨(some 187), (.pick (.t 183) (.c (.bool true)) (.t 186)), none⟩]) (.cond (.t 187) (.seq (.reg [⟨(some 6), (.mv (.c (.bool false))), none⟩]) .ret) .skip))))) (.seq (.seq (.reg [⟨(some 188), (.ld 2 true (.t 3)), none⟩, ⟨(some 189), (.mv (.t 1)), none⟩, ⟨(some 190), (.pcall 26 [(.t 188), (.t 189), (.c (.int .i64 (0)))]), none⟩, ⟨(some 191), (.un .not (.t 190)), none⟩]) (.cond (.t 191) (.seq (.reg [⟨(some 192), (.pcall 51 []), none⟩, ⟨(some 193), (.mv (.t 192)), none⟩, ⟨(some 194), (.mv (.t 10)), (some (193, true))⟩, ⟨(some 195), (.bin .eql (.t 194) (.c (.int .i64 (5)))), (some (193, true))⟩, ⟨(some 196), (.pick (.t 193) (.t 195) (.c (.bool false))), none⟩, ⟨(some 197), (.mv (.t 196)), none⟩, ⟨(some 198), (.mv (.t 9)), (some (197, true))⟩, ⟨(some 199), (.len (.t 198)), (some (197, true))⟩, ⟨(some 200), (.bin .eql (.t 199) (.c (.int .i64 (0)))), (some (197, true))⟩, ⟨(some 201), (.pick (.t 197) (.t 200) (.c (.bool false))), none⟩, ⟨(some 6), (.mv (.t 201)), none⟩]) .ret) .skip)) (.seq (.seq (.reg [⟨(some 202), (.mv (.t 10)), none⟩, ⟨(some 203), (.bin .neq (.t 202) (.c (.int .i64 (0)))), none⟩, ⟨(some 204), (.mv (.t 203)), none⟩, ⟨(some 205), (.mv (.t 9)), (some (204, false))⟩, ⟨(some 206), (.len (.t 205)), (some (204, false))⟩, ⟨(some 207), (.ld 2 true (.t 3)), (some (204, false))⟩, ⟨(some 208), (.mv (.t 1)), (some (204, false))⟩, ⟨(some 209), (.pcall 65 [(.t 207), (.t 208)]), (some (204, false))⟩, ⟨(some 210), (.bin .add (.t 209) (.c (.int .i64 (1)))), (some (204, false))⟩, ⟨(some 211), (.bin .neq (.t 206) (.t 210)), (some (204, false))⟩, ⟨(some 212), (.pick (.t 204) (.c (.bool true)) (.t 211)), none⟩, ⟨(some 213), (.mv (.t 212)), none⟩, ⟨(some 214), (.mv (.t 9)), (some (213, false))⟩, ⟨(some 215), (.idxA 1 (.t 214) (.c (.int .i64 (0)))), (some (213, false))⟩, ⟨(some 216), (.ld 1 false (.t 215)), (some (213, false))⟩, ⟨(some 217), (.bin .neq (.t 216) (.c (.int .i64 (0)))), (some (213, false))⟩, ⟨(some 218), (.pick (.t 213) (.c (.bool true)) (.t 217)), none⟩, ⟨(some 219), (.mv (.t 218)), none⟩, ⟨(some 220), (.mv (.t 9)), (some (219, false))⟩, ⟨(some 221), (.mv (.t 9)), (some (219, false))⟩, ⟨(some 222), (.len (.t 221)), (some (219, false))⟩, ⟨(some 223), (.bin .sub (.t 222) (.c (.int .i64 (1)))), (some (219, false))⟩, ⟨(some 224), (.idxA 1 (.t 220) (.t 223)), (some (219, false))⟩, ⟨(some 225), (.ld 1 false (.t 224)), (some (219, false))⟩, ⟨(some 226), (.mv (.t 1)), (some (219, false))⟩, ⟨(some 227), (.bin .neq (.t 225) (.t 226)), (some (219, false))⟩, ⟨(some 228), (.pick (.t 219) (.c (.bool true)) (.t 227)), none⟩]) (.cond (.t 228) (.seq (.reg [⟨(some 6), (.mv (.c (.bool false))), none⟩]) .ret) .skip)) (.seq (.seq (.reg [⟨(some 19), (.mv (.c (.int .i64 (1)))), none⟩]) (.block 0 (.loop (.seq (.seq (.reg [⟨(some 229), (.mv (.t 19)), none⟩, ⟨(some 230), (.mv (.t 9)), none⟩, ⟨(some 231), (.len (.t 230)), none⟩, ⟨(some 232), (.bin .lss (.t 229) (.t 231)), none⟩]) (.cond (.t 232) .skip (.exit 0))) (.seq (.block 1 (.seq (.dreg [(⟨(some 235), (.mv (.t 9)), none⟩, none), (⟨(some 236), (.mv (.t 19)), none⟩, none), (⟨(some 237), (.idxA 1 (.t 235) (.t 236)), none⟩, none), (⟨(some 238), (.ld 1 false (.t 237)), none⟩, none), (⟨(some 239), (.bin .lss (.t 238) (.c (.int .i64 (0)))), none⟩, none), (⟨(some 240), (.mv (.t 239)), none⟩, none), (⟨(some 241), (.mv (.t 9)), (some (240, false))⟩, none), (⟨(some 242), (.mv (.t 19)), (some (240, false))⟩, none), (⟨(some 243), (.idxA 1 (.t 241) (.t 242)), (some (240, false))⟩, none), (⟨(some 244), (.ld 1 false (.t 243)), (some (240, false))⟩, none), (⟨(some 245), (.fldA 0 (.t 3)), (some (240, false))⟩, none), (⟨(some 246), (.ld 1 false (.t 245)), (some (240, false))⟩, none), (⟨(some 247), (.len (.t 246)), (some (240, false))⟩, none), (⟨(some 248), (.bin .geq (.t 244) (.t 247)), (some (240, false))⟩, none), (⟨(some 249), (.pick (.t 240) (.c (.bool true)) (.t 248)), none⟩, none), (⟨(some 250), (.mv (.t 249)), none⟩, none), (⟨(some 251), (.fldA 0 (.t 3)), (some (250, false))⟩, none), (⟨(some 252), (.ld 1 false (.t 251)), (some (250, false))⟩, none), (⟨(some 253), (.mv (.t 9)), (some (250, false))⟩, none), (⟨(some 254), (.mv (.t 19)), (some (250, false))⟩, none), (⟨(some 255), (.idxA 1 (.t 253) (.t 254)), (some (250, false))⟩, none), (⟨(some 256), (.ld 1 false (.t 255)), (some (250, false))⟩, none), (⟨(some 257), (.idxA 6 (.t 252) (.t 256)), (some (250, false))⟩, none), (⟨(some 258), (.fldA 4 (.t 257)), (some (250, false))⟩, none), (⟨(some 259), (.ld 1 false (.t 258)), (some (250, false))⟩, none), (⟨(some 260), (.mv (.t 9)), (some (250, false))⟩, none), (⟨(some 261), (.mv (.t 19)), (some (250, false))⟩, none), (⟨(some 262), (.bin .sub (.t 261) (.c (.int .i64 (1)))), (some (250, false))⟩, none), (⟨(some 263), (.idxA 1 (.t 260) (.t 262)), (some (250, false))⟩, none), (⟨(some 264), (.ld 1 false (.t 263)), (some (250, false))⟩, none), (⟨(some 265), (.bin .neq (.t 259) (.t 264)), (some (250, false))⟩, none), (⟨(some 266), (.pick (.t 250) (.c (.bool true)) (.t 265)), none⟩, none)]) (.cond (.t 266) (.seq (.reg [⟨(some 6), (.mv (.c (.bool false))), none⟩]) .ret) .skip))) (.reg [⟨(some 233), (.mv (.t 19)), none⟩, ⟨(some 234), (.bin .add (.t 233) (.c (.int .i64 (1)))), none⟩, ⟨(some 19), (.mv (.t 234)), none⟩])))))) (.seq (.reg [⟨(some 267), (.pcall 51 []), none⟩, ⟨(some 6), (.mv (.t 267)), none⟩]) .ret)))))))))))))))), [(.tmp 6)]⟩
theorem hc13 : toSF Tryd.prog {pure := [15, 51, 59, 60, 61, 62, 17, 30, 25, 63, 64, 26, 65], how := [(3, 6)]} Tryd.f13 = some c13 := by kernel_rfl
theorem hn13 : (Tryd.f13.name == "runtime.NumGoroutine") = false := by kernel_rfl
set_option maxHeartbeats 4000000 in
theorem domAsks_ok (d : HDoc) (sm : DocSm d) (n : Int) (name : List UInt8) (hnm : name.length ≤ 1073741824) : PCalls (Pg G) 13 [.agg (eDoc d), aInt n, .str name] (.bool true) := fun h => by
  have hF : PCalls (Pg G) 15 [.agg (eDoc d), .int .i64 60] (.agg (eDoc ⟨d.nodes.take 60, d.quirks⟩)) := few_ok (G := G) d 60 sm
  have fs := sm.few 60
  generalize (⟨d.nodes.take 60, d.quirks⟩ : HDoc) = f at *
  have hO := order2_ok (G := G) f fs
  have hP := path2_ok (G := G) f fs n
  have hA := attr2_ok (G := G) f fs n name
  have hT := textOf_ok (G := G) f fs n
  have hD := docErr_ok (G := G) f fs
  have hB := domBegun_ok (G := G)
  have ee : (([] : List UInt8) == []) = true := rfl
  by_cases h0 : docE f = 0
  · have V := docE_DV h0
    have vl := V.len
    have hBe := below_ok (G := G) f V fs 0 V.zero
    have oD : orderD f = below f 0 := by unfold orderD; rw [if_pos h0]
    have bl := below_len V V.zero
    have hS : PCalls (Pg G) 30 [sl eInt (below f 0), sl eInt (below f 0)] (.bool true) := by
      have h := sameN_ok (G := G) (below f 0) (below f 0) (by omega) (by omega)
      rwa [show (below f 0 == below f 0) = true by simp] at h
    rw [oD, h0] at hO
    rw [h0] at hD
    have z0 : ((0 : Int) != 0) = false := rfl
    by_cases hn : inD f n
    · have n0 := hn.1
      have n1 := hn.2
      have e0 : nth f.nodes n.toNat = nd f n := rfl
      have aE : askE f n = 0 := by unfold askE; rw [if_neg (by simpa using h0), if_neg (by simpa using hn)]
      have aT : textOfV f n = textUM f n := by unfold textOfV; rw [aE]; rfl
      have hTU := textUnder_ok (G := G) f V fs n hn
      have hUn : PCalls (Pg G) 26 [.agg (eDoc f), aInt n, .int .i64 0] (.bool (decide (0 ∈ chain f n))) := under_ok (G := G) f V n 0 hn (Int.le_refl 0)
      have hAO := attrOf_ok (G := G) (nd f n).attrs name (fs.nd n).attrs
      have uf := V.fin n hn
      have hDe := deep_ok (G := G) f fs (fun m hm hp => (V.par_in hm hp).1) n hn
      rw [show deepM f n = up f n by unfold deepM; rw [if_neg (by omega)]] at hDe
      rw [aT, aE] at hT
      generalize textUM f n = T at *
      have tt : (T != T) = false := by simp
      generalize hAM : attrOfM (nd f n).attrs name = Q at *
      obtain ⟨Qv, Qb⟩ := Q
      have q1 : (Qv != Qv) = false := by simp
      have q2 : (Qb != Qb) = false := by simp
      have bn0 : decide (n < 0) = false := by simp; omega
      have bn1 : decide ((f.nodes.length : Int) ≤ n) = false := by simp; omega
      unfold eDoc at *
      by_cases hk : (nd f n).kind = 2
      · have bk : ((nd f n).kind != 2) = false := by simpa using hk
        have aA : attrV f n name = (Qv, Qb, 0) := by unfold attrV; rw [aE, if_neg (by simp), if_neg (by simpa using hk), hAM]
        rw [aA] at hA
        by_cases hc : 0 ∈ chain f n
        · have aP : pathV f n = (path f n, 0) := by unfold pathV; rw [aE, if_neg (by simp), if_pos hc]
          rw [aP] at hP
          rw [decide_eq_true hc] at hUn
          have pl := path_len V hn
          have p0 : nth (path f n) 0 = 0 := (chain_rev0 V n hn).2 hc
          have pn : nth (path f n) (up f n) = n := path_mem V hn (chain_self f n)
          have b0 : (nth (path f n) 0 != 0) = false := by rw [p0]; rfl
          have bN : (nth (path f n) (up f n) != n) = false := by rw [pn]; simp
          refine dcalls_of_vc Tryd.func13 hn13 hc13 (by rw [Tryd.ntmps13]; simp) (by rw [Tryd.ntmps13]; decide) ?_
          simp -dsimp -implicitDefEqProofs (disch := omega) only [↓vcOps_sp 52, ↓vcD_sp 52, ↓vcOps_sp 57, ↓vcD_sp 57, ↓vcOps_sp 62, ↓vcD_sp 62, ↓vcOps_sp 67, ↓vcD_sp 67, ↓vcOps_sp 72, ↓vcD_sp 72, ↓vcOps_sp 80, ↓vcD_sp 80, ↓vcOps_sp 84, ↓vcD_sp 84, ↓vcOps_sp 88, ↓vcD_sp 88, ↓vcOps_sp 94, ↓vcD_sp 94, ↓vcOps_sp 103, ↓vcD_sp 103, ↓vcOps_sp 111, ↓vcD_sp 111, ↓vcOps_sp 115, ↓vcD_sp 115, ↓vcOps_sp 119, ↓vcD_sp 119, ↓vcOps_sp 123, ↓vcD_sp 123, ↓vcOps_sp 128, ↓vcD_sp 128, ↓vcOps_sp 132, ↓vcD_sp 132, ↓vcOps_sp 136, ↓vcD_sp 136, ↓vcOps_sp 142, ↓vcD_sp 142, ↓vcOps_sp 158, ↓vcD_sp 158, ↓vcOps_sp 162, ↓vcD_sp 162, ↓vcOps_sp 178, ↓vcD_sp 178, ↓vcOps_sp 183, ↓vcD_sp 183, ↓vcOps_sp 193, ↓vcD_sp 193, ↓vcOps_sp 197, ↓vcD_sp 197, ↓vcOps_sp 204, ↓vcD_sp 204, ↓vcOps_sp 213, ↓vcD_sp 213, ↓vcOps_sp 219, ↓vcD_sp 219, ↓vcOps_sp 240, ↓vcD_sp 240, ↓vcOps_sp 250, ↓vcD_sp 250, VCA, pg_gl, ↓upd_none, Nat.reduceEqDiff, Nat.reduceBEq, Nat.reduceAdd, Nat.reduceSub, Nat.reduceMul, Nat.reduceLT, Nat.reduceLeDiff, ↓reduceIte, reduceCtorEq, rsOf, rootsOf, SOp.rd, SI.rd, SX.rd, rdL, rdO, rdP, okParts, eqCells, okEqCells, fillA, okFill, setAt, implies_true, forall_const, forall_eq, ne_eq, exists_eq_right_right, exists_eq_right, exists_eq_left, exists_eq_left', eInt, eBool, lit_eq, c13, eDoc]
          intro r3 hr3
          repeat' (first | ((with_reducible refine Br.dec (fun _ => ?_) (fun _ => ?_)) <;> try (exfalso; omega)) | ((with_reducible refine Br.eq (fun _ => ?_) (fun _ => ?_)) <;> try (exfalso; omega)) | ((with_reducible refine Br.ne (fun _ => ?_) (fun _ => ?_)) <;> try (exfalso; omega)) | ((with_reducible refine brNdec (fun _ => ?_) (fun _ => ?_)) <;> try (exfalso; omega)) | ((with_reducible refine brNeq (fun _ => ?_) (fun _ => ?_)) <;> try (exfalso; omega)) | with_reducible refine Br.intro (fun _ => ?_) (fun _ => ?_) | (with_reducible apply pcallE.of; · exact hF) | (with_reducible apply pcallE.of; · exact hO) | (with_reducible apply pcallE.of; · exact hP) | (with_reducible apply pcallE.of; · exact hA) | (with_reducible apply pcallE.of; · exact hT) | (with_reducible apply pcallE.of; · exact hD) | (with_reducible apply pcallE.of; · exact hBe) | (with_reducible apply pcallE.of; · exact hS) | (with_reducible apply pcallE.of; · exact hTU) | (with_reducible apply pcallE.of; · exact hAO) | (with_reducible apply pcallE.of; · exact hUn) | (with_reducible apply pcallE.of; · exact hDe) | (with_reducible apply pcallE.of; · exact hB) | (with_reducible refine And.intro ?_ ?_; · omega) | simp -dsimp -implicitDefEqProofs (disch := omega) only [↓vcOps_sp 52, ↓vcD_sp 52, ↓vcOps_sp 57, ↓vcD_sp 57, ↓vcOps_sp 62, ↓vcD_sp 62, ↓vcOps_sp 67, ↓vcD_sp 67, ↓vcOps_sp 72, ↓vcD_sp 72, ↓vcOps_sp 80, ↓vcD_sp 80, ↓vcOps_sp 84, ↓vcD_sp 84, ↓vcOps_sp 88, ↓vcD_sp 88, ↓vcOps_sp 94, ↓vcD_sp 94, ↓vcOps_sp 103, ↓vcD_sp 103, ↓vcOps_sp 111, ↓vcD_sp 111, ↓vcOps_sp 115, ↓vcD_sp 115, ↓vcOps_sp 119, ↓vcD_sp 119, ↓vcOps_sp 123, ↓vcD_sp 123, ↓vcOps_sp 128, ↓vcD_sp 128, ↓vcOps_sp 132, ↓vcD_sp 132, ↓vcOps_sp 136, ↓vcD_sp 136, ↓vcOps_sp 142, ↓vcD_sp 142, ↓vcOps_sp 158, ↓vcD_sp 158, ↓vcOps_sp 162, ↓vcD_sp 162, ↓vcOps_sp 178, ↓vcD_sp 178, ↓vcOps_sp 183, ↓vcD_sp 183, ↓vcOps_sp 193, ↓vcD_sp 193, ↓vcOps_sp 197, ↓vcD_sp 197, ↓vcOps_sp 204, ↓vcD_sp 204, ↓vcOps_sp 213, ↓vcD_sp 213, ↓vcOps_sp 219, ↓vcD_sp 219, ↓vcOps_sp 240, ↓vcD_sp 240, ↓vcOps_sp 250, ↓vcD_sp 250, VCA, pg_gl, ↓upd_none, Nat.reduceEqDiff, Nat.reduceBEq, Nat.reduceAdd, Nat.reduceSub, Nat.reduceMul, Nat.reduceLT, Nat.reduceLeDiff, ↓reduceIte, reduceCtorEq, rsOf, rootsOf, SOp.rd, SI.rd, SX.rd, rdL, rdO, rdP, okParts, eqCells, okEqCells, fillA, okFill, setAt, implies_true, forall_const, forall_eq, ne_eq, exists_eq_right_right, exists_eq_right, exists_eq_left, exists_eq_left', eInt, eBool, lit_eq, upd_same, eDoc, eNode, e0, z0, ee, tt, q1, q2, bn0, bn1, bk, pl, b0, bN])
          all_goals try (rename_i q; exact absurd rfl q)
          refine LoopVC.intro (fun m e h' => ∃ k : Nat, 1 ≤ k ∧ k ≤ up f n + 1 ∧ m = up f n + 1 - k ∧ e 3 = .vp r3 0 ∧ e 9 = sl eInt (path f n) ∧ e 19 = aInt k ∧ h' r3 = some ⟨24, 2, [[sl eNode f.nodes, .bool f.quirks]]⟩ ∧ Sub h h') (up f n) ⟨1, by omega, by omega, by omega, rfl, rfl, rfl, upd_same _ _ _, (Sub.refl h).upd hr3⟩ ?_
          rintro m e h' ⟨k, k1, hk, rfl, e3, e9, e19, g3, S⟩
          simp -dsimp -implicitDefEqProofs (disch := omega) only [↓vcOps_sp 52, ↓vcD_sp 52, ↓vcOps_sp 57, ↓vcD_sp 57, ↓vcOps_sp 62, ↓vcD_sp 62, ↓vcOps_sp 67, ↓vcD_sp 67, ↓vcOps_sp 72, ↓vcD_sp 72, ↓vcOps_sp 80, ↓vcD_sp 80, ↓vcOps_sp 84, ↓vcD_sp 84, ↓vcOps_sp 88, ↓vcD_sp 88, ↓vcOps_sp 94, ↓vcD_sp 94, ↓vcOps_sp 103, ↓vcD_sp 103, ↓vcOps_sp 111, ↓vcD_sp 111, ↓vcOps_sp 115, ↓vcD_sp 115, ↓vcOps_sp 119, ↓vcD_sp 119, ↓vcOps_sp 123, ↓vcD_sp 123, ↓vcOps_sp 128, ↓vcD_sp 128, ↓vcOps_sp 132, ↓vcD_sp 132, ↓vcOps_sp 136, ↓vcD_sp 136, ↓vcOps_sp 142, ↓vcD_sp 142, ↓vcOps_sp 158, ↓vcD_sp 158, ↓vcOps_sp 162, ↓vcD_sp 162, ↓vcOps_sp 178, ↓vcD_sp 178, ↓vcOps_sp 183, ↓vcD_sp 183, ↓vcOps_sp 193, ↓vcD_sp 193, ↓vcOps_sp 197, ↓vcD_sp 197, ↓vcOps_sp 204, ↓vcD_sp 204, ↓vcOps_sp 213, ↓vcD_sp 213, ↓vcOps_sp 219, ↓vcD_sp 219, ↓vcOps_sp 240, ↓vcD_sp 240, ↓vcOps_sp 250, ↓vcD_sp 250, VCA, pg_gl, ↓upd_none, Nat.reduceEqDiff, Nat.reduceBEq, Nat.reduceAdd, Nat.reduceSub, Nat.reduceMul, Nat.reduceLT, Nat.reduceLeDiff, ↓reduceIte, reduceCtorEq, rsOf, rootsOf, SOp.rd, SI.rd, SX.rd, rdL, rdO, rdP, okParts, eqCells, okEqCells, fillA, okFill, setAt, implies_true, forall_const, forall_eq, ne_eq, exists_eq_right_right, exists_eq_right, exists_eq_left, exists_eq_left', eInt, eBool, lit_eq, e3, e9, e19, g3, pl]
          refine Br.dec (fun hlt => ?_) (fun hge => ?_)
          · have hk' : k ≤ up f n := by omega
            have pp := path_par V hn k1 hk'
            have pc := chain_in V n hn _ (path_at V n hn k hk').1
            obtain ⟨x, hxx⟩ : ∃ x, nth (path f n) k = x := ⟨_, rfl⟩
            rw [hxx] at pp pc
            have x0 := pc.1
            have x1 := pc.2
            have ex : nth f.nodes x.toNat = nd f x := rfl
            have bx0 : decide (x < 0) = false := by simp; omega
            have bx1 : decide ((f.nodes.length : Int) ≤ x) = false := by simp; omega
            have bx2 : ((nd f x).parent != nth (path f n) (k - 1)) = false := by rw [pp]; simp
            have kk : ((k : Int) - 1).toNat = k - 1 := by omega
            simp -dsimp -implicitDefEqProofs (disch := omega) only [↓vcOps_sp 52, ↓vcD_sp 52, ↓vcOps_sp 57, ↓vcD_sp 57, ↓vcOps_sp 62, ↓vcD_sp 62, ↓vcOps_sp 67, ↓vcD_sp 67, ↓vcOps_sp 72, ↓vcD_sp 72, ↓vcOps_sp 80, ↓vcD_sp 80, ↓vcOps_sp 84, ↓vcD_sp 84, ↓vcOps_sp 88, ↓vcD_sp 88, ↓vcOps_sp 94, ↓vcD_sp 94, ↓vcOps_sp 103, ↓vcD_sp 103, ↓vcOps_sp 111, ↓vcD_sp 111, ↓vcOps_sp 115, ↓vcD_sp 115, ↓vcOps_sp 119, ↓vcD_sp 119, ↓vcOps_sp 123, ↓vcD_sp 123, ↓vcOps_sp 128, ↓vcD_sp 128, ↓vcOps_sp 132, ↓vcD_sp 132, ↓vcOps_sp 136, ↓vcD_sp 136, ↓vcOps_sp 142, ↓vcD_sp 142, ↓vcOps_sp 158, ↓vcD_sp 158, ↓vcOps_sp 162, ↓vcD_sp 162, ↓vcOps_sp 178, ↓vcD_sp 178, ↓vcOps_sp 183, ↓vcD_sp 183, ↓vcOps_sp 193, ↓vcD_sp 193, ↓vcOps_sp 197, ↓vcD_sp 197, ↓vcOps_sp 204, ↓vcD_sp 204, ↓vcOps_sp 213, ↓vcD_sp 213, ↓vcOps_sp 219, ↓vcD_sp 219, ↓vcOps_sp 240, ↓vcD_sp 240, ↓vcOps_sp 250, ↓vcD_sp 250, VCA, pg_gl, ↓upd_none, Nat.reduceEqDiff, Nat.reduceBEq, Nat.reduceAdd, Nat.reduceSub, Nat.reduceMul, Nat.reduceLT, Nat.reduceLeDiff, ↓reduceIte, reduceCtorEq, rsOf, rootsOf, SOp.rd, SI.rd, SX.rd, rdL, rdO, rdP, okParts, eqCells, okEqCells, fillA, okFill, setAt, implies_true, forall_const, forall_eq, ne_eq, exists_eq_right_right, exists_eq_right, exists_eq_left, exists_eq_left', eInt, eBool, lit_eq, e3, e9, e19, g3, pl, eDoc, eNode, hxx, ex, bx0, bx1, bx2, kk]
            exact ⟨by omega, by omega, by omega, by omega, by omega, _, by omega, k + 1, by omega, by omega, rfl, by omega, S⟩
          · simp -dsimp -implicitDefEqProofs (disch := omega) only [↓vcOps_sp 52, ↓vcD_sp 52, ↓vcOps_sp 57, ↓vcD_sp 57, ↓vcOps_sp 62, ↓vcD_sp 62, ↓vcOps_sp 67, ↓vcD_sp 67, ↓vcOps_sp 72, ↓vcD_sp 72, ↓vcOps_sp 80, ↓vcD_sp 80, ↓vcOps_sp 84, ↓vcD_sp 84, ↓vcOps_sp 88, ↓vcD_sp 88, ↓vcOps_sp 94, ↓vcD_sp 94, ↓vcOps_sp 103, ↓vcD_sp 103, ↓vcOps_sp 111, ↓vcD_sp 111, ↓vcOps_sp 115, ↓vcD_sp 115, ↓vcOps_sp 119, ↓vcD_sp 119, ↓vcOps_sp 123, ↓vcD_sp 123, ↓vcOps_sp 128, ↓vcD_sp 128, ↓vcOps_sp 132, ↓vcD_sp 132, ↓vcOps_sp 136, ↓vcD_sp 136, ↓vcOps_sp 142, ↓vcD_sp 142, ↓vcOps_sp 158, ↓vcD_sp 158, ↓vcOps_sp 162, ↓vcD_sp 162, ↓vcOps_sp 178, ↓vcD_sp 178, ↓vcOps_sp 183, ↓vcD_sp 183, ↓vcOps_sp 193, ↓vcD_sp 193, ↓vcOps_sp 197, ↓vcD_sp 197, ↓vcOps_sp 204, ↓vcD_sp 204, ↓vcOps_sp 213, ↓vcD_sp 213, ↓vcOps_sp 219, ↓vcD_sp 219, ↓vcOps_sp 240, ↓vcD_sp 240, ↓vcOps_sp 250, ↓vcD_sp 250, VCA, pg_gl, ↓upd_none, Nat.reduceEqDiff, Nat.reduceBEq, Nat.reduceAdd, Nat.reduceSub, Nat.reduceMul, Nat.reduceLT, Nat.reduceLeDiff, ↓reduceIte, reduceCtorEq, rsOf, rootsOf, SOp.rd, SI.rd, SX.rd, rdL, rdO, rdP, okParts, eqCells, okEqCells, fillA, okFill, setAt, implies_true, forall_const, forall_eq, ne_eq, exists_eq_right_right, exists_eq_right, exists_eq_left, exists_eq_left', eInt, eBool, lit_eq, e3, e9, e19, g3, pl]
            repeat' (first | ((with_reducible refine Br.dec (fun _ => ?_) (fun _ => ?_)) <;> try (exfalso; omega)) | ((with_reducible refine Br.eq (fun _ => ?_) (fun _ => ?_)) <;> try (exfalso; omega)) | ((with_reducible refine Br.ne (fun _ => ?_) (fun _ => ?_)) <;> try (exfalso; omega)) | ((with_reducible refine brNdec (fun _ => ?_) (fun _ => ?_)) <;> try (exfalso; omega)) | ((with_reducible refine brNeq (fun _ => ?_) (fun _ => ?_)) <;> try (exfalso; omega)) | with_reducible refine Br.intro (fun _ => ?_) (fun _ => ?_) | (with_reducible apply pcallE.of; · exact hB) | (with_reducible refine And.intro ?_ ?_; · omega) | simp -dsimp -implicitDefEqProofs (disch := omega) only [↓vcOps_sp 52, ↓vcD_sp 52, ↓vcOps_sp 57, ↓vcD_sp 57, ↓vcOps_sp 62, ↓vcD_sp 62, ↓vcOps_sp 67, ↓vcD_sp 67, ↓vcOps_sp 72, ↓vcD_sp 72, ↓vcOps_sp 80, ↓vcD_sp 80, ↓vcOps_sp 84, ↓vcD_sp 84, ↓vcOps_sp 88, ↓vcD_sp 88, ↓vcOps_sp 94, ↓vcD_sp 94, ↓vcOps_sp 103, ↓vcD_sp 103, ↓vcOps_sp 111, ↓vcD_sp 111, ↓vcOps_sp 115, ↓vcD_sp 115, ↓vcOps_sp 119, ↓vcD_sp 119, ↓vcOps_sp 123, ↓vcD_sp 123, ↓vcOps_sp 128, ↓vcD_sp 128, ↓vcOps_sp 132, ↓vcD_sp 132, ↓vcOps_sp 136, ↓vcD_sp 136, ↓vcOps_sp 142, ↓vcD_sp 142, ↓vcOps_sp 158, ↓vcD_sp 158, ↓vcOps_sp 162, ↓vcD_sp 162, ↓vcOps_sp 178, ↓vcD_sp 178, ↓vcOps_sp 183, ↓vcD_sp 183, ↓vcOps_sp 193, ↓vcD_sp 193, ↓vcOps_sp 197, ↓vcD_sp 197, ↓vcOps_sp 204, ↓vcD_sp 204, ↓vcOps_sp 213, ↓vcD_sp 213, ↓vcOps_sp 219, ↓vcD_sp 219, ↓vcOps_sp 240, ↓vcD_sp 240, ↓vcOps_sp 250, ↓vcD_sp 250, VCA, pg_gl, ↓upd_none, Nat.reduceEqDiff, Nat.reduceBEq, Nat.reduceAdd, Nat.reduceSub, Nat.reduceMul, Nat.reduceLT, Nat.reduceLeDiff, ↓reduceIte, reduceCtorEq, rsOf, rootsOf, SOp.rd, SI.rd, SX.rd, rdL, rdO, rdP, okParts, eqCells, okEqCells, fillA, okFill, setAt, implies_true, forall_const, forall_eq, ne_eq, exists_eq_right_right, exists_eq_right, exists_eq_left, exists_eq_left', eInt, eBool, lit_eq, e3, e9, e19, g3, pl])
            exact S
        · have aP : pathV f n = ([], 5) := by unfold pathV; rw [aE, if_neg (by simp), if_neg hc]
          rw [aP] at hP
          rw [decide_eq_false hc] at hUn
          have z5 : ((5 : Int) == 5) = true := rfl
          refine dcalls_of_vc Tryd.func13 hn13 hc13 (by rw [Tryd.ntmps13]; simp) (by rw [Tryd.ntmps13]; decide) ?_
          simp -dsimp -implicitDefEqProofs (disch := omega) only [↓vcOps_sp 52, ↓vcD_sp 52, ↓vcOps_sp 57, ↓vcD_sp 57, ↓vcOps_sp 62, ↓vcD_sp 62, ↓vcOps_sp 67, ↓vcD_sp 67, ↓vcOps_sp 72, ↓vcD_sp 72, ↓vcOps_sp 80, ↓vcD_sp 80, ↓vcOps_sp 84, ↓vcD_sp 84, ↓vcOps_sp 88, ↓vcD_sp 88, ↓vcOps_sp 94, ↓vcD_sp 94, ↓vcOps_sp 103, ↓vcD_sp 103, ↓vcOps_sp 111, ↓vcD_sp 111, ↓vcOps_sp 115, ↓vcD_sp 115, ↓vcOps_sp 119, ↓vcD_sp 119, ↓vcOps_sp 123, ↓vcD_sp 123, ↓vcOps_sp 128, ↓vcD_sp 128, ↓vcOps_sp 132, ↓vcD_sp 132, ↓vcOps_sp 136, ↓vcD_sp 136, ↓vcOps_sp 142, ↓vcD_sp 142, ↓vcOps_sp 158, ↓vcD_sp 158, ↓vcOps_sp 162, ↓vcD_sp 162, ↓vcOps_sp 178, ↓vcD_sp 178, ↓vcOps_sp 183, ↓vcD_sp 183, ↓vcOps_sp 193, ↓vcD_sp 193, ↓vcOps_sp 197, ↓vcD_sp 197, ↓vcOps_sp 204, ↓vcD_sp 204, ↓vcOps_sp 213, ↓vcD_sp 213, ↓vcOps_sp 219, ↓vcD_sp 219, ↓vcOps_sp 240, ↓vcD_sp 240, ↓vcOps_sp 250, ↓vcD_sp 250, VCA, pg_gl, ↓upd_none, Nat.reduceEqDiff, Nat.reduceBEq, Nat.reduceAdd, Nat.reduceSub, Nat.reduceMul, Nat.reduceLT, Nat.reduceLeDiff, ↓reduceIte, reduceCtorEq, rsOf, rootsOf, SOp.rd, SI.rd, SX.rd, rdL, rdO, rdP, okParts, eqCells, okEqCells, fillA, okFill, setAt, implies_true, forall_const, forall_eq, ne_eq, exists_eq_right_right, exists_eq_right, exists_eq_left, exists_eq_left', eInt, eBool, lit_eq, c13, eDoc]
          intro r3 hr3
          repeat' (first | ((with_reducible refine Br.dec (fun _ => ?_) (fun _ => ?_)) <;> try (exfalso; omega)) | ((with_reducible refine Br.eq (fun _ => ?_) (fun _ => ?_)) <;> try (exfalso; omega)) | ((with_reducible refine Br.ne (fun _ => ?_) (fun _ => ?_)) <;> try (exfalso; omega)) | ((with_reducible refine brNdec (fun _ => ?_) (fun _ => ?_)) <;> try (exfalso; omega)) | ((with_reducible refine brNeq (fun _ => ?_) (fun _ => ?_)) <;> try (exfalso; omega)) | with_reducible refine Br.intro (fun _ => ?_) (fun _ => ?_) | (with_reducible apply pcallE.of; · exact hF) | (with_reducible apply pcallE.of; · exact hO) | (with_reducible apply pcallE.of; · exact hP) | (with_reducible apply pcallE.of; · exact hA) | (with_reducible apply pcallE.of; · exact hT) | (with_reducible apply pcallE.of; · exact hD) | (with_reducible apply pcallE.of; · exact hBe) | (with_reducible apply pcallE.of; · exact hS) | (with_reducible apply pcallE.of; · exact hTU) | (with_reducible apply pcallE.of; · exact hAO) | (with_reducible apply pcallE.of; · exact hUn) | (with_reducible apply pcallE.of; · exact hB) | (with_reducible refine And.intro ?_ ?_; · omega) | simp -dsimp -implicitDefEqProofs (disch := omega) only [↓vcOps_sp 52, ↓vcD_sp 52, ↓vcOps_sp 57, ↓vcD_sp 57, ↓vcOps_sp 62, ↓vcD_sp 62, ↓vcOps_sp 67, ↓vcD_sp 67, ↓vcOps_sp 72, ↓vcD_sp 72, ↓vcOps_sp 80, ↓vcD_sp 80, ↓vcOps_sp 84, ↓vcD_sp 84, ↓vcOps_sp 88, ↓vcD_sp 88, ↓vcOps_sp 94, ↓vcD_sp 94, ↓vcOps_sp 103, ↓vcD_sp 103, ↓vcOps_sp 111, ↓vcD_sp 111, ↓vcOps_sp 115, ↓vcD_sp 115, ↓vcOps_sp 119, ↓vcD_sp 119, ↓vcOps_sp 123, ↓vcD_sp 123, ↓vcOps_sp 128, ↓vcD_sp 128, ↓vcOps_sp 132, ↓vcD_sp 132, ↓vcOps_sp 136, ↓vcD_sp 136, ↓vcOps_sp 142, ↓vcD_sp 142, ↓vcOps_sp 158, ↓vcD_sp 158, ↓vcOps_sp 162, ↓vcD_sp 162, ↓vcOps_sp 178, ↓vcD_sp 178, ↓vcOps_sp 183, ↓vcD_sp 183, ↓vcOps_sp 193, ↓vcD_sp 193, ↓vcOps_sp 197, ↓vcD_sp 197, ↓vcOps_sp 204, ↓vcD_sp 204, ↓vcOps_sp 213, ↓vcD_sp 213, ↓vcOps_sp 219, ↓vcD_sp 219, ↓vcOps_sp 240, ↓vcD_sp 240, ↓vcOps_sp 250, ↓vcD_sp 250, VCA, pg_gl, ↓upd_none, Nat.reduceEqDiff, Nat.reduceBEq, Nat.reduceAdd, Nat.reduceSub, Nat.reduceMul, Nat.reduceLT, Nat.reduceLeDiff, ↓reduceIte, reduceCtorEq, rsOf, rootsOf, SOp.rd, SI.rd, SX.rd, rdL, rdO, rdP, okParts, eqCells, okEqCells, fillA, okFill, setAt, implies_true, forall_const, forall_eq, ne_eq, exists_eq_right_right, exists_eq_right, exists_eq_left, exists_eq_left', eInt, eBool, lit_eq, upd_same, eDoc, eNode, e0, z0, z5, ee, tt, q1, q2, bn0, bn1, bk])
          all_goals first | exact ⟨(Sub.refl h).upd hr3, rfl⟩ | exact (Sub.refl h).upd hr3 | (rename_i q; exact absurd rfl q) | trace_state
      · have bk : ((nd f n).kind != 2) = true := by simpa using hk
        have aA : attrV f n name = ([], false, 7) := by unfold attrV; rw [aE, if_neg (by simp), if_pos hk]
        have z7 : ((7 : Int) != 7) = false := rfl
        have es : (([] : List UInt8) != []) = false := rfl
        rw [aA] at hA
        by_cases hc : 0 ∈ chain f n
        · have aP : pathV f n = (path f n, 0) := by unfold pathV; rw [aE, if_neg (by simp), if_pos hc]
          rw [aP] at hP
          rw [decide_eq_true hc] at hUn
          have pl := path_len V hn
          have p0 : nth (path f n) 0 = 0 := (chain_rev0 V n hn).2 hc
          have pn : nth (path f n) (up f n) = n := path_mem V hn (chain_self f n)
          have b0 : (nth (path f n) 0 != 0) = false := by rw [p0]; rfl
          have bN : (nth (path f n) (up f n) != n) = false := by rw [pn]; simp
          refine dcalls_of_vc Tryd.func13 hn13 hc13 (by rw [Tryd.ntmps13]; simp) (by rw [Tryd.ntmps13]; decide) ?_
          simp -dsimp -implicitDefEqProofs (disch := omega) only [↓vcOps_sp 52, ↓vcD_sp 52, ↓vcOps_sp 57, ↓vcD_sp 57, ↓vcOps_sp 62, ↓vcD_sp 62, ↓vcOps_sp 67, ↓vcD_sp 67, ↓vcOps_sp 72, ↓vcD_sp 72, ↓vcOps_sp 80, ↓vcD_sp 80, ↓vcOps_sp 84, ↓vcD_sp 84, ↓vcOps_sp 88, ↓vcD_sp 88, ↓vcOps_sp 94, ↓vcD_sp 94, ↓vcOps_sp 103, ↓vcD_sp 103, ↓vcOps_sp 111, ↓vcD_sp 111, ↓vcOps_sp 115, ↓vcD_sp 115, ↓vcOps_sp 119, ↓vcD_sp 119, ↓vcOps_sp 123, ↓vcD_sp 123, ↓vcOps_sp 128, ↓vcD_sp 128, ↓vcOps_sp 132, ↓vcD_sp 132, ↓vcOps_sp 136, ↓vcD_sp 136, ↓vcOps_sp 142, ↓vcD_sp 142, ↓vcOps_sp 158, ↓vcD_sp 158, ↓vcOps_sp 162, ↓vcD_sp 162, ↓vcOps_sp 178, ↓vcD_sp 178, ↓vcOps_sp 183, ↓vcD_sp 183, ↓vcOps_sp 193, ↓vcD_sp 193, ↓vcOps_sp 197, ↓vcD_sp 197, ↓vcOps_sp 204, ↓vcD_sp 204, ↓vcOps_sp 213, ↓vcD_sp 213, ↓vcOps_sp 219, ↓vcD_sp 219, ↓vcOps_sp 240, ↓vcD_sp 240, ↓vcOps_sp 250, ↓vcD_sp 250, VCA, pg_gl, ↓upd_none, Nat.reduceEqDiff, Nat.reduceBEq, Nat.reduceAdd, Nat.reduceSub, Nat.reduceMul, Nat.reduceLT, Nat.reduceLeDiff, ↓reduceIte, reduceCtorEq, rsOf, rootsOf, SOp.rd, SI.rd, SX.rd, rdL, rdO, rdP, okParts, eqCells, okEqCells, fillA, okFill, setAt, implies_true, forall_const, forall_eq, ne_eq, exists_eq_right_right, exists_eq_right, exists_eq_left, exists_eq_left', eInt, eBool, lit_eq, c13, eDoc]
          intro r3 hr3
          repeat' (first | ((with_reducible refine Br.dec (fun _ => ?_) (fun _ => ?_)) <;> try (exfalso; omega)) | ((with_reducible refine Br.eq (fun _ => ?_) (fun _ => ?_)) <;> try (exfalso; omega)) | ((with_reducible refine Br.ne (fun _ => ?_) (fun _ => ?_)) <;> try (exfalso; omega)) | ((with_reducible refine brNdec (fun _ => ?_) (fun _ => ?_)) <;> try (exfalso; omega)) | ((with_reducible refine brNeq (fun _ => ?_) (fun _ => ?_)) <;> try (exfalso; omega)) | with_reducible refine Br.intro (fun _ => ?_) (fun _ => ?_) | (with_reducible apply pcallE.of; · exact hF) | (with_reducible apply pcallE.of; · exact hO) | (with_reducible apply pcallE.of; · exact hP) | (with_reducible apply pcallE.of; · exact hA) | (with_reducible apply pcallE.of; · exact hT) | (with_reducible apply pcallE.of; · exact hD) | (with_reducible apply pcallE.of; · exact hBe) | (with_reducible apply pcallE.of; · exact hS) | (with_reducible apply pcallE.of; · exact hTU) | (with_reducible apply pcallE.of; · exact hUn) | (with_reducible apply pcallE.of; · exact hDe) | (with_reducible apply pcallE.of; · exact hB) | (with_reducible refine And.intro ?_ ?_; · omega) | simp -dsimp -implicitDefEqProofs (disch := omega) only [↓vcOps_sp 52, ↓vcD_sp 52, ↓vcOps_sp 57, ↓vcD_sp 57, ↓vcOps_sp 62, ↓vcD_sp 62, ↓vcOps_sp 67, ↓vcD_sp 67, ↓vcOps_sp 72, ↓vcD_sp 72, ↓vcOps_sp 80, ↓vcD_sp 80, ↓vcOps_sp 84, ↓vcD_sp 84, ↓vcOps_sp 88, ↓vcD_sp 88, ↓vcOps_sp 94, ↓vcD_sp 94, ↓vcOps_sp 103, ↓vcD_sp 103, ↓vcOps_sp 111, ↓vcD_sp 111, ↓vcOps_sp 115, ↓vcD_sp 115, ↓vcOps_sp 119, ↓vcD_sp 119, ↓vcOps_sp 123, ↓vcD_sp 123, ↓vcOps_sp 128, ↓vcD_sp 128, ↓vcOps_sp 132, ↓vcD_sp 132, ↓vcOps_sp 136, ↓vcD_sp 136, ↓vcOps_sp 142, ↓vcD_sp 142, ↓vcOps_sp 158, ↓vcD_sp 158, ↓vcOps_sp 162, ↓vcD_sp 162, ↓vcOps_sp 178, ↓vcD_sp 178, ↓vcOps_sp 183, ↓vcD_sp 183, ↓vcOps_sp 193, ↓vcD_sp 193, ↓vcOps_sp 197, ↓vcD_sp 197, ↓vcOps_sp 204, ↓vcD_sp 204, ↓vcOps_sp 213, ↓vcD_sp 213, ↓vcOps_sp 219, ↓vcD_sp 219, ↓vcOps_sp 240, ↓vcD_sp 240, ↓vcOps_sp 250, ↓vcD_sp 250, VCA, pg_gl, ↓upd_none, Nat.reduceEqDiff, Nat.reduceBEq, Nat.reduceAdd, Nat.reduceSub, Nat.reduceMul, Nat.reduceLT, Nat.reduceLeDiff, ↓reduceIte, reduceCtorEq, rsOf, rootsOf, SOp.rd, SI.rd, SX.rd, rdL, rdO, rdP, okParts, eqCells, okEqCells, fillA, okFill, setAt, implies_true, forall_const, forall_eq, ne_eq, exists_eq_right_right, exists_eq_right, exists_eq_left, exists_eq_left', eInt, eBool, lit_eq, upd_same, eDoc, eNode, e0, z0, ee, tt, q1, q2, bn0, bn1, bk, z7, es, pl, b0, bN])
          all_goals try (rename_i q; exact absurd rfl q)
          refine LoopVC.intro (fun m e h' => ∃ k : Nat, 1 ≤ k ∧ k ≤ up f n + 1 ∧ m = up f n + 1 - k ∧ e 3 = .vp r3 0 ∧ e 9 = sl eInt (path f n) ∧ e 19 = aInt k ∧ h' r3 = some ⟨24, 2, [[sl eNode f.nodes, .bool f.quirks]]⟩ ∧ Sub h h') (up f n) ⟨1, by omega, by omega, by omega, rfl, rfl, rfl, upd_same _ _ _, (Sub.refl h).upd hr3⟩ ?_
          rintro m e h' ⟨k, k1, hk, rfl, e3, e9, e19, g3, S⟩
          simp -dsimp -implicitDefEqProofs (disch := omega) only [↓vcOps_sp 52, ↓vcD_sp 52, ↓vcOps_sp 57, ↓vcD_sp 57, ↓vcOps_sp 62, ↓vcD_sp 62, ↓vcOps_sp 67, ↓vcD_sp 67, ↓vcOps_sp 72, ↓vcD_sp 72, ↓vcOps_sp 80, ↓vcD_sp 80, ↓vcOps_sp 84, ↓vcD_sp 84, ↓vcOps_sp 88, ↓vcD_sp 88, ↓vcOps_sp 94, ↓vcD_sp 94, ↓vcOps_sp 103, ↓vcD_sp 103, ↓vcOps_sp 111, ↓vcD_sp 111, ↓vcOps_sp 115, ↓vcD_sp 115, ↓vcOps_sp 119, ↓vcD_sp 119, ↓vcOps_sp 123, ↓vcD_sp 123, ↓vcOps_sp 128, ↓vcD_sp 128, ↓vcOps_sp 132, ↓vcD_sp 132, ↓vcOps_sp 136, ↓vcD_sp 136, ↓vcOps_sp 142, ↓vcD_sp 142, ↓vcOps_sp 158, ↓vcD_sp 158, ↓vcOps_sp 162, ↓vcD_sp 162, ↓vcOps_sp 178, ↓vcD_sp 178, ↓vcOps_sp 183, ↓vcD_sp 183, ↓vcOps_sp 193, ↓vcD_sp 193, ↓vcOps_sp 197, ↓vcD_sp 197, ↓vcOps_sp 204, ↓vcD_sp 204, ↓vcOps_sp 213, ↓vcD_sp 213, ↓vcOps_sp 219, ↓vcD_sp 219, ↓vcOps_sp 240, ↓vcD_sp 240, ↓vcOps_sp 250, ↓vcD_sp 250, VCA, pg_gl, ↓upd_none, Nat.reduceEqDiff, Nat.reduceBEq, Nat.reduceAdd, Nat.reduceSub, Nat.reduceMul, Nat.reduceLT, Nat.reduceLeDiff, ↓reduceIte, reduceCtorEq, rsOf, rootsOf, SOp.rd, SI.rd, SX.rd, rdL, rdO, rdP, okParts, eqCells, okEqCells, fillA, okFill, setAt, implies_true, forall_const, forall_eq, ne_eq, exists_eq_right_right, exists_eq_right, exists_eq_left, exists_eq_left', eInt, eBool, lit_eq, e3, e9, e19, g3, pl]
          refine Br.dec (fun hlt => ?_) (fun hge => ?_)
          · have hk' : k ≤ up f n := by omega
            have pp := path_par V hn k1 hk'
            have pc := chain_in V n hn _ (path_at V n hn k hk').1
            obtain ⟨x, hxx⟩ : ∃ x, nth (path f n) k = x := ⟨_, rfl⟩
            rw [hxx] at pp pc
            have x0 := pc.1
            have x1 := pc.2
            have ex : nth f.nodes x.toNat = nd f x := rfl
            have bx0 : decide (x < 0) = false := by simp; omega
            have bx1 : decide ((f.nodes.length : Int) ≤ x) = false := by simp; omega
            have bx2 : ((nd f x).parent != nth (path f n) (k - 1)) = false := by rw [pp]; simp
            have kk : ((k : Int) - 1).toNat = k - 1 := by omega
            simp -dsimp -implicitDefEqProofs (disch := omega) only [↓vcOps_sp 52, ↓vcD_sp 52, ↓vcOps_sp 57, ↓vcD_sp 57, ↓vcOps_sp 62, ↓vcD_sp 62, ↓vcOps_sp 67, ↓vcD_sp 67, ↓vcOps_sp 72, ↓vcD_sp 72, ↓vcOps_sp 80, ↓vcD_sp 80, ↓vcOps_sp 84, ↓vcD_sp 84, ↓vcOps_sp 88, ↓vcD_sp 88, ↓vcOps_sp 94, ↓vcD_sp 94, ↓vcOps_sp 103, ↓vcD_sp 103, ↓vcOps_sp 111, ↓vcD_sp 111, ↓vcOps_sp 115, ↓vcD_sp 115, ↓vcOps_sp 119, ↓vcD_sp 119, ↓vcOps_sp 123, ↓vcD_sp 123, ↓vcOps_sp 128, ↓vcD_sp 128, ↓vcOps_sp 132, ↓vcD_sp 132, ↓vcOps_sp 136, ↓vcD_sp 136, ↓vcOps_sp 142, ↓vcD_sp 142, ↓vcOps_sp 158, ↓vcD_sp 158, ↓vcOps_sp 162, ↓vcD_sp 162, ↓vcOps_sp 178, ↓vcD_sp 178, ↓vcOps_sp 183, ↓vcD_sp 183, ↓vcOps_sp 193, ↓vcD_sp 193, ↓vcOps_sp 197, ↓vcD_sp 197, ↓vcOps_sp 204, ↓vcD_sp 204, ↓vcOps_sp 213, ↓vcD_sp 213, ↓vcOps_sp 219, ↓vcD_sp 219, ↓vcOps_sp 240, ↓vcD_sp 240, ↓vcOps_sp 250, ↓vcD_sp 250, VCA, pg_gl, ↓upd_none, Nat.reduceEqDiff, Nat.reduceBEq, Nat.reduceAdd, Nat.reduceSub, Nat.reduceMul, Nat.reduceLT, Nat.reduceLeDiff, ↓reduceIte, reduceCtorEq, rsOf, rootsOf, SOp.rd, SI.rd, SX.rd, rdL, rdO, rdP, okParts, eqCells, okEqCells, fillA, okFill, setAt, implies_true, forall_const, forall_eq, ne_eq, exists_eq_right_right, exists_eq_right, exists_eq_left, exists_eq_left', eInt, eBool, lit_eq, e3, e9, e19, g3, pl, eDoc, eNode, hxx, ex, bx0, bx1, bx2, kk]
            exact ⟨by omega, by omega, by omega, by omega, by omega, _, by omega, k + 1, by omega, by omega, rfl, by omega, S⟩
          · simp -dsimp -implicitDefEqProofs (disch := omega) only [↓vcOps_sp 52, ↓vcD_sp 52, ↓vcOps_sp 57, ↓vcD_sp 57, ↓vcOps_sp 62, ↓vcD_sp 62, ↓vcOps_sp 67, ↓vcD_sp 67, ↓vcOps_sp 72, ↓vcD_sp 72, ↓vcOps_sp 80, ↓vcD_sp 80, ↓vcOps_sp 84, ↓vcD_sp 84, ↓vcOps_sp 88, ↓vcD_sp 88, ↓vcOps_sp 94, ↓vcD_sp 94, ↓vcOps_sp 103, ↓vcD_sp 103, ↓vcOps_sp 111, ↓vcD_sp 111, ↓vcOps_sp 115, ↓vcD_sp 115, ↓vcOps_sp 119, ↓vcD_sp 119, ↓vcOps_sp 123, ↓vcD_sp 123, ↓vcOps_sp 128, ↓vcD_sp 128, ↓vcOps_sp 132, ↓vcD_sp 132, ↓vcOps_sp 136, ↓vcD_sp 136, ↓vcOps_sp 142, ↓vcD_sp 142, ↓vcOps_sp 158, ↓vcD_sp 158, ↓vcOps_sp 162, ↓vcD_sp 162, ↓vcOps_sp 178, ↓vcD_sp 178, ↓vcOps_sp 183, ↓vcD_sp 183, ↓vcOps_sp 193, ↓vcD_sp 193, ↓vcOps_sp 197, ↓vcD_sp 197, ↓vcOps_sp 204, ↓vcD_sp 204, ↓vcOps_sp 213, ↓vcD_sp 213, ↓vcOps_sp 219, ↓vcD_sp 219, ↓vcOps_sp 240, ↓vcD_sp 240, ↓vcOps_sp 250, ↓vcD_sp 250, VCA, pg_gl, ↓upd_none, Nat.reduceEqDiff, Nat.reduceBEq, Nat.reduceAdd, Nat.reduceSub, Nat.reduceMul, Nat.reduceLT, Nat.reduceLeDiff, ↓reduceIte, reduceCtorEq, rsOf, rootsOf, SOp.rd, SI.rd, SX.rd, rdL, rdO, rdP, okParts, eqCells, okEqCells, fillA, okFill, setAt, implies_true, forall_const, forall_eq, ne_eq, exists_eq_right_right, exists_eq_right, exists_eq_left, exists_eq_left', eInt, eBool, lit_eq, e3, e9, e19, g3, pl]
            repeat' (first | ((with_reducible refine Br.dec (fun _ => ?_) (fun _ => ?_)) <;> try (exfalso; omega)) | ((with_reducible refine Br.eq (fun _ => ?_) (fun _ => ?_)) <;> try (exfalso; omega)) | ((with_reducible refine Br.ne (fun _ => ?_) (fun _ => ?_)) <;> try (exfalso; omega)) | ((with_reducible refine brNdec (fun _ => ?_) (fun _ => ?_)) <;> try (exfalso; omega)) | ((with_reducible refine brNeq (fun _ => ?_) (fun _ => ?_)) <;> try (exfalso; omega)) | with_reducible refine Br.intro (fun _ => ?_) (fun _ => ?_) | (with_reducible apply pcallE.of; · exact hB) | (with_reducible refine And.intro ?_ ?_; · omega) | simp -dsimp -implicitDefEqProofs (disch := omega) only [↓vcOps_sp 52, ↓vcD_sp 52, ↓vcOps_sp 57, ↓vcD_sp 57, ↓vcOps_sp 62, ↓vcD_sp 62, ↓vcOps_sp 67, ↓vcD_sp 67, ↓vcOps_sp 72, ↓vcD_sp 72, ↓vcOps_sp 80, ↓vcD_sp 80, ↓vcOps_sp 84, ↓vcD_sp 84, ↓vcOps_sp 88, ↓vcD_sp 88, ↓vcOps_sp 94, ↓vcD_sp 94, ↓vcOps_sp 103, ↓vcD_sp 103, ↓vcOps_sp 111, ↓vcD_sp 111, ↓vcOps_sp 115, ↓vcD_sp 115, ↓vcOps_sp 119, ↓vcD_sp 119, ↓vcOps_sp 123, ↓vcD_sp 123, ↓vcOps_sp 128, ↓vcD_sp 128, ↓vcOps_sp 132, ↓vcD_sp 132, ↓vcOps_sp 136, ↓vcD_sp 136, ↓vcOps_sp 142, ↓vcD_sp 142, ↓vcOps_sp 158, ↓vcD_sp 158, ↓vcOps_sp 162, ↓vcD_sp 162, ↓vcOps_sp 178, ↓vcD_sp 178, ↓vcOps_sp 183, ↓vcD_sp 183, ↓vcOps_sp 193, ↓vcD_sp 193, ↓vcOps_sp 197, ↓vcD_sp 197, ↓vcOps_sp 204, ↓vcD_sp 204, ↓vcOps_sp 213, ↓vcD_sp 213, ↓vcOps_sp 219, ↓vcD_sp 219, ↓vcOps_sp 240, ↓vcD_sp 240, ↓vcOps_sp 250, ↓vcD_sp 250, VCA, pg_gl, ↓upd_none, Nat.reduceEqDiff, Nat.reduceBEq, Nat.reduceAdd, Nat.reduceSub, Nat.reduceMul, Nat.reduceLT, Nat.reduceLeDiff, ↓reduceIte, reduceCtorEq, rsOf, rootsOf, SOp.rd, SI.rd, SX.rd, rdL, rdO, rdP, okParts, eqCells, okEqCells, fillA, okFill, setAt, implies_true, forall_const, forall_eq, ne_eq, exists_eq_right_right, exists_eq_right, exists_eq_left, exists_eq_left', eInt, eBool, lit_eq, e3, e9, e19, g3, pl])
            exact S
        · have aP : pathV f n = ([], 5) := by unfold pathV; rw [aE, if_neg (by simp), if_neg hc]
          rw [aP] at hP
          rw [decide_eq_false hc] at hUn
          have z5 : ((5 : Int) == 5) = true := rfl
          refine dcalls_of_vc Tryd.func13 hn13 hc13 (by rw [Tryd.ntmps13]; simp) (by rw [Tryd.ntmps13]; decide) ?_
          simp -dsimp -implicitDefEqProofs (disch := omega) only [↓vcOps_sp 52, ↓vcD_sp 52, ↓vcOps_sp 57, ↓vcD_sp 57, ↓vcOps_sp 62, ↓vcD_sp 62, ↓vcOps_sp 67, ↓vcD_sp 67, ↓vcOps_sp 72, ↓vcD_sp 72, ↓vcOps_sp 80, ↓vcD_sp 80, ↓vcOps_sp 84, ↓vcD_sp 84, ↓vcOps_sp 88, ↓vcD_sp 88, ↓vcOps_sp 94, ↓vcD_sp 94, ↓vcOps_sp 103, ↓vcD_sp 103, ↓vcOps_sp 111, ↓vcD_sp 111, ↓vcOps_sp 115, ↓vcD_sp 115, ↓vcOps_sp 119, ↓vcD_sp 119, ↓vcOps_sp 123, ↓vcD_sp 123, ↓vcOps_sp 128, ↓vcD_sp 128, ↓vcOps_sp 132, ↓vcD_sp 132, ↓vcOps_sp 136, ↓vcD_sp 136, ↓vcOps_sp 142, ↓vcD_sp 142, ↓vcOps_sp 158, ↓vcD_sp 158, ↓vcOps_sp 162, ↓vcD_sp 162, ↓vcOps_sp 178, ↓vcD_sp 178, ↓vcOps_sp 183, ↓vcD_sp 183, ↓vcOps_sp 193, ↓vcD_sp 193, ↓vcOps_sp 197, ↓vcD_sp 197, ↓vcOps_sp 204, ↓vcD_sp 204, ↓vcOps_sp 213, ↓vcD_sp 213, ↓vcOps_sp 219, ↓vcD_sp 219, ↓vcOps_sp 240, ↓vcD_sp 240, ↓vcOps_sp 250, ↓vcD_sp 250, VCA, pg_gl, ↓upd_none, Nat.reduceEqDiff, Nat.reduceBEq, Nat.reduceAdd, Nat.reduceSub, Nat.reduceMul, Nat.reduceLT, Nat.reduceLeDiff, ↓reduceIte, reduceCtorEq, rsOf, rootsOf, SOp.rd, SI.rd, SX.rd, rdL, rdO, rdP, okParts, eqCells, okEqCells, fillA, okFill, setAt, implies_true, forall_const, forall_eq, ne_eq, exists_eq_right_right, exists_eq_right, exists_eq_left, exists_eq_left', eInt, eBool, lit_eq, c13, eDoc]
          intro r3 hr3
          repeat' (first | ((with_reducible refine Br.dec (fun _ => ?_) (fun _ => ?_)) <;> try (exfalso; omega)) | ((with_reducible refine Br.eq (fun _ => ?_) (fun _ => ?_)) <;> try (exfalso; omega)) | ((with_reducible refine Br.ne (fun _ => ?_) (fun _ => ?_)) <;> try (exfalso; omega)) | ((with_reducible refine brNdec (fun _ => ?_) (fun _ => ?_)) <;> try (exfalso; omega)) | ((with_reducible refine brNeq (fun _ => ?_) (fun _ => ?_)) <;> try (exfalso; omega)) | with_reducible refine Br.intro (fun _ => ?_) (fun _ => ?_) | (with_reducible apply pcallE.of; · exact hF) | (with_reducible apply pcallE.of; · exact hO) | (with_reducible apply pcallE.of; · exact hP) | (with_reducible apply pcallE.of; · exact hA) | (with_reducible apply pcallE.of; · exact hT) | (with_reducible apply pcallE.of; · exact hD) | (with_reducible apply pcallE.of; · exact hBe) | (with_reducible apply pcallE.of; · exact hS) | (with_reducible apply pcallE.of; · exact hTU) | (with_reducible apply pcallE.of; · exact hUn) | (with_reducible apply pcallE.of; · exact hB) | (with_reducible refine And.intro ?_ ?_; · omega) | simp -dsimp -implicitDefEqProofs (disch := omega) only [↓vcOps_sp 52, ↓vcD_sp 52, ↓vcOps_sp 57, ↓vcD_sp 57, ↓vcOps_sp 62, ↓vcD_sp 62, ↓vcOps_sp 67, ↓vcD_sp 67, ↓vcOps_sp 72, ↓vcD_sp 72, ↓vcOps_sp 80, ↓vcD_sp 80, ↓vcOps_sp 84, ↓vcD_sp 84, ↓vcOps_sp 88, ↓vcD_sp 88, ↓vcOps_sp 94, ↓vcD_sp 94, ↓vcOps_sp 103, ↓vcD_sp 103, ↓vcOps_sp 111, ↓vcD_sp 111, ↓vcOps_sp 115, ↓vcD_sp 115, ↓vcOps_sp 119, ↓vcD_sp 119, ↓vcOps_sp 123, ↓vcD_sp 123, ↓vcOps_sp 128, ↓vcD_sp 128, ↓vcOps_sp 132, ↓vcD_sp 132, ↓vcOps_sp 136, ↓vcD_sp 136, ↓vcOps_sp 142, ↓vcD_sp 142, ↓vcOps_sp 158, ↓vcD_sp 158, ↓vcOps_sp 162, ↓vcD_sp 162, ↓vcOps_sp 178, ↓vcD_sp 178, ↓vcOps_sp 183, ↓vcD_sp 183, ↓vcOps_sp 193, ↓vcD_sp 193, ↓vcOps_sp 197, ↓vcD_sp 197, ↓vcOps_sp 204, ↓vcD_sp 204, ↓vcOps_sp 213, ↓vcD_sp 213, ↓vcOps_sp 219, ↓vcD_sp 219, ↓vcOps_sp 240, ↓vcD_sp 240, ↓vcOps_sp 250, ↓vcD_sp 250, VCA, pg_gl, ↓upd_none, Nat.reduceEqDiff, Nat.reduceBEq, Nat.reduceAdd, Nat.reduceSub, Nat.reduceMul, Nat.reduceLT, Nat.reduceLeDiff, ↓reduceIte, reduceCtorEq, rsOf, rootsOf, SOp.rd, SI.rd, SX.rd, rdL, rdO, rdP, okParts, eqCells, okEqCells, fillA, okFill, setAt, implies_true, forall_const, forall_eq, ne_eq, exists_eq_right_right, exists_eq_right, exists_eq_left, exists_eq_left', eInt, eBool, lit_eq, upd_same, eDoc, eNode, e0, z0, z5, ee, tt, q1, q2, bn0, bn1, bk, z7, es])
          all_goals first | exact ⟨(Sub.refl h).upd hr3, rfl⟩ | exact (Sub.refl h).upd hr3 | (rename_i q; exact absurd rfl q) | trace_state
    · have aE : askE f n = 1 := by unfold askE; rw [if_neg (by simpa using h0), if_pos hn]
      have aP : pathV f n = ([], 1) := by unfold pathV; rw [aE]; rfl
      have aA : attrV f n name = ([], false, 1) := by unfold attrV; rw [aE]; rfl
      have aT : textOfV f n = [] := by unfold textOfV; rw [aE]; rfl
      rw [aP] at hP
      rw [aA] at hA
      rw [aT, aE] at hT
      have z1 : ((1 : Int) == 1) = true := rfl
      refine dcalls_of_vc Tryd.func13 hn13 hc13 (by rw [Tryd.ntmps13]; simp) (by rw [Tryd.ntmps13]; decide) ?_
      simp -dsimp -implicitDefEqProofs (disch := omega) only [↓vcOps_sp 52, ↓vcD_sp 52, ↓vcOps_sp 57, ↓vcD_sp 57, ↓vcOps_sp 62, ↓vcD_sp 62, ↓vcOps_sp 67, ↓vcD_sp 67, ↓vcOps_sp 72, ↓vcD_sp 72, ↓vcOps_sp 80, ↓vcD_sp 80, ↓vcOps_sp 84, ↓vcD_sp 84, ↓vcOps_sp 88, ↓vcD_sp 88, ↓vcOps_sp 94, ↓vcD_sp 94, ↓vcOps_sp 103, ↓vcD_sp 103, ↓vcOps_sp 111, ↓vcD_sp 111, ↓vcOps_sp 115, ↓vcD_sp 115, ↓vcOps_sp 119, ↓vcD_sp 119, ↓vcOps_sp 123, ↓vcD_sp 123, ↓vcOps_sp 128, ↓vcD_sp 128, ↓vcOps_sp 132, ↓vcD_sp 132, ↓vcOps_sp 136, ↓vcD_sp 136, ↓vcOps_sp 142, ↓vcD_sp 142, ↓vcOps_sp 158, ↓vcD_sp 158, ↓vcOps_sp 162, ↓vcD_sp 162, ↓vcOps_sp 178, ↓vcD_sp 178, ↓vcOps_sp 183, ↓vcD_sp 183, ↓vcOps_sp 193, ↓vcD_sp 193, ↓vcOps_sp 197, ↓vcD_sp 197, ↓vcOps_sp 204, ↓vcD_sp 204, ↓vcOps_sp 213, ↓vcD_sp 213, ↓vcOps_sp 219, ↓vcD_sp 219, ↓vcOps_sp 240, ↓vcD_sp 240, ↓vcOps_sp 250, ↓vcD_sp 250, VCA, pg_gl, ↓upd_none, Nat.reduceEqDiff, Nat.reduceBEq, Nat.reduceAdd, Nat.reduceSub, Nat.reduceMul, Nat.reduceLT, Nat.reduceLeDiff, ↓reduceIte, reduceCtorEq, rsOf, rootsOf, SOp.rd, SI.rd, SX.rd, rdL, rdO, rdP, okParts, eqCells, okEqCells, fillA, okFill, setAt, implies_true, forall_const, forall_eq, ne_eq, exists_eq_right_right, exists_eq_right, exists_eq_left, exists_eq_left', eInt, eBool, lit_eq, c13, eDoc]
      intro r3 hr3
      unfold eDoc at *
      repeat' (first | ((with_reducible refine Br.dec (fun _ => ?_) (fun _ => ?_)) <;> try (exfalso; omega)) | ((with_reducible refine Br.eq (fun _ => ?_) (fun _ => ?_)) <;> try (exfalso; omega)) | ((with_reducible refine Br.ne (fun _ => ?_) (fun _ => ?_)) <;> try (exfalso; omega)) | ((with_reducible refine brNdec (fun _ => ?_) (fun _ => ?_)) <;> try (exfalso; omega)) | ((with_reducible refine brNeq (fun _ => ?_) (fun _ => ?_)) <;> try (exfalso; omega)) | with_reducible refine Br.intro (fun _ => ?_) (fun _ => ?_) | (with_reducible apply pcallE.of; · exact hF) | (with_reducible apply pcallE.of; · exact hO) | (with_reducible apply pcallE.of; · exact hP) | (with_reducible apply pcallE.of; · exact hA) | (with_reducible apply pcallE.of; · exact hT) | (with_reducible apply pcallE.of; · exact hD) | (with_reducible apply pcallE.of; · exact hBe) | (with_reducible apply pcallE.of; · exact hS) | (with_reducible apply pcallE.of; · exact hB) | (with_reducible refine And.intro ?_ ?_; · omega) | simp -dsimp -implicitDefEqProofs (disch := omega) only [↓vcOps_sp 52, ↓vcD_sp 52, ↓vcOps_sp 57, ↓vcD_sp 57, ↓vcOps_sp 62, ↓vcD_sp 62, ↓vcOps_sp 67, ↓vcD_sp 67, ↓vcOps_sp 72, ↓vcD_sp 72, ↓vcOps_sp 80, ↓vcD_sp 80, ↓vcOps_sp 84, ↓vcD_sp 84, ↓vcOps_sp 88, ↓vcD_sp 88, ↓vcOps_sp 94, ↓vcD_sp 94, ↓vcOps_sp 103, ↓vcD_sp 103, ↓vcOps_sp 111, ↓vcD_sp 111, ↓vcOps_sp 115, ↓vcD_sp 115, ↓vcOps_sp 119, ↓vcD_sp 119, ↓vcOps_sp 123, ↓vcD_sp 123, ↓vcOps_sp 128, ↓vcD_sp 128, ↓vcOps_sp 132, ↓vcD_sp 132, ↓vcOps_sp 136, ↓vcD_sp 136, ↓vcOps_sp 142, ↓vcD_sp 142, ↓vcOps_sp 158, ↓vcD_sp 158, ↓vcOps_sp 162, ↓vcD_sp 162, ↓vcOps_sp 178, ↓vcD_sp 178, ↓vcOps_sp 183, ↓vcD_sp 183, ↓vcOps_sp 193, ↓vcD_sp 193, ↓vcOps_sp 197, ↓vcD_sp 197, ↓vcOps_sp 204, ↓vcD_sp 204, ↓vcOps_sp 213, ↓vcD_sp 213, ↓vcOps_sp 219, ↓vcD_sp 219, ↓vcOps_sp 240, ↓vcD_sp 240, ↓vcOps_sp 250, ↓vcD_sp 250, VCA, pg_gl, ↓upd_none, Nat.reduceEqDiff, Nat.reduceBEq, Nat.reduceAdd, Nat.reduceSub, Nat.reduceMul, Nat.reduceLT, Nat.reduceLeDiff, ↓reduceIte, reduceCtorEq, rsOf, rootsOf, SOp.rd, SI.rd, SX.rd, rdL, rdO, rdP, okParts, eqCells, okEqCells, fillA, okFill, setAt, implies_true, forall_const, forall_eq, ne_eq, exists_eq_right_right, exists_eq_right, exists_eq_left, exists_eq_left', eInt, eBool, lit_eq, upd_same, eDoc, z0, z1, ee])
      all_goals first | exact ⟨(Sub.refl h).upd hr3, rfl⟩ | exact (Sub.refl h).upd hr3 | (exfalso; exact hn ⟨by omega, by omega⟩) | trace_state
  · have aE : askE f n = docE f := by unfold askE; rw [if_pos h0]
    have aP : pathV f n = ([], docE f) := by unfold pathV; rw [aE, if_pos h0]
    have aA : attrV f n name = ([], false, docE f) := by unfold attrV; rw [aE, if_pos h0]
    have aT : textOfV f n = [] := by unfold textOfV; rw [aE, if_pos h0]
    have oD : orderD f = [] := by unfold orderD; rw [if_neg h0]
    rw [oD] at hO
    rw [aP] at hP
    rw [aA] at hA
    rw [aT, aE] at hT
    generalize docE f = X at *
    have n2 : (X == X) = true := by simp
    have n3 : (X != 0) = true := by simpa using h0
    refine dcalls_of_vc Tryd.func13 hn13 hc13 (by rw [Tryd.ntmps13]; simp) (by rw [Tryd.ntmps13]; decide) ?_
    simp -dsimp -implicitDefEqProofs (disch := omega) only [↓vcOps_sp 52, ↓vcD_sp 52, ↓vcOps_sp 57, ↓vcD_sp 57, ↓vcOps_sp 62, ↓vcD_sp 62, ↓vcOps_sp 67, ↓vcD_sp 67, ↓vcOps_sp 72, ↓vcD_sp 72, ↓vcOps_sp 80, ↓vcD_sp 80, ↓vcOps_sp 84, ↓vcD_sp 84, ↓vcOps_sp 88, ↓vcD_sp 88, ↓vcOps_sp 94, ↓vcD_sp 94, ↓vcOps_sp 103, ↓vcD_sp 103, ↓vcOps_sp 111, ↓vcD_sp 111, ↓vcOps_sp 115, ↓vcD_sp 115, ↓vcOps_sp 119, ↓vcD_sp 119, ↓vcOps_sp 123, ↓vcD_sp 123, ↓vcOps_sp 128, ↓vcD_sp 128, ↓vcOps_sp 132, ↓vcD_sp 132, ↓vcOps_sp 136, ↓vcD_sp 136, ↓vcOps_sp 142, ↓vcD_sp 142, ↓vcOps_sp 158, ↓vcD_sp 158, ↓vcOps_sp 162, ↓vcD_sp 162, ↓vcOps_sp 178, ↓vcD_sp 178, ↓vcOps_sp 183, ↓vcD_sp 183, ↓vcOps_sp 193, ↓vcD_sp 193, ↓vcOps_sp 197, ↓vcD_sp 197, ↓vcOps_sp 204, ↓vcD_sp 204, ↓vcOps_sp 213, ↓vcD_sp 213, ↓vcOps_sp 219, ↓vcD_sp 219, ↓vcOps_sp 240, ↓vcD_sp 240, ↓vcOps_sp 250, ↓vcD_sp 250, VCA, pg_gl, ↓upd_none, Nat.reduceEqDiff, Nat.reduceBEq, Nat.reduceAdd, Nat.reduceSub, Nat.reduceMul, Nat.reduceLT, Nat.reduceLeDiff, ↓reduceIte, reduceCtorEq, rsOf, rootsOf, SOp.rd, SI.rd, SX.rd, rdL, rdO, rdP, okParts, eqCells, okEqCells, fillA, okFill, setAt, implies_true, forall_const, forall_eq, ne_eq, exists_eq_right_right, exists_eq_right, exists_eq_left, exists_eq_left', eInt, eBool, lit_eq, c13, eDoc_len, eDoc_take, eDoc_dr, List.append_nil]
    intro r3 hr3
    repeat' (first | ((with_reducible refine Br.dec (fun _ => ?_) (fun _ => ?_)) <;> try (exfalso; omega)) | ((with_reducible refine Br.eq (fun _ => ?_) (fun _ => ?_)) <;> try (exfalso; omega)) | ((with_reducible refine Br.ne (fun _ => ?_) (fun _ => ?_)) <;> try (exfalso; omega)) | ((with_reducible refine brNdec (fun _ => ?_) (fun _ => ?_)) <;> try (exfalso; omega)) | ((with_reducible refine brNeq (fun _ => ?_) (fun _ => ?_)) <;> try (exfalso; omega)) | with_reducible refine Br.intro (fun _ => ?_) (fun _ => ?_) | (with_reducible apply pcallE.of; · exact hF) | (with_reducible apply pcallE.of; · exact hO) | (with_reducible apply pcallE.of; · exact hP) | (with_reducible apply pcallE.of; · exact hA) | (with_reducible apply pcallE.of; · exact hT) | (with_reducible apply pcallE.of; · exact hD) | (with_reducible apply pcallE.of; · exact hB) | (with_reducible refine And.intro ?_ ?_; · omega) | simp -dsimp -implicitDefEqProofs (disch := omega) only [↓vcOps_sp 52, ↓vcD_sp 52, ↓vcOps_sp 57, ↓vcD_sp 57, ↓vcOps_sp 62, ↓vcD_sp 62, ↓vcOps_sp 67, ↓vcD_sp 67, ↓vcOps_sp 72, ↓vcD_sp 72, ↓vcOps_sp 80, ↓vcD_sp 80, ↓vcOps_sp 84, ↓vcD_sp 84, ↓vcOps_sp 88, ↓vcD_sp 88, ↓vcOps_sp 94, ↓vcD_sp 94, ↓vcOps_sp 103, ↓vcD_sp 103, ↓vcOps_sp 111, ↓vcD_sp 111, ↓vcOps_sp 115, ↓vcD_sp 115, ↓vcOps_sp 119, ↓vcD_sp 119, ↓vcOps_sp 123, ↓vcD_sp 123, ↓vcOps_sp 128, ↓vcD_sp 128, ↓vcOps_sp 132, ↓vcD_sp 132, ↓vcOps_sp 136, ↓vcD_sp 136, ↓vcOps_sp 142, ↓vcD_sp 142, ↓vcOps_sp 158, ↓vcD_sp 158, ↓vcOps_sp 162, ↓vcD_sp 162, ↓vcOps_sp 178, ↓vcD_sp 178, ↓vcOps_sp 183, ↓vcD_sp 183, ↓vcOps_sp 193, ↓vcD_sp 193, ↓vcOps_sp 197, ↓vcD_sp 197, ↓vcOps_sp 204, ↓vcD_sp 204, ↓vcOps_sp 213, ↓vcD_sp 213, ↓vcOps_sp 219, ↓vcD_sp 219, ↓vcOps_sp 240, ↓vcD_sp 240, ↓vcOps_sp 250, ↓vcD_sp 250, VCA, pg_gl, ↓upd_none, Nat.reduceEqDiff, Nat.reduceBEq, Nat.reduceAdd, Nat.reduceSub, Nat.reduceMul, Nat.reduceLT, Nat.reduceLeDiff, ↓reduceIte, reduceCtorEq, rsOf, rootsOf, SOp.rd, SI.rd, SX.rd, rdL, rdO, rdP, okParts, eqCells, okEqCells, fillA, okFill, setAt, implies_true, forall_const, forall_eq, ne_eq, exists_eq_right_right, exists_eq_right, exists_eq_left, exists_eq_left', eInt, eBool, lit_eq, upd_same, eDoc_len, eDoc_take, eDoc_dr, List.append_nil, n2, n3, ee])
    all_goals first | exact ⟨(Sub.refl h).upd hr3, rfl⟩ | exact (Sub.refl h).upd hr3 | trace_state
end Go.Proofs.K
end
