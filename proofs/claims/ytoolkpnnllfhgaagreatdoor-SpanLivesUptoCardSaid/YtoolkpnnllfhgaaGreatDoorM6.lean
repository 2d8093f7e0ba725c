/- Texts of this claim, one behind the other. -/
import Derived.Test.YtoolkpnnllfhgaaGreatDoorM5
import Derived.Test.YtoolkpnnllfhgaaGreatDoorM4
import Derived.Shelf.Spec.SlicesInsert
import Derived.Shelf.Spec.SlicesInsertGrow
section
/- The editor: attr. -/
set_option linter.unusedSimpArgs false
set_option linter.unusedVariables false
namespace Go.Proofs.K
open Go Go.Sim Go.Proofs
variable {G : Glob}
theorem elem_zero {d : HDoc} {n : Int} (hz : elemE d n = 0) : inD d n ∧ (nd d n).kind = 2 := by
  unfold elemE at hz
  split at hz
  · omega
  · rename_i h
    have hn := Classical.not_not.1 h
    split at hz
    · omega
    · rename_i h2; exact ⟨hn, Classical.not_not.1 h2⟩
def c145 : SFun := ⟨(.seq (.reg [⟨(some 3), (.boxF 42 12 (.t 1)), none⟩, ⟨(some 4), (.mv (.c (.int .i64 (0)))), none⟩]) (.seq (.reg [⟨(some 9), (.mv (.t 0)), none⟩, ⟨(some 10), (.fldA 1 (.t 3)), none⟩, ⟨(some 11), (.ld 1 false (.t 10)), none⟩, ⟨(some 12), (.call (.c (.fn 178 [] [])) [(.t 9), (.t 11)]), none⟩, ⟨(some 8), (.mv (.t 12)), none⟩, ⟨(some 13), (.ext (.t 8) 0), none⟩, ⟨(some 14), (.ext (.t 8) 1), none⟩, ⟨(some 5), (.mv (.t 13)), none⟩, ⟨(some 6), (.mv (.t 14)), none⟩]) (.seq (.seq (.reg [⟨(some 15), (.mv (.t 6)), none⟩, ⟨(some 16), (.bin .neq (.t 15) (.c (.int .i64 (0)))), none⟩]) (.cond (.t 16) (.seq (.reg [⟨(some 17), (.mv (.t 6)), none⟩, ⟨(some 4), (.mv (.t 17)), none⟩]) .ret) .skip)) (.seq (.dreg [(⟨(some 18), (.mv (.t 5)), none⟩, none), (⟨(some 19), (.fldA 0 (.t 18)), none⟩, none), (⟨(some 20), (.fldA 2 (.t 19)), none⟩, none), (⟨(some 21), (.ld 1 false (.t 20)), none⟩, none), (⟨(some 22), (.fldA 4 (.t 3)), none⟩, none), (⟨(some 23), (.ld 1 false (.t 22)), none⟩, none), (⟨(some 24), (.call (.c (.fn 160 [] [])) [(.t 21), (.t 23)]), none⟩, (some [21, 23])), (⟨(some 7), (.mv (.t 24)), none⟩, none)]) (.seq (.block 0 (.seq (.reg [⟨(some 26), (.fldA 4 (.t 3)), none⟩, ⟨(some 27), (.ld 1 false (.t 26)), none⟩, ⟨(some 28), (.pcall 159 [(.t 27)]), none⟩, ⟨(some 29), (.un .not (.t 28)), none⟩, ⟨(some 25), (.mv (.t 29)), none⟩]) (.cond (.t 25) (.seq (.reg [⟨(some 4), (.mv (.c (.int .i64 (3)))), none⟩]) .ret) (.seq (.reg [⟨(some 31), (.fldA 5 (.t 3)), none⟩, ⟨(some 32), (.ld 1 false (.t 31)), none⟩, ⟨(some 33), (.lenS (.t 32)), none⟩, ⟨(some 34), (.bin .gtr (.t 33) (.c (.int .i64 (400)))), none⟩, ⟨(some 35), (.mv (.t 34)), none⟩, ⟨(some 36), (.mv (.t 7)), (some (35, false))⟩, ⟨(some 37), (.bin .lss (.t 36) (.c (.int .i64 (0)))), (some (35, false))⟩, ⟨(some 38), (.mv (.t 37)), (some (35, false))⟩, ⟨(some 39), (.mv (.t 5)), (some (38, true))⟩, ⟨(some 40), (.fldA 0 (.t 39)), (some (38, true))⟩, ⟨(some 41), (.fldA 2 (.t 40)), (some (38, true))⟩, ⟨(some 42), (.ld 1 false (.t 41)), (some (38, true))⟩, ⟨(some 43), (.len (.t 42)), (some (38, true))⟩, ⟨(some 44), (.bin .eql (.t 43) (.c (.int .i64 (12)))), (some (38, true))⟩, ⟨(some 45), (.pick (.t 38) (.t 44) (.c (.bool false))), (some (35, false))⟩, ⟨(some 46), (.pick (.t 35) (.c (.bool true)) (.t 45)), none⟩, ⟨(some 30), (.mv (.t 46)), none⟩]) (.cond (.t 30) (.seq (.reg [⟨(some 4), (.mv (.c (.int .i64 (2)))), none⟩]) .ret) (.seq (.reg [⟨(some 48), (.mv (.t 7)), none⟩, ⟨(some 49), (.bin .lss (.t 48) (.c (.int .i64 (0)))), none⟩, ⟨(some 47), (.mv (.t 49)), none⟩]) (.cond (.t 47) (.seq (.dreg [(⟨(some 50), (.mv (.t 5)), none⟩, none), (⟨(some 51), (.mv (.t 5)), none⟩, none), (⟨(some 52), (.fldA 0 (.t 51)), none⟩, none), (⟨(some 53), (.fldA 2 (.t 52)), none⟩, none), (⟨(some 54), (.ld 1 false (.t 53)), none⟩, none), (⟨(some 55), (.fldA 4 (.t 3)), none⟩, none), (⟨(some 56), (.ld 1 false (.t 55)), none⟩, none), (⟨(some 57), (.bld [(.str []), (.str [])] [(0, (1, (.t 56)))]), none⟩, none), (⟨(some 58), (.bldF 96 2 [(.t 57)]), none⟩, none), (⟨(some 59), (.app 96 2 32 (.t 54) (.t 58)), none⟩, (some [54, 56])), (⟨(some 60), (.fldA 0 (.t 50)), none⟩, none), (⟨(some 61), (.fldA 2 (.t 60)), none⟩, none), (⟨none, (.st 1 (.t 61) (.t 59)), none⟩, (some [54, 56]))]) (.reg [⟨(some 62), (.mv (.t 5)), none⟩, ⟨(some 63), (.fldA 0 (.t 62)), none⟩, ⟨(some 64), (.fldA 2 (.t 63)), none⟩, ⟨(some 65), (.ld 1 false (.t 64)), none⟩, ⟨(some 66), (.len (.t 65)), none⟩, ⟨(some 67), (.bin .sub (.t 66) (.c (.int .i64 (1)))), none⟩, ⟨(some 7), (.mv (.t 67)), none⟩])) .skip))))))) (.seq (.dreg [(⟨(some 68), (.mv (.t 5)), none⟩, none), (⟨(some 69), (.fldA 0 (.t 68)), none⟩, none), (⟨(some 70), (.fldA 2 (.t 69)), none⟩, none), (⟨(some 71), (.ld 1 false (.t 70)), none⟩, none), (⟨(some 72), (.mv (.t 7)), none⟩, none), (⟨(some 73), (.fldA 5 (.t 3)), none⟩, none), (⟨(some 74), (.ld 1 false (.t 73)), none⟩, none), (⟨(some 75), (.idxA 2 (.t 71) (.t 72)), none⟩, none), (⟨(some 76), (.fldA 1 (.t 75)), none⟩, none), (⟨none, (.st 1 (.t 76) (.t 74)), none⟩, (some [71, 74]))]) (.seq (.reg [⟨(some 4), (.mv (.c (.int .i64 (0)))), none⟩]) .ret))))))), [(.tmp 4)]⟩
theorem hc145 : toSF Tryz.prog {pure := [159]} Tryz.f145 = some c145 := by kernel_rfl
theorem hn145 : (Tryz.f145.name == "runtime.NumGoroutine") = false := by kernel_rfl
theorem eattr_ok {h0 h : Heap} {re rN : Nat} {d : HDoc} {sl : Nat → AVal} {made : Int} (E : Ed h0 h re rN d sl made) (sm : DocSm d) (al12 : ∀ n, inD d n → (nd d n).attrs.length ≤ 12) (e : HEdit) (he : EditSm e) (hdo : e.do' = 1) : DCalls (Pg G) 145 [.vp re 0, .agg (eEdit e)] h (EdR h0 h re d e made) := by
  have gN := E.dw.nodes
  have hE := element_ok (G := G) E e.at'
  have vl := he.value
  have eE : editE d e = if ¬ inD d e.at' then 5 else if (nd d e.at').kind ≠ 2 then 7 else if nameOK false e.name = false then 3
    else if 400 < e.value.length ∨ (¬ 0 ≤ attrAt (nd d e.at').attrs e.name ∧ (nd d e.at').attrs.length = 12) then 2 else 0 := by unfold editE; rw [if_pos hdo]
  have eD : editD d e = setN d e.at' { nd d e.at' with attrs := setAttr (nd d e.at').attrs e.name e.value } := by unfold editD; rw [if_pos hdo]
  have hm4 : made = if e.do' = 4 then (d.nodes.length : Int) else made := by rw [if_neg (by omega)]
  have hAN := attrName_ok (G := G) e.name he.name
  refine dcalls_of_vc Tryz.func145 hn145 hc145 (by rw [Tryz.ntmps145]; simp) (by rw [Tryz.ntmps145]; decide) ?_
  simp -dsimp -implicitDefEqProofs (disch := omega) only [VCA, Nat.reduceEqDiff, Nat.reduceAdd, Nat.reduceLeDiff, ↓reduceIte, reduceCtorEq, c145, eEdit]
  by_cases hz : elemE d e.at' = 0
  · obtain ⟨hn, hk⟩ := elem_zero hz
    rw [hz, if_pos rfl] at hE
    rw [if_neg (by simpa using hn), if_neg (by simpa using hk)] at eE
    have hn' := hn.nat.1
    have gk := rowsA_get (sl := sl) hn'
    have rl := rowsA_len d sl
    have e0 : nth d.nodes e.at'.toNat = nd d e.at' := rfl
    rw [e0] at gk
    obtain ⟨oA, oK⟩ := E.dw.own _ hn'
    rw [e0] at oA
    have al := (sm.nd e.at').attrs
    have a12 := al12 _ hn
    have hF := find_own (G := G) oA e.name al
    have lv := E.live (2 * e.at'.toNat) (by omega)
    unfold rowA at gk
    have oL := oA.len.1
    have oL2 := oA.len.2
    rw [List.length_map] at oL
    by_cases h3 : nameOK false e.name = false
    · rw [if_pos h3] at eE
      rw [h3] at hAN
      refine DCalls.of hE ?_
      rintro _ hh ⟨rfl, rfl⟩
      repeat' (first | ((with_reducible refine Br.dec (fun _ => ?_) (fun _ => ?_)) <;> try (exfalso; omega)) | ((with_reducible refine Br.eq (fun _ => ?_) (fun _ => ?_)) <;> try (exfalso; omega)) | ((with_reducible refine Br.ne (fun _ => ?_) (fun _ => ?_)) <;> try (exfalso; omega)) | ((with_reducible refine brNdec (fun _ => ?_) (fun _ => ?_)) <;> try (exfalso; omega)) | ((with_reducible refine brNeq (fun _ => ?_) (fun _ => ?_)) <;> try (exfalso; omega)) | with_reducible refine Br.intro (fun _ => ?_) (fun _ => ?_) | ((refine DCalls.of hF ?_; rintro _ hh ⟨rfl, rfl⟩)) | (with_reducible apply pcallE.of; · exact hAN) | (with_reducible refine And.intro ?_ ?_; · omega) | simp -dsimp -implicitDefEqProofs (disch := omega) only [VCA, Nat.reduceEqDiff, Nat.reduceBEq, Nat.reduceAdd, Nat.reduceLT, Nat.reduceLeDiff, ↓reduceIte, rsOf, rootsOf, SOp.rd, SI.rd, SX.rd, rdL, implies_true, exists_eq_left', rootL, gN, gk, rl])
      all_goals first | (exfalso; omega) | exact ⟨_, Sub.refl _, EdR.bad eE (by decide)⟩
    · rw [if_neg h3] at eE
      have h3' : nameOK false e.name = true := by simpa using h3
      rw [h3'] at hAN
      by_cases h2 : 400 < e.value.length ∨ (¬ 0 ≤ attrAt (nd d e.at').attrs e.name ∧ (nd d e.at').attrs.length = 12)
      · rw [if_pos h2] at eE
        refine DCalls.of hE ?_
        rintro _ hh ⟨rfl, rfl⟩
        repeat' (first | ((with_reducible refine Br.dec (fun _ => ?_) (fun _ => ?_)) <;> try (exfalso; omega)) | ((with_reducible refine Br.eq (fun _ => ?_) (fun _ => ?_)) <;> try (exfalso; omega)) | ((with_reducible refine Br.ne (fun _ => ?_) (fun _ => ?_)) <;> try (exfalso; omega)) | ((with_reducible refine brNdec (fun _ => ?_) (fun _ => ?_)) <;> try (exfalso; omega)) | ((with_reducible refine brNeq (fun _ => ?_) (fun _ => ?_)) <;> try (exfalso; omega)) | with_reducible refine Br.intro (fun _ => ?_) (fun _ => ?_) | ((refine DCalls.of hF ?_; rintro _ hh ⟨rfl, rfl⟩)) | (with_reducible apply pcallE.of; · exact hAN) | (with_reducible refine And.intro ?_ ?_; · omega) | simp -dsimp -implicitDefEqProofs (disch := omega) only [↓vcOps_sp 35, ↓vcOps_sp 38, VCA, Nat.reduceEqDiff, Nat.reduceBEq, Nat.reduceAdd, Nat.reduceLT, Nat.reduceLeDiff, ↓reduceIte, rsOf, rootsOf, SOp.rd, SI.rd, SX.rd, rdL, implies_true, exists_eq_left', rootL, gN, gk, rl, oL, oL2])
        all_goals first | (exfalso; omega) | exact ⟨_, Sub.refl _, EdR.bad eE (by decide)⟩ | trace_state
      · rw [if_neg h2] at eE
        by_cases hi0 : 0 ≤ attrAt (nd d e.at').attrs e.name
        · obtain ⟨g1, g2, g3⟩ := attrAt_spec _ _ hi0
          have hsa : setAttr (nd d e.at').attrs e.name e.value = (nd d e.at').attrs.set (attrAt (nd d e.at').attrs e.name).toNat ⟨e.name, e.value⟩ := by unfold setAttr; rw [if_pos hi0]
          rw [← g3] at hF
          rcases oA.live lv with ⟨q, _⟩ | ⟨r, es, ha, hr, hl, ht⟩
          · have : (nd d e.at').attrs = [] := by simpa using q
            rw [this] at g1; simp at g1
          · rw [List.length_map] at ha hl ht
            have IA := fun h1 => E.inA hn' (h1 := h1) (l' := setAttr (nd d e.at').attrs e.name e.value)
            have hnr : ¬ rN = r := fun h => (E.root_ne (k := 2 * e.at'.toNat) (by omega) (by rw [ha]; rfl)).1 h.symm
            have gi := getD_take_enc ht g1
            have ga : eAttr (nth (nd d e.at').attrs (attrAt (nd d e.at').attrs e.name).toNat) = [.str e.name, .str (nth (nd d e.at').attrs (attrAt (nd d e.at').attrs e.name).toNat).value] := by unfold eAttr; rw [g2]
            rw [ga] at gi
            rw [ha] at gk hF IA oL oL2
            generalize (attrAt (nd d e.at').attrs e.name).toNat = i at *
            refine DCalls.of hE ?_
            rintro _ hh ⟨rfl, rfl⟩
            repeat' (first | ((with_reducible refine Br.dec (fun _ => ?_) (fun _ => ?_)) <;> try (exfalso; omega)) | ((with_reducible refine Br.eq (fun _ => ?_) (fun _ => ?_)) <;> try (exfalso; omega)) | ((with_reducible refine Br.ne (fun _ => ?_) (fun _ => ?_)) <;> try (exfalso; omega)) | ((with_reducible refine brNdec (fun _ => ?_) (fun _ => ?_)) <;> try (exfalso; omega)) | ((with_reducible refine brNeq (fun _ => ?_) (fun _ => ?_)) <;> try (exfalso; omega)) | with_reducible refine Br.intro (fun _ => ?_) (fun _ => ?_) | ((refine DCalls.of hF ?_; rintro _ hh ⟨rfl, rfl⟩)) | (with_reducible apply pcallE.of; · exact hAN) | (with_reducible refine And.intro ?_ ?_; · omega) | simp -dsimp -implicitDefEqProofs (disch := omega) only [↓vcOps_sp 35, ↓vcOps_sp 38, VCA, Nat.reduceEqDiff, Nat.reduceBEq, Nat.reduceAdd, Nat.reduceLT, Nat.reduceLeDiff, ↓reduceIte, rsOf, rootsOf, SOp.rd, SI.rd, SX.rd, rdL, setAt, implies_true, exists_eq_left', rootL, gN, gk, rl, hr, gi])
            all_goals try (exfalso; omega)
            have hO : OwnS (upd hh r (some ⟨.t 96, 2, es.set i [.str e.name, .str e.value]⟩)) 96 2 ((setAttr (nd d e.at').attrs e.name e.value).map eAttr) (.osl r 2 0 (nd d e.at').attrs.length) :=
              .inr (.inr ⟨r, _, by rw [hsa, List.length_map, List.length_set], upd_same _ _ _, by rw [hsa, List.length_map, List.length_set, List.length_set]; exact hl, by
                rw [hsa, List.length_map, List.length_set, List.take_set, ht, List.map_set]; rfl⟩)
            exact ⟨_, Sub.refl _, EdR.good eE hm4 (by rw [eD]; exact IA _ (fun t o ho hne => by rw [upd_ne _ _ (fun e => hne (by rw [e]; rfl))]; exact ho) hO)⟩
        · have hsa : setAttr (nd d e.at').attrs e.name e.value = (nd d e.at').attrs ++ [⟨e.name, e.value⟩] := by unfold setAttr; rw [if_neg hi0]
          refine DCalls.of hE ?_
          rintro _ hh ⟨rfl, rfl⟩
          repeat' (first | ((with_reducible refine Br.dec (fun _ => ?_) (fun _ => ?_)) <;> try (exfalso; omega)) | ((with_reducible refine Br.eq (fun _ => ?_) (fun _ => ?_)) <;> try (exfalso; omega)) | ((with_reducible refine Br.ne (fun _ => ?_) (fun _ => ?_)) <;> try (exfalso; omega)) | ((with_reducible refine brNdec (fun _ => ?_) (fun _ => ?_)) <;> try (exfalso; omega)) | ((with_reducible refine brNeq (fun _ => ?_) (fun _ => ?_)) <;> try (exfalso; omega)) | with_reducible refine Br.intro (fun _ => ?_) (fun _ => ?_) | ((refine DCalls.of hF ?_; rintro _ hh ⟨rfl, rfl⟩)) | (with_reducible apply pcallE.of; · exact hAN) | (with_reducible refine And.intro ?_ ?_; · omega) | simp -dsimp -implicitDefEqProofs (disch := omega) only [↓vcOps_sp 35, ↓vcOps_sp 38, VCA, Nat.reduceEqDiff, Nat.reduceBEq, Nat.reduceAdd, Nat.reduceLT, Nat.reduceLeDiff, ↓reduceIte, rsOf, rootsOf, SOp.rd, SI.rd, SX.rd, rdL, okParts, fillA, okFill, implies_true, forall_eq, exists_eq_left, exists_eq_left', rootL, gN, gk, rl, oL, oL2])
          all_goals try (exfalso; omega)
          refine OwnS.app oA lv (by rw [List.length_map]; simp; omega) (by rw [List.length_map]; simp; omega) fun r h9 hr hf kp => ?_
          rw [List.length_map]
          have nr : ∀ t, rootOf (sl (2 * e.at'.toNat)) = some t → t ≠ rN := fun t ht => (E.root_ne (by omega) ht).1
          have gN9 := kp rN _ gN (fun h => nr _ h rfl)
          have hnr : ¬ r = rN := fun h => by
            rcases hf with h1 | h1
            · exact nr _ h1 h
            · rw [h, gN] at h1; cases h1
          have hnr2 : ¬ rN = r := fun h => hnr h.symm
          have ln : ((nd d e.at').attrs.map eAttr).length = (nd d e.at').attrs.length := List.length_map ..
          have gg : ((nd d e.at').attrs.map eAttr ++ [[AVal.str e.name, AVal.str []]]).getD (nd d e.at').attrs.length [] = [AVal.str e.name, AVal.str []] := by
            rw [List.getD_eq_getElem?_getD, List.getElem?_append_right (by omega), ln]; simp
          have lx : ((nd d e.at').attrs.length : Int) + 1 - 1 = (nd d e.at').attrs.length := by omega
          have ly : (((nd d e.at').attrs.length : Int)).toNat = (nd d e.at').attrs.length := by omega
          repeat' (first | ((with_reducible refine Br.dec (fun _ => ?_) (fun _ => ?_)) <;> try (exfalso; omega)) | ((with_reducible refine Br.eq (fun _ => ?_) (fun _ => ?_)) <;> try (exfalso; omega)) | ((with_reducible refine Br.ne (fun _ => ?_) (fun _ => ?_)) <;> try (exfalso; omega)) | ((with_reducible refine brNdec (fun _ => ?_) (fun _ => ?_)) <;> try (exfalso; omega)) | ((with_reducible refine brNeq (fun _ => ?_) (fun _ => ?_)) <;> try (exfalso; omega)) | with_reducible refine Br.intro (fun _ => ?_) (fun _ => ?_) | (with_reducible refine And.intro ?_ ?_; · omega) | simp -dsimp -implicitDefEqProofs (disch := omega) only [VCA, Nat.reduceEqDiff, Nat.reduceBEq, Nat.reduceAdd, Nat.reduceLeDiff, ↓reduceIte, rsOf, rootsOf, SOp.rd, SI.rd, SX.rd, setAt, implies_true, exists_eq_left', rootL, gN, gN9, gk, rl, hr, hnr, hnr2, gg, ly, getD_set_same, List.length_set, List.length_append, ln])
          have O9 : OwnS h9 96 2 (((nd d e.at').attrs ++ [(⟨e.name, []⟩ : HAttr)]).map eAttr) (.osl r 2 0 ((nd d e.at').attrs.length + 1)) :=
            .inr (.inr ⟨r, _, by simp, hr, by simp, by rw [List.take_of_length_le (by simp)]; simp [eAttr]⟩)
          have E1 := E.slotA hn' kp O9 (fun es e => by cases e) (fun t ht => by cases ht; exact hf)
          rw [e0] at E1
          have s1 : upd sl (2 * e.at'.toNat) (.osl r 2 0 ((nd d e.at').attrs.length + 1)) (2 * e.at'.toNat) = .osl r 2 0 ((nd d e.at').attrs.length + 1) := upd_same _ _ _
          have IA := fun h1 => E1.inA (i := e.at'.toNat) (by simpa using hn') (h1 := h1) (l' := setAttr (nd d e.at').attrs e.name e.value)
          rw [s1] at IA
          have sd : ∀ (l : List HAttr), (⟨(d.nodes.set e.at'.toNat { nd d e.at' with attrs := (nd d e.at').attrs ++ [(⟨e.name, []⟩ : HAttr)] }).set e.at'.toNat { nth (d.nodes.set e.at'.toNat { nd d e.at' with attrs := (nd d e.at').attrs ++ [(⟨e.name, []⟩ : HAttr)] }) e.at'.toNat with attrs := l }, d.quirks⟩ : HDoc) = setN d e.at' { nd d e.at' with attrs := l } := fun l => by
            rw [nth_set _ _ _ _ hn', if_pos rfl, List.set_set]; rfl
          simp only [sd] at IA
          have hO : ∀ h8 : Heap, OwnS (upd h8 r (some ⟨.t 96, 2, ((nd d e.at').attrs.map eAttr ++ [[AVal.str e.name, AVal.str []]]).set (nd d e.at').attrs.length [AVal.str e.name, AVal.str e.value]⟩)) 96 2 ((setAttr (nd d e.at').attrs e.name e.value).map eAttr) (.osl r 2 0 ((nd d e.at').attrs.length + 1)) := fun h8 =>
            .inr (.inr ⟨r, _, by rw [hsa]; simp, upd_same _ _ _, by rw [hsa]; simp, by
              rw [hsa, List.take_of_length_le (by simp), List.set_append_right _ _ (by simp)]
              simp [eAttr]⟩)
          refine ⟨_, Sub.refl _, EdR.good eE hm4 (by rw [eD]; exact IA _ (fun t o ho hne => by rw [upd_ne _ _ (fun e => hne (by rw [e]; rfl))]; exact ho) (hO _))⟩
  · rw [if_neg hz] at hE
    have eE2 : editE d e = elemE d e.at' := by
      unfold elemE at hz ⊢
      rw [eE]
      by_cases hn : inD d e.at'
      · rw [if_neg (by simpa using hn)] at hz ⊢
        by_cases hk : (nd d e.at').kind ≠ 2
        · rw [if_neg (show ¬ ¬ inD d e.at' from fun h => h hn)]; rw [if_pos hk]
          try rw [if_pos hk]
        · rw [if_neg hk] at hz; exact absurd rfl hz
      · rw [if_pos hn, if_pos hn]
    refine DCalls.of hE ?_
    rintro _ hh ⟨rfl, rfl⟩
    repeat' (first | ((with_reducible refine Br.dec (fun _ => ?_) (fun _ => ?_)) <;> try (exfalso; omega)) | ((with_reducible refine Br.eq (fun _ => ?_) (fun _ => ?_)) <;> try (exfalso; omega)) | ((with_reducible refine Br.ne (fun _ => ?_) (fun _ => ?_)) <;> try (exfalso; omega)) | ((with_reducible refine brNdec (fun _ => ?_) (fun _ => ?_)) <;> try (exfalso; omega)) | ((with_reducible refine brNeq (fun _ => ?_) (fun _ => ?_)) <;> try (exfalso; omega)) | with_reducible refine Br.intro (fun _ => ?_) (fun _ => ?_) | (with_reducible refine And.intro ?_ ?_; · omega) | simp -dsimp -implicitDefEqProofs (disch := omega) only [VCA, Nat.reduceEqDiff, Nat.reduceAdd, Nat.reduceLT, ↓reduceIte])
    all_goals exact ⟨_, Sub.refl _, EdR.bad eE2 hz⟩
end Go.Proofs.K
end
section
/- The editor: remove, below, deep. -/
set_option linter.unusedSimpArgs false
set_option linter.unusedVariables false
namespace Go.Proofs.K
open Go Go.Sim Go.Proofs
variable {G : Glob}
theorem index_own {h : Heap} {l : List Int} {a : AVal} (O : OwnS h 3 1 (l.map eInt) a) (x : Int) (hl : l.length ≤ 1073741824) : DCalls (Pg G) 80 [a, aInt x] h fun r h' => r = aInt (idxM (· == x) l) ∧ h' = h :=
  DCalls.bor (hasII_ok (G := G) l x hl) (.int _ _) (.cons O.vw (.cons (.refl _) .nil))
theorem getD_set_ne {es : List (List AVal)} {j k : Nat} {x : List AVal} (hk : j ≠ k) : (es.set j x).getD k [] = es.getD k [] := by
  rw [List.getD_eq_getElem?_getD, List.getElem?_set, if_neg hk, List.getD_eq_getElem?_getD]
theorem Dw.rows_eq {X : List Nat} {h0 h1 : Heap} {rN : Nat} {d : HDoc} {sl : Nat → AVal} {T Z : Nat} {es : List (List AVal)} (E : Dw X h0 (upd h1 rN (some ⟨T, Z, es⟩)) rN d sl) : es = rowsA d sl := by
  have nn := E.nodes
  rw [upd_same] at nn
  exact congrArg AObj.es (Option.some.inj nn)
def c150 : SFun := ⟨(.seq (.reg [⟨(some 3), (.boxF 42 12 (.t 1)), none⟩, ⟨(some 4), (.mv (.c (.int .i64 (0)))), none⟩]) (.seq (.reg [⟨(some 8), (.mv (.t 0)), none⟩, ⟨(some 9), (.fldA 1 (.t 3)), none⟩, ⟨(some 10), (.ld 1 false (.t 9)), none⟩, ⟨(some 11), (.call (.c (.fn 180 [] [])) [(.t 8), (.t 10)]), none⟩, ⟨(some 5), (.mv (.t 11)), none⟩]) (.seq (.block 0 (.seq (.reg [⟨(some 13), (.mv (.t 5)), none⟩, ⟨(some 14), (.isnil 1 false (.t 13)), none⟩, ⟨(some 12), (.mv (.t 14)), none⟩]) (.cond (.t 12) (.seq (.reg [⟨(some 4), (.mv (.c (.int .i64 (5)))), none⟩]) .ret) (.seq (.reg [⟨(some 16), (.mv (.t 5)), none⟩, ⟨(some 17), (.fldA 0 (.t 16)), none⟩, ⟨(some 18), (.fldA 0 (.t 17)), none⟩, ⟨(some 19), (.ld 1 false (.t 18)), none⟩, ⟨(some 20), (.bin .eql (.t 19) (.c (.int .i64 (1)))), none⟩, ⟨(some 15), (.mv (.t 20)), none⟩]) (.cond (.t 15) (.seq (.reg [⟨(some 4), (.mv (.c (.int .i64 (7)))), none⟩]) .ret) (.seq (.reg [⟨(some 22), (.mv (.t 5)), none⟩, ⟨(some 23), (.fldA 0 (.t 22)), none⟩, ⟨(some 24), (.fldA 4 (.t 23)), none⟩, ⟨(some 25), (.ld 1 false (.t 24)), none⟩, ⟨(some 26), (.bin .lss (.t 25) (.c (.int .i64 (0)))), none⟩, ⟨(some 21), (.mv (.t 26)), none⟩]) (.cond (.t 21) (.seq (.reg [⟨(some 4), (.mv (.c (.int .i64 (5)))), none⟩]) .ret) .skip))))))) (.seq (.dreg [(⟨(some 27), (.mv (.t 0)), none⟩, none), (⟨(some 28), (.fldA 0 (.t 27)), none⟩, none), (⟨(some 29), (.fldA 0 (.t 28)), none⟩, none), (⟨(some 30), (.fldA 0 (.t 29)), none⟩, none), (⟨(some 31), (.ld 1 false (.t 30)), none⟩, none), (⟨(some 32), (.mv (.t 5)), none⟩, none), (⟨(some 33), (.fldA 0 (.t 32)), none⟩, none), (⟨(some 34), (.fldA 4 (.t 33)), none⟩, none), (⟨(some 35), (.ld 1 false (.t 34)), none⟩, none), (⟨(some 36), (.idxA 6 (.t 31) (.t 35)), none⟩, none), (⟨(some 6), (.mv (.t 36)), none⟩, none)]) (.seq (.dreg [(⟨(some 37), (.mv (.t 6)), none⟩, none), (⟨(some 38), (.fldA 0 (.t 37)), none⟩, none), (⟨(some 39), (.fldA 5 (.t 38)), none⟩, none), (⟨(some 40), (.ld 1 false (.t 39)), none⟩, none), (⟨(some 41), (.fldA 1 (.t 3)), none⟩, none), (⟨(some 42), (.ld 1 false (.t 41)), none⟩, none), (⟨(some 43), (.call (.c (.fn 80 [] [])) [(.t 40), (.t 42)]), none⟩, (some [40, 42])), (⟨(some 7), (.mv (.t 43)), none⟩, none)]) (.seq (.reg [⟨(some 44), (.mv (.t 6)), none⟩, ⟨(some 45), (.mv (.t 5)), none⟩, ⟨(some 46), (.mv (.t 6)), none⟩, ⟨(some 47), (.fldA 0 (.t 46)), none⟩, ⟨(some 48), (.fldA 5 (.t 47)), none⟩, ⟨(some 49), (.ld 1 false (.t 48)), none⟩, ⟨(some 50), (.mv (.t 7)), none⟩, ⟨(some 51), (.mv (.t 7)), none⟩, ⟨(some 52), (.bin .add (.t 51) (.c (.int .i64 (1)))), none⟩, ⟨(some 53), (.call (.c (.fn 116 [] [])) [(.t 49), (.t 50), (.t 52)]), none⟩, ⟨(some 54), (.fldA 0 (.t 44)), none⟩, ⟨(some 55), (.fldA 5 (.t 54)), none⟩, ⟨none, (.st 1 (.t 55) (.t 53)), none⟩, ⟨(some 56), (.fldA 0 (.t 45)), none⟩, ⟨(some 57), (.fldA 4 (.t 56)), none⟩, ⟨none, (.st 1 (.t 57) (.c (.int .i64 (-1)))), none⟩]) (.seq (.reg [⟨(some 4), (.mv (.c (.int .i64 (0)))), none⟩]) .ret))))))), [(.tmp 4)]⟩
theorem hc150 : toSF Tryz.prog {} Tryz.f150 = some c150 := by kernel_rfl
theorem hn150 : (Tryz.f150.name == "runtime.NumGoroutine") = false := by kernel_rfl
theorem eremove_ok {h0 h : Heap} {re rN : Nat} {d : HDoc} {sl : Nat → AVal} {made : Int} (E : Ed h0 h re rN d sl made) (V : DV d) (sm : DocSm d) (e : HEdit) (he : EditSm e) (hdo : e.do' = 6) : DCalls (Pg G) 150 [.vp re 0, .agg (eEdit e)] h (EdR h0 h re d e made) := by
  have gN := E.dw.nodes
  have gE := E.ed
  have ner := E.ne
  have hE := enode_ok (G := G) E e.at'
  unfold nodeP at hE
  have eE : editE d e = if ¬ inD d e.at' then 5 else if (nd d e.at').kind = 1 then 7 else if ¬ 0 ≤ (nd d e.at').parent then 5 else 0 := by unfold editE; rw [if_neg (by omega), if_neg (by omega), if_neg (by omega), if_neg (by omega), if_neg (by omega), if_pos hdo]
  have eD : editD d e = cutN d e.at' (idxM (· == e.at') (nd d (nd d e.at').parent).kids).toNat := by unfold editD; rw [if_neg (by omega), if_neg (by omega), if_neg (by omega), if_neg (by omega), if_neg (by omega)]
  have hm4 : made = if e.do' = 4 then (d.nodes.length : Int) else made := by rw [if_neg (by omega)]
  refine dcalls_of_vc Tryz.func150 hn150 hc150 (by rw [Tryz.ntmps150]; simp) (by rw [Tryz.ntmps150]; decide) ?_
  simp -dsimp -implicitDefEqProofs (disch := omega) only [VCA, Nat.reduceEqDiff, Nat.reduceAdd, Nat.reduceLeDiff, ↓reduceIte, reduceCtorEq, c150, eEdit]
  by_cases hn : inD d e.at'
  · rw [if_pos hn] at hE
    have hn' := hn.nat.1
    have gk := rowsA_get (sl := sl) hn'
    have rl := rowsA_len d sl
    have e0 : nth d.nodes e.at'.toNat = nd d e.at' := rfl
    rw [e0] at gk
    unfold rowA at gk
    rw [if_neg (by simpa using hn)] at eE
    by_cases hk : (nd d e.at').kind = 1
    · rw [if_pos hk] at eE
      refine DCalls.of hE ?_
      rintro _ hh ⟨rfl, rfl⟩
      repeat' (first | ((with_reducible refine Br.dec (fun _ => ?_) (fun _ => ?_)) <;> try (exfalso; omega)) | ((with_reducible refine Br.eq (fun _ => ?_) (fun _ => ?_)) <;> try (exfalso; omega)) | ((with_reducible refine Br.ne (fun _ => ?_) (fun _ => ?_)) <;> try (exfalso; omega)) | ((with_reducible refine brNdec (fun _ => ?_) (fun _ => ?_)) <;> try (exfalso; omega)) | ((with_reducible refine brNeq (fun _ => ?_) (fun _ => ?_)) <;> try (exfalso; omega)) | with_reducible refine Br.intro (fun _ => ?_) (fun _ => ?_) | (with_reducible refine And.intro ?_ ?_; · omega) | simp -dsimp -implicitDefEqProofs (disch := omega) only [VCA, Nat.reduceEqDiff, Nat.reduceAdd, Nat.reduceLeDiff, ↓reduceIte, exists_eq_left', gN, gk, rl])
      all_goals first | (exfalso; omega) | exact ⟨_, Sub.refl _, EdR.bad eE (by decide)⟩
    · rw [if_neg hk] at eE
      by_cases hp : 0 ≤ (nd d e.at').parent
      · rw [if_neg (by simpa using hp)] at eE
        obtain ⟨hpi, hpm⟩ := V.par_in hn hp
        have hp' := hpi.nat.1
        have p1 := hpi.2
        have hne : (nd d e.at').parent ≠ e.at' := fun h => by have := V.up_par hn hp; rw [h] at this; omega
        have hnn : (nd d e.at').parent.toNat ≠ e.at'.toNat := by have := hn.1; omega
        have gp := rowsA_get (sl := sl) hp'
        have ep : nth d.nodes (nd d e.at').parent.toNat = nd d (nd d e.at').parent := rfl
        rw [ep] at gp
        unfold rowA at gp
        obtain ⟨oA, oK⟩ := E.dw.own _ hp'
        rw [ep] at oK
        have kl := (sm.nd (nd d e.at').parent).kids
        have hI := index_own (G := G) oK e.at' kl
        obtain ⟨i1, i2⟩ := idx_at hpm
        have i3 := (idx_mem (nd d (nd d e.at').parent).kids e.at').2 hpm
        have i4 : ((idxM (· == e.at') (nd d (nd d e.at').parent).kids).toNat : Int) = idxM (· == e.at') (nd d (nd d e.at').parent).kids := by omega
        rw [← i4] at hI
        have lv := E.live (2 * (nd d e.at').parent.toNat + 1) (by omega)
        rcases oK.live lv with ⟨q, _⟩ | ⟨r, es, ha, hr, hl, ht⟩
        · have : (nd d (nd d e.at').parent).kids = [] := by simpa using q
          rw [this] at i1; simp at i1
        · rw [List.length_map] at ha hl ht
          have hD := deleteZ_ok (G := G) (i := (idxM (· == e.at') (nd d (nd d e.at').parent).kids).toNat) (j := (idxM (· == e.at') (nd d (nd d e.at').parent).kids).toNat + 1) hr hl (by omega) (by omega) (by omega)
          have SK := fun h1 a' l' => E.slotK hp' (h1 := h1) (a' := a') (l' := l')
          rw [ha] at gp hI SK
          rw [ep] at SK
          have cdef : cutN d e.at' (idxM (· == e.at') (nd d (nd d e.at').parent).kids).toNat = setN (setN d (nd d e.at').parent { nd d (nd d e.at').parent with kids := (nd d (nd d e.at').parent).kids.take (idxM (· == e.at') (nd d (nd d e.at').parent).kids).toNat ++ (nd d (nd d e.at').parent).kids.drop ((idxM (· == e.at') (nd d (nd d e.at').parent).kids).toNat + 1) }) e.at' { nd d e.at' with parent := -1 } := rfl
          generalize (idxM (· == e.at') (nd d (nd d e.at').parent).kids).toNat = i at *
          have hnr : ¬ rN = r := fun h => (E.root_ne (k := 2 * (nd d e.at').parent.toNat + 1) (by omega) (by rw [ha]; rfl)).1 h.symm
          refine DCalls.of hE ?_
          rintro _ hh ⟨rfl, rfl⟩
          repeat' (first | ((with_reducible refine Br.dec (fun _ => ?_) (fun _ => ?_)) <;> try (exfalso; omega)) | ((with_reducible refine Br.eq (fun _ => ?_) (fun _ => ?_)) <;> try (exfalso; omega)) | ((with_reducible refine Br.ne (fun _ => ?_) (fun _ => ?_)) <;> try (exfalso; omega)) | ((with_reducible refine brNdec (fun _ => ?_) (fun _ => ?_)) <;> try (exfalso; omega)) | ((with_reducible refine brNeq (fun _ => ?_) (fun _ => ?_)) <;> try (exfalso; omega)) | with_reducible refine Br.intro (fun _ => ?_) (fun _ => ?_) | ((refine DCalls.of hI ?_; rintro _ hh ⟨rfl, rfl⟩)) | (with_reducible refine And.intro ?_ ?_; · omega) | simp -dsimp -implicitDefEqProofs (disch := omega) only [VCA, Nat.reduceEqDiff, Nat.reduceBEq, Nat.reduceAdd, Nat.reduceLT, Nat.reduceLeDiff, ↓reduceIte, reduceCtorEq, rsOf, rootsOf, SOp.rd, SI.rd, SX.rd, rdL, implies_true, exists_eq_left', rootL, gN, gE, gk, gp, rl])
          all_goals try (exfalso; omega)
          refine DCalls.of hD ?_
          rintro _ _ ⟨rfl, es', rfl, hl2, ht2⟩
          have gne := fun (x : List AVal) => getD_set_ne (es := rowsA d sl) (x := x) hnn
          repeat' (first | ((with_reducible refine Br.dec (fun _ => ?_) (fun _ => ?_)) <;> try (exfalso; omega)) | ((with_reducible refine Br.eq (fun _ => ?_) (fun _ => ?_)) <;> try (exfalso; omega)) | ((with_reducible refine Br.ne (fun _ => ?_) (fun _ => ?_)) <;> try (exfalso; omega)) | ((with_reducible refine brNdec (fun _ => ?_) (fun _ => ?_)) <;> try (exfalso; omega)) | ((with_reducible refine brNeq (fun _ => ?_) (fun _ => ?_)) <;> try (exfalso; omega)) | with_reducible refine Br.intro (fun _ => ?_) (fun _ => ?_) | (with_reducible refine And.intro ?_ ?_; · omega) | simp -dsimp -implicitDefEqProofs (disch := omega) only [VCA, Nat.reduceEqDiff, Nat.reduceAdd, Nat.reduceLeDiff, ↓reduceIte, setAt, exists_eq_left', gN, gk, gp, rl, hnr, gne, List.length_set])
          have ln : ((nd d (nd d e.at').parent).kids.take i ++ (nd d (nd d e.at').parent).kids.drop (i + 1)).length = (nd d (nd d e.at').parent).kids.length - (i + 1 - i) := by
            rw [List.length_append, List.length_take, List.length_drop]; omega
          have hO : OwnS (upd hh r (some ⟨.t 3, 1, es'⟩)) 3 1 (((nd d (nd d e.at').parent).kids.take i ++ (nd d (nd d e.at').parent).kids.drop (i + 1)).map eInt) (.osl r 1 0 ((nd d (nd d e.at').parent).kids.length - (i + 1 - i))) :=
            .inr (.inr ⟨r, es', by rw [List.length_map, ln], upd_same _ _ _, by rw [List.length_map, ln]; exact hl2, by
              rw [List.length_map, ln, ht2, List.map_append, List.map_take, List.map_drop, ← ht, List.take_take, Nat.min_eq_left (by omega)]⟩)
          have E1 := SK _ _ _ (fun t o ho hne => by rw [upd_ne _ _ (fun e => hne (by rw [e]; rfl))]; exact ho) hO (fun es e => by cases e) (fun t ht => .inl ht)
          have nn := E1.dw.rows_eq
          have n1 : nth (d.nodes.set (nd d e.at').parent.toNat { nd d (nd d e.at').parent with kids := (nd d (nd d e.at').parent).kids.take i ++ (nd d (nd d e.at').parent).kids.drop (i + 1) }) e.at'.toNat = nd d e.at' := by
            rw [nth_set _ _ _ _ hp', if_neg (fun h => hnn h.symm)]; rfl
          have E2 := E1.cells (i := e.at'.toNat) (by simpa using hn') (x' := { nd d e.at' with parent := -1 }) (by show _ = (nth (d.nodes.set _ _) _).attrs; rw [n1]) (by show _ = (nth (d.nodes.set _ _) _).kids; rw [n1])
          rw [← nn] at E2
          have v1 : upd sl (2 * (nd d e.at').parent.toNat + 1) (AVal.osl r 1 0 ((nd d (nd d e.at').parent).kids.length - (i + 1 - i))) (2 * e.at'.toNat) = sl (2 * e.at'.toNat) := upd_ne _ _ (by omega)
          have v2 : upd sl (2 * (nd d e.at').parent.toNat + 1) (AVal.osl r 1 0 ((nd d (nd d e.at').parent).kids.length - (i + 1 - i))) (2 * e.at'.toNat + 1) = sl (2 * e.at'.toNat + 1) := upd_ne _ _ (by omega)
          rw [v1, v2, upd_upd] at E2
          exact ⟨_, Sub.refl _, EdR.good eE hm4 (by rw [eD, cdef]; exact E2)⟩
      · rw [if_pos hp] at eE
        refine DCalls.of hE ?_
        rintro _ hh ⟨rfl, rfl⟩
        repeat' (first | ((with_reducible refine Br.dec (fun _ => ?_) (fun _ => ?_)) <;> try (exfalso; omega)) | ((with_reducible refine Br.eq (fun _ => ?_) (fun _ => ?_)) <;> try (exfalso; omega)) | ((with_reducible refine Br.ne (fun _ => ?_) (fun _ => ?_)) <;> try (exfalso; omega)) | ((with_reducible refine brNdec (fun _ => ?_) (fun _ => ?_)) <;> try (exfalso; omega)) | ((with_reducible refine brNeq (fun _ => ?_) (fun _ => ?_)) <;> try (exfalso; omega)) | with_reducible refine Br.intro (fun _ => ?_) (fun _ => ?_) | (with_reducible refine And.intro ?_ ?_; · omega) | simp -dsimp -implicitDefEqProofs (disch := omega) only [VCA, Nat.reduceEqDiff, Nat.reduceAdd, Nat.reduceLeDiff, ↓reduceIte, exists_eq_left', gN, gk, rl])
        all_goals first | (exfalso; omega) | exact ⟨_, Sub.refl _, EdR.bad eE (by decide)⟩
  · rw [if_neg hn] at hE
    rw [if_pos hn] at eE
    refine DCalls.of hE ?_
    rintro _ hh ⟨rfl, rfl⟩
    repeat' (first | ((with_reducible refine Br.dec (fun _ => ?_) (fun _ => ?_)) <;> try (exfalso; omega)) | ((with_reducible refine Br.eq (fun _ => ?_) (fun _ => ?_)) <;> try (exfalso; omega)) | ((with_reducible refine Br.ne (fun _ => ?_) (fun _ => ?_)) <;> try (exfalso; omega)) | ((with_reducible refine brNdec (fun _ => ?_) (fun _ => ?_)) <;> try (exfalso; omega)) | ((with_reducible refine brNeq (fun _ => ?_) (fun _ => ?_)) <;> try (exfalso; omega)) | with_reducible refine Br.intro (fun _ => ?_) (fun _ => ?_) | (with_reducible refine And.intro ?_ ?_; · omega) | simp -dsimp -implicitDefEqProofs (disch := omega) only [VCA, ↓reduceIte])
    all_goals exact ⟨_, Sub.refl _, EdR.bad eE (by decide)⟩
end Go.Proofs.K
end
section
/- The editor: below, deep: readers of the whole. -/
set_option linter.unusedSimpArgs false
set_option linter.unusedVariables false
namespace Go.Proofs.K
open Go Go.Sim Go.Proofs
variable {G : Glob}
def edC (d : HDoc) (made : Int) : List AVal := [sl eNode d.nodes, .bool d.quirks, aInt made]
theorem Ed.vw {h0 h : Heap} {re rN : Nat} {d : HDoc} {sl : Nat → AVal} {made : Int} (E : Ed h0 h re rN d sl made) : Vw h (.vp re 0) (.pin (edC d made)) := by
  refine .vp _ _ _ (.ptr re 0 0 _ _ E.ed (by simp) (by simp [edC]) fun k a b ha hb => ?_)
  have F : F2 (Vw h) [AVal.osl rN 6 0 d.nodes.length, .bool d.quirks, aInt made] (edC d made) := .cons E.dw.vw (.cons (.refl _) (.cons (.refl _) .nil))
  exact F.get k a b ha hb
theorem Ed.vwD {h0 h : Heap} {re rN : Nat} {d : HDoc} {sl : Nat → AVal} {made : Int} (E : Ed h0 h re rN d sl made) : Vw h (.agg [.osl rN 6 0 d.nodes.length, .bool d.quirks]) (.agg (eDoc d)) :=
  Vw.agg' (.cons E.dw.vw (.cons (.refl _) .nil))
def c181 : SFun := ⟨(.seq (.reg [⟨(some 6), (.mv (.c (.bool false))), none⟩]) (.seq (.block 0 (.loop (.seq (.seq (.reg [⟨(some 7), (.mv (.t 1)), none⟩, ⟨(some 8), (.bin .geq (.t 7) (.c (.int .i64 (0)))), none⟩, ⟨(some 9), (.mv (.t 8)), none⟩, ⟨(some 10), (.mv (.t 1)), (some (9, true))⟩, ⟨(some 11), (.mv (.t 2)), (some (9, true))⟩, ⟨(some 12), (.bin .neq (.t 10) (.t 11)), (some (9, true))⟩, ⟨(some 13), (.pick (.t 9) (.t 12) (.c (.bool false))), none⟩]) (.cond (.t 13) .skip (.exit 0))) (.block 1 (.reg [⟨(some 14), (.mv (.t 0)), none⟩, ⟨(some 15), (.fldA 0 (.t 14)), none⟩, ⟨(some 16), (.fldA 0 (.t 15)), none⟩, ⟨(some 17), (.fldA 0 (.t 16)), none⟩, ⟨(some 18), (.ld 1 false (.t 17)), none⟩, ⟨(some 19), (.mv (.t 1)), none⟩, ⟨(some 20), (.idxA 6 (.t 18) (.t 19)), none⟩, ⟨(some 21), (.fldA 4 (.t 20)), none⟩, ⟨(some 22), (.ld 1 false (.t 21)), none⟩, ⟨(some 1), (.mv (.t 22)), none⟩]))))) (.seq (.reg [⟨(some 23), (.mv (.t 1)), none⟩, ⟨(some 24), (.mv (.t 2)), none⟩, ⟨(some 25), (.bin .eql (.t 23) (.t 24)), none⟩, ⟨(some 6), (.mv (.t 25)), none⟩]) .ret))), [(.tmp 6)]⟩
theorem hc181 : toSF Tryz.prog {} Tryz.f181 = some c181 := by kernel_rfl
theorem hn181 : (Tryz.f181.name == "runtime.NumGoroutine") = false := by kernel_rfl
theorem ebelow_ok (d : HDoc) (V : DV d) (made n top : Int) (hn : inD d n) (ht : 0 ≤ top) : PCalls (Pg G) 181 [.pin (edC d made), aInt n, aInt top] (.bool (decide (top ∈ chain d n))) := fun h => by
  have hl := V.len
  refine dcalls_of_vc Tryz.func181 hn181 hc181 (by rw [Tryz.ntmps181]; simp) (by rw [Tryz.ntmps181]; decide) ?_
  simp -dsimp -implicitDefEqProofs (disch := omega) only [VCA, c181, edC]
  refine LoopVC.intro (fun m e h' => ∃ c : Int, m = (if c = -1 then 0 else up d c + 1) ∧ (c = -1 ∨ inD d c) ∧ e 1 = aInt c ∧ e 2 = aInt top ∧ e 0 = .pin (edC d made) ∧ h' = h ∧ (c = -1 → top ∉ chain d n) ∧ (inD d c → (top ∈ chain d n ↔ top ∈ chain d c))) _ ⟨n, rfl, .inr hn, rfl, rfl, rfl, rfl, fun e => by have := hn.1; omega, fun _ => Iff.rfl⟩ ?_
  rintro m e h' ⟨c, rfl, hc, he1, he2, he0, rfl, hno, hyes⟩
  by_cases h2 : c = -1
  · subst h2
    have h3 : ((-1 : Int) == top) = false := by simp; omega
    simp -dsimp -implicitDefEqProofs (disch := omega) only [↓vcOps_sp 9, VCA, ↓reduceIte, he1]
    repeat' (first | ((with_reducible refine Br.dec (fun _ => ?_) (fun _ => ?_)) <;> try (exfalso; omega)) | ((with_reducible refine Br.eq (fun _ => ?_) (fun _ => ?_)) <;> try (exfalso; omega)) | ((with_reducible refine Br.ne (fun _ => ?_) (fun _ => ?_)) <;> try (exfalso; omega)) | ((with_reducible refine brNdec (fun _ => ?_) (fun _ => ?_)) <;> try (exfalso; omega)) | ((with_reducible refine brNeq (fun _ => ?_) (fun _ => ?_)) <;> try (exfalso; omega)) | with_reducible refine Br.intro (fun _ => ?_) (fun _ => ?_) | (with_reducible refine And.intro ?_ ?_; · omega) | simp -dsimp -implicitDefEqProofs (disch := omega) only [VCA, Nat.reduceEqDiff, ↓reduceIte, exists_eq_right_right, he1, he2, h3])
    exact ⟨Sub.refl _, by simp [hno rfl]⟩
  · have hc : inD d c := hc.resolve_left h2
    have hc0 := hc.1
    have hc1 := hc.2
    have e0 : nth d.nodes c.toNat = nd d c := rfl
    simp -dsimp -implicitDefEqProofs (disch := omega) only [↓vcOps_sp 9, VCA, ↓reduceIte, he1]
    repeat' (first | ((with_reducible refine Br.dec (fun _ => ?_) (fun _ => ?_)) <;> try (exfalso; omega)) | ((with_reducible refine Br.eq (fun _ => ?_) (fun _ => ?_)) <;> try (exfalso; omega)) | ((with_reducible refine Br.ne (fun _ => ?_) (fun _ => ?_)) <;> try (exfalso; omega)) | ((with_reducible refine brNdec (fun _ => ?_) (fun _ => ?_)) <;> try (exfalso; omega)) | ((with_reducible refine brNeq (fun _ => ?_) (fun _ => ?_)) <;> try (exfalso; omega)) | with_reducible refine Br.intro (fun _ => ?_) (fun _ => ?_) | (with_reducible refine And.intro ?_ ?_; · omega) | simp -dsimp -implicitDefEqProofs (disch := omega) only [VCA, Nat.reduceEqDiff, Nat.reduceAdd, Nat.reduceLeDiff, ↓reduceIte, reduceCtorEq, exists_eq_right_right, he1, he2, he0, edC, eNode, e0])
    · rename_i h0 h1
      refine ⟨_, ?_, (nd d c).parent, rfl, ?_, rfl, ?_, ?_⟩
      · rw [if_neg (show ¬ c = -1 by omega)]
        split
        · omega
        · rename_i hp
          have := V.up_par hc (by have := V.par c hc; unfold inD at this; omega)
          omega
      · rcases V.par c hc with h | h
        · exact .inl h
        · exact .inr h.1
      · intro hp
        rw [hyes hc, chain_top V (by omega)]
        simp; exact fun e => h1 e.symm
      · intro hp
        rw [hyes hc, chain_up V hc hp.1]
        simp; exact fun e => absurd e.symm h1
    · rename_i h0 h1
      subst h1
      exact ⟨Sub.refl _, by simp [(hyes hc).2 (chain_self _ _)]⟩
def c182 : SFun := ⟨(.seq (.reg [⟨(some 4), (.mv (.c (.int .i64 (0)))), none⟩]) (.seq (.seq (.reg [⟨(some 7), (.mv (.t 0)), none⟩, ⟨(some 8), (.fldA 0 (.t 7)), none⟩, ⟨(some 9), (.fldA 0 (.t 8)), none⟩, ⟨(some 10), (.fldA 0 (.t 9)), none⟩, ⟨(some 11), (.ld 1 false (.t 10)), none⟩, ⟨(some 12), (.mv (.t 1)), none⟩, ⟨(some 13), (.idxA 6 (.t 11) (.t 12)), none⟩, ⟨(some 14), (.fldA 5 (.t 13)), none⟩, ⟨(some 15), (.ld 1 false (.t 14)), none⟩, ⟨(some 16), (.len (.t 15)), none⟩, ⟨(some 17), (.mv (.c (.int .i64 (0)))), none⟩]) (.block 0 (.loop (.seq (.reg [⟨(some 18), (.bin .lss (.t 17) (.t 16)), none⟩]) (.seq (.cond (.t 18) .skip (.exit 0)) (.seq (.block 1 (.seq (.reg [⟨(some 19), (.idxA 1 (.t 15) (.t 17)), none⟩, ⟨(some 20), (.ld 1 false (.t 19)), none⟩, ⟨(some 6), (.mv (.t 20)), none⟩]) (.reg [⟨(some 21), (.mv (.t 4)), none⟩, ⟨(some 22), (.mv (.t 0)), none⟩, ⟨(some 23), (.mv (.t 6)), none⟩, ⟨(some 24), (.pcall 182 [(.t 22), (.t 23)]), none⟩, ⟨(some 25), (.bin .add (.t 24) (.c (.int .i64 (1)))), none⟩, ⟨(some 26), (.max2 (.t 21) (.t 25)), none⟩, ⟨(some 4), (.mv (.t 26)), none⟩]))) (.reg [⟨(some 27), (.bin .add (.t 17) (.c (.int .i64 (1)))), none⟩, ⟨(some 17), (.mv (.t 27)), none⟩]))))))) (.seq (.reg [⟨(some 28), (.mv (.t 4)), none⟩, ⟨(some 4), (.mv (.t 28)), none⟩]) .ret))), [(.tmp 4)]⟩
theorem hc182 : toSF Tryz.prog {pure := [182]} Tryz.f182 = some c182 := by kernel_rfl
theorem hn182 : (Tryz.f182.name == "runtime.NumGoroutine") = false := by kernel_rfl
theorem edeep_ok (d : HDoc) (V : DV d) (sm : DocSm d) (made : Int) : ∀ n, inD d n → PCalls (Pg G) 182 [.pin (edC d made), aInt n] (aInt (low d n)) := V.down fun n hn ih h => by
  have hl := V.len
  have n0 := hn.1
  have n1 := hn.2
  have e0 : nth d.nodes n.toNat = nd d n := rfl
  have kl := (sm.nd n).kids
  refine dcalls_of_vc Tryz.func182 hn182 hc182 (by rw [Tryz.ntmps182]; simp) (by rw [Tryz.ntmps182]; decide) ?_
  simp -dsimp -implicitDefEqProofs (disch := omega) only [VCA, Nat.reduceEqDiff, Nat.reduceAdd, Nat.reduceLeDiff, ↓reduceIte, reduceCtorEq, c182, edC, eNode]
  rw [e0]
  refine ⟨by omega, ?_⟩
  have lk : ∀ k ∈ (nd d n).kids, low d k ≤ 40 := fun k hk => low_40 V (V.kid n hn k hk).1
  rw [low_eq V hn]
  refine LoopVC.intro (fun m e h' => ∃ k : Nat, k ≤ (nd d n).kids.length ∧ m = (nd d n).kids.length - k ∧ e 0 = .pin (edC d made) ∧ e 15 = sl eInt (nd d n).kids ∧ e 16 = aInt (nd d n).kids.length ∧ e 17 = aInt k ∧ e 4 = aInt ((((nd d n).kids.take k).map fun k => low d k + 1).foldl max 0 : Nat) ∧ h' = h) _ ⟨0, by omega, rfl, rfl, rfl, rfl, rfl, rfl, rfl⟩ ?_
  rintro m e h' ⟨k, hk, rfl, he0, he15, he16, he17, he4, rfl⟩
  simp -dsimp -implicitDefEqProofs (disch := omega) only [VCA, ↓reduceIte, he16, he17]
  refine Br.dec (fun hlt => ?_) (fun hge => ?_)
  · have hk' : k < (nd d n).kids.length := by omega
    have hD := ih _ (nth_mem' hk')
    have l40 := lk _ (nth_mem' hk')
    unfold edC at hD
    simp -dsimp -implicitDefEqProofs (disch := omega) only [VCA, Nat.reduceEqDiff, ↓reduceIte, reduceCtorEq, eInt, he0, he15, he17, he4, edC]
    refine ⟨by omega, ?_⟩
    refine pcallE.of (hD) ?_; simp -dsimp -implicitDefEqProofs (disch := omega) only [VCA, Nat.reduceEqDiff, ↓reduceIte, reduceCtorEq, he0, he15, he16, he17]
    refine ⟨_, by omega, k + 1, by omega, rfl, rfl, by omega, ?_⟩
    rw [take_snoc hk', List.map_append, List.foldl_append]
    simp only [List.map_cons, List.map_nil, List.foldl_cons, List.foldl_nil]
    omega
  · obtain rfl : k = (nd d n).kids.length := by omega
    rw [List.take_length] at he4
    simp -dsimp -implicitDefEqProofs (disch := omega) only [VCA, Nat.reduceEqDiff, ↓reduceIte, exists_eq_right, he4]
    exact Sub.refl _
end Go.Proofs.K
end
section
/- Into a list of one's own: slices.Insert. -/
set_option linter.unusedSimpArgs false
set_option linter.unusedVariables false
namespace Go.Proofs.K
open Go Go.Sim Go.Proofs Go.Shelf
variable {G : Glob}
def iren : Ren := ⟨fun | 21 => 117 | 27 => 155 | 28 => 156 | 35 => 184 | 39 => 172 | n => n, fun | 0 => 0 | 3 => 3 | 4 => 4 | 22 => 38 | n => n, fun n => n⟩
theorem lays21 : Lays2.n21 Tryz.prog iren := {
  mixed := by kernel_rfl
  f21 := Tryz.func117.trans (congrArg some (by kernel_rfl))
  f27 := Tryz.func155.trans (congrArg some (by kernel_rfl))
  f28 := Tryz.func156.trans (congrArg some (by kernel_rfl))
  f35 := Tryz.func184.trans (congrArg some (by kernel_rfl))
  f39 := Tryz.func172.trans (congrArg some (by kernel_rfl))
  t0 := Tryz.underlying0
  a0 := Tryz.isAgg0
  z0 := Tryz.sizeOf0
  v0 := Tryz.zeroValue0
  t3 := Tryz.underlying3
  a3 := Tryz.isAgg3
  z3 := Tryz.sizeOf3
  v3 := Tryz.zeroValue3
  t4 := Tryz.underlying4
  a4 := Tryz.isAgg4
  z4 := Tryz.sizeOf4
  v4 := Tryz.zeroValue4
  t22 := Tryz.underlying38
  a22 := Tryz.isAgg38
  z22 := Tryz.sizeOf38
  v22 := Tryz.zeroValue38
  i3 := by kernel_rfl }
theorem setCells_blk (b : Nat) : ∀ (vs : List Value) (o : Nat) (w : World) (cur : Array Value) (t : TypeId) (f : Nat × Nat), w.heap[b]? = some (.cells cur t f) → o + vs.length ≤ cur.size →
    ∃ cur' : Array Value, (w.setCells b o vs).heap[b]? = some (.cells cur' t f) ∧ cur'.size = cur.size ∧ (∀ k, cur'[k]? = if o ≤ k ∧ k < o + vs.length then vs[k - o]? else cur[k]?) ∧ (∀ k, k ≠ b → (w.setCells b o vs).heap[k]? = w.heap[k]?) ∧
      (w.setCells b o vs).heap.size = w.heap.size ∧ (w.setCells b o vs).os = w.os ∧ (w.setCells b o vs).tape = w.tape ∧ (w.setCells b o vs).output = w.output
  | [], o, w, cur, t, f, hb, _ => ⟨cur, hb, rfl, fun k => by rw [if_neg (by simp)], fun _ _ => rfl, rfl, rfl, rfl, rfl⟩
  | v :: r, o, w, cur, t, f, hb, hl => by
    have hlt : b < w.heap.size := (Array.getElem?_eq_some_iff.1 hb).1
    have h1 : (w.setCell ⟨b, o, none⟩ v).heap[b]? = some (.cells (cur.setIfInBounds o v) t f) := by
      unfold World.setCell
      rw [Array.getElem?_modify, if_pos rfl, hb]; rfl
    simp only [List.length_cons] at hl
    obtain ⟨cur', g1, g2, g3, g4, g5, g6, g7, g8⟩ := setCells_blk b r (o + 1) (w.setCell ⟨b, o, none⟩ v) _ t f h1 (by simp; omega)
    refine ⟨cur', g1, by rw [g2]; simp, fun k => ?_, fun k hk => ?_, ?_, g6, g7, g8⟩
    · rw [g3]
      by_cases hk : k = o
      · subst hk
        rw [if_neg (by omega), if_pos (by simp)]
        rw [Array.getElem?_setIfInBounds]
        first | (simp; omega) | simp
        try omega
      · by_cases hi : o + 1 ≤ k ∧ k < o + 1 + r.length
        · rw [if_pos hi, if_pos (by simp; omega), show k - o = (k - (o + 1)) + 1 by omega, List.getElem?_cons_succ]
        · rw [if_neg hi, if_neg (by simp; omega), Array.getElem?_setIfInBounds, if_neg (by omega)]
    · rw [World.setCells, g4 k hk]
      unfold World.setCell
      rw [Array.getElem?_modify, if_neg (fun h => hk h.symm)]
    · rw [World.setCells, g5]; simp [World.setCell]
/-- numbers in a block -/
def IntsAt (cur : Array Value) (bo : Nat) (l : List Int) : Prop := ∀ k, k < l.length → cur[bo + k]? = some (.int .i64 (nth l k))
theorem IntsAt.cells {cur : Array Value} {bo : Nat} {l : List Int} (I : IntsAt cur bo l) (g : Ghost) (w : World) : ∀ (i j : Nat) (e : List AVal) (x : AVal), (l.map eInt)[i]? = some e → e[j]? = some x → ∃ u : Value, cur[bo + (i * 1 + j)]? = some u ∧ u.oneCell' = true ∧ VRel g w u x := by
  intro i j e x he hx
  rw [List.getElem?_map] at he
  obtain ⟨n, hn, rfl⟩ := Option.map_eq_some_iff.1 he
  have hi := (List.getElem?_eq_some_iff.1 hn).1
  have hj : j = 0 := by
    have := (List.getElem?_eq_some_iff.1 hx).1
    simp [eInt] at this; exact this
  subst hj
  cases hx
  have e1 : nth l i = n := by rw [nth_some hi] at hn; exact Option.some.inj hn
  refine ⟨.int .i64 n, ?_, rfl, .int _ _⟩
  have := I i hi
  rw [e1] at this
  simpa using this
theorem ints_block {h : Heap} {g : Ghost} {w : World} (H : HRel h g w) {r : Nat} {es : List (List AVal)} {l : List Int} (hr : h r = some ⟨.t 3, 1, es⟩) (hl : l.length ≤ es.length) (ht : es.take l.length = l.map eInt) (hc : g.cap r ≠ 0) :
    ∃ cur : Array Value, w.heap[g.eta r]? = some (.cells cur 3 (0, 0)) ∧ g.bo r + g.cap r = cur.size ∧ IntsAt cur (g.bo r) l := by
  have O := H.obj r _ hr
  rcases O.block with h0 | ⟨_, _, cur, hcur, hsz, hcell⟩
  · exact absurd h0 hc
  · refine ⟨cur, hcur, by simpa using hsz, fun k hk => ?_⟩
    have he : es[k]? = some (eInt (nth l k)) := by
      have h1 : (es.take l.length)[k]? = some (eInt (nth l k)) := by rw [ht, List.getElem?_map, nth_some hk]; rfl
      rw [List.getElem?_take, if_pos hk] at h1; exact h1
    obtain ⟨u, hu, _, hv⟩ := hcell k 0 _ _ he rfl
    rw [hv.int_inv] at hu
    simpa using hu
/-- a new block of the call's own -/
theorem new_fin {h : Heap} {g : Ghost} {w w' : World} (H : HRel h g w) {cells : Array Value} {cap : Nat} {l : List Int} (hp : w'.heap = (w.alloc (.cells cells 3)).heap) (h1 : w'.os = w.os) (h2 : w'.tape = w.tape) (h3 : w'.output = w.output)
    (hcs : cells.size = cap) (hle : l.length ≤ cap) (hm : cap ≤ maxLen) (I : IntsAt cells 0 l) :
    ∃ g', GS g w g' w' ∧ HRel (upd h g.nxt (some ⟨.t 3, 1, l.map eInt⟩)) g' w' ∧ VRel g' w' (.slice (some ⟨w.heap.size, 0, none⟩) l.length cap) (.osl g.nxt 1 0 l.length) := by
  obtain ⟨S1, H1⟩ := root_new H cells (ty := 3) (sz := 1) (cap := cap) (es := l.map eInt) (by decide) (by omega) (by simpa using hle) (fun e he => by obtain ⟨x, _, rfl⟩ := List.mem_map.1 he; rfl) (fun i j e x he hx => by
    have := I.cells g w i j e x he hx
    simpa using this)
  obtain ⟨S2, H2⟩ := H1.ext (w' := w') (fun b _ => by rw [hp]) h1 h2 h3 (by rw [hp]; exact Nat.le_refl _)
  refine ⟨_, S1.trans S2, H2, ?_⟩
  have := VRel.osl (g := g.add w.heap.size 0 cap 1) (w := w') g.nxt 1 0 l.length cap 0 (Nat.lt_succ_self _) (by simp [Ghost.add]) hle hm (by simp [Ghost.add]) (fun _ => by simp [Ghost.add])
  simpa [Ghost.add] using this
/-- a block of the call's own written over -/
theorem put_fin {h : Heap} {g : Ghost} {w w' : World} (H : HRel h g w) {r : Nat} {es : List (List AVal)} (hr : h r = some ⟨.t 3, 1, es⟩) (hc : g.cap r ≠ 0) {cur' : Array Value} {l : List Int} (hb : w'.heap[g.eta r]? = some (.cells cur' 3 (0, 0)))
    (hs : ∀ b, b ≠ g.eta r → w'.heap[b]? = w.heap[b]?) (hz : w'.heap.size = w.heap.size) (h1 : w'.os = w.os) (h2 : w'.tape = w.tape) (h3 : w'.output = w.output) (hsz : g.bo r + g.cap r = cur'.size) (hle : l.length ≤ g.cap r) (hm : g.cap r ≤ maxLen) (I : IntsAt cur' (g.bo r) l) :
    ∃ g', GS g w g' w' ∧ HRel (upd (del h r) g.nxt (some ⟨.t 3, 1, l.map eInt⟩)) g' w' ∧ VRel g' w' (.slice (some ⟨g.eta r, g.bo r, none⟩) l.length (g.cap r)) (.osl g.nxt 1 0 l.length) := by
  have O := H.obj r _ hr
  rcases O.block with h0 | ⟨hlt, hnf, cur, hcur, _, _⟩
  · exact absurd h0 hc
  · obtain ⟨S, H1⟩ := root_touch H hr hc (w' := w') hs hz h1 h2 h3 ⟨_, _, _, hb⟩
    have H2 := H1.add (blk := g.eta r) (bo := g.bo r) (cap := g.cap r) (sz := 1) (ty := 3) (es := l.map eInt) (by decide) (fun e he => by obtain ⟨x, _, rfl⟩ := List.mem_map.1 he; rfl) (by simpa using hle) (.inr ⟨by rw [hz]; exact hlt, hnf, fun t ob ht h0 he => by
      unfold Sim.del at ht
      split at ht
      · cases ht
      · rename_i hne; exact hne (H.inj t r ob _ ht hr h0 hc he), cur', hb, by omega, I.cells g w'⟩)
    refine ⟨_, S.addTo _ _ _ _ (.inr (.inl ⟨r, O.lt, hc, rfl⟩)), H2, ?_⟩
    have := VRel.osl (g := g.add (g.eta r) (g.bo r) (g.cap r) 1) (w := w') g.nxt 1 0 l.length (g.cap r) (g.bo r) (Nat.lt_succ_self _) (by simp [Ghost.add]) hle hm (by simp [Ghost.add]) (fun _ => by simp [Ghost.add])
    simpa [Ghost.add] using this
theorem ins_len (l : List Int) (i : Nat) (x : Int) (hi : i ≤ l.length) : (l.take i ++ x :: l.drop i).length = l.length + 1 := by
  rw [List.length_append, List.length_cons, List.length_take, List.length_drop]; omega
theorem ins_nth (l : List Int) (i : Nat) (x : Int) (hi : i ≤ l.length) (k : Nat) : nth (l.take i ++ x :: l.drop i) k = if k < i then nth l k else if k = i then x else nth l (k - 1) := by
  unfold nth
  simp only [List.getD_eq_getElem?_getD]
  by_cases h1 : k < i
  · rw [if_pos h1, List.getElem?_append_left (by rw [List.length_take]; omega), List.getElem?_take, if_pos h1]
  · rw [if_neg h1, List.getElem?_append_right (by rw [List.length_take]; omega), List.length_take, Nat.min_eq_left hi]
    by_cases h2 : k = i
    · rw [if_pos h2, h2]; simp
    · rw [if_neg h2, show k - i = (k - i - 1) + 1 by omega, List.getElem?_cons_succ, List.getElem?_drop, show i + (k - i - 1) = k - 1 by omega]
end Go.Proofs.K
end
section
/- Into a list of one's own: the contract of slices.Insert. -/
set_option linter.unusedSimpArgs false
set_option linter.unusedVariables false
namespace Go.Proofs.K
open Go Go.Sim Go.Proofs Go.Shelf
variable {G : Glob}
theorem vrel_three {g : Ghost} {w : World} {vs : Array Value} {a b c : AVal} (V : VRelL g w vs [a, b, c]) : ∃ u v x, vs = #[u, v, x] ∧ VRel g w u a ∧ VRel g w v b ∧ VRel g w x c := by
  obtain ⟨hs, hv⟩ := V
  obtain ⟨l⟩ := vs
  match l, hs with
  | [u, v, x], _ => exact ⟨u, v, x, rfl, hv 0 u a rfl rfl, hv 1 v b rfl rfl, hv 2 x c rfl rfl⟩
def intsV (l : List Int) : List Value := l.map (Value.int .i64)
theorem intsV_get {l : List Int} {j : Nat} {v : Value} (h : (intsV l)[j]? = some v) : j < l.length ∧ v = .int .i64 (nth l j) := by
  unfold intsV at h
  rw [List.getElem?_map] at h
  obtain ⟨n, hn, rfl⟩ := Option.map_eq_some_iff.1 h
  have hj := (List.getElem?_eq_some_iff.1 hn).1
  refine ⟨hj, ?_⟩
  rw [nth_some hj] at hn
  rw [Option.some.inj hn]
theorem intsV_at {l : List Int} {j : Nat} (h : j < l.length) : (intsV l)[j]? = some (.int .i64 (nth l j)) := by
  unfold intsV; rw [List.getElem?_map, nth_some h]; rfl
theorem intsV_one {l : List Int} : ∀ v ∈ intsV l, v.oneCell' = true := fun v hv => by
  obtain ⟨x, _, rfl⟩ := List.mem_map.1 hv; rfl
/-- a number into a list -/
theorem insertI_ok {h : Heap} {a : AVal} {l : List Int} {x : Int} {i rv : Nat} (O : OwnS h 3 1 (l.map eInt) a) (M : Mut a) (hi : i ≤ l.length) (hl : l.length ≤ 100000) (hrv : h rv = some ⟨.t 3, 1, [eInt x]⟩) (hne : rootOf a ≠ some rv) :
    DCalls (Pg G) 117 [a, aInt i, .osl rv 1 0 1] h fun r h' => ∃ r', r = .osl r' 1 0 (l.length + 1) ∧ h' r' = some ⟨.t 3, 1, (l.take i ++ x :: l.drop i).map eInt⟩ ∧ (rootOf a = some r' ∨ h r' = none) ∧ (∀ t o, h t = some o → rootOf a ≠ some t → h' t = some o) := by
  refine ⟨⟨_, Tryz.func117, by kernel_rfl, by kernel_rfl⟩, fun g w vs H GR V => ?_⟩
  obtain ⟨va, vi, vv, rfl, ha, hvi, hv⟩ := vrel_three V
  rw [hvi.int_inv]
  obtain ⟨hrl, hsz, hc⟩ := hv.osl_inv
  rcases hc with ⟨_, _, h0, _⟩ | ⟨capv, offv, rfl, hncv, hmv, hiv, hoffv⟩
  · omega
  have hcv : g.cap rv ≠ 0 := by omega
  obtain ⟨curv, hcurv, hszv, Iv⟩ := ints_block H (l := [x]) hrv (by simp) (by simp) hcv
  have hov : offv = g.bo rv := by have := hoffv (by omega); omega
  subst hov
  have cv : ∀ j v, [Value.int .i64 x][j]? = some v → w.cell? ⟨g.eta rv, g.bo rv + j, none⟩ = some v := fun j v hj => by
    have h1 := intsV_get (l := [x]) (j := j) (v := v) hj
    rw [cell_of_row w _ _ curv _ _ hcurv, Iv j h1.1, h1.2]
  have one1 : ∀ v ∈ [Value.int .i64 x], v.oneCell' = true := fun v hv => by simp at hv; subst hv; rfl
  have nx := H.none_nxt
  have ins := ins_len l i x hi
  have insn := ins_nth l i x hi
  -- where nothing is there yet
  have empty : l = [] → ∀ (A : Option Addr), va = .slice A 0 0 → Calls Tryz.prog 117 #[va, .int .i64 i, .slice (some ⟨g.eta rv, g.bo rv, none⟩) 1 capv] w fun e w' => ∃ v r h' g', e = .returned v ∧ (∃ r', r = .osl r' 1 0 (l.length + 1) ∧ h' r' = some ⟨.t 3, 1, (l.take i ++ x :: l.drop i).map eInt⟩ ∧ (rootOf a = some r' ∨ h r' = none) ∧ (∀ t o, h t = some o → rootOf a ≠ some t → h' t = some o)) ∧ HRel h' g' w' ∧ VRel g' w' v r ∧ GS g w g' w' := by
    intro hl0 A hA
    subst hl0
    obtain rfl : i = 0 := by simpa using hi
    rw [hA]
    refine (Any2.slices_Insert_int_end_grow lays21 A 0 0 (g.eta rv) (g.bo rv) 1 capv [] [.int .i64 x] w (by decide) (by decide) (by decide) (by decide) rfl rfl (fun _ => rfl) (fun _ _ j v hj => by simp at hj) cv one1).mono fun e w' ⟨he, hw⟩ => ?_
    have ge := grownCap_ge w (0 + 1) 0 (iren.t 3)
    have gm := grownCap_le_maxLen w (0 + 1) 0 (iren.t 3) (by decide)
    generalize grownCap w (0 + 1) 0 (iren.t 3) = gc at *
    obtain ⟨g', S, H', V'⟩ := new_fin (w' := w') (l := [x]) (cap := gc) H (by rw [hw]; rfl) (by rw [hw]; rfl) (by rw [hw]; rfl) (by rw [hw]; rfl) (by rw [Array.size_append, size_zeroCells]; show 1 + (gc - (0 + 1)) * 1 = gc; omega) (by simpa using ge) gm (fun k hk => by
      have : k = 0 := by simpa using hk
      subst this
      rw [Array.getElem?_append_left (by simp)]; rfl)
    refine ⟨_, .osl g.nxt 1 0 1, _, g', he, ⟨g.nxt, rfl, upd_same _ _ _, .inr nx, fun t o ht _ => by rw [upd_ne _ _ (fun e => by rw [e, nx] at ht; cases ht)]; exact ht⟩, H', by simpa using V', S⟩
  rcases O.live M with ⟨hl0, rfl⟩ | ⟨r, es, rfl, hr, hle, hte⟩
  · obtain ⟨A, hA, _⟩ := ha.emp_inv
    exact empty (by simpa using hl0) A hA
  · rw [List.length_map] at ha hle hte ⊢
    obtain ⟨_, _, hca⟩ := ha.osl_inv
    rcases hca with ⟨hA, _, h0, _⟩ | ⟨c, off, hA, hnc, hm, hic, hoff⟩
    · have : l = [] := List.eq_nil_of_length_eq_zero h0
      exact empty this none (by rw [hA])
    · have hcap : g.cap r = c := by omega
      have hle2 := (H.obj r _ hr).le
      by_cases hc0 : c = 0
      · have hn0 : l.length = 0 := by omega
        subst hc0
        exact empty (List.eq_nil_of_length_eq_zero hn0) (some ⟨g.eta r, off, none⟩) (by rw [hA, hn0])
      · have hof : off = g.bo r := by have := hoff (by omega); omega
        subst hof
        have hcr : g.cap r ≠ 0 := by omega
        obtain ⟨cur, hcur, hsz2, I⟩ := ints_block H hr hle hte hcr
        rw [hA]
        have cs : ∀ j v, (intsV l)[j]? = some v → w.cell? ⟨g.eta r, g.bo r + j, none⟩ = some v := fun j v hj => by
          obtain ⟨h1, rfl⟩ := intsV_get hj
          rw [cell_of_row w _ _ cur _ _ hcur, I j h1]
        have cln : (intsV l).length = l.length := by simp [intsV]
        have hnb : g.eta rv ≠ g.eta r := fun e => hne (by rw [H.inj rv r _ _ hrv hr hcv hcr e]; rfl)
        have sp : ∀ j, g.bo r + j < cur.size → (w.cell? ⟨g.eta r, g.bo r + j, none⟩).isSome = true := fun j hj => by
          rw [cell_of_row w _ _ cur _ _ hcur, Array.getElem?_eq_getElem hj]; rfl
        have fzn : ∀ b k (cu : Array Value) t, w.heap[b]? = some (.cells cu t (0, 0)) → w.frozen? ⟨b, k, none⟩ = false := fun b k cu t hb => by simp [World.frozen?, hb]
        have kp : ∀ (ob : AObj) t o, h t = some o → rootOf (.osl r 1 0 l.length) ≠ some t → upd (del h r) g.nxt (some ob) t = some o := fun ob t o ht hn => by
          rw [upd_ne _ _ (fun e => by rw [e, nx] at ht; cases ht)]
          unfold del
          rw [if_neg (fun e => hn (by rw [e]; rfl))]; exact ht
        have kp2 : ∀ (ob : AObj) t o, h t = some o → rootOf (.osl r 1 0 l.length) ≠ some t → upd h g.nxt (some ob) t = some o := fun ob t o ht hn => by
          rw [upd_ne _ _ (fun e => by rw [e, nx] at ht; cases ht)]; exact ht
        have dl : ((intsV l).drop i).length = l.length - i := by rw [List.length_drop, cln]
        by_cases hroom : l.length + 1 ≤ c
        · by_cases hin : i < l.length
          · refine (Any2.slices_Insert_int_shift lays21 (g.eta r) (g.bo r) l.length c i (g.eta rv) (g.bo rv) 1 capv (intsV l) [.int .i64 x] w hin (by decide) hroom (by simp only [maxLen] at hm; omega) hnb cln rfl cs (fun j hj => sp j (by omega)) (fun j _ => fzn _ _ _ _ hcur) cv intsV_one one1 3 3 curv.size cur.size (by simp [World.shape?, hcurv]) (by simp [World.shape?, hcur]) (by omega) (fzn _ _ _ _ hcurv) (fzn _ _ _ _ hcurv)).mono fun e w' ⟨he, hw⟩ => ?_
            obtain ⟨c1, b1, s1, k1, o1, z1, p1, p2, p3⟩ := setCells_blk (g.eta r) ((intsV l).drop i) (g.bo r + (i + 1)) w.drew cur _ _ hcur (by rw [dl]; omega)
            obtain ⟨c2, b2, s2, k2, o2, z2, q1, q2, q3⟩ := setCells_blk (g.eta r) [.int .i64 x] (g.bo r + i) (w.drew.setCells (g.eta r) (g.bo r + (i + 1)) ((intsV l).drop i)) c1 _ _ b1 (by simp; omega)
            have I2 : IntsAt c2 (g.bo r) (l.take i ++ x :: l.drop i) := fun k hk => by
              rw [ins] at hk
              rw [k2, insn k]
              by_cases h1 : k = i
              · rw [if_pos (by simp; omega), if_neg (by omega), if_pos h1, h1, Nat.sub_self]; rfl
              · rw [if_neg (by simp; omega), k1, dl]
                by_cases h2 : k < i
                · rw [if_neg (by omega), if_pos h2]; exact I k (by omega)
                · rw [if_pos (by omega), if_neg h2, if_neg h1, List.getElem?_drop, show i + (g.bo r + k - (g.bo r + (i + 1))) = k - 1 by omega]
                  exact intsV_at (by omega)
            obtain ⟨g', S, H', V'⟩ := put_fin (w' := w') (cur' := c2) H hr hcr (by rw [hw]; exact b2) (fun b hb => by rw [hw, o2 b hb, o1 b hb]; rfl) (by rw [hw, z2, z1]; rfl) (by rw [hw, q1, p1]; rfl) (by rw [hw, q2, p2]; rfl) (by rw [hw, q3, p3]; rfl) (by omega) (by omega) (by omega) I2
            rw [ins, hcap] at V'
            exact ⟨_, .osl g.nxt 1 0 (l.length + 1), _, g', he, ⟨g.nxt, rfl, upd_same _ _ _, .inr nx, kp _⟩, H', V', S⟩
          · obtain rfl : i = l.length := by omega
            refine (Any2.slices_Insert_int_end_room lays21 (g.eta r) (g.bo r) l.length c (g.eta rv) (g.bo rv) 1 capv [.int .i64 x] w (by decide) hroom (by simp only [maxLen] at hm; omega) rfl (fun j hj => by rw [Nat.add_assoc]; exact sp _ (by omega)) (fun j _ => fzn _ _ _ _ hcur) cv one1).mono fun e w' ⟨he, hw⟩ => ?_
            obtain ⟨c2, b2, s2, k2, o2, z2, q1, q2, q3⟩ := setCells_blk (g.eta r) [.int .i64 x] (g.bo r + l.length) w cur _ _ hcur (by simp; omega)
            have I2 : IntsAt c2 (g.bo r) (l.take l.length ++ x :: l.drop l.length) := fun k hk => by
              rw [ins] at hk
              rw [k2, insn k]
              by_cases h1 : k = l.length
              · rw [if_pos (by simp; omega), if_neg (by omega), if_pos h1, h1, Nat.sub_self]; rfl
              · rw [if_neg (by simp; omega), if_pos (by omega)]; exact I k (by omega)
            obtain ⟨g', S, H', V'⟩ := put_fin (w' := w') (cur' := c2) H hr hcr (by rw [hw]; exact b2) (fun b hb => by rw [hw, o2 b hb]) (by rw [hw, z2]) (by rw [hw, q1]) (by rw [hw, q2]) (by rw [hw, q3]) (by omega) (by omega) (by omega) I2
            rw [ins, hcap] at V'
            exact ⟨_, .osl g.nxt 1 0 (l.length + 1), _, g', he, ⟨g.nxt, rfl, upd_same _ _ _, .inr nx, kp _⟩, H', V', S⟩
        · have ge := grownCap_ge w (l.length + 1) c (iren.t 3)
          have gm := grownCap_le_maxLen w (l.length + 1) c (iren.t 3) (by simp only [maxLen]; omega)
          by_cases hin : i < l.length
          · refine (Any2.slices_Insert_int_grow lays21 (g.eta r) (g.bo r) l.length c i (g.eta rv) (g.bo rv) 1 capv (intsV l) [.int .i64 x] w hin (by decide) hnc (by omega) (by omega) cln rfl cs cv intsV_one one1).mono fun e w' ⟨he, hw⟩ => ?_
            generalize grownCap w (l.length + 1) c (iren.t 3) = gc at *
            have z0 : ∀ k, (Builtin.zeroCells (Value.int .i64 0).cells k).size = k := fun k => by rw [size_zeroCells]; show k * 1 = k; omega
            rw [show iren.t 3 = 3 from rfl] at hw
            generalize hC0 : (((intsV l).take i).toArray ++ Builtin.zeroCells (Value.int .i64 0).cells (l.length + 1 - i) ++ Builtin.zeroCells (Value.int .i64 0).cells (gc - (l.length + 1))) = C0 at hw
            have sC : C0.size = gc := by
              rw [← hC0, Array.size_append, Array.size_append, z0, z0, List.size_toArray, List.length_take, cln]; omega
            have gC : ∀ k, k < i → C0[k]? = some (.int .i64 (nth l k)) := fun k hk => by
              rw [← hC0, Array.append_assoc, Array.getElem?_append_left (by rw [List.size_toArray, List.length_take, cln]; omega), List.getElem?_toArray, List.getElem?_take, if_pos hk]
              exact intsV_at (by omega)
            have hb0 : (w.alloc (.cells C0 3)).drew.heap[w.heap.size]? = some (.cells C0 3 (0, 0)) := heap_push_new w _
            obtain ⟨c1, b1, s1, k1, o1, z1, p1, p2, p3⟩ := setCells_blk w.heap.size [.int .i64 x] i (w.alloc (.cells C0 3)).drew C0 _ _ hb0 (by simp; omega)
            obtain ⟨c2, b2, s2, k2, o2, z2, q1, q2, q3⟩ := setCells_blk w.heap.size ((intsV l).drop i) (i + 1) ((w.alloc (.cells C0 3)).drew.setCells w.heap.size i [.int .i64 x]).drew c1 _ _ b1 (by rw [dl]; omega)
            have I2 : IntsAt c2 0 (l.take i ++ x :: l.drop i) := fun k hk => by
              rw [ins] at hk
              rw [k2, insn k, dl]
              by_cases h1 : i < k
              · rw [if_pos (by omega), if_neg (by omega), if_neg (by omega), List.getElem?_drop, show i + (0 + k - (i + 1)) = k - 1 by omega]
                exact intsV_at (by omega)
              · rw [if_neg (by omega), k1]
                by_cases h2 : k = i
                · rw [if_pos (by simp; omega), if_neg (by omega), if_pos h2, h2]; simp
                · rw [if_neg (by simp; omega), if_pos (by omega), Nat.zero_add]; exact gC k (by omega)
            have hp : w'.heap = (w.alloc (.cells c2 3)).heap := by
              rw [hw]
              apply Array.ext_getElem?
              intro b
              by_cases hb : b = w.heap.size
              · subst hb; rw [b2]; exact (heap_push_new w _).symm
              · rw [o2 b hb]
                refine (o1 b hb).trans ?_
                show (w.heap.push _)[b]? = (w.heap.push _)[b]?
                rw [Array.getElem?_push, Array.getElem?_push, if_neg hb, if_neg hb]
            obtain ⟨g', S, H', V'⟩ := new_fin (w' := w') (cap := gc) H hp (by rw [hw, q1]; exact p1) (by rw [hw, q2]; exact p2) (by rw [hw, q3]; exact p3) (by omega) (by omega) gm I2
            rw [ins] at V'
            exact ⟨_, .osl g.nxt 1 0 (l.length + 1), _, g', he, ⟨g.nxt, rfl, upd_same _ _ _, .inr nx, kp2 _⟩, H', V', S⟩
          · obtain rfl : i = l.length := by omega
            refine (Any2.slices_Insert_int_end_grow lays21 (some ⟨g.eta r, g.bo r, none⟩) l.length c (g.eta rv) (g.bo rv) 1 capv (intsV l) [.int .i64 x] w (by decide) hnc (by omega) (by omega) cln rfl (fun h => by cases h) (fun a ha j v hj => by cases ha; rw [Addr.add_lit]; exact cs j v hj) cv one1).mono fun e w' ⟨he, hw⟩ => ?_
            generalize grownCap w (l.length + 1) c (iren.t 3) = gc at *
            have z0 : ∀ k, (Builtin.zeroCells (Value.int .i64 0).cells k).size = k := fun k => by rw [size_zeroCells]; show k * 1 = k; omega
            obtain ⟨g', S, H', V'⟩ := new_fin (w' := w') (l := l.take l.length ++ x :: l.drop l.length) (cap := gc) H (by rw [hw]; rfl) (by rw [hw]; rfl) (by rw [hw]; rfl) (by rw [hw]; rfl) (by rw [Array.size_append, z0, List.size_toArray, List.length_append, cln, List.length_singleton]; omega) (by omega) gm (fun k hk => by
              rw [ins] at hk
              rw [Nat.zero_add, insn k, Array.getElem?_append_left (by rw [List.size_toArray, List.length_append, cln, List.length_singleton]; omega), List.getElem?_toArray]
              by_cases h1 : k < l.length
              · rw [if_pos h1, List.getElem?_append_left (by omega)]; exact intsV_at h1
              · rw [if_neg h1, if_pos (by omega), List.getElem?_append_right (by omega), cln, show k - l.length = 0 by omega]; rfl)
            rw [ins] at V'
            exact ⟨_, .osl g.nxt 1 0 (l.length + 1), _, g', he, ⟨g.nxt, rfl, upd_same _ _ _, .inr nx, kp2 _⟩, H', V', S⟩
end Go.Proofs.K
end
section
/- The editor: insert. -/
set_option linter.unusedSimpArgs false
set_option linter.unusedVariables false
namespace Go.Proofs.K
open Go Go.Sim Go.Proofs
variable {G : Glob}
theorem Dw.mono {X : List Nat} {h0 h h2 : Heap} {rN : Nat} {d : HDoc} {sl : Nat → AVal} (E : Dw X h0 h rN d sl) (S : Sim.Sub h h2) : Dw X h0 h2 rN d sl :=
  ⟨E.sub.trans S, S _ _ E.nodes, E.new, fun i hi => ⟨(E.own i hi).1.keep fun r o _ ho => S _ _ ho, (E.own i hi).2.keep fun r o _ ho => S _ _ ho⟩, E.fresh, E.sep, fun r hr => by obtain ⟨o, ho⟩ := E.keep r hr; exact ⟨o, S _ _ ho⟩⟩
theorem Ed.mono {h0 h h2 : Heap} {re rN : Nat} {d : HDoc} {sl : Nat → AVal} {made : Int} (E : Ed h0 h re rN d sl made) (S : Sim.Sub h h2) : Ed h0 h2 re rN d sl made := ⟨E.dw.mono S, S _ _ E.ed, E.new, E.live⟩
def c149_s6 : SCode := (.seq (.dreg [(⟨(some 97), (.mv (.t 5)), none⟩, none), (⟨(some 98), (.mv (.t 5)), none⟩, none), (⟨(some 99), (.fldA 0 (.t 98)), none⟩, none), (⟨(some 100), (.fldA 5 (.t 99)), none⟩, none), (⟨(some 101), (.ld 1 false (.t 100)), none⟩, none), (⟨(some 102), (.mv (.t 7)), none⟩, none), (⟨(some 103), (.fldA 2 (.t 3)), none⟩, none), (⟨(some 104), (.ld 1 false (.t 103)), none⟩, none), (⟨(some 105), (.bldR 3 1 [(.t 104)]), none⟩, (some [104])), (⟨(some 106), (.call (.c (.fn 117 [] [])) [(.t 101), (.t 102), (.t 105)]), none⟩, (some [101, 104])), (⟨(some 107), (.fldA 0 (.t 97)), none⟩, none), (⟨(some 108), (.fldA 5 (.t 107)), none⟩, none), (⟨none, (.st 1 (.t 108) (.t 106)), none⟩, (some [101, 104]))]) (.seq (.reg [⟨(some 109), (.mv (.t 6)), none⟩, ⟨(some 110), (.fldA 1 (.t 3)), none⟩, ⟨(some 111), (.ld 1 false (.t 110)), none⟩, ⟨(some 112), (.fldA 0 (.t 109)), none⟩, ⟨(some 113), (.fldA 4 (.t 112)), none⟩, ⟨none, (.st 1 (.t 113) (.t 111)), none⟩]) (.seq (.reg [⟨(some 4), (.mv (.c (.int .i64 (0)))), none⟩]) .ret)))
def c149_s5 : SCode := (.seq (.block 1 (.seq (.reg [⟨(some 73), (.mv (.t 7)), none⟩, ⟨(some 74), (.bin .lss (.t 73) (.c (.int .i64 (0)))), none⟩, ⟨(some 72), (.mv (.t 74)), none⟩]) (.cond (.t 72) (.seq (.reg [⟨(some 4), (.mv (.c (.int .i64 (5)))), none⟩]) .ret) (.seq (.reg [⟨(some 76), (.mv (.t 0)), none⟩, ⟨(some 77), (.fldA 1 (.t 3)), none⟩, ⟨(some 78), (.ld 1 false (.t 77)), none⟩, ⟨(some 79), (.fldA 2 (.t 3)), none⟩, ⟨(some 80), (.ld 1 false (.t 79)), none⟩, ⟨(some 81), (.call (.c (.fn 181 [] [])) [(.t 76), (.t 78), (.t 80)]), none⟩, ⟨(some 75), (.mv (.t 81)), none⟩]) (.cond (.t 75) (.seq (.reg [⟨(some 4), (.mv (.c (.int .i64 (8)))), none⟩]) .ret) (.seq (.dreg [(⟨(some 83), (.mv (.t 0)), none⟩, none), (⟨(some 84), (.fldA 0 (.t 83)), none⟩, none), (⟨(some 85), (.fldA 0 (.t 84)), none⟩, none), (⟨(some 86), (.ld 2 true (.t 85)), none⟩, none), (⟨(some 87), (.fldA 1 (.t 3)), none⟩, none), (⟨(some 88), (.ld 1 false (.t 87)), none⟩, none), (⟨(some 91), (.mv (.t 0)), none⟩, none), (⟨(some 92), (.fldA 2 (.t 3)), none⟩, none), (⟨(some 93), (.ld 1 false (.t 92)), none⟩, none), (⟨(some 89), (.call (.c (.fn 91 [] [])) [(.t 86), (.t 88)]), none⟩, (some [86, 88])), (⟨(some 90), (.bin .add (.t 89) (.c (.int .i64 (1)))), none⟩, none), (⟨(some 94), (.call (.c (.fn 182 [] [])) [(.t 91), (.t 93)]), none⟩, (some [93, 86, 88])), (⟨(some 95), (.bin .add (.t 90) (.t 94)), none⟩, none), (⟨(some 96), (.bin .gtr (.t 95) (.c (.int .i64 (40)))), none⟩, none), (⟨(some 82), (.mv (.t 96)), none⟩, none)]) (.cond (.t 82) (.seq (.reg [⟨(some 4), (.mv (.c (.int .i64 (2)))), none⟩]) .ret) .skip))))))) c149_s6)
def c149 : SFun := ⟨(.seq (.reg [⟨(some 3), (.boxF 42 12 (.t 1)), none⟩, ⟨(some 4), (.mv (.c (.int .i64 (0)))), none⟩]) (.seq (.dreg [(⟨(some 8), (.mv (.t 0)), none⟩, none), (⟨(some 9), (.fldA 1 (.t 3)), none⟩, none), (⟨(some 10), (.ld 1 false (.t 9)), none⟩, none), (⟨(some 12), (.mv (.t 0)), none⟩, none), (⟨(some 13), (.fldA 2 (.t 3)), none⟩, none), (⟨(some 14), (.ld 1 false (.t 13)), none⟩, none), (⟨(some 11), (.call (.c (.fn 180 [] [])) [(.t 8), (.t 10)]), none⟩, (some [10])), (⟨(some 15), (.call (.c (.fn 180 [] [])) [(.t 12), (.t 14)]), none⟩, (some [14, 10])), (⟨(some 5), (.mv (.t 11)), none⟩, none), (⟨(some 6), (.mv (.t 15)), none⟩, none)]) (.seq (.block 0 (.seq (.reg [⟨(some 17), (.mv (.t 5)), none⟩, ⟨(some 18), (.isnil 1 false (.t 17)), none⟩, ⟨(some 19), (.mv (.t 18)), none⟩, ⟨(some 20), (.mv (.t 6)), (some (19, false))⟩, ⟨(some 21), (.isnil 1 false (.t 20)), (some (19, false))⟩, ⟨(some 22), (.pick (.t 19) (.c (.bool true)) (.t 21)), none⟩, ⟨(some 16), (.mv (.t 22)), none⟩]) (.cond (.t 16) (.seq (.reg [⟨(some 4), (.mv (.c (.int .i64 (5)))), none⟩]) .ret) (.seq (.reg [⟨(some 24), (.mv (.t 5)), none⟩, ⟨(some 25), (.fldA 0 (.t 24)), none⟩, ⟨(some 26), (.fldA 0 (.t 25)), none⟩, ⟨(some 27), (.ld 1 false (.t 26)), none⟩, ⟨(some 28), (.pcall 157 [(.t 27)]), none⟩, ⟨(some 29), (.un .not (.t 28)), none⟩, ⟨(some 30), (.mv (.t 29)), none⟩, ⟨(some 31), (.mv (.t 6)), (some (30, false))⟩, ⟨(some 32), (.fldA 0 (.t 31)), (some (30, false))⟩, ⟨(some 33), (.fldA 0 (.t 32)), (some (30, false))⟩, ⟨(some 34), (.ld 1 false (.t 33)), (some (30, false))⟩, ⟨(some 35), (.bin .eql (.t 34) (.c (.int .i64 (1)))), (some (30, false))⟩, ⟨(some 36), (.pick (.t 30) (.c (.bool true)) (.t 35)), none⟩, ⟨(some 37), (.mv (.t 36)), none⟩, ⟨(some 38), (.mv (.t 5)), (some (37, false))⟩, ⟨(some 39), (.fldA 0 (.t 38)), (some (37, false))⟩, ⟨(some 40), (.fldA 0 (.t 39)), (some (37, false))⟩, ⟨(some 41), (.ld 1 false (.t 40)), (some (37, false))⟩, ⟨(some 42), (.bin .eql (.t 41) (.c (.int .i64 (1)))), (some (37, false))⟩, ⟨(some 43), (.mv (.t 42)), (some (37, false))⟩, ⟨(some 44), (.mv (.t 6)), (some (43, true))⟩, ⟨(some 45), (.fldA 0 (.t 44)), (some (43, true))⟩, ⟨(some 46), (.fldA 0 (.t 45)), (some (43, true))⟩, ⟨(some 47), (.ld 1 false (.t 46)), (some (43, true))⟩, ⟨(some 48), (.bin .eql (.t 47) (.c (.int .i64 (3)))), (some (43, true))⟩, ⟨(some 49), (.pick (.t 43) (.t 48) (.c (.bool false))), (some (37, false))⟩, ⟨(some 50), (.pick (.t 37) (.c (.bool true)) (.t 49)), none⟩, ⟨(some 23), (.mv (.t 50)), none⟩]) (.cond (.t 23) (.seq (.reg [⟨(some 4), (.mv (.c (.int .i64 (7)))), none⟩]) .ret) (.seq (.reg [⟨(some 52), (.mv (.t 6)), none⟩, ⟨(some 53), (.fldA 0 (.t 52)), none⟩, ⟨(some 54), (.fldA 4 (.t 53)), none⟩, ⟨(some 55), (.ld 1 false (.t 54)), none⟩, ⟨(some 56), (.bin .geq (.t 55) (.c (.int .i64 (0)))), none⟩, ⟨(some 51), (.mv (.t 56)), none⟩]) (.cond (.t 51) (.seq (.reg [⟨(some 4), (.mv (.c (.int .i64 (9)))), none⟩]) .ret) .skip))))))) (.seq (.reg [⟨(some 57), (.mv (.t 5)), none⟩, ⟨(some 58), (.fldA 0 (.t 57)), none⟩, ⟨(some 59), (.fldA 5 (.t 58)), none⟩, ⟨(some 60), (.ld 1 false (.t 59)), none⟩, ⟨(some 61), (.len (.t 60)), none⟩, ⟨(some 7), (.mv (.t 61)), none⟩]) (.seq (.seq (.reg [⟨(some 62), (.fldA 3 (.t 3)), none⟩, ⟨(some 63), (.ld 1 false (.t 62)), none⟩, ⟨(some 64), (.bin .neq (.t 63) (.c (.int .i64 (-1)))), none⟩]) (.cond (.t 64) (.dreg [(⟨(some 65), (.mv (.t 5)), none⟩, none), (⟨(some 66), (.fldA 0 (.t 65)), none⟩, none), (⟨(some 67), (.fldA 5 (.t 66)), none⟩, none), (⟨(some 68), (.ld 1 false (.t 67)), none⟩, none), (⟨(some 69), (.fldA 3 (.t 3)), none⟩, none), (⟨(some 70), (.ld 1 false (.t 69)), none⟩, none), (⟨(some 71), (.call (.c (.fn 80 [] [])) [(.t 68), (.t 70)]), none⟩, (some [68, 70])), (⟨(some 7), (.mv (.t 71)), none⟩, none)]) .skip)) c149_s5))))), [(.tmp 4)]⟩
theorem hc149 : toSF Tryz.prog {pure := [157], how := [(105, 2)]} Tryz.f149 = some c149 := by kernel_rfl
theorem hn149 : (Tryz.f149.name == "runtime.NumGoroutine") = false := by kernel_rfl
theorem einsert_ok {h0 h : Heap} {re rN : Nat} {d : HDoc} {sl : Nat → AVal} {made : Int} (E : Ed h0 h re rN d sl made) (V : DV d) (sm : DocSm d) (e : HEdit) (he : EditSm e) (hdo : e.do' = 5) : DCalls (Pg G) 149 [.vp re 0, .agg (eEdit e)] h (EdR h0 h re d e made) := by
  have gN := E.dw.nodes
  have gE := E.ed
  have ner := E.ne
  have vl := V.len
  have hE1 := enode_ok (G := G) E e.at'
  have hE2 := enode_ok (G := G) E e.to
  unfold nodeP at hE1 hE2
  have eE : editE d e = if ¬ inD d e.at' ∨ ¬ inD d e.to then 5
    else if ¬ ((nd d e.at').kind = 1 ∨ (nd d e.at').kind = 2) ∨ (nd d e.to).kind = 1 ∨ ((nd d e.at').kind = 1 ∧ (nd d e.to).kind = 3) then 7
    else if 0 ≤ (nd d e.to).parent then 9 else if e.before ≠ -1 ∧ e.before ∉ (nd d e.at').kids then 5 else if e.to ∈ chain d e.at' then 8
    else if 40 < up d e.at' + 1 + low d e.to then 2 else 0 := by unfold editE; rw [if_neg (by omega), if_neg (by omega), if_neg (by omega), if_neg (by omega), if_pos hdo]
  have eD : editD d e = hung d e.at' e.to (insAt d e) := by unfold editD; rw [if_neg (by omega), if_neg (by omega), if_neg (by omega), if_neg (by omega), if_pos hdo]
  have hm4 : made = if e.do' = 4 then (d.nodes.length : Int) else made := by rw [if_neg (by omega)]
  have s5 : inD d e.at' → inD d e.to → ((nd d e.at').kind = 1 ∨ (nd d e.at').kind = 2) → ¬ (nd d e.to).kind = 1 → ¬ 0 ≤ (nd d e.to).parent → ¬ (e.before ≠ -1 ∧ e.before ∉ (nd d e.at').kids) →
      editE d e = (if e.to ∈ chain d e.at' then 8 else if 40 < up d e.at' + 1 + low d e.to then 2 else 0) → ∀ env : Env, env 0 = .vp re 0 → env 3 = .pin (eEdit e) → env 5 = .ptr rN e.at'.toNat 0 → env 6 = .ptr rN e.to.toNat 0 → env 7 = aInt (insAt d e) →
      vc (Pg G) c149_s5 (retK [.tmp 4] (EdR h0 h re d e made)) env h := by
    intro ha ht hp h71 h9 hb eE env v0 v3 v5 v6 v7
    have ha' := ha.nat.1
    have ht' := ht.nat.1
    have a0 := ha.1
    have t0 := ht.1
    have hBe := (ebelow_ok (G := G) d V made e.at' e.to ha t0)
    have hBe2 : DCalls (Pg G) 181 [.vp re 0, aInt e.at', aInt e.to] h fun r h' => r = .bool (decide (e.to ∈ chain d e.at')) ∧ h' = h := DCalls.bor hBe (.bool _) (.cons E.vw (.cons (.refl _) (.cons (.refl _) .nil)))
    have hUp : DCalls (Pg G) 91 [.agg [.osl rN 6 0 d.nodes.length, .bool d.quirks], aInt e.at'] h fun r h' => r = aInt (up d e.at') ∧ h' = h := DCalls.bor (up_ok (G := G) d sm (fun n hn hp => (V.par_in hn hp).1) e.at' ha) (.int _ _) (.cons E.vwD (.cons (.refl _) .nil))
    have hDe : DCalls (Pg G) 182 [.vp re 0, aInt e.to] h fun r h' => r = aInt (low d e.to) ∧ h' = h := DCalls.bor (edeep_ok (G := G) d V sm made e.to ht) (.int _ _) (.cons E.vw (.cons (.refl _) .nil))
    have u40 := V.deep e.at' ha
    have l40 := low_40 V ht
    have s6 : e.to ∉ chain d e.at' → editE d e = 0 → ∀ env : Env, env 3 = .pin (eEdit e) → env 5 = .ptr rN e.at'.toNat 0 → env 6 = .ptr rN e.to.toNat 0 → env 7 = aInt (insAt d e) →
        vc (Pg G) c149_s6 (retK [.tmp 4] (EdR h0 h re d e made)) env h := by
      intro hc eE env v3 v5 v6 v7
      unfold c149_s6
      skip
      have ga := rowsA_get (sl := sl) ha'
      have gt := rowsA_get (sl := sl) ht'
      have rl := rowsA_len d sl
      have e0 : nth d.nodes e.at'.toNat = nd d e.at' := rfl
      have e1 : nth d.nodes e.to.toNat = nd d e.to := rfl
      rw [e0] at ga
      rw [e1] at gt
      unfold rowA at ga gt
      have kl := (sm.nd e.at').kids
      have lv := E.live (2 * e.at'.toNat + 1) (by omega)
      have hne : e.at' ≠ e.to := fun h => hc (by rw [h]; exact chain_self _ _)
      have hnn : e.at'.toNat ≠ e.to.toNat := by omega
      have hIl : insAt d e ≤ (nd d e.at').kids.length := by
        unfold insAt
        have := idxM_leK (nd d e.at').kids e.before
        split <;> omega
      have nr0 : ∀ t, rootOf (sl (2 * e.at'.toNat + 1)) = some t → t ≠ rN := fun t ht => (E.root_ne (by omega) ht).1
      have kb : (nd d e.at').kids.length ≤ 100000 := by
        have := nodup_len d.nodes.length (nd d e.at').kids (V.nodup _ ha) (fun k hk => (V.kid _ ha k hk).1)
        omega
      simp -dsimp -implicitDefEqProofs (disch := omega) only [VCA, Nat.reduceEqDiff, Nat.reduceBEq, Nat.reduceAdd, Nat.reduceLeDiff, ↓reduceIte, rsOf, rootsOf, SOp.rd, SI.rd, SX.rd, rdL, okParts, forall_const, exists_eq_left', rootL, lit_eq, v3, v5, v7, gN, ga, rl, eEdit]
      refine ⟨by omega, fun r hr => ?_⟩
      have nr : ¬ rN = r := fun h => by rw [← h, gN] at hr; cases hr
      have S1 := (Sub.refl h).upd (x := some ⟨.t 3, 1, [eInt e.to]⟩) hr
      have E1 := E.mono S1
      obtain ⟨oA, oK⟩ := E1.dw.own _ ha'
      rw [e0] at oK
      have hIns := insertI_ok (G := G) (x := e.to) (i := insAt d e) oK lv hIl kb (upd_same _ _ _) (fun h => by obtain ⟨o, ho⟩ := E.dw.slot (k := 2 * e.at'.toNat + 1) (by omega) h; rw [hr] at ho; cases ho)
      have gN1 := E1.dw.nodes
      have keepN : ∀ h9 : Heap, (∀ t o, upd h r (some ⟨.t 3, 1, [eInt e.to]⟩) t = some o → rootOf (sl (2 * e.at'.toNat + 1)) ≠ some t → h9 t = some o) → h9 rN = some ⟨.t 40, 6, rowsA d sl⟩ := fun h9 kp => kp rN _ gN1 (fun h => nr0 _ h rfl)
      unfold eInt at hIns
      simp -dsimp -implicitDefEqProofs (disch := omega) only [VCA, ↓reduceIte, nr]
      refine DCalls.of hIns ?_
      rintro _ h9 ⟨r', rfl, hr', hf, kp⟩
      have gN9 := keepN h9 kp
      have gne := fun (x : List AVal) => getD_set_ne (es := rowsA d sl) (x := x) hnn
      repeat' (first | ((with_reducible refine Br.dec (fun _ => ?_) (fun _ => ?_)) <;> try (exfalso; omega)) | ((with_reducible refine Br.eq (fun _ => ?_) (fun _ => ?_)) <;> try (exfalso; omega)) | ((with_reducible refine Br.ne (fun _ => ?_) (fun _ => ?_)) <;> try (exfalso; omega)) | ((with_reducible refine brNdec (fun _ => ?_) (fun _ => ?_)) <;> try (exfalso; omega)) | ((with_reducible refine brNeq (fun _ => ?_) (fun _ => ?_)) <;> try (exfalso; omega)) | with_reducible refine Br.intro (fun _ => ?_) (fun _ => ?_) | (with_reducible refine And.intro ?_ ?_; · omega) | simp -dsimp -implicitDefEqProofs (disch := omega) only [VCA, Nat.reduceEqDiff, Nat.reduceBEq, Nat.reduceAdd, Nat.reduceLeDiff, ↓reduceIte, rsOf, rootsOf, SOp.rd, SI.rd, SX.rd, rdL, setAt, implies_true, exists_eq_left', rootL, v3, v6, gN, gN9, ga, gt, rl, nr, gne, List.length_set, eEdit])
      have ln := ins_len (nd d e.at').kids (insAt d e) e.to hIl
      have hO : OwnS h9 3 1 (((nd d e.at').kids.take (insAt d e) ++ e.to :: (nd d e.at').kids.drop (insAt d e)).map eInt) (.osl r' 1 0 ((nd d e.at').kids.length + 1)) :=
        .inr (.inr ⟨r', _, by rw [List.length_map, ln], hr', Nat.le_refl _, List.take_length⟩)
      have E2 := E1.slotK ha' kp hO (fun es e => by cases e) (fun t ht => by cases ht; exact hf)
      rw [e0] at E2
      have nn := E2.dw.rows_eq
      have n1 : nth (d.nodes.set e.at'.toNat { nd d e.at' with kids := (nd d e.at').kids.take (insAt d e) ++ e.to :: (nd d e.at').kids.drop (insAt d e) }) e.to.toNat = nd d e.to := by
        rw [nth_set _ _ _ _ ha', if_neg (fun h => hnn h.symm)]; rfl
      have E3 := E2.cells (i := e.to.toNat) (by simpa using ht') (x' := { nd d e.to with parent := e.at' }) (by show _ = (nth (d.nodes.set _ _) _).attrs; rw [n1]) (by show _ = (nth (d.nodes.set _ _) _).kids; rw [n1])
      rw [← nn] at E3
      have v1 : upd sl (2 * e.at'.toNat + 1) (AVal.osl r' 1 0 ((nd d e.at').kids.length + 1)) (2 * e.to.toNat) = sl (2 * e.to.toNat) := upd_ne _ _ (by omega)
      have v2 : upd sl (2 * e.at'.toNat + 1) (AVal.osl r' 1 0 ((nd d e.at').kids.length + 1)) (2 * e.to.toNat + 1) = sl (2 * e.to.toNat + 1) := upd_ne _ _ (by omega)
      rw [v1, v2, upd_upd] at E3
      exact ⟨_, Sub.refl _, EdR.good eE hm4 (by rw [eD]; exact E3)⟩
    unfold c149_s5
    skip
    simp -dsimp -implicitDefEqProofs (disch := omega) only [VCA, ↓reduceIte, v7]
    by_cases hc : e.to ∈ chain d e.at'
    · rw [if_pos hc] at eE
      rw [decide_eq_true hc] at hBe2
      repeat' (first | ((with_reducible refine Br.dec (fun _ => ?_) (fun _ => ?_)) <;> try (exfalso; omega)) | ((with_reducible refine Br.eq (fun _ => ?_) (fun _ => ?_)) <;> try (exfalso; omega)) | ((with_reducible refine Br.ne (fun _ => ?_) (fun _ => ?_)) <;> try (exfalso; omega)) | ((with_reducible refine brNdec (fun _ => ?_) (fun _ => ?_)) <;> try (exfalso; omega)) | ((with_reducible refine brNeq (fun _ => ?_) (fun _ => ?_)) <;> try (exfalso; omega)) | with_reducible refine Br.intro (fun _ => ?_) (fun _ => ?_) | ((refine DCalls.of hBe2 ?_; rintro _ hh ⟨rfl, rfl⟩)) | (with_reducible refine And.intro ?_ ?_; · omega) | simp -dsimp -implicitDefEqProofs (disch := omega) only [VCA, Nat.reduceEqDiff, Nat.reduceAdd, Nat.reduceLeDiff, ↓reduceIte, reduceCtorEq, v0, v3, eEdit])
      all_goals first | (exfalso; omega) | exact ⟨_, Sub.refl _, EdR.bad eE (by decide)⟩ | trace_state
    · rw [if_neg hc] at eE
      rw [decide_eq_false hc] at hBe2
      by_cases h2 : 40 < up d e.at' + 1 + low d e.to
      · rw [if_pos h2] at eE
        repeat' (first | ((with_reducible refine Br.dec (fun _ => ?_) (fun _ => ?_)) <;> try (exfalso; omega)) | ((with_reducible refine Br.eq (fun _ => ?_) (fun _ => ?_)) <;> try (exfalso; omega)) | ((with_reducible refine Br.ne (fun _ => ?_) (fun _ => ?_)) <;> try (exfalso; omega)) | ((with_reducible refine brNdec (fun _ => ?_) (fun _ => ?_)) <;> try (exfalso; omega)) | ((with_reducible refine brNeq (fun _ => ?_) (fun _ => ?_)) <;> try (exfalso; omega)) | with_reducible refine Br.intro (fun _ => ?_) (fun _ => ?_) | ((refine DCalls.of hBe2 ?_; rintro _ hh ⟨rfl, rfl⟩)) | ((refine DCalls.of hUp ?_; rintro _ hh ⟨rfl, rfl⟩)) | ((refine DCalls.of hDe ?_; rintro _ hh ⟨rfl, rfl⟩)) | (with_reducible refine And.intro ?_ ?_; · omega) | simp -dsimp -implicitDefEqProofs (disch := omega) only [VCA, Nat.reduceEqDiff, Nat.reduceBEq, Nat.reduceAdd, Nat.reduceLT, Nat.reduceLeDiff, ↓reduceIte, reduceCtorEq, rsOf, rootsOf, SOp.rd, SI.rd, SX.rd, rdL, implies_true, exists_eq_left', rootL, v0, v3, gE, eEdit])
        all_goals first | (exfalso; omega) | exact ⟨_, Sub.refl _, EdR.bad eE (by decide)⟩ | trace_state
      · rw [if_neg h2] at eE
        repeat' (first | ((with_reducible refine Br.dec (fun _ => ?_) (fun _ => ?_)) <;> try (exfalso; omega)) | ((with_reducible refine Br.eq (fun _ => ?_) (fun _ => ?_)) <;> try (exfalso; omega)) | ((with_reducible refine Br.ne (fun _ => ?_) (fun _ => ?_)) <;> try (exfalso; omega)) | ((with_reducible refine brNdec (fun _ => ?_) (fun _ => ?_)) <;> try (exfalso; omega)) | ((with_reducible refine brNeq (fun _ => ?_) (fun _ => ?_)) <;> try (exfalso; omega)) | with_reducible refine Br.intro (fun _ => ?_) (fun _ => ?_) | ((refine DCalls.of hBe2 ?_; rintro _ hh ⟨rfl, rfl⟩)) | ((refine DCalls.of hUp ?_; rintro _ hh ⟨rfl, rfl⟩)) | ((refine DCalls.of hDe ?_; rintro _ hh ⟨rfl, rfl⟩)) | (with_reducible refine And.intro ?_ ?_; · omega) | simp -dsimp -implicitDefEqProofs (disch := omega) only [VCA, Nat.reduceEqDiff, Nat.reduceBEq, Nat.reduceAdd, Nat.reduceLT, Nat.reduceLeDiff, ↓reduceIte, reduceCtorEq, rsOf, rootsOf, SOp.rd, SI.rd, SX.rd, rdL, implies_true, exists_eq_left', rootL, v0, v3, gE, eEdit])
        all_goals first | (exfalso; omega) | exact s6 hc eE _ v3 v5 v6 v7 | trace_state
  have s5b : editE d e = 5 → ∀ (env : Env) (v : Int), v < 0 → env 7 = aInt v → vc (Pg G) c149_s5 (retK [.tmp 4] (EdR h0 h re d e made)) env h := by
    intro eE env v hv v7
    unfold c149_s5
    skip
    simp -dsimp -implicitDefEqProofs (disch := omega) only [VCA, ↓reduceIte, v7]
    repeat' (first | ((with_reducible refine Br.dec (fun _ => ?_) (fun _ => ?_)) <;> try (exfalso; omega)) | ((with_reducible refine Br.eq (fun _ => ?_) (fun _ => ?_)) <;> try (exfalso; omega)) | ((with_reducible refine Br.ne (fun _ => ?_) (fun _ => ?_)) <;> try (exfalso; omega)) | ((with_reducible refine brNdec (fun _ => ?_) (fun _ => ?_)) <;> try (exfalso; omega)) | ((with_reducible refine brNeq (fun _ => ?_) (fun _ => ?_)) <;> try (exfalso; omega)) | with_reducible refine Br.intro (fun _ => ?_) (fun _ => ?_) | (with_reducible refine And.intro ?_ ?_; · omega) | simp -dsimp -implicitDefEqProofs (disch := omega) only [VCA, ↓reduceIte])
    all_goals first | (exfalso; omega) | exact ⟨_, Sub.refl _, EdR.bad eE (by decide)⟩
  refine dcalls_of_vc Tryz.func149 hn149 hc149 (by rw [Tryz.ntmps149]; simp) (by rw [Tryz.ntmps149]; decide) ?_
  simp -dsimp -implicitDefEqProofs (disch := omega) only [VCA, Nat.reduceEqDiff, Nat.reduceAdd, Nat.reduceLeDiff, ↓reduceIte, reduceCtorEq, rsOf, rootsOf, rootL, c149, eEdit]
  by_cases ha : inD d e.at'
  · rw [if_pos ha] at hE1
    by_cases ht : inD d e.to
    · rw [if_pos ht] at hE2
      rw [if_neg (by simp [ha, ht])] at eE
      have ha' := ha.nat.1
      have ht' := ht.nat.1
      have ga := rowsA_get (sl := sl) ha'
      have gt := rowsA_get (sl := sl) ht'
      have rl := rowsA_len d sl
      have e0 : nth d.nodes e.at'.toNat = nd d e.at' := rfl
      have e1 : nth d.nodes e.to.toNat = nd d e.to := rfl
      rw [e0] at ga
      rw [e1] at gt
      unfold rowA at ga gt
      obtain ⟨oA, oK⟩ := E.dw.own _ ha'
      rw [e0] at oK
      have kl := (sm.nd e.at').kids
      have oL := oK.len.1
      have oL2 := oK.len.2
      rw [List.length_map] at oL
      have hPa := parent_ok (G := G) (nd d e.at').kind
      by_cases h7 : ¬ ((nd d e.at').kind = 1 ∨ (nd d e.at').kind = 2) ∨ (nd d e.to).kind = 1 ∨ ((nd d e.at').kind = 1 ∧ (nd d e.to).kind = 3)
      · rw [if_pos h7] at eE
        by_cases hp : (nd d e.at').kind = 1 ∨ (nd d e.at').kind = 2
        · rw [show (decide ((nd d e.at').kind = 1) || decide ((nd d e.at').kind = 2)) = true by simpa using hp] at hPa
          repeat' (first | ((with_reducible refine Br.dec (fun _ => ?_) (fun _ => ?_)) <;> try (exfalso; omega)) | ((with_reducible refine Br.eq (fun _ => ?_) (fun _ => ?_)) <;> try (exfalso; omega)) | ((with_reducible refine Br.ne (fun _ => ?_) (fun _ => ?_)) <;> try (exfalso; omega)) | ((with_reducible refine brNdec (fun _ => ?_) (fun _ => ?_)) <;> try (exfalso; omega)) | ((with_reducible refine brNeq (fun _ => ?_) (fun _ => ?_)) <;> try (exfalso; omega)) | with_reducible refine Br.intro (fun _ => ?_) (fun _ => ?_) | ((refine DCalls.of hE1 ?_; rintro _ hh ⟨rfl, rfl⟩)) | ((refine DCalls.of hE2 ?_; rintro _ hh ⟨rfl, rfl⟩)) | (with_reducible apply pcallE.of; · exact hPa) | (with_reducible refine And.intro ?_ ?_; · omega) | simp -dsimp -implicitDefEqProofs (disch := omega) only [↓vcOps_sp 19, ↓vcOps_sp 30, ↓vcOps_sp 37, ↓vcOps_sp 43, VCA, Nat.reduceEqDiff, Nat.reduceAdd, Nat.reduceLeDiff, ↓reduceIte, rsOf, rootsOf, SOp.rd, SI.rd, SX.rd, rdL, exists_eq_left', rootL, gN, ga, gt, rl])
          all_goals first | (exfalso; omega) | exact ⟨_, Sub.refl _, EdR.bad eE (by decide)⟩ | trace_state
        · rw [show (decide ((nd d e.at').kind = 1) || decide ((nd d e.at').kind = 2)) = false by simpa using hp] at hPa
          repeat' (first | ((with_reducible refine Br.dec (fun _ => ?_) (fun _ => ?_)) <;> try (exfalso; omega)) | ((with_reducible refine Br.eq (fun _ => ?_) (fun _ => ?_)) <;> try (exfalso; omega)) | ((with_reducible refine Br.ne (fun _ => ?_) (fun _ => ?_)) <;> try (exfalso; omega)) | ((with_reducible refine brNdec (fun _ => ?_) (fun _ => ?_)) <;> try (exfalso; omega)) | ((with_reducible refine brNeq (fun _ => ?_) (fun _ => ?_)) <;> try (exfalso; omega)) | with_reducible refine Br.intro (fun _ => ?_) (fun _ => ?_) | ((refine DCalls.of hE1 ?_; rintro _ hh ⟨rfl, rfl⟩)) | ((refine DCalls.of hE2 ?_; rintro _ hh ⟨rfl, rfl⟩)) | (with_reducible apply pcallE.of; · exact hPa) | (with_reducible refine And.intro ?_ ?_; · omega) | simp -dsimp -implicitDefEqProofs (disch := omega) only [↓vcOps_sp 19, ↓vcOps_sp 30, ↓vcOps_sp 37, ↓vcOps_sp 43, VCA, Nat.reduceEqDiff, Nat.reduceAdd, Nat.reduceLeDiff, ↓reduceIte, rsOf, rootsOf, SOp.rd, SI.rd, SX.rd, rdL, exists_eq_left', rootL, gN, ga, rl])
          all_goals first | (exfalso; omega) | exact ⟨_, Sub.refl _, EdR.bad eE (by decide)⟩ | trace_state
      · rw [if_neg h7] at eE
        have hp : (nd d e.at').kind = 1 ∨ (nd d e.at').kind = 2 := Classical.not_not.1 fun h => h7 (.inl h)
        have h71 : ¬ (nd d e.to).kind = 1 := fun h => h7 (.inr (.inl h))
        have h72 : ¬ ((nd d e.at').kind = 1 ∧ (nd d e.to).kind = 3) := fun h => h7 (.inr (.inr h))
        rw [show (decide ((nd d e.at').kind = 1) || decide ((nd d e.at').kind = 2)) = true by simpa using hp] at hPa
        by_cases h9 : 0 ≤ (nd d e.to).parent
        · rw [if_pos h9] at eE
          repeat' (first | ((with_reducible refine Br.dec (fun _ => ?_) (fun _ => ?_)) <;> try (exfalso; omega)) | ((with_reducible refine Br.eq (fun _ => ?_) (fun _ => ?_)) <;> try (exfalso; omega)) | ((with_reducible refine Br.ne (fun _ => ?_) (fun _ => ?_)) <;> try (exfalso; omega)) | ((with_reducible refine brNdec (fun _ => ?_) (fun _ => ?_)) <;> try (exfalso; omega)) | ((with_reducible refine brNeq (fun _ => ?_) (fun _ => ?_)) <;> try (exfalso; omega)) | with_reducible refine Br.intro (fun _ => ?_) (fun _ => ?_) | ((refine DCalls.of hE1 ?_; rintro _ hh ⟨rfl, rfl⟩)) | ((refine DCalls.of hE2 ?_; rintro _ hh ⟨rfl, rfl⟩)) | (with_reducible apply pcallE.of; · exact hPa) | (with_reducible refine And.intro ?_ ?_; · omega) | simp -dsimp -implicitDefEqProofs (disch := omega) only [↓vcOps_sp 19, ↓vcOps_sp 30, ↓vcOps_sp 37, ↓vcOps_sp 43, VCA, Nat.reduceEqDiff, Nat.reduceAdd, Nat.reduceLeDiff, ↓reduceIte, rsOf, rootsOf, SOp.rd, SI.rd, SX.rd, rdL, exists_eq_left', rootL, gN, ga, gt, rl])
          all_goals first | (exfalso; omega) | exact ⟨_, Sub.refl _, EdR.bad eE (by decide)⟩ | trace_state
        · rw [if_neg h9] at eE
          have hIx := index_own (G := G) oK e.before kl
          have i1 := idxM_leK (nd d e.at').kids e.before
          have im := idx_mem (nd d e.at').kids e.before
          by_cases hb : e.before ≠ -1 ∧ e.before ∉ (nd d e.at').kids
          · rw [if_pos hb] at eE
            have hb1 : ¬ 0 ≤ idxM (· == e.before) (nd d e.at').kids := fun h => hb.2 (im.1 h)
            repeat' (first | ((with_reducible refine Br.dec (fun _ => ?_) (fun _ => ?_)) <;> try (exfalso; omega)) | ((with_reducible refine Br.eq (fun _ => ?_) (fun _ => ?_)) <;> try (exfalso; omega)) | ((with_reducible refine Br.ne (fun _ => ?_) (fun _ => ?_)) <;> try (exfalso; omega)) | ((with_reducible refine brNdec (fun _ => ?_) (fun _ => ?_)) <;> try (exfalso; omega)) | ((with_reducible refine brNeq (fun _ => ?_) (fun _ => ?_)) <;> try (exfalso; omega)) | with_reducible refine Br.intro (fun _ => ?_) (fun _ => ?_) | ((refine DCalls.of hE1 ?_; rintro _ hh ⟨rfl, rfl⟩)) | ((refine DCalls.of hE2 ?_; rintro _ hh ⟨rfl, rfl⟩)) | (with_reducible apply pcallE.of; · exact hPa) | ((refine DCalls.of hIx ?_; rintro _ hh ⟨rfl, rfl⟩)) | (with_reducible refine And.intro ?_ ?_; · omega) | simp -dsimp -implicitDefEqProofs (disch := omega) only [↓vcOps_sp 19, ↓vcOps_sp 30, ↓vcOps_sp 37, ↓vcOps_sp 43, VCA, Nat.reduceEqDiff, Nat.reduceBEq, Nat.reduceAdd, Nat.reduceLeDiff, ↓reduceIte, rsOf, rootsOf, SOp.rd, SI.rd, SX.rd, rdL, implies_true, exists_eq_left', rootL, gN, ga, gt, rl, oL, oL2])
            all_goals first | (exfalso; omega) | exact ⟨_, Sub.refl _, EdR.bad eE (by decide)⟩ | exact s5b eE _ _ (by omega) rfl
          · rw [if_neg hb] at eE
            by_cases hb1 : e.before = -1
            · have hI : insAt d e = (nd d e.at').kids.length := by unfold insAt; rw [if_pos hb1]
              rw [hI] at s5
              repeat' (first | ((with_reducible refine Br.dec (fun _ => ?_) (fun _ => ?_)) <;> try (exfalso; omega)) | ((with_reducible refine Br.eq (fun _ => ?_) (fun _ => ?_)) <;> try (exfalso; omega)) | ((with_reducible refine Br.ne (fun _ => ?_) (fun _ => ?_)) <;> try (exfalso; omega)) | ((with_reducible refine brNdec (fun _ => ?_) (fun _ => ?_)) <;> try (exfalso; omega)) | ((with_reducible refine brNeq (fun _ => ?_) (fun _ => ?_)) <;> try (exfalso; omega)) | with_reducible refine Br.intro (fun _ => ?_) (fun _ => ?_) | ((refine DCalls.of hE1 ?_; rintro _ hh ⟨rfl, rfl⟩)) | ((refine DCalls.of hE2 ?_; rintro _ hh ⟨rfl, rfl⟩)) | (with_reducible apply pcallE.of; · exact hPa) | (with_reducible refine And.intro ?_ ?_; · omega) | simp -dsimp -implicitDefEqProofs (disch := omega) only [↓vcOps_sp 19, ↓vcOps_sp 30, ↓vcOps_sp 37, ↓vcOps_sp 43, VCA, Nat.reduceEqDiff, Nat.reduceAdd, Nat.reduceLeDiff, ↓reduceIte, rsOf, rootsOf, SOp.rd, SI.rd, SX.rd, rdL, exists_eq_left', rootL, gN, ga, gt, rl, oL, oL2])
              all_goals first | (exfalso; omega) | refine s5 ha ht hp h71 h9 hb eE _ ?_ ?_ ?_ ?_ ?_ <;> rfl
            · have hbm : e.before ∈ (nd d e.at').kids := Classical.not_not.1 fun h => hb ⟨hb1, h⟩
              have i0 := im.2 hbm
              have hI : (insAt d e : Int) = idxM (· == e.before) (nd d e.at').kids := by unfold insAt; rw [if_neg hb1]; omega
              rw [← hI] at hIx
              repeat' (first | ((with_reducible refine Br.dec (fun _ => ?_) (fun _ => ?_)) <;> try (exfalso; omega)) | ((with_reducible refine Br.eq (fun _ => ?_) (fun _ => ?_)) <;> try (exfalso; omega)) | ((with_reducible refine Br.ne (fun _ => ?_) (fun _ => ?_)) <;> try (exfalso; omega)) | ((with_reducible refine brNdec (fun _ => ?_) (fun _ => ?_)) <;> try (exfalso; omega)) | ((with_reducible refine brNeq (fun _ => ?_) (fun _ => ?_)) <;> try (exfalso; omega)) | with_reducible refine Br.intro (fun _ => ?_) (fun _ => ?_) | ((refine DCalls.of hE1 ?_; rintro _ hh ⟨rfl, rfl⟩)) | ((refine DCalls.of hE2 ?_; rintro _ hh ⟨rfl, rfl⟩)) | (with_reducible apply pcallE.of; · exact hPa) | ((refine DCalls.of hIx ?_; rintro _ hh ⟨rfl, rfl⟩)) | (with_reducible refine And.intro ?_ ?_; · omega) | simp -dsimp -implicitDefEqProofs (disch := omega) only [↓vcOps_sp 19, ↓vcOps_sp 30, ↓vcOps_sp 37, ↓vcOps_sp 43, VCA, Nat.reduceEqDiff, Nat.reduceBEq, Nat.reduceAdd, Nat.reduceLeDiff, ↓reduceIte, rsOf, rootsOf, SOp.rd, SI.rd, SX.rd, rdL, implies_true, exists_eq_left', rootL, gN, ga, gt, rl, oL, oL2])
              all_goals first | (exfalso; omega) | refine s5 ha ht hp h71 h9 hb eE _ ?_ ?_ ?_ ?_ ?_ <;> rfl
    · rw [if_neg ht] at hE2
      rw [if_pos (.inr ht)] at eE
      repeat' (first | ((with_reducible refine Br.dec (fun _ => ?_) (fun _ => ?_)) <;> try (exfalso; omega)) | ((with_reducible refine Br.eq (fun _ => ?_) (fun _ => ?_)) <;> try (exfalso; omega)) | ((with_reducible refine Br.ne (fun _ => ?_) (fun _ => ?_)) <;> try (exfalso; omega)) | ((with_reducible refine brNdec (fun _ => ?_) (fun _ => ?_)) <;> try (exfalso; omega)) | ((with_reducible refine brNeq (fun _ => ?_) (fun _ => ?_)) <;> try (exfalso; omega)) | with_reducible refine Br.intro (fun _ => ?_) (fun _ => ?_) | ((refine DCalls.of hE1 ?_; rintro _ hh ⟨rfl, rfl⟩)) | ((refine DCalls.of hE2 ?_; rintro _ hh ⟨rfl, rfl⟩)) | (with_reducible refine And.intro ?_ ?_; · omega) | simp -dsimp -implicitDefEqProofs (disch := omega) only [↓vcOps_sp 19, VCA, Nat.reduceEqDiff, ↓reduceIte, rsOf, rootsOf, SOp.rd, SI.rd, SX.rd, rdL, rootL])
      all_goals first | (exfalso; omega) | exact ⟨_, Sub.refl _, EdR.bad eE (by decide)⟩ | trace_state
  · rw [if_neg ha] at hE1
    rw [if_pos (.inl ha)] at eE
    by_cases ht : inD d e.to
    · rw [if_pos ht] at hE2
      repeat' (first | ((with_reducible refine Br.dec (fun _ => ?_) (fun _ => ?_)) <;> try (exfalso; omega)) | ((with_reducible refine Br.eq (fun _ => ?_) (fun _ => ?_)) <;> try (exfalso; omega)) | ((with_reducible refine Br.ne (fun _ => ?_) (fun _ => ?_)) <;> try (exfalso; omega)) | ((with_reducible refine brNdec (fun _ => ?_) (fun _ => ?_)) <;> try (exfalso; omega)) | ((with_reducible refine brNeq (fun _ => ?_) (fun _ => ?_)) <;> try (exfalso; omega)) | with_reducible refine Br.intro (fun _ => ?_) (fun _ => ?_) | ((refine DCalls.of hE1 ?_; rintro _ hh ⟨rfl, rfl⟩)) | ((refine DCalls.of hE2 ?_; rintro _ hh ⟨rfl, rfl⟩)) | (with_reducible refine And.intro ?_ ?_; · omega) | simp -dsimp -implicitDefEqProofs (disch := omega) only [↓vcOps_sp 19, VCA, Nat.reduceEqDiff, ↓reduceIte, rsOf, rootsOf, SOp.rd, SI.rd, SX.rd, rdL, rootL])
      all_goals first | (exfalso; omega) | exact ⟨_, Sub.refl _, EdR.bad eE (by decide)⟩ | trace_state
    · rw [if_neg ht] at hE2
      repeat' (first | ((with_reducible refine Br.dec (fun _ => ?_) (fun _ => ?_)) <;> try (exfalso; omega)) | ((with_reducible refine Br.eq (fun _ => ?_) (fun _ => ?_)) <;> try (exfalso; omega)) | ((with_reducible refine Br.ne (fun _ => ?_) (fun _ => ?_)) <;> try (exfalso; omega)) | ((with_reducible refine brNdec (fun _ => ?_) (fun _ => ?_)) <;> try (exfalso; omega)) | ((with_reducible refine brNeq (fun _ => ?_) (fun _ => ?_)) <;> try (exfalso; omega)) | with_reducible refine Br.intro (fun _ => ?_) (fun _ => ?_) | ((refine DCalls.of hE1 ?_; rintro _ hh ⟨rfl, rfl⟩)) | ((refine DCalls.of hE2 ?_; rintro _ hh ⟨rfl, rfl⟩)) | (with_reducible refine And.intro ?_ ?_; · omega) | simp -dsimp -implicitDefEqProofs (disch := omega) only [↓vcOps_sp 19, VCA, Nat.reduceEqDiff, ↓reduceIte, rsOf, rootsOf, SOp.rd, SI.rd, SX.rd, rdL, rootL])
      all_goals first | (exfalso; omega) | exact ⟨_, Sub.refl _, EdR.bad eE (by decide)⟩ | trace_state
end Go.Proofs.K
end
section
/- The editor: make. -/
set_option linter.unusedSimpArgs false
set_option linter.unusedVariables false
namespace Go.Proofs.K
open Go Go.Sim Go.Proofs
variable {G : Glob}
theorem rowsA_add {d : HDoc} {x : HNode} {sl : Nat → AVal} {a : AVal} : rowsA (addN d x) (upd (upd sl (2 * d.nodes.length) a) (2 * d.nodes.length + 1) .emp) = rowsA d sl ++ [rowA x a .emp] := by
  unfold rowsA
  rw [addN_len, List.range_succ, List.map_append, List.map_cons, List.map_nil]
  congr 1
  · refine List.map_congr_left fun i hi => ?_
    have hi := List.mem_range.1 hi
    rw [upd_ne _ _ (by omega), upd_ne _ _ (by omega), upd_ne _ _ (by omega), upd_ne _ _ (by omega)]
    have : nth (addN d x).nodes i = nth d.nodes i := by
      unfold addN nth; rw [List.getD_eq_getElem?_getD, List.getD_eq_getElem?_getD, List.getElem?_append_left hi]
    rw [this]
  · rw [upd_same, upd_ne _ _ (by omega), upd_same]
    have : nth (addN d x).nodes d.nodes.length = x := by unfold addN nth; rw [List.getD_eq_getElem?_getD]; simp
    rw [this]
theorem Ed.add {h0 h h2 : Heap} {re rN rN' : Nat} {d : HDoc} {sl : Nat → AVal} {made made' : Int} (E : Ed h0 h re rN d sl made) {x : HNode} {a' : AVal} (hk : x.kids = [])
    (hN : h2 rN' = some ⟨.t 40, 6, rowsA d sl ++ [rowA x a' .emp]⟩) (hre : h2 re = some ⟨.t 118, 3, [[.osl rN' 6 0 (d.nodes.length + 1), .bool d.quirks, aInt made']]⟩)
    (kp : ∀ r o, h r = some o → r ≠ rN → r ≠ re → h2 r = some o) (O : OwnS h2 96 2 (x.attrs.map eAttr) a') (M : Mut a') (fr : ∀ r, rootOf a' = some r → h r = none ∧ r ≠ rN') (fN : rN' = rN ∨ h rN' = none) :
    Ed h0 h2 re rN' (addN d x) (upd (upd sl (2 * d.nodes.length) a') (2 * d.nodes.length + 1) .emp) made' := by
  have hold : ∀ k, k < 2 * d.nodes.length → upd (upd sl (2 * d.nodes.length) a') (2 * d.nodes.length + 1) .emp k = sl k := fun k hk => by rw [upd_ne _ _ (by omega), upd_ne _ _ (by omega)]
  have hnew : upd (upd sl (2 * d.nodes.length) a') (2 * d.nodes.length + 1) .emp (2 * d.nodes.length) = a' := by rw [upd_ne _ _ (by omega), upd_same]
  have hnew2 : upd (upd sl (2 * d.nodes.length) a') (2 * d.nodes.length + 1) AVal.emp (2 * d.nodes.length + 1) = .emp := upd_same _ _ _
  have some_ne : ∀ r o, h r = some o → r ≠ rN → r ≠ rN' := fun r o ho hne e => by
    rcases fN with h1 | h1
    · exact hne (e.trans h1)
    · rw [e, h1] at ho; cases ho
  have ren : re ≠ rN' := some_ne re _ E.ed E.ne
  generalize hs : upd (upd sl (2 * d.nodes.length) a') (2 * d.nodes.length + 1) .emp = sl' at *
  have rws : rowsA (addN d x) sl' = rowsA d sl ++ [rowA x a' .emp] := by rw [← hs]; exact rowsA_add
  have fa : ∀ r, rootOf a' = some r → h0 r = none ∧ r ≠ rN' ∧ r ≠ re := fun r hr => ⟨E.dw.sub.none (fr r hr).1, (fr r hr).2, fun e => by have := (fr r hr).1; rw [e, E.ed] at this; cases this⟩
  have ks : ∀ k, k < 2 * (d.nodes.length + 1) → k < 2 * d.nodes.length ∨ k = 2 * d.nodes.length ∨ k = 2 * d.nodes.length + 1 := fun k hk => by omega
  refine ⟨⟨fun t o ht => ?_, by rw [hN, rws], ⟨?_, by simp only [List.mem_singleton]; exact fun e => ren e.symm⟩, fun i hi => ?_, fun k hk' r hr => ?_, fun j k hj hk' hne r hr => ?_, fun r hr => ?_⟩, by rw [addN_len]; exact hre, E.new, fun k hk' => ?_⟩
  · refine kp t o (E.dw.sub t o ht) (fun e => by rw [e, E.dw.new.1] at ht; cases ht) (fun e => by rw [e, E.new] at ht; cases ht)
  · rcases fN with h1 | h1
    · rw [h1]; exact E.dw.new.1
    · exact E.dw.sub.none h1
  · rw [addN_len] at hi
    by_cases hl : i < d.nodes.length
    · have e1 : nth (addN d x).nodes i = nth d.nodes i := by
        unfold addN nth; rw [List.getD_eq_getElem?_getD, List.getD_eq_getElem?_getD, List.getElem?_append_left hl]
      rw [e1, hold _ (by omega), hold _ (by omega)]
      obtain ⟨g1, g2⟩ := E.dw.own i hl
      exact ⟨g1.keep fun r o hr ho => kp r o ho (E.root_ne (by omega) hr).1 (E.root_ne (by omega) hr).2, g2.keep fun r o hr ho => kp r o ho (E.root_ne (by omega) hr).1 (E.root_ne (by omega) hr).2⟩
    · have e0 : i = d.nodes.length := by omega
      subst e0
      have e1 : nth (addN d x).nodes d.nodes.length = x := by unfold addN nth; rw [List.getD_eq_getElem?_getD]; simp
      rw [e1, hnew, hnew2, hk]
      exact ⟨O, .inl ⟨rfl, rfl⟩⟩
  · rw [addN_len] at hk'
    simp only [List.mem_singleton]
    rcases ks k hk' with h1 | h1 | h1
    · rw [hold k h1] at hr
      have := E.dw.fresh k h1 r hr
      obtain ⟨o, ho⟩ := E.dw.slot h1 hr
      exact ⟨this.1, some_ne r o ho this.2.1, fun e => this.2.2 (by simp [e])⟩
    · rw [h1, hnew] at hr; exact fa r hr
    · rw [h1, hnew2] at hr; cases hr
  · rw [addN_len] at hj hk'
    rcases ks j hj with h1 | h1 | h1
    · rw [hold j h1] at hr
      rcases ks k hk' with h2 | h2 | h2
      · rw [hold k h2]; exact E.dw.sep j k h1 h2 hne r hr
      · rw [h2, hnew]; intro h3
        obtain ⟨o, ho⟩ := E.dw.slot h1 hr
        have := (fr r h3).1; rw [ho] at this; cases this
      · rw [h2, hnew2]; intro h3; cases h3
    · rw [h1, hnew] at hr
      rcases ks k hk' with h2 | h2 | h2
      · rw [hold k h2]; intro h3
        obtain ⟨o, ho⟩ := E.dw.slot h2 h3
        have := (fr r hr).1; rw [ho] at this; cases this
      · omega
      · rw [h2, hnew2]; intro h3; cases h3
    · rw [h1, hnew2] at hr; cases hr
  · simp only [List.mem_singleton] at hr
    exact ⟨_, by rw [hr]; exact hre⟩
  · rw [addN_len] at hk'
    rcases ks k hk' with h1 | h1 | h1
    · rw [hold k h1]; exact E.live k h1
    · rw [h1, hnew]; exact M
    · rw [h1, hnew2]; exact fun es e => by cases e
def c148 : SFun := ⟨(.seq (.reg [⟨(some 3), (.boxF 42 12 (.t 1)), none⟩, ⟨(some 4), (.mv (.c (.int .i64 (0)))), none⟩]) (.seq (.reg [⟨(some 7), (.fldA 6 (.t 3)), none⟩, ⟨(some 8), (.ld 6 true (.t 7)), none⟩, ⟨(some 5), (.new 40 6 [(.int .i64 (0)), (.str []), .emp, (.str []), (.int .i64 (0)), .emp]), none⟩, ⟨none, (.st 6 (.t 5) (.t 8)), none⟩]) (.seq (.block 0 (.seq (.reg [⟨(some 10), (.fldA 5 (.t 5)), none⟩, ⟨(some 11), (.ld 1 false (.t 10)), none⟩, ⟨(some 12), (.len (.t 11)), none⟩, ⟨(some 13), (.bin .gtr (.t 12) (.c (.int .i64 (0)))), none⟩, ⟨(some 9), (.mv (.t 13)), none⟩]) (.cond (.t 9) (.seq (.reg [⟨(some 4), (.mv (.c (.int .i64 (3)))), none⟩]) .ret) (.seq (.reg [⟨(some 15), (.fldA 0 (.t 5)), none⟩, ⟨(some 16), (.ld 1 false (.t 15)), none⟩, ⟨(some 17), (.bin .eql (.t 16) (.c (.int .i64 (1)))), none⟩, ⟨(some 14), (.mv (.t 17)), none⟩]) (.cond (.t 14) (.seq (.reg [⟨(some 4), (.mv (.c (.int .i64 (7)))), none⟩]) .ret) .skip))))) (.seq (.seq (.reg [⟨(some 18), (.ld 6 true (.t 5)), none⟩, ⟨(some 19), (.pcall 89 [(.t 18)]), none⟩, ⟨(some 6), (.mv (.t 19)), none⟩]) (.seq (.reg [⟨(some 20), (.mv (.t 6)), none⟩, ⟨(some 21), (.bin .neq (.t 20) (.c (.int .i64 (0)))), none⟩]) (.cond (.t 21) (.seq (.reg [⟨(some 22), (.mv (.t 6)), none⟩, ⟨(some 4), (.mv (.t 22)), none⟩]) .ret) .skip))) (.seq (.seq (.reg [⟨(some 23), (.mv (.t 0)), none⟩, ⟨(some 24), (.fldA 0 (.t 23)), none⟩, ⟨(some 25), (.fldA 0 (.t 24)), none⟩, ⟨(some 26), (.fldA 0 (.t 25)), none⟩, ⟨(some 27), (.ld 1 false (.t 26)), none⟩, ⟨(some 28), (.len (.t 27)), none⟩, ⟨(some 29), (.bin .eql (.t 28) (.c (.int .i64 (200)))), none⟩]) (.cond (.t 29) (.seq (.reg [⟨(some 4), (.mv (.c (.int .i64 (2)))), none⟩]) .ret) .skip)) (.seq (.reg [⟨(some 30), (.mv (.t 0)), none⟩, ⟨(some 31), (.mv (.t 0)), none⟩, ⟨(some 32), (.fldA 0 (.t 31)), none⟩, ⟨(some 33), (.fldA 0 (.t 32)), none⟩, ⟨(some 34), (.fldA 0 (.t 33)), none⟩, ⟨(some 35), (.ld 1 false (.t 34)), none⟩, ⟨(some 36), (.len (.t 35)), none⟩, ⟨(some 37), (.fldA 0 (.t 30)), none⟩, ⟨(some 38), (.fldA 2 (.t 37)), none⟩, ⟨none, (.st 1 (.t 38) (.t 36)), none⟩]) (.seq (.dreg [(⟨(some 39), (.mv (.t 0)), none⟩, none), (⟨(some 40), (.mv (.t 0)), none⟩, none), (⟨(some 41), (.fldA 0 (.t 40)), none⟩, none), (⟨(some 42), (.fldA 0 (.t 41)), none⟩, none), (⟨(some 43), (.fldA 0 (.t 42)), none⟩, none), (⟨(some 44), (.ld 1 false (.t 43)), none⟩, none), (⟨(some 45), (.fldA 0 (.t 5)), none⟩, none), (⟨(some 46), (.ld 1 false (.t 45)), none⟩, none), (⟨(some 47), (.fldA 1 (.t 5)), none⟩, none), (⟨(some 48), (.ld 1 false (.t 47)), none⟩, none), (⟨(some 49), (.fldA 2 (.t 5)), none⟩, none), (⟨(some 50), (.ld 1 false (.t 49)), none⟩, none), (⟨(some 52), (.fldA 3 (.t 5)), none⟩, none), (⟨(some 53), (.ld 1 false (.t 52)), none⟩, none), (⟨(some 51), (.call (.c (.fn 69 [] [])) [(.t 50)]), none⟩, (some [50])), (⟨(some 54), (.bld [(.int .i64 (0)), (.str []), .emp, (.str []), (.int .i64 (0)), .emp] [(0, (1, (.t 46))), (1, (1, (.t 48))), (2, (1, (.t 51))), (3, (1, (.t 53))), (4, (1, (.c (.int .i64 (-1)))))]), none⟩, none), (⟨(some 55), (.bldF 40 6 [(.t 54)]), none⟩, none), (⟨(some 56), (.app 40 6 96 (.t 44) (.t 55)), none⟩, (some [44, 46, 48, 53, 50])), (⟨(some 57), (.fldA 0 (.t 39)), none⟩, none), (⟨(some 58), (.fldA 0 (.t 57)), none⟩, none), (⟨(some 59), (.fldA 0 (.t 58)), none⟩, none), (⟨none, (.st 1 (.t 59) (.t 56)), none⟩, (some [44, 46, 48, 53, 50]))]) (.seq (.reg [⟨(some 4), (.mv (.c (.int .i64 (0)))), none⟩]) .ret)))))))), [(.tmp 4)]⟩
theorem hc148 : toSF Tryz.prog {pure := [89]} Tryz.f148 = some c148 := by kernel_rfl
theorem hn148 : (Tryz.f148.name == "runtime.NumGoroutine") = false := by kernel_rfl
theorem emake_ok {h0 h : Heap} {re rN : Nat} {d : HDoc} {sl : Nat → AVal} {made : Int} (E : Ed h0 h re rN d sl made) (hl200 : d.nodes.length ≤ 200) (e : HEdit) (he : EditSm e) (hdo : e.do' = 4) : DCalls (Pg G) 148 [.vp re 0, .agg (eEdit e)] h (EdR h0 h re d e made) := by
  have gN := E.dw.nodes
  have gE := E.ed
  have ner := E.ne
  have hO := one_ok' (G := G) e.node he.node
  unfold eNode at hO
  have eE : editE d e = if e.node.kids ≠ [] then 3 else if e.node.kind = 1 then 7 else if nodeE e.node ≠ 0 then nodeE e.node else if d.nodes.length = 200 then 2 else 0 := by unfold editE; rw [if_neg (by omega), if_neg (by omega), if_neg (by omega), if_pos hdo]
  have eD : editD d e = addN d (madeM e.node) := by unfold editD; rw [if_neg (by omega), if_neg (by omega), if_neg (by omega), if_pos hdo]
  have hm4 : (d.nodes.length : Int) = if e.do' = 4 then (d.nodes.length : Int) else made := by rw [if_pos hdo]
  have rl := rowsA_len d sl
  refine dcalls_of_vc Tryz.func148 hn148 hc148 (by rw [Tryz.ntmps148]; simp) (by rw [Tryz.ntmps148]; decide) ?_
  simp -dsimp -implicitDefEqProofs (disch := omega) only [VCA, Nat.reduceEqDiff, Nat.reduceAdd, Nat.reduceLT, ↓reduceIte, setAt, exists_eq_left', c148, eEdit]
  intro r5 hr5
  have n5 : ¬ re = r5 := fun h => by rw [← h, gE] at hr5; cases hr5
  have n5N : ¬ rN = r5 := fun h => by rw [← h, gN] at hr5; cases hr5
  have n5' : ¬ r5 = re := fun h => n5 h.symm
  have n5N' : ¬ r5 = rN := fun h => n5N h.symm
  have ner' : ¬ rN = re := fun h => ner h.symm
  have S5 : ∀ x, Sim.Sub h (upd h r5 (some x)) := fun x => (Sub.refl h).upd hr5
  by_cases hk : e.node.kids = []
  · have hk0 : ¬ 0 < e.node.kids.length := by rw [hk]; simp
    rw [if_neg (by simpa using hk)] at eE
    by_cases hk1 : e.node.kind = 1
    · rw [if_pos hk1] at eE
      repeat' (first | ((with_reducible refine Br.dec (fun _ => ?_) (fun _ => ?_)) <;> try (exfalso; omega)) | ((with_reducible refine Br.eq (fun _ => ?_) (fun _ => ?_)) <;> try (exfalso; omega)) | ((with_reducible refine Br.ne (fun _ => ?_) (fun _ => ?_)) <;> try (exfalso; omega)) | ((with_reducible refine brNdec (fun _ => ?_) (fun _ => ?_)) <;> try (exfalso; omega)) | ((with_reducible refine brNeq (fun _ => ?_) (fun _ => ?_)) <;> try (exfalso; omega)) | with_reducible refine Br.intro (fun _ => ?_) (fun _ => ?_) | (with_reducible refine And.intro ?_ ?_; · omega) | simp -dsimp -implicitDefEqProofs (disch := omega) only [VCA, Nat.reduceEqDiff, Nat.reduceAdd, Nat.reduceLT, Nat.reduceLeDiff, ↓reduceIte, exists_eq_left'])
      all_goals first | (exfalso; omega) | exact ⟨_, S5 _, EdR.bad eE (by decide)⟩
    · rw [if_neg hk1] at eE
      by_cases hz : nodeE e.node = 0
      · rw [if_neg (by simpa using hz)] at eE
        rw [hz] at hO
        by_cases h200 : d.nodes.length = 200
        · rw [if_pos h200] at eE
          repeat' (first | ((with_reducible refine Br.dec (fun _ => ?_) (fun _ => ?_)) <;> try (exfalso; omega)) | ((with_reducible refine Br.eq (fun _ => ?_) (fun _ => ?_)) <;> try (exfalso; omega)) | ((with_reducible refine Br.ne (fun _ => ?_) (fun _ => ?_)) <;> try (exfalso; omega)) | ((with_reducible refine brNdec (fun _ => ?_) (fun _ => ?_)) <;> try (exfalso; omega)) | ((with_reducible refine brNeq (fun _ => ?_) (fun _ => ?_)) <;> try (exfalso; omega)) | with_reducible refine Br.intro (fun _ => ?_) (fun _ => ?_) | (with_reducible apply pcallE.of; · exact hO) | (with_reducible refine And.intro ?_ ?_; · omega) | simp -dsimp -implicitDefEqProofs (disch := omega) only [VCA, Nat.reduceEqDiff, Nat.reduceAdd, Nat.reduceLT, Nat.reduceLeDiff, ↓reduceIte, reduceCtorEq, exists_eq_left', n5, gE])
          all_goals first | (exfalso; omega) | exact ⟨_, S5 _, EdR.bad eE (by decide)⟩
        · rw [if_neg h200] at eE
          have hC := fun (hp : Heap) => cloneA_own (G := G) (h := hp) e.node.attrs he.node.attrs
          repeat' (first | ((with_reducible refine Br.dec (fun _ => ?_) (fun _ => ?_)) <;> try (exfalso; omega)) | ((with_reducible refine Br.eq (fun _ => ?_) (fun _ => ?_)) <;> try (exfalso; omega)) | ((with_reducible refine Br.ne (fun _ => ?_) (fun _ => ?_)) <;> try (exfalso; omega)) | ((with_reducible refine brNdec (fun _ => ?_) (fun _ => ?_)) <;> try (exfalso; omega)) | ((with_reducible refine brNeq (fun _ => ?_) (fun _ => ?_)) <;> try (exfalso; omega)) | with_reducible refine Br.intro (fun _ => ?_) (fun _ => ?_) | (with_reducible apply pcallE.of; · exact hO) | (with_reducible refine And.intro ?_ ?_; · omega) | simp -dsimp -implicitDefEqProofs (disch := omega) only [VCA, Nat.reduceEqDiff, Nat.reduceAdd, Nat.reduceLT, Nat.reduceLeDiff, ↓reduceIte, reduceCtorEq, rsOf, rootsOf, setAt, exists_eq_left', rootL, n5, n5', gE])
          all_goals try (exfalso; omega)
          refine DCalls.of (hC _) ?_
          rintro a h9 ⟨A9, S9⟩
          have gE9 := S9 re _ (upd_same _ _ _)
          have gN9 := S9 rN ⟨40, 6, rowsA d sl⟩ (by simp [upd, ner', n5N, gN])
          have g59 := S9 r5 ⟨40, 6, [[aInt e.node.kind, .str e.node.name, Sim.sl eAttr e.node.attrs, .str e.node.text, aInt e.node.parent, Sim.sl eInt e.node.kids]]⟩ (by simp [upd, n5'])
          obtain ⟨O9, f9, M9⟩ := OwnS.of_acc A9
          obtain ⟨v9, c9⟩ := O9.isV
          repeat' (first | ((with_reducible refine Br.dec (fun _ => ?_) (fun _ => ?_)) <;> try (exfalso; omega)) | ((with_reducible refine Br.eq (fun _ => ?_) (fun _ => ?_)) <;> try (exfalso; omega)) | ((with_reducible refine Br.ne (fun _ => ?_) (fun _ => ?_)) <;> try (exfalso; omega)) | ((with_reducible refine brNdec (fun _ => ?_) (fun _ => ?_)) <;> try (exfalso; omega)) | ((with_reducible refine brNeq (fun _ => ?_) (fun _ => ?_)) <;> try (exfalso; omega)) | with_reducible refine Br.intro (fun _ => ?_) (fun _ => ?_) | (with_reducible refine And.intro ?_ ?_; · omega) | simp -dsimp -implicitDefEqProofs (disch := omega) only [VCA, Nat.reduceEqDiff, Nat.reduceBEq, Nat.reduceAdd, Nat.reduceLeDiff, ↓reduceIte, rsOf, rootsOf, SOp.rd, SI.rd, SX.rd, rdL, okParts, fillA, okFill, setAt, implies_true, forall_eq, exists_eq_left, exists_eq_left', rootL, n5', gE9, gN9, g59, v9, c9])
          intro r' hr'
          have fr' : r' = rN ∨ h9 r' = none := by
            unfold del at hr'
            split at hr'
            · rename_i h1; exact .inl h1
            · exact .inr hr'
          have nre : ¬ re = r' := fun h1 => by
            rcases fr' with h2 | h2
            · exact ner (h1.trans h2)
            · rw [← h1, gE9] at h2; cases h2
          have nre' : ¬ r' = re := fun h1 => nre h1.symm
          have dE : del h9 rN re = some ⟨.t 118, 3, [[.osl rN 6 0 d.nodes.length, .bool d.quirks, aInt d.nodes.length]]⟩ := by
            unfold del; rw [if_neg ner, gE9]
          repeat' (first | ((with_reducible refine Br.dec (fun _ => ?_) (fun _ => ?_)) <;> try (exfalso; omega)) | ((with_reducible refine Br.eq (fun _ => ?_) (fun _ => ?_)) <;> try (exfalso; omega)) | ((with_reducible refine Br.ne (fun _ => ?_) (fun _ => ?_)) <;> try (exfalso; omega)) | ((with_reducible refine brNdec (fun _ => ?_) (fun _ => ?_)) <;> try (exfalso; omega)) | ((with_reducible refine brNeq (fun _ => ?_) (fun _ => ?_)) <;> try (exfalso; omega)) | with_reducible refine Br.intro (fun _ => ?_) (fun _ => ?_) | (with_reducible refine And.intro ?_ ?_; · omega) | simp -dsimp -implicitDefEqProofs (disch := omega) only [VCA, Nat.reduceAdd, Nat.reduceLT, Nat.reduceLeDiff, ↓reduceIte, exists_eq_left', nre, dE])
          have X0 : ∀ (x y : AObj) t, upd (upd h r5 (some x)) re (some y) t = none → h t = none ∧ t ≠ re ∧ t ≠ r5 := fun x y t ht => by
            unfold upd at ht
            split at ht
            · cases ht
            · rename_i h1
              split at ht
              · cases ht
              · rename_i h2; exact ⟨ht, h1, h2⟩
          have ra : ∀ t, rootOf a = some t → h t = none ∧ t ≠ re ∧ t ≠ r5 ∧ t ≠ rN ∧ t ≠ r' := fun t ht => by
            obtain ⟨x1, x2, x3⟩ := X0 _ _ t (f9 t ht)
            refine ⟨x1, x2, x3, (fun e => by rw [e, gN] at x1; cases x1), fun e => ?_⟩
            rcases fr' with h2 | h2
            · rw [e, h2, gN] at x1; cases x1
            · obtain ⟨o, ho⟩ := O9.root ht
              rw [e, h2] at ho; cases ho
          refine ⟨_, Sub.refl _, EdR.good eE hm4 (by
            rw [eD]
            refine E.add (rN' := r') (a' := a) (x := madeM e.node) rfl ?_ ?_ (fun t o ho h1 h2 => ?_) (O9.keep fun t o ht ho => ?_) M9 (fun t ht => ⟨(ra t ht).1, (ra t ht).2.2.2.2⟩) ?_
            · rw [upd_ne _ _ nre', upd_same, List.take_of_length_le (by rw [rl]; exact Nat.le_refl _)]; rfl
            · exact upd_same _ _ _
            · have h5 : t ≠ r5 := fun e => by rw [e, hr5] at ho; cases ho
              have h9t := S9 t o (by rw [upd_ne _ _ h2, upd_ne _ _ h5]; exact ho)
              rw [upd_ne _ _ h2, upd_ne _ _ (fun e => by
                rcases fr' with h3 | h3
                · exact h1 (e.trans h3)
                · rw [e, h3] at h9t; cases h9t)]
              unfold del; rw [if_neg h1]; exact h9t
            · obtain ⟨y1, y2, y3, y4, y5⟩ := ra t ht
              rw [upd_ne _ _ y2, upd_ne _ _ y5]
              unfold del; rw [if_neg y4]; exact ho
            · rcases fr' with h2 | h2
              · exact .inl h2
              · exact .inr (X0 _ _ r' (S9.none h2)).1)⟩
      · rw [if_pos hz] at eE
        repeat' (first | ((with_reducible refine Br.dec (fun _ => ?_) (fun _ => ?_)) <;> try (exfalso; omega)) | ((with_reducible refine Br.eq (fun _ => ?_) (fun _ => ?_)) <;> try (exfalso; omega)) | ((with_reducible refine Br.ne (fun _ => ?_) (fun _ => ?_)) <;> try (exfalso; omega)) | ((with_reducible refine brNdec (fun _ => ?_) (fun _ => ?_)) <;> try (exfalso; omega)) | ((with_reducible refine brNeq (fun _ => ?_) (fun _ => ?_)) <;> try (exfalso; omega)) | with_reducible refine Br.intro (fun _ => ?_) (fun _ => ?_) | (with_reducible apply pcallE.of; · exact hO) | (with_reducible refine And.intro ?_ ?_; · omega) | simp -dsimp -implicitDefEqProofs (disch := omega) only [VCA, Nat.reduceEqDiff, Nat.reduceAdd, Nat.reduceLT, Nat.reduceLeDiff, ↓reduceIte, exists_eq_left'])
        all_goals first | (exfalso; omega) | exact ⟨_, S5 _, EdR.bad eE hz⟩
  · have hk0 : 0 < e.node.kids.length := List.length_pos_iff.2 hk
    rw [if_pos hk] at eE
    repeat' (first | ((with_reducible refine Br.dec (fun _ => ?_) (fun _ => ?_)) <;> try (exfalso; omega)) | ((with_reducible refine Br.eq (fun _ => ?_) (fun _ => ?_)) <;> try (exfalso; omega)) | ((with_reducible refine Br.ne (fun _ => ?_) (fun _ => ?_)) <;> try (exfalso; omega)) | ((with_reducible refine brNdec (fun _ => ?_) (fun _ => ?_)) <;> try (exfalso; omega)) | ((with_reducible refine brNeq (fun _ => ?_) (fun _ => ?_)) <;> try (exfalso; omega)) | with_reducible refine Br.intro (fun _ => ?_) (fun _ => ?_) | (with_reducible refine And.intro ?_ ?_; · omega) | simp -dsimp -implicitDefEqProofs (disch := omega) only [VCA, ↓reduceIte])
    all_goals first | (exfalso; omega) | exact ⟨_, S5 _, EdR.bad eE (by decide)⟩
end Go.Proofs.K
end
section
/- The editor: does, edit. -/
set_option linter.unusedSimpArgs false
set_option linter.unusedVariables false
namespace Go.Proofs.K
open Go Go.Sim Go.Proofs
variable {G : Glob}
def doesF (re : Nat) (n : Int) : AVal :=
  if n = 1 then .fn 145 [.vp re 0] [] else if n = 2 then .fn 146 [.vp re 0] [] else if n = 3 then .fn 147 [.vp re 0] []
  else if n = 4 then .fn 148 [.vp re 0] [] else if n = 5 then .fn 149 [.vp re 0] [] else if n = 6 then .fn 150 [.vp re 0] [] else .prim .nilFunc
def c112 : SFun := ⟨(.seq (.reg [⟨(some 4), (.mv (.c (.prim .nilFunc))), none⟩]) (.seq (.seq (.reg [⟨(some 5), (.mv (.t 1)), none⟩]) (.block 0 (.seq (.reg [⟨(some 7), (.bin .eql (.t 5) (.c (.int .i64 (1)))), none⟩, ⟨(some 6), (.mv (.t 7)), none⟩]) (.cond (.t 6) (.seq (.reg [⟨(some 8), (.mv (.t 0)), none⟩, ⟨(some 9), (.mkf 145 [(.t 8)] []), none⟩, ⟨(some 4), (.mv (.t 9)), none⟩]) .ret) (.seq (.reg [⟨(some 11), (.bin .eql (.t 5) (.c (.int .i64 (2)))), none⟩, ⟨(some 10), (.mv (.t 11)), none⟩]) (.cond (.t 10) (.seq (.reg [⟨(some 12), (.mv (.t 0)), none⟩, ⟨(some 13), (.mkf 146 [(.t 12)] []), none⟩, ⟨(some 4), (.mv (.t 13)), none⟩]) .ret) (.seq (.reg [⟨(some 15), (.bin .eql (.t 5) (.c (.int .i64 (3)))), none⟩, ⟨(some 14), (.mv (.t 15)), none⟩]) (.cond (.t 14) (.seq (.reg [⟨(some 16), (.mv (.t 0)), none⟩, ⟨(some 17), (.mkf 147 [(.t 16)] []), none⟩, ⟨(some 4), (.mv (.t 17)), none⟩]) .ret) (.seq (.reg [⟨(some 19), (.bin .eql (.t 5) (.c (.int .i64 (4)))), none⟩, ⟨(some 18), (.mv (.t 19)), none⟩]) (.cond (.t 18) (.seq (.reg [⟨(some 20), (.mv (.t 0)), none⟩, ⟨(some 21), (.mkf 148 [(.t 20)] []), none⟩, ⟨(some 4), (.mv (.t 21)), none⟩]) .ret) (.seq (.reg [⟨(some 23), (.bin .eql (.t 5) (.c (.int .i64 (5)))), none⟩, ⟨(some 22), (.mv (.t 23)), none⟩]) (.cond (.t 22) (.seq (.reg [⟨(some 24), (.mv (.t 0)), none⟩, ⟨(some 25), (.mkf 149 [(.t 24)] []), none⟩, ⟨(some 4), (.mv (.t 25)), none⟩]) .ret) (.seq (.reg [⟨(some 27), (.bin .eql (.t 5) (.c (.int .i64 (6)))), none⟩, ⟨(some 26), (.mv (.t 27)), none⟩]) (.cond (.t 26) (.seq (.reg [⟨(some 28), (.mv (.t 0)), none⟩, ⟨(some 29), (.mkf 150 [(.t 28)] []), none⟩, ⟨(some 4), (.mv (.t 29)), none⟩]) .ret) .skip)))))))))))))) (.seq (.reg [⟨(some 4), (.mv (.c (.prim .nilFunc))), none⟩]) .ret))), [(.tmp 4)]⟩
theorem hc112 : toSF Tryz.prog {} Tryz.f112 = some c112 := by kernel_rfl
theorem hn112 : (Tryz.f112.name == "runtime.NumGoroutine") = false := by kernel_rfl
theorem edoes_ok (h : Heap) (re : Nat) (n : Int) : DCalls (Pg G) 112 [.vp re 0, aInt n] h fun r h' => r = doesF re n ∧ h' = h := by
  refine dcalls_of_vc Tryz.func112 hn112 hc112 (by rw [Tryz.ntmps112]; simp) (by rw [Tryz.ntmps112]; decide) ?_
  simp -dsimp -implicitDefEqProofs (disch := omega) only [VCA, Nat.reduceEqDiff, ↓reduceIte, c112]
  unfold doesF
  repeat' (first | ((with_reducible refine Br.dec (fun _ => ?_) (fun _ => ?_)) <;> try (exfalso; omega)) | ((with_reducible refine Br.eq (fun _ => ?_) (fun _ => ?_)) <;> try (exfalso; omega)) | ((with_reducible refine Br.ne (fun _ => ?_) (fun _ => ?_)) <;> try (exfalso; omega)) | ((with_reducible refine brNdec (fun _ => ?_) (fun _ => ?_)) <;> try (exfalso; omega)) | ((with_reducible refine brNeq (fun _ => ?_) (fun _ => ?_)) <;> try (exfalso; omega)) | with_reducible refine Br.intro (fun _ => ?_) (fun _ => ?_) | (with_reducible refine And.intro ?_ ?_; · omega) | simp -dsimp -implicitDefEqProofs (disch := omega) only [VCA, Nat.reduceEqDiff, ↓reduceIte, reduceCtorEq, exists_eq_right_right])
  all_goals first
    | (refine ⟨Sub.refl _, ?_⟩; simp_all; done)
    | (simp_all; done)
def c78 : SFun := ⟨(.seq (.reg [⟨(some 3), (.boxF 42 12 (.t 1)), none⟩, ⟨(some 4), (.mv (.c (.int .i64 (0)))), none⟩]) (.seq (.reg [⟨(some 6), (.mv (.t 0)), none⟩, ⟨(some 7), (.fldA 0 (.t 3)), none⟩, ⟨(some 8), (.ld 1 false (.t 7)), none⟩, ⟨(some 9), (.call (.c (.fn 112 [] [])) [(.t 6), (.t 8)]), none⟩, ⟨(some 5), (.mv (.t 9)), none⟩]) (.seq (.seq (.reg [⟨(some 10), (.mv (.t 5)), none⟩, ⟨(some 11), (.isnil 2 false (.t 10)), none⟩]) (.cond (.t 11) (.seq (.reg [⟨(some 4), (.mv (.c (.int .i64 (1)))), none⟩]) .ret) .skip)) (.seq (.reg [⟨(some 12), (.mv (.t 5)), none⟩, ⟨(some 13), (.ld 12 true (.t 3)), none⟩, ⟨(some 14), (.call (.t 12) [(.t 13)]), none⟩, ⟨(some 4), (.mv (.t 14)), none⟩]) .ret)))), [(.tmp 4)]⟩
theorem hc78 : toSF Tryz.prog {} Tryz.f78 = some c78 := by kernel_rfl
theorem hn78 : (Tryz.f78.name == "runtime.NumGoroutine") = false := by kernel_rfl
theorem eedit_ok {h0 h : Heap} {re rN : Nat} {d : HDoc} {sl : Nat → AVal} {made : Int} (E : Ed h0 h re rN d sl made) (V : DV d) (sm : DocSm d) (e : HEdit) (he : EditSm e) : DCalls (Pg G) 78 [.vp re 0, .agg (eEdit e)] h (EdR h0 h re d e made) := by
  have hD := edoes_ok (G := G) h re e.do'
  have a12 : ∀ n, inD d n → (nd d n).attrs.length ≤ 12 := fun n hn => ((attrsE_iff _).1 ((nodeE_iff _).1 (V.node n hn)).2.2.2.1).1
  have key : ∀ f, DCalls (Pg G) f [.vp re 0, .agg (eEdit e)] h (EdR h0 h re d e made) → doesF re e.do' = .fn f [.vp re 0] [] → DCalls (Pg G) 78 [.vp re 0, .agg (eEdit e)] h (EdR h0 h re d e made) := fun f hf hd => by
    rw [hd] at hD
    unfold eEdit at hf
    refine dcalls_of_vc Tryz.func78 hn78 hc78 (by rw [Tryz.ntmps78]; simp) (by rw [Tryz.ntmps78]; decide) ?_
    simp -dsimp -implicitDefEqProofs (disch := omega) only [VCA, Nat.reduceEqDiff, Nat.reduceAdd, Nat.reduceLeDiff, ↓reduceIte, reduceCtorEq, c78, eEdit]
    refine DCalls.of hD ?_
    rintro _ _ ⟨rfl, rfl⟩
    simp -dsimp -implicitDefEqProofs (disch := omega) only [VCA, Nat.reduceEqDiff, Nat.reduceAdd, ↓reduceIte]
    refine DCalls.of hf ?_
    intro r h9 hr
    simp -dsimp -implicitDefEqProofs (disch := omega) only [VCA, ↓reduceIte]
    exact ⟨_, Sub.refl _, hr⟩
  by_cases h1 : e.do' = 1
  · exact key _ (eattr_ok E sm a12 e he h1) (by unfold doesF; rw [if_pos h1])
  by_cases h2 : e.do' = 2
  · exact key _ (edrop_ok E sm e he h2) (by unfold doesF; rw [if_neg h1, if_pos h2])
  by_cases h3 : e.do' = 3
  · exact key _ (etext_ok E e he h3) (by unfold doesF; rw [if_neg h1, if_neg h2, if_pos h3])
  by_cases h4 : e.do' = 4
  · exact key _ (emake_ok E V.len e he h4) (by unfold doesF; rw [if_neg h1, if_neg h2, if_neg h3, if_pos h4])
  by_cases h5 : e.do' = 5
  · exact key _ (einsert_ok E V sm e he h5) (by unfold doesF; rw [if_neg h1, if_neg h2, if_neg h3, if_neg h4, if_pos h5])
  by_cases h6 : e.do' = 6
  · exact key _ (eremove_ok E V sm e he h6) (by unfold doesF; rw [if_neg h1, if_neg h2, if_neg h3, if_neg h4, if_neg h5, if_pos h6])
  have hd : doesF re e.do' = .prim .nilFunc := by unfold doesF; rw [if_neg h1, if_neg h2, if_neg h3, if_neg h4, if_neg h5, if_neg h6]
  have eE : editE d e = 1 := by unfold editE; rw [if_neg h1, if_neg h2, if_neg h3, if_neg h4, if_neg h5, if_neg h6]
  rw [hd] at hD
  refine dcalls_of_vc Tryz.func78 hn78 hc78 (by rw [Tryz.ntmps78]; simp) (by rw [Tryz.ntmps78]; decide) ?_
  simp -dsimp -implicitDefEqProofs (disch := omega) only [VCA, Nat.reduceEqDiff, Nat.reduceAdd, Nat.reduceLeDiff, ↓reduceIte, reduceCtorEq, c78, eEdit]
  refine DCalls.of hD ?_
  rintro _ _ ⟨rfl, rfl⟩
  simp -dsimp -implicitDefEqProofs (disch := omega) only [VCA, ↓reduceIte]
  all_goals exact ⟨_, Sub.refl _, EdR.bad eE (by decide)⟩
end Go.Proofs.K
end
section
/- dom.Apply, dom.New. -/
set_option linter.unusedSimpArgs false
set_option linter.unusedVariables false
namespace Go.Proofs.K
open Go Go.Sim Go.Proofs
variable {G : Glob}
def noDoc : HDoc := ⟨[], false⟩
def applyE (d : HDoc) (e : HEdit) : Int := if docE d ≠ 0 then docE d else editE d e
def applyD (d : HDoc) (e : HEdit) : HDoc := if applyE d e = 0 then editD d e else noDoc
def applyN (d : HDoc) (e : HEdit) : Int := if applyE d e = 0 then editN d e else 0
theorem Dw.new' {X : List Nat} {h0 h : Heap} {rN : Nat} {d : HDoc} {sl : Nat → AVal} (E : Dw X h0 h rN d sl) : Dw [] (fun _ => none) (newH h0 h) rN d sl :=
  ⟨(fun t o ht => by cases ht), by rw [newH_none E.new.1]; exact E.nodes, ⟨rfl, by simp⟩, fun i hi => ⟨(E.own i hi).1.keep fun r o hr ho => by rw [newH_none (E.fresh _ (by omega) r hr).1]; exact ho, (E.own i hi).2.keep fun r o hr ho => by rw [newH_none (E.fresh _ (by omega) r hr).1]; exact ho⟩,
    fun k hk r hr => ⟨rfl, (E.fresh k hk r hr).2.1, by simp⟩, E.sep, fun r hr => by cases hr⟩
theorem Dw.base {X : List Nat} {h0 h00 h : Heap} {rN : Nat} {d : HDoc} {sl : Nat → AVal} (E : Dw X h0 h rN d sl) (S : Sim.Sub h00 h0) : Dw X h00 h rN d sl :=
  ⟨S.trans E.sub, E.nodes, ⟨S.none E.new.1, E.new.2⟩, E.own, fun k hk r hr => ⟨S.none (E.fresh k hk r hr).1, (E.fresh k hk r hr).2⟩, E.sep, E.keep⟩
/-- a root that was there before is changed -/
theorem Dw.beside {X : List Nat} {h0 h00 h : Heap} {rN r : Nat} {d : HDoc} {sl : Nat → AVal} {x : AObj} (E : Dw X h0 h rN d sl) (S : Sim.Sub h00 h0) (h1 : h0 r = some x) (h2 : h00 r = none) (hX : r ∉ X) (y : AObj) : Dw X h00 (upd h r (some y)) rN d sl := by
  have ne : ∀ t, h0 t = none → t ≠ r := fun t ht e => by rw [e, h1] at ht; cases ht
  refine ⟨(S.trans E.sub).upd h2, by rw [upd_ne _ _ (ne _ E.new.1)]; exact E.nodes, ⟨S.none E.new.1, E.new.2⟩, fun i hi => ?_, fun k hk t ht => ⟨S.none (E.fresh k hk t ht).1, (E.fresh k hk t ht).2⟩, E.sep, fun t ht => ?_⟩
  · obtain ⟨g1, g2⟩ := E.own i hi
    exact ⟨g1.keep fun t o ht ho => by rw [upd_ne _ _ (ne t (E.fresh _ (by omega) t ht).1)]; exact ho, g2.keep fun t o ht ho => by rw [upd_ne _ _ (ne t (E.fresh _ (by omega) t ht).1)]; exact ho⟩
  · obtain ⟨o, ho⟩ := E.keep t ht
    exact ⟨o, by rw [upd_ne _ _ (fun e => hX (by rw [← e]; exact ht))]; exact ho⟩
/-- the editor, made of a document -/
theorem Ed.begin {h h1 : Heap} {rN re : Nat} {d : HDoc} {sl : Nat → AVal} (E : Dw [] h h1 rN d sl) (M : ∀ k, k < 2 * d.nodes.length → Mut (sl k)) (hr : h1 re = none) :
    Ed h (upd h1 re (some ⟨.t 118, 3, [[.osl rN 6 0 d.nodes.length, .bool d.quirks, aInt 0]]⟩)) re rN d sl 0 := ⟨E.more hr _, upd_same _ _ _, E.sub.none hr, M⟩
theorem vw_noDoc (h : Heap) : Vw h (.agg [.emp, .bool false]) (.agg (eDoc noDoc)) := Vw.agg' (.cons .emp (.cons (.refl _) .nil))
theorem editN_made (d : HDoc) (e : HEdit) : (if e.do' = 4 then (d.nodes.length : Int) else 0) = editN d e := rfl
def c39 : SFun := ⟨(.seq (.reg [⟨(some 2), (.boxF 24 2 (.t 0)), none⟩, ⟨(some 3), (.boxF 42 12 (.t 1)), none⟩, ⟨(some 4), (.new 24 2 [.emp, (.bool false)]), none⟩, ⟨(some 5), (.mv (.c (.int .i64 (0)))), none⟩, ⟨(some 6), (.mv (.c (.int .i64 (0)))), none⟩]) (.seq (.seq (.reg [⟨(some 10), (.ld 2 true (.t 2)), none⟩, ⟨(some 11), (.pcall 47 [(.t 10)]), none⟩, ⟨(some 7), (.mv (.t 11)), none⟩]) (.seq (.reg [⟨(some 12), (.mv (.t 7)), none⟩, ⟨(some 13), (.bin .neq (.t 12) (.c (.int .i64 (0)))), none⟩]) (.cond (.t 13) (.seq (.reg [⟨(some 14), (.bld [.emp, (.bool false)] []), none⟩, ⟨(some 15), (.mv (.t 7)), none⟩, ⟨none, (.st 2 (.t 4) (.t 14)), none⟩, ⟨(some 5), (.mv (.c (.int .i64 (0)))), none⟩, ⟨(some 6), (.mv (.t 15)), none⟩]) .ret) .skip))) (.seq (.reg [⟨(some 16), (.ld 2 true (.t 2)), none⟩, ⟨(some 17), (.call (.c (.fn 77 [] [])) [(.t 16)]), none⟩, ⟨(some 18), (.bld [.emp, (.bool false), (.int .i64 (0))] [(0, (2, (.t 17)))]), none⟩, ⟨(some 19), (.box 118 3 (.t 18)), none⟩, ⟨(some 8), (.mv (.t 19)), none⟩]) (.seq (.seq (.reg [⟨(some 20), (.mv (.t 8)), none⟩, ⟨(some 21), (.ld 12 true (.t 3)), none⟩, ⟨(some 22), (.call (.c (.fn 78 [] [])) [(.t 20), (.t 21)]), none⟩, ⟨(some 9), (.mv (.t 22)), none⟩]) (.seq (.reg [⟨(some 23), (.mv (.t 9)), none⟩, ⟨(some 24), (.bin .neq (.t 23) (.c (.int .i64 (0)))), none⟩]) (.cond (.t 24) (.seq (.reg [⟨(some 25), (.bld [.emp, (.bool false)] []), none⟩, ⟨(some 26), (.mv (.t 9)), none⟩, ⟨none, (.st 2 (.t 4) (.t 25)), none⟩, ⟨(some 5), (.mv (.c (.int .i64 (0)))), none⟩, ⟨(some 6), (.mv (.t 26)), none⟩]) .ret) .skip))) (.seq (.dreg [(⟨(some 27), (.mv (.t 8)), none⟩, none), (⟨(some 28), (.fldA 0 (.t 27)), none⟩, none), (⟨(some 29), (.fldA 0 (.t 28)), none⟩, none), (⟨(some 30), (.ld 2 true (.t 29)), none⟩, none), (⟨(some 31), (.mv (.t 8)), none⟩, none), (⟨(some 32), (.fldA 0 (.t 31)), none⟩, none), (⟨(some 33), (.fldA 2 (.t 32)), none⟩, none), (⟨(some 34), (.ld 1 false (.t 33)), none⟩, none), (⟨none, (.st 2 (.t 4) (.t 30)), none⟩, (some [30])), (⟨(some 5), (.mv (.t 34)), none⟩, none), (⟨(some 6), (.mv (.c (.int .i64 (0)))), none⟩, none)]) .ret))))), [(.cell 4 2 true), (.tmp 5), (.tmp 6)]⟩
theorem hc39 : toSF Tryz.prog {pure := [47], how := [(19, 6)]} Tryz.f39 = some c39 := by kernel_rfl
theorem hn39 : (Tryz.f39.name == "runtime.NumGoroutine") = false := by kernel_rfl
theorem apply_ok (d : HDoc) (sm : DocSm d) (e : HEdit) (he : EditSm e) : PCalls (Pg G) 39 [.agg (eDoc d), .agg (eEdit e)] (.tup [.agg (eDoc (applyD d e)), aInt (applyN d e), aInt (applyE d e)]) := PCalls.outV fun h => by
  have hC := check_ok (G := G) d sm
  refine dcalls_of_vc Tryz.func39 hn39 hc39 (by rw [Tryz.ntmps39]; simp) (by rw [Tryz.ntmps39]; decide) ?_
  simp -dsimp -implicitDefEqProofs (disch := omega) only [VCA, Nat.reduceEqDiff, Nat.reduceAdd, ↓reduceIte, c39, eDoc_len, eDoc_take, eEdit]
  intro r4 hr4
  have S4 : ∀ x, Sim.Sub h (upd h r4 (some x)) := fun x => (Sub.refl h).upd hr4
  by_cases h1 : docE d = 0
  · have V := docE_DV h1
    have hp := V.pos
    rw [h1] at hC
    have aE : applyE d e = editE d e := by unfold applyE; rw [if_neg (by simpa using h1)]
    have hOwn := fun hp => own_ok' (G := G) d sm V.pos hp
    repeat' (first | ((with_reducible refine Br.dec (fun _ => ?_) (fun _ => ?_)) <;> try (exfalso; omega)) | ((with_reducible refine Br.eq (fun _ => ?_) (fun _ => ?_)) <;> try (exfalso; omega)) | ((with_reducible refine Br.ne (fun _ => ?_) (fun _ => ?_)) <;> try (exfalso; omega)) | ((with_reducible refine brNdec (fun _ => ?_) (fun _ => ?_)) <;> try (exfalso; omega)) | ((with_reducible refine brNeq (fun _ => ?_) (fun _ => ?_)) <;> try (exfalso; omega)) | with_reducible refine Br.intro (fun _ => ?_) (fun _ => ?_) | (with_reducible apply pcallE.of; · exact hC) | (with_reducible refine And.intro ?_ ?_; · omega) | simp -dsimp -implicitDefEqProofs (disch := omega) only [VCA, Nat.reduceEqDiff, ↓reduceIte, eDoc_len, eDoc_take])
    refine DCalls.of (hOwn _) ?_
    rintro a h2 ⟨rN, sl, rfl, Dw1, M1⟩
    have g4 := Dw1.sub r4 _ (upd_same _ _ _)
    simp -dsimp -implicitDefEqProofs (disch := omega) only [VCA, Nat.reduceEqDiff, Nat.reduceAdd, Nat.reduceLeDiff, ↓reduceIte, fillA, okFill]
    intro re hre
    have n4 : ¬ r4 = re := fun h => by rw [← h, g4] at hre; cases hre
    have n4' : ¬ re = r4 := fun h => n4 h.symm
    have E := Ed.begin Dw1 M1 hre
    have hEd := eedit_ok (G := G) E V sm e he
    unfold eEdit at hEd
    refine DCalls.of hEd ?_
    rintro a h3 ⟨rfl, hR⟩
    rcases hR with ⟨hne, rfl⟩ | ⟨hz, rN', sl', E3⟩
    · rw [← aE] at hne
      have aD : applyD d e = noDoc := by unfold applyD; rw [if_neg hne]
      have aN : applyN d e = 0 := by unfold applyN; rw [if_neg hne]
      rw [aD, aN, ← aE]
      repeat' (first | ((with_reducible refine Br.dec (fun _ => ?_) (fun _ => ?_)) <;> try (exfalso; omega)) | ((with_reducible refine Br.eq (fun _ => ?_) (fun _ => ?_)) <;> try (exfalso; omega)) | ((with_reducible refine Br.ne (fun _ => ?_) (fun _ => ?_)) <;> try (exfalso; omega)) | ((with_reducible refine brNdec (fun _ => ?_) (fun _ => ?_)) <;> try (exfalso; omega)) | ((with_reducible refine brNeq (fun _ => ?_) (fun _ => ?_)) <;> try (exfalso; omega)) | with_reducible refine Br.intro (fun _ => ?_) (fun _ => ?_) | (with_reducible refine And.intro ?_ ?_; · omega) | simp -dsimp -implicitDefEqProofs (disch := omega) only [VCA, Nat.reduceEqDiff, Nat.reduceAdd, Nat.reduceLT, ↓reduceIte, fillA, okFill, setAt, exists_eq_left', n4, g4])
      all_goals try (exfalso; omega)
      have Sh := (S4 _).trans Dw1.sub
      exact ⟨_, Sub.refl _, (Sh.upd (Sh.none hre)).upd hr4, .tup' (.cons (vw_noDoc _) (.cons (.refl _) (.cons (.refl _) .nil)))⟩
    · rw [← aE] at hz
      have aD : applyD d e = editD d e := by unfold applyD; rw [if_pos hz]
      have aN : applyN d e = editN d e := by unfold applyN; rw [if_pos hz]
      rw [aD, aN, hz, ← aE, hz]
      have gE3 := E3.ed
      have g43 := E3.dw.sub r4 _ (upd_same _ _ _)
      repeat' (first | ((with_reducible refine Br.dec (fun _ => ?_) (fun _ => ?_)) <;> try (exfalso; omega)) | ((with_reducible refine Br.eq (fun _ => ?_) (fun _ => ?_)) <;> try (exfalso; omega)) | ((with_reducible refine Br.ne (fun _ => ?_) (fun _ => ?_)) <;> try (exfalso; omega)) | ((with_reducible refine brNdec (fun _ => ?_) (fun _ => ?_)) <;> try (exfalso; omega)) | ((with_reducible refine brNeq (fun _ => ?_) (fun _ => ?_)) <;> try (exfalso; omega)) | with_reducible refine Br.intro (fun _ => ?_) (fun _ => ?_) | (with_reducible refine And.intro ?_ ?_; · omega) | simp -dsimp -implicitDefEqProofs (disch := omega) only [VCA, Nat.reduceEqDiff, Nat.reduceBEq, Nat.reduceAdd, Nat.reduceLT, Nat.reduceLeDiff, ↓reduceIte, rsOf, rootsOf, SOp.rd, SI.rd, SX.rd, setAt, implies_true, exists_eq_left', rootL, n4', gE3, g43, editN_made])
      all_goals try (exfalso; omega)
      exact ⟨_, Sub.refl _, ((S4 _).trans E3.dw.sub).upd hr4, .tup' (.cons (Vw.agg' (.cons (E3.dw.beside (S4 _) (upd_same _ _ _) hr4 (by simp [n4]) _).new'.vw (.cons (.refl _) .nil))) (.cons (.refl _) (.cons (.refl _) .nil)))⟩
  · have aE : applyE d e = docE d := by unfold applyE; rw [if_pos h1]
    have aD : applyD d e = noDoc := by unfold applyD; rw [aE, if_neg h1]
    have aN : applyN d e = 0 := by unfold applyN; rw [aE, if_neg h1]
    rw [aD, aE, aN]
    repeat' (first | ((with_reducible refine Br.dec (fun _ => ?_) (fun _ => ?_)) <;> try (exfalso; omega)) | ((with_reducible refine Br.eq (fun _ => ?_) (fun _ => ?_)) <;> try (exfalso; omega)) | ((with_reducible refine Br.ne (fun _ => ?_) (fun _ => ?_)) <;> try (exfalso; omega)) | ((with_reducible refine brNdec (fun _ => ?_) (fun _ => ?_)) <;> try (exfalso; omega)) | ((with_reducible refine brNeq (fun _ => ?_) (fun _ => ?_)) <;> try (exfalso; omega)) | with_reducible refine Br.intro (fun _ => ?_) (fun _ => ?_) | (with_reducible apply pcallE.of; · exact hC) | (with_reducible refine And.intro ?_ ?_; · omega) | simp -dsimp -implicitDefEqProofs (disch := omega) only [VCA, Nat.reduceEqDiff, Nat.reduceAdd, Nat.reduceLT, ↓reduceIte, fillA, okFill, setAt, exists_eq_left'])
    exact ⟨_, Sub.refl _, S4 _, .tup' (.cons (vw_noDoc _) (.cons (.refl _) (.cons (.refl _) .nil)))⟩
end Go.Proofs.K
end
section
/- Edits: the reference's without, copyDoc, EditErr. -/
set_option linter.unusedSimpArgs false
set_option linter.unusedVariables false
namespace Go.Proofs.K
open Go Go.Sim Go.Proofs
variable {G : Glob}
def c61 : SFun := ⟨(.seq (.reg [⟨(some 4), (.mv (.c .emp)), none⟩]) (.seq (.dreg [(⟨(some 5), (.bldF 3 1 []), none⟩, none), (⟨(some 6), (.mv (.t 0)), none⟩, none), (⟨(some 7), (.mv (.t 1)), none⟩, none), (⟨(some 8), (.slA 1 (.t 6) none (some (.t 7))), none⟩, none), (⟨(some 10), (.mv (.t 0)), none⟩, none), (⟨(some 11), (.mv (.t 1)), none⟩, none), (⟨(some 12), (.bin .add (.t 11) (.c (.int .i64 (1)))), none⟩, none), (⟨(some 13), (.slA 1 (.t 10) (some (.t 12)) none), none⟩, none), (⟨(some 9), (.app 3 1 8 (.t 5) (.t 8)), none⟩, (some [])), (⟨(some 14), (.app 3 1 8 (.t 9) (.t 13)), none⟩, (some [])), (⟨(some 4), (.mv (.t 14)), none⟩, none)]) .ret)), [(.tmp 4)]⟩
theorem hc61 : toSF Tryz.prog {} Tryz.f61 = some c61 := by kernel_rfl
theorem hn61 : (Tryz.f61.name == "runtime.NumGoroutine") = false := by kernel_rfl
theorem without_ok (l : List Int) (i : Nat) (hi : i < l.length) (hl : l.length ≤ 1073741824) : PCalls (Pg G) 61 [sl eInt l, aInt i] (sl eInt (l.take i ++ l.drop (i + 1))) := PCalls.acc (ty := 3) (sz := 1) fun h => by
  refine dcalls_of_vc Tryz.func61 hn61 hc61 (by rw [Tryz.ntmps61]; simp) (by rw [Tryz.ntmps61]; decide) ?_
  simp -dsimp -implicitDefEqProofs (disch := omega) only [VCA, Nat.reduceEqDiff, ↓reduceIte, reduceCtorEq, rsOf, rootsOf, SOp.rd, SI.rd, SX.rd, okParts, exists_eq_left, exists_eq_left', rootL, c61]
  refine ⟨by omega, by omega, by rw [List.length_take]; omega, by rw [List.length_take]; omega, fun r hr => ⟨by rw [List.length_take, List.length_drop]; omega, by rw [List.length_take, List.length_drop]; omega, fun r' hr' => ?_⟩⟩
  have dd : ∀ x, del (upd h r (some x)) r = h := fun x => by
    funext t
    by_cases e : t = r
    · subst e; rw [hr]; simp [del]
    · simp [del, upd, e]
  rw [dd] at hr' ⊢
  refine ⟨_, Sub.refl _, ?_, (Sub.refl h).upd hr'⟩
  have A := Acc.root (ty := 3) (sz := 1) (cells := (l.take i ++ l.drop (i + 1)).map eInt) hr' (upd_same h r' (some ⟨.t 3, 1, (l.take i ++ l.drop (i + 1)).map eInt⟩))
  rw [List.length_map, List.length_append] at A
  rw [← List.map_append]
  exact A
/-- a list of the call's own, made since a heap was -/
structure Fresh (h h' : Heap) (ty sz : Nat) (cells : List (List AVal)) (a : AVal) : Prop where
  acc : Acc h ty sz cells a h'
theorem Fresh.own {h h' : Heap} {ty sz : Nat} {cells : List (List AVal)} {a : AVal} (F : Fresh h h' ty sz cells a) : OwnS h' ty sz cells a := (OwnS.of_acc F.acc).1
theorem Fresh.live {h h' : Heap} {ty sz : Nat} {cells : List (List AVal)} {a : AVal} (F : Fresh h h' ty sz cells a) : Mut a := (OwnS.of_acc F.acc).2.2
theorem Fresh.new {h h' : Heap} {ty sz : Nat} {cells : List (List AVal)} {a : AVal} (F : Fresh h h' ty sz cells a) : ∀ r, rootOf a = some r → h r = none := (OwnS.of_acc F.acc).2.1
theorem Fresh.keep {h h' h2 : Heap} {ty sz : Nat} {cells : List (List AVal)} {a : AVal} (F : Fresh h h' ty sz cells a) (hk : ∀ r o, rootOf a = some r → h' r = some o → h2 r = some o) : Fresh h h2 ty sz cells a := ⟨by
  rcases F.acc with h1 | ⟨r, h0, h1, h2⟩
  · exact .inl h1
  · exact .inr ⟨r, h0, hk r _ (by rw [h2]; rfl) h1, h2⟩⟩
def c59 : SFun := ⟨(.seq (.reg [⟨(some 1), (.boxF 24 2 (.t 0)), none⟩, ⟨(some 2), (.new 24 2 [.emp, (.bool false)]), none⟩]) (.seq (.reg [⟨(some 6), (.fldA 1 (.t 1)), none⟩, ⟨(some 7), (.ld 1 false (.t 6)), none⟩, ⟨(some 8), (.bld [.emp, (.bool false)] [(1, (1, (.t 7)))]), none⟩, ⟨(some 3), (.new 24 2 [.emp, (.bool false)]), none⟩, ⟨none, (.st 2 (.t 3) (.t 8)), none⟩]) (.seq (.seq (.reg [⟨(some 4), (.mv (.c (.int .i64 (0)))), none⟩]) (.block 0 (.loop (.seq (.seq (.reg [⟨(some 9), (.mv (.t 4)), none⟩, ⟨(some 10), (.fldA 0 (.t 1)), none⟩, ⟨(some 11), (.ld 1 false (.t 10)), none⟩, ⟨(some 12), (.len (.t 11)), none⟩, ⟨(some 13), (.bin .lss (.t 9) (.t 12)), none⟩]) (.cond (.t 13) .skip (.exit 0))) (.seq (.block 1 (.seq (.reg [⟨(some 16), (.fldA 0 (.t 1)), none⟩, ⟨(some 17), (.ld 1 false (.t 16)), none⟩, ⟨(some 18), (.mv (.t 4)), none⟩, ⟨(some 19), (.idxA 6 (.t 17) (.t 18)), none⟩, ⟨(some 20), (.ld 6 true (.t 19)), none⟩, ⟨(some 5), (.new 40 6 [(.int .i64 (0)), (.str []), .emp, (.str []), (.int .i64 (0)), .emp]), none⟩, ⟨none, (.st 6 (.t 5) (.t 20)), none⟩]) (.seq (.reg [⟨(some 21), (.bldF 96 2 []), none⟩, ⟨(some 22), (.fldA 2 (.t 5)), none⟩, ⟨(some 23), (.ld 1 false (.t 22)), none⟩, ⟨(some 24), (.appF 96 2 32 (.t 21) (.t 23)), none⟩, ⟨(some 25), (.fldA 2 (.t 5)), none⟩, ⟨none, (.st 1 (.t 25) (.t 24)), none⟩]) (.seq (.reg [⟨(some 26), (.bldF 3 1 []), none⟩, ⟨(some 27), (.fldA 5 (.t 5)), none⟩, ⟨(some 28), (.ld 1 false (.t 27)), none⟩, ⟨(some 29), (.appF 3 1 8 (.t 26) (.t 28)), none⟩, ⟨(some 30), (.fldA 5 (.t 5)), none⟩, ⟨none, (.st 1 (.t 30) (.t 29)), none⟩]) (.reg [⟨(some 31), (.fldA 0 (.t 3)), none⟩, ⟨(some 32), (.ld 1 false (.t 31)), none⟩, ⟨(some 33), (.ld 6 true (.t 5)), none⟩, ⟨(some 34), (.bldF 40 6 [(.t 33)]), none⟩, ⟨(some 35), (.app 40 6 96 (.t 32) (.t 34)), none⟩, ⟨(some 36), (.fldA 0 (.t 3)), none⟩, ⟨none, (.st 1 (.t 36) (.t 35)), none⟩]))))) (.reg [⟨(some 14), (.mv (.t 4)), none⟩, ⟨(some 15), (.bin .add (.t 14) (.c (.int .i64 (1)))), none⟩, ⟨(some 4), (.mv (.t 15)), none⟩])))))) (.seq (.reg [⟨(some 37), (.ld 2 true (.t 3)), none⟩, ⟨none, (.st 2 (.t 2) (.t 37)), none⟩]) .ret)))), [(.cell 2 2 true)]⟩
theorem hc59 : toSF Tryz.prog {how := [(24, 8), (29, 8)]} Tryz.f59 = some c59 := by kernel_rfl
theorem hn59 : (Tryz.f59.name == "runtime.NumGoroutine") = false := by kernel_rfl
theorem copyDoc_ok (d : HDoc) (sm : DocSm d) (h : Heap) : DCalls (Pg G) 59 [.agg (eDoc d)] h fun a h' => ∃ b, a = .agg [b, .bool d.quirks] ∧ Fresh h h' 40 6 (d.nodes.map eNode) b ∧ Sub h h' := by
  have hl := sm.len
  refine dcalls_of_vc Tryz.func59 hn59 hc59 (by rw [Tryz.ntmps59]; simp) (by rw [Tryz.ntmps59]; decide) ?_
  simp -dsimp -implicitDefEqProofs (disch := omega) only [VCA, ↓upd_none, Nat.reduceEqDiff, Nat.reduceAdd, Nat.reduceLT, ↓reduceIte, fillA, okFill, setAt, ne_eq, exists_eq_left', eDoc, c59, eDoc]
  intro r2 hr2 r3 hr3
  have S0 : ∀ x y, Sim.Sub h (upd (upd h r2 (some x)) r3 (some y)) := fun x y => ((Sub.refl h).upd hr2).upd hr3.2
  have g2 : ∀ x y, (upd (upd h r2 (some x)) r3 (some y)) r2 = some x := fun x y => by rw [upd_ne _ _ (fun e => hr3.1 e.symm), upd_same]
  refine LoopVC.intro (fun m e h' => ∃ (k : Nat) (a : AVal), k ≤ d.nodes.length ∧ m = d.nodes.length - k ∧ e 1 = .pin (eDoc d) ∧ e 2 = .vp r2 0 ∧ e 3 = .vp r3 0 ∧ e 4 = aInt k ∧ Fresh h h' 40 6 ((d.nodes.take k).map eNode) a ∧ Sim.Sub h h' ∧
    h' r2 = some ⟨.t 24, 2, [[.emp, .bool false]]⟩ ∧ h' r3 = some ⟨.t 24, 2, [[a, .bool d.quirks]]⟩ ∧ rootOf a ≠ some r2 ∧ rootOf a ≠ some r3) d.nodes.length
    ⟨0, .emp, by omega, by omega, rfl, rfl, rfl, rfl, ⟨.inl ⟨rfl, rfl⟩⟩, S0 _ _, g2 _ _, upd_same _ _ _, (fun e => by cases e), (fun e => by cases e)⟩ ?_
  rintro m e h' ⟨k, a, hk, rfl, he1, he2, he3, he4, A, S, k2, k3, n2, n3⟩
  simp -dsimp -implicitDefEqProofs (disch := omega) only [VCA, Nat.reduceEqDiff, Nat.reduceAdd, Nat.reduceLeDiff, ↓reduceIte, ne_eq, eDoc, he1, he4]
  refine Br.dec (fun hlt => ?_) (fun hge => ?_)
  · have hk' : k < d.nodes.length := by omega
    have sx := sm.nth k
    have sa := sx.attrs
    have sk := sx.kids
    simp -dsimp -implicitDefEqProofs (disch := omega) only [VCA, Nat.reduceEqDiff, Nat.reduceAdd, Nat.reduceLT, Nat.reduceLeDiff, ↓reduceIte, okParts, setAt, forall_eq, exists_eq_left, exists_eq_left', eDoc, he1, he3, he4, k3, eNode]
    refine ⟨by omega, fun r5 hr5 => ⟨by omega, by omega, by omega, by omega, ?_⟩⟩
    have n53 : ¬ r3 = r5 := fun e => by rw [← e, k3] at hr5; cases hr5
    have n52 : ¬ r2 = r5 := fun e => by rw [← e, k2] at hr5; cases hr5
    have n35 : ¬ r5 = r3 := fun e => n53 e.symm
    have n25 : ¬ r5 = r2 := fun e => n52 e.symm
    simp -dsimp -implicitDefEqProofs (disch := omega) only [VCA, Nat.reduceAdd, Nat.reduceLT, Nat.reduceLeDiff, ↓reduceIte, exists_eq_left', n53]
    have O5 := A.own.keep (h2 := upd h' r5 (some ⟨.t 40, 6, [eNode (nth d.nodes k)]⟩)) fun r o hr ho => by rw [upd_ne _ _ (fun e => by rw [e, hr5] at ho; cases ho)]; exact ho
    have ll : ((d.nodes.take k).map eNode).length = k := by rw [List.length_map, List.length_take]; omega
    refine O5.app A.live (by rw [ll, List.length_singleton]; omega) (by rw [ll, List.length_singleton]; omega) fun r' h2 q1 q2 q3 => ?_
    rw [ll, List.length_singleton]
    have k5 := fun r o (hr : h' r = some o) (hn : rootOf a ≠ some r) => q3 r o (by rw [upd_ne _ _ (fun e => by rw [e, hr5] at hr; cases hr)]; exact hr) hn
    have k32 := k5 _ _ k3 n3
    have k22 := k5 _ _ k2 n2
    have hr' : h r' = none := by
      rcases q2 with e | e
      · exact A.new _ e
      · by_cases e5 : r' = r5
        · rw [e5]; exact S.none hr5
        · rw [upd_ne _ _ e5] at e; exact S.none e
    have m3 : ¬ r' = r3 := fun e => by
      rcases q2 with e' | e'
      · exact n3 (by rw [e', e])
      · rw [e, upd_ne _ _ n53, k3] at e'; cases e'
    have m2 : ¬ r' = r2 := fun e => by
      rcases q2 with e' | e'
      · exact n2 (by rw [e', e])
      · rw [e, upd_ne _ _ n52, k2] at e'; cases e'
    simp -dsimp -implicitDefEqProofs (disch := omega) only [VCA, Nat.reduceEqDiff, Nat.reduceAdd, Nat.reduceLT, Nat.reduceLeDiff, ↓reduceIte, setAt, exists_eq_left', eDoc, he1, he2, he3, he4, k32, k22]
    have em : (d.nodes.take (k + 1)).map eNode = (d.nodes.take k).map eNode ++ [eNode (nth d.nodes k)] := by rw [take_snoc hk', List.map_append]; rfl
    have el : ((d.nodes.take (k + 1)).map eNode).length = k + 1 := by rw [List.length_map, List.length_take]; omega
    refine ⟨_, by omega, k + 1, .osl r' 6 0 (k + 1), by omega, rfl, by omega, ⟨.inr ⟨r', hr', ?_, by rw [el]⟩⟩, ?_, ?_, ?_, ?_⟩
    · rw [upd_ne _ _ m3, em]; exact q1
    · refine Sub.upd (fun t o ht => ?_) hr3.2
      exact k5 t o (S _ _ ht) (fun e => by rw [A.new t e] at ht; cases ht)
    · rw [if_neg (fun e => hr3.1 e.symm)]
    · rfl
    · exact ⟨fun e => m2 (by cases e; rfl), fun e => m3 (by cases e; rfl)⟩
  · simp -dsimp -implicitDefEqProofs (disch := omega) only [VCA, Nat.reduceEqDiff, Nat.reduceAdd, Nat.reduceLT, ↓reduceIte, setAt, exists_eq_left', he2, he3, k2, k3]
    obtain rfl : k = d.nodes.length := by omega
    rw [List.take_length] at A
    refine ⟨_, Sub.refl _, _, rfl, A.keep fun r o hr ho => by rw [upd_ne _ _ (fun e => n2 (by rw [hr, e]))]; exact ho, S.upd hr2⟩
end Go.Proofs.K
end
section
/- Edits: the reference's EditErr. -/
set_option linter.unusedSimpArgs false
set_option linter.unusedVariables false
namespace Go.Proofs.K
open Go Go.Sim Go.Proofs
variable {G : Glob}
theorem betwD_ok (n a b : Int) : PCalls (Pg G) 76 [aInt n, aInt a, aInt b] (.bool (decide (a ≤ n ∧ n ≤ b))) := by
  have h := betw_ok (G := G) n a b
  have e : (decide (a ≤ n) && decide (n ≤ b)) = decide (a ≤ n ∧ n ≤ b) := by simp
  rwa [e] at h
theorem errR_4 {d : HDoc} {e : HEdit} (h4 : e.do' = 4) : errR d e = if 0 < (e.node.kids.length : Int) then 3 else if e.node.kind = 1 then 7 else nodeE e.node := by
  unfold errR
  rw [if_neg (by omega), if_pos h4]
  by_cases hk : e.node.kids = []
  · rw [if_neg (by simpa using hk), if_neg (c := 0 < (e.node.kids.length : Int)) (by rw [hk]; simp)]
  · rw [if_pos hk, if_pos]
    have := List.length_pos_iff.2 hk
    omega
theorem errR_in {d : HDoc} {e : HEdit} (h1 : 1 ≤ e.do') (h6 : e.do' ≤ 6) (h4 : e.do' ≠ 4) (hi : ¬ inD d e.at' ∨ (e.do' = 5 ∧ ¬ inD d e.to)) : errR d e = 5 := by
  unfold errR
  rw [if_neg (by omega), if_neg h4, if_pos hi]
theorem errR_1 {d : HDoc} {e : HEdit} (h : e.do' = 1) (ha : inD d e.at') : errR d e = if (nd d e.at').kind ≠ 2 then 7 else if (!nameOK false e.name) = true then 3 else 0 := by
  unfold errR
  rw [if_neg (by omega), if_neg (by omega), if_neg (by simp [ha]; omega), if_pos h]
  cases nameOK false e.name <;> simp
theorem errR_2 {d : HDoc} {e : HEdit} (h : e.do' = 2) (ha : inD d e.at') : errR d e = if (nd d e.at').kind ≠ 2 then 7 else if ¬ 0 ≤ attrAt (nd d e.at').attrs e.name then 5 else 0 := by
  unfold errR
  rw [if_neg (by omega), if_neg (by omega), if_neg (by simp [ha]; omega), if_neg (by omega), if_pos h]
theorem errR_3 {d : HDoc} {e : HEdit} (h : e.do' = 3) (ha : inD d e.at') : errR d e = if (nd d e.at').kind ≠ 3 ∧ (nd d e.at').kind ≠ 4 then 7 else 0 := by
  unfold errR
  rw [if_neg (by omega), if_neg (by omega), if_neg (by simp [ha]; omega), if_neg (by omega), if_neg (by omega), if_pos h]
theorem errR_6 {d : HDoc} {e : HEdit} (h : e.do' = 6) (ha : inD d e.at') : errR d e = if e.at' = 0 then 7 else if (nd d e.at').parent < 0 then 5 else 0 := by
  unfold errR
  rw [if_neg (by omega), if_neg (by omega), if_neg (by simp [ha]; omega), if_neg (by omega), if_neg (by omega), if_neg (by omega), if_pos h]
theorem errR_5 {d : HDoc} {e : HEdit} (h : e.do' = 5) (ha : inD d e.at') (ht : inD d e.to) : errR d e = if 2 < (nd d e.at').kind ∨ e.to = 0 ∨ (e.at' = 0 ∧ (nd d e.to).kind = 3) then 7 else if 0 ≤ (nd d e.to).parent then 9
    else if e.before ≠ -1 ∧ idxM (· == e.before) (nd d e.at').kids < 0 then 5 else if decide (e.to ∈ chain d e.at') = true then 8 else 0 := by
  have im := idx_mem (nd d e.at').kids e.before
  unfold errR
  rw [if_neg (by omega), if_neg (by omega), if_neg (by simp [ha, ht]), if_neg (by omega), if_neg (by omega), if_neg (by omega), if_neg (by omega)]
  have : (e.before ∉ (nd d e.at').kids) = (idxM (· == e.before) (nd d e.at').kids < 0) := by rw [← im]; exact propext (by omega)
  simp only [this, decide_eq_true_eq]
def c58_s7 : SCode := (.seq (.seq (.reg [⟨(some 65), (.fldA 0 (.t 3)), none⟩, ⟨(some 66), (.ld 1 false (.t 65)), none⟩]) (.block 0 (.seq (.reg [⟨(some 112), (.bin .eql (.t 66) (.c (.int .i64 (1)))), none⟩, ⟨(some 111), (.mv (.t 112)), none⟩]) (.cond (.t 111) (.seq (.seq (.reg [⟨(some 113), (.fldA 0 (.t 6)), none⟩, ⟨(some 114), (.ld 1 false (.t 113)), none⟩, ⟨(some 115), (.bin .neq (.t 114) (.c (.int .i64 (2)))), none⟩]) (.cond (.t 115) (.seq (.reg [⟨(some 4), (.mv (.c (.int .i64 (7)))), none⟩]) .ret) .skip)) (.seq (.reg [⟨(some 116), (.fldA 4 (.t 3)), none⟩, ⟨(some 117), (.ld 1 false (.t 116)), none⟩, ⟨(some 118), (.pcall 102 [(.t 117), (.c (.bool false))]), none⟩, ⟨(some 119), (.un .not (.t 118)), none⟩]) (.cond (.t 119) (.seq (.reg [⟨(some 4), (.mv (.c (.int .i64 (3)))), none⟩]) .ret) .skip))) (.seq (.reg [⟨(some 121), (.bin .eql (.t 66) (.c (.int .i64 (2)))), none⟩, ⟨(some 120), (.mv (.t 121)), none⟩]) (.cond (.t 120) (.seq (.seq (.reg [⟨(some 122), (.fldA 0 (.t 6)), none⟩, ⟨(some 123), (.ld 1 false (.t 122)), none⟩, ⟨(some 124), (.bin .neq (.t 123) (.c (.int .i64 (2)))), none⟩]) (.cond (.t 124) (.seq (.reg [⟨(some 4), (.mv (.c (.int .i64 (7)))), none⟩]) .ret) .skip)) (.seq (.reg [⟨(some 125), (.mv (.t 8)), none⟩, ⟨(some 126), (.un .not (.t 125)), none⟩]) (.cond (.t 126) (.seq (.reg [⟨(some 4), (.mv (.c (.int .i64 (5)))), none⟩]) .ret) .skip))) (.seq (.reg [⟨(some 128), (.bin .eql (.t 66) (.c (.int .i64 (3)))), none⟩, ⟨(some 127), (.mv (.t 128)), none⟩]) (.cond (.t 127) (.seq (.reg [⟨(some 129), (.fldA 0 (.t 6)), none⟩, ⟨(some 130), (.ld 1 false (.t 129)), none⟩, ⟨(some 131), (.bin .neq (.t 130) (.c (.int .i64 (3)))), none⟩, ⟨(some 132), (.mv (.t 131)), none⟩, ⟨(some 133), (.fldA 0 (.t 6)), (some (132, true))⟩, ⟨(some 134), (.ld 1 false (.t 133)), (some (132, true))⟩, ⟨(some 135), (.bin .neq (.t 134) (.c (.int .i64 (4)))), (some (132, true))⟩, ⟨(some 136), (.pick (.t 132) (.t 135) (.c (.bool false))), none⟩]) (.cond (.t 136) (.seq (.reg [⟨(some 4), (.mv (.c (.int .i64 (7)))), none⟩]) .ret) .skip)) (.seq (.reg [⟨(some 138), (.bin .eql (.t 66) (.c (.int .i64 (6)))), none⟩, ⟨(some 137), (.mv (.t 138)), none⟩]) (.cond (.t 137) (.seq (.seq (.reg [⟨(some 139), (.fldA 1 (.t 3)), none⟩, ⟨(some 140), (.ld 1 false (.t 139)), none⟩, ⟨(some 141), (.bin .eql (.t 140) (.c (.int .i64 (0)))), none⟩]) (.cond (.t 141) (.seq (.reg [⟨(some 4), (.mv (.c (.int .i64 (7)))), none⟩]) .ret) .skip)) (.seq (.reg [⟨(some 142), (.fldA 4 (.t 6)), none⟩, ⟨(some 143), (.ld 1 false (.t 142)), none⟩, ⟨(some 144), (.bin .lss (.t 143) (.c (.int .i64 (0)))), none⟩]) (.cond (.t 144) (.seq (.reg [⟨(some 4), (.mv (.c (.int .i64 (5)))), none⟩]) .ret) .skip))) (.seq (.reg [⟨(some 67), (.fldA 0 (.t 2)), none⟩, ⟨(some 68), (.ld 1 false (.t 67)), none⟩, ⟨(some 69), (.fldA 2 (.t 3)), none⟩, ⟨(some 70), (.ld 1 false (.t 69)), none⟩, ⟨(some 71), (.idxA 6 (.t 68) (.t 70)), none⟩, ⟨(some 72), (.ld 6 true (.t 71)), none⟩, ⟨(some 9), (.new 40 6 [(.int .i64 (0)), (.str []), .emp, (.str []), (.int .i64 (0)), .emp]), none⟩, ⟨none, (.st 6 (.t 9) (.t 72)), none⟩]) (.seq (.seq (.reg [⟨(some 73), (.fldA 0 (.t 6)), none⟩, ⟨(some 74), (.ld 1 false (.t 73)), none⟩, ⟨(some 75), (.bin .gtr (.t 74) (.c (.int .i64 (2)))), none⟩, ⟨(some 76), (.mv (.t 75)), none⟩, ⟨(some 77), (.fldA 2 (.t 3)), (some (76, false))⟩, ⟨(some 78), (.ld 1 false (.t 77)), (some (76, false))⟩, ⟨(some 79), (.bin .eql (.t 78) (.c (.int .i64 (0)))), (some (76, false))⟩, ⟨(some 80), (.pick (.t 76) (.c (.bool true)) (.t 79)), none⟩, ⟨(some 81), (.mv (.t 80)), none⟩, ⟨(some 82), (.fldA 1 (.t 3)), (some (81, false))⟩, ⟨(some 83), (.ld 1 false (.t 82)), (some (81, false))⟩, ⟨(some 84), (.bin .eql (.t 83) (.c (.int .i64 (0)))), (some (81, false))⟩, ⟨(some 85), (.mv (.t 84)), (some (81, false))⟩, ⟨(some 86), (.fldA 0 (.t 9)), (some (85, true))⟩, ⟨(some 87), (.ld 1 false (.t 86)), (some (85, true))⟩, ⟨(some 88), (.bin .eql (.t 87) (.c (.int .i64 (3)))), (some (85, true))⟩, ⟨(some 89), (.pick (.t 85) (.t 88) (.c (.bool false))), (some (81, false))⟩, ⟨(some 90), (.pick (.t 81) (.c (.bool true)) (.t 89)), none⟩]) (.cond (.t 90) (.seq (.reg [⟨(some 4), (.mv (.c (.int .i64 (7)))), none⟩]) .ret) .skip)) (.seq (.seq (.reg [⟨(some 91), (.fldA 4 (.t 9)), none⟩, ⟨(some 92), (.ld 1 false (.t 91)), none⟩, ⟨(some 93), (.bin .geq (.t 92) (.c (.int .i64 (0)))), none⟩]) (.cond (.t 93) (.seq (.reg [⟨(some 4), (.mv (.c (.int .i64 (9)))), none⟩]) .ret) .skip)) (.seq (.seq (.reg [⟨(some 94), (.fldA 3 (.t 3)), none⟩, ⟨(some 95), (.ld 1 false (.t 94)), none⟩, ⟨(some 96), (.bin .neq (.t 95) (.c (.int .i64 (-1)))), none⟩, ⟨(some 97), (.mv (.t 96)), none⟩, ⟨(some 98), (.fldA 5 (.t 6)), (some (97, true))⟩, ⟨(some 99), (.ld 1 false (.t 98)), (some (97, true))⟩, ⟨(some 100), (.fldA 3 (.t 3)), (some (97, true))⟩, ⟨(some 101), (.ld 1 false (.t 100)), (some (97, true))⟩, ⟨(some 102), (.pcall 60 [(.t 99), (.t 101)]), (some (97, true))⟩, ⟨(some 103), (.bin .lss (.t 102) (.c (.int .i64 (0)))), (some (97, true))⟩, ⟨(some 104), (.pick (.t 97) (.t 103) (.c (.bool false))), none⟩]) (.cond (.t 104) (.seq (.reg [⟨(some 4), (.mv (.c (.int .i64 (5)))), none⟩]) .ret) .skip)) (.seq (.reg [⟨(some 105), (.ld 2 true (.t 2)), none⟩, ⟨(some 106), (.fldA 1 (.t 3)), none⟩, ⟨(some 107), (.ld 1 false (.t 106)), none⟩, ⟨(some 108), (.fldA 2 (.t 3)), none⟩, ⟨(some 109), (.ld 1 false (.t 108)), none⟩, ⟨(some 110), (.pcall 62 [(.t 105), (.t 107), (.t 109)]), none⟩]) (.cond (.t 110) (.seq (.reg [⟨(some 4), (.mv (.c (.int .i64 (8)))), none⟩]) .ret) .skip)))))))))))))))) (.seq (.reg [⟨(some 4), (.mv (.c (.int .i64 (0)))), none⟩]) .ret))
def c58_s4 : SCode := (.seq (.seq (.reg [⟨(some 32), (.fldA 1 (.t 3)), none⟩, ⟨(some 33), (.ld 1 false (.t 32)), none⟩, ⟨(some 34), (.mv (.t 5)), none⟩, ⟨(some 35), (.bin .sub (.t 34) (.c (.int .i64 (1)))), none⟩, ⟨(some 36), (.pcall 76 [(.t 33), (.c (.int .i64 (0))), (.t 35)]), none⟩, ⟨(some 37), (.un .not (.t 36)), none⟩, ⟨(some 38), (.mv (.t 37)), none⟩, ⟨(some 39), (.fldA 0 (.t 3)), (some (38, false))⟩, ⟨(some 40), (.ld 1 false (.t 39)), (some (38, false))⟩, ⟨(some 41), (.bin .eql (.t 40) (.c (.int .i64 (5)))), (some (38, false))⟩, ⟨(some 42), (.mv (.t 41)), (some (38, false))⟩, ⟨(some 43), (.fldA 2 (.t 3)), (some (42, true))⟩, ⟨(some 44), (.ld 1 false (.t 43)), (some (42, true))⟩, ⟨(some 45), (.mv (.t 5)), (some (42, true))⟩, ⟨(some 46), (.bin .sub (.t 45) (.c (.int .i64 (1)))), (some (42, true))⟩, ⟨(some 47), (.pcall 76 [(.t 44), (.c (.int .i64 (0))), (.t 46)]), (some (42, true))⟩, ⟨(some 48), (.un .not (.t 47)), (some (42, true))⟩, ⟨(some 49), (.pick (.t 42) (.t 48) (.c (.bool false))), (some (38, false))⟩, ⟨(some 50), (.pick (.t 38) (.c (.bool true)) (.t 49)), none⟩]) (.cond (.t 50) (.seq (.reg [⟨(some 4), (.mv (.c (.int .i64 (5)))), none⟩]) .ret) .skip)) (.seq (.reg [⟨(some 51), (.fldA 0 (.t 2)), none⟩, ⟨(some 52), (.ld 1 false (.t 51)), none⟩, ⟨(some 53), (.fldA 1 (.t 3)), none⟩, ⟨(some 54), (.ld 1 false (.t 53)), none⟩, ⟨(some 55), (.idxA 6 (.t 52) (.t 54)), none⟩, ⟨(some 56), (.ld 6 true (.t 55)), none⟩, ⟨(some 6), (.new 40 6 [(.int .i64 (0)), (.str []), .emp, (.str []), (.int .i64 (0)), .emp]), none⟩, ⟨none, (.st 6 (.t 6) (.t 56)), none⟩]) (.seq (.reg [⟨(some 58), (.fldA 2 (.t 6)), none⟩, ⟨(some 59), (.ld 1 false (.t 58)), none⟩, ⟨(some 60), (.fldA 4 (.t 3)), none⟩, ⟨(some 61), (.ld 1 false (.t 60)), none⟩, ⟨(some 62), (.pcall 94 [(.t 59), (.t 61)]), none⟩, ⟨(some 57), (.mv (.t 62)), none⟩, ⟨(some 63), (.ext (.t 57) 0), none⟩, ⟨(some 64), (.ext (.t 57) 1), none⟩, ⟨(some 7), (.mv (.t 63)), none⟩, ⟨(some 8), (.mv (.t 64)), none⟩]) c58_s7)))
def c58 : SFun := ⟨(.seq (.reg [⟨(some 2), (.boxF 24 2 (.t 0)), none⟩, ⟨(some 3), (.boxF 42 12 (.t 1)), none⟩, ⟨(some 4), (.mv (.c (.int .i64 (0)))), none⟩]) (.seq (.reg [⟨(some 10), (.fldA 0 (.t 2)), none⟩, ⟨(some 11), (.ld 1 false (.t 10)), none⟩, ⟨(some 12), (.len (.t 11)), none⟩, ⟨(some 5), (.mv (.t 12)), none⟩]) (.seq (.seq (.reg [⟨(some 13), (.fldA 0 (.t 3)), none⟩, ⟨(some 14), (.ld 1 false (.t 13)), none⟩, ⟨(some 15), (.pcall 76 [(.t 14), (.c (.int .i64 (1))), (.c (.int .i64 (6)))]), none⟩, ⟨(some 16), (.un .not (.t 15)), none⟩]) (.cond (.t 16) (.seq (.reg [⟨(some 4), (.mv (.c (.int .i64 (1)))), none⟩]) .ret) .skip)) (.seq (.seq (.reg [⟨(some 17), (.fldA 0 (.t 3)), none⟩, ⟨(some 18), (.ld 1 false (.t 17)), none⟩, ⟨(some 19), (.bin .eql (.t 18) (.c (.int .i64 (4)))), none⟩]) (.cond (.t 19) (.seq (.seq (.reg [⟨(some 20), (.fldA 6 (.t 3)), none⟩, ⟨(some 21), (.fldA 5 (.t 20)), none⟩, ⟨(some 22), (.ld 1 false (.t 21)), none⟩, ⟨(some 23), (.len (.t 22)), none⟩, ⟨(some 24), (.bin .gtr (.t 23) (.c (.int .i64 (0)))), none⟩]) (.cond (.t 24) (.seq (.reg [⟨(some 4), (.mv (.c (.int .i64 (3)))), none⟩]) .ret) .skip)) (.seq (.seq (.reg [⟨(some 25), (.fldA 6 (.t 3)), none⟩, ⟨(some 26), (.fldA 0 (.t 25)), none⟩, ⟨(some 27), (.ld 1 false (.t 26)), none⟩, ⟨(some 28), (.bin .eql (.t 27) (.c (.int .i64 (1)))), none⟩]) (.cond (.t 28) (.seq (.reg [⟨(some 4), (.mv (.c (.int .i64 (7)))), none⟩]) .ret) .skip)) (.seq (.reg [⟨(some 29), (.fldA 6 (.t 3)), none⟩, ⟨(some 30), (.ld 6 true (.t 29)), none⟩, ⟨(some 31), (.pcall 92 [(.t 30)]), none⟩, ⟨(some 4), (.mv (.t 31)), none⟩]) .ret))) .skip)) c58_s4)))), [(.tmp 4)]⟩
theorem hc58 : toSF Tryz.prog {pure := [76, 92, 60, 94, 102, 62]} Tryz.f58 = some c58 := by kernel_rfl
theorem hn58 : (Tryz.f58.name == "runtime.NumGoroutine") = false := by kernel_rfl
set_option maxHeartbeats 2000000 in
theorem editErr_ok (d : HDoc) (V : DV d) (sm : DocSm d) (e : HEdit) (he : EditSm e) : PCalls (Pg G) 58 [.agg (eDoc d), .agg (eEdit e)] (aInt (errR d e)) := fun h => by
  have hl := sm.len
  have hN := nodeErr_ok (G := G) e.node he.node
  have hB1 : PCalls (Pg G) 76 [aInt e.do', .int .i64 1, .int .i64 6] (.bool (decide (1 ≤ e.do' ∧ e.do' ≤ 6))) := betwD_ok (G := G) e.do' 1 6
  have hB2 : PCalls (Pg G) 76 [aInt e.at', .int .i64 0, aInt ((d.nodes.length : Int) - 1)] (.bool (decide (0 ≤ e.at' ∧ e.at' ≤ (d.nodes.length : Int) - 1))) := betwD_ok (G := G) e.at' 0 ((d.nodes.length : Int) - 1)
  have hB3 : PCalls (Pg G) 76 [aInt e.to, .int .i64 0, aInt ((d.nodes.length : Int) - 1)] (.bool (decide (0 ≤ e.to ∧ e.to ≤ (d.nodes.length : Int) - 1))) := betwD_ok (G := G) e.to 0 ((d.nodes.length : Int) - 1)
  have s7 : inD d e.at' → (e.do' = 5 → inD d e.to) → 1 ≤ e.do' → e.do' ≤ 6 → e.do' ≠ 4 → ∀ (E : Env) (h2 : Heap) (r6 : Nat), h2 r6 = some ⟨.t 40, 6, [eNode (nd d e.at')]⟩ → Sim.Sub h h2 → E 2 = .pin (eDoc d) → E 3 = .pin (eEdit e) → E 6 = .vp r6 0 → E 8 = .bool (decide (0 ≤ attrAt (nd d e.at').attrs e.name)) → vc (Pg G) c58_s7 (retK [.tmp 4] fun r h' => r = aInt (errR d e) ∧ h' = h) E h2 := by
    intro ha hto h1 h6 h4 E h2 r6 hr6 S he2 he3 he6 he8
    unfold eNode at hr6
    unfold c58_s7
    skip
    have a0 := ha.1
    have a1 := ha.2
    have ea : nth d.nodes e.at'.toNat = nd d e.at' := rfl
    have et : nth d.nodes e.to.toNat = nd d e.to := rfl
    have hD : PCalls (Pg G) 102 [.str e.name, .bool false] (.bool (nameOK false e.name)) := domName_ok (G := G) e.name false he.name
    have hP : PCalls (Pg G) 60 [sl eInt (nd d e.at').kids, aInt e.before] (aInt (idxM (· == e.before) (nd d e.at').kids)) := placeIn_ok (G := G) _ _ (sm.nd _).kids
    have im := idx_mem (nd d e.at').kids e.before
    have hU : e.do' = 5 → PCalls (Pg G) 62 [.agg [sl eNode d.nodes, .bool d.quirks], aInt e.at', aInt e.to] (.bool (decide (e.to ∈ chain d e.at'))) := fun h5 => under_ok (G := G) d V e.at' e.to ha (hto h5).1
    by_cases c1 : e.do' = 1
    · have hE := errR_1 c1 ha
      generalize nameOK false e.name = bn at *
      cases bn
      all_goals
        simp -dsimp -implicitDefEqProofs (disch := omega) only [VCA, Nat.reduceAdd, Nat.reduceLeDiff, ↓reduceIte, he3, eEdit, c1]
        repeat' (first | ((with_reducible refine Br.dec (fun _ => ?_) (fun _ => ?_)) <;> try (exfalso; omega)) | ((with_reducible refine Br.eq (fun _ => ?_) (fun _ => ?_)) <;> try (exfalso; omega)) | ((with_reducible refine Br.ne (fun _ => ?_) (fun _ => ?_)) <;> try (exfalso; omega)) | ((with_reducible refine brNdec (fun _ => ?_) (fun _ => ?_)) <;> try (exfalso; omega)) | ((with_reducible refine brNeq (fun _ => ?_) (fun _ => ?_)) <;> try (exfalso; omega)) | with_reducible refine Br.intro (fun _ => ?_) (fun _ => ?_) | (with_reducible apply pcallE.of; · exact hD) | (with_reducible refine And.intro ?_ ?_; · omega) | simp -dsimp -implicitDefEqProofs (disch := omega) only [VCA, Nat.reduceEqDiff, Nat.reduceAdd, Nat.reduceLT, Nat.reduceLeDiff, ↓reduceIte, exists_eq_right_right, exists_eq_left', he3, he6, hr6, eEdit, c1])
      all_goals first | (rw [hE]; ((repeat' split) <;> first | with_reducible rfl | (exfalso; omega) | contradiction); done) | (refine ⟨S, ?_⟩; rw [hE]; ((repeat' split) <;> first | with_reducible rfl | (exfalso; omega) | contradiction); done) | trace_state
    by_cases c2 : e.do' = 2
    · have hE := errR_2 c2 ha
      by_cases hat : 0 ≤ attrAt (nd d e.at').attrs e.name
      all_goals
        first
          | rw [decide_eq_true hat] at he8
          | rw [decide_eq_false hat] at he8
        simp -dsimp -implicitDefEqProofs (disch := omega) only [VCA, Nat.reduceAdd, Nat.reduceLeDiff, ↓reduceIte, he3, eEdit, c2]
        repeat' (first | ((with_reducible refine Br.dec (fun _ => ?_) (fun _ => ?_)) <;> try (exfalso; omega)) | ((with_reducible refine Br.eq (fun _ => ?_) (fun _ => ?_)) <;> try (exfalso; omega)) | ((with_reducible refine Br.ne (fun _ => ?_) (fun _ => ?_)) <;> try (exfalso; omega)) | ((with_reducible refine brNdec (fun _ => ?_) (fun _ => ?_)) <;> try (exfalso; omega)) | ((with_reducible refine brNeq (fun _ => ?_) (fun _ => ?_)) <;> try (exfalso; omega)) | with_reducible refine Br.intro (fun _ => ?_) (fun _ => ?_) | (with_reducible refine And.intro ?_ ?_; · omega) | simp -dsimp -implicitDefEqProofs (disch := omega) only [VCA, Nat.reduceEqDiff, Nat.reduceAdd, Nat.reduceLT, Nat.reduceLeDiff, ↓reduceIte, exists_eq_right_right, exists_eq_left', he6, he8, hr6])
      all_goals first | (rw [hE]; ((repeat' split) <;> first | with_reducible rfl | (exfalso; omega) | contradiction); done) | (refine ⟨S, ?_⟩; rw [hE]; ((repeat' split) <;> first | with_reducible rfl | (exfalso; omega) | contradiction); done) | trace_state
    by_cases c3 : e.do' = 3
    · have hE := errR_3 c3 ha
      simp -dsimp -implicitDefEqProofs (disch := omega) only [VCA, Nat.reduceAdd, Nat.reduceLeDiff, ↓reduceIte, he3, eEdit, c3]
      repeat' (first | ((with_reducible refine Br.dec (fun _ => ?_) (fun _ => ?_)) <;> try (exfalso; omega)) | ((with_reducible refine Br.eq (fun _ => ?_) (fun _ => ?_)) <;> try (exfalso; omega)) | ((with_reducible refine Br.ne (fun _ => ?_) (fun _ => ?_)) <;> try (exfalso; omega)) | ((with_reducible refine brNdec (fun _ => ?_) (fun _ => ?_)) <;> try (exfalso; omega)) | ((with_reducible refine brNeq (fun _ => ?_) (fun _ => ?_)) <;> try (exfalso; omega)) | with_reducible refine Br.intro (fun _ => ?_) (fun _ => ?_) | (with_reducible refine And.intro ?_ ?_; · omega) | simp -dsimp -implicitDefEqProofs (disch := omega) only [↓vcOps_sp 132, VCA, Nat.reduceEqDiff, Nat.reduceAdd, Nat.reduceLT, Nat.reduceLeDiff, ↓reduceIte, exists_eq_right_right, exists_eq_left', he6, hr6])
      all_goals first | (rw [hE]; ((repeat' split) <;> first | with_reducible rfl | (exfalso; omega) | contradiction); done) | (refine ⟨S, ?_⟩; rw [hE]; ((repeat' split) <;> first | with_reducible rfl | (exfalso; omega) | contradiction); done) | trace_state
    by_cases c6 : e.do' = 6
    · have hE := errR_6 c6 ha
      simp -dsimp -implicitDefEqProofs (disch := omega) only [VCA, Nat.reduceAdd, Nat.reduceLeDiff, ↓reduceIte, he3, eEdit, c6]
      repeat' (first | ((with_reducible refine Br.dec (fun _ => ?_) (fun _ => ?_)) <;> try (exfalso; omega)) | ((with_reducible refine Br.eq (fun _ => ?_) (fun _ => ?_)) <;> try (exfalso; omega)) | ((with_reducible refine Br.ne (fun _ => ?_) (fun _ => ?_)) <;> try (exfalso; omega)) | ((with_reducible refine brNdec (fun _ => ?_) (fun _ => ?_)) <;> try (exfalso; omega)) | ((with_reducible refine brNeq (fun _ => ?_) (fun _ => ?_)) <;> try (exfalso; omega)) | with_reducible refine Br.intro (fun _ => ?_) (fun _ => ?_) | (with_reducible refine And.intro ?_ ?_; · omega) | simp -dsimp -implicitDefEqProofs (disch := omega) only [VCA, Nat.reduceEqDiff, Nat.reduceAdd, Nat.reduceLT, Nat.reduceLeDiff, ↓reduceIte, exists_eq_right_right, exists_eq_left', he3, he6, hr6, eEdit, c6])
      all_goals first | (rw [hE]; ((repeat' split) <;> first | with_reducible rfl | (exfalso; omega) | contradiction); done) | (refine ⟨S, ?_⟩; rw [hE]; ((repeat' split) <;> first | with_reducible rfl | (exfalso; omega) | contradiction); done) | trace_state
    have c5 : e.do' = 5 := by omega
    have t0 := (hto c5).1
    have t1 := (hto c5).2
    have hU := hU c5
    have hE := errR_5 c5 ha (hto c5)
    clear im hD hB1 hB2 hB3 hN
    generalize decide (e.to ∈ chain d e.at') = bc at *
    cases bc
    all_goals
      simp -dsimp -implicitDefEqProofs (disch := omega) only [VCA, Nat.reduceAdd, Nat.reduceLeDiff, ↓reduceIte, he3, eEdit, c5]
      repeat' (first | ((with_reducible refine Br.dec (fun _ => ?_) (fun _ => ?_)) <;> try (exfalso; omega)) | ((with_reducible refine Br.eq (fun _ => ?_) (fun _ => ?_)) <;> try (exfalso; omega)) | ((with_reducible refine Br.ne (fun _ => ?_) (fun _ => ?_)) <;> try (exfalso; omega)) | ((with_reducible refine brNdec (fun _ => ?_) (fun _ => ?_)) <;> try (exfalso; omega)) | ((with_reducible refine brNeq (fun _ => ?_) (fun _ => ?_)) <;> try (exfalso; omega)) | with_reducible refine Br.intro (fun _ => ?_) (fun _ => ?_) | (with_reducible refine And.intro ?_ ?_; · omega) | simp -dsimp -implicitDefEqProofs (disch := omega) only [↓vcOps_sp 76, VCA, Nat.reduceEqDiff, Nat.reduceAdd, Nat.reduceLT, Nat.reduceLeDiff, ↓reduceIte, setAt, exists_eq_left', eDoc, he2, he3, he6, hr6, eEdit, eNode, c5])
      intro r9 hr9
      have n69 : ¬ r6 = r9 := fun e => by rw [← e, hr6] at hr9; cases hr9
      have n96 : ¬ r9 = r6 := fun e => n69 e.symm
      repeat' (first | ((with_reducible refine Br.dec (fun _ => ?_) (fun _ => ?_)) <;> try (exfalso; omega)) | ((with_reducible refine Br.eq (fun _ => ?_) (fun _ => ?_)) <;> try (exfalso; omega)) | ((with_reducible refine Br.ne (fun _ => ?_) (fun _ => ?_)) <;> try (exfalso; omega)) | ((with_reducible refine brNdec (fun _ => ?_) (fun _ => ?_)) <;> try (exfalso; omega)) | ((with_reducible refine brNeq (fun _ => ?_) (fun _ => ?_)) <;> try (exfalso; omega)) | with_reducible refine Br.intro (fun _ => ?_) (fun _ => ?_) | (with_reducible apply pcallE.of; · exact hP) | (with_reducible apply pcallE.of; · exact hU) | (with_reducible refine And.intro ?_ ?_; · omega) | simp -dsimp -implicitDefEqProofs (disch := omega) only [↓vcOps_sp 81, ↓vcOps_sp 85, ↓vcOps_sp 97, VCA, Nat.reduceEqDiff, Nat.reduceAdd, Nat.reduceLT, Nat.reduceLeDiff, ↓reduceIte, exists_eq_right_right, exists_eq_left', eDoc, he2, he3, he6, hr6, n69, eEdit, c5, et])
      all_goals first | (rw [hE]; ((repeat' split) <;> first | with_reducible rfl | (exfalso; omega) | contradiction); done) | (refine ⟨S.upd (S.none hr9), ?_⟩; rw [hE]; ((repeat' split) <;> first | with_reducible rfl | (exfalso; omega) | contradiction); done) | trace_state
  have s4 : 1 ≤ e.do' → e.do' ≤ 6 → e.do' ≠ 4 → ∀ E : Env, E 2 = .pin (eDoc d) → E 3 = .pin (eEdit e) → E 5 = aInt d.nodes.length → vc (Pg G) c58_s4 (retK [.tmp 4] fun r h' => r = aInt (errR d e) ∧ h' = h) E h := by
    intro h1 h6 h4 E he2 he3 he5
    unfold c58_s4
    skip
    have ea : nth d.nodes e.at'.toNat = nd d e.at' := rfl
    have hA : PCalls (Pg G) 94 [sl eAttr (nd d e.at').attrs, .str e.name] (.tup [.str (attrOfM (nd d e.at').attrs e.name).1, .bool (attrOfM (nd d e.at').attrs e.name).2]) := attrOf_ok (G := G) _ e.name (sm.nd _).attrs
    rw [attrOf_has] at hA
    simp -dsimp -implicitDefEqProofs (disch := omega) only [VCA, Nat.reduceEqDiff, Nat.reduceAdd, Nat.reduceLeDiff, ↓reduceIte, he3, he5, eEdit]
    repeat' (first | ((with_reducible refine Br.dec (fun _ => ?_) (fun _ => ?_)) <;> try (exfalso; omega)) | ((with_reducible refine Br.eq (fun _ => ?_) (fun _ => ?_)) <;> try (exfalso; omega)) | ((with_reducible refine Br.ne (fun _ => ?_) (fun _ => ?_)) <;> try (exfalso; omega)) | ((with_reducible refine brNdec (fun _ => ?_) (fun _ => ?_)) <;> try (exfalso; omega)) | ((with_reducible refine brNeq (fun _ => ?_) (fun _ => ?_)) <;> try (exfalso; omega)) | with_reducible refine Br.intro (fun _ => ?_) (fun _ => ?_) | (with_reducible apply pcallE.of; · exact hB2) | (with_reducible apply pcallE.of; · exact hB3) | (with_reducible refine And.intro ?_ ?_; · omega) | simp -dsimp -implicitDefEqProofs (disch := omega) only [↓vcOps_sp 38, ↓vcOps_sp 42, VCA, Nat.reduceEqDiff, Nat.reduceAdd, Nat.reduceLT, Nat.reduceLeDiff, ↓reduceIte, setAt, exists_eq_right_right, exists_eq_left', eDoc, he2, he3, he5, eEdit, eNode, ea])
    · exact ⟨Sub.refl _, (errR_in h1 h6 h4 (.inl (by unfold inD; omega))).symm⟩
    · exact ⟨Sub.refl _, (errR_in h1 h6 h4 (.inr (by unfold inD; omega))).symm⟩
    all_goals
      rename_i qq
      intro r6 hr6
      repeat' (first | ((with_reducible refine Br.dec (fun _ => ?_) (fun _ => ?_)) <;> try (exfalso; omega)) | ((with_reducible refine Br.eq (fun _ => ?_) (fun _ => ?_)) <;> try (exfalso; omega)) | ((with_reducible refine Br.ne (fun _ => ?_) (fun _ => ?_)) <;> try (exfalso; omega)) | ((with_reducible refine brNdec (fun _ => ?_) (fun _ => ?_)) <;> try (exfalso; omega)) | ((with_reducible refine brNeq (fun _ => ?_) (fun _ => ?_)) <;> try (exfalso; omega)) | with_reducible refine Br.intro (fun _ => ?_) (fun _ => ?_) | (with_reducible apply pcallE.of; · exact hA) | (with_reducible refine And.intro ?_ ?_; · omega) | simp -dsimp -implicitDefEqProofs (disch := omega) only [VCA, Nat.reduceEqDiff, Nat.reduceAdd, Nat.reduceLT, ↓reduceIte])
      exact s7 (by unfold inD; omega) (fun h5 => by unfold inD; omega) h1 h6 h4 _ _ r6 (upd_same _ _ _) ((Sub.refl _).upd hr6) he2 he3 rfl rfl
  refine dcalls_of_vc Tryz.func58 hn58 hc58 (by rw [Tryz.ntmps58]; simp) (by rw [Tryz.ntmps58]; decide) ?_
  simp -dsimp -implicitDefEqProofs (disch := omega) only [VCA, Nat.reduceEqDiff, Nat.reduceAdd, Nat.reduceLeDiff, ↓reduceIte, eDoc, c58, eEdit]
  unfold eNode at hN
  repeat' (first | ((with_reducible refine Br.dec (fun _ => ?_) (fun _ => ?_)) <;> try (exfalso; omega)) | ((with_reducible refine Br.eq (fun _ => ?_) (fun _ => ?_)) <;> try (exfalso; omega)) | ((with_reducible refine Br.ne (fun _ => ?_) (fun _ => ?_)) <;> try (exfalso; omega)) | ((with_reducible refine brNdec (fun _ => ?_) (fun _ => ?_)) <;> try (exfalso; omega)) | ((with_reducible refine brNeq (fun _ => ?_) (fun _ => ?_)) <;> try (exfalso; omega)) | with_reducible refine Br.intro (fun _ => ?_) (fun _ => ?_) | (with_reducible apply pcallE.of; · exact hB1) | (with_reducible apply pcallE.of; · exact hN) | (with_reducible refine And.intro ?_ ?_; · omega) | simp -dsimp -implicitDefEqProofs (disch := omega) only [VCA, Nat.reduceEqDiff, Nat.reduceAdd, Nat.reduceLeDiff, ↓reduceIte, exists_eq_right_right])
  · rename_i q
    exact ⟨Sub.refl _, by unfold errR; rw [if_pos q]⟩
  · rename_i q1 q2 q3
    exact ⟨Sub.refl _, by rw [errR_4 q2, if_pos q3]⟩
  · rename_i q1 q2 q3 q4
    exact ⟨Sub.refl _, by rw [errR_4 q2, if_neg q3, if_pos q4]⟩
  · rename_i q1 q2 q3 q4
    exact ⟨Sub.refl _, by rw [errR_4 q2, if_neg q3, if_neg q4]⟩
  · rename_i q1 q2
    exact s4 q1.1 q1.2 q2 _ rfl rfl rfl
end Go.Proofs.K
end
section
/- Edits: the reference's Edited: its end, its begin. -/
set_option linter.unusedSimpArgs false
set_option linter.unusedVariables false
namespace Go.Proofs.K
open Go Go.Sim Go.Proofs
variable {G : Glob}
theorem DocSm.setN {d : HDoc} {x : HNode} {n : Int} (sm : DocSm d) (hx : NodeSm x) : DocSm (setN d n x) := ⟨by rw [setN_len]; exact sm.len, fun y hy => by
  rcases List.mem_or_eq_of_mem_set hy with h | h
  · exact sm.each y h
  · exact h ▸ hx⟩
theorem edit_sm {d : HDoc} (V : DV d) (sm : DocSm d) {e : HEdit} (he : EditSm e) (h0 : errR d e = 0) : DocSm (editD d e) := by
  have kl : ∀ n, (nd d n).kids.length ≤ 1073741823 := fun n => by
    by_cases hn : inD d n
    · have := nodup_len d.nodes.length (nd d n).kids (V.nodup n hn) (fun k hk => (V.kid n hn k hk).1)
      have := V.len
      omega
    · have : (nd d n).kids = [] ∨ inD d n.toNat := by
        by_cases h : n.toNat < d.nodes.length
        · exact .inr (inD_nat.2 h)
        · left; unfold nd; rw [nth_def h]; rfl
      rcases this with h | h
      · rw [h]; decide
      · have h2 := nodup_len d.nodes.length (nd d n.toNat).kids (V.nodup _ h) (fun k hk => (V.kid _ h k hk).1)
        have : nd d (n.toNat : Int) = nd d n := by unfold nd; rw [Int.toNat_natCast]
        rw [this] at h2
        have := V.len
        omega
  have ns := fun n => sm.nd n
  unfold editD
  split
  · rename_i h1
    have ha : inD d e.at' := by
      apply Classical.byContradiction; intro ha
      rw [errR_in (by omega) (by omega) (by omega) (.inl ha)] at h0; omega
    have al := ((attrsE_iff _).1 ((nodeE_iff _).1 (V.node _ ha)).2.2.2.1).1
    refine sm.setN ⟨(ns _).name, ?_, ?_, (ns _).text, (ns _).kids⟩
    · unfold setAttr; split
      · rw [List.length_set]; omega
      · rw [List.length_append, List.length_singleton]; omega
    · intro a ha
      have : a ∈ (nd d e.at').attrs ∨ a = ⟨e.name, e.value⟩ := by
        unfold setAttr at ha; split at ha
        · exact List.mem_or_eq_of_mem_set ha
        · rcases List.mem_append.1 ha with h | h
          · exact .inl h
          · exact .inr (by simpa using h)
      rcases this with h | h
      · exact (ns _).each a h
      · subst h; exact ⟨he.name, he.value⟩
  split
  · refine sm.setN ⟨(ns _).name, ?_, ?_, (ns _).text, (ns _).kids⟩
    · have := (ns e.at').attrs
      unfold dropAttr; rw [List.length_append, List.length_take, List.length_drop]; omega
    · intro a ha
      refine (ns e.at').each a ?_
      unfold dropAttr at ha
      rcases List.mem_append.1 ha with h | h
      · exact List.mem_of_mem_take h
      · exact List.mem_of_mem_drop h
  split
  · exact sm.setN ⟨(ns _).name, (ns _).attrs, (ns _).each, he.value, (ns _).kids⟩
  split
  · refine ⟨by rw [addN_len]; have := V.len; omega, fun y hy => ?_⟩
    rcases List.mem_append.1 hy with h | h
    · exact sm.each y h
    · have : y = madeM e.node := by simpa using h
      subst this
      exact ⟨he.node.name, he.node.attrs, he.node.each, he.node.text, Nat.zero_le _⟩
  split
  · unfold hung
    refine DocSm.setN (DocSm.setN sm ⟨(ns e.at').name, (ns e.at').attrs, (ns e.at').each, (ns e.at').text, ?_⟩) ⟨(ns e.to).name, (ns e.to).attrs, (ns e.to).each, (ns e.to).text, (ns e.to).kids⟩
    have := kl e.at'
    show (List.take _ _ ++ _ :: List.drop _ _).length ≤ _
    rw [List.length_append, List.length_cons, List.length_take, List.length_drop]; omega
  · unfold cutN
    refine DocSm.setN (DocSm.setN sm ⟨(ns (nd d e.at').parent).name, (ns (nd d e.at').parent).attrs, (ns (nd d e.at').parent).each, (ns (nd d e.at').parent).text, ?_⟩) ⟨(ns e.at').name, (ns e.at').attrs, (ns e.at').each, (ns e.at').text, (ns e.at').kids⟩
    show (List.take _ _ ++ List.drop _ _).length ≤ _
    have := kl (nd d e.at').parent
    rw [List.length_append, List.length_take, List.length_drop]; omega
/-- what is refused, and what becomes of a document: by its own check -/
theorem apply_by {d : HDoc} (V : DV d) {e : HEdit} (h0 : errR d e = 0) : (docE (editD d e) ≠ 0 → applyE d e = 2) ∧ (docE (editD d e) = 0 → applyE d e = 0) := by
  have hd := (docE_iff d).2 V
  have aE : applyE d e = editE d e := by unfold applyE; rw [if_neg (by simpa using hd)]
  have h1 := edit_DV V e h0
  rw [← docE_iff] at h1
  rw [aE]
  refine ⟨fun h => ?_, fun h => h1.1 h⟩
  rcases (editE_errR V e).2 h0 with h2 | h2
  · exact absurd (h1.2 h2) h
  · exact h2
theorem apply_err {d : HDoc} (V : DV d) {e : HEdit} (h0 : errR d e ≠ 0) : applyE d e = errR d e := by
  have hd := (docE_iff d).2 V
  unfold applyE; rw [if_neg (by simpa using hd)]
  exact (editE_errR V e).1 h0
def Vz (a b : AVal) : Prop := ∀ h, Vw h a b
theorem Vz.refl (a : AVal) : Vz a a := fun h => .refl a
theorem Vz.emp : Vz .emp (.slc []) := fun h => .emp
theorem F2.imp' {α : Type} {R S : α → α → Prop} (hi : ∀ a b, R a b → S a b) {l m : List α} (h : F2 R l m) : F2 S l m := by
  induction h with
  | nil => exact .nil
  | cons h _ ih => exact .cons (hi _ _ h) ih
theorem F2.app {α : Type} {R : α → α → Prop} {l m l2 m2 : List α} (h : F2 R l m) (h2 : F2 R l2 m2) : F2 R (l ++ l2) (m ++ m2) := by
  induction h with
  | nil => exact h2
  | cons h _ ih => exact .cons h ih
theorem OwnS.vwk {α : Type} [Inhabited α] {enc : α → List AVal} {h : Heap} {ty sz : Nat} [LenE enc sz] {l : List α} {cells : List (List AVal)} {a : AVal} (O : OwnS h ty sz cells a) (M : Mut a) (hc : F2 (F2 Vz) cells (l.map enc)) : Vw h a (sl enc l) := by
  rcases O.live M with ⟨h1, h2⟩ | ⟨r, es, ha, hr, h1, h2⟩
  · subst h1
    have : l = [] := by
      have := hc.len
      rw [List.length_map] at this
      exact List.eq_nil_of_length_eq_zero this.symm
    subst this; subst h2; exact .emp
  · subst ha
    refine Vw.osl0 hr hc.len.symm h1 (fun f hf => by obtain ⟨x, _, rfl⟩ := List.mem_map.1 hf; exact LenE.len x) ?_
    show F2 _ (es.take _) _
    rw [h2]
    exact F2.imp' (fun _ _ hb => F2.imp' (fun _ _ hw => hw h) hb) hc
theorem Fresh.vwk {α : Type} [Inhabited α] {enc : α → List AVal} {h h' : Heap} {ty sz : Nat} [LenE enc sz] {l : List α} {cells : List (List AVal)} {a : AVal} (F : Fresh h h' ty sz cells a) (hc : F2 (F2 Vz) cells (l.map enc)) : Vw (newH h h') a (sl enc l) :=
  OwnS.vwk (F.own.keep fun r o hr ho => by rw [newH_none (F.new r hr)]; exact ho) F.live hc
theorem wks_refl (l : List (List AVal)) : F2 (F2 Vz) l l := F2.refl (fun a => F2.refl (fun x => .refl x) a) l
/-- what Edited answers -/
def edR (d : HDoc) (e : HEdit) : AVal := .tup [.agg (eDoc (applyD d e)), aInt (applyN d e), aInt (applyE d e)]
def EdK (d : HDoc) (e : HEdit) (h : Heap) (a : AVal) (h' : Heap) : Prop := Sub h h' ∧ VwT (newH h h') a (edR d e)
def c26_s6 : SCode := (.seq (.seq (.reg [⟨(some 199), (.ld 2 true (.t 8)), none⟩, ⟨(some 200), (.call (.c (.fn 48 [] [])) [(.t 199)]), none⟩, ⟨(some 201), (.bin .neq (.t 200) (.c (.int .i64 (0)))), none⟩]) (.cond (.t 201) (.seq (.reg [⟨(some 202), (.bld [.emp, (.bool false)] []), none⟩, ⟨none, (.st 2 (.t 4) (.t 202)), none⟩, ⟨(some 5), (.mv (.c (.int .i64 (0)))), none⟩, ⟨(some 6), (.mv (.c (.int .i64 (2)))), none⟩]) .ret) .skip)) (.seq (.reg [⟨(some 203), (.ld 2 true (.t 8)), none⟩, ⟨(some 204), (.mv (.t 9)), none⟩, ⟨none, (.st 2 (.t 4) (.t 203)), none⟩, ⟨(some 5), (.mv (.t 204)), none⟩, ⟨(some 6), (.mv (.c (.int .i64 (0)))), none⟩]) .ret))
def c26_s5 : SCode := (.seq (.seq (.reg [⟨(some 26), (.fldA 0 (.t 3)), none⟩, ⟨(some 27), (.ld 1 false (.t 26)), none⟩, ⟨(some 28), (.bin .eql (.t 27) (.c (.int .i64 (4)))), none⟩]) (.cond (.t 28) (.seq (.reg [⟨(some 29), (.fldA 0 (.t 8)), none⟩, ⟨(some 30), (.ld 1 false (.t 29)), none⟩, ⟨(some 31), (.len (.t 30)), none⟩, ⟨(some 9), (.mv (.t 31)), none⟩]) (.dreg [(⟨(some 32), (.fldA 0 (.t 8)), none⟩, none), (⟨(some 33), (.ld 1 false (.t 32)), none⟩, none), (⟨(some 34), (.fldA 6 (.t 3)), none⟩, none), (⟨(some 35), (.fldA 0 (.t 34)), none⟩, none), (⟨(some 36), (.ld 1 false (.t 35)), none⟩, none), (⟨(some 37), (.fldA 6 (.t 3)), none⟩, none), (⟨(some 38), (.fldA 1 (.t 37)), none⟩, none), (⟨(some 39), (.ld 1 false (.t 38)), none⟩, none), (⟨(some 40), (.bldF 96 2 []), none⟩, none), (⟨(some 41), (.fldA 6 (.t 3)), none⟩, none), (⟨(some 42), (.fldA 2 (.t 41)), none⟩, none), (⟨(some 43), (.ld 1 false (.t 42)), none⟩, none), (⟨(some 45), (.fldA 6 (.t 3)), none⟩, none), (⟨(some 46), (.fldA 3 (.t 45)), none⟩, none), (⟨(some 47), (.ld 1 false (.t 46)), none⟩, none), (⟨(some 44), (.appF 96 2 32 (.t 40) (.t 43)), none⟩, (some [43])), (⟨(some 48), (.bld [(.int .i64 (0)), (.str []), .emp, (.str []), (.int .i64 (0)), .emp] [(0, (1, (.t 36))), (1, (1, (.t 39))), (2, (1, (.t 44))), (3, (1, (.t 47))), (4, (1, (.c (.int .i64 (-1)))))]), none⟩, none), (⟨(some 49), (.bldF 40 6 [(.t 48)]), none⟩, none), (⟨(some 50), (.app 40 6 96 (.t 33) (.t 49)), none⟩, (some [33, 36, 39, 47, 43])), (⟨(some 51), (.fldA 0 (.t 8)), none⟩, none), (⟨none, (.st 1 (.t 51) (.t 50)), none⟩, (some [33, 36, 39, 47, 43]))])) (.seq (.reg [⟨(some 52), (.fldA 0 (.t 8)), none⟩, ⟨(some 53), (.ld 1 false (.t 52)), none⟩, ⟨(some 54), (.fldA 1 (.t 3)), none⟩, ⟨(some 55), (.ld 1 false (.t 54)), none⟩, ⟨(some 56), (.idxA 6 (.t 53) (.t 55)), none⟩, ⟨(some 57), (.ld 6 true (.t 56)), none⟩, ⟨(some 10), (.new 40 6 [(.int .i64 (0)), (.str []), .emp, (.str []), (.int .i64 (0)), .emp]), none⟩, ⟨none, (.st 6 (.t 10) (.t 57)), none⟩]) (.seq (.reg [⟨(some 11), (.mv (.c .emp)), none⟩]) (.seq (.reg [⟨(some 12), (.mv (.c (.bool false))), none⟩]) (.seq (.seq (.reg [⟨(some 13), (.mv (.c (.int .i64 (0)))), none⟩]) (.block 0 (.loop (.seq (.seq (.reg [⟨(some 58), (.mv (.t 13)), none⟩, ⟨(some 59), (.fldA 2 (.t 10)), none⟩, ⟨(some 60), (.ld 1 false (.t 59)), none⟩, ⟨(some 61), (.len (.t 60)), none⟩, ⟨(some 62), (.bin .lss (.t 58) (.t 61)), none⟩]) (.cond (.t 62) .skip (.exit 0))) (.seq (.block 1 (.seq (.reg [⟨(some 65), (.fldA 2 (.t 10)), none⟩, ⟨(some 66), (.ld 1 false (.t 65)), none⟩, ⟨(some 67), (.mv (.t 13)), none⟩, ⟨(some 68), (.idxA 2 (.t 66) (.t 67)), none⟩, ⟨(some 69), (.ld 2 true (.t 68)), none⟩, ⟨(some 14), (.new 96 2 [(.str []), (.str [])]), none⟩, ⟨none, (.st 2 (.t 14) (.t 69)), none⟩]) (.seq (.seq (.reg [⟨(some 70), (.fldA 0 (.t 14)), none⟩, ⟨(some 71), (.ld 1 false (.t 70)), none⟩, ⟨(some 72), (.fldA 4 (.t 3)), none⟩, ⟨(some 73), (.ld 1 false (.t 72)), none⟩, ⟨(some 74), (.bin .eql (.t 71) (.t 73)), none⟩, ⟨(some 75), (.mv (.t 74)), none⟩, ⟨(some 76), (.fldA 0 (.t 3)), (some (75, true))⟩, ⟨(some 77), (.ld 1 false (.t 76)), (some (75, true))⟩, ⟨(some 78), (.bin .eql (.t 77) (.c (.int .i64 (1)))), (some (75, true))⟩, ⟨(some 79), (.pick (.t 75) (.t 78) (.c (.bool false))), none⟩]) (.cond (.t 79) (.seq (.reg [⟨(some 80), (.fldA 5 (.t 3)), none⟩, ⟨(some 81), (.ld 1 false (.t 80)), none⟩, ⟨(some 82), (.fldA 1 (.t 14)), none⟩, ⟨none, (.st 1 (.t 82) (.t 81)), none⟩]) (.reg [⟨(some 12), (.mv (.c (.bool true))), none⟩])) .skip)) (.seq (.reg [⟨(some 83), (.fldA 0 (.t 14)), none⟩, ⟨(some 84), (.ld 1 false (.t 83)), none⟩, ⟨(some 85), (.fldA 4 (.t 3)), none⟩, ⟨(some 86), (.ld 1 false (.t 85)), none⟩, ⟨(some 87), (.bin .neq (.t 84) (.t 86)), none⟩, ⟨(some 88), (.mv (.t 87)), none⟩, ⟨(some 89), (.fldA 0 (.t 3)), (some (88, false))⟩, ⟨(some 90), (.ld 1 false (.t 89)), (some (88, false))⟩, ⟨(some 91), (.bin .neq (.t 90) (.c (.int .i64 (2)))), (some (88, false))⟩, ⟨(some 92), (.pick (.t 88) (.c (.bool true)) (.t 91)), none⟩]) (.cond (.t 92) (.reg [⟨(some 93), (.mv (.t 11)), none⟩, ⟨(some 94), (.ld 2 true (.t 14)), none⟩, ⟨(some 95), (.bldF 96 2 [(.t 94)]), none⟩, ⟨(some 96), (.app 96 2 32 (.t 93) (.t 95)), none⟩, ⟨(some 11), (.mv (.t 96)), none⟩]) .skip))))) (.reg [⟨(some 63), (.mv (.t 13)), none⟩, ⟨(some 64), (.bin .add (.t 63) (.c (.int .i64 (1)))), none⟩, ⟨(some 13), (.mv (.t 64)), none⟩])))))) (.seq (.seq (.reg [⟨(some 97), (.fldA 0 (.t 3)), none⟩, ⟨(some 98), (.ld 1 false (.t 97)), none⟩, ⟨(some 99), (.bin .eql (.t 98) (.c (.int .i64 (1)))), none⟩, ⟨(some 100), (.mv (.t 99)), none⟩, ⟨(some 101), (.mv (.t 12)), (some (100, true))⟩, ⟨(some 102), (.un .not (.t 101)), (some (100, true))⟩, ⟨(some 103), (.pick (.t 100) (.t 102) (.c (.bool false))), none⟩]) (.cond (.t 103) (.reg [⟨(some 104), (.mv (.t 11)), none⟩, ⟨(some 105), (.fldA 4 (.t 3)), none⟩, ⟨(some 106), (.ld 1 false (.t 105)), none⟩, ⟨(some 107), (.fldA 5 (.t 3)), none⟩, ⟨(some 108), (.ld 1 false (.t 107)), none⟩, ⟨(some 109), (.bld [(.str []), (.str [])] [(0, (1, (.t 106))), (1, (1, (.t 108)))]), none⟩, ⟨(some 110), (.bldF 96 2 [(.t 109)]), none⟩, ⟨(some 111), (.app 96 2 32 (.t 104) (.t 110)), none⟩, ⟨(some 11), (.mv (.t 111)), none⟩]) .skip)) (.seq (.seq (.reg [⟨(some 112), (.fldA 0 (.t 3)), none⟩, ⟨(some 113), (.ld 1 false (.t 112)), none⟩, ⟨(some 114), (.bin .eql (.t 113) (.c (.int .i64 (1)))), none⟩, ⟨(some 115), (.mv (.t 114)), none⟩, ⟨(some 116), (.fldA 0 (.t 3)), (some (115, false))⟩, ⟨(some 117), (.ld 1 false (.t 116)), (some (115, false))⟩, ⟨(some 118), (.bin .eql (.t 117) (.c (.int .i64 (2)))), (some (115, false))⟩, ⟨(some 119), (.pick (.t 115) (.c (.bool true)) (.t 118)), none⟩]) (.cond (.t 119) (.reg [⟨(some 120), (.frz (.t 11)), none⟩, ⟨(some 121), (.fldA 2 (.t 10)), none⟩, ⟨none, (.st 1 (.t 121) (.t 120)), none⟩]) .skip)) (.seq (.seq (.reg [⟨(some 122), (.fldA 0 (.t 3)), none⟩, ⟨(some 123), (.ld 1 false (.t 122)), none⟩, ⟨(some 124), (.bin .eql (.t 123) (.c (.int .i64 (3)))), none⟩]) (.cond (.t 124) (.reg [⟨(some 125), (.fldA 5 (.t 3)), none⟩, ⟨(some 126), (.ld 1 false (.t 125)), none⟩, ⟨(some 127), (.fldA 3 (.t 10)), none⟩, ⟨none, (.st 1 (.t 127) (.t 126)), none⟩]) .skip)) (.seq (.seq (.reg [⟨(some 128), (.fldA 0 (.t 3)), none⟩, ⟨(some 129), (.ld 1 false (.t 128)), none⟩, ⟨(some 130), (.bin .eql (.t 129) (.c (.int .i64 (5)))), none⟩]) (.cond (.t 130) (.seq (.reg [⟨(some 131), (.fldA 5 (.t 10)), none⟩, ⟨(some 132), (.ld 1 false (.t 131)), none⟩, ⟨(some 133), (.len (.t 132)), none⟩, ⟨(some 15), (.mv (.t 133)), none⟩]) (.seq (.seq (.reg [⟨(some 134), (.fldA 3 (.t 3)), none⟩, ⟨(some 135), (.ld 1 false (.t 134)), none⟩, ⟨(some 136), (.bin .neq (.t 135) (.c (.int .i64 (-1)))), none⟩]) (.cond (.t 136) (.reg [⟨(some 137), (.fldA 5 (.t 10)), none⟩, ⟨(some 138), (.ld 1 false (.t 137)), none⟩, ⟨(some 139), (.fldA 3 (.t 3)), none⟩, ⟨(some 140), (.ld 1 false (.t 139)), none⟩, ⟨(some 141), (.pcall 60 [(.t 138), (.t 140)]), none⟩, ⟨(some 15), (.mv (.t 141)), none⟩]) .skip)) (.seq (.dreg [(⟨(some 142), (.bldF 3 1 []), none⟩, none), (⟨(some 143), (.fldA 5 (.t 10)), none⟩, none), (⟨(some 144), (.ld 1 false (.t 143)), none⟩, none), (⟨(some 145), (.mv (.t 15)), none⟩, none), (⟨(some 146), (.slA 1 (.t 144) none (some (.t 145))), none⟩, none), (⟨(some 148), (.fldA 2 (.t 3)), none⟩, none), (⟨(some 149), (.ld 1 false (.t 148)), none⟩, none), (⟨(some 150), (.bldF 3 1 [(.t 149)]), none⟩, none), (⟨(some 152), (.fldA 5 (.t 10)), none⟩, none), (⟨(some 153), (.ld 1 false (.t 152)), none⟩, none), (⟨(some 154), (.mv (.t 15)), none⟩, none), (⟨(some 155), (.slA 1 (.t 153) (some (.t 154)) none), none⟩, none), (⟨(some 147), (.app 3 1 8 (.t 142) (.t 146)), none⟩, (some [144])), (⟨(some 151), (.app 3 1 8 (.t 147) (.t 150)), none⟩, (some [149, 144])), (⟨(some 156), (.appF 3 1 8 (.t 151) (.t 155)), none⟩, (some [153, 149, 144])), (⟨(some 157), (.fldA 5 (.t 10)), none⟩, none), (⟨none, (.st 1 (.t 157) (.t 156)), none⟩, (some [153, 149, 144]))]) (.reg [⟨(some 158), (.fldA 0 (.t 8)), none⟩, ⟨(some 159), (.ld 1 false (.t 158)), none⟩, ⟨(some 160), (.fldA 2 (.t 3)), none⟩, ⟨(some 161), (.ld 1 false (.t 160)), none⟩, ⟨(some 162), (.fldA 1 (.t 3)), none⟩, ⟨(some 163), (.ld 1 false (.t 162)), none⟩, ⟨(some 164), (.idxA 6 (.t 159) (.t 161)), none⟩, ⟨(some 165), (.fldA 4 (.t 164)), none⟩, ⟨none, (.st 1 (.t 165) (.t 163)), none⟩])))) .skip)) (.seq (.seq (.reg [⟨(some 166), (.fldA 0 (.t 3)), none⟩, ⟨(some 167), (.ld 1 false (.t 166)), none⟩, ⟨(some 168), (.bin .eql (.t 167) (.c (.int .i64 (6)))), none⟩]) (.cond (.t 168) (.seq (.reg [⟨(some 169), (.fldA 4 (.t 10)), none⟩, ⟨(some 170), (.ld 1 false (.t 169)), none⟩, ⟨(some 16), (.mv (.t 170)), none⟩]) (.seq (.dreg [(⟨(some 171), (.fldA 0 (.t 8)), none⟩, none), (⟨(some 172), (.ld 1 false (.t 171)), none⟩, none), (⟨(some 173), (.mv (.t 16)), none⟩, none), (⟨(some 174), (.fldA 0 (.t 8)), none⟩, none), (⟨(some 175), (.ld 1 false (.t 174)), none⟩, none), (⟨(some 176), (.mv (.t 16)), none⟩, none), (⟨(some 177), (.idxA 6 (.t 175) (.t 176)), none⟩, none), (⟨(some 178), (.fldA 5 (.t 177)), none⟩, none), (⟨(some 179), (.ld 1 false (.t 178)), none⟩, none), (⟨(some 180), (.fldA 0 (.t 8)), none⟩, none), (⟨(some 181), (.ld 1 false (.t 180)), none⟩, none), (⟨(some 182), (.mv (.t 16)), none⟩, none), (⟨(some 183), (.idxA 6 (.t 181) (.t 182)), none⟩, none), (⟨(some 184), (.fldA 5 (.t 183)), none⟩, none), (⟨(some 185), (.ld 1 false (.t 184)), none⟩, none), (⟨(some 186), (.fldA 1 (.t 3)), none⟩, none), (⟨(some 187), (.ld 1 false (.t 186)), none⟩, none), (⟨(some 188), (.pcall 60 [(.t 185), (.t 187)]), none⟩, none), (⟨(some 189), (.pcall 61 [(.t 179), (.t 188)]), none⟩, none), (⟨(some 190), (.idxA 6 (.t 172) (.t 173)), none⟩, none), (⟨(some 191), (.fldA 5 (.t 190)), none⟩, none), (⟨none, (.st 1 (.t 191) (.t 189)), none⟩, (some [172, 179, 175, 185, 187, 181]))]) (.reg [⟨(some 192), (.fldA 4 (.t 10)), none⟩, ⟨none, (.st 1 (.t 192) (.c (.int .i64 (-1)))), none⟩]))) .skip)) (.reg [⟨(some 193), (.fldA 0 (.t 8)), none⟩, ⟨(some 194), (.ld 1 false (.t 193)), none⟩, ⟨(some 195), (.fldA 1 (.t 3)), none⟩, ⟨(some 196), (.ld 1 false (.t 195)), none⟩, ⟨(some 197), (.ld 6 true (.t 10)), none⟩, ⟨(some 198), (.idxA 6 (.t 194) (.t 196)), none⟩, ⟨none, (.st 6 (.t 198) (.t 197)), none⟩])))))))))))) c26_s6)
def c26 : SFun := ⟨(.seq (.reg [⟨(some 2), (.boxF 24 2 (.t 0)), none⟩, ⟨(some 3), (.boxF 42 12 (.t 1)), none⟩, ⟨(some 4), (.new 24 2 [.emp, (.bool false)]), none⟩, ⟨(some 5), (.mv (.c (.int .i64 (0)))), none⟩, ⟨(some 6), (.mv (.c (.int .i64 (0)))), none⟩]) (.seq (.reg [⟨(some 17), (.ld 2 true (.t 2)), none⟩, ⟨(some 18), (.ld 12 true (.t 3)), none⟩, ⟨(some 19), (.pcall 58 [(.t 17), (.t 18)]), none⟩, ⟨(some 7), (.mv (.t 19)), none⟩]) (.seq (.seq (.reg [⟨(some 20), (.mv (.t 7)), none⟩, ⟨(some 21), (.bin .neq (.t 20) (.c (.int .i64 (0)))), none⟩]) (.cond (.t 21) (.seq (.reg [⟨(some 22), (.bld [.emp, (.bool false)] []), none⟩, ⟨(some 23), (.mv (.t 7)), none⟩, ⟨none, (.st 2 (.t 4) (.t 22)), none⟩, ⟨(some 5), (.mv (.c (.int .i64 (0)))), none⟩, ⟨(some 6), (.mv (.t 23)), none⟩]) .ret) .skip)) (.seq (.reg [⟨(some 24), (.ld 2 true (.t 2)), none⟩, ⟨(some 25), (.call (.c (.fn 59 [] [])) [(.t 24)]), none⟩, ⟨(some 8), (.new 24 2 [.emp, (.bool false)]), none⟩, ⟨none, (.st 2 (.t 8) (.t 25)), none⟩]) (.seq (.reg [⟨(some 9), (.mv (.c (.int .i64 (0)))), none⟩]) c26_s5))))), [(.cell 4 2 true), (.tmp 5), (.tmp 6)]⟩
theorem hc26 : toSF Tryz.prog {pure := [58, 60, 61], how := [(44, 8), (120, 8), (156, 8)]} Tryz.f26 = some c26 := by kernel_rfl
theorem hn26 : (Tryz.f26.name == "runtime.NumGoroutine") = false := by kernel_rfl
theorem edited_end {d : HDoc} (V : DV d) (sm : DocSm d) {e : HEdit} (he : EditSm e) (h0 : errR d e = 0) {h h2 : Heap} {b : AVal} {cells : List (List AVal)} {E : Env} {r4 r8 : Nat}
    (S : Sub h h2) (F : Fresh h h2 40 6 cells b) (hc : F2 (F2 Vz) cells ((editD d e).nodes.map eNode)) (h4 : h r4 = none) (g4 : h2 r4 = some ⟨.t 24, 2, [[.emp, .bool false]]⟩) (g8 : h2 r8 = some ⟨.t 24, 2, [[b, .bool d.quirks]]⟩) (n4 : rootOf b ≠ some r4)
    (e4 : E 4 = .vp r4 0) (e8 : E 8 = .vp r8 0) (e9 : E 9 = aInt (editN d e)) :
    vc (Pg G) c26_s6 (retK [.cell 4 2 true, .tmp 5, .tmp 6] (EdK d e h)) E h2 := by
  have sE := edit_sm V sm he h0
  have hD := docErr_ok (G := G) (editD d e) sE
  have hq : (editD d e).quirks = d.quirks := by unfold editD; (repeat' split) <;> rfl
  obtain ⟨a1, a2⟩ := apply_by V h0
  have hB := DCalls.bor hD (h := h2) (args := [.agg [b, .bool d.quirks]]) (.int _ _) (.cons (Vw.agg' (.cons (F.own.vwk F.live hc) (.cons (by rw [hq]; exact .refl _) .nil))) .nil)
  unfold c26_s6
  skip
  simp -dsimp -implicitDefEqProofs (disch := omega) only [VCA, Nat.reduceEqDiff, Nat.reduceAdd, Nat.reduceLT, ↓reduceIte, exists_eq_left', e8, g8]
  refine DCalls.of hB ?_
  rintro _ h3 ⟨rfl, rfl⟩
  simp -dsimp -implicitDefEqProofs (disch := omega) only [VCA, ↓reduceIte]
  refine Br.ne (fun h1 => ?_) (fun h1 => ?_)
  · have aE := a1 h1
    have aD : applyD d e = noDoc := by unfold applyD; rw [aE]; rfl
    have aN : applyN d e = 0 := by unfold applyN; rw [aE]; rfl
    simp -dsimp -implicitDefEqProofs (disch := omega) only [VCA, Nat.reduceEqDiff, Nat.reduceAdd, Nat.reduceLT, ↓reduceIte, fillA, okFill, setAt, exists_eq_left', e4, g4]
    refine ⟨_, Sub.refl _, S.upd h4, ?_⟩
    unfold edR
    rw [aD, aN, aE]
    exact .tup' (.cons (vw_noDoc _) (.cons (.refl _) (.cons (.refl _) .nil)))
  · have aE := a2 h1
    have aD : applyD d e = editD d e := by unfold applyD; rw [if_pos aE]
    have aN : applyN d e = editN d e := by unfold applyN; rw [if_pos aE]
    simp -dsimp -implicitDefEqProofs (disch := omega) only [VCA, Nat.reduceEqDiff, Nat.reduceAdd, Nat.reduceLT, ↓reduceIte, setAt, exists_eq_left', e4, e8, e9, g4, g8]
    refine ⟨_, Sub.refl _, S.upd h4, ?_⟩
    unfold edR
    rw [aD, aN, aE]
    have F2 := F.keep (h2 := upd h3 r4 (some ⟨.t 24, 2, [[b, .bool d.quirks]]⟩)) fun r o hr ho => by rw [upd_ne _ _ (fun e => n4 (by rw [hr, e]))]; exact ho
    exact .tup' (.cons (Vw.agg' (.cons (F2.vwk hc) (.cons (by rw [hq]; exact .refl _) .nil))) (.cons (.refl _) (.cons (.refl _) .nil)))
/-- .. of a new node -/
theorem edited_make {d : HDoc} (V : DV d) (sm : DocSm d) {e : HEdit} (he : EditSm e) (h0 : errR d e = 0) (c4 : e.do' = 4) {h h2 : Heap} {b : AVal} {E : Env} {r4 r8 : Nat}
    (S : Sub h h2) (F : Fresh h h2 40 6 (d.nodes.map eNode) b) (h4 : h r4 = none) (h8 : h r8 = none) (g4 : h2 r4 = some ⟨.t 24, 2, [[.emp, .bool false]]⟩) (g8 : h2 r8 = some ⟨.t 24, 2, [[b, .bool d.quirks]]⟩) (n4 : rootOf b ≠ some r4) (n8 : rootOf b ≠ some r8) (n48 : r4 ≠ r8)
    (e3 : E 3 = .pin (eEdit e)) (e4 : E 4 = .vp r4 0) (e8 : E 8 = .vp r8 0) :
    vc (Pg G) c26_s5 (retK [.cell 4 2 true, .tmp 5, .tmp 6] (EdK d e h)) E h2 := by
  have hl := F.own.len
  have vl := V.len
  have sa := he.node.attrs
  unfold c26_s5
  skip
  have hl1 := hl.1
  have hl2 := hl.2
  rw [List.length_map] at hl1
  simp -dsimp -implicitDefEqProofs (disch := omega) only [VCA, Nat.reduceAdd, Nat.reduceLeDiff, ↓reduceIte, e3, eEdit, c4]
  refine Br.eq (fun _ => ?_) (fun h1 => absurd rfl h1)
  simp -dsimp -implicitDefEqProofs (disch := omega) only [VCA, Nat.reduceEqDiff, Nat.reduceBEq, Nat.reduceAdd, Nat.reduceLT, Nat.reduceLeDiff, ↓reduceIte, rsOf, rootsOf, SOp.rd, SI.rd, SX.rd, okParts, fillA, okFill, forall_eq, exists_eq_left, exists_eq_left', rootL, e3, e8, g8, eEdit, c4, hl1, hl2]
  refine ⟨by omega, by omega, ?_⟩
  refine F.own.app F.live (by rw [List.length_map, List.length_singleton]; omega) (by rw [List.length_map, List.length_singleton]; omega) fun r' h3 q1 q2 q3 => ?_
  have k8 := q3 _ _ g8 n8
  have k4 := q3 _ _ g4 n4
  simp -dsimp -implicitDefEqProofs (disch := omega) only [VCA, Nat.reduceEqDiff, Nat.reduceBEq, Nat.reduceAdd, Nat.reduceLT, Nat.reduceLeDiff, ↓reduceIte, rsOf, rootsOf, SOp.rd, SI.rd, SX.rd, setAt, exists_eq_left', rootL, e8, k8]
  have hr' : h r' = none := by
    rcases q2 with e | e
    · exact F.new _ e
    · exact S.none e
  have m4 : r' ≠ r4 := fun e => by
    rcases q2 with e' | e'
    · exact n4 (by rw [e', e])
    · rw [e, g4] at e'; cases e'
  have m8 : r' ≠ r8 := fun e => by
    rcases q2 with e' | e'
    · exact n8 (by rw [e', e])
    · rw [e, g8] at e'; cases e'
  have eD : editD d e = addN d (madeM e.node) := by unfold editD; rw [if_neg (by omega), if_neg (by omega), if_neg (by omega), if_pos c4]
  have eN : editN d e = d.nodes.length := by unfold editN; rw [if_pos c4]
  refine edited_end V sm he h0 (cells := d.nodes.map eNode ++ [[.int .i64 e.node.kind, .str e.node.name, .slc (e.node.attrs.map eAttr), .str e.node.text, .int .i64 (-1), .emp]]) (b := .osl r' 6 0 (d.nodes.length + 1)) (r4 := r4) (r8 := r8) (Sub.upd (fun t o ht => ?_) h8) ⟨.inr ⟨r', hr', (upd_ne _ _ m8).trans q1, ?_⟩⟩ ?_ h4 (by rw [upd_ne _ _ n48]; exact k4) (upd_same _ _ _) (fun e => m4 (by cases e; rfl)) e4 e8 ?_
  · refine q3 t o (S _ _ ht) (fun e => ?_)
    rw [F.new t e] at ht; cases ht
  · rw [List.length_append, List.length_map]; rfl
  · rw [eD]
    show F2 (F2 Vz) _ ((d.nodes ++ [madeM e.node]).map eNode)
    rw [List.map_append]
    exact F2.app (wks_refl _) (.cons (.cons (.refl _) (.cons (.refl _) (.cons (.refl _) (.cons (.refl _) (.cons (.refl _) (.cons .emp .nil)))))) .nil)
  · rw [eN]; rfl
end Go.Proofs.K
end
section
/- Edits: the reference's Edited: what is done to a node. -/
set_option linter.unusedSimpArgs false
set_option linter.unusedVariables false
namespace Go.Proofs.K
open Go Go.Sim Go.Proofs
variable {G : Glob}
theorem wks_eq {l m : List (List AVal)} (h : l = m) : F2 (F2 Vz) l m := h ▸ wks_refl l
theorem errR_at {d : HDoc} {e : HEdit} (h0 : errR d e = 0) (h4 : e.do' ≠ 4) : 1 ≤ e.do' ∧ e.do' ≤ 6 ∧ inD d e.at' ∧ (e.do' = 5 → inD d e.to) := by
  have h16 : 1 ≤ e.do' ∧ e.do' ≤ 6 := by
    apply Classical.byContradiction; intro h
    unfold errR at h0; rw [if_pos h] at h0; omega
  refine ⟨h16.1, h16.2, ?_, fun h5 => ?_⟩
  · apply Classical.byContradiction; intro h
    rw [errR_in h16.1 h16.2 h4 (.inl h)] at h0; omega
  · apply Classical.byContradiction; intro h
    rw [errR_in h16.1 h16.2 h4 (.inr ⟨h5, h⟩)] at h0; omega
/-- what becomes of an attribute -/
def stepA (e : HEdit) (a : HAttr) : List HAttr := if a.name ≠ e.name ∨ e.do' ≠ 2 then [if a.name = e.name ∧ e.do' = 1 then ⟨a.name, e.value⟩ else a] else []
def setA (e : HEdit) (l : List HAttr) : Bool := decide (e.do' = 1) && l.any fun a => a.name == e.name
theorem stepA_len (e : HEdit) (l : List HAttr) : (l.flatMap (stepA e)).length ≤ l.length := by
  induction l with
  | nil => simp
  | cons a l ih =>
    rw [List.flatMap_cons, List.length_append, List.length_cons]
    have : (stepA e a).length ≤ 1 := by unfold stepA; split <;> simp
    omega
theorem errR_5z {d : HDoc} {e : HEdit} (h : e.do' = 5) (ha : inD d e.at') (ht : inD d e.to) (h0 : errR d e = 0) : e.to ∉ chain d e.at' ∧ ¬ (e.before ≠ -1 ∧ idxM (· == e.before) (nd d e.at').kids < 0) := by
  rw [errR_5 h ha ht] at h0
  split at h0
  · omega
  split at h0
  · omega
  split at h0
  · omega
  rename_i h3
  split at h0
  · omega
  rename_i h4
  exact ⟨by simpa using h4, h3⟩
theorem edited_else {d : HDoc} (V : DV d) (sm : DocSm d) {e : HEdit} (he : EditSm e) (h0 : errR d e = 0) (c4 : e.do' ≠ 4) {h h2 : Heap} {b : AVal} {E : Env} {r4 r8 : Nat}
    (S : Sub h h2) (F : Fresh h h2 40 6 (d.nodes.map eNode) b) (h4 : h r4 = none) (h8 : h r8 = none) (g4 : h2 r4 = some ⟨.t 24, 2, [[.emp, .bool false]]⟩) (g8 : h2 r8 = some ⟨.t 24, 2, [[b, .bool d.quirks]]⟩) (n4 : rootOf b ≠ some r4) (n8 : rootOf b ≠ some r8) (n48 : r4 ≠ r8)
    (e3 : E 3 = .pin (eEdit e)) (e4 : E 4 = .vp r4 0) (e8 : E 8 = .vp r8 0) (e9 : E 9 = aInt 0) :
    vc (Pg G) c26_s5 (retK [.cell 4 2 true, .tmp 5, .tmp 6] (EdK d e h)) E h2 := by
  have vl := V.len
  obtain ⟨d1, d6, ha, hto⟩ := errR_at h0 c4
  have a0 := ha.1
  have a1 := ha.2
  have ea : nth d.nodes e.at'.toNat = nd d e.at' := rfl
  obtain ⟨rN, hN0, gN, rfl⟩ := F.acc.pos (by rw [List.length_map]; exact V.pos)
  rw [List.length_map] at *
  have nN4 : rN ≠ r4 := fun e => n4 (by rw [e]; rfl)
  have nN8 : rN ≠ r8 := fun e => n8 (by rw [e]; rfl)
  unfold c26_s5
  skip
  simp -dsimp -implicitDefEqProofs (disch := omega) only [VCA, Nat.reduceAdd, Nat.reduceLeDiff, ↓reduceIte, e3, eEdit]
  refine Br.eq (fun h1 => absurd h1 c4) (fun _ => ?_)
  simp -dsimp -implicitDefEqProofs (disch := omega) only [VCA, Nat.reduceEqDiff, Nat.reduceAdd, Nat.reduceLT, Nat.reduceLeDiff, ↓reduceIte, setAt, exists_eq_left', e3, e8, g8, gN, eEdit, eNode, ea]
  refine ⟨by omega, by omega, fun r10 hr10 => ?_⟩
  have n10 : ∀ t o, h2 t = some o → ¬ t = r10 := fun t o ht e => by rw [e, hr10] at ht; cases ht
  have n410 := n10 _ _ g4
  have n810 := n10 _ _ g8
  have nN10 := n10 _ _ gN
  have al := ((attrsE_iff _).1 ((nodeE_iff _).1 (V.node _ ha)).2.2.2.1).1
  have anod := ((attrsE_iff _).1 ((nodeE_iff _).1 (V.node _ ha)).2.2.2.1).2.2
  have Sb : Sub h2 (upd h2 r10 (some ⟨.t 40, 6, [eNode (nd d e.at')]⟩)) := (Sub.refl h2).upd hr10
  have gb := upd_same h2 r10 (some ⟨.t 40, 6, [eNode (nd d e.at')]⟩)
  show LoopVC _ _ _ (upd h2 r10 (some ⟨.t 40, 6, [eNode (nd d e.at')]⟩))
  generalize upd h2 r10 (some ⟨.t 40, 6, [eNode (nd d e.at')]⟩) = hb at *
  refine LoopVC.intro (fun m E h' => ∃ k : Nat, k ≤ (nd d e.at').attrs.length ∧ m = (nd d e.at').attrs.length - k ∧ E 3 = .pin (eEdit e) ∧ E 4 = .vp r4 0 ∧ E 8 = .vp r8 0 ∧ E 9 = aInt 0 ∧ E 10 = .vp r10 0 ∧ E 12 = .bool (setA e ((nd d e.at').attrs.take k)) ∧ E 13 = aInt k ∧
    Acc hb 96 2 ((((nd d e.at').attrs.take k).flatMap (stepA e)).map eAttr) (E 11) h' ∧ Sub hb h') (nd d e.at').attrs.length
    ⟨0, by omega, by omega, e3, e4, e8, e9, rfl, by (show AVal.bool false = _); simp [setA], rfl, .inl ⟨rfl, rfl⟩, Sub.refl _⟩ ?_
  clear e3 e4 e8 e9
  rintro m E h' ⟨k, hk, rfl, e3, e4, e8, e9, e10, e12, e13, A, S'⟩
  have g10 := S' _ _ gb
  unfold eNode at g10
  simp -dsimp -implicitDefEqProofs (disch := omega) only [VCA, Nat.reduceEqDiff, Nat.reduceAdd, Nat.reduceLT, Nat.reduceLeDiff, ↓reduceIte, exists_eq_left', e10, e13, g10, eEdit]
  refine Br.dec (fun hlt => ?_) (fun hge => ?_)
  · have hk' : k < (nd d e.at').attrs.length := by omega
    have tk : ((nd d e.at').attrs.take (k + 1)).flatMap (stepA e) = ((nd d e.at').attrs.take k).flatMap (stepA e) ++ stepA e (nth (nd d e.at').attrs k) := by rw [take_snoc hk', List.flatMap_append]; simp
    have ts : setA e ((nd d e.at').attrs.take (k + 1)) = (setA e ((nd d e.at').attrs.take k) || (decide (e.do' = 1) && ((nth (nd d e.at').attrs k).name == e.name))) := by unfold setA; rw [take_snoc hk', List.any_append]; cases decide (e.do' = 1) <;> simp
    have tl := stepA_len e ((nd d e.at').attrs.take k)
    rw [List.length_take] at tl
    have tm : ((((nd d e.at').attrs.take k).flatMap (stepA e)).map eAttr).length ≤ 12 := by rw [List.length_map]; omega
    obtain ⟨x, hx⟩ : ∃ x, nth (nd d e.at').attrs k = x := ⟨_, rfl⟩
    rw [hx] at tk ts
    have A14 : ∀ r y, h' r = none → Acc hb 96 2 ((((nd d e.at').attrs.take k).flatMap (stepA e)).map eAttr) (E 11) (upd h' r (some y)) := fun r y hr => by
      rcases A with q | ⟨r', q0, q1, q2⟩
      · exact .inl q
      · exact .inr ⟨r', q0, by rw [upd_ne _ _ (fun e => by rw [e, hr] at q1; cases q1)]; exact q1, q2⟩
    obtain ⟨sx, tk0⟩ : ∃ sx, stepA e x = sx := ⟨_, rfl⟩
    rw [tk0] at tk
    have nx : (x.name == e.name) = true ↔ x.name = e.name := by simp
    cases bn : (x.name == e.name)
    · by_cases c1 : e.do' = 1
      · have b1 : (e.do' == 1) = true := by simp; omega
        have b2 : (e.do' == 2) = false := by simp; omega
        have b2' : (e.do' != 2) = true := by simp; omega
        have bn' : (x.name != e.name) = true := by simp [bne, bn]
        simp -dsimp -implicitDefEqProofs (disch := omega) only [VCA, Nat.reduceEqDiff, Nat.reduceAdd, Nat.reduceLT, Nat.reduceLeDiff, ↓reduceIte, okParts, setAt, forall_eq, exists_eq_left, exists_eq_left', e3, e10, e13, g10, eEdit, eAttr, hx, bn, bn']
        refine ⟨by omega, fun r14 hr14 => ?_⟩
        refine (A14 _ _ hr14).app (S'.upd (S'.none hr14)) (by rw [List.length_singleton]; omega) (by rw [List.length_singleton]; omega) (fun a' h3 A' S3 => ?_)
        rw [show stepA e x = [x] from by unfold stepA; rw [if_pos (.inl (fun h => by rw [nx.2 h] at bn; cases bn)), if_neg (fun h => by rw [nx.2 h.1] at bn; cases bn)]] at tk0
        simp -dsimp -implicitDefEqProofs (disch := omega) only [VCA, Nat.reduceEqDiff, ↓reduceIte, e3, e4, e8, e9, e10, e12, e13, eEdit]
        refine ⟨_, by omega, k + 1, by omega, rfl, by rw [ts, bn]; simp, by omega, ?_, S3⟩
        rw [tk, ← tk0, List.map_append]
        exact A'
      · by_cases c2 : e.do' = 2
        · have b1 : (e.do' == 1) = false := by simp; omega
          have b2 : (e.do' == 2) = true := by simp; omega
          have b2' : (e.do' != 2) = false := by simp; omega
          have bn' : (x.name != e.name) = true := by simp [bne, bn]
          simp -dsimp -implicitDefEqProofs (disch := omega) only [VCA, Nat.reduceEqDiff, Nat.reduceAdd, Nat.reduceLT, Nat.reduceLeDiff, ↓reduceIte, okParts, setAt, forall_eq, exists_eq_left, exists_eq_left', e3, e10, e13, g10, eEdit, eAttr, hx, bn, bn']
          refine ⟨by omega, fun r14 hr14 => ?_⟩
          refine (A14 _ _ hr14).app (S'.upd (S'.none hr14)) (by rw [List.length_singleton]; omega) (by rw [List.length_singleton]; omega) (fun a' h3 A' S3 => ?_)
          rw [show stepA e x = [x] from by unfold stepA; rw [if_pos (.inl (fun h => by rw [nx.2 h] at bn; cases bn)), if_neg (fun h => by rw [nx.2 h.1] at bn; cases bn)]] at tk0
          simp -dsimp -implicitDefEqProofs (disch := omega) only [VCA, Nat.reduceEqDiff, ↓reduceIte, e3, e4, e8, e9, e10, e12, e13, eEdit]
          refine ⟨_, by omega, k + 1, by omega, rfl, by rw [ts, bn]; simp, by omega, ?_, S3⟩
          rw [tk, ← tk0, List.map_append]
          exact A'
        · have b1 : (e.do' == 1) = false := by simp; omega
          have b2 : (e.do' == 2) = false := by simp; omega
          have b2' : (e.do' != 2) = true := by simp; omega
          have bn' : (x.name != e.name) = true := by simp [bne, bn]
          simp -dsimp -implicitDefEqProofs (disch := omega) only [VCA, Nat.reduceEqDiff, Nat.reduceAdd, Nat.reduceLT, Nat.reduceLeDiff, ↓reduceIte, okParts, setAt, forall_eq, exists_eq_left, exists_eq_left', e3, e10, e13, g10, eEdit, eAttr, hx, bn, bn']
          refine ⟨by omega, fun r14 hr14 => ?_⟩
          refine (A14 _ _ hr14).app (S'.upd (S'.none hr14)) (by rw [List.length_singleton]; omega) (by rw [List.length_singleton]; omega) (fun a' h3 A' S3 => ?_)
          rw [show stepA e x = [x] from by unfold stepA; rw [if_pos (.inr c2), if_neg (fun h => c1 h.2)]] at tk0
          simp -dsimp -implicitDefEqProofs (disch := omega) only [VCA, Nat.reduceEqDiff, ↓reduceIte, e3, e4, e8, e9, e10, e12, e13, eEdit]
          refine ⟨_, by omega, k + 1, by omega, rfl, by rw [ts, bn]; simp, by omega, ?_, S3⟩
          rw [tk, ← tk0, List.map_append]
          exact A'
    · by_cases c1 : e.do' = 1
      · have b1 : (e.do' == 1) = true := by simp; omega
        have b2 : (e.do' == 2) = false := by simp; omega
        have b2' : (e.do' != 2) = true := by simp; omega
        have bn' : (x.name != e.name) = false := by simp [bne, bn]
        simp -dsimp -implicitDefEqProofs (disch := omega) only [VCA, Nat.reduceEqDiff, Nat.reduceAdd, Nat.reduceLT, Nat.reduceLeDiff, ↓reduceIte, okParts, setAt, forall_eq, exists_eq_left, exists_eq_left', e3, e10, e13, g10, eEdit, eAttr, hx, bn, bn', b1, b2']
        refine ⟨by omega, fun r14 hr14 => ?_⟩
        refine (A14 _ _ hr14).app (S'.upd (S'.none hr14)) (by rw [List.length_singleton]; omega) (by rw [List.length_singleton]; omega) (fun a' h3 A' S3 => ?_)
        rw [show stepA e x = [⟨x.name, e.value⟩] from by unfold stepA; rw [if_pos (.inr (by omega)), if_pos ⟨nx.1 bn, c1⟩]] at tk0
        simp -dsimp -implicitDefEqProofs (disch := omega) only [VCA, Nat.reduceEqDiff, ↓reduceIte, e3, e4, e8, e9, e10, e13, eEdit]
        refine ⟨_, by omega, k + 1, by omega, rfl, by rw [ts, bn]; simp [c1], by omega, ?_, S3⟩
        rw [tk, ← tk0, List.map_append]
        exact A'
      · by_cases c2 : e.do' = 2
        · have b1 : (e.do' == 1) = false := by simp; omega
          have b2 : (e.do' == 2) = true := by simp; omega
          have b2' : (e.do' != 2) = false := by simp; omega
          have bn' : (x.name != e.name) = false := by simp [bne, bn]
          rw [show stepA e x = [] from by unfold stepA; rw [if_neg (fun h => h.elim (fun h => h (nx.1 bn)) (fun h => h c2))]] at tk0
          simp -dsimp -implicitDefEqProofs (disch := omega) only [VCA, Nat.reduceEqDiff, Nat.reduceAdd, Nat.reduceLT, Nat.reduceLeDiff, ↓reduceIte, setAt, exists_eq_left', e3, e4, e8, e9, e10, e12, e13, g10, eEdit, eAttr, hx, bn, bn', b1, b2']
          refine ⟨by omega, fun r14 hr14 => ?_⟩
          refine ⟨_, by omega, k + 1, by omega, rfl, by rw [ts]; simp [c1], by omega, ?_, S'.upd (S'.none hr14)⟩
          rw [tk, ← tk0, List.append_nil]
          exact A14 _ _ hr14
        · have b1 : (e.do' == 1) = false := by simp; omega
          have b2 : (e.do' == 2) = false := by simp; omega
          have b2' : (e.do' != 2) = true := by simp; omega
          have bn' : (x.name != e.name) = false := by simp [bne, bn]
          simp -dsimp -implicitDefEqProofs (disch := omega) only [VCA, Nat.reduceEqDiff, Nat.reduceAdd, Nat.reduceLT, Nat.reduceLeDiff, ↓reduceIte, okParts, setAt, forall_eq, exists_eq_left, exists_eq_left', e3, e10, e13, g10, eEdit, eAttr, hx, bn, bn', b1, b2']
          refine ⟨by omega, fun r14 hr14 => ?_⟩
          refine (A14 _ _ hr14).app (S'.upd (S'.none hr14)) (by rw [List.length_singleton]; omega) (by rw [List.length_singleton]; omega) (fun a' h3 A' S3 => ?_)
          rw [show stepA e x = [x] from by unfold stepA; rw [if_pos (.inr c2), if_neg (fun h => c1 h.2)]] at tk0
          simp -dsimp -implicitDefEqProofs (disch := omega) only [VCA, Nat.reduceEqDiff, ↓reduceIte, e3, e4, e8, e9, e10, e12, e13, eEdit]
          refine ⟨_, by omega, k + 1, by omega, rfl, by rw [ts]; simp [c1], by omega, ?_, S3⟩
          rw [tk, ← tk0, List.map_append]
          exact A'
  · obtain rfl : k = (nd d e.at').attrs.length := by omega
    rw [List.take_length] at A e12
    have eN0 : editN d e = 0 := by unfold editN; rw [if_neg c4]
    have qq : ∀ x' : HNode, eNode x' = [aInt x'.kind, .str x'.name, sl eAttr x'.attrs, .str x'.text, aInt x'.parent, sl eInt x'.kids] := fun _ => rfl
    have gbN := Sb _ _ gN
    have gb4 := Sb _ _ g4
    have gb8 := Sb _ _ g8
    have fin : ∀ (h5 : Heap) (E5 : Env) (cells' : List (List AVal)), h5 rN = some ⟨.t 40, 6, cells'⟩ → cells'.length = d.nodes.length → (∀ t o, hb t = some o → t ≠ rN → t ≠ r10 → h5 t = some o) → F2 (F2 Vz) cells' ((editD d e).nodes.map eNode) → E5 4 = .vp r4 0 → E5 8 = .vp r8 0 → E5 9 = aInt 0 →
        vc (Pg G) c26_s6 (retK [.cell 4 2 true, .tmp 5, .tmp 6] (EdK d e h)) E5 h5 := fun h5 E5 cells' q1 q2 q3 q4 q5 q6 q7 => by
      refine edited_end V sm he h0 (cells := cells') (b := .osl rN 6 0 d.nodes.length) (r4 := r4) (r8 := r8) (fun t o ht => ?_) ⟨.inr ⟨rN, hN0, q1, by rw [q2]⟩⟩ q4 h4 (q3 _ _ gb4 (fun e => nN4 e.symm) n410) (q3 _ _ gb8 (fun e => nN8 e.symm) n810) (fun e => nN4 (by cases e; rfl)) q5 q6 (by rw [eN0]; exact q7)
      exact q3 t o (Sb _ _ (S _ _ ht)) (fun e => by rw [e, hN0] at ht; cases ht) (n10 _ _ (S _ _ ht))
    have hN' := S' _ _ gbN
    have h4' := S' _ _ gb4
    have h8' := S' _ _ gb8
    have lenN : (d.nodes.map eNode).length = d.nodes.length := by rw [List.length_map]
    have b4 : (e.do' == 4) = false := by simp [c4]
    have m810 : ¬ r10 = r8 := fun h => n810 (Eq.symm h)
    have m410 : ¬ r10 = r4 := fun h => n410 (Eq.symm h)
    have mN10 : ¬ r10 = rN := fun h => nN10 (Eq.symm h)
    have nN8' : ¬ rN = r8 := nN8
    have nN4' : ¬ rN = r4 := nN4
    have mN8 : ¬ r8 = rN := fun h => nN8 h.symm
    have mN4 : ¬ r4 = rN := fun h => nN4 h.symm
    have gat : (d.nodes.map eNode).getD e.at'.toNat [] = [aInt (nd d e.at').kind, .str (nd d e.at').name, sl eAttr (nd d e.at').attrs, .str (nd d e.at').text, aInt (nd d e.at').parent, sl eInt (nd d e.at').kids] := getD_map_enc (by omega)
    by_cases c3 : e.do' = 3
    · have b1 : (e.do' == 1) = false := by simp; omega
      have b2 : (e.do' == 2) = false := by simp; omega
      have b3 : (e.do' == 3) = true := by simp; omega
      have b5 : (e.do' == 5) = false := by simp; omega
      have b6 : (e.do' == 6) = false := by simp; omega
      simp -dsimp -implicitDefEqProofs (disch := omega) only [VCA, Nat.reduceEqDiff, Nat.reduceAdd, Nat.reduceLT, Nat.reduceLeDiff, ↓reduceIte, setAt, exists_eq_left', e3, e8, e10, g10, hN', h8', eEdit, b1, b2, b3, b5, b6, lenN, gat, n810, nN10]
      have eD : editD d e = setN d e.at' { nd d e.at' with text := e.value } := by unfold editD; rw [if_neg (by omega), if_neg (by omega), if_pos c3]
      refine ⟨by omega, by omega, fin _ _ _ (upd_same _ _ _) (by rw [List.length_set]; exact lenN) (fun t o ht h1 h2 => by rw [upd_ne _ _ h1, upd_ne _ _ h2]; exact S' _ _ ht) ?_ e4 e8 e9⟩
      rw [eD]
      show F2 (F2 Vz) _ ((d.nodes.set _ _).map eNode)
      rw [List.map_set]
      exact wks_refl _
    by_cases c6 : e.do' = 6
    · have b1 : (e.do' == 1) = false := by simp; omega
      have b2 : (e.do' == 2) = false := by simp; omega
      have b3 : (e.do' == 3) = false := by simp; omega
      have b5 : (e.do' == 5) = false := by simp; omega
      have b6 : (e.do' == 6) = true := by simp; omega
      have hE := h0
      rw [errR_6 c6 ha] at hE
      have hz : ¬ e.at' = 0 := fun h => by rw [if_pos h] at hE; omega
      rw [if_neg hz] at hE
      have hp : 0 ≤ (nd d e.at').parent := by
        apply Classical.byContradiction; intro h
        rw [if_pos (by omega)] at hE; omega
      have pin := (V.par_in ha hp).1
      have p1 := pin.2
      have gp : (d.nodes.map eNode).getD (nd d e.at').parent.toNat [] = [aInt (nd d (nd d e.at').parent).kind, .str (nd d (nd d e.at').parent).name, sl eAttr (nd d (nd d e.at').parent).attrs, .str (nd d (nd d e.at').parent).text, aInt (nd d (nd d e.at').parent).parent, sl eInt (nd d (nd d e.at').parent).kids] := getD_map_enc (by omega)
      have hi := idx_at (V.par_in ha hp).2
      have hk0 := (idx_mem (nd d (nd d e.at').parent).kids e.at').2 (V.par_in ha hp).2
      have hPl := placeIn_ok (G := G) (nd d (nd d e.at').parent).kids e.at' (sm.nd _).kids
      have eD : editD d e = cutN d e.at' (idxM (· == e.at') (nd d (nd d e.at').parent).kids).toNat := by unfold editD; rw [if_neg (by omega), if_neg (by omega), if_neg (by omega), if_neg (by omega), if_neg (by omega)]
      obtain ⟨i, hii⟩ : ∃ i : Nat, idxM (· == e.at') (nd d (nd d e.at').parent).kids = i := ⟨(idxM (· == e.at') (nd d (nd d e.at').parent).kids).toNat, by omega⟩
      rw [hii] at hPl eD hi
      rw [Int.toNat_natCast] at eD hi
      have hne : (nd d e.at').parent.toNat ≠ e.at'.toNat := fun h => by
        have := V.up_par ha hp
        have e2 : (nd d e.at').parent = e.at' := by omega
        rw [e2] at this; omega
      have gs : ∀ row : List AVal, ((d.nodes.map eNode).set (nd d e.at').parent.toNat row).getD e.at'.toNat [] = [aInt (nd d e.at').kind, .str (nd d e.at').name, sl eAttr (nd d e.at').attrs, .str (nd d e.at').text, aInt (nd d e.at').parent, sl eInt (nd d e.at').kids] := fun row => by
        rw [List.getD_eq_getElem?_getD, List.getElem?_set_ne hne, ← List.getD_eq_getElem?_getD]; exact gat
      have hW := without_ok (G := G) (nd d (nd d e.at').parent).kids i hi.1 (sm.nd _).kids
      simp -dsimp -implicitDefEqProofs (disch := omega) only [VCA, Nat.reduceEqDiff, Nat.reduceAdd, Nat.reduceLT, Nat.reduceLeDiff, ↓reduceIte, rsOf, rootsOf, exists_eq_left', rootL, e3, e8, e10, g10, hN', h8', eEdit, b1, b2, b3, b5, b6, lenN, gp]
      repeat' (first | ((with_reducible refine Br.dec (fun _ => ?_) (fun _ => ?_)) <;> try (exfalso; omega)) | ((with_reducible refine Br.eq (fun _ => ?_) (fun _ => ?_)) <;> try (exfalso; omega)) | ((with_reducible refine Br.ne (fun _ => ?_) (fun _ => ?_)) <;> try (exfalso; omega)) | ((with_reducible refine brNdec (fun _ => ?_) (fun _ => ?_)) <;> try (exfalso; omega)) | ((with_reducible refine brNeq (fun _ => ?_) (fun _ => ?_)) <;> try (exfalso; omega)) | with_reducible refine Br.intro (fun _ => ?_) (fun _ => ?_) | (with_reducible apply pcallE.of; · exact hPl) | (with_reducible apply pcallE.of; · exact hW) | (with_reducible refine And.intro ?_ ?_; · omega) | simp -dsimp -implicitDefEqProofs (disch := omega) only [VCA, Nat.reduceEqDiff, Nat.reduceBEq, Nat.reduceAdd, Nat.reduceLT, Nat.reduceLeDiff, ↓reduceIte, rsOf, rootsOf, SOp.rd, SI.rd, SX.rd, setAt, implies_true, exists_eq_left', rootL, e3, e8, e10, g10, hN', h8', eEdit, lenN, gp, gs, List.length_set, n810, nN10, mN10, mN8])
      refine fin _ _ _ (upd_same _ _ _) (by rw [List.length_set, List.length_set]; exact lenN) (fun t o ht h1 h2 => by rw [upd_ne _ _ h1, upd_ne _ _ h2, upd_ne _ _ h1]; exact S' _ _ ht) ?_ e4 e8 e9
      rw [eD]
      show F2 (F2 Vz) _ (((d.nodes.set _ _).set _ _).map eNode)
      rw [List.map_set, List.map_set]
      exact wks_refl _
    by_cases c5 : e.do' = 5
    · have b1 : (e.do' == 1) = false := by simp; omega
      have b2 : (e.do' == 2) = false := by simp; omega
      have b3 : (e.do' == 3) = false := by simp; omega
      have b5 : (e.do' == 5) = true := by simp; omega
      have b6 : (e.do' == 6) = false := by simp; omega
      have ht := hto c5
      have t0 := ht.1
      have t1 := ht.2
      obtain ⟨hc, hbe⟩ := errR_5z c5 ha ht h0
      have gt : (d.nodes.map eNode).getD e.to.toNat [] = [aInt (nd d e.to).kind, .str (nd d e.to).name, sl eAttr (nd d e.to).attrs, .str (nd d e.to).text, aInt (nd d e.to).parent, sl eInt (nd d e.to).kids] := getD_map_enc (by omega)
      have hne : e.to.toNat ≠ e.at'.toNat := fun h => hc (by rw [show e.to = e.at' by omega]; exact chain_self d _)
      have gs : ∀ row : List AVal, ((d.nodes.map eNode).set e.to.toNat row).getD e.at'.toNat [] = [aInt (nd d e.at').kind, .str (nd d e.at').name, sl eAttr (nd d e.at').attrs, .str (nd d e.at').text, aInt (nd d e.at').parent, sl eInt (nd d e.at').kids] := fun row => by
        rw [List.getD_eq_getElem?_getD, List.getElem?_set_ne hne, ← List.getD_eq_getElem?_getD]; exact gat
      have eD : editD d e = hung d e.at' e.to (insAt d e) := by unfold editD; rw [if_neg (by omega), if_neg (by omega), if_neg (by omega), if_neg (by omega), if_pos c5]
      have hPl := placeIn_ok (G := G) (nd d e.at').kids e.before (sm.nd _).kids
      have kl := nodup_len d.nodes.length (nd d e.at').kids (V.nodup _ ha) (fun k hk => (V.kid _ ha k hk).1)
      cases bb : (e.before != -1)
      · simp -dsimp -implicitDefEqProofs (disch := omega) only [VCA, Nat.reduceEqDiff, Nat.reduceBEq, Nat.reduceAdd, Nat.reduceLT, Nat.reduceLeDiff, ↓reduceIte, rsOf, rootsOf, SOp.rd, SI.rd, SX.rd, okParts, setAt, forall_const, forall_eq, exists_eq_left, exists_eq_left', rootL, e3, e8, e10, g10, eEdit, b1, b2, b3, b5, bb, n810]
        refine ⟨by omega, by omega, by omega, by omega, fun r hr => ?_⟩
        have nr : ¬ r10 = r := fun e => by rw [← e, g10] at hr; cases hr
        have dd := fun x => del_upd (h := h') (r := r) (o := x) hr
        simp -dsimp -implicitDefEqProofs (disch := omega) only [VCA, Nat.reduceLeDiff, ↓reduceIte, g10, nr, dd, List.drop_length, List.length_append]
        refine ⟨by omega, by omega, fun r' hr' => ?_⟩
        have nr' : ¬ r10 = r' := fun e => by rw [← e, g10] at hr'; cases hr'
        have dd' := fun x => del_upd (h := h') (r := r') (o := x) hr'
        simp -dsimp -implicitDefEqProofs (disch := omega) only [VCA, Nat.reduceEqDiff, Nat.reduceAdd, Nat.reduceLT, Nat.reduceLeDiff, ↓reduceIte, setAt, exists_eq_left', e3, e8, e10, g10, hN', h8', eEdit, b6, lenN, gt, gs, List.length_set, n810, nN10, mN10, mN8, nr', dd, dd', List.drop_length]
        have eI : insAt d e = (nd d e.at').kids.length := by unfold insAt; rw [if_pos (by simpa using bb)]
        refine ⟨by omega, by omega, by omega, by omega, by omega, by omega, fin _ _ _ (upd_same _ _ _) (by rw [List.length_set, List.length_set]; exact lenN) (fun t o ht h1 h2 => by rw [upd_ne _ _ h1, upd_ne _ _ h2]; exact S' _ _ ht) (wks_eq ?_) e4 e8 e9⟩
        rw [eD, eI]
        show _ = ((d.nodes.set _ _).set _ _).map eNode
        rw [List.map_set, List.map_set, List.set_comm _ _ hne.symm]
        refine congrArg (List.set _ _) ?_
        rw [qq]
        simp only [List.take_length, List.drop_length, sl, List.map_append, List.map_cons, List.map_nil]
        rw [List.take_of_length_le (i := (nd d e.at').kids.length + 1) (by simp)]
        rfl
      · have hi := idxM_leK (nd d e.at').kids e.before
        have bb' : e.before ≠ -1 := by simpa using bb
        obtain ⟨i, hii⟩ : ∃ i : Nat, idxM (· == e.before) (nd d e.at').kids = i := ⟨(idxM (· == e.before) (nd d e.at').kids).toNat, by omega⟩
        rw [hii] at hPl hi
        have lt : ((nd d e.at').kids.take i).length = i := by rw [List.length_take]; omega
        have ld : ((nd d e.at').kids.drop i).length = (nd d e.at').kids.length - i := List.length_drop
        simp -dsimp -implicitDefEqProofs (disch := omega) only [VCA, Nat.reduceEqDiff, Nat.reduceAdd, Nat.reduceLT, Nat.reduceLeDiff, ↓reduceIte, exists_eq_left', e3, e10, g10, eEdit, b1, b2, b3, b5, bb]
        refine pcallE.of (hPl) ?_; simp -dsimp -implicitDefEqProofs (disch := omega) only [VCA, Nat.reduceEqDiff, Nat.reduceBEq, Nat.reduceAdd, Nat.reduceLT, Nat.reduceLeDiff, ↓reduceIte, rsOf, rootsOf, SOp.rd, SI.rd, SX.rd, okParts, setAt, forall_const, forall_eq, exists_eq_left, exists_eq_left', rootL, e3, e8, e10, g10, eEdit, n810]
        simp -dsimp -implicitDefEqProofs (disch := omega) only [lt, ld]
        refine ⟨by omega, by omega, by omega, by omega, fun r hr => ?_⟩
        have nr : ¬ r10 = r := fun e => by rw [← e, g10] at hr; cases hr
        have dd := fun x => del_upd (h := h') (r := r) (o := x) hr
        simp -dsimp -implicitDefEqProofs (disch := omega) only [VCA, ↓reduceIte, g10, nr, dd, lt, List.length_append]
        refine ⟨by omega, by omega, fun r' hr' => ?_⟩
        have nr' : ¬ r10 = r' := fun e => by rw [← e, g10] at hr'; cases hr'
        have dd' := fun x => del_upd (h := h') (r := r') (o := x) hr'
        simp -dsimp -implicitDefEqProofs (disch := omega) only [VCA, Nat.reduceEqDiff, Nat.reduceAdd, Nat.reduceLT, Nat.reduceLeDiff, ↓reduceIte, setAt, exists_eq_left', e3, e8, e10, g10, hN', h8', eEdit, b6, lenN, gt, gs, List.length_set, n810, nN10, mN10, mN8, nr', dd, dd', lt]
        have eI : insAt d e = i := by unfold insAt; rw [if_neg bb', hii]; rfl
        refine ⟨by omega, by omega, by omega, by omega, by omega, by omega, fin _ _ _ (upd_same _ _ _) (by rw [List.length_set, List.length_set]; exact lenN) (fun t o ht h1 h2 => by rw [upd_ne _ _ h1, upd_ne _ _ h2]; exact S' _ _ ht) (wks_eq ?_) e4 e8 e9⟩
        rw [eD, eI]
        show _ = ((d.nodes.set _ _).set _ _).map eNode
        rw [List.map_set, List.map_set, List.set_comm _ _ hne.symm]
        refine congrArg (List.set _ _) ?_
        rw [qq]
        simp only [sl, List.map_append, List.map_cons]
        rw [List.take_of_length_le (i := i + 1) (by simp; omega), List.append_assoc]
        rfl
    have tS := stepA_len e (nd d e.at').attrs
    by_cases c2 : e.do' = 2
    · have b1 : (e.do' == 1) = false := by simp; omega
      have b2 : (e.do' == 2) = true := by simp; omega
      have b3 : (e.do' == 3) = false := by simp; omega
      have b5 : (e.do' == 5) = false := by simp; omega
      have b6 : (e.do' == 6) = false := by simp; omega
      have hat : 0 ≤ attrAt (nd d e.at').attrs e.name := by
        have hE := h0
        rw [errR_2 c2 ha] at hE
        split at hE
        · omega
        split at hE
        · omega
        · rename_i q; exact Classical.not_not.1 q
      have eL : (nd d e.at').attrs.flatMap (stepA e) = dropAttr (nd d e.at').attrs e.name := by
        rw [dropAttr_filter anod hat]
        generalize (nd d e.at').attrs = l
        induction l with
        | nil => rfl
        | cons a l ih =>
          rw [List.flatMap_cons, List.filter_cons, ih]
          unfold stepA
          by_cases q : a.name = e.name
          · rw [if_neg (by simp [q, c2])]; simp [q]
          · rw [if_pos (.inl q), if_neg (fun h => q h.1)]; simp [q]
      have eD : editD d e = setN d e.at' { nd d e.at' with attrs := dropAttr (nd d e.at').attrs e.name } := by unfold editD; rw [if_neg (by omega), if_pos c2]
      rw [eL] at A tS
      rcases A with ⟨q0, q1⟩ | ⟨rA, q0, q1, q2⟩
      · simp -dsimp -implicitDefEqProofs (disch := omega) only [VCA, Nat.reduceEqDiff, Nat.reduceAdd, Nat.reduceLT, Nat.reduceLeDiff, ↓reduceIte, setAt, exists_eq_left', e3, e8, e10, g10, hN', h8', eEdit, b1, b2, b3, b5, b6, lenN, gat, n810, nN10, q1]
        refine ⟨by omega, by omega, fin _ _ _ (upd_same _ _ _) (by rw [List.length_set]; exact lenN) (fun t o ht h1 h2 => by rw [upd_ne _ _ h1, upd_ne _ _ h2]; exact S' _ _ ht) (wks_eq ?_) e4 e8 e9⟩
        rw [eD]
        show _ = (d.nodes.set _ _).map eNode
        rw [List.map_set]
        refine congrArg (List.set _ _) ?_
        rw [qq]
        have : dropAttr (nd d e.at').attrs e.name = [] := by simpa using q0
        simp only [this]
        rfl
      · have SD := S'.del q0
        have dA10 := SD _ _ gb
        have dA8 := SD _ _ gb8
        have dAN := SD _ _ gbN
        unfold eNode at dA10
        simp -dsimp -implicitDefEqProofs (disch := omega) only [VCA, Nat.reduceEqDiff, Nat.reduceAdd, Nat.reduceLT, Nat.reduceLeDiff, ↓reduceIte, setAt, exists_eq_left', e3, e8, e10, eEdit, b1, b2, b3, b5, b6, lenN, gat, n810, nN10, q1, q2, dA10, dA8, dAN]
        refine ⟨by omega, by omega, fin _ _ _ (upd_same _ _ _) (by rw [List.length_set]; exact lenN) (fun t o ht h1 h2 => by rw [upd_ne _ _ h1, upd_ne _ _ h2]; exact SD _ _ ht) (wks_eq ?_) e4 e8 e9⟩
        rw [eD]
        show _ = (d.nodes.set _ _).map eNode
        rw [List.map_set]
        refine congrArg (List.set _ _) ?_
        rw [qq]
        rw [List.take_of_length_le (by rw [List.length_map]; exact Nat.le_refl _)]
        rfl
    have c1 : e.do' = 1 := by omega
    have b1 : (e.do' == 1) = true := by simp; omega
    have b2 : (e.do' == 2) = false := by simp; omega
    have b3 : (e.do' == 3) = false := by simp; omega
    have b5 : (e.do' == 5) = false := by simp; omega
    have b6 : (e.do' == 6) = false := by simp; omega
    have hsA : setA e (nd d e.at').attrs = decide (0 ≤ attrAt (nd d e.at').attrs e.name) := by
      unfold setA attrAt
      rw [idxM_any, c1]; simp
    have eL := setAttr_map (l := (nd d e.at').attrs) (name := e.name) (value := e.value) anod
    have eM : ((nd d e.at').attrs.map fun a => if a.name = e.name then (⟨a.name, e.value⟩ : HAttr) else a) = (nd d e.at').attrs.flatMap (stepA e) := by
      generalize (nd d e.at').attrs = l
      induction l with
      | nil => rfl
      | cons a l ih =>
        rw [List.flatMap_cons, List.map_cons, ih]
        unfold stepA
        by_cases q : a.name = e.name
        · rw [if_pos q, if_pos (.inr (by omega)), if_pos ⟨q, c1⟩]; rfl
        · rw [if_neg q, if_pos (.inl q), if_neg (fun h => q h.1)]; rfl
    rw [eM] at eL
    have eD : editD d e = setN d e.at' { nd d e.at' with attrs := setAttr (nd d e.at').attrs e.name e.value } := by unfold editD; rw [if_pos c1]
    by_cases hat : 0 ≤ attrAt (nd d e.at').attrs e.name
    · rw [if_pos hat, List.append_nil] at eL
      rw [hsA, decide_eq_true hat] at e12
      rw [← eL] at A tS
      clear eL
      rcases A with ⟨q0, q1⟩ | ⟨rA, q0, q1, q2⟩
      · simp -dsimp -implicitDefEqProofs (disch := omega) only [VCA, Nat.reduceEqDiff, Nat.reduceAdd, Nat.reduceLT, Nat.reduceLeDiff, ↓reduceIte, setAt, exists_eq_left', e3, e8, e10, e12, g10, hN', h8', eEdit, b1, b3, b5, b6, lenN, gat, n810, nN10, q1]
        refine ⟨by omega, by omega, fin _ _ _ (upd_same _ _ _) (by rw [List.length_set]; exact lenN) (fun t o ht h1 h2 => by rw [upd_ne _ _ h1, upd_ne _ _ h2]; exact S' _ _ ht) (wks_eq ?_) e4 e8 e9⟩
        rw [eD]
        show _ = (d.nodes.set _ _).map eNode
        rw [List.map_set]
        refine congrArg (List.set _ _) ?_
        rw [qq]
        have : setAttr (nd d e.at').attrs e.name e.value = [] := by simpa using q0
        simp only [this]
        rfl
      · have SD := S'.del q0
        have dA10 := SD _ _ gb
        have dA8 := SD _ _ gb8
        have dAN := SD _ _ gbN
        unfold eNode at dA10
        simp -dsimp -implicitDefEqProofs (disch := omega) only [VCA, Nat.reduceEqDiff, Nat.reduceAdd, Nat.reduceLT, Nat.reduceLeDiff, ↓reduceIte, setAt, exists_eq_left', e3, e8, e10, e12, eEdit, b1, b3, b5, b6, lenN, gat, n810, nN10, q1, q2, dA10, dA8, dAN]
        refine ⟨by omega, by omega, fin _ _ _ (upd_same _ _ _) (by rw [List.length_set]; exact lenN) (fun t o ht h1 h2 => by rw [upd_ne _ _ h1, upd_ne _ _ h2]; exact SD _ _ ht) (wks_eq ?_) e4 e8 e9⟩
        rw [eD]
        show _ = (d.nodes.set _ _).map eNode
        rw [List.map_set]
        refine congrArg (List.set _ _) ?_
        rw [qq]
        rw [List.take_of_length_le (by rw [List.length_map]; exact Nat.le_refl _)]
        rfl
    · rw [if_neg hat] at eL
      rw [hsA, decide_eq_false hat] at e12
      simp -dsimp -implicitDefEqProofs (disch := omega) only [VCA, Nat.reduceEqDiff, Nat.reduceAdd, Nat.reduceLeDiff, ↓reduceIte, okParts, fillA, okFill, forall_eq, exists_eq_left, e3, e12, eEdit, b1]
      have tL : (((nd d e.at').attrs.flatMap (stepA e)).map eAttr).length ≤ 12 := by rw [List.length_map]; omega
      refine A.app S' (by rw [List.length_singleton]; omega) (by rw [List.length_singleton]; omega) (fun a' h3 A' S3 => ?_)
      have eT : ((nd d e.at').attrs.flatMap (stepA e)).map eAttr ++ [[.str e.name, .str e.value]] = (setAttr (nd d e.at').attrs e.name e.value).map eAttr := by rw [eL, List.map_append]; rfl
      rw [eT] at A'
      clear eL eT A
      have hN3 := S3 _ _ gbN
      have h43 := S3 _ _ gb4
      have h83 := S3 _ _ gb8
      have k10 := S3 _ _ gb
      unfold eNode at k10
      rcases A' with ⟨q0, q1⟩ | ⟨rA, q0, q1, q2⟩
      · simp -dsimp -implicitDefEqProofs (disch := omega) only [VCA, Nat.reduceEqDiff, Nat.reduceAdd, Nat.reduceLT, Nat.reduceLeDiff, ↓reduceIte, setAt, exists_eq_left', e3, e8, e10, k10, hN3, h83, eEdit, b1, b3, b5, b6, lenN, gat, n810, nN10, q1]
        refine ⟨by omega, by omega, fin _ _ _ (upd_same _ _ _) (by rw [List.length_set]; exact lenN) (fun t o ht h1 h2 => by rw [upd_ne _ _ h1, upd_ne _ _ h2]; exact S3 _ _ ht) (wks_eq ?_) e4 e8 e9⟩
        rw [eD]
        show _ = (d.nodes.set _ _).map eNode
        rw [List.map_set]
        refine congrArg (List.set _ _) ?_
        rw [qq]
        have : setAttr (nd d e.at').attrs e.name e.value = [] := by simpa using q0
        simp only [this]
        rfl
      · have SD := S3.del q0
        have dA10 := SD _ _ gb
        have dA8 := SD _ _ gb8
        have dAN := SD _ _ gbN
        unfold eNode at dA10
        simp -dsimp -implicitDefEqProofs (disch := omega) only [VCA, Nat.reduceEqDiff, Nat.reduceAdd, Nat.reduceLT, Nat.reduceLeDiff, ↓reduceIte, setAt, exists_eq_left', e3, e8, e10, eEdit, b1, b3, b5, b6, lenN, gat, n810, nN10, q1, q2, dA10, dA8, dAN]
        refine ⟨by omega, by omega, fin _ _ _ (upd_same _ _ _) (by rw [List.length_set]; exact lenN) (fun t o ht h1 h2 => by rw [upd_ne _ _ h1, upd_ne _ _ h2]; exact SD _ _ ht) (wks_eq ?_) e4 e8 e9⟩
        rw [eD]
        show _ = (d.nodes.set _ _).map eNode
        rw [List.map_set]
        refine congrArg (List.set _ _) ?_
        rw [qq]
        rw [List.take_of_length_le (by rw [List.length_map]; exact Nat.le_refl _)]
        rfl
end Go.Proofs.K
end
section
/- Edits: the reference's Edited. -/
set_option linter.unusedSimpArgs false
set_option linter.unusedVariables false
namespace Go.Proofs.K
open Go Go.Sim Go.Proofs
variable {G : Glob}
theorem edited_ok (d : HDoc) (V : DV d) (sm : DocSm d) (e : HEdit) (he : EditSm e) : PCalls (Pg G) 26 [.agg (eDoc d), .agg (eEdit e)] (edR d e) := PCalls.outV fun h => by
  have hE := editErr_ok (G := G) d V sm e he
  unfold eEdit eDoc at hE
  have hCp := copyDoc_ok (G := G) d sm
  unfold eDoc at hCp
  show DCalls _ _ _ h (EdK d e h)
  refine dcalls_of_vc Tryz.func26 hn26 hc26 (by rw [Tryz.ntmps26]; simp) (by rw [Tryz.ntmps26]; decide) ?_
  simp -dsimp -implicitDefEqProofs (disch := omega) only [VCA, Nat.reduceEqDiff, Nat.reduceAdd, ↓reduceIte, eDoc, c26, eEdit]
  intro r4 hr4
  refine pcallE.of (hE) ?_; simp -dsimp -implicitDefEqProofs (disch := omega) only [VCA, ↓reduceIte]
  refine Br.ne (fun h0 => ?_) (fun h0 => ?_)
  · have aE := apply_err V h0
    have aD : applyD d e = noDoc := by unfold applyD; rw [aE, if_neg h0]
    have aN : applyN d e = 0 := by unfold applyN; rw [aE, if_neg h0]
    simp -dsimp -implicitDefEqProofs (disch := omega) only [VCA, Nat.reduceEqDiff, Nat.reduceAdd, Nat.reduceLT, ↓reduceIte, fillA, okFill, setAt, exists_eq_left']
    refine ⟨_, Sub.refl _, (Sub.refl h).upd hr4, ?_⟩
    unfold edR
    rw [aD, aN, aE]
    exact .tup' (.cons (vw_noDoc _) (.cons (.refl _) (.cons (.refl _) .nil)))
  · simp -dsimp -implicitDefEqProofs (disch := omega) only [VCA, Nat.reduceEqDiff, Nat.reduceAdd, ↓reduceIte]
    refine DCalls.of (hCp _) ?_
    rintro a h2 ⟨b, rfl, F, S⟩
    have S4 : ∀ x, Sub h (upd h r4 (some x)) := fun x => (Sub.refl h).upd hr4
    have n4 : rootOf b ≠ some r4 := fun e => by have := F.new _ e; rw [upd_same] at this; cases this
    have F' : Fresh h h2 40 6 (d.nodes.map eNode) b := ⟨F.acc.mono (S4 _)⟩
    have g4 := S _ _ (upd_same _ _ _)
    simp -dsimp -implicitDefEqProofs (disch := omega) only [VCA, Nat.reduceEqDiff, Nat.reduceAdd, Nat.reduceLT, ↓reduceIte, setAt, exists_eq_left']
    intro r8 hr8
    have n8 : rootOf b ≠ some r8 := fun e => by
      obtain ⟨o, ho⟩ := F.own.root e
      rw [ho] at hr8; cases hr8
    have n48 : r4 ≠ r8 := fun e => by rw [← e, g4] at hr8; cases hr8
    have Sh : Sub h h2 := (S4 _).trans S
    have h8 : h r8 = none := Sh.none hr8
    have F2 : ∀ y, Fresh h (upd h2 r8 (some y)) 40 6 (d.nodes.map eNode) b := fun y => F'.keep fun r o hr ho => by rw [upd_ne _ _ (fun e => n8 (by rw [hr, e]))]; exact ho
    by_cases c4 : e.do' = 4
    · exact edited_make V sm he h0 c4 (Sh.upd h8) (F2 _) hr4 h8 (by rw [upd_ne _ _ n48]; exact g4) (upd_same _ _ _) n4 n8 n48 rfl rfl rfl
    · exact edited_else V sm he h0 c4 (Sh.upd h8) (F2 _) hr4 h8 (by rw [upd_ne _ _ n48]; exact g4) (upd_same _ _ _) n4 n8 n48 rfl rfl rfl rfl
end Go.Proofs.K
end
section
/- Ranges after an edit: what a point becomes (plain). -/
set_option linter.unusedSimpArgs false
set_option linter.unusedVariables false
namespace Go.Proofs.K
open Go Go.Sim Go.Proofs
/-- what a point becomes by an edit that may be done -/
def afterP (d : HDoc) (e : HEdit) (p : HPoint) : HPoint :=
  if e.do' = 3 then (if p.node = e.at' ∧ (e.value.length : Int) < p.at' then ⟨p.node, e.value.length⟩ else p)
  else if e.do' = 5 then (if p.node = e.at' ∧ (insAt d e : Int) < p.at' then ⟨p.node, p.at' + 1⟩ else p)
  else if e.do' = 6 then (if e.at' ∈ chain d p.node then ⟨(nd d e.at').parent, idxM (· == e.at') (nd d (nd d e.at').parent).kids⟩
    else if p.node = (nd d e.at').parent ∧ idxM (· == e.at') (nd d (nd d e.at').parent).kids < p.at' then ⟨p.node, p.at' - 1⟩ else p)
  else p
/-- where a node is put, its kids are its room -/
theorem ins_room {d : HDoc} (V : DV d) {e : HEdit} (h5 : e.do' = 5) (h0 : errR d e = 0) : roomM d e.at' = (nd d e.at').kids.length ∧ (e.before = -1 → insAt d e = roomM d e.at') ∧ (e.before ≠ -1 → 0 ≤ e.before ∧ (insAt d e : Int) = idxM (· == e.before) (nd d e.at').kids) := by
  obtain ⟨_, _, ha, ht⟩ := errR_at h0 (by omega)
  have ht := ht h5
  obtain ⟨_, hb⟩ := errR_5z h5 ha ht h0
  rw [errR_5 h5 ha ht] at h0
  have hk : ¬ 2 < (nd d e.at').kind := fun h => by rw [if_pos (.inl h)] at h0; omega
  have hr : roomM d e.at' = (nd d e.at').kids.length := by unfold roomM; rw [if_neg (by omega)]
  refine ⟨hr, fun h => by unfold insAt; rw [if_pos h, hr], fun h => ?_⟩
  have hi : 0 ≤ idxM (· == e.before) (nd d e.at').kids := by
    apply Classical.byContradiction; intro hh
    exact hb ⟨h, by omega⟩
  have hm := (idx_mem _ _).1 hi
  refine ⟨(V.kid _ ha _ hm).1.1, ?_⟩
  unfold insAt; rw [if_neg h]; omega
end Go.Proofs.K
end
section
/- Ranges after an edit: what the program says. -/
set_option linter.unusedSimpArgs false
set_option linter.unusedVariables false
namespace Go.Proofs.K
open Go Go.Sim Go.Proofs
variable {G : Glob}
theorem bI_t {a b : Int} (h : a = b) : (a == b) = true := by simpa using h
theorem bI_f {a b : Int} (h : ¬ a = b) : (a == b) = false := by simpa using h
theorem bN_t {a b : Int} (h : ¬ a = b) : (a != b) = true := by simpa using h
theorem bN_f {a b : Int} (h : a = b) : (a != b) = false := by simp [h]
theorem pointE_bd {d : HDoc} {p : HPoint} (h : pointE d p = 0) : inD d p.node ∧ 0 ≤ p.at' ∧ p.at' ≤ roomM d p.node := by
  unfold pointE at h
  split at h
  · omega
  rename_i h1
  exact Classical.not_not.1 h1
def c55 : SFun := ⟨(.seq (.reg [⟨(some 3), (.boxF 89 2 (.t 0)), none⟩, ⟨(some 4), (.box 50 2 (.t 1)), none⟩, ⟨(some 5), (.boxF 42 12 (.t 2)), none⟩, ⟨(some 6), (.new 50 2 [(.int .i64 (0)), (.int .i64 (0))]), none⟩]) (.seq (.seq (.reg [⟨(some 11), (.fldA 0 (.t 5)), none⟩, ⟨(some 12), (.ld 1 false (.t 11)), none⟩]) (.block 0 (.seq (.reg [⟨(some 14), (.bin .eql (.t 12) (.c (.int .i64 (5)))), none⟩, ⟨(some 13), (.mv (.t 14)), none⟩]) (.cond (.t 13) (.seq (.reg [⟨(some 15), (.ld 2 true (.t 3)), none⟩, ⟨(some 16), (.fldA 1 (.t 5)), none⟩, ⟨(some 17), (.ld 1 false (.t 16)), none⟩, ⟨(some 18), (.pcall 100 [(.t 15), (.t 17)]), none⟩, ⟨(some 7), (.mv (.t 18)), none⟩]) (.seq (.seq (.reg [⟨(some 19), (.fldA 3 (.t 5)), none⟩, ⟨(some 20), (.ld 1 false (.t 19)), none⟩, ⟨(some 21), (.bin .geq (.t 20) (.c (.int .i64 (0)))), none⟩]) (.cond (.t 21) (.dreg [(⟨(some 22), (.fldA 0 (.t 3)), none⟩, none), (⟨(some 23), (.fldA 0 (.t 22)), none⟩, none), (⟨(some 24), (.ld 1 false (.t 23)), none⟩, none), (⟨(some 25), (.fldA 1 (.t 5)), none⟩, none), (⟨(some 26), (.ld 1 false (.t 25)), none⟩, none), (⟨(some 27), (.idxA 6 (.t 24) (.t 26)), none⟩, none), (⟨(some 28), (.fldA 5 (.t 27)), none⟩, none), (⟨(some 29), (.ld 1 false (.t 28)), none⟩, none), (⟨(some 30), (.fldA 3 (.t 5)), none⟩, none), (⟨(some 31), (.ld 1 false (.t 30)), none⟩, none), (⟨(some 32), (.pcall 80 [(.t 29), (.t 31)]), none⟩, none), (⟨(some 7), (.mv (.t 32)), none⟩, none)]) .skip)) (.seq (.reg [⟨(some 33), (.fldA 0 (.t 4)), none⟩, ⟨(some 34), (.ld 1 false (.t 33)), none⟩, ⟨(some 35), (.fldA 1 (.t 5)), none⟩, ⟨(some 36), (.ld 1 false (.t 35)), none⟩, ⟨(some 37), (.bin .eql (.t 34) (.t 36)), none⟩, ⟨(some 38), (.mv (.t 37)), none⟩, ⟨(some 39), (.fldA 1 (.t 4)), (some (38, true))⟩, ⟨(some 40), (.ld 1 false (.t 39)), (some (38, true))⟩, ⟨(some 41), (.mv (.t 7)), (some (38, true))⟩, ⟨(some 42), (.bin .gtr (.t 40) (.t 41)), (some (38, true))⟩, ⟨(some 43), (.pick (.t 38) (.t 42) (.c (.bool false))), none⟩]) (.cond (.t 43) (.reg [⟨(some 44), (.fldA 1 (.t 4)), none⟩, ⟨(some 45), (.ld 1 false (.t 44)), none⟩, ⟨(some 46), (.bin .add (.t 45) (.c (.int .i64 (1)))), none⟩, ⟨(some 47), (.fldA 1 (.t 4)), none⟩, ⟨none, (.st 1 (.t 47) (.t 46)), none⟩]) .skip)))) (.seq (.reg [⟨(some 49), (.bin .eql (.t 12) (.c (.int .i64 (6)))), none⟩, ⟨(some 48), (.mv (.t 49)), none⟩]) (.cond (.t 48) (.seq (.reg [⟨(some 50), (.fldA 0 (.t 3)), none⟩, ⟨(some 51), (.fldA 0 (.t 50)), none⟩, ⟨(some 52), (.ld 1 false (.t 51)), none⟩, ⟨(some 53), (.fldA 1 (.t 5)), none⟩, ⟨(some 54), (.ld 1 false (.t 53)), none⟩, ⟨(some 55), (.idxA 6 (.t 52) (.t 54)), none⟩, ⟨(some 56), (.fldA 4 (.t 55)), none⟩, ⟨(some 57), (.ld 1 false (.t 56)), none⟩, ⟨(some 8), (.mv (.t 57)), none⟩]) (.seq (.dreg [(⟨(some 58), (.fldA 0 (.t 3)), none⟩, none), (⟨(some 59), (.fldA 0 (.t 58)), none⟩, none), (⟨(some 60), (.ld 1 false (.t 59)), none⟩, none), (⟨(some 61), (.mv (.t 8)), none⟩, none), (⟨(some 62), (.idxA 6 (.t 60) (.t 61)), none⟩, none), (⟨(some 63), (.fldA 5 (.t 62)), none⟩, none), (⟨(some 64), (.ld 1 false (.t 63)), none⟩, none), (⟨(some 65), (.fldA 1 (.t 5)), none⟩, none), (⟨(some 66), (.ld 1 false (.t 65)), none⟩, none), (⟨(some 67), (.pcall 80 [(.t 64), (.t 66)]), none⟩, none), (⟨(some 9), (.mv (.t 67)), none⟩, none)]) (.seq (.seq (.reg [⟨(some 68), (.fldA 0 (.t 4)), none⟩, ⟨(some 69), (.ld 1 false (.t 68)), none⟩, ⟨(some 70), (.mv (.t 8)), none⟩, ⟨(some 71), (.bin .eql (.t 69) (.t 70)), none⟩, ⟨(some 72), (.mv (.t 71)), none⟩, ⟨(some 73), (.fldA 1 (.t 4)), (some (72, true))⟩, ⟨(some 74), (.ld 1 false (.t 73)), (some (72, true))⟩, ⟨(some 75), (.mv (.t 9)), (some (72, true))⟩, ⟨(some 76), (.bin .gtr (.t 74) (.t 75)), (some (72, true))⟩, ⟨(some 77), (.pick (.t 72) (.t 76) (.c (.bool false))), none⟩]) (.cond (.t 77) (.reg [⟨(some 78), (.fldA 1 (.t 4)), none⟩, ⟨(some 79), (.ld 1 false (.t 78)), none⟩, ⟨(some 80), (.bin .sub (.t 79) (.c (.int .i64 (1)))), none⟩, ⟨(some 81), (.fldA 1 (.t 4)), none⟩, ⟨none, (.st 1 (.t 81) (.t 80)), none⟩]) .skip)) (.seq (.reg [⟨(some 82), (.fldA 0 (.t 4)), none⟩, ⟨(some 83), (.ld 1 false (.t 82)), none⟩, ⟨(some 10), (.mv (.t 83)), none⟩]) (.block 1 (.loop (.seq (.seq (.reg [⟨(some 84), (.mv (.t 10)), none⟩, ⟨(some 85), (.bin .geq (.t 84) (.c (.int .i64 (0)))), none⟩]) (.cond (.t 85) .skip (.exit 1))) (.seq (.block 2 (.seq (.reg [⟨(some 93), (.mv (.t 10)), none⟩, ⟨(some 94), (.fldA 1 (.t 5)), none⟩, ⟨(some 95), (.ld 1 false (.t 94)), none⟩, ⟨(some 96), (.bin .eql (.t 93) (.t 95)), none⟩]) (.cond (.t 96) (.seq (.reg [⟨(some 97), (.mv (.t 8)), none⟩, ⟨(some 98), (.mv (.t 9)), none⟩, ⟨(some 99), (.bld [(.int .i64 (0)), (.int .i64 (0))] [(0, (1, (.t 97))), (1, (1, (.t 98)))]), none⟩, ⟨none, (.st 2 (.t 6) (.t 99)), none⟩]) .ret) .skip))) (.reg [⟨(some 86), (.fldA 0 (.t 3)), none⟩, ⟨(some 87), (.fldA 0 (.t 86)), none⟩, ⟨(some 88), (.ld 1 false (.t 87)), none⟩, ⟨(some 89), (.mv (.t 10)), none⟩, ⟨(some 90), (.idxA 6 (.t 88) (.t 89)), none⟩, ⟨(some 91), (.fldA 4 (.t 90)), none⟩, ⟨(some 92), (.ld 1 false (.t 91)), none⟩, ⟨(some 10), (.mv (.t 92)), none⟩]))))))))) (.seq (.reg [⟨(some 101), (.bin .eql (.t 12) (.c (.int .i64 (3)))), none⟩, ⟨(some 100), (.mv (.t 101)), none⟩]) (.cond (.t 100) (.seq (.reg [⟨(some 102), (.fldA 0 (.t 4)), none⟩, ⟨(some 103), (.ld 1 false (.t 102)), none⟩, ⟨(some 104), (.fldA 1 (.t 5)), none⟩, ⟨(some 105), (.ld 1 false (.t 104)), none⟩, ⟨(some 106), (.bin .eql (.t 103) (.t 105)), none⟩]) (.cond (.t 106) (.reg [⟨(some 107), (.fldA 1 (.t 4)), none⟩, ⟨(some 108), (.ld 1 false (.t 107)), none⟩, ⟨(some 109), (.fldA 5 (.t 5)), none⟩, ⟨(some 110), (.ld 1 false (.t 109)), none⟩, ⟨(some 111), (.lenS (.t 110)), none⟩, ⟨(some 112), (.min2 (.t 108) (.t 111)), none⟩, ⟨(some 113), (.fldA 1 (.t 4)), none⟩, ⟨none, (.st 1 (.t 113) (.t 112)), none⟩]) .skip)) .skip)))))))) (.seq (.reg [⟨(some 114), (.ld 2 true (.t 4)), none⟩, ⟨none, (.st 2 (.t 6) (.t 114)), none⟩]) .ret))), [(.cell 6 2 true)]⟩
theorem hc55 : toSF Tryz.prog {pure := [100, 80], how := [(4, 6)]} Tryz.f55 = some c55 := by kernel_rfl
theorem hn55 : (Tryz.f55.name == "runtime.NumGoroutine") = false := by kernel_rfl
set_option maxHeartbeats 1000000 in
theorem moved_ok (d : HDoc) (V : DV d) (sm : DocSm d) (e : HEdit) (he : EditSm e) (h0 : errR d e = 0) (p : HPoint) (hp : pointE d p = 0) : PCalls (Pg G) 55 [.agg (eDoc d), .agg (eP p), .agg (eEdit e)] (.agg (eP (afterP d e p))) := fun h => by
  obtain ⟨hn, ha0, ha1⟩ := pointE_bd hp
  have hrm := room_le sm p.node
  have pn0 := hn.1
  have pn1 := hn.2
  have vl := V.len
  unfold afterP
  refine dcalls_of_vc Tryz.func55 hn55 hc55 (by rw [Tryz.ntmps55]; simp) (by rw [Tryz.ntmps55]; decide) ?_
  by_cases h3 : e.do' = 3
  · rw [if_pos h3]
    have vle := he.value
    have b3 := bI_t h3
    have b5 : (e.do' == 5) = false := bI_f (by omega)
    have b6 : (e.do' == 6) = false := bI_f (by omega)
    simp -dsimp -implicitDefEqProofs (disch := omega) only [VCA, ↓upd_none, Nat.reduceEqDiff, Nat.reduceAdd, Nat.reduceLeDiff, ↓reduceIte, ne_eq, c55, eDoc, eP, eEdit, b3, b5, b6]
    intro r4 hr4 r6 hr6
    have n1 : ¬ r4 = r6 := fun q => hr6.1 q.symm
    have n2 : ¬ r6 = r4 := hr6.1
    repeat' (first | ((with_reducible refine Br.dec (fun _ => ?_) (fun _ => ?_)) <;> try (exfalso; omega)) | ((with_reducible refine Br.eq (fun _ => ?_) (fun _ => ?_)) <;> try (exfalso; omega)) | ((with_reducible refine Br.ne (fun _ => ?_) (fun _ => ?_)) <;> try (exfalso; omega)) | ((with_reducible refine brNdec (fun _ => ?_) (fun _ => ?_)) <;> try (exfalso; omega)) | ((with_reducible refine brNeq (fun _ => ?_) (fun _ => ?_)) <;> try (exfalso; omega)) | with_reducible refine Br.intro (fun _ => ?_) (fun _ => ?_) | (with_reducible refine And.intro ?_ ?_; · omega) | simp -dsimp -implicitDefEqProofs (disch := omega) only [VCA, Nat.reduceEqDiff, Nat.reduceAdd, Nat.reduceLT, Nat.reduceLeDiff, ↓reduceIte, setAt, exists_eq_right_right, exists_eq_left', n1, n2])
    all_goals first
      | refine ⟨((((Sub.refl h).upd hr4).upd hr6.2).upd hr4).upd hr6.2, ?_⟩
      | refine ⟨((Sub.refl h).upd hr4).upd hr6.2, ?_⟩
    all_goals first
      | (rw [if_neg (by omega)]; done)
      | (rw [if_pos (by omega)]; done)
      | (rw [if_pos (by omega)]; simp only [AVal.agg.injEq, List.cons.injEq, AVal.int.injEq, true_and, and_true]; omega)
      | (split <;> first | rfl | (simp only [AVal.agg.injEq, List.cons.injEq, AVal.int.injEq, true_and, and_true]; omega))
      | trace_state
  rw [if_neg h3]
  have b3 := bI_f h3
  by_cases h5 : e.do' = 5
  · rw [if_pos h5]
    have b5 := bI_t h5
    have b6 : (e.do' == 6) = false := bI_f (by omega)
    obtain ⟨_, _, hA, hT⟩ := errR_at h0 (by omega)
    have hA0 := hA.1
    have hA1 := hA.2
    have hT := hT h5
    obtain ⟨i1, i2, i3⟩ := ins_room V h5 h0
    have hR := room_ok (G := G) d sm e.at' hA
    have kl := (sm.nd e.at').kids
    have hI := hasII_ok (G := G) (nd d e.at').kids e.before kl
    have e0 : nth d.nodes e.at'.toNat = nd d e.at' := rfl
    unfold eDoc at hR
    simp -dsimp -implicitDefEqProofs (disch := omega) only [VCA, ↓upd_none, Nat.reduceEqDiff, Nat.reduceAdd, Nat.reduceLeDiff, ↓reduceIte, ne_eq, c55, eDoc, eP, eEdit, b5]
    intro r4 hr4 r6 hr6
    have n1 : ¬ r4 = r6 := fun q => hr6.1 q.symm
    have n2 : ¬ r6 = r4 := hr6.1
    repeat' (first | ((with_reducible refine Br.dec (fun _ => ?_) (fun _ => ?_)) <;> try (exfalso; omega)) | ((with_reducible refine Br.eq (fun _ => ?_) (fun _ => ?_)) <;> try (exfalso; omega)) | ((with_reducible refine Br.ne (fun _ => ?_) (fun _ => ?_)) <;> try (exfalso; omega)) | ((with_reducible refine brNdec (fun _ => ?_) (fun _ => ?_)) <;> try (exfalso; omega)) | ((with_reducible refine brNeq (fun _ => ?_) (fun _ => ?_)) <;> try (exfalso; omega)) | with_reducible refine Br.intro (fun _ => ?_) (fun _ => ?_) | (with_reducible apply pcallE.of; · exact hR) | (with_reducible apply pcallE.of; · exact hI) | (with_reducible refine And.intro ?_ ?_; · omega) | simp -dsimp -implicitDefEqProofs (disch := omega) only [↓vcOps_sp 38, VCA, Nat.reduceEqDiff, Nat.reduceAdd, Nat.reduceLT, Nat.reduceLeDiff, ↓reduceIte, rsOf, rootsOf, setAt, exists_eq_right_right, exists_eq_left', rootL, eNode, e0, n1, n2])
    all_goals first
      | refine ⟨((((Sub.refl h).upd hr4).upd hr6.2).upd hr4).upd hr6.2, ?_⟩
      | refine ⟨((Sub.refl h).upd hr4).upd hr6.2, ?_⟩
    all_goals first
      | (rw [if_neg (by omega)]; done)
      | (rw [if_pos (by omega)]; done)
      | (rw [if_pos (by omega)]; simp only [AVal.agg.injEq, List.cons.injEq, AVal.int.injEq, true_and, and_true]; omega)
      | (split <;> first | rfl | (simp only [AVal.agg.injEq, List.cons.injEq, AVal.int.injEq, true_and, and_true]; omega))
      | trace_state
  rw [if_neg h5]
  have b5 := bI_f h5
  by_cases h6 : e.do' = 6
  · rw [if_pos h6]
    have b6 := bI_t h6
    obtain ⟨_, _, hA, _⟩ := errR_at h0 (by omega)
    have hA0 := hA.1
    have hA1 := hA.2
    have hpp : 0 ≤ (nd d e.at').parent := by
      rw [errR_6 h6 hA] at h0
      split at h0
      · omega
      · split at h0 <;> omega
    have hP := (V.par_in hA hpp).1
    have hP0 := hP.1
    have hP1 := hP.2
    have kl := (sm.nd (nd d e.at').parent).kids
    have hI := hasII_ok (G := G) (nd d (nd d e.at').parent).kids e.at' kl
    have hq := idxM_le (nd d (nd d e.at').parent).kids e.at'
    have e0 : nth d.nodes e.at'.toNat = nd d e.at' := rfl
    have e1 : nth d.nodes (nd d e.at').parent.toNat = nd d (nd d e.at').parent := rfl
    generalize hQ : idxM (· == e.at') (nd d (nd d e.at').parent).kids = q at *
    generalize hU : (nd d e.at').parent = u at *
    obtain ⟨p0, hp0⟩ : ∃ p0 : HPoint, p0 = if p.node = u ∧ q < p.at' then ⟨p.node, p.at' - 1⟩ else p := ⟨_, rfl⟩
    rw [← hp0]
    simp -dsimp -implicitDefEqProofs (disch := omega) only [VCA, ↓upd_none, Nat.reduceEqDiff, Nat.reduceAdd, Nat.reduceLeDiff, ↓reduceIte, rsOf, rootsOf, ne_eq, rootL, c55, eDoc, eP, eEdit, b5, b6]
    intro r4 hr4 r6 hr6
    have n1 : ¬ r4 = r6 := fun q => hr6.1 q.symm
    have n2 : ¬ r6 = r4 := hr6.1
    repeat' (first | ((with_reducible refine Br.dec (fun _ => ?_) (fun _ => ?_)) <;> try (exfalso; omega)) | ((with_reducible refine Br.eq (fun _ => ?_) (fun _ => ?_)) <;> try (exfalso; omega)) | ((with_reducible refine Br.ne (fun _ => ?_) (fun _ => ?_)) <;> try (exfalso; omega)) | ((with_reducible refine brNdec (fun _ => ?_) (fun _ => ?_)) <;> try (exfalso; omega)) | ((with_reducible refine brNeq (fun _ => ?_) (fun _ => ?_)) <;> try (exfalso; omega)) | with_reducible refine Br.intro (fun _ => ?_) (fun _ => ?_) | (with_reducible apply pcallE.of; · exact hI) | (with_reducible refine And.intro ?_ ?_; · omega) | simp -dsimp -implicitDefEqProofs (disch := omega) only [↓vcOps_sp 72, VCA, Nat.reduceEqDiff, Nat.reduceAdd, Nat.reduceLT, Nat.reduceLeDiff, ↓reduceIte, rsOf, rootsOf, setAt, exists_eq_left', rootL, eNode, e0, e1, hU, n1])
    all_goals
      refine LoopVC.intro (fun m E h' => ∃ c : Int, m = (if c = -1 then 0 else up d c + 1) ∧ (c = -1 ∨ inD d c) ∧ E 3 = .pin (eDoc d) ∧ E 4 = .vp r4 0 ∧ E 5 = .pin (eEdit e) ∧ E 6 = .vp r6 0 ∧ E 8 = aInt u ∧ E 9 = aInt q ∧ E 10 = aInt c ∧
        h' r4 = some ⟨.t 50, 2, [eP p0]⟩ ∧ h' r6 = some ⟨.t 50, 2, [[aInt 0, aInt 0]]⟩ ∧ Sim.Sub h h' ∧
        (c = -1 → e.at' ∉ chain d p.node) ∧ (inD d c → (e.at' ∈ chain d p.node ↔ e.at' ∈ chain d c))) _ ⟨p.node, rfl, .inr hn, rfl, rfl, rfl, rfl, rfl, rfl, rfl, ?_, ?_, ?_, fun e => by omega, fun _ => Iff.rfl⟩ ?_
    all_goals first
      | (rw [hp0, if_pos (by omega)]; exact upd_same _ _ _)
      | (rw [hp0, if_neg (by omega), upd_ne _ _ n1]; exact upd_same _ _ _)
      | (rw [upd_ne _ _ n2]; exact upd_same _ _ _)
      | exact upd_same _ _ _
      | exact (((Sub.refl h).upd hr4).upd hr6.2).upd hr4
      | exact ((Sub.refl h).upd hr4).upd hr6.2
      | skip
    all_goals
      rintro m E h' ⟨c, rfl, hc, h3', h4', h5', h6', h8', h9', h10', gp, g6, S, hno, hyes⟩
      unfold eP at gp
      by_cases h2 : c = -1
      · subst h2
        rw [if_neg (hno rfl)]
        simp -dsimp -implicitDefEqProofs (disch := omega) only [VCA, ↓reduceIte, h10']
        repeat' (first | ((with_reducible refine Br.dec (fun _ => ?_) (fun _ => ?_)) <;> try (exfalso; omega)) | ((with_reducible refine Br.eq (fun _ => ?_) (fun _ => ?_)) <;> try (exfalso; omega)) | ((with_reducible refine Br.ne (fun _ => ?_) (fun _ => ?_)) <;> try (exfalso; omega)) | ((with_reducible refine brNdec (fun _ => ?_) (fun _ => ?_)) <;> try (exfalso; omega)) | ((with_reducible refine brNeq (fun _ => ?_) (fun _ => ?_)) <;> try (exfalso; omega)) | with_reducible refine Br.intro (fun _ => ?_) (fun _ => ?_) | (with_reducible refine And.intro ?_ ?_; · omega) | simp -dsimp -implicitDefEqProofs (disch := omega) only [VCA, Nat.reduceEqDiff, Nat.reduceAdd, Nat.reduceLT, ↓reduceIte, setAt, exists_eq_right_right, exists_eq_left', h4', h6', gp, g6])
        exact S.upd hr6.2
      · have hc : inD d c := hc.resolve_left h2
        have hc0 := hc.1
        have hc1 := hc.2
        have ec : nth d.nodes c.toNat = nd d c := rfl
        simp -dsimp -implicitDefEqProofs (disch := omega) only [VCA, ↓reduceIte, h10', eDoc, eEdit]
        repeat' (first | ((with_reducible refine Br.dec (fun _ => ?_) (fun _ => ?_)) <;> try (exfalso; omega)) | ((with_reducible refine Br.eq (fun _ => ?_) (fun _ => ?_)) <;> try (exfalso; omega)) | ((with_reducible refine Br.ne (fun _ => ?_) (fun _ => ?_)) <;> try (exfalso; omega)) | ((with_reducible refine brNdec (fun _ => ?_) (fun _ => ?_)) <;> try (exfalso; omega)) | ((with_reducible refine brNeq (fun _ => ?_) (fun _ => ?_)) <;> try (exfalso; omega)) | with_reducible refine Br.intro (fun _ => ?_) (fun _ => ?_) | (with_reducible refine And.intro ?_ ?_; · omega) | simp -dsimp -implicitDefEqProofs (disch := omega) only [VCA, Nat.reduceEqDiff, Nat.reduceAdd, Nat.reduceLT, Nat.reduceLeDiff, ↓reduceIte, fillA, okFill, setAt, exists_eq_right_right, exists_eq_left', h3', h4', h5', h6', h8', h9', h10', gp, g6, eDoc, eEdit, eNode, ec])
        · rename_i q1 q2
          refine ⟨S.upd hr6.2, ?_⟩
          rw [if_pos ((hyes hc).2 (by rw [← q2]; exact chain_self _ _))]
        · rename_i q1 q2
          refine ⟨_, ?_, (nd d c).parent, rfl, ?_, rfl, rfl, S, ?_, ?_⟩
          · rw [if_neg (show ¬ c = -1 by omega)]
            split
            · omega
            · rename_i hp
              have := V.up_par hc (by have := V.par c hc; unfold inD at this; omega)
              omega
          · rcases V.par c hc with h | h
            · exact .inl h
            · exact .inr h.1
          · intro hp
            rw [hyes hc, chain_top V (by omega)]
            simp; exact fun e => q2 e.symm
          · intro hp
            rw [hyes hc, chain_up V hc hp.1]
            simp; exact fun e => absurd e.symm q2
  · rw [if_neg h6]
    have b6 := bI_f h6
    simp -dsimp -implicitDefEqProofs (disch := omega) only [VCA, ↓upd_none, Nat.reduceEqDiff, Nat.reduceAdd, Nat.reduceLT, Nat.reduceLeDiff, ↓reduceIte, setAt, ne_eq, exists_eq_right_right, exists_eq_left', c55, eDoc, eP, eEdit, b3, b5, b6]
    intro r4 hr4 r6 hr6
    have n1 : ¬ r4 = r6 := fun q => hr6.1 q.symm
    have n2 : ¬ r6 = r4 := hr6.1
    repeat' (first | ((with_reducible refine Br.dec (fun _ => ?_) (fun _ => ?_)) <;> try (exfalso; omega)) | ((with_reducible refine Br.eq (fun _ => ?_) (fun _ => ?_)) <;> try (exfalso; omega)) | ((with_reducible refine Br.ne (fun _ => ?_) (fun _ => ?_)) <;> try (exfalso; omega)) | ((with_reducible refine brNdec (fun _ => ?_) (fun _ => ?_)) <;> try (exfalso; omega)) | ((with_reducible refine brNeq (fun _ => ?_) (fun _ => ?_)) <;> try (exfalso; omega)) | with_reducible refine Br.intro (fun _ => ?_) (fun _ => ?_) | (with_reducible refine And.intro ?_ ?_; · omega) | simp -dsimp -implicitDefEqProofs (disch := omega) only [VCA, Nat.reduceAdd, Nat.reduceLT, ↓reduceIte, exists_eq_left', n1])
    all_goals exact ((Sub.refl h).upd hr4).upd hr6.2
end Go.Proofs.K
end
section
/- Documents: what must be in any case; the law of checks. -/
set_option linter.unusedSimpArgs false
set_option linter.unusedVariables false
namespace Go.Proofs.K
open Go Go.Sim Go.Proofs
variable {G : Glob}
end Go.Proofs.K
end
section
/- Edits: the law of DomEdits. -/
set_option linter.unusedSimpArgs false
set_option linter.unusedVariables false
namespace Go.Proofs.K
open Go Go.Sim Go.Proofs
variable {G : Glob}
theorem eEdit_len (e : HEdit) : (eEdit e).length = 12 := rfl
theorem eEdit_take (e : HEdit) : (eEdit e).take 12 = eEdit e := rfl
end Go.Proofs.K
end
