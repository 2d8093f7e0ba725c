/- Texts of this claim, one behind the other. -/
import Derived.Test.YtoolkpnnllfhgaaGreatDoorM6
import Derived.Test.YtoolkpnnllfhgaaGreatDoorM3
section
/- Steps undone: All of nothing gives a document of one's own; the list backward. -/
set_option linter.unusedSimpArgs false
set_option linter.unusedVariables false
namespace Go.Proofs.K
open Go Go.Sim Go.Proofs
variable {G : Glob}
set_option maxHeartbeats 1000000 in
theorem allnil_own (d : HDoc) (sm : DocSm d) (h : Heap) : DCalls (Pg G) 38 [.agg (eDoc d), .emp] h fun a h' =>
    if docE d = 0 then ∃ rN sl, a = .tup [.agg [.osl rN 6 0 d.nodes.length, .bool d.quirks], aInt 0, aInt 0] ∧ Dw [] h h' rN d sl ∧ ∀ k, k < 2 * d.nodes.length → Mut (sl k)
    else a = .tup [.agg [.emp, .bool false], aInt 0, aInt (docE d)] ∧ h' = h := by
  have hC := check_ok (G := G) d sm
  refine dcalls_of_vc Tryz.func38 hn38 hc38 (by rw [Tryz.ntmps38]; simp) (by rw [Tryz.ntmps38]; decide) ?_
  simp -dsimp -implicitDefEqProofs (disch := omega) only [VCA, Nat.reduceEqDiff, ↓reduceIte, c38, eDoc_len, eDoc_take]
  intro r4 hr4
  have S4 : ∀ x, Sim.Sub h (upd h r4 (some x)) := fun x => (Sub.refl h).upd hr4
  by_cases h1 : docE d = 0
  · have V := docE_DV h1
    simp only []
    rw [h1] at hC
    have hOwn := fun hp => own_ok' (G := G) d sm V.pos hp
    repeat' (first | ((with_reducible refine Br.dec (fun _ => ?_) (fun _ => ?_)) <;> try (exfalso; omega)) | ((with_reducible refine Br.eq (fun _ => ?_) (fun _ => ?_)) <;> try (exfalso; omega)) | ((with_reducible refine Br.ne (fun _ => ?_) (fun _ => ?_)) <;> try (exfalso; omega)) | ((with_reducible refine brNdec (fun _ => ?_) (fun _ => ?_)) <;> try (exfalso; omega)) | ((with_reducible refine brNeq (fun _ => ?_) (fun _ => ?_)) <;> try (exfalso; omega)) | with_reducible refine Br.intro (fun _ => ?_) (fun _ => ?_) | (with_reducible apply pcallE.of; · exact hC) | (with_reducible refine And.intro ?_ ?_; · omega) | simp -dsimp -implicitDefEqProofs (disch := omega) only [↓vcOps_sp 16, VCA, Nat.reduceEqDiff, ↓reduceIte, eDoc_len, eDoc_take])
    have hOwn := hOwn (upd h r4 (some ⟨.t 24, 2, [[.emp, .bool false]]⟩))
    generalize hhb : upd h r4 (some ⟨.t 24, 2, [[.emp, .bool false]]⟩) = hb at *
    have gb4 : hb r4 = some ⟨.t 24, 2, [[.emp, .bool false]]⟩ := by rw [← hhb]; exact upd_same _ _ _
    have Sb : Sub h hb := by rw [← hhb]; exact S4 _
    refine DCalls.of hOwn ?_
    rintro a h2 ⟨rN, sl0, rfl, Dw1, M1⟩
    simp -dsimp -implicitDefEqProofs (disch := omega) only [VCA, Nat.reduceEqDiff, Nat.reduceAdd, Nat.reduceLeDiff, ↓reduceIte, fillA, okFill]
    intro re hre
    have E0 := Ed.begin Dw1 M1 hre
    refine LoopVC.intro (fun m e h' => m = 0 ∧ e 4 = .vp r4 0 ∧ e 8 = .vp re 0 ∧ e 30 = aInt 0 ∧ e 31 = aInt 0 ∧ ∃ sl', Ed hb h' re rN d sl' 0) 0 ⟨rfl, rfl, rfl, rfl, rfl, _, E0⟩ ?_
    rintro m e h' ⟨rfl, e4, e8, e30, e31, sl', E⟩
    have g4 := E.dw.sub _ _ gb4
    have gE := E.ed
    repeat' (first | ((with_reducible refine Br.dec (fun _ => ?_) (fun _ => ?_)) <;> try (exfalso; omega)) | ((with_reducible refine Br.eq (fun _ => ?_) (fun _ => ?_)) <;> try (exfalso; omega)) | ((with_reducible refine Br.ne (fun _ => ?_) (fun _ => ?_)) <;> try (exfalso; omega)) | ((with_reducible refine brNdec (fun _ => ?_) (fun _ => ?_)) <;> try (exfalso; omega)) | ((with_reducible refine brNeq (fun _ => ?_) (fun _ => ?_)) <;> try (exfalso; omega)) | with_reducible refine Br.intro (fun _ => ?_) (fun _ => ?_) | (with_reducible refine And.intro ?_ ?_; · omega) | simp -dsimp -implicitDefEqProofs (disch := omega) only [VCA, Nat.reduceEqDiff, Nat.reduceAdd, Nat.reduceLT, Nat.reduceLeDiff, ↓reduceIte, setAt, exists_eq_left', e4, e8, e30, e31, g4, gE])
    have nre : r4 ∉ [re] := fun h => by
      have h : r4 = re := by simpa using h
      have := E.new
      rw [← h, gb4] at this; cases this
    refine ⟨_, Sub.refl _, ?_⟩
    rw [if_pos h1]
    exact ⟨rN, sl', rfl, (E.dw.beside Sb gb4 hr4 nre _).less (fun x hx => by cases hx), fun k hk => E.live k hk⟩
  · simp only []
    repeat' (first | ((with_reducible refine Br.dec (fun _ => ?_) (fun _ => ?_)) <;> try (exfalso; omega)) | ((with_reducible refine Br.eq (fun _ => ?_) (fun _ => ?_)) <;> try (exfalso; omega)) | ((with_reducible refine Br.ne (fun _ => ?_) (fun _ => ?_)) <;> try (exfalso; omega)) | ((with_reducible refine brNdec (fun _ => ?_) (fun _ => ?_)) <;> try (exfalso; omega)) | ((with_reducible refine brNeq (fun _ => ?_) (fun _ => ?_)) <;> try (exfalso; omega)) | with_reducible refine Br.intro (fun _ => ?_) (fun _ => ?_) | (with_reducible apply pcallE.of; · exact hC) | (with_reducible refine And.intro ?_ ?_; · omega) | simp -dsimp -implicitDefEqProofs (disch := omega) only [↓vcOps_sp 16, VCA, Nat.reduceEqDiff, Nat.reduceAdd, Nat.reduceLT, ↓reduceIte, fillA, okFill, setAt, exists_eq_right_right, exists_eq_left', h1])
    exact S4 _
end Go.Proofs.K
end
section
/- Steps undone: a list of steps backward. -/
set_option linter.unusedSimpArgs false
set_option linter.unusedVariables false
namespace Go.Proofs.K
open Go Go.Sim Go.Proofs
variable {G : Glob}
theorem datA' (l : List HAttr) : Dat (sl eAttr l) := .slc _ fun e he c hc => by
  obtain ⟨x, _, rfl⟩ := List.mem_map.1 he
  simp only [eAttr, List.mem_cons, List.mem_nil_iff, or_false] at hc
  rcases hc with rfl | rfl <;> constructor
theorem datI' (l : List Int) : Dat (sl eInt l) := .slc _ fun e he c hc => by
  obtain ⟨x, _, rfl⟩ := List.mem_map.1 he
  simp only [eInt, List.mem_cons, List.mem_nil_iff, or_false] at hc
  subst hc; constructor
theorem datS (s : HStep) : ∀ c ∈ eStep s, Dat c := fun c hc => by
  simp only [eStep, List.mem_cons, List.mem_nil_iff, or_false] at hc
  rcases hc with rfl | rfl | rfl | rfl | rfl | rfl | rfl | rfl | rfl | rfl | rfl | rfl | rfl | rfl | rfl | rfl <;> first | exact datA' _ | exact datI' _ | constructor
theorem datSs (l : List HStep) : Dat (sl eStep l) := .slc _ fun e he c hc => by
  obtain ⟨x, _, rfl⟩ := List.mem_map.1 he
  exact datS x c hc
/-- the places and the steps, from a place down -/
def bkM (l : List HStep) : (k : Nat) → k ≤ l.length → List (Nat × { s : HStep // s ∈ l })
  | 0, _ => []
  | k + 1, h => (k, ⟨nth l k, nth_mem' h⟩) :: bkM l k (by omega)
theorem bkM_map (l : List HStep) : ∀ (k : Nat) (h : k ≤ l.length), (bkM l k h).map (·.2.1) = (l.take k).reverse
  | 0, _ => by simp [bkM]
  | k + 1, h => by
    rw [bkM, List.map_cons, bkM_map l k]
    have : l.take (k + 1) = l.take k ++ [nth l k] := by
      have e : nth l k = l[k] := by unfold nth; rw [List.getD_eq_getElem?_getD, List.getElem?_eq_getElem h]; rfl
      rw [e, List.take_succ_eq_append_getElem h]
    rw [this, List.reverse_append]; rfl
def eBk {l : List HStep} (x : Nat × { s : HStep // s ∈ l }) : List AVal := [aInt x.1, .agg (eStep x.2.1)]
def c82 : ICode := (.seq (.reg [(.op ⟨(some 4), (.ld 1 false (.t 1)), none⟩), (.op ⟨(some 5), (.len (.t 4)), none⟩), (.op ⟨(some 6), (.bin .sub (.t 5) (.c (.int .i64 (1)))), none⟩), (.op ⟨(some 3), (.mv (.t 6)), none⟩)]) (.block 0 (.loop (.seq (.seq (.reg [(.op ⟨(some 7), (.mv (.t 3)), none⟩), (.op ⟨(some 8), (.bin .geq (.t 7) (.c (.int .i64 (0)))), none⟩)]) (.cond (.t 8) .skip (.exit 0))) (.seq (.block 1 (.seq (.reg [(.op ⟨(some 11), (.mv (.t 0)), none⟩), (.op ⟨(some 12), (.mv (.t 3)), none⟩), (.op ⟨(some 13), (.ld 1 false (.t 1)), none⟩), (.op ⟨(some 14), (.mv (.t 3)), none⟩), (.op ⟨(some 15), (.idxA 16 (.t 13) (.t 14)), none⟩), (.op ⟨(some 16), (.ld 16 true (.t 15)), none⟩), (.yld (some 17) (.t 11) [(.t 12), (.t 16)]), (.op ⟨(some 18), (.un .not (.t 17)), none⟩)]) (.cond (.t 18) .ret .skip))) (.reg [(.op ⟨(some 9), (.mv (.t 3)), none⟩), (.op ⟨(some 10), (.bin .sub (.t 9) (.c (.int .i64 (1)))), none⟩), (.op ⟨(some 3), (.mv (.t 10)), none⟩)]))))))
theorem hc82 : toIF Tryz.prog {} 2 Tryz.f82 = some c82 := by kernel_rfl
theorem hn82 : (Tryz.f82.name == "runtime.NumGoroutine") = false := by kernel_rfl
set_option maxRecDepth 10000 in
theorem backward1_it (l : List HStep) (hl : l.length ≤ 1073741824) : IterV (Pg G) 82 [.pin [sl eStep l]] eBk (bkM l l.length (Nat.le_refl _)) (l.length + 1) := by
  refine iterV_of_itv Tryz.func82 hn82 hc82 (by rw [Tryz.ntmps82]; simp) (by rw [Tryz.ntmps82]; decide) ?_ ?_ ?_
  · intro c hc
    simp at hc; subst hc
    exact .pin _ (fun c hc => by simp at hc; subst hc; exact datSs l)
  · intro x y hy
    simp only [eBk, List.mem_cons, List.mem_nil_iff, or_false] at hy
    rcases hy with rfl | rfl
    · exact .inl (.int _ _)
    · exact .inr ⟨rfl, .agg _ fun c hc => datS _ c hc⟩
  · intro r
    simp -dsimp -implicitDefEqProofs (disch := omega) only [VCA, Nat.reduceAdd, ↓reduceIte, IT1, IT2, c82]
    refine itLoop.intro (fun m b p e => ∃ (i : Nat) (h : i ≤ l.length), m = i ∧ b = false ∧ p.length = l.length - i ∧ p ++ bkM l i h = bkM l l.length (Nat.le_refl _) ∧ e 0 = .prim (.func (.yield r) #[] #[]) ∧ e 1 = .pin [sl eStep l] ∧ e 3 = aInt ((i : Int) - 1)) l.length ⟨l.length, Nat.le_refl _, rfl, rfl, by simp, rfl, rfl, rfl, rfl⟩ ?_
    rintro i b p e ⟨_, hi, rfl, rfl, hp, hP, he0, he1, he3⟩
    simp -dsimp -implicitDefEqProofs (disch := omega) only [VCA, ↓reduceIte, IT1, IT2, he3]
    refine Br.dec (fun hlt => ?_) (fun hge => ?_)
    · obtain ⟨j, rfl⟩ : ∃ j, i = j + 1 := ⟨i - 1, by omega⟩
      have ej : ((j + 1 : Nat) : Int) - 1 = j := by omega
      rw [ej] at he3
      simp -dsimp -implicitDefEqProofs (disch := omega) only [VCA, Nat.reduceEqDiff, ↓reduceIte, reduceCtorEq, IT1, IT2, IT3, aft_lo, aft_hi, he0, he1, he3]
      rw [bkM] at hP
      refine ⟨by omega, by rw [eStep_len]; omega, by omega, (j, ⟨nth l j, nth_mem' hi⟩), rfl, ⟨j, by omega, j, by omega, rfl, by rw [List.length_append, hp]; simp; omega, by rw [← hP]; simp, rfl⟩, ⟨bkM l j (by omega), by rw [← hP]; simp⟩⟩
    · obtain rfl : i = 0 := by omega
      simp -dsimp -implicitDefEqProofs (disch := omega) only [VCA, ↓reduceIte, IT1, IT2, IT3]
      rw [bkM, List.append_nil] at hP
      exact hP
def c45 : SFun := ⟨(.seq (.reg [⟨(some 1), (.boxF 27 1 (.t 0)), none⟩, ⟨(some 2), (.mv (.c (.prim .nilFunc))), none⟩]) (.seq (.reg [⟨(some 3), (.mkf 82 [] [(.t 1)]), none⟩, ⟨(some 2), (.mv (.t 3)), none⟩]) .ret)), [(.tmp 2)]⟩
theorem hc45 : toSF Tryz.prog {} Tryz.f45 = some c45 := by kernel_rfl
theorem hn45 : (Tryz.f45.name == "runtime.NumGoroutine") = false := by kernel_rfl
theorem backward_ok (l : List HStep) : PCalls (Pg G) 45 [sl eStep l] (.fn 82 [] [.pin [sl eStep l]]) := fun h => by
  refine dcalls_of_vc Tryz.func45 hn45 hc45 (by rw [Tryz.ntmps45]; simp) (by rw [Tryz.ntmps45]; decide) ?_
  simp -dsimp -implicitDefEqProofs (disch := omega) only [VCA, Nat.reduceEqDiff, ↓reduceIte, exists_eq_right, c45]
  exact Sub.refl _
end Go.Proofs.K
end
section
/- Steps undone: Undo. -/
set_option linter.unusedSimpArgs false
set_option linter.unusedVariables false
namespace Go.Proofs.K
open Go Go.Sim Go.Proofs
variable {G : Glob}
/-- undoing a step, as the program has it -/
def UndoneOK (G : Glob) (s : HStep) : Prop := ∀ {h0 h : Heap} {re rN : Nat} {d : HDoc} {n : Nat} {sl : Nat → AVal} {k : Nat}, Un h0 h re rN d n sl → USm k (headD d n) → k ≤ 1000 → DCalls (Pg G) 46 [.vp re 0, .agg (eStep s)] h (UnR h0 h re (headD d n) s)
def c46 : SFun := ⟨(.seq (.reg [⟨(some 3), (.boxF 44 16 (.t 1)), none⟩, ⟨(some 4), (.mv (.c (.bool false))), none⟩]) (.seq (.seq (.reg [⟨(some 5), (.fldA 0 (.t 3)), none⟩, ⟨(some 6), (.fldA 0 (.t 5)), none⟩, ⟨(some 7), (.ld 1 false (.t 6)), none⟩]) (.block 0 (.seq (.reg [⟨(some 9), (.bin .eql (.t 7) (.c (.int .i64 (1)))), none⟩, ⟨(some 8), (.mv (.t 9)), none⟩]) (.cond (.t 8) (.seq (.reg [⟨(some 10), (.mv (.t 0)), none⟩, ⟨(some 11), (.ld 16 true (.t 3)), none⟩, ⟨(some 12), (.call (.c (.fn 83 [] [])) [(.t 10), (.t 11)]), none⟩, ⟨(some 4), (.mv (.t 12)), none⟩]) .ret) (.seq (.reg [⟨(some 14), (.bin .eql (.t 7) (.c (.int .i64 (2)))), none⟩, ⟨(some 13), (.mv (.t 14)), none⟩]) (.cond (.t 13) (.seq (.reg [⟨(some 15), (.mv (.t 0)), none⟩, ⟨(some 16), (.ld 16 true (.t 3)), none⟩, ⟨(some 17), (.call (.c (.fn 84 [] [])) [(.t 15), (.t 16)]), none⟩, ⟨(some 4), (.mv (.t 17)), none⟩]) .ret) (.seq (.reg [⟨(some 19), (.bin .eql (.t 7) (.c (.int .i64 (3)))), none⟩, ⟨(some 18), (.mv (.t 19)), none⟩]) (.cond (.t 18) (.seq (.reg [⟨(some 20), (.mv (.t 0)), none⟩, ⟨(some 21), (.ld 16 true (.t 3)), none⟩, ⟨(some 22), (.call (.c (.fn 85 [] [])) [(.t 20), (.t 21)]), none⟩, ⟨(some 4), (.mv (.t 22)), none⟩]) .ret) (.seq (.reg [⟨(some 24), (.bin .eql (.t 7) (.c (.int .i64 (4)))), none⟩, ⟨(some 23), (.mv (.t 24)), none⟩]) (.cond (.t 23) (.seq (.reg [⟨(some 25), (.mv (.t 0)), none⟩, ⟨(some 26), (.ld 16 true (.t 3)), none⟩, ⟨(some 27), (.call (.c (.fn 86 [] [])) [(.t 25), (.t 26)]), none⟩, ⟨(some 4), (.mv (.t 27)), none⟩]) .ret) (.seq (.reg [⟨(some 29), (.bin .eql (.t 7) (.c (.int .i64 (5)))), none⟩, ⟨(some 28), (.mv (.t 29)), none⟩]) (.cond (.t 28) (.seq (.reg [⟨(some 30), (.mv (.t 0)), none⟩, ⟨(some 31), (.ld 16 true (.t 3)), none⟩, ⟨(some 32), (.call (.c (.fn 87 [] [])) [(.t 30), (.t 31)]), none⟩, ⟨(some 4), (.mv (.t 32)), none⟩]) .ret) (.seq (.reg [⟨(some 34), (.bin .eql (.t 7) (.c (.int .i64 (6)))), none⟩, ⟨(some 33), (.mv (.t 34)), none⟩]) (.cond (.t 33) (.seq (.reg [⟨(some 35), (.mv (.t 0)), none⟩, ⟨(some 36), (.ld 16 true (.t 3)), none⟩, ⟨(some 37), (.call (.c (.fn 88 [] [])) [(.t 35), (.t 36)]), none⟩, ⟨(some 4), (.mv (.t 37)), none⟩]) .ret) .skip)))))))))))))) (.seq (.reg [⟨(some 4), (.mv (.c (.bool false))), none⟩]) .ret))), [(.tmp 4)]⟩
theorem hc46 : toSF Tryz.prog {} Tryz.f46 = some c46 := by kernel_rfl
theorem hn46 : (Tryz.f46.name == "runtime.NumGoroutine") = false := by kernel_rfl
theorem undone_text (s : HStep) (hs : StepSm s) (h3 : s.edit.do' = 3) : UndoneOK G s := fun {h0 h re rN d n sl k} E U hk => by
  have hn : n ≤ 100000 := by have := U.len; rw [headD_len E.le] at this; omega
  have hT := utext_ok (G := G) E hn s hs h3
  have b1 : (s.edit.do' == 1) = false := by simp [h3]
  have b2 : (s.edit.do' == 2) = false := by simp [h3]
  have b3 : (s.edit.do' == 3) = true := by simp [h3]
  refine dcalls_of_vc Tryz.func46 hn46 hc46 (by rw [Tryz.ntmps46]; simp) (by rw [Tryz.ntmps46]; decide) ?_
  unfold eStep at *
  simp -dsimp -implicitDefEqProofs (disch := omega) only [VCA, Nat.reduceEqDiff, Nat.reduceAdd, Nat.reduceLeDiff, ↓reduceIte, reduceCtorEq, c46, b1, b2, b3]
  refine DCalls.of hT ?_
  intro r h' hR
  simp -dsimp -implicitDefEqProofs (disch := omega) only [VCA, ↓reduceIte]
  exact ⟨_, Sub.refl _, hR⟩
theorem backM_app : ∀ (p : List HStep) (d : HDoc) (s : HStep), backM d (p ++ [s]) = match backM d p with | none => none | some D => if fitM D s then some (undoD D s) else none
  | [], d, s => by
    simp only [List.nil_append, backM]
  | x :: p, d, s => by
    simp only [List.cons_append, backM]
    split
    · exact backM_app p _ s
    · rfl
theorem backM_none : ∀ (p q : List HStep) (d : HDoc), backM d p = none → backM d (p ++ q) = none
  | [], q, d, h => by cases h
  | x :: p, q, d, h => by
    simp only [List.cons_append, backM] at h ⊢
    split
    · rename_i hf; rw [if_pos hf] at h; exact backM_none p q _ h
    · rfl
/-- what is said of an undoer holds without new maps, too -/
theorem Un.strp {h0 h h1 h2 : Heap} {re rN : Nat} {d : HDoc} {n : Nat} {sl : Nat → AVal} (E : Un h0 h1 re rN d n sl) (S : Sub h0 h) (hk : ∀ r o, h1 r = some o → o.ty.isM = false ∨ h r = some o → h2 r = some o) : Un h0 h2 re rN d n sl := by
  have ow : ∀ {ty sz : Nat} {cells : List (List AVal)} {a : AVal}, OwnS h1 ty sz cells a → OwnS h2 ty sz cells a := fun O => by
    rcases O with O | O | ⟨r, es, ha, hr, q1, q2⟩
    · exact .inl O
    · exact .inr (.inl O)
    · exact .inr (.inr ⟨r, es, ha, hk r _ hr (.inl rfl), q1, q2⟩)
  refine ⟨⟨fun r o hr => hk r o (E.dw.sub r o hr) (.inr (S r o hr)), hk _ _ E.dw.nodes (.inl rfl), E.dw.new, fun i hi => ⟨ow (E.dw.own i hi).1, ow (E.dw.own i hi).2⟩, E.dw.fresh, E.dw.sep, fun r hr => ?_⟩, hk _ _ E.un (.inl rfl), E.new, E.live, E.le⟩
  simp at hr; subst hr; exact ⟨_, hk _ _ E.un (.inl rfl)⟩
/-- the first nodes, lent to a reader -/
theorem Dw.vwH {X : List Nat} {h0 h : Heap} {rN : Nat} {d : HDoc} {n : Nat} {sl' : Nat → AVal} (E : Dw X h0 h rN d sl') (le : n ≤ d.nodes.length) : Vw h (.osl rN 6 0 n) (sl eNode (headD d n).nodes) := by
  have key : ∀ (i : Nat), i < d.nodes.length → F2 (Vw h) (rowA (nth d.nodes i) (sl' (2 * i)) (sl' (2 * i + 1))) (eNode (nth d.nodes i)) := fun i hi => by
    obtain ⟨g1, g2⟩ := E.own i hi
    exact .cons (.refl _) (.cons (.refl _) (.cons g1.vw (.cons (.refl _) (.cons (.refl _) (.cons g2.vw .nil)))))
  have e1 : (rowsA d sl').take n = (List.range n).map fun i => rowA (nth d.nodes i) (sl' (2 * i)) (sl' (2 * i + 1)) := by unfold rowsA; rw [← List.map_take, List.take_range, Nat.min_eq_left le]
  have e2 : (headD d n).nodes.map eNode = (List.range n).map fun i => eNode (nth d.nodes i) := by
    apply List.ext_getElem?
    intro j
    have hl := headD_len le
    by_cases hj : j < n
    · rw [List.getElem?_map, List.getElem?_map, List.getElem?_range hj, nth_some (by omega), Option.map_some, Option.map_some]
      show some (eNode (nth (d.nodes.take n) j)) = _
      rw [nth_take' hj]
    · rw [List.getElem?_eq_none (by simp; omega), List.getElem?_eq_none (by simp; omega)]
  have gen : ∀ l : List Nat, (∀ i ∈ l, i < d.nodes.length) → F2 (F2 (Vw h)) (l.map fun i => rowA (nth d.nodes i) (sl' (2 * i)) (sl' (2 * i + 1))) (l.map fun i => eNode (nth d.nodes i)) := fun l => by
    induction l with
    | nil => intro _; exact .nil
    | cons i l ih => intro hl; exact .cons (key i (hl i List.mem_cons_self)) (ih fun j hj => hl j (List.mem_cons_of_mem _ hj))
  refine Vw.osl0 E.nodes (by rw [List.length_map, headD_len le]) (by rw [rowsA_len]; exact le) (fun f hf => by obtain ⟨x, _, rfl⟩ := List.mem_map.1 hf; rfl) ?_
  show F2 (F2 (Vw h)) ((rowsA d sl').take n) ((headD d n).nodes.map eNode)
  rw [e1, e2]
  exact gen _ fun i hi => by have := List.mem_range.1 hi; omega
theorem Dw.baseAdd {X : List Nat} {h0 h : Heap} {rN : Nat} {d : HDoc} {sl' : Nat → AVal} (E : Dw X h0 h rN d sl') {r : Nat} (hr : h r = none) (o : AObj) : Dw X (upd h0 r (some o)) (upd h r (some o)) rN d sl' := by
  have ne : ∀ t ob, h t = some ob → t ≠ r := fun t ob ht e => by rw [e, hr] at ht; cases ht
  refine ⟨fun t ob ht => ?_, by rw [upd_ne _ _ (ne _ _ E.nodes)]; exact E.nodes, ⟨by rw [upd_ne _ _ (ne _ _ E.nodes)]; exact E.new.1, E.new.2⟩, fun i hi => ?_, fun k hk t ht => ?_, E.sep, fun t ht => ?_⟩
  · by_cases e : t = r
    · subst e; rw [upd_same] at ht ⊢; exact ht
    · rw [upd_ne _ _ e] at ht ⊢; exact E.sub t ob ht
  · obtain ⟨g1, g2⟩ := E.own i hi
    exact ⟨g1.keep fun t ob _ ho => by rw [upd_ne _ _ (ne t ob ho)]; exact ho, g2.keep fun t ob _ ho => by rw [upd_ne _ _ (ne t ob ho)]; exact ho⟩
  · obtain ⟨ob, ho⟩ := E.slot hk ht
    exact ⟨by rw [upd_ne _ _ (ne t ob ho)]; exact (E.fresh k hk t ht).1, (E.fresh k hk t ht).2⟩
  · obtain ⟨ob, ho⟩ := E.keep t ht
    exact ⟨ob, by rw [upd_ne _ _ (ne t ob ho)]; exact ho⟩
theorem Un.aside {h0 h : Heap} {re rN : Nat} {d : HDoc} {n : Nat} {sl' : Nat → AVal} (E : Un h0 h re rN d n sl') {r : Nat} (hr : h r = none) (o : AObj) : Un h0 (upd h r (some o)) re rN d n sl' :=
  ⟨(E.dw.more hr o).less (fun x hx => by simp at hx; subst hx; simp), by rw [upd_ne _ _ (fun e => by have := E.un; rw [e, hr] at this; cases this)]; exact E.un, E.new, E.live, E.le⟩
def undoV (d : HDoc) (l : List HStep) : AVal := .tup [.agg (eDoc (undoR d l)), aInt (undoE d l)]
def c16 : SFun := ⟨(.seq (.reg [⟨(some 2), (.boxF 24 2 (.t 0)), none⟩, ⟨(some 4), (.new 24 2 [.emp, (.bool false)]), none⟩, ⟨(some 5), (.new 28 1 [(.int .i64 (0))]), none⟩]) (.seq (.reg [⟨(some 13), (.ld 2 true (.t 2)), none⟩, ⟨(some 14), (.call (.c (.fn 38 [] [])) [(.t 13), (.c .emp)]), none⟩, ⟨(some 12), (.mv (.t 14)), none⟩, ⟨(some 15), (.ext (.t 12) 0), none⟩, ⟨(some 16), (.ext (.t 12) 1), none⟩, ⟨(some 17), (.ext (.t 12) 2), none⟩, ⟨(some 6), (.new 24 2 [.emp, (.bool false)]), none⟩, ⟨none, (.st 2 (.t 6) (.t 15)), none⟩, ⟨(some 7), (.mv (.t 16)), none⟩, ⟨(some 8), (.mv (.t 17)), none⟩]) (.seq (.seq (.reg [⟨(some 18), (.mv (.t 8)), none⟩, ⟨(some 19), (.bin .eql (.t 18) (.c (.int .i64 (0)))), none⟩, ⟨(some 20), (.mv (.t 19)), none⟩, ⟨(some 21), (.mv (.t 1)), (some (20, true))⟩, ⟨(some 22), (.len (.t 21)), (some (20, true))⟩, ⟨(some 23), (.bin .gtr (.t 22) (.c (.int .i64 (40)))), (some (20, true))⟩, ⟨(some 24), (.pick (.t 20) (.t 23) (.c (.bool false))), none⟩]) (.cond (.t 24) (.reg [⟨(some 8), (.mv (.c (.int .i64 (2)))), none⟩]) .skip)) (.seq (.seq (.reg [⟨(some 25), (.mv (.t 8)), none⟩, ⟨(some 26), (.bin .neq (.t 25) (.c (.int .i64 (0)))), none⟩]) (.cond (.t 26) (.seq (.reg [⟨(some 27), (.bld [.emp, (.bool false)] []), none⟩, ⟨(some 28), (.mv (.t 8)), none⟩, ⟨none, (.st 2 (.t 4) (.t 27)), none⟩, ⟨none, (.st 1 (.t 5) (.t 28)), none⟩]) .ret) .skip)) (.seq (.reg [⟨(some 29), (.ld 2 true (.t 6)), none⟩, ⟨(some 30), (.bld [.emp, (.bool false)] [(0, (2, (.t 29)))]), none⟩, ⟨(some 31), (.box 79 2 (.t 30)), none⟩, ⟨(some 9), (.new 77 1 [(.prim (Value.pointer none))]), none⟩, ⟨none, (.st 1 (.t 9) (.t 31)), none⟩]) (.seq (.seq (.reg [⟨(some 32), (.mv (.t 1)), none⟩, ⟨(some 33), (.pcall 45 [(.t 32)]), none⟩]) (.block 0 (.range (.t 33) [34, 35] (.reg [⟨(some 11), (.new 44 16 [(.int .i64 (0)), (.int .i64 (0)), (.int .i64 (0)), (.int .i64 (0)), (.str []), (.str []), (.int .i64 (0)), (.str []), .emp, (.str []), (.int .i64 (0)), .emp, (.bool false), (.str []), (.int .i64 (0)), (.int .i64 (0))]), none⟩, ⟨none, (.st 16 (.t 11) (.t 35)), none⟩]) (.block 1 (.seq (.reg [⟨(some 36), (.ld 1 false (.t 9)), none⟩, ⟨(some 37), (.ld 16 true (.t 11)), none⟩, ⟨(some 38), (.call (.c (.fn 46 [] [])) [(.t 36), (.t 37)]), none⟩, ⟨(some 39), (.un .not (.t 38)), none⟩]) (.cond (.t 39) (.seq (.reg [⟨(some 40), (.bld [.emp, (.bool false)] []), none⟩, ⟨none, (.st 2 (.t 4) (.t 40)), none⟩, ⟨none, (.st 1 (.t 5) (.c (.int .i64 (9)))), none⟩]) .ret) .skip)))))) (.seq (.seq (.reg [⟨(some 41), (.ld 1 false (.t 9)), none⟩, ⟨(some 42), (.fldA 0 (.t 41)), none⟩, ⟨(some 43), (.fldA 0 (.t 42)), none⟩, ⟨(some 44), (.ld 2 true (.t 43)), none⟩, ⟨(some 45), (.call (.c (.fn 47 [] [])) [(.t 44)]), none⟩, ⟨(some 46), (.bin .neq (.t 45) (.c (.int .i64 (0)))), none⟩]) (.cond (.t 46) (.seq (.reg [⟨(some 47), (.bld [.emp, (.bool false)] []), none⟩, ⟨none, (.st 2 (.t 4) (.t 47)), none⟩, ⟨none, (.st 1 (.t 5) (.c (.int .i64 (9)))), none⟩]) .ret) .skip)) (.seq (.reg [⟨(some 48), (.ld 1 false (.t 9)), none⟩, ⟨(some 49), (.fldA 0 (.t 48)), none⟩, ⟨(some 50), (.fldA 0 (.t 49)), none⟩, ⟨(some 51), (.ld 2 true (.t 50)), none⟩, ⟨none, (.st 2 (.t 4) (.t 51)), none⟩, ⟨none, (.st 1 (.t 5) (.c (.int .i64 (0)))), none⟩]) .ret)))))))), [(.cell 4 2 true), (.cell 5 1 false)]⟩
theorem hc16 : toSF Tryz.prog {pure := [45], how := [(31, 6)]} Tryz.f16 = some c16 := by kernel_rfl
theorem hn16 : (Tryz.f16.name == "runtime.NumGoroutine") = false := by kernel_rfl
set_option maxHeartbeats 1000000 in
set_option maxRecDepth 10000 in
theorem undo_ok_of (d : HDoc) (sm : DocSm d) (l : List HStep) (hl : ∀ s ∈ l, StepSm s) (ll : l.length ≤ 1073741824) (hU : ∀ s ∈ l, UndoneOK G s) : PCalls (Pg G) 16 [.agg (eDoc d), sl eStep l] (undoV d l) := PCalls.outV fun h => by
  unfold undoV
  refine dcalls_of_vc Tryz.func16 hn16 hc16 (by rw [Tryz.ntmps16]; simp) (by rw [Tryz.ntmps16]; decide) ?_
  simp -dsimp -implicitDefEqProofs (disch := omega) only [VCA, ↓upd_none, Nat.reduceEqDiff, ↓reduceIte, ne_eq, c16, eDoc_len, eDoc_take]
  intro r4 hr4 r5 hr5
  have n1 : ¬ r4 = r5 := fun q => hr5.1 q.symm
  have n2 : ¬ r5 = r4 := hr5.1
  generalize hhb : upd (upd h r4 (some ⟨.t 24, 2, [[.emp, .bool false]]⟩)) r5 (some ⟨.t 28, 1, [[.int .i64 0]]⟩) = hb
  have gb4 : hb r4 = some ⟨.t 24, 2, [[.emp, .bool false]]⟩ := by rw [← hhb, upd_ne _ _ n1, upd_same]
  have gb5 : hb r5 = some ⟨.t 28, 1, [[.int .i64 0]]⟩ := by rw [← hhb, upd_same]
  have Sb : Sub h hb := by rw [← hhb]; exact ((Sub.refl h).upd hr4).upd hr5.2
  by_cases h0 : docE d = 0
  · refine DCalls.of (allnil_own d sm hb) ?_
    intro a h2 hK
    rw [if_pos h0] at hK
    obtain ⟨rN, sl', rfl, D1, M1⟩ := hK
    have g4 := D1.sub _ _ gb4
    have g5 := D1.sub _ _ gb5
    have V := docE_DV h0
    by_cases h40 : 40 < l.length
    · have uE : undoE d l = 2 := by unfold undoE; rw [if_neg (by simpa using h0), if_pos h40]
      have uR : undoR d l = noDoc := by unfold undoR; rw [uE]; rfl
      rw [uE, uR]
      have S2 := Sb.trans D1.sub
      repeat' (first | ((with_reducible refine Br.dec (fun _ => ?_) (fun _ => ?_)) <;> try (exfalso; omega)) | ((with_reducible refine Br.eq (fun _ => ?_) (fun _ => ?_)) <;> try (exfalso; omega)) | ((with_reducible refine Br.ne (fun _ => ?_) (fun _ => ?_)) <;> try (exfalso; omega)) | ((with_reducible refine brNdec (fun _ => ?_) (fun _ => ?_)) <;> try (exfalso; omega)) | ((with_reducible refine brNeq (fun _ => ?_) (fun _ => ?_)) <;> try (exfalso; omega)) | with_reducible refine Br.intro (fun _ => ?_) (fun _ => ?_) | (with_reducible refine And.intro ?_ ?_; · omega) | simp -dsimp -implicitDefEqProofs (disch := omega) only [↓vcOps_sp 20, VCA, Nat.reduceEqDiff, Nat.reduceAdd, Nat.reduceLT, ↓reduceIte, setAt, exists_eq_left'])
      intro r6 hr6
      have n3 : ¬ r4 = r6 := fun q => by rw [← q, g4] at hr6; cases hr6
      have n4 : ¬ r5 = r6 := fun q => by rw [← q, g5] at hr6; cases hr6
      have n5 : ¬ r6 = r4 := fun q => n3 q.symm
      have n6 : ¬ r6 = r5 := fun q => n4 q.symm
      repeat' (first | ((with_reducible refine Br.dec (fun _ => ?_) (fun _ => ?_)) <;> try (exfalso; omega)) | ((with_reducible refine Br.eq (fun _ => ?_) (fun _ => ?_)) <;> try (exfalso; omega)) | ((with_reducible refine Br.ne (fun _ => ?_) (fun _ => ?_)) <;> try (exfalso; omega)) | ((with_reducible refine brNdec (fun _ => ?_) (fun _ => ?_)) <;> try (exfalso; omega)) | ((with_reducible refine brNeq (fun _ => ?_) (fun _ => ?_)) <;> try (exfalso; omega)) | with_reducible refine Br.intro (fun _ => ?_) (fun _ => ?_) | (with_reducible refine And.intro ?_ ?_; · omega) | simp -dsimp -implicitDefEqProofs (disch := omega) only [VCA, Nat.reduceEqDiff, Nat.reduceAdd, Nat.reduceLT, ↓reduceIte, fillA, okFill, setAt, exists_eq_left', g4, g5, n1, n2, n3, n4])
      all_goals first | (exfalso; omega) | exact ⟨_, Sub.refl _, ((S2.upd (S2.none hr6)).upd hr4).upd hr5.2, .tup' (.cons (vw_noDoc _) (.cons (.refl _) .nil))⟩ | trace_state
    · repeat' (first | ((with_reducible refine Br.dec (fun _ => ?_) (fun _ => ?_)) <;> try (exfalso; omega)) | ((with_reducible refine Br.eq (fun _ => ?_) (fun _ => ?_)) <;> try (exfalso; omega)) | ((with_reducible refine Br.ne (fun _ => ?_) (fun _ => ?_)) <;> try (exfalso; omega)) | ((with_reducible refine brNdec (fun _ => ?_) (fun _ => ?_)) <;> try (exfalso; omega)) | ((with_reducible refine brNeq (fun _ => ?_) (fun _ => ?_)) <;> try (exfalso; omega)) | with_reducible refine Br.intro (fun _ => ?_) (fun _ => ?_) | (with_reducible refine And.intro ?_ ?_; · omega) | simp -dsimp -implicitDefEqProofs (disch := omega) only [↓vcOps_sp 20, VCA, Nat.reduceEqDiff, Nat.reduceAdd, Nat.reduceLT, ↓reduceIte, setAt, exists_eq_left'])
      intro r6 hr6
      have n3 : ¬ r4 = r6 := fun q => by rw [← q, g4] at hr6; cases hr6
      have n4 : ¬ r5 = r6 := fun q => by rw [← q, g5] at hr6; cases hr6
      have n5 : ¬ r6 = r4 := fun q => n3 q.symm
      have n6 : ¬ r6 = r5 := fun q => n4 q.symm
      have b40 : decide ((40 : Int) < l.length) = false := decide_eq_false (by omega)
      repeat' (first | ((with_reducible refine Br.dec (fun _ => ?_) (fun _ => ?_)) <;> try (exfalso; omega)) | ((with_reducible refine Br.eq (fun _ => ?_) (fun _ => ?_)) <;> try (exfalso; omega)) | ((with_reducible refine Br.ne (fun _ => ?_) (fun _ => ?_)) <;> try (exfalso; omega)) | ((with_reducible refine brNdec (fun _ => ?_) (fun _ => ?_)) <;> try (exfalso; omega)) | ((with_reducible refine brNeq (fun _ => ?_) (fun _ => ?_)) <;> try (exfalso; omega)) | with_reducible refine Br.intro (fun _ => ?_) (fun _ => ?_) | (with_reducible refine And.intro ?_ ?_; · omega) | simp -dsimp -implicitDefEqProofs (disch := omega) only [VCA, ↓upd_none, Nat.reduceEqDiff, Nat.reduceAdd, Nat.reduceLT, ↓reduceIte, fillA, okFill, setAt, ne_eq, exists_eq_left', b40])
      all_goals try (exfalso; omega)
      intro re hre r9 hr9
      have E1 := D1.baseAdd hr6 ⟨.t 24, 2, [[.osl rN 6 0 d.nodes.length, .bool d.quirks]]⟩
      have E2 := E1.more (r := re) (by rw [upd_ne _ _ hre.1]; exact hre.2) ⟨.t 79, 2, [[.osl rN 6 0 d.nodes.length, .bool d.quirks]]⟩
      have E3 := E2.baseAdd (r := r9) (by rw [upd_ne _ _ hr9.1, upd_ne _ _ hr9.2.1]; exact hr9.2.2) ⟨.t 77, 1, [[.vp re 0]]⟩
      have U0 : Un _ _ re rN d d.nodes.length sl' := ⟨E3, by rw [upd_ne _ _ (fun q => hr9.1 q.symm), upd_same], by rw [upd_ne _ _ (fun q => hr9.1 q.symm), upd_ne _ _ hre.1]; exact D1.sub.none hre.2, M1, Nat.le_refl _⟩
      have SB : Sub h (upd (upd hb r6 (some ⟨.t 24, 2, [[.osl rN 6 0 d.nodes.length, .bool d.quirks]]⟩)) r9 (some ⟨.t 77, 1, [[.vp re 0]]⟩)) := (Sb.upd (Sb.none (D1.sub.none hr6))).upd (Sb.none (D1.sub.none hr9.2.2))
      have gB4 : upd (upd hb r6 (some ⟨.t 24, 2, [[.osl rN 6 0 d.nodes.length, .bool d.quirks]]⟩)) r9 (some ⟨.t 77, 1, [[.vp re 0]]⟩) r4 = some ⟨.t 24, 2, [[.emp, .bool false]]⟩ := by
        rw [upd_ne _ _ (fun q => by rw [← q, g4] at hr9; cases hr9.2.2), upd_ne _ _ n3]; exact gb4
      have gB5 : upd (upd hb r6 (some ⟨.t 24, 2, [[.osl rN 6 0 d.nodes.length, .bool d.quirks]]⟩)) r9 (some ⟨.t 77, 1, [[.vp re 0]]⟩) r5 = some ⟨.t 28, 1, [[.int .i64 0]]⟩ := by
        rw [upd_ne _ _ (fun q => by rw [← q, g5] at hr9; cases hr9.2.2), upd_ne _ _ n4]; exact gb5
      have gB9 : upd (upd hb r6 (some ⟨.t 24, 2, [[.osl rN 6 0 d.nodes.length, .bool d.quirks]]⟩)) r9 (some ⟨.t 77, 1, [[.vp re 0]]⟩) r9 = some ⟨.t 77, 1, [[.vp re 0]]⟩ := upd_same _ _ _
      have hd0 : headD d d.nodes.length = d := by unfold headD; rw [List.take_length]
      repeat' (first | ((with_reducible refine Br.dec (fun _ => ?_) (fun _ => ?_)) <;> try (exfalso; omega)) | ((with_reducible refine Br.eq (fun _ => ?_) (fun _ => ?_)) <;> try (exfalso; omega)) | ((with_reducible refine Br.ne (fun _ => ?_) (fun _ => ?_)) <;> try (exfalso; omega)) | ((with_reducible refine brNdec (fun _ => ?_) (fun _ => ?_)) <;> try (exfalso; omega)) | ((with_reducible refine brNeq (fun _ => ?_) (fun _ => ?_)) <;> try (exfalso; omega)) | with_reducible refine Br.intro (fun _ => ?_) (fun _ => ?_) | (with_reducible apply pcallE.of; · exact backward_ok (G := G) l) | (with_reducible refine And.intro ?_ ?_; · omega) | simp -dsimp -implicitDefEqProofs (disch := omega) only [VCA])
      generalize upd (upd (upd h2 r6 (some ⟨.t 24, 2, [[.osl rN 6 0 d.nodes.length, .bool d.quirks]]⟩)) re (some ⟨.t 79, 2, [[.osl rN 6 0 d.nodes.length, .bool d.quirks]]⟩)) r9 (some ⟨.t 77, 1, [[.vp re 0]]⟩) = hR at *
      generalize upd (upd hb r6 (some ⟨.t 24, 2, [[.osl rN 6 0 d.nodes.length, .bool d.quirks]]⟩)) r9 (some ⟨.t 77, 1, [[.vp re 0]]⟩) = hB at *
      clear E1 E2 E3 D1
      have SR : Sub hB hR := U0.dw.sub
      refine RangeVC.intro (backward1_it (G := G) l ll) rfl (fun _ => rfl)
        (fun pre h' => ∃ D rN' d' n' sl'', backM d (pre.map (·.2.1)) = some D ∧ Un hB h' re rN' d' n' sl'' ∧ headD d' n' = D ∧ USm pre.length D)
        (fun ex pre h' => ex = .ret ∧ backM d (pre.map (·.2.1)) = none ∧ h' r4 = some ⟨.t 24, 2, [[.emp, .bool false]]⟩ ∧ h' r5 = some ⟨.t 28, 1, [[.int .i64 9]]⟩ ∧ Sub h h') ?_ ?_ ?_ ?_ ?_
      · exact ⟨d, rN, d, d.nodes.length, sl', rfl, U0, hd0, V.usm sm⟩
      · rintro pre x h' ⟨D, rN', d', n', sl2, hM, E, rfl, U⟩ hN
        have hs := hl x.2.1 x.2.2
        have g9 := E.dw.sub _ _ gB9
        have e4 := E.dw.sub _ _ gB4
        have e5 := E.dw.sub _ _ gB5
        have Sh := SB.trans E.dw.sub
        repeat' (first | ((with_reducible refine Br.dec (fun _ => ?_) (fun _ => ?_)) <;> try (exfalso; omega)) | ((with_reducible refine Br.eq (fun _ => ?_) (fun _ => ?_)) <;> try (exfalso; omega)) | ((with_reducible refine Br.ne (fun _ => ?_) (fun _ => ?_)) <;> try (exfalso; omega)) | ((with_reducible refine brNdec (fun _ => ?_) (fun _ => ?_)) <;> try (exfalso; omega)) | ((with_reducible refine brNeq (fun _ => ?_) (fun _ => ?_)) <;> try (exfalso; omega)) | with_reducible refine Br.intro (fun _ => ?_) (fun _ => ?_) | (with_reducible refine And.intro ?_ ?_; · omega) | simp -dsimp -implicitDefEqProofs (disch := omega) only [VCA, Nat.reduceEqDiff, Nat.reduceAdd, Nat.reduceLT, ↓reduceIte, setAt, exists_eq_left', eBk, eStep_len, eStep_all, g9])
        intro r11 hr11
        have j1 : ¬ r9 = r11 := fun q => by rw [← q, g9] at hr11; cases hr11
        repeat' (first | ((with_reducible refine Br.dec (fun _ => ?_) (fun _ => ?_)) <;> try (exfalso; omega)) | ((with_reducible refine Br.eq (fun _ => ?_) (fun _ => ?_)) <;> try (exfalso; omega)) | ((with_reducible refine Br.ne (fun _ => ?_) (fun _ => ?_)) <;> try (exfalso; omega)) | ((with_reducible refine brNdec (fun _ => ?_) (fun _ => ?_)) <;> try (exfalso; omega)) | ((with_reducible refine brNeq (fun _ => ?_) (fun _ => ?_)) <;> try (exfalso; omega)) | with_reducible refine Br.intro (fun _ => ?_) (fun _ => ?_) | (with_reducible refine And.intro ?_ ?_; · omega) | simp -dsimp -implicitDefEqProofs (disch := omega) only [VCA, Nat.reduceLT, ↓reduceIte, exists_eq_left', j1])
        refine DCalls.of (hU x.2.1 x.2.2 (E.aside hr11 _) U (by omega)) ?_
        rintro r h3 ⟨rfl, hR3⟩
        have j2 : ¬ r4 = r11 := fun q => by rw [← q, e4] at hr11; cases hr11
        have j3 : ¬ r5 = r11 := fun q => by rw [← q, e5] at hr11; cases hr11
        by_cases hf : fitM (headD d' n') x.2.1
        · obtain ⟨_, rN3, d3, k3, sl3, E3, hd3⟩ := hR3.resolve_left (fun q => q.1 hf)
          have bT : decide (fitM (headD d' n') x.2.1) = true := decide_eq_true hf
          repeat' (first | ((with_reducible refine Br.dec (fun _ => ?_) (fun _ => ?_)) <;> try (exfalso; omega)) | ((with_reducible refine Br.eq (fun _ => ?_) (fun _ => ?_)) <;> try (exfalso; omega)) | ((with_reducible refine Br.ne (fun _ => ?_) (fun _ => ?_)) <;> try (exfalso; omega)) | ((with_reducible refine brNdec (fun _ => ?_) (fun _ => ?_)) <;> try (exfalso; omega)) | ((with_reducible refine brNeq (fun _ => ?_) (fun _ => ?_)) <;> try (exfalso; omega)) | with_reducible refine Br.intro (fun _ => ?_) (fun _ => ?_) | (with_reducible refine And.intro ?_ ?_; · omega) | simp -dsimp -implicitDefEqProofs (disch := omega) only [VCA, ↓reduceIte, bT])
          exact ⟨undoD (headD d' n') x.2.1, ⟨rN3, d3, k3, sl3, by rw [List.map_append, List.map_cons, List.map_nil, backM_app, hM]; exact if_pos hf, E3, hd3, by rw [List.length_append]; exact U.undo hs (by omega) hf⟩⟩
        · obtain ⟨_, rfl⟩ := hR3.resolve_right (fun q => hf q.1)
          have bF : decide (fitM (headD d' n') x.2.1) = false := decide_eq_false hf
          repeat' (first | ((with_reducible refine Br.dec (fun _ => ?_) (fun _ => ?_)) <;> try (exfalso; omega)) | ((with_reducible refine Br.eq (fun _ => ?_) (fun _ => ?_)) <;> try (exfalso; omega)) | ((with_reducible refine Br.ne (fun _ => ?_) (fun _ => ?_)) <;> try (exfalso; omega)) | ((with_reducible refine brNdec (fun _ => ?_) (fun _ => ?_)) <;> try (exfalso; omega)) | ((with_reducible refine brNeq (fun _ => ?_) (fun _ => ?_)) <;> try (exfalso; omega)) | with_reducible refine Br.intro (fun _ => ?_) (fun _ => ?_) | (with_reducible refine And.intro ?_ ?_; · omega) | simp -dsimp -implicitDefEqProofs (disch := omega) only [VCA, Nat.reduceEqDiff, Nat.reduceAdd, Nat.reduceLT, ↓reduceIte, fillA, okFill, setAt, exists_eq_left', bF, e4, e5, j2, j3, n1, n2])
          exact ⟨by rw [List.map_append, List.map_cons, List.map_nil, backM_app, hM]; exact if_neg hf, ((Sh.upd (Sh.none hr11)).upd hr4).upd hr5.2⟩
      · rintro h' ⟨D, rN', d', n', sl2, hM, E, rfl, U⟩
        have g9 := E.dw.sub _ _ gB9
        have e4 := E.dw.sub _ _ gB4
        have e5 := E.dw.sub _ _ gB5
        have gU := E.un
        have Sh := SB.trans E.dw.sub
        have hCk : DCalls (Pg G) 47 [.agg [.osl rN' 6 0 n', .bool d'.quirks]] h' (fun r h2 => r = aInt (docE (headD d' n')) ∧ h2 = h') := DCalls.bor (check_ok (G := G) (headD d' n') U.sm) (.int _ _) (.cons (Vw.agg' (.cons (E.dw.vwH E.le) (.cons (.refl _) .nil))) .nil)
        have hB2 := bkM_map l l.length (Nat.le_refl _)
        rw [List.take_length] at hB2
        rw [hB2] at hM
        by_cases hC : docE (headD d' n') = 0
        · have uE : undoE d l = 0 := by unfold undoE; rw [if_neg (by simpa using h0), if_neg h40, hM]; simp [hC]
          have uR : undoR d l = headD d' n' := by unfold undoR; rw [uE, if_pos rfl, hM]; rfl
          rw [uE, uR]
          rw [hC] at hCk
          repeat' (first | ((with_reducible refine Br.dec (fun _ => ?_) (fun _ => ?_)) <;> try (exfalso; omega)) | ((with_reducible refine Br.eq (fun _ => ?_) (fun _ => ?_)) <;> try (exfalso; omega)) | ((with_reducible refine Br.ne (fun _ => ?_) (fun _ => ?_)) <;> try (exfalso; omega)) | ((with_reducible refine brNdec (fun _ => ?_) (fun _ => ?_)) <;> try (exfalso; omega)) | ((with_reducible refine brNeq (fun _ => ?_) (fun _ => ?_)) <;> try (exfalso; omega)) | with_reducible refine Br.intro (fun _ => ?_) (fun _ => ?_) | ((refine DCalls.of hCk ?_; rintro _ _ ⟨rfl, rfl⟩)) | (with_reducible refine And.intro ?_ ?_; · omega) | simp -dsimp -implicitDefEqProofs (disch := omega) only [VCA, Nat.reduceEqDiff, Nat.reduceAdd, Nat.reduceLT, ↓reduceIte, setAt, exists_eq_left', g9, gU, e4, e5, n1, n2])
          have nX : ∀ r o, hB r = some o → r ∉ [re] := fun r o hr hm => by
            have hm : r = re := by simpa using hm
            rw [hm, E.new] at hr; cases hr
          have S5 : Sub (upd h r5 (some ⟨.t 28, 1, [[.int .i64 0]]⟩)) hB := fun t ob ht => by
            by_cases q : t = r5
            · subst q; rw [upd_same] at ht; rw [gB5]; exact ht
            · rw [upd_ne _ _ q] at ht; exact SB t ob ht
          have B1 := E.dw.beside S5 gB4 (by rw [upd_ne _ _ n1]; exact hr4) (nX _ _ gB4) ⟨.t 24, 2, [[.osl rN' 6 0 n', .bool d'.quirks]]⟩
          have B2 := B1.beside ((Sub.refl h).upd hr5.2) (upd_same _ _ _) hr5.2 (nX _ _ gB5) ⟨.t 28, 1, [[.int .i64 0]]⟩
          exact ⟨_, Sub.refl _, (Sh.upd hr4).upd hr5.2, .tup' (.cons (Vw.agg' (.cons (B2.new'.vwH E.le) (.cons (.refl _) .nil))) (.cons (.refl _) .nil))⟩
        · have uE : undoE d l = 9 := by unfold undoE; rw [if_neg (by simpa using h0), if_neg h40, hM]; simp [hC]
          have uR : undoR d l = noDoc := by unfold undoR; rw [uE]; rfl
          rw [uE, uR]
          have bC : (docE (headD d' n') != 0) = true := by simpa using hC
          repeat' (first | ((with_reducible refine Br.dec (fun _ => ?_) (fun _ => ?_)) <;> try (exfalso; omega)) | ((with_reducible refine Br.eq (fun _ => ?_) (fun _ => ?_)) <;> try (exfalso; omega)) | ((with_reducible refine Br.ne (fun _ => ?_) (fun _ => ?_)) <;> try (exfalso; omega)) | ((with_reducible refine brNdec (fun _ => ?_) (fun _ => ?_)) <;> try (exfalso; omega)) | ((with_reducible refine brNeq (fun _ => ?_) (fun _ => ?_)) <;> try (exfalso; omega)) | with_reducible refine Br.intro (fun _ => ?_) (fun _ => ?_) | ((refine DCalls.of hCk ?_; rintro _ _ ⟨rfl, rfl⟩)) | (with_reducible refine And.intro ?_ ?_; · omega) | simp -dsimp -implicitDefEqProofs (disch := omega) only [VCA, Nat.reduceEqDiff, Nat.reduceAdd, Nat.reduceLT, ↓reduceIte, fillA, okFill, setAt, exists_eq_left', g9, gU, e4, e5, n1, n2, bC])
          exact ⟨_, Sub.refl _, (Sh.upd hr4).upd hr5.2, .tup' (.cons (vw_noDoc _) (.cons (.refl _) .nil))⟩
      · rintro ex pre h' hne hp ⟨rfl, hM, e4, e5, Sh⟩
        have uB : backM d l.reverse = none := by
          obtain ⟨q, hq⟩ := hp
          have := bkM_map l l.length (Nat.le_refl _)
          rw [List.take_length] at this
          rw [← this, ← hq, List.map_append]
          exact backM_none _ _ _ hM
        have uE : undoE d l = 9 := by unfold undoE; rw [if_neg (by simpa using h0), if_neg h40, uB]
        have uR : undoR d l = noDoc := by unfold undoR; rw [uE]; rfl
        rw [uE, uR]
        repeat' (first | ((with_reducible refine Br.dec (fun _ => ?_) (fun _ => ?_)) <;> try (exfalso; omega)) | ((with_reducible refine Br.eq (fun _ => ?_) (fun _ => ?_)) <;> try (exfalso; omega)) | ((with_reducible refine Br.ne (fun _ => ?_) (fun _ => ?_)) <;> try (exfalso; omega)) | ((with_reducible refine brNdec (fun _ => ?_) (fun _ => ?_)) <;> try (exfalso; omega)) | ((with_reducible refine brNeq (fun _ => ?_) (fun _ => ?_)) <;> try (exfalso; omega)) | with_reducible refine Br.intro (fun _ => ?_) (fun _ => ?_) | (with_reducible refine And.intro ?_ ?_; · omega) | simp -dsimp -implicitDefEqProofs (disch := omega) only [VCA, Nat.reduceEqDiff, Nat.reduceAdd, Nat.reduceLT, ↓reduceIte, exists_eq_left', e4, e5])
        exact ⟨_, Sub.refl _, Sh, .tup' (.cons (vw_noDoc _) (.cons (.refl _) .nil))⟩
      · refine ⟨fun pre h' h'' ⟨D, rN', d', n', sl2, hM, E, hD, U⟩ _ hk => ⟨D, rN', d', n', sl2, hM, E.strp SR hk, hD, U⟩, fun ex pre h' h'' ⟨q1, q2, q3, q4, q5⟩ _ hk => ⟨q1, q2, hk _ _ q3 (.inl rfl), hk _ _ q4 (.inl rfl), fun r o hr => hk r o (q5 r o hr) (.inr (SR _ _ (SB r o hr)))⟩⟩
  · have uE : undoE d l = docE d := by unfold undoE; rw [if_pos h0]
    have uR : undoR d l = noDoc := by unfold undoR; rw [uE, if_neg h0]
    rw [uE, uR]
    refine DCalls.of (allnil_own d sm hb) ?_
    intro a h2 hK
    rw [if_neg h0] at hK
    obtain ⟨rfl, rfl⟩ := hK
    have b0 : (docE d == 0) = false := by simpa using h0
    have b1 : (docE d != 0) = true := by simpa using h0
    repeat' (first | ((with_reducible refine Br.dec (fun _ => ?_) (fun _ => ?_)) <;> try (exfalso; omega)) | ((with_reducible refine Br.eq (fun _ => ?_) (fun _ => ?_)) <;> try (exfalso; omega)) | ((with_reducible refine Br.ne (fun _ => ?_) (fun _ => ?_)) <;> try (exfalso; omega)) | ((with_reducible refine brNdec (fun _ => ?_) (fun _ => ?_)) <;> try (exfalso; omega)) | ((with_reducible refine brNeq (fun _ => ?_) (fun _ => ?_)) <;> try (exfalso; omega)) | with_reducible refine Br.intro (fun _ => ?_) (fun _ => ?_) | (with_reducible refine And.intro ?_ ?_; · omega) | simp -dsimp -implicitDefEqProofs (disch := omega) only [↓vcOps_sp 20, VCA, Nat.reduceEqDiff, Nat.reduceAdd, Nat.reduceLT, ↓reduceIte, fillA, okFill, setAt, exists_eq_left', b0, b1, gb4, gb5])
    intro r6 hr6
    have n3 : ¬ r4 = r6 := fun q => by rw [← q, gb4] at hr6; cases hr6
    have n4 : ¬ r5 = r6 := fun q => by rw [← q, gb5] at hr6; cases hr6
    have n5 : ¬ r6 = r4 := fun q => n3 q.symm
    have n6 : ¬ r6 = r5 := fun q => n4 q.symm
    repeat' (first | ((with_reducible refine Br.dec (fun _ => ?_) (fun _ => ?_)) <;> try (exfalso; omega)) | ((with_reducible refine Br.eq (fun _ => ?_) (fun _ => ?_)) <;> try (exfalso; omega)) | ((with_reducible refine Br.ne (fun _ => ?_) (fun _ => ?_)) <;> try (exfalso; omega)) | ((with_reducible refine brNdec (fun _ => ?_) (fun _ => ?_)) <;> try (exfalso; omega)) | ((with_reducible refine brNeq (fun _ => ?_) (fun _ => ?_)) <;> try (exfalso; omega)) | with_reducible refine Br.intro (fun _ => ?_) (fun _ => ?_) | (with_reducible refine And.intro ?_ ?_; · omega) | simp -dsimp -implicitDefEqProofs (disch := omega) only [VCA, Nat.reduceAdd, Nat.reduceLT, ↓reduceIte, exists_eq_left', n1, n2, n3, n4])
    exact ⟨_, Sub.refl _, ((Sb.upd (Sb.none hr6)).upd hr4).upd hr5.2, .tup' (.cons (vw_noDoc _) (.cons (.refl _) .nil))⟩
theorem undo_text (d : HDoc) (sm : DocSm d) (l : List HStep) (hl : ∀ s ∈ l, StepSm s) (ll : l.length ≤ 1073741824) (h3 : ∀ s ∈ l, s.edit.do' = 3) : PCalls (Pg G) 16 [.agg (eDoc d), sl eStep l] (.tup [.agg (eDoc (undoR d l)), aInt (undoE d l)]) :=
  undo_ok_of d sm l hl ll fun s hs => undone_text s (hl s hs) (h3 s hs)
end Go.Proofs.K
end
section
/- Steps: what must be in any case; the law of Do. -/
set_option linter.unusedSimpArgs false
set_option linter.unusedVariables false
namespace Go.Proofs.K
open Go Go.Sim Go.Proofs
variable {G : Glob}
def begS : HStep := ⟨zE 3 2 [122], false, [60, 10], 0, 0⟩
def oneZ : HDoc := (allM oneD [zE 3 2 [122]]).1
theorem begS_is : (allM oneD [zE 3 2 [122]]).2.2 = 0 ∧ recM oneD [zE 3 2 [122]] = [begS] ∧ (nd oneZ 2).text = [122] ∧ 2 < oneZ.nodes.length ∧ undoE oneZ [begS] = 0 ∧ undoR oneZ [begS] = oneD := by decide +kernel
theorem begS_sm : StepSm begS := ⟨⟨by decide, by decide, by decide, by decide, (fun a ha => by cases ha), by decide, by decide⟩, by decide⟩
def c13 : SFun := ⟨(.seq (.reg [⟨(some 0), (.mv (.c (.bool false))), none⟩]) (.seq (.reg [⟨(some 8), (.pcall 42 []), none⟩, ⟨(some 9), (.bld [(.int .i64 (0)), (.int .i64 (0)), (.int .i64 (0)), (.int .i64 (0)), (.str []), (.str []), (.int .i64 (0)), (.str []), .emp, (.str []), (.int .i64 (0)), .emp] [(0, (1, (.c (.int .i64 (3))))), (1, (1, (.c (.int .i64 (2))))), (5, (1, (.c (.str [122]))))]), none⟩, ⟨(some 10), (.bldF 42 12 [(.t 9)]), none⟩, ⟨(some 11), (.pcall 11 [(.t 8), (.t 10)]), none⟩, ⟨(some 7), (.mv (.t 11)), none⟩, ⟨(some 12), (.ext (.t 7) 0), none⟩, ⟨(some 13), (.ext (.t 7) 1), none⟩, ⟨(some 14), (.ext (.t 7) 2), none⟩, ⟨(some 15), (.ext (.t 7) 3), none⟩, ⟨(some 1), (.new 24 2 [.emp, (.bool false)]), none⟩, ⟨none, (.st 2 (.t 1) (.t 12)), none⟩, ⟨(some 2), (.mv (.t 13)), none⟩, ⟨(some 3), (.mv (.t 14)), none⟩, ⟨(some 4), (.mv (.t 15)), none⟩]) (.seq (.reg [⟨(some 17), (.ld 2 true (.t 1)), none⟩, ⟨(some 18), (.mv (.t 2)), none⟩, ⟨(some 19), (.pcall 16 [(.t 17), (.t 18)]), none⟩, ⟨(some 16), (.mv (.t 19)), none⟩, ⟨(some 20), (.ext (.t 16) 0), none⟩, ⟨(some 21), (.ext (.t 16) 1), none⟩, ⟨(some 5), (.new 24 2 [.emp, (.bool false)]), none⟩, ⟨none, (.st 2 (.t 5) (.t 20)), none⟩, ⟨(some 6), (.mv (.t 21)), none⟩]) (.seq (.dreg [(⟨(some 22), (.mv (.t 3)), none⟩, none), (⟨(some 23), (.bin .eql (.t 22) (.c (.int .i64 (0)))), none⟩, none), (⟨(some 24), (.mv (.t 23)), none⟩, none), (⟨(some 25), (.mv (.t 4)), (some (24, true))⟩, none), (⟨(some 26), (.bin .eql (.t 25) (.c (.int .i64 (0)))), (some (24, true))⟩, none), (⟨(some 27), (.pick (.t 24) (.t 26) (.c (.bool false))), none⟩, none), (⟨(some 28), (.mv (.t 27)), none⟩, none), (⟨(some 29), (.mv (.t 2)), (some (28, true))⟩, none), (⟨(some 30), (.len (.t 29)), (some (28, true))⟩, none), (⟨(some 31), (.bin .eql (.t 30) (.c (.int .i64 (1)))), (some (28, true))⟩, none), (⟨(some 32), (.pick (.t 28) (.t 31) (.c (.bool false))), none⟩, none), (⟨(some 33), (.mv (.t 32)), none⟩, none), (⟨(some 34), (.mv (.t 2)), (some (33, true))⟩, none), (⟨(some 35), (.idxA 16 (.t 34) (.c (.int .i64 (0)))), (some (33, true))⟩, none), (⟨(some 36), (.fldA 13 (.t 35)), (some (33, true))⟩, none), (⟨(some 37), (.ld 1 false (.t 36)), (some (33, true))⟩, none), (⟨(some 38), (.bin .eql (.t 37) (.c (.str [60, 10]))), (some (33, true))⟩, none), (⟨(some 39), (.pick (.t 33) (.t 38) (.c (.bool false))), none⟩, none), (⟨(some 40), (.mv (.t 39)), none⟩, none), (⟨(some 41), (.fldA 0 (.t 1)), (some (40, true))⟩, none), (⟨(some 42), (.ld 1 false (.t 41)), (some (40, true))⟩, none), (⟨(some 43), (.idxA 6 (.t 42) (.c (.int .i64 (2)))), (some (40, true))⟩, none), (⟨(some 44), (.fldA 3 (.t 43)), (some (40, true))⟩, none), (⟨(some 45), (.ld 1 false (.t 44)), (some (40, true))⟩, none), (⟨(some 46), (.bin .eql (.t 45) (.c (.str [122]))), (some (40, true))⟩, none), (⟨(some 47), (.pick (.t 40) (.t 46) (.c (.bool false))), none⟩, none), (⟨(some 48), (.mv (.t 47)), none⟩, none), (⟨(some 49), (.mv (.t 6)), (some (48, true))⟩, none), (⟨(some 50), (.bin .eql (.t 49) (.c (.int .i64 (0)))), (some (48, true))⟩, none), (⟨(some 51), (.pick (.t 48) (.t 50) (.c (.bool false))), none⟩, none), (⟨(some 52), (.mv (.t 51)), none⟩, none), (⟨(some 53), (.ld 2 true (.t 5)), (some (52, true))⟩, none), (⟨(some 54), (.pcall 42 []), (some (52, true))⟩, none), (⟨(some 55), (.pcall 14 [(.t 53), (.t 54)]), (some (52, true))⟩, none), (⟨(some 56), (.pick (.t 52) (.t 55) (.c (.bool false))), none⟩, none), (⟨(some 0), (.mv (.t 56)), none⟩, none)]) .ret)))), [(.tmp 0)]⟩
theorem hc13 : toSF Tryz.prog {pure := [42, 11, 16, 14]} Tryz.f13 = some c13 := by kernel_rfl
theorem hn13 : (Tryz.f13.name == "runtime.NumGoroutine") = false := by kernel_rfl
set_option maxRecDepth 10000 in
theorem recordBegun_ok : PCalls (Pg G) 13 [] (.bool true) := fun h => by
  obtain ⟨b1, b2, b3, b4, b5, b6⟩ := begS_is
  have sE : EditSm (zE 3 2 [122]) := begS_sm.edit
  have smZ : DocSm oneZ := allM_sm oneD_sm (fun e he => by simp at he; subst he; exact sE)
  have h1 : PCalls (Pg G) 11 [.agg (eDoc oneD), .slc [[.int .i64 3, .int .i64 2, .int .i64 0, .int .i64 0, .str [], .str [122], .int .i64 0, .str [], .emp, .str [], .int .i64 0, .emp]]] (.tup [.agg (eDoc oneZ), .slc [eStep begS], aInt 0, aInt 0]) := by
    have h := (do_ok (G := G) oneD oneD_sm [zE 3 2 [122]] (fun e he => by simp at he; subst he; exact sE) (by decide)).wk (args := [.agg (eDoc oneD), .slc [eE0 (zE 3 2 [122])]]) (.cons (.refl _) (.cons (.slc' (show F2 (F2 Wk) ([zE 3 2 [122]].map eE0) ([zE 3 2 [122]].map eEdit) from eE0_wks fun e he => by obtain rfl : e = zE 3 2 [122] := (by simpa using he); exact ⟨rfl, rfl⟩)) .nil))
    unfold doV at h
    rw [if_pos b1, b2] at h
    exact h
  have h2 : PCalls (Pg G) 16 [.agg (eDoc oneZ), .slc [eStep begS]] (.tup [.agg (eDoc oneD), aInt 0]) := by
    have h := undo_text (G := G) oneZ smZ [begS] (fun s hs => by simp at hs; subst hs; exact begS_sm) (by decide) (fun s hs => by simp at hs; subst hs; rfl)
    rw [b5, b6] at h
    exact h
  have hO := oneP_ok (G := G)
  have h4 : PCalls (Pg G) 14 [.agg (eDoc oneD), .agg (eDoc oneD)] (.bool true) := by
    have h := sameDoc_ok (G := G) oneD oneD oneD_sm oneD_sm
    rwa [show (oneD == oneD) = true by simp] at h
  have e2 : nth oneZ.nodes (Int.toNat 2) = nd oneZ 2 := rfl
  have e0 : begS.was = [60, 10] := rfl
  generalize oneZ = Z at *
  refine dcalls_of_vc Tryz.func13 hn13 hc13 (by rw [Tryz.ntmps13]; simp) (by rw [Tryz.ntmps13]; decide) ?_
  simp -dsimp -implicitDefEqProofs (disch := omega) only [VCA, c13]
  repeat' (first | ((with_reducible refine Br.dec (fun _ => ?_) (fun _ => ?_)) <;> try (exfalso; omega)) | ((with_reducible refine Br.eq (fun _ => ?_) (fun _ => ?_)) <;> try (exfalso; omega)) | ((with_reducible refine Br.ne (fun _ => ?_) (fun _ => ?_)) <;> try (exfalso; omega)) | ((with_reducible refine brNdec (fun _ => ?_) (fun _ => ?_)) <;> try (exfalso; omega)) | ((with_reducible refine brNeq (fun _ => ?_) (fun _ => ?_)) <;> try (exfalso; omega)) | with_reducible refine Br.intro (fun _ => ?_) (fun _ => ?_) | (with_reducible apply pcallE.of; · exact hO) | (with_reducible apply pcallE.of; · exact h1) | (with_reducible refine And.intro ?_ ?_; · omega) | simp -dsimp -implicitDefEqProofs (disch := omega) only [VCA, Nat.reduceEqDiff, Nat.reduceAdd, Nat.reduceLT, Nat.reduceLeDiff, ↓reduceIte, okParts, fillA, okFill, setAt, exists_eq_left'])
  intro r1 hr1
  repeat' (first | ((with_reducible refine Br.dec (fun _ => ?_) (fun _ => ?_)) <;> try (exfalso; omega)) | ((with_reducible refine Br.eq (fun _ => ?_) (fun _ => ?_)) <;> try (exfalso; omega)) | ((with_reducible refine Br.ne (fun _ => ?_) (fun _ => ?_)) <;> try (exfalso; omega)) | ((with_reducible refine brNdec (fun _ => ?_) (fun _ => ?_)) <;> try (exfalso; omega)) | ((with_reducible refine brNeq (fun _ => ?_) (fun _ => ?_)) <;> try (exfalso; omega)) | with_reducible refine Br.intro (fun _ => ?_) (fun _ => ?_) | (with_reducible apply pcallE.of; · exact h2) | (with_reducible refine And.intro ?_ ?_; · omega) | simp -dsimp -implicitDefEqProofs (disch := omega) only [↓vcD_sp 24, VCA, ↓upd_none, Nat.reduceEqDiff, Nat.reduceAdd, Nat.reduceLT, ↓reduceIte, rsOf, rootsOf, setAt, ne_eq, exists_eq_left', rootL, eDoc_len, eDoc_take])
  intro r5 hr5
  have n1 : ¬ r5 = r1 := hr5.1
  have n2 : ¬ r1 = r5 := fun q => n1 q.symm
  unfold eDoc at hO h4
  repeat' (first | ((with_reducible refine Br.dec (fun _ => ?_) (fun _ => ?_)) <;> try (exfalso; omega)) | ((with_reducible refine Br.eq (fun _ => ?_) (fun _ => ?_)) <;> try (exfalso; omega)) | ((with_reducible refine Br.ne (fun _ => ?_) (fun _ => ?_)) <;> try (exfalso; omega)) | ((with_reducible refine brNdec (fun _ => ?_) (fun _ => ?_)) <;> try (exfalso; omega)) | ((with_reducible refine brNeq (fun _ => ?_) (fun _ => ?_)) <;> try (exfalso; omega)) | with_reducible refine Br.intro (fun _ => ?_) (fun _ => ?_) | (with_reducible apply pcallE.of; · exact hO) | (with_reducible apply pcallE.of; · exact h4) | (with_reducible refine And.intro ?_ ?_; · omega) | simp -dsimp -implicitDefEqProofs (disch := omega) only [↓vcD_sp 28, ↓vcD_sp 33, ↓vcD_sp 40, ↓vcD_sp 48, ↓vcD_sp 52, VCA, Nat.reduceEqDiff, Nat.reduceAdd, Nat.reduceLT, Nat.reduceLeDiff, ↓reduceIte, rsOf, rootsOf, exists_eq_right_right, exists_eq_right, exists_eq_left', rootL, n2, eDoc, eNode, eStep, e0, e2, b3])
  all_goals first | exact ((Sub.refl h).upd hr1).upd hr5.2 | exact ⟨((Sub.refl h).upd hr1).upd hr5.2, by simp⟩ | (exfalso; rename_i q; exact q rfl) | (exfalso; rename_i q; exact q b3) | trace_state
theorem doV_eq (d : HDoc) (l : List HEdit) : ∃ (D : HDoc) (s : List HStep) (i x : Int), doV d l = .tup [.agg (eDoc D), sl eStep s, aInt i, aInt x] ∧ (DocSm d → (∀ e ∈ l, EditSm e) → DocSm D ∧ s.length ≤ l.length ∧ ∀ y ∈ s, StepSm y) := by
  unfold doV
  by_cases h : (allM d l).2.2 = 0
  · rw [if_pos h]
    refine ⟨_, _, 0, 0, rfl, fun sm hl => ⟨allM_sm sm hl, by rw [recM_len]; exact Nat.le_refl _, ?_⟩⟩
    obtain ⟨hd, _, aM⟩ := allM_zero h
    rw [aM] at h
    exact recM_sm l d 0 (docE_DV hd) sm hl h
  · rw [if_neg h]
    exact ⟨_, _, _, _, rfl, fun _ _ => ⟨⟨Nat.zero_le _, fun x hx => by cases hx⟩, Nat.zero_le _, fun y hy => by cases hy⟩⟩
def c3 : SFun := ⟨(.seq (.reg [⟨(some 2), (.box 24 2 (.t 0)), none⟩, ⟨(some 4), (.mv (.c (.bool false))), none⟩]) (.seq (.dreg [(⟨(some 13), (.ld 2 true (.t 2)), none⟩, none), (⟨(some 14), (.pcall 10 [(.t 13), (.c (.int .i64 (40)))]), none⟩, none), (⟨(some 15), (.mv (.t 1)), none⟩, none), (⟨(some 16), (.mv (.t 1)), none⟩, none), (⟨(some 17), (.len (.t 16)), none⟩, none), (⟨(some 18), (.min2 (.t 17) (.c (.int .i64 (45)))), none⟩, none), (⟨(some 19), (.slA 12 (.t 15) none (some (.t 18))), none⟩, none), (⟨none, (.st 2 (.t 2) (.t 14)), none⟩, (some [13])), (⟨(some 1), (.mv (.t 19)), none⟩, (some [13]))]) (.seq (.reg [⟨(some 21), (.ld 2 true (.t 2)), none⟩, ⟨(some 22), (.mv (.t 1)), none⟩, ⟨(some 23), (.pcall 11 [(.t 21), (.t 22)]), none⟩, ⟨(some 20), (.mv (.t 23)), none⟩, ⟨(some 24), (.ext (.t 20) 0), none⟩, ⟨(some 25), (.ext (.t 20) 1), none⟩, ⟨(some 26), (.ext (.t 20) 2), none⟩, ⟨(some 27), (.ext (.t 20) 3), none⟩, ⟨(some 5), (.new 24 2 [.emp, (.bool false)]), none⟩, ⟨none, (.st 2 (.t 5) (.t 24)), none⟩, ⟨(some 6), (.mv (.t 25)), none⟩, ⟨(some 7), (.mv (.t 26)), none⟩, ⟨(some 8), (.mv (.t 27)), none⟩]) (.seq (.reg [⟨(some 29), (.ld 2 true (.t 2)), none⟩, ⟨(some 30), (.mv (.t 1)), none⟩, ⟨(some 31), (.pcall 12 [(.t 29), (.t 30)]), none⟩, ⟨(some 28), (.mv (.t 31)), none⟩, ⟨(some 32), (.ext (.t 28) 0), none⟩, ⟨(some 33), (.ext (.t 28) 1), none⟩, ⟨(some 34), (.ext (.t 28) 2), none⟩, ⟨(some 35), (.ext (.t 28) 3), none⟩, ⟨(some 9), (.new 24 2 [.emp, (.bool false)]), none⟩, ⟨none, (.st 2 (.t 9) (.t 32)), none⟩, ⟨(some 10), (.mv (.t 33)), none⟩, ⟨(some 11), (.mv (.t 34)), none⟩, ⟨(some 12), (.mv (.t 35)), none⟩]) (.seq (.reg [⟨(some 36), (.pcall 13 []), none⟩, ⟨(some 37), (.mv (.t 36)), none⟩, ⟨(some 38), (.ld 2 true (.t 5)), (some (37, true))⟩, ⟨(some 39), (.ld 2 true (.t 9)), (some (37, true))⟩, ⟨(some 40), (.pcall 14 [(.t 38), (.t 39)]), (some (37, true))⟩, ⟨(some 41), (.pick (.t 37) (.t 40) (.c (.bool false))), none⟩, ⟨(some 42), (.mv (.t 41)), none⟩, ⟨(some 43), (.mv (.t 6)), (some (42, true))⟩, ⟨(some 44), (.mv (.t 10)), (some (42, true))⟩, ⟨(some 45), (.pcall 15 [(.t 43), (.t 44)]), (some (42, true))⟩, ⟨(some 46), (.pick (.t 42) (.t 45) (.c (.bool false))), none⟩, ⟨(some 47), (.mv (.t 46)), none⟩, ⟨(some 48), (.mv (.t 7)), (some (47, true))⟩, ⟨(some 49), (.mv (.t 11)), (some (47, true))⟩, ⟨(some 50), (.bin .eql (.t 48) (.t 49)), (some (47, true))⟩, ⟨(some 51), (.pick (.t 47) (.t 50) (.c (.bool false))), none⟩, ⟨(some 52), (.mv (.t 51)), none⟩, ⟨(some 53), (.mv (.t 8)), (some (52, true))⟩, ⟨(some 54), (.mv (.t 12)), (some (52, true))⟩, ⟨(some 55), (.bin .eql (.t 53) (.t 54)), (some (52, true))⟩, ⟨(some 56), (.pick (.t 52) (.t 55) (.c (.bool false))), none⟩, ⟨(some 4), (.mv (.t 56)), none⟩]) .ret))))), [(.tmp 4)]⟩
theorem hc3 : toSF Tryz.prog {pure := [10, 13, 11, 12, 14, 15], how := [(2, 6)]} Tryz.f3 = some c3 := by kernel_rfl
theorem hn3 : (Tryz.f3.name == "runtime.NumGoroutine") = false := by kernel_rfl
theorem recordDoes_ok (d : HDoc) (sm : DocSm d) (l : List HEdit) (hl : ∀ e ∈ l, EditSm e) (ll : l.length ≤ 1073741824) : PCalls (Pg G) 3 [.agg (eDoc d), sl eEdit l] (.bool true) := fun h => by
  have hF : PCalls (Pg G) 10 [.agg (eDoc d), .int .i64 40] (.agg (eDoc ⟨d.nodes.take 40, d.quirks⟩)) := few_ok (G := G) d 40 sm
  have fs := sm.few 40
  generalize (⟨d.nodes.take 40, d.quirks⟩ : HDoc) = f at *
  obtain ⟨L, hL⟩ : ∃ L, l.take (min (l.length : Int) 45).toNat = L := ⟨_, rfl⟩
  have hm : ∀ e ∈ L, EditSm e := fun e he => hl e (List.mem_of_mem_take (hL ▸ he))
  have ml : L.length ≤ 1073741824 := by rw [← hL, List.length_take]; omega
  have hA := do_ok (G := G) f fs L hm ml
  have hE := recordDo_ok (G := G) f fs L hm ml
  obtain ⟨D, s, N, X, hV, hsm⟩ := doV_eq f L
  obtain ⟨asm, sln, ssm⟩ := hsm fs hm
  rw [hV] at hA hE
  have hS2 : PCalls (Pg G) 14 [.agg (eDoc D), .agg (eDoc D)] (.bool true) := by
    have h := sameDoc_ok (G := G) D D asm asm
    rwa [show (D == D) = true by simp] at h
  have hS3 : PCalls (Pg G) 15 [sl eStep s, sl eStep s] (.bool true) := by
    have h := sameSteps_ok (G := G) s s (by omega) (by omega) (fun y hy => (ssm y hy).edit.node) (fun y hy => (ssm y hy).edit.node)
    rwa [show (s == s) = true by simp] at h
  have hB := recordBegun_ok (G := G)
  have n1 : (N == N) = true := by simp
  have n2 : (X == X) = true := by simp
  refine dcalls_of_vc Tryz.func3 hn3 hc3 (by rw [Tryz.ntmps3]; simp) (by rw [Tryz.ntmps3]; decide) ?_
  simp -dsimp -implicitDefEqProofs (disch := omega) only [VCA, Nat.reduceEqDiff, Nat.reduceLT, ↓reduceIte, rsOf, rootsOf, exists_eq_left', rootL, c3, eDoc_len, eDoc_take]
  intro r2 hr2
  repeat' (first | ((with_reducible refine Br.dec (fun _ => ?_) (fun _ => ?_)) <;> try (exfalso; omega)) | ((with_reducible refine Br.eq (fun _ => ?_) (fun _ => ?_)) <;> try (exfalso; omega)) | ((with_reducible refine Br.ne (fun _ => ?_) (fun _ => ?_)) <;> try (exfalso; omega)) | ((with_reducible refine brNdec (fun _ => ?_) (fun _ => ?_)) <;> try (exfalso; omega)) | ((with_reducible refine brNeq (fun _ => ?_) (fun _ => ?_)) <;> try (exfalso; omega)) | with_reducible refine Br.intro (fun _ => ?_) (fun _ => ?_) | (with_reducible apply pcallE.of; · exact hF) | (with_reducible apply pcallE.of; · exact hA) | (with_reducible refine And.intro ?_ ?_; · omega) | simp -dsimp -implicitDefEqProofs (disch := omega) only [VCA, ↓upd_none, Nat.reduceEqDiff, Nat.reduceBEq, Nat.reduceAdd, Nat.reduceLT, ↓reduceIte, rsOf, rootsOf, SOp.rd, SI.rd, SX.rd, setAt, ne_eq, exists_eq_left', rootL, eDoc_len, eDoc_take, eDoc_dr, hL])
  intro r5 hr5
  have m1 : ¬ r5 = r2 := hr5.1
  have m2 : ¬ r2 = r5 := fun h => m1 h.symm
  repeat' (first | ((with_reducible refine Br.dec (fun _ => ?_) (fun _ => ?_)) <;> try (exfalso; omega)) | ((with_reducible refine Br.eq (fun _ => ?_) (fun _ => ?_)) <;> try (exfalso; omega)) | ((with_reducible refine Br.ne (fun _ => ?_) (fun _ => ?_)) <;> try (exfalso; omega)) | ((with_reducible refine brNdec (fun _ => ?_) (fun _ => ?_)) <;> try (exfalso; omega)) | ((with_reducible refine brNeq (fun _ => ?_) (fun _ => ?_)) <;> try (exfalso; omega)) | with_reducible refine Br.intro (fun _ => ?_) (fun _ => ?_) | (with_reducible apply pcallE.of; · exact hE) | (with_reducible refine And.intro ?_ ?_; · omega) | simp -dsimp -implicitDefEqProofs (disch := omega) only [VCA, ↓upd_none, Nat.reduceEqDiff, Nat.reduceAdd, Nat.reduceLT, ↓reduceIte, setAt, ne_eq, exists_eq_left', eDoc_len, eDoc_take, m2])
  intro r9 hr9
  have k1 : ¬ r9 = r2 := hr9.2.1
  have k2 : ¬ r2 = r9 := fun h => k1 h.symm
  have k3 : ¬ r9 = r5 := hr9.1
  have k4 : ¬ r5 = r9 := fun h => k3 h.symm
  repeat' (first | ((with_reducible refine Br.dec (fun _ => ?_) (fun _ => ?_)) <;> try (exfalso; omega)) | ((with_reducible refine Br.eq (fun _ => ?_) (fun _ => ?_)) <;> try (exfalso; omega)) | ((with_reducible refine Br.ne (fun _ => ?_) (fun _ => ?_)) <;> try (exfalso; omega)) | ((with_reducible refine brNdec (fun _ => ?_) (fun _ => ?_)) <;> try (exfalso; omega)) | ((with_reducible refine brNeq (fun _ => ?_) (fun _ => ?_)) <;> try (exfalso; omega)) | with_reducible refine Br.intro (fun _ => ?_) (fun _ => ?_) | (with_reducible apply pcallE.of; · exact hB) | (with_reducible apply pcallE.of; · exact hS2) | (with_reducible apply pcallE.of; · exact hS3) | (with_reducible refine And.intro ?_ ?_; · omega) | simp -dsimp -implicitDefEqProofs (disch := omega) only [↓vcOps_sp 37, ↓vcOps_sp 42, ↓vcOps_sp 47, ↓vcOps_sp 52, VCA, Nat.reduceEqDiff, Nat.reduceLT, ↓reduceIte, exists_eq_right, exists_eq_left', eDoc_len, eDoc_take, n1, n2, k4])
  all_goals exact (((Sub.refl h).upd hr2).upd hr5.2).upd hr9.2.2
end Go.Proofs.K
end
