/- Texts of this claim, one behind the other. -/
import Derived.Test.YtoolkpnnllfhgaaGreatDoorM5
import Derived.Test.YtoolkpnnllfhgaaGreatDoorM3
section
/- Steps: Do. -/
set_option linter.unusedSimpArgs false
set_option linter.unusedVariables false
namespace Go.Proofs.K
open Go Go.Sim Go.Proofs
variable {G : Glob}
theorem _root_.Go.Sim.Acc.re {h1 h2 h1' h2' : Heap} {ty : TypeId} {sz : Nat} {cells : List (List AVal)} {a : AVal} (A : Acc h1 ty sz cells a h2) (hd : ∀ r o, h1 r = none → h2 r = some o → h1' r = none ∧ h2' r = some o) : Acc h1' ty sz cells a h2' := by
  rcases A with h | ⟨r, h0, h1, h2⟩
  · exact .inl h
  · exact .inr ⟨r, (hd r _ h0 h1).1, (hd r _ h0 h1).2, h2⟩
theorem _root_.Go.Sim.Acc.keepA {h h1 : Heap} {ty : TypeId} {sz : Nat} {cells : List (List AVal)} {a : AVal} (A : Acc h ty sz cells a h1) {r2 : Nat} (hn : rootOf a ≠ some r2) (o : Option AObj) : Acc h ty sz cells a (upd h1 r2 o) := by
  rcases A with q | ⟨r, q0, q1, q2⟩
  · exact .inl q
  · have : r ≠ r2 := fun e => hn (by rw [q2, e]; rfl)
    exact .inr ⟨r, q0, by rw [upd_ne _ _ this]; exact q1, q2⟩
theorem _root_.Go.Sim.Acc.vw {h h' : Heap} {ty : TypeId} {sz : Nat} {cells : List (List AVal)} {a : AVal} (A : Acc h ty sz cells a h') (hl : ∀ f ∈ cells, f.length = sz) : Vw (newH h h') a (.slc cells) := by
  rcases A with ⟨rfl, rfl⟩ | ⟨r, h0, h1, rfl⟩
  · exact .emp
  · exact Vw.osl0 (by rw [newH_none h0]; exact h1) rfl (Nat.le_refl _) hl (by rw [List.take_length]; exact F2.refl (F2.refl .refl) _)
theorem _root_.Go.Sim.Acc.appW {h h' : Heap} {ty : TypeId} {sz b : Nat} {cells es2 : List (List AVal)} {a : AVal} {K : AVal → Heap → Prop} (A : Acc h ty sz cells a h') (S : Sub h h')
    (h1 : (cells.length + es2.length) * b ≤ 140737488355328) (h2 : cells.length + es2.length ≤ 140737488355328)
    (hk : ∀ a' h'', Acc h ty sz (cells ++ es2) a' h'' → Sub h h'' → (∀ r o, h' r = some o → rootOf a ≠ some r → h'' r = some o ∧ rootOf a' ≠ some r) → K a' h'') : Hd (appE ty sz b a es2 h') K .mk := by
  rcases A with ⟨rfl, rfl⟩ | ⟨r, h0, hr, rfl⟩
  · refine ⟨by simpa using h1, by simpa using h2, fun r hr => hk _ _ ?_ (S.upd (S.none hr)) fun x o hx _ => ?_⟩
    · exact .inr ⟨r, S.none hr, by simp, rfl⟩
    · have : x ≠ r := fun e => by rw [e, hr] at hx; cases hx
      exact ⟨by rw [upd_ne _ _ this]; exact hx, fun e => this (by cases e; rfl)⟩
  · refine ⟨rfl, _, hr, rfl, by simp, h1, h2, fun r' hr' => hk _ _ ?_ ?_ fun x o hx hn => ?_⟩
    · have hn : h r' = none := (S.del h0).none hr'
      refine .inr ⟨r', hn, by simp, by simp⟩
    · exact (S.del h0).upd ((S.del h0).none hr')
    · have hxr : x ≠ r := fun e => hn (by rw [e]; rfl)
      have hd : del h' r x = some o := by unfold del; rw [if_neg hxr]; exact hx
      have : x ≠ r' := fun e => by rw [e, hr'] at hd; cases hd
      exact ⟨by rw [upd_ne _ _ this]; exact hd, fun e => this (by cases e; rfl)⟩
def c11 : SFun := ⟨(.seq (.reg [⟨(some 2), (.box 24 2 (.t 0)), none⟩, ⟨(some 4), (.new 24 2 [.emp, (.bool false)]), none⟩, ⟨(some 5), (.mv (.c .emp)), none⟩, ⟨(some 6), (.mv (.c (.int .i64 (0)))), none⟩, ⟨(some 7), (.mv (.c (.int .i64 (0)))), none⟩]) (.seq (.seq (.reg [⟨(some 18), (.ld 2 true (.t 2)), none⟩, ⟨(some 19), (.mv (.t 1)), none⟩, ⟨(some 20), (.pcall 38 [(.t 18), (.t 19)]), none⟩, ⟨(some 17), (.mv (.t 20)), none⟩, ⟨(some 21), (.ext (.t 17) 0), none⟩, ⟨(some 22), (.ext (.t 17) 1), none⟩, ⟨(some 23), (.ext (.t 17) 2), none⟩, ⟨(some 8), (.new 24 2 [.emp, (.bool false)]), none⟩, ⟨none, (.st 2 (.t 8) (.t 21)), none⟩, ⟨(some 9), (.mv (.t 22)), none⟩, ⟨(some 10), (.mv (.t 23)), none⟩]) (.seq (.reg [⟨(some 24), (.mv (.t 10)), none⟩, ⟨(some 25), (.bin .neq (.t 24) (.c (.int .i64 (0)))), none⟩]) (.cond (.t 25) (.seq (.reg [⟨(some 26), (.bld [.emp, (.bool false)] []), none⟩, ⟨(some 27), (.mv (.t 9)), none⟩, ⟨(some 28), (.mv (.t 10)), none⟩, ⟨none, (.st 2 (.t 4) (.t 26)), none⟩, ⟨(some 5), (.mv (.c .emp)), none⟩, ⟨(some 6), (.mv (.t 27)), none⟩, ⟨(some 7), (.mv (.t 28)), none⟩]) .ret) .skip))) (.seq (.reg [⟨(some 30), (.ld 2 true (.t 2)), none⟩, ⟨(some 31), (.pcall 38 [(.t 30), (.c .emp)]), none⟩, ⟨(some 29), (.mv (.t 31)), none⟩, ⟨(some 32), (.ext (.t 29) 0), none⟩, ⟨(some 33), (.ext (.t 29) 1), none⟩, ⟨(some 34), (.ext (.t 29) 2), none⟩, ⟨none, (.st 2 (.t 2) (.t 32)), none⟩]) (.seq (.reg [⟨(some 11), (.mv (.c .emp)), none⟩]) (.seq (.seq (.reg [⟨(some 35), (.mv (.t 1)), none⟩, ⟨(some 36), (.len (.t 35)), none⟩, ⟨(some 37), (.mv (.c (.int .i64 (0)))), none⟩]) (.block 0 (.loop (.seq (.reg [⟨(some 38), (.bin .lss (.t 37) (.t 36)), none⟩]) (.seq (.cond (.t 38) .skip (.exit 0)) (.seq (.block 1 (.seq (.reg [⟨(some 39), (.idxA 12 (.t 35) (.t 37)), none⟩, ⟨(some 40), (.ld 12 true (.t 39)), none⟩, ⟨(some 13), (.new 42 12 [(.int .i64 (0)), (.int .i64 (0)), (.int .i64 (0)), (.int .i64 (0)), (.str []), (.str []), (.int .i64 (0)), (.str []), .emp, (.str []), (.int .i64 (0)), .emp]), none⟩, ⟨none, (.st 12 (.t 13) (.t 40)), none⟩]) (.seq (.reg [⟨(some 42), (.ld 2 true (.t 2)), none⟩, ⟨(some 43), (.ld 12 true (.t 13)), none⟩, ⟨(some 44), (.pcall 39 [(.t 42), (.t 43)]), none⟩, ⟨(some 41), (.mv (.t 44)), none⟩, ⟨(some 45), (.ext (.t 41) 0), none⟩, ⟨(some 46), (.ext (.t 41) 1), none⟩, ⟨(some 47), (.ext (.t 41) 2), none⟩, ⟨(some 14), (.new 24 2 [.emp, (.bool false)]), none⟩, ⟨none, (.st 2 (.t 14) (.t 45)), none⟩, ⟨(some 15), (.mv (.t 46)), none⟩, ⟨(some 16), (.mv (.t 47)), none⟩]) (.seq (.reg [⟨(some 48), (.mv (.t 11)), none⟩, ⟨(some 49), (.ld 2 true (.t 2)), none⟩, ⟨(some 50), (.ld 2 true (.t 14)), none⟩, ⟨(some 51), (.ld 12 true (.t 13)), none⟩, ⟨(some 52), (.mv (.t 15)), none⟩, ⟨(some 53), (.pcall 40 [(.t 49), (.t 50), (.t 51), (.t 52)]), none⟩, ⟨(some 54), (.bldF 44 16 [(.t 53)]), none⟩, ⟨(some 55), (.app 44 16 200 (.t 48) (.t 54)), none⟩, ⟨(some 11), (.mv (.t 55)), none⟩]) (.reg [⟨(some 56), (.ld 2 true (.t 14)), none⟩, ⟨none, (.st 2 (.t 2) (.t 56)), none⟩]))))) (.reg [⟨(some 57), (.bin .add (.t 37) (.c (.int .i64 (1)))), none⟩, ⟨(some 37), (.mv (.t 57)), none⟩]))))))) (.seq (.reg [⟨(some 58), (.ld 2 true (.t 2)), none⟩, ⟨(some 59), (.mv (.t 11)), none⟩, ⟨none, (.st 2 (.t 4) (.t 58)), none⟩, ⟨(some 5), (.mv (.t 59)), none⟩, ⟨(some 6), (.mv (.c (.int .i64 (0)))), none⟩, ⟨(some 7), (.mv (.c (.int .i64 (0)))), none⟩]) .ret)))))), [(.cell 4 2 true), (.tmp 5), (.tmp 6), (.tmp 7)]⟩
theorem hc11 : toSF Tryz.prog {pure := [38, 39, 40], how := [(2, 6)]} Tryz.f11 = some c11 := by kernel_rfl
theorem hn11 : (Tryz.f11.name == "runtime.NumGoroutine") = false := by kernel_rfl
set_option maxHeartbeats 1000000 in
set_option maxRecDepth 10000 in
theorem do_ok (d : HDoc) (sm : DocSm d) (l : List HEdit) (hl : ∀ e ∈ l, EditSm e) (ll : l.length ≤ 1073741824) : PCalls (Pg G) 11 [.agg (eDoc d), sl eEdit l] (doV d l) := PCalls.outV fun h => by
  have hAll := all_ok (G := G) d sm l hl ll
  have hNil := (all_ok (G := G) d sm [] (fun e he => by cases he) (Nat.zero_le _)).wk (.cons (.refl _) (.cons .emp .nil))
  unfold allV at hAll hNil
  unfold doV
  refine dcalls_of_vc Tryz.func11 hn11 hc11 (by rw [Tryz.ntmps11]; simp) (by rw [Tryz.ntmps11]; decide) ?_
  simp -dsimp -implicitDefEqProofs (disch := omega) only [VCA, ↓upd_none, Nat.reduceEqDiff, ↓reduceIte, ne_eq, c11, eDoc_len]
  intro r2 hr2 r4 hr4
  have n1 : ¬ r4 = r2 := hr4.1
  have n2 : ¬ r2 = r4 := fun q => n1 q.symm
  by_cases h0 : (allM d l).2.2 = 0
  · obtain ⟨hd, l40, aM⟩ := allM_zero h0
    rw [allM_nil hd] at hNil
    have V := docE_DV hd
    rw [if_pos h0]
    have b0 : ((allM d l).2.2 != 0) = false := bN_f h0
    repeat' (first | ((with_reducible refine Br.dec (fun _ => ?_) (fun _ => ?_)) <;> try (exfalso; omega)) | ((with_reducible refine Br.eq (fun _ => ?_) (fun _ => ?_)) <;> try (exfalso; omega)) | ((with_reducible refine Br.ne (fun _ => ?_) (fun _ => ?_)) <;> try (exfalso; omega)) | ((with_reducible refine brNdec (fun _ => ?_) (fun _ => ?_)) <;> try (exfalso; omega)) | ((with_reducible refine brNeq (fun _ => ?_) (fun _ => ?_)) <;> try (exfalso; omega)) | with_reducible refine Br.intro (fun _ => ?_) (fun _ => ?_) | (with_reducible apply pcallE.of; · exact hAll) | (with_reducible refine And.intro ?_ ?_; · omega) | simp -dsimp -implicitDefEqProofs (disch := omega) only [VCA, ↓upd_none, Nat.reduceEqDiff, Nat.reduceAdd, Nat.reduceLT, ↓reduceIte, setAt, ne_eq, exists_eq_left', eDoc_len, eDoc_take, n2, b0])
    intro r8 hr8
    have n3 : ¬ r8 = r4 := hr8.1
    have n4 : ¬ r4 = r8 := fun q => n3 q.symm
    have n5 : ¬ r8 = r2 := hr8.2.1
    have n6 : ¬ r2 = r8 := fun q => n5 q.symm
    repeat' (first | ((with_reducible refine Br.dec (fun _ => ?_) (fun _ => ?_)) <;> try (exfalso; omega)) | ((with_reducible refine Br.eq (fun _ => ?_) (fun _ => ?_)) <;> try (exfalso; omega)) | ((with_reducible refine Br.ne (fun _ => ?_) (fun _ => ?_)) <;> try (exfalso; omega)) | ((with_reducible refine brNdec (fun _ => ?_) (fun _ => ?_)) <;> try (exfalso; omega)) | ((with_reducible refine brNeq (fun _ => ?_) (fun _ => ?_)) <;> try (exfalso; omega)) | with_reducible refine Br.intro (fun _ => ?_) (fun _ => ?_) | (with_reducible apply pcallE.of; · exact hNil) | (with_reducible refine And.intro ?_ ?_; · omega) | simp -dsimp -implicitDefEqProofs (disch := omega) only [VCA, Nat.reduceEqDiff, Nat.reduceAdd, Nat.reduceLT, ↓reduceIte, setAt, exists_eq_left', eDoc_len, eDoc_take, eDoc_drop, n2, n6])
    refine LoopVC.intro (fun m E h' => ∃ (k : Nat) (D : HDoc) (a : AVal) (acc : List HStep), k ≤ l.length ∧ m = l.length - k ∧ acc.length = k ∧ E 2 = .vp r2 0 ∧ E 4 = .vp r4 0 ∧ E 11 = a ∧ E 35 = sl eEdit l ∧ E 36 = aInt l.length ∧ E 37 = aInt k ∧ h' r2 = some ⟨.t 24, 2, [eDoc D]⟩ ∧ h' r4 = some ⟨.t 24, 2, [[.emp, .bool false]]⟩ ∧
        Acc h 44 16 (acc.map eStep) a h' ∧ Sub h h' ∧ rootOf a ≠ some r2 ∧ rootOf a ≠ some r4 ∧ DV D ∧ DocSm D ∧ runM D (l.drop k) k = allM d l ∧ acc ++ recM D (l.drop k) = recM d l) l.length
      ⟨0, d, .emp, [], by omega, by omega, rfl, rfl, rfl, rfl, rfl, rfl, rfl, ?_, ?_, .nil, ?_, (fun e => by cases e), (fun e => by cases e), V, sm, by rw [aM]; rfl, rfl⟩ ?_
    · exact upd_same _ _ _
    · simp only [upd, n1, n4, if_true, if_false]
    · repeat' (first | exact Sub.refl _ | exact hr2 | exact hr4.2 | exact hr8.2.2 | with_reducible refine Sub.upd ?_ ?_)
    rintro m E h' ⟨k, D, a, acc, hk, rfl, la, E2, E4, E11, E35, E36, E37, g2, g4, A, S, na2, na4, W, smD, hrun, hrec⟩
    simp -dsimp -implicitDefEqProofs (disch := omega) only [VCA, ↓reduceIte, ne_eq, E36, E37]
    refine Br.dec (fun hlt => ?_) (fun hge => ?_)
    · have hk' : k < l.length := by omega
      rw [runM_cons hk'] at hrun
      rw [recM_cons hk'] at hrec
      have hx := hl _ (nth_mem' hk')
      obtain ⟨x, hxx⟩ : ∃ x, nth l k = x := ⟨_, rfl⟩
      rw [hxx] at hrun hrec hx
      have hz : applyE D x = 0 := by
        apply Classical.byContradiction; intro hn
        rw [if_pos hn] at hrun
        rw [← hrun] at h0; exact hn h0
      rw [if_neg (by simpa using hz)] at hrun
      obtain ⟨W2, sm2, _, _⟩ := apply_step W smD hx hz
      have hAp := apply_ok (G := G) D smD x hx
      rw [hz] at hAp
      have hNo := noted_ok (G := G) D W smD x hx hz
      repeat' (first | ((with_reducible refine Br.dec (fun _ => ?_) (fun _ => ?_)) <;> try (exfalso; omega)) | ((with_reducible refine Br.eq (fun _ => ?_) (fun _ => ?_)) <;> try (exfalso; omega)) | ((with_reducible refine Br.ne (fun _ => ?_) (fun _ => ?_)) <;> try (exfalso; omega)) | ((with_reducible refine brNdec (fun _ => ?_) (fun _ => ?_)) <;> try (exfalso; omega)) | ((with_reducible refine brNeq (fun _ => ?_) (fun _ => ?_)) <;> try (exfalso; omega)) | with_reducible refine Br.intro (fun _ => ?_) (fun _ => ?_) | (with_reducible refine And.intro ?_ ?_; · omega) | simp -dsimp -implicitDefEqProofs (disch := omega) only [VCA, Nat.reduceEqDiff, Nat.reduceAdd, Nat.reduceLT, ↓reduceIte, setAt, exists_eq_left', E2, E35, E37, g2, hxx, eEdit_len', eEdit_take'])
      intro r13 hr13
      have k1 : ¬ r2 = r13 := fun q => by rw [← q, g2] at hr13; cases hr13
      have k2 : ¬ r13 = r2 := fun q => k1 q.symm
      have k3 : ¬ r4 = r13 := fun q => by rw [← q, g4] at hr13; cases hr13
      have k4 : ¬ r13 = r4 := fun q => k3 q.symm
      repeat' (first | ((with_reducible refine Br.dec (fun _ => ?_) (fun _ => ?_)) <;> try (exfalso; omega)) | ((with_reducible refine Br.eq (fun _ => ?_) (fun _ => ?_)) <;> try (exfalso; omega)) | ((with_reducible refine Br.ne (fun _ => ?_) (fun _ => ?_)) <;> try (exfalso; omega)) | ((with_reducible refine brNdec (fun _ => ?_) (fun _ => ?_)) <;> try (exfalso; omega)) | ((with_reducible refine brNeq (fun _ => ?_) (fun _ => ?_)) <;> try (exfalso; omega)) | with_reducible refine Br.intro (fun _ => ?_) (fun _ => ?_) | (with_reducible apply pcallE.of; · exact hAp) | (with_reducible refine And.intro ?_ ?_; · omega) | simp -dsimp -implicitDefEqProofs (disch := omega) only [VCA, ↓upd_none, Nat.reduceEqDiff, Nat.reduceAdd, Nat.reduceLT, ↓reduceIte, setAt, ne_eq, exists_eq_left', E2, E11, g2, k1, eEdit_take', eDoc_len, eDoc_take])
      intro r14 hr14
      have j1 : ¬ r2 = r14 := fun q => by rw [← q, g2] at hr14; cases hr14.2
      have j2 : ¬ r14 = r2 := fun q => j1 q.symm
      have j3 : ¬ r4 = r14 := fun q => by rw [← q, g4] at hr14; cases hr14.2
      have j4 : ¬ r14 = r4 := fun q => j3 q.symm
      have j5 : ¬ r14 = r13 := hr14.1
      have j6 : ¬ r13 = r14 := fun q => j5 q.symm
      have A1 : ∀ o o', Acc h 44 16 (acc.map eStep) a (upd (upd h' r13 (some o)) r14 (some o')) := fun o o' => A.re fun r ob q0 q1 =>
        ⟨q0, by rw [upd_ne _ _ (fun e => by rw [e, hr14.2] at q1; cases q1), upd_ne _ _ (fun e => by rw [e, hr13] at q1; cases q1)]; exact q1⟩
      have S1 : ∀ o o', Sub h (upd (upd h' r13 (some o)) r14 (some o')) := fun o o' => (S.upd (S.none hr13)).upd (S.none hr14.2)
      have m13 : rootOf a ≠ some r13 := fun q => by
        rcases A with ⟨_, rfl⟩ | ⟨r, _, q1, rfl⟩
        · cases q
        · cases q; rw [q1] at hr13; cases hr13
      have m14 : rootOf a ≠ some r14 := fun q => by
        rcases A with ⟨_, rfl⟩ | ⟨r, _, q1, rfl⟩
        · cases q
        · cases q; rw [q1] at hr14; cases hr14.2
      repeat' (first | ((with_reducible refine Br.dec (fun _ => ?_) (fun _ => ?_)) <;> try (exfalso; omega)) | ((with_reducible refine Br.eq (fun _ => ?_) (fun _ => ?_)) <;> try (exfalso; omega)) | ((with_reducible refine Br.ne (fun _ => ?_) (fun _ => ?_)) <;> try (exfalso; omega)) | ((with_reducible refine brNdec (fun _ => ?_) (fun _ => ?_)) <;> try (exfalso; omega)) | ((with_reducible refine brNeq (fun _ => ?_) (fun _ => ?_)) <;> try (exfalso; omega)) | with_reducible refine Br.intro (fun _ => ?_) (fun _ => ?_) | (with_reducible apply pcallE.of; · exact hNo) | ((refine (A1 _ _).appW (S1 _ _) (by simp; omega) (by simp; omega) (fun a' h3 A' S' kp => ?_))) | (with_reducible refine And.intro ?_ ?_; · omega) | simp -dsimp -implicitDefEqProofs (disch := omega) only [VCA, Nat.reduceEqDiff, Nat.reduceLT, ↓reduceIte, okParts, setAt, forall_eq, exists_eq_left, exists_eq_left', E2, E4, E35, E36, E37, j1, j6, eEdit_len', eEdit_take', eDoc_len, eDoc_take, eStep_len])
      obtain ⟨f2, p2⟩ := kp r2 ⟨24, 2, [eDoc D]⟩ (by simp only [upd, k1, j1, if_false]; exact g2) na2
      obtain ⟨f4, p4⟩ := kp r4 ⟨24, 2, [[.emp, .bool false]]⟩ (by simp only [upd, k3, j3, if_false]; exact g4) na4
      obtain ⟨f14, p14⟩ := kp r14 _ (upd_same _ _ _) m14
      repeat' (first | ((with_reducible refine Br.dec (fun _ => ?_) (fun _ => ?_)) <;> try (exfalso; omega)) | ((with_reducible refine Br.eq (fun _ => ?_) (fun _ => ?_)) <;> try (exfalso; omega)) | ((with_reducible refine Br.ne (fun _ => ?_) (fun _ => ?_)) <;> try (exfalso; omega)) | ((with_reducible refine brNdec (fun _ => ?_) (fun _ => ?_)) <;> try (exfalso; omega)) | ((with_reducible refine brNeq (fun _ => ?_) (fun _ => ?_)) <;> try (exfalso; omega)) | with_reducible refine Br.intro (fun _ => ?_) (fun _ => ?_) | (with_reducible refine And.intro ?_ ?_; · omega) | simp -dsimp -implicitDefEqProofs (disch := omega) only [VCA, Nat.reduceLT, exists_eq_left', f2, f4, f14, eDoc_len, eDoc_take, eDoc_drop])
      refine ⟨_, by omega, k + 1, applyD D x, a', acc ++ [stepM D x], by omega, rfl, by rw [List.length_append, la]; rfl, rfl, by omega, rfl, by rw [if_neg n1], ?_, S'.upd hr2, p2, p4, W2, sm2, ?_, ?_⟩
      · rw [List.map_append]; exact A'.keepA p2 _
      · rw [← hrun]; congr 1
      · rw [← hrec, List.append_assoc]; rfl
    · obtain rfl : k = l.length := by omega
      rw [List.drop_length, runM] at hrun
      rw [List.drop_length, recM, List.append_nil] at hrec
      rw [← hrun, ← hrec]
      repeat' (first | ((with_reducible refine Br.dec (fun _ => ?_) (fun _ => ?_)) <;> try (exfalso; omega)) | ((with_reducible refine Br.eq (fun _ => ?_) (fun _ => ?_)) <;> try (exfalso; omega)) | ((with_reducible refine Br.ne (fun _ => ?_) (fun _ => ?_)) <;> try (exfalso; omega)) | ((with_reducible refine brNdec (fun _ => ?_) (fun _ => ?_)) <;> try (exfalso; omega)) | ((with_reducible refine brNeq (fun _ => ?_) (fun _ => ?_)) <;> try (exfalso; omega)) | with_reducible refine Br.intro (fun _ => ?_) (fun _ => ?_) | (with_reducible refine And.intro ?_ ?_; · omega) | simp -dsimp -implicitDefEqProofs (disch := omega) only [VCA, Nat.reduceEqDiff, Nat.reduceAdd, Nat.reduceLT, ↓reduceIte, setAt, exists_eq_left', E2, E4, E11, g2, g4, eDoc_len, eDoc_take])
      refine ⟨_, Sub.refl _, S.upd hr4.2, .tup' (.cons (.refl _) (.cons ?_ (.cons (.refl _) (.cons (.refl _) .nil))))⟩
      exact (A.keepA na4 _).vw fun f hf => by obtain ⟨x, _, rfl⟩ := List.mem_map.1 hf; rfl
  · rw [if_neg h0]
    have b0 : ((allM d l).2.2 != 0) = true := bN_t h0
    repeat' (first | ((with_reducible refine Br.dec (fun _ => ?_) (fun _ => ?_)) <;> try (exfalso; omega)) | ((with_reducible refine Br.eq (fun _ => ?_) (fun _ => ?_)) <;> try (exfalso; omega)) | ((with_reducible refine Br.ne (fun _ => ?_) (fun _ => ?_)) <;> try (exfalso; omega)) | ((with_reducible refine brNdec (fun _ => ?_) (fun _ => ?_)) <;> try (exfalso; omega)) | ((with_reducible refine brNeq (fun _ => ?_) (fun _ => ?_)) <;> try (exfalso; omega)) | with_reducible refine Br.intro (fun _ => ?_) (fun _ => ?_) | (with_reducible apply pcallE.of; · exact hAll) | (with_reducible refine And.intro ?_ ?_; · omega) | simp -dsimp -implicitDefEqProofs (disch := omega) only [VCA, ↓upd_none, Nat.reduceEqDiff, Nat.reduceAdd, Nat.reduceLT, ↓reduceIte, fillA, okFill, setAt, ne_eq, exists_eq_left', eDoc_len, eDoc_take, n2, b0])
    intro r8 hr8
    have n3 : ¬ r8 = r4 := hr8.1
    have n4 : ¬ r4 = r8 := fun q => n3 q.symm
    have n5 : ¬ r8 = r2 := hr8.2.1
    have n6 : ¬ r2 = r8 := fun q => n5 q.symm
    repeat' (first | ((with_reducible refine Br.dec (fun _ => ?_) (fun _ => ?_)) <;> try (exfalso; omega)) | ((with_reducible refine Br.eq (fun _ => ?_) (fun _ => ?_)) <;> try (exfalso; omega)) | ((with_reducible refine Br.ne (fun _ => ?_) (fun _ => ?_)) <;> try (exfalso; omega)) | ((with_reducible refine brNdec (fun _ => ?_) (fun _ => ?_)) <;> try (exfalso; omega)) | ((with_reducible refine brNeq (fun _ => ?_) (fun _ => ?_)) <;> try (exfalso; omega)) | with_reducible refine Br.intro (fun _ => ?_) (fun _ => ?_) | (with_reducible refine And.intro ?_ ?_; · omega) | simp -dsimp -implicitDefEqProofs (disch := omega) only [VCA, Nat.reduceAdd, Nat.reduceLT, ↓reduceIte, exists_eq_left', n4])
    exact ⟨_, Sub.refl _, (((Sub.refl h).upd hr2).upd hr4.2 |>.upd hr8.2.2).upd hr4.2, .tup' (.cons (vw_noDoc _) (.cons .emp (.cons (.refl _) (.cons (.refl _) .nil))))⟩
end Go.Proofs.K
end
section
/- Steps: the nodes they touch. -/
set_option linter.unusedSimpArgs false
set_option linter.unusedVariables false
namespace Go.Proofs.K
open Go Go.Sim Go.Proofs Go.Shelf
variable {G : Glob}
def c72 : SFun := ⟨(.seq (.reg [⟨(some 1), (.boxF 44 16 (.t 0)), none⟩, ⟨(some 2), (.mv (.c .emp)), none⟩]) (.seq (.seq (.reg [⟨(some 3), (.fldA 0 (.t 1)), none⟩, ⟨(some 4), (.fldA 0 (.t 3)), none⟩, ⟨(some 5), (.ld 1 false (.t 4)), none⟩]) (.block 0 (.seq (.seq (.reg [⟨(some 7), (.bin .eql (.t 5) (.c (.int .i64 (1)))), none⟩, ⟨(some 6), (.mv (.t 7)), none⟩]) (.cond (.t 6) .skip (.seq (.reg [⟨(some 8), (.bin .eql (.t 5) (.c (.int .i64 (2)))), none⟩, ⟨(some 6), (.mv (.t 8)), none⟩]) (.cond (.t 6) .skip (.reg [⟨(some 9), (.bin .eql (.t 5) (.c (.int .i64 (3)))), none⟩, ⟨(some 6), (.mv (.t 9)), none⟩]))))) (.cond (.t 6) (.seq (.reg [⟨(some 10), (.fldA 0 (.t 1)), none⟩, ⟨(some 11), (.fldA 1 (.t 10)), none⟩, ⟨(some 12), (.ld 1 false (.t 11)), none⟩, ⟨(some 13), (.bldF 3 1 [(.t 12)]), none⟩, ⟨(some 2), (.mv (.t 13)), none⟩]) .ret) (.seq (.reg [⟨(some 15), (.bin .eql (.t 5) (.c (.int .i64 (5)))), none⟩, ⟨(some 14), (.mv (.t 15)), none⟩]) (.cond (.t 14) (.seq (.reg [⟨(some 16), (.fldA 0 (.t 1)), none⟩, ⟨(some 17), (.fldA 1 (.t 16)), none⟩, ⟨(some 18), (.ld 1 false (.t 17)), none⟩, ⟨(some 19), (.fldA 0 (.t 1)), none⟩, ⟨(some 20), (.fldA 2 (.t 19)), none⟩, ⟨(some 21), (.ld 1 false (.t 20)), none⟩, ⟨(some 22), (.bldF 3 1 [(.t 18), (.t 21)]), none⟩, ⟨(some 2), (.mv (.t 22)), none⟩]) .ret) (.seq (.reg [⟨(some 24), (.bin .eql (.t 5) (.c (.int .i64 (6)))), none⟩, ⟨(some 23), (.mv (.t 24)), none⟩]) (.cond (.t 23) (.seq (.reg [⟨(some 25), (.fldA 0 (.t 1)), none⟩, ⟨(some 26), (.fldA 1 (.t 25)), none⟩, ⟨(some 27), (.ld 1 false (.t 26)), none⟩, ⟨(some 28), (.fldA 14 (.t 1)), none⟩, ⟨(some 29), (.ld 1 false (.t 28)), none⟩, ⟨(some 30), (.bldF 3 1 [(.t 27), (.t 29)]), none⟩, ⟨(some 2), (.mv (.t 30)), none⟩]) .ret) (.seq (.reg [⟨(some 32), (.bin .eql (.t 5) (.c (.int .i64 (4)))), none⟩, ⟨(some 31), (.mv (.t 32)), none⟩]) (.cond (.t 31) (.seq (.reg [⟨(some 33), (.fldA 15 (.t 1)), none⟩, ⟨(some 34), (.ld 1 false (.t 33)), none⟩, ⟨(some 35), (.bldF 3 1 [(.t 34)]), none⟩, ⟨(some 2), (.mv (.t 35)), none⟩]) .ret) .skip)))))))))) (.seq (.reg [⟨(some 2), (.mv (.c .emp)), none⟩]) .ret))), [(.tmp 2)]⟩
theorem hc72 : toSF Tryz.prog {} Tryz.f72 = some c72 := by kernel_rfl
theorem hn72 : (Tryz.f72.name == "runtime.NumGoroutine") = false := by kernel_rfl
theorem nodes_ok (s : HStep) : PCalls (Pg G) 72 [.agg (eStep s)] (sl eInt (nodesS s)) := fun h => by
  refine DCalls.res (K := fun a h' => (a = sl eInt (nodesS s) ∨ nodesS s = [] ∧ a = .emp) ∧ h' = h) ?_ ?_
  · unfold nodesS
    refine dcalls_of_vc Tryz.func72 hn72 hc72 (by rw [Tryz.ntmps72]; simp) (by rw [Tryz.ntmps72]; decide) ?_
    unfold eStep
    simp -dsimp -implicitDefEqProofs (disch := omega) only [VCA, Nat.reduceEqDiff, Nat.reduceAdd, Nat.reduceLeDiff, ↓reduceIte, c72]
    by_cases h1 : s.edit.do' = 1 ∨ s.edit.do' = 2 ∨ s.edit.do' = 3
    · rw [if_pos h1]
      repeat' (first | ((with_reducible refine Br.dec (fun _ => ?_) (fun _ => ?_)) <;> try (exfalso; omega)) | ((with_reducible refine Br.eq (fun _ => ?_) (fun _ => ?_)) <;> try (exfalso; omega)) | ((with_reducible refine Br.ne (fun _ => ?_) (fun _ => ?_)) <;> try (exfalso; omega)) | ((with_reducible refine brNdec (fun _ => ?_) (fun _ => ?_)) <;> try (exfalso; omega)) | ((with_reducible refine brNeq (fun _ => ?_) (fun _ => ?_)) <;> try (exfalso; omega)) | with_reducible refine Br.intro (fun _ => ?_) (fun _ => ?_) | (with_reducible refine And.intro ?_ ?_; · omega) | simp -dsimp -implicitDefEqProofs (disch := omega) only [VCA, Nat.reduceEqDiff, Nat.reduceAdd, Nat.reduceLeDiff, ↓reduceIte, reduceCtorEq, okParts, exists_eq_right_right])
      all_goals first | (exfalso; omega) | exact Sub.refl _ | exact ⟨Sub.refl _, rfl⟩ | exact ⟨Sub.refl _, .inl rfl⟩
    · rw [if_neg h1]
      by_cases h5 : s.edit.do' = 5
      · rw [if_pos h5]
        repeat' (first | ((with_reducible refine Br.dec (fun _ => ?_) (fun _ => ?_)) <;> try (exfalso; omega)) | ((with_reducible refine Br.eq (fun _ => ?_) (fun _ => ?_)) <;> try (exfalso; omega)) | ((with_reducible refine Br.ne (fun _ => ?_) (fun _ => ?_)) <;> try (exfalso; omega)) | ((with_reducible refine brNdec (fun _ => ?_) (fun _ => ?_)) <;> try (exfalso; omega)) | ((with_reducible refine brNeq (fun _ => ?_) (fun _ => ?_)) <;> try (exfalso; omega)) | with_reducible refine Br.intro (fun _ => ?_) (fun _ => ?_) | (with_reducible refine And.intro ?_ ?_; · omega) | simp -dsimp -implicitDefEqProofs (disch := omega) only [VCA, Nat.reduceEqDiff, Nat.reduceAdd, Nat.reduceLeDiff, ↓reduceIte, reduceCtorEq, okParts, exists_eq_right_right])
        all_goals first | (exfalso; omega) | exact Sub.refl _ | exact ⟨Sub.refl _, rfl⟩ | exact ⟨Sub.refl _, .inl rfl⟩
      · rw [if_neg h5]
        by_cases h6 : s.edit.do' = 6
        · rw [if_pos h6]
          repeat' (first | ((with_reducible refine Br.dec (fun _ => ?_) (fun _ => ?_)) <;> try (exfalso; omega)) | ((with_reducible refine Br.eq (fun _ => ?_) (fun _ => ?_)) <;> try (exfalso; omega)) | ((with_reducible refine Br.ne (fun _ => ?_) (fun _ => ?_)) <;> try (exfalso; omega)) | ((with_reducible refine brNdec (fun _ => ?_) (fun _ => ?_)) <;> try (exfalso; omega)) | ((with_reducible refine brNeq (fun _ => ?_) (fun _ => ?_)) <;> try (exfalso; omega)) | with_reducible refine Br.intro (fun _ => ?_) (fun _ => ?_) | (with_reducible refine And.intro ?_ ?_; · omega) | simp -dsimp -implicitDefEqProofs (disch := omega) only [VCA, Nat.reduceEqDiff, Nat.reduceAdd, Nat.reduceLeDiff, ↓reduceIte, reduceCtorEq, okParts, exists_eq_right_right])
          all_goals first | (exfalso; omega) | exact Sub.refl _ | exact ⟨Sub.refl _, rfl⟩ | exact ⟨Sub.refl _, .inl rfl⟩
        · rw [if_neg h6]
          by_cases h4 : s.edit.do' = 4
          · rw [if_pos h4]
            repeat' (first | ((with_reducible refine Br.dec (fun _ => ?_) (fun _ => ?_)) <;> try (exfalso; omega)) | ((with_reducible refine Br.eq (fun _ => ?_) (fun _ => ?_)) <;> try (exfalso; omega)) | ((with_reducible refine Br.ne (fun _ => ?_) (fun _ => ?_)) <;> try (exfalso; omega)) | ((with_reducible refine brNdec (fun _ => ?_) (fun _ => ?_)) <;> try (exfalso; omega)) | ((with_reducible refine brNeq (fun _ => ?_) (fun _ => ?_)) <;> try (exfalso; omega)) | with_reducible refine Br.intro (fun _ => ?_) (fun _ => ?_) | (with_reducible refine And.intro ?_ ?_; · omega) | simp -dsimp -implicitDefEqProofs (disch := omega) only [VCA, Nat.reduceEqDiff, ↓reduceIte, reduceCtorEq, okParts, exists_eq_right_right])
            all_goals first | (exfalso; omega) | exact Sub.refl _ | exact ⟨Sub.refl _, rfl⟩ | exact ⟨Sub.refl _, .inl rfl⟩
          · rw [if_neg h4]
            repeat' (first | ((with_reducible refine Br.dec (fun _ => ?_) (fun _ => ?_)) <;> try (exfalso; omega)) | ((with_reducible refine Br.eq (fun _ => ?_) (fun _ => ?_)) <;> try (exfalso; omega)) | ((with_reducible refine Br.ne (fun _ => ?_) (fun _ => ?_)) <;> try (exfalso; omega)) | ((with_reducible refine brNdec (fun _ => ?_) (fun _ => ?_)) <;> try (exfalso; omega)) | ((with_reducible refine brNeq (fun _ => ?_) (fun _ => ?_)) <;> try (exfalso; omega)) | with_reducible refine Br.intro (fun _ => ?_) (fun _ => ?_) | (with_reducible refine And.intro ?_ ?_; · omega) | simp -dsimp -implicitDefEqProofs (disch := omega) only [VCA, Nat.reduceEqDiff, ↓reduceIte, exists_eq_right])
            all_goals first | (exfalso; omega) | exact Sub.refl _ | exact ⟨Sub.refl _, rfl⟩ | exact ⟨Sub.refl _, .inr ⟨rfl, rfl⟩⟩ | trace_state
  · rintro a h' ⟨ha, rfl⟩
    rcases ha with rfl | ⟨hn, rfl⟩
    · exact ⟨_, .refl _, rfl, rfl⟩
    · rw [hn]; exact ⟨_, .emp, rfl, rfl⟩
theorem vrel_two {g : Ghost} {w : World} {vs : Array Value} {a b : AVal} (V : VRelL g w vs [a, b]) : ∃ u v, vs = #[u, v] ∧ VRel g w u a ∧ VRel g w v b := by
  obtain ⟨hs, hv⟩ := V
  obtain ⟨l⟩ := vs
  match l, hs with
  | [u, v], _ => exact ⟨u, v, rfl, hv 0 u a rfl rfl, hv 1 v b rfl rfl⟩
/-- where a number is to be found, in a list that is in order -/
theorem searchI_ok {h : Heap} {r : Nat} {es : List (List AVal)} {l : List Int} (x : Int) (hr : h r = some ⟨.t 3, 1, es⟩) (hle : l.length ≤ es.length) (ht : es.take l.length = l.map eInt) (hl : l.length ≤ 100000) (hs : l.Pairwise (· ≤ ·)) :
    DCalls (Pg G) 75 [.osl r 1 0 l.length, aInt x] h fun a h' => (∃ b, a = .tup [aInt (l.countP (· < x) : Nat), .bool b]) ∧ h' = h := by
  refine ⟨⟨_, Tryz.func75, by kernel_rfl, by kernel_rfl⟩, fun g w vs H GR V => ?_⟩
  obtain ⟨va, vx, rfl, ha, hvx⟩ := vrel_two V
  rw [hvx.int_inv]
  obtain ⟨hrl, hsz, hc⟩ := ha.osl_inv
  have res : ∀ (n : Int) (b : Bool) (gg : Ghost) (ww : World), VRel gg ww (.tuple #[.int .i64 n, .bool b]) (.tup [aInt n, .bool b]) := fun n b gg ww =>
    .tup _ _ (by simp) fun j u y hu hy => by
      match j with
      | 0 => cases hu; cases hy; exact .int _ _
      | 1 => cases hu; cases hy; exact .bool _
      | j + 2 => cases hu
  have empty : l = [] → ∀ (p : Option Addr) (cap : Nat), va = .slice p 0 cap → Calls Tryz.prog 75 #[va, .int .i64 x] w fun e w' => ∃ v a h' g', e = .returned v ∧ ((∃ b, a = .tup [aInt (l.countP (· < x) : Nat), .bool b]) ∧ h' = h) ∧ HRel h' g' w' ∧ VRel g' w' v a ∧ GS g w g' w' := by
    intro he p cap hva
    subst he
    rw [hva]
    refine (Tryz.slices_BinarySearch_int_empty p cap x w).mono fun e w' ⟨he', hw⟩ => ?_
    subst hw
    exact ⟨_, _, h, g, he', ⟨⟨false, rfl⟩, rfl⟩, H, res 0 false _ _, GS.refl _ _⟩
  rcases hc with ⟨hA, h0, h1, h2⟩ | ⟨capv, off, hva, hnc, hm, hic, hoff⟩
  · exact empty (List.eq_nil_of_length_eq_zero h1) _ _ (by rw [hA])
  · by_cases hl0 : l.length = 0
    · exact empty (List.eq_nil_of_length_eq_zero hl0) _ _ (by rw [hva, hl0])
    · have hle2 := (H.obj r _ hr).le
      have hcr : g.cap r ≠ 0 := by omega
      obtain ⟨cur, hcur, hsz2, I⟩ := ints_block H hr hle ht hcr
      have hof : off = g.bo r := by have := hoff (by omega); omega
      subst hof
      rw [hva]
      refine (Tryz.slices_BinarySearch_int (g.eta r) (g.bo r) l.length capv l x w (Nat.le_refl _) (by omega) (fun j hj => ?_) (by rw [List.take_length]; exact hs)).mono fun e w' ⟨he, q, hw⟩ => ?_
      · rw [cell_of_row w _ _ cur _ _ hcur, I j hj]; rfl
      · rw [List.take_length] at he
        obtain ⟨S, H'⟩ := H.ext (w' := w') (fun b _ => by rw [hw]; rfl) (by rw [hw]; rfl) (by rw [hw]; rfl) (by rw [hw]; rfl) (by rw [hw]; exact Nat.le_refl _)
        exact ⟨_, _, h, g, he, ⟨⟨_, rfl⟩, rfl⟩, H', res _ _ _ _, S⟩
theorem low_count {l : List Int} (hs : l.Pairwise (· < ·)) : l.countP (· < 0) = lowN l := by
  induction l with
  | nil => rfl
  | cons x r ih =>
    obtain ⟨h1, h2⟩ := List.pairwise_cons.1 hs
    have hl : lowN (x :: r) = if x < 0 then lowN r + 1 else 0 := by
      unfold lowN
      rw [List.takeWhile_cons]
      by_cases hx : x < 0 <;> simp [hx]
    rw [List.countP_cons, ih h2, hl]
    by_cases hx : x < 0
    · simp [hx]
    · have h0 : lowN r = 0 := by
        rw [← ih h2]
        exact List.countP_eq_zero.2 fun y hy => by have := h1 y hy; simp; omega
      simp [hx, h0]
theorem sortE_ok {h : Heap} : DCalls (Pg G) 73 [.emp] h fun a h' => a = .tup [] ∧ h' = h := by
  refine ⟨⟨_, Tryz.func73, by kernel_rfl, by kernel_rfl⟩, fun g w vs H GR V => ?_⟩
  obtain ⟨va, rfl, ha⟩ := vrel_one V
  obtain ⟨A, hA, _⟩ := ha.emp_inv
  rw [hA]
  refine (Tryz.slices_Sort_int_none A 0 w).mono fun e w' ⟨he', hw⟩ => ?_
  subst hw
  exact ⟨_, .tup [], h, g, he', ⟨rfl, rfl⟩, H, .tup #[] [] rfl (by simp), GS.refl _ _⟩
theorem compactE_ok {h : Heap} : DCalls (Pg G) 74 [.emp] h fun a h' => a = .emp ∧ h' = h := by
  refine ⟨⟨_, Tryz.func74, by kernel_rfl, by kernel_rfl⟩, fun g w vs H GR V => ?_⟩
  obtain ⟨va, rfl, ha⟩ := vrel_one V
  have ha0 := ha
  obtain ⟨A, hA, _⟩ := ha.emp_inv
  rw [hA] at ha0 ⊢
  refine (Tryz.slices_Compact_int_empty A 0 w).mono fun e w' ⟨he', hw⟩ => ?_
  subst hw
  exact ⟨_, .emp, h, g, he', ⟨rfl, rfl⟩, H, ha0, GS.refl _ _⟩
theorem searchE_ok {h : Heap} (x : Int) : DCalls (Pg G) 75 [.emp, aInt x] h fun a h' => a = .tup [aInt 0, .bool false] ∧ h' = h := by
  refine ⟨⟨_, Tryz.func75, by kernel_rfl, by kernel_rfl⟩, fun g w vs H GR V => ?_⟩
  obtain ⟨va, vx, rfl, ha, hvx⟩ := vrel_two V
  obtain ⟨A, hA, _⟩ := ha.emp_inv
  rw [hA, hvx.int_inv]
  refine (Tryz.slices_BinarySearch_int_empty A 0 x w).mono fun e w' ⟨he', hw⟩ => ?_
  subst hw
  refine ⟨_, _, h, g, he', ⟨rfl, rfl⟩, H, ?_, GS.refl _ _⟩
  exact .tup _ _ (by simp) fun j u y hu hy => by
    match j with
    | 0 => cases hu; cases hy; exact .int _ _
    | 1 => cases hu; cases hy; exact .bool _
    | j + 2 => cases hu
def c36 : SFun := ⟨(.seq (.reg [⟨(some 2), (.mv (.c .emp)), none⟩]) (.seq (.reg [⟨(some 3), (.mv (.c .emp)), none⟩]) (.seq (.seq (.reg [⟨(some 8), (.mv (.t 0)), none⟩, ⟨(some 9), (.len (.t 8)), none⟩, ⟨(some 10), (.mv (.c (.int .i64 (0)))), none⟩]) (.block 0 (.loop (.seq (.reg [⟨(some 11), (.bin .lss (.t 10) (.t 9)), none⟩]) (.seq (.cond (.t 11) .skip (.exit 0)) (.seq (.block 1 (.seq (.reg [⟨(some 12), (.idxA 16 (.t 8) (.t 10)), none⟩, ⟨(some 13), (.ld 16 true (.t 12)), none⟩, ⟨(some 5), (.new 44 16 [(.int .i64 (0)), (.int .i64 (0)), (.int .i64 (0)), (.int .i64 (0)), (.str []), (.str []), (.int .i64 (0)), (.str []), .emp, (.str []), (.int .i64 (0)), .emp, (.bool false), (.str []), (.int .i64 (0)), (.int .i64 (0))]), none⟩, ⟨none, (.st 16 (.t 5) (.t 13)), none⟩]) (.reg [⟨(some 14), (.mv (.t 3)), none⟩, ⟨(some 15), (.ld 16 true (.t 5)), none⟩, ⟨(some 16), (.pcall 72 [(.t 15)]), none⟩, ⟨(some 17), (.app 3 1 8 (.t 14) (.t 16)), none⟩, ⟨(some 3), (.mv (.t 17)), none⟩]))) (.reg [⟨(some 18), (.bin .add (.t 10) (.c (.int .i64 (1)))), none⟩, ⟨(some 10), (.mv (.t 18)), none⟩]))))))) (.seq (.reg [⟨(some 19), (.mv (.t 3)), none⟩, ⟨(some 20), (.call (.c (.fn 73 [] [])) [(.t 19)]), none⟩]) (.seq (.reg [⟨(some 21), (.mv (.t 3)), none⟩, ⟨(some 22), (.call (.c (.fn 74 [] [])) [(.t 21)]), none⟩, ⟨(some 3), (.mv (.t 22)), none⟩]) (.seq (.reg [⟨(some 24), (.mv (.t 3)), none⟩, ⟨(some 25), (.call (.c (.fn 75 [] [])) [(.t 24), (.c (.int .i64 (0)))]), none⟩, ⟨(some 23), (.mv (.t 25)), none⟩, ⟨(some 26), (.ext (.t 23) 0), none⟩, ⟨(some 27), (.ext (.t 23) 1), none⟩, ⟨(some 6), (.mv (.t 26)), none⟩, ⟨(some 7), (.mv (.t 27)), none⟩]) (.seq (.reg [⟨(some 28), (.mv (.t 3)), none⟩, ⟨(some 29), (.mv (.t 6)), none⟩, ⟨(some 30), (.slA 1 (.t 28) (some (.t 29)) none), none⟩, ⟨(some 2), (.mv (.t 30)), none⟩]) .ret))))))), [(.tmp 2)]⟩
theorem hc36 : toSF Tryz.prog {pure := [72]} Tryz.f36 = some c36 := by kernel_rfl
theorem hn36 : (Tryz.f36.name == "runtime.NumGoroutine") = false := by kernel_rfl
set_option maxHeartbeats 1000000 in
set_option maxRecDepth 10000 in
theorem touched_ok (l : List HStep) (hl : l.length ≤ 1000) : PCalls (Pg G) 36 [sl eStep l] (sl eInt (touchedM l)) := PCalls.outV fun h => by
  have hlen := nodes_len l
  refine dcalls_of_vc Tryz.func36 hn36 hc36 (by rw [Tryz.ntmps36]; simp) (by rw [Tryz.ntmps36]; decide) ?_
  simp -dsimp -implicitDefEqProofs (disch := omega) only [VCA, ↓reduceIte, reduceCtorEq, c36]
  refine LoopVC.intro (fun m E h' => ∃ (k : Nat) (a : AVal), k ≤ l.length ∧ m = l.length - k ∧ E 3 = a ∧ E 8 = sl eStep l ∧ E 9 = aInt l.length ∧ E 10 = aInt k ∧ Acc h 3 1 (((l.take k).flatMap nodesS).map eInt) a h' ∧ Sub h h') l.length
    ⟨0, .emp, by omega, by omega, rfl, rfl, rfl, rfl, .nil, Sub.refl _⟩ ?_
  rintro m E h' ⟨k, a, hk, rfl, E3, E8, E9, E10, A, S⟩
  simp -dsimp -implicitDefEqProofs (disch := omega) only [VCA, ↓reduceIte, E9, E10]
  refine Br.dec (fun hlt => ?_) (fun hge => ?_)
  · have hk' : k < l.length := by omega
    have hN := nodes_ok (G := G) (nth l k)
    have ht : l.take (k + 1) = l.take k ++ [nth l k] := by
      have e : nth l k = l[k] := by unfold nth; rw [List.getD_eq_getElem?_getD, List.getElem?_eq_getElem hk']; rfl
      rw [e, List.take_succ_eq_append_getElem hk']
    have nl := nodesS_len (nth l k)
    have tl := nodes_len (l.take k)
    rw [List.length_take] at tl
    obtain ⟨x, hxx⟩ : ∃ x, nth l k = x := ⟨_, rfl⟩
    rw [hxx] at hN ht nl
    repeat' (first | ((with_reducible refine Br.dec (fun _ => ?_) (fun _ => ?_)) <;> try (exfalso; omega)) | ((with_reducible refine Br.eq (fun _ => ?_) (fun _ => ?_)) <;> try (exfalso; omega)) | ((with_reducible refine Br.ne (fun _ => ?_) (fun _ => ?_)) <;> try (exfalso; omega)) | ((with_reducible refine brNdec (fun _ => ?_) (fun _ => ?_)) <;> try (exfalso; omega)) | ((with_reducible refine brNeq (fun _ => ?_) (fun _ => ?_)) <;> try (exfalso; omega)) | with_reducible refine Br.intro (fun _ => ?_) (fun _ => ?_) | (with_reducible refine And.intro ?_ ?_; · omega) | simp -dsimp -implicitDefEqProofs (disch := omega) only [VCA, Nat.reduceEqDiff, Nat.reduceAdd, Nat.reduceLT, ↓reduceIte, setAt, exists_eq_left', E3, E8, E10, hxx, eStep_len, eStep_all])
    intro r5 hr5
    have A5 : ∀ o, Acc h 3 1 (((l.take k).flatMap nodesS).map eInt) a (upd h' r5 (some o)) := fun o => A.re fun r ob q0 q1 => ⟨q0, by rw [upd_ne _ _ (fun e => by rw [e, hr5] at q1; cases q1)]; exact q1⟩
    repeat' (first | ((with_reducible refine Br.dec (fun _ => ?_) (fun _ => ?_)) <;> try (exfalso; omega)) | ((with_reducible refine Br.eq (fun _ => ?_) (fun _ => ?_)) <;> try (exfalso; omega)) | ((with_reducible refine Br.ne (fun _ => ?_) (fun _ => ?_)) <;> try (exfalso; omega)) | ((with_reducible refine brNdec (fun _ => ?_) (fun _ => ?_)) <;> try (exfalso; omega)) | ((with_reducible refine brNeq (fun _ => ?_) (fun _ => ?_)) <;> try (exfalso; omega)) | with_reducible refine Br.intro (fun _ => ?_) (fun _ => ?_) | (with_reducible apply pcallE.of; · exact hN) | ((refine (A5 _).app (S.upd (S.none hr5)) (by simp only [List.length_map]; omega) (by simp only [List.length_map]; omega) (fun a' h3 A' S' => ?_))) | (with_reducible refine And.intro ?_ ?_; · omega) | simp -dsimp -implicitDefEqProofs (disch := omega) only [VCA, Nat.reduceEqDiff, ↓reduceIte, exists_eq_left, E8, E9, E10, eStep_all])
    refine ⟨_, by omega, k + 1, a', by omega, rfl, rfl, by omega, ?_, S'⟩
    rw [ht, List.flatMap_append, List.map_append]
    simpa using A'
  · obtain rfl : k = l.length := by omega
    rw [List.take_length] at A
    unfold touchedM
    rcases A with ⟨hn, rfl⟩ | ⟨r, q0, q1, rfl⟩
    · have hn : l.flatMap nodesS = [] := by simpa using hn
      rw [hn]
      repeat' (first | ((with_reducible refine Br.dec (fun _ => ?_) (fun _ => ?_)) <;> try (exfalso; omega)) | ((with_reducible refine Br.eq (fun _ => ?_) (fun _ => ?_)) <;> try (exfalso; omega)) | ((with_reducible refine Br.ne (fun _ => ?_) (fun _ => ?_)) <;> try (exfalso; omega)) | ((with_reducible refine brNdec (fun _ => ?_) (fun _ => ?_)) <;> try (exfalso; omega)) | ((with_reducible refine brNeq (fun _ => ?_) (fun _ => ?_)) <;> try (exfalso; omega)) | with_reducible refine Br.intro (fun _ => ?_) (fun _ => ?_) | ((refine DCalls.of sortE_ok ?_; rintro _ _ ⟨rfl, rfl⟩)) | ((refine DCalls.of compactE_ok ?_; rintro _ _ ⟨rfl, rfl⟩)) | ((refine DCalls.of (searchE_ok 0) ?_; rintro _ _ ⟨rfl, rfl⟩)) | (with_reducible refine And.intro ?_ ?_; · omega) | simp -dsimp -implicitDefEqProofs (disch := omega) only [VCA, Nat.reduceEqDiff, Nat.reduceAdd, Nat.reduceLT, ↓reduceIte, E3])
      have on : onceL [] = [] := List.eq_nil_of_length_eq_zero (by have := (onceL_spec []).2.2; simpa using this)
      rw [on]
      exact ⟨_, Sub.refl _, S, .one _ _ .emp⟩
    · obtain ⟨s1, s2, s3⟩ := onceL_spec (l.flatMap nodesS)
      have lc := low_count s1
      have ll := lowN_le (onceL (l.flatMap nodesS))
      generalize l.flatMap nodesS = L at *
      rw [List.length_map] at E3
      have hS := sortI_ok (G := G) q1 (by omega)
      have hC := compactI_ok (G := G) (h := upd h' r (some ⟨.t 3, 1, (sortL L).map eInt⟩)) (upd_same _ _ _) (by rw [sortL_len]; omega)
      rw [sortL_len] at hC
      have hQ : ∀ es : List (List AVal), (onceL L).length ≤ es.length → es.take (onceL L).length = (onceL L).map eInt → _ := fun es e1 e2 => searchI_ok (G := G) (h := upd h' r (some ⟨.t 3, 1, es⟩)) 0 (upd_same _ _ _) e1 e2 (by omega) (s1.imp (fun h => by omega))
      rw [show Lib.compact (sortL L) = onceL L from rfl] at hC
      rw [lc] at hQ
      repeat' (first | ((with_reducible refine Br.dec (fun _ => ?_) (fun _ => ?_)) <;> try (exfalso; omega)) | ((with_reducible refine Br.eq (fun _ => ?_) (fun _ => ?_)) <;> try (exfalso; omega)) | ((with_reducible refine Br.ne (fun _ => ?_) (fun _ => ?_)) <;> try (exfalso; omega)) | ((with_reducible refine brNdec (fun _ => ?_) (fun _ => ?_)) <;> try (exfalso; omega)) | ((with_reducible refine brNeq (fun _ => ?_) (fun _ => ?_)) <;> try (exfalso; omega)) | with_reducible refine Br.intro (fun _ => ?_) (fun _ => ?_) | ((refine DCalls.of hS ?_; rintro _ _ ⟨rfl, rfl⟩)) | ((refine DCalls.of hC ?_; rintro _ _ ⟨es, rfl, rfl, e1, e2⟩)) | ((refine DCalls.of (hQ es e1 e2) ?_; rintro _ _ ⟨⟨b, rfl⟩, rfl⟩)) | (with_reducible refine And.intro ?_ ?_; · omega) | simp -dsimp -implicitDefEqProofs (disch := omega) only [VCA, Nat.reduceEqDiff, Nat.reduceAdd, Nat.reduceLT, ↓reduceIte, E3])
      clear hS hC hQ s1 s2 lc
      generalize lowN (onceL L) = i at *
      generalize onceL L = O at *
      refine ⟨_, Sub.refl _, S.upd q0, .one _ _ (Vw.osl r 1 i (O.length - i) ⟨.t 3, 1, es⟩ ((O.drop i).map eInt) (by rw [newH_none q0, upd_same]) (by show i + (O.length - i) ≤ es.length; omega) (by simp) (fun f hf => by obtain ⟨x, _, rfl⟩ := List.mem_map.1 hf; rfl) fun k j e f x y he hf hx hy => ?_)⟩
      have hk : k < O.length - i := by
        have := (List.getElem?_eq_some_iff.1 hf).1
        simpa using this
      have he' : (es.take O.length)[i + k]? = some e := by rw [List.getElem?_take, if_pos (by omega)]; exact he
      rw [e2] at he'
      rw [List.map_drop, List.getElem?_drop, he'] at hf
      cases hf
      rw [hx] at hy; cases hy
      exact .refl _
end Go.Proofs.K
end
section
/- Steps: the reference's Do. -/
set_option linter.unusedSimpArgs false
set_option linter.unusedVariables false
namespace Go.Proofs.K
open Go Go.Sim Go.Proofs
variable {G : Glob}
end Go.Proofs.K
end
section
/- Steps undone (plain). -/
set_option linter.unusedSimpArgs false
set_option linter.unusedVariables false
namespace Go.Proofs.K
open Go Go.Sim Go.Proofs
def cutList {α : Type} (l : List α) (i : Nat) : List α := l.take i ++ l.drop (i + 1)
def putList {α : Type} (l : List α) (i : Nat) (x : α) : List α := l.take i ++ x :: l.drop i
def popN (d : HDoc) : HDoc := ⟨d.nodes.take (d.nodes.length - 1), d.quirks⟩
/-- does a step fit? -/
def fitM (d : HDoc) (s : HStep) : Prop :=
  if s.edit.do' = 1 then inD d s.edit.at' ∧ 0 ≤ attrAt (nd d s.edit.at').attrs s.edit.name ∧ (s.had = true ∨ attrAt (nd d s.edit.at').attrs s.edit.name = ((nd d s.edit.at').attrs.length : Int) - 1)
  else if s.edit.do' = 2 then inD d s.edit.at' ∧ (nd d s.edit.at').kind = 2 ∧ 0 ≤ s.place ∧ s.place ≤ (nd d s.edit.at').attrs.length ∧ ¬ 0 ≤ attrAt (nd d s.edit.at').attrs s.edit.name
  else if s.edit.do' = 3 then inD d s.edit.at' ∧ ((nd d s.edit.at').kind = 3 ∨ (nd d s.edit.at').kind = 4)
  else if s.edit.do' = 4 then s.place = (d.nodes.length : Int) - 1 ∧ 2 ≤ d.nodes.length ∧ (nd d ((d.nodes.length : Int) - 1)).parent = -1 ∧ (nd d ((d.nodes.length : Int) - 1)).kids = []
  else if s.edit.do' = 5 then inD d s.edit.at' ∧ inD d s.edit.to ∧ 0 ≤ s.place ∧ s.place < (nd d s.edit.at').kids.length ∧ nth (nd d s.edit.at').kids s.place.toNat = s.edit.to
  else if s.edit.do' = 6 then inD d s.parent ∧ inD d s.edit.at' ∧ s.edit.at' ≠ 0 ∧ (nd d s.edit.at').parent = -1 ∧ 0 ≤ s.place ∧ s.place ≤ (nd d s.parent).kids.length
  else False
instance (d : HDoc) (s : HStep) : Decidable (fitM d s) := by unfold fitM inD; infer_instance
/-- a document whose node's kids are l, and another node's parent is p -/
def rehung (d : HDoc) (a t : Int) (l : List Int) (p : Int) : HDoc :=
  setN (setN d a { nd d a with kids := l }) t { nd (setN d a { nd d a with kids := l }) t with parent := p }
/-- what a step that fits leaves -/
def undoD (d : HDoc) (s : HStep) : HDoc :=
  if s.edit.do' = 1 then setN d s.edit.at' { nd d s.edit.at' with attrs := if s.had = true then (nd d s.edit.at').attrs.set (attrAt (nd d s.edit.at').attrs s.edit.name).toNat ⟨s.edit.name, s.was⟩ else (nd d s.edit.at').attrs.take (attrAt (nd d s.edit.at').attrs s.edit.name).toNat }
  else if s.edit.do' = 2 then setN d s.edit.at' { nd d s.edit.at' with attrs := putList (nd d s.edit.at').attrs s.place.toNat ⟨s.edit.name, s.was⟩ }
  else if s.edit.do' = 3 then setN d s.edit.at' { nd d s.edit.at' with text := s.was }
  else if s.edit.do' = 4 then popN d
  else if s.edit.do' = 5 then rehung d s.edit.at' s.edit.to (cutList (nd d s.edit.at').kids s.place.toNat) (-1)
  else rehung d s.parent s.edit.at' (putList (nd d s.parent).kids s.place.toNat s.edit.at') s.parent
/-- what undoing leaves as it is: small lists, no name twice -/
structure USm (k : Nat) (d : HDoc) : Prop where
  len : d.nodes.length ≤ 200
  sm : DocSm d
  kids : ∀ n, (nd d n).kids.length ≤ 300 + k
  attrs : ∀ n, (nd d n).attrs.length ≤ 300 + k
  names : ∀ n, ((nd d n).attrs.map (·.name)).Nodup
theorem nd_out {d : HDoc} {n : Int} (h : ¬ n.toNat < d.nodes.length) : nd d n = default := nth_def h
theorem nd_or {d : HDoc} (n : Int) : nd d n = default ∨ ∃ m, inD d m ∧ nd d n = nd d m := by
  by_cases h : n.toNat < d.nodes.length
  · exact .inr ⟨n.toNat, inD_nat.2 h, by unfold nd; rw [Int.toNat_natCast]⟩
  · exact .inl (nd_out h)
theorem DV.usm {d : HDoc} (V : DV d) (sm : DocSm d) : USm 0 d := by
  refine ⟨V.len, sm, fun n => ?_, fun n => ?_, fun n => ?_⟩
  · rcases nd_or (d := d) n with h | ⟨m, hm, h⟩
    · rw [h]; decide
    · rw [h]
      have := nodup_len d.nodes.length (nd d m).kids (V.nodup m hm) (fun k hk => (V.kid m hm k hk).1)
      have := V.len
      omega
  · rcases nd_or (d := d) n with h | ⟨m, hm, h⟩
    · rw [h]; decide
    · rw [h]
      have := ((attrsE_iff _).1 ((nodeE_iff _).1 (V.node _ hm)).2.2.2.1).1
      omega
  · rcases nd_or (d := d) n with h | ⟨m, hm, h⟩
    · rw [h]; exact List.nodup_nil
    · rw [h]; exact ((attrsE_iff _).1 ((nodeE_iff _).1 (V.node _ hm)).2.2.2.1).2.2
theorem nd_setN_any {d : HDoc} {n m : Int} {x : HNode} : nd (setN d n x) m = x ∨ nd (setN d n x) m = nd d m := by
  unfold nd setN nth
  simp only [List.getD_eq_getElem?_getD, List.getElem?_set]
  split
  · split
    · exact .inl rfl
    · rename_i h1 h2
      right
      rw [List.getElem?_eq_none (by omega)]
  · exact .inr rfl
theorem USm.set {k : Nat} {d : HDoc} (U : USm k d) {n : Int} {x : HNode} (hx : NodeSm x) (h1 : x.kids.length ≤ 300 + (k + 1)) (h2 : x.attrs.length ≤ 300 + (k + 1)) (h3 : (x.attrs.map (·.name)).Nodup) : USm (k + 1) (setN d n x) := by
  refine ⟨by rw [setN_len]; exact U.len, U.sm.setN hx, fun m => ?_, fun m => ?_, fun m => ?_⟩
  · rcases nd_setN_any (d := d) (n := n) (m := m) (x := x) with h | h <;> rw [h]
    · exact h1
    · have := U.kids m; omega
  · rcases nd_setN_any (d := d) (n := n) (m := m) (x := x) with h | h <;> rw [h]
    · exact h2
    · have := U.attrs m; omega
  · rcases nd_setN_any (d := d) (n := n) (m := m) (x := x) with h | h <;> rw [h]
    · exact h3
    · exact U.names m
theorem USm.same {k : Nat} {d : HDoc} (U : USm k d) {n m : Int} {p : Int} : USm k (setN d n { nd d m with parent := p }) := by
  have N := U.sm.nd m
  refine ⟨by rw [setN_len]; exact U.len, U.sm.setN ⟨N.name, N.attrs, N.each, N.text, N.kids⟩, fun t => ?_, fun t => ?_, fun t => ?_⟩
  · rcases nd_setN_any (d := d) (n := n) (m := t) (x := { nd d m with parent := p }) with h | h <;> rw [h]
    · exact U.kids m
    · exact U.kids t
  · rcases nd_setN_any (d := d) (n := n) (m := t) (x := { nd d m with parent := p }) with h | h <;> rw [h]
    · exact U.attrs m
    · exact U.attrs t
  · rcases nd_setN_any (d := d) (n := n) (m := t) (x := { nd d m with parent := p }) with h | h <;> rw [h]
    · exact U.names m
    · exact U.names t
theorem putList_len {α : Type} {l : List α} {i : Nat} {x : α} (hi : i ≤ l.length) : (putList l i x).length = l.length + 1 := by
  unfold putList; rw [List.length_append, List.length_cons, List.length_take, List.length_drop]; omega
theorem cutList_len {α : Type} {l : List α} {i : Nat} (hi : i < l.length) : (cutList l i).length + 1 = l.length := by
  unfold cutList; rw [List.length_append, List.length_take, List.length_drop]; omega
theorem mem_putList {α : Type} {l : List α} {i : Nat} {x y : α} (h : y ∈ putList l i x) : y = x ∨ y ∈ l := by
  unfold putList at h
  rcases List.mem_append.1 h with h | h
  · exact .inr (List.mem_of_mem_take h)
  · rcases List.mem_cons.1 h with h | h
    · exact .inl h
    · exact .inr (List.mem_of_mem_drop h)
theorem USm.undo {k : Nat} {d : HDoc} {s : HStep} (U : USm k d) (hs : StepSm s) (hk : k ≤ 1000) (hf : fitM d s) : USm (k + 1) (undoD d s) := by
  have N := fun n => U.sm.nd n
  have ka := U.kids
  have aa := U.attrs
  have na := U.names
  unfold fitM at hf
  unfold undoD
  by_cases h1 : s.edit.do' = 1
  · rw [if_pos h1] at hf ⊢
    obtain ⟨_, h0, _⟩ := hf
    obtain ⟨g1, g2, g3⟩ := attrAt_spec _ _ h0
    have := ka s.edit.at'; have := aa s.edit.at'
    refine U.set ⟨(N _).name, ?_, ?_, (N _).text, (N _).kids⟩ (by show (nd d s.edit.at').kids.length ≤ _; omega) ?_ ?_
    · show List.length (if _ then _ else _) ≤ _
      split
      · rw [List.length_set]; omega
      · rw [List.length_take]; omega
    · intro a ha
      have ha : a ∈ (if s.had = true then (nd d s.edit.at').attrs.set (attrAt (nd d s.edit.at').attrs s.edit.name).toNat ⟨s.edit.name, s.was⟩ else (nd d s.edit.at').attrs.take (attrAt (nd d s.edit.at').attrs s.edit.name).toNat) := ha
      split at ha
      · rcases List.mem_or_eq_of_mem_set ha with h | h
        · exact (N _).each a h
        · subst h; exact ⟨hs.edit.name, hs.was⟩
      · exact (N _).each a (List.mem_of_mem_take ha)
    · show List.length (if _ then _ else _) ≤ _
      split
      · rw [List.length_set]; omega
      · rw [List.length_take]; omega
    · show (List.map _ (if _ then _ else _)).Nodup
      split
      · rw [map_set_name g1 (by rw [g2])]; exact na _
      · rw [List.map_take]; exact (na _).sublist (List.take_sublist _ _)
  rw [if_neg h1] at hf ⊢
  by_cases h2 : s.edit.do' = 2
  · rw [if_pos h2] at hf ⊢
    obtain ⟨_, _, p0, p1, h0⟩ := hf
    have := ka s.edit.at'; have := aa s.edit.at'
    have pl := putList_len (l := (nd d s.edit.at').attrs) (i := s.place.toNat) (x := (⟨s.edit.name, s.was⟩ : HAttr)) (by omega)
    refine U.set ⟨(N _).name, ?_, ?_, (N _).text, (N _).kids⟩ (by show (nd d s.edit.at').kids.length ≤ _; omega) ?_ ?_
    · show (putList _ _ _).length ≤ _; omega
    · intro a ha
      rcases mem_putList ha with h | h
      · subst h; exact ⟨hs.edit.name, hs.was⟩
      · exact (N _).each a h
    · show (putList _ _ _).length ≤ _; omega
    · show (List.map _ (putList _ _ _)).Nodup
      have nn := na s.edit.at'
      have hm : s.edit.name ∉ (nd d s.edit.at').attrs.map (·.name) := fun h => h0 ((attrAt_mem _ _).2 h)
      unfold putList
      rw [List.map_append, List.map_cons, List.map_take, List.map_drop]
      generalize (nd d s.edit.at').attrs.map (·.name) = L at nn hm
      have h4 : (L.take s.place.toNat ++ L.drop s.place.toNat).Nodup := by rw [List.take_append_drop]; exact nn
      rw [List.nodup_append] at h4 ⊢
      obtain ⟨q1, q2, q3⟩ := h4
      refine ⟨q1, List.nodup_cons.2 ⟨fun h => hm (List.mem_of_mem_drop h), q2⟩, fun a ha b hb => ?_⟩
      rcases List.mem_cons.1 hb with rfl | hb
      · intro e; subst e; exact hm (List.mem_of_mem_take ha)
      · exact q3 a ha b hb
  rw [if_neg h2] at hf ⊢
  by_cases h3 : s.edit.do' = 3
  · rw [if_pos h3]
    have := ka s.edit.at'; have := aa s.edit.at'
    exact U.set ⟨(N _).name, (N _).attrs, (N _).each, hs.was, (N _).kids⟩ (by show (nd d s.edit.at').kids.length ≤ _; omega) (by show (nd d s.edit.at').attrs.length ≤ _; omega) (na _)
  rw [if_neg h3] at hf ⊢
  by_cases h4 : s.edit.do' = 4
  · rw [if_pos h4]
    have hp : ∀ n, nd (popN d) n = default ∨ nd (popN d) n = nd d n := fun n => by
      unfold nd popN nth
      simp only [List.getD_eq_getElem?_getD, List.getElem?_take]
      split
      · exact .inr rfl
      · exact .inl rfl
    refine ⟨by show (List.take _ _).length ≤ _; rw [List.length_take]; have := U.len; omega, ⟨by show (List.take _ _).length ≤ _; rw [List.length_take]; have := U.len; omega, fun x hx => U.sm.each x (List.mem_of_mem_take hx)⟩, fun n => ?_, fun n => ?_, fun n => ?_⟩
    · rcases hp n with h | h <;> rw [h]
      · exact Nat.zero_le _
      · have := ka n; omega
    · rcases hp n with h | h <;> rw [h]
      · exact Nat.zero_le _
      · have := aa n; omega
    · rcases hp n with h | h <;> rw [h]
      · exact List.nodup_nil
      · exact na n
  rw [if_neg h4] at hf ⊢
  by_cases h5 : s.edit.do' = 5
  · rw [if_pos h5] at hf ⊢
    obtain ⟨_, _, p0, p1, _⟩ := hf
    have cl := cutList_len (l := (nd d s.edit.at').kids) (i := s.place.toNat) (by omega)
    have := ka s.edit.at'; have := aa s.edit.at'
    unfold rehung
    exact (U.set (n := s.edit.at') (x := { nd d s.edit.at' with kids := cutList (nd d s.edit.at').kids s.place.toNat }) ⟨(N _).name, (N _).attrs, (N _).each, (N _).text, by show (cutList _ _).length ≤ _; omega⟩ (by show (cutList _ _).length ≤ _; omega) (by show (nd d s.edit.at').attrs.length ≤ _; omega) (na _)).same
  rw [if_neg h5] at hf ⊢
  by_cases h6 : s.edit.do' = 6
  · rw [if_pos h6] at hf
    obtain ⟨_, _, _, _, p0, p1⟩ := hf
    have pl := putList_len (l := (nd d s.parent).kids) (i := s.place.toNat) (x := s.edit.at') (by omega)
    have := ka s.parent; have := aa s.parent
    unfold rehung
    exact (U.set (n := s.parent) (x := { nd d s.parent with kids := putList (nd d s.parent).kids s.place.toNat s.edit.at' }) ⟨(N _).name, (N _).attrs, (N _).each, (N _).text, by show (putList _ _ _).length ≤ _; omega⟩ (by show (putList _ _ _).length ≤ _; omega) (by show (nd d s.parent).attrs.length ≤ _; omega) (na _)).same
  · rw [if_neg h6] at hf; exact hf.elim
/-- all steps, the last one first; none: one did not fit -/
def backM : HDoc → List HStep → Option HDoc
  | d, [] => some d
  | d, s :: l => if fitM d s then backM (undoD d s) l else none
/-- what Undo answers -/
def undoE (d : HDoc) (l : List HStep) : Int :=
  if docE d ≠ 0 then docE d else if 40 < l.length then 2 else match backM d l.reverse with | none => 9 | some x => if docE x ≠ 0 then 9 else 0
def undoR (d : HDoc) (l : List HStep) : HDoc := if undoE d l = 0 then (backM d l.reverse).getD noDoc else noDoc
end Go.Proofs.K
end
section
/- Steps undone: the undoer's document. -/
set_option linter.unusedSimpArgs false
set_option linter.unusedVariables false
namespace Go.Proofs.K
open Go Go.Sim Go.Proofs
variable {G : Glob}
/-- an undoer: a document of its own, of which the first n nodes are there -/
structure Un (h0 h : Heap) (re rN : Nat) (d : HDoc) (n : Nat) (sl : Nat → AVal) : Prop where
  dw : Dw [re] h0 h rN d sl
  un : h re = some ⟨.t 79, 2, [[.osl rN 6 0 n, .bool d.quirks]]⟩
  new : h0 re = none
  live : ∀ k, k < 2 * d.nodes.length → Mut (sl k)
  le : n ≤ d.nodes.length
section
variable {h0 h : Heap} {re rN : Nat} {d : HDoc} {n : Nat} {sl : Nat → AVal}
theorem Un.ne (E : Un h0 h re rN d n sl) : re ≠ rN := fun e => E.dw.new.2 (by simp [e])
/-- a node's row changed -/
theorem Un.put (E : Un h0 h re rN d n sl) {h2 : Heap} {sl' : Nat → AVal} {i : Nat} (hi : i < d.nodes.length) {x' : HNode}
    (hs : ∀ j, j ≠ 2 * i → j ≠ 2 * i + 1 → sl' j = sl j)
    (hN : h2 rN = some ⟨.t 40, 6, (rowsA d sl).set i (rowA x' (sl' (2 * i)) (sl' (2 * i + 1)))⟩)
    (hk : ∀ r o, h r = some o → r ≠ rN → rootOf (sl (2 * i)) ≠ some r → rootOf (sl (2 * i + 1)) ≠ some r → h2 r = some o)
    (hA : OwnS h2 96 2 (x'.attrs.map eAttr) (sl' (2 * i))) (hK : OwnS h2 3 1 (x'.kids.map eInt) (sl' (2 * i + 1)))
    (hf : ∀ r, rootOf (sl' (2 * i)) = some r ∨ rootOf (sl' (2 * i + 1)) = some r → rootOf (sl (2 * i)) = some r ∨ rootOf (sl (2 * i + 1)) = some r ∨ h r = none)
    (hd : ∀ r, rootOf (sl' (2 * i)) = some r → rootOf (sl' (2 * i + 1)) ≠ some r)
    (hm : Mut (sl' (2 * i)) ∧ Mut (sl' (2 * i + 1))) : Un h0 h2 re rN ⟨d.nodes.set i x', d.quirks⟩ n sl' := by
  have hl : (d.nodes.set i x').length = d.nodes.length := by simp
  refine ⟨E.dw.put hi hs hN hk hA hK hf hd, ?_, E.new, fun k hk' => ?_, by rw [hl]; exact E.le⟩
  · show h2 re = some ⟨_, 2, [[.osl rN 6 0 n, _]]⟩
    refine hk re _ E.un E.ne (fun h => (E.dw.fresh _ (by omega) re h).2.2 (by simp)) (fun h => (E.dw.fresh _ (by omega) re h).2.2 (by simp))
  · simp only [hl] at hk'
    by_cases e1 : k = 2 * i
    · rw [e1]; exact hm.1
    · by_cases e2 : k = 2 * i + 1
      · rw [e2]; exact hm.2
      · rw [hs k e1 e2]; exact E.live k hk'
/-- .. but for its lists -/
theorem Un.cells (E : Un h0 h re rN d n sl) {i : Nat} (hi : i < d.nodes.length) {x' : HNode} (hA : x'.attrs = (nth d.nodes i).attrs) (hK : x'.kids = (nth d.nodes i).kids) :
    Un h0 (upd h rN (some ⟨.t 40, 6, (rowsA d sl).set i (rowA x' (sl (2 * i)) (sl (2 * i + 1)))⟩)) re rN ⟨d.nodes.set i x', d.quirks⟩ n sl := by
  obtain ⟨g1, g2⟩ := E.dw.own i hi
  have k1 : ∀ k, k < 2 * d.nodes.length → ∀ r, rootOf (sl k) = some r → r ≠ rN := fun k hk r hr => (E.dw.fresh k hk r hr).2.1
  refine E.put hi (fun _ _ _ => rfl) (upd_same _ _ _) (fun r o ho hne _ _ => by rw [upd_ne _ _ hne]; exact ho) ?_ ?_ (fun r hr => by rcases hr with h | h; exact .inl h; exact .inr (.inl h)) (fun r hr => E.dw.sep _ _ (by omega) (by omega) (by omega) r hr) ⟨E.live _ (by omega), E.live _ (by omega)⟩
  · rw [hA]; exact g1.keep fun r o hr ho => by rw [upd_ne _ _ (k1 _ (by omega) r hr)]; exact ho
  · rw [hK]; exact g2.keep fun r o hr ho => by rw [upd_ne _ _ (k1 _ (by omega) r hr)]; exact ho
end

/-- the first n nodes -/
def headD (d : HDoc) (n : Nat) : HDoc := ⟨d.nodes.take n, d.quirks⟩
theorem headD_len {d : HDoc} {n : Nat} (h : n ≤ d.nodes.length) : (headD d n).nodes.length = n := by unfold headD; rw [List.length_take]; omega
theorem inD_head {d : HDoc} {n : Nat} (h : n ≤ d.nodes.length) (m : Int) : inD (headD d n) m ↔ 0 ≤ m ∧ m < n := by unfold inD; rw [headD_len h]
theorem nth_take' {α : Type} [Inhabited α] {l : List α} {i n : Nat} (h : i < n) : nth (l.take n) i = nth l i := by
  unfold nth; rw [List.getD_eq_getElem?_getD, List.getD_eq_getElem?_getD, List.getElem?_take, if_pos h]
theorem nd_head {d : HDoc} {n : Nat} {m : Int} (h : m.toNat < n) : nd (headD d n) m = nd d m := by unfold nd headD; exact nth_take' h
theorem head_setN {d : HDoc} {n : Nat} {m : Int} {x : HNode} : headD (setN d m x) n = setN (headD d n) m x := by
  unfold headD setN; rw [List.take_set]
def nodeU (rN n : Nat) (m : Int) : AVal := if 0 ≤ m ∧ m < n then .ptr rN m.toNat 0 else .prim (.pointer none)
def c114 : SFun := ⟨(.seq (.reg [⟨(some 4), (.mv (.c (.prim (Value.pointer none)))), none⟩]) (.seq (.seq (.reg [⟨(some 5), (.mv (.t 1)), none⟩, ⟨(some 6), (.bin .lss (.t 5) (.c (.int .i64 (0)))), none⟩, ⟨(some 7), (.mv (.t 6)), none⟩, ⟨(some 8), (.mv (.t 1)), (some (7, false))⟩, ⟨(some 9), (.mv (.t 0)), (some (7, false))⟩, ⟨(some 10), (.fldA 0 (.t 9)), (some (7, false))⟩, ⟨(some 11), (.fldA 0 (.t 10)), (some (7, false))⟩, ⟨(some 12), (.fldA 0 (.t 11)), (some (7, false))⟩, ⟨(some 13), (.ld 1 false (.t 12)), (some (7, false))⟩, ⟨(some 14), (.len (.t 13)), (some (7, false))⟩, ⟨(some 15), (.bin .geq (.t 8) (.t 14)), (some (7, false))⟩, ⟨(some 16), (.pick (.t 7) (.c (.bool true)) (.t 15)), none⟩]) (.cond (.t 16) (.seq (.reg [⟨(some 4), (.mv (.c (.prim (Value.pointer none)))), none⟩]) .ret) .skip)) (.seq (.reg [⟨(some 17), (.mv (.t 0)), none⟩, ⟨(some 18), (.fldA 0 (.t 17)), none⟩, ⟨(some 19), (.fldA 0 (.t 18)), none⟩, ⟨(some 20), (.fldA 0 (.t 19)), none⟩, ⟨(some 21), (.ld 1 false (.t 20)), none⟩, ⟨(some 22), (.mv (.t 1)), none⟩, ⟨(some 23), (.idxA 6 (.t 21) (.t 22)), none⟩, ⟨(some 4), (.mv (.t 23)), none⟩]) .ret))), [(.tmp 4)]⟩
theorem hc114 : toSF Tryz.prog {} Tryz.f114 = some c114 := by kernel_rfl
theorem hn114 : (Tryz.f114.name == "runtime.NumGoroutine") = false := by kernel_rfl
theorem unode_ok {h0 h : Heap} {re rN : Nat} {d : HDoc} {n : Nat} {sl : Nat → AVal} (E : Un h0 h re rN d n sl) (hn : n ≤ 100000) (m : Int) : DCalls (Pg G) 114 [.vp re 0, aInt m] h fun r h' => r = nodeU rN n m ∧ h' = h := by
  have g := E.un
  refine dcalls_of_vc Tryz.func114 hn114 hc114 (by rw [Tryz.ntmps114]; simp) (by rw [Tryz.ntmps114]; decide) ?_
  unfold nodeU
  by_cases hm : 0 ≤ m ∧ m < n
  · have n0 := hm.1
    have n1 := hm.2
    rw [if_pos hm]
    simp -dsimp -implicitDefEqProofs (disch := omega) only [↓vcOps_sp 7, VCA, Nat.reduceEqDiff, ↓reduceIte, c114]
    repeat' (first | ((with_reducible refine Br.dec (fun _ => ?_) (fun _ => ?_)) <;> try (exfalso; omega)) | ((with_reducible refine Br.eq (fun _ => ?_) (fun _ => ?_)) <;> try (exfalso; omega)) | ((with_reducible refine Br.ne (fun _ => ?_) (fun _ => ?_)) <;> try (exfalso; omega)) | ((with_reducible refine brNdec (fun _ => ?_) (fun _ => ?_)) <;> try (exfalso; omega)) | ((with_reducible refine brNeq (fun _ => ?_) (fun _ => ?_)) <;> try (exfalso; omega)) | with_reducible refine Br.intro (fun _ => ?_) (fun _ => ?_) | (with_reducible refine And.intro ?_ ?_; · omega) | simp -dsimp -implicitDefEqProofs (disch := omega) only [VCA, Nat.reduceEqDiff, Nat.reduceAdd, Nat.reduceLT, Nat.reduceLeDiff, ↓reduceIte, reduceCtorEq, exists_eq_right, exists_eq_left', g])
    all_goals first | (exfalso; omega) | exact ⟨Sub.refl _, by simp⟩ | exact Sub.refl _
  · rw [if_neg hm]
    simp -dsimp -implicitDefEqProofs (disch := omega) only [↓vcOps_sp 7, VCA, Nat.reduceEqDiff, ↓reduceIte, c114]
    repeat' (first | ((with_reducible refine Br.dec (fun _ => ?_) (fun _ => ?_)) <;> try (exfalso; omega)) | ((with_reducible refine Br.eq (fun _ => ?_) (fun _ => ?_)) <;> try (exfalso; omega)) | ((with_reducible refine Br.ne (fun _ => ?_) (fun _ => ?_)) <;> try (exfalso; omega)) | ((with_reducible refine brNdec (fun _ => ?_) (fun _ => ?_)) <;> try (exfalso; omega)) | ((with_reducible refine brNeq (fun _ => ?_) (fun _ => ?_)) <;> try (exfalso; omega)) | with_reducible refine Br.intro (fun _ => ?_) (fun _ => ?_) | (with_reducible refine And.intro ?_ ?_; · omega) | simp -dsimp -implicitDefEqProofs (disch := omega) only [VCA, Nat.reduceEqDiff, Nat.reduceAdd, Nat.reduceLT, Nat.reduceLeDiff, ↓reduceIte, reduceCtorEq, exists_eq_right, exists_eq_left', g])
    all_goals first | (exfalso; omega) | exact Sub.refl _
/-- what undoing a step leaves -/
def UnR (h0 h : Heap) (re : Nat) (d : HDoc) (s : HStep) (r : AVal) (h' : Heap) : Prop :=
  r = .bool (decide (fitM d s)) ∧ ((¬ fitM d s ∧ h' = h) ∨ (fitM d s ∧ ∃ rN' d' n' sl', Un h0 h' re rN' d' n' sl' ∧ headD d' n' = undoD d s))
theorem UnR.bad {h0 h : Heap} {re : Nat} {d : HDoc} {s : HStep} (hf : ¬ fitM d s) : UnR h0 h re d s (.bool false) h := ⟨by rw [decide_eq_false hf], .inl ⟨hf, rfl⟩⟩
theorem UnR.good {h0 h h' : Heap} {re rN' n' : Nat} {d d' : HDoc} {sl' : Nat → AVal} {s : HStep} (hf : fitM d s) (E : Un h0 h' re rN' d' n' sl') (hd : headD d' n' = undoD d s) : UnR h0 h re d s (.bool true) h' :=
  ⟨by rw [decide_eq_true hf], .inr ⟨hf, rN', d', n', sl', E, hd⟩⟩
def c85 : SFun := ⟨(.seq (.reg [⟨(some 3), (.boxF 44 16 (.t 1)), none⟩, ⟨(some 4), (.mv (.c (.bool false))), none⟩]) (.seq (.reg [⟨(some 6), (.mv (.t 0)), none⟩, ⟨(some 7), (.fldA 0 (.t 3)), none⟩, ⟨(some 8), (.fldA 1 (.t 7)), none⟩, ⟨(some 9), (.ld 1 false (.t 8)), none⟩, ⟨(some 10), (.call (.c (.fn 114 [] [])) [(.t 6), (.t 9)]), none⟩, ⟨(some 5), (.mv (.t 10)), none⟩]) (.seq (.seq (.reg [⟨(some 11), (.mv (.t 5)), none⟩, ⟨(some 12), (.isnil 1 false (.t 11)), none⟩, ⟨(some 13), (.mv (.t 12)), none⟩, ⟨(some 14), (.mv (.t 5)), (some (13, false))⟩, ⟨(some 15), (.fldA 0 (.t 14)), (some (13, false))⟩, ⟨(some 16), (.fldA 0 (.t 15)), (some (13, false))⟩, ⟨(some 17), (.ld 1 false (.t 16)), (some (13, false))⟩, ⟨(some 18), (.bin .neq (.t 17) (.c (.int .i64 (3)))), (some (13, false))⟩, ⟨(some 19), (.mv (.t 18)), (some (13, false))⟩, ⟨(some 20), (.mv (.t 5)), (some (19, true))⟩, ⟨(some 21), (.fldA 0 (.t 20)), (some (19, true))⟩, ⟨(some 22), (.fldA 0 (.t 21)), (some (19, true))⟩, ⟨(some 23), (.ld 1 false (.t 22)), (some (19, true))⟩, ⟨(some 24), (.bin .neq (.t 23) (.c (.int .i64 (4)))), (some (19, true))⟩, ⟨(some 25), (.pick (.t 19) (.t 24) (.c (.bool false))), (some (13, false))⟩, ⟨(some 26), (.pick (.t 13) (.c (.bool true)) (.t 25)), none⟩]) (.cond (.t 26) (.seq (.reg [⟨(some 4), (.mv (.c (.bool false))), none⟩]) .ret) .skip)) (.seq (.reg [⟨(some 27), (.mv (.t 5)), none⟩, ⟨(some 28), (.fldA 13 (.t 3)), none⟩, ⟨(some 29), (.ld 1 false (.t 28)), none⟩, ⟨(some 30), (.fldA 0 (.t 27)), none⟩, ⟨(some 31), (.fldA 3 (.t 30)), none⟩, ⟨none, (.st 1 (.t 31) (.t 29)), none⟩]) (.seq (.reg [⟨(some 4), (.mv (.c (.bool true))), none⟩]) .ret))))), [(.tmp 4)]⟩
theorem hc85 : toSF Tryz.prog {} Tryz.f85 = some c85 := by kernel_rfl
theorem hn85 : (Tryz.f85.name == "runtime.NumGoroutine") = false := by kernel_rfl
theorem utext_ok {h0 h : Heap} {re rN : Nat} {d : HDoc} {n : Nat} {sl : Nat → AVal} (E : Un h0 h re rN d n sl) (hn : n ≤ 100000) (s : HStep) (hs : StepSm s) (hdo : s.edit.do' = 3) : DCalls (Pg G) 85 [.vp re 0, .agg (eStep s)] h (UnR h0 h re (headD d n) s) := by
  have gN := E.dw.nodes
  have le := E.le
  have hE := unode_ok (G := G) E hn s.edit.at'
  unfold nodeU at hE
  have eF : fitM (headD d n) s ↔ (0 ≤ s.edit.at' ∧ s.edit.at' < n) ∧ ((nd (headD d n) s.edit.at').kind = 3 ∨ (nd (headD d n) s.edit.at').kind = 4) := by
    unfold fitM; rw [if_neg (by omega), if_neg (by omega), if_pos hdo, inD_head le]
  have eD : undoD (headD d n) s = setN (headD d n) s.edit.at' { nd (headD d n) s.edit.at' with text := s.was } := by unfold undoD; rw [if_neg (by omega), if_neg (by omega), if_pos hdo]
  refine dcalls_of_vc Tryz.func85 hn85 hc85 (by rw [Tryz.ntmps85]; simp) (by rw [Tryz.ntmps85]; decide) ?_
  simp -dsimp -implicitDefEqProofs (disch := omega) only [VCA, Nat.reduceEqDiff, Nat.reduceAdd, Nat.reduceLeDiff, ↓reduceIte, reduceCtorEq, c85, eStep]
  by_cases hm : 0 ≤ s.edit.at' ∧ s.edit.at' < n
  · rw [if_pos hm] at hE
    have hn' : s.edit.at'.toNat < d.nodes.length := by omega
    have gk := rowsA_get (sl := sl) hn'
    have rl := rowsA_len d sl
    have nh : nd (headD d n) s.edit.at' = nd d s.edit.at' := nd_head (by omega)
    have e0 : nth d.nodes s.edit.at'.toNat = nd d s.edit.at' := rfl
    rw [e0] at gk
    rw [nh] at eF eD
    have Ec := E.cells hn' (x' := { nd d s.edit.at' with text := s.was }) rfl rfl
    unfold rowA at gk
    refine DCalls.of hE ?_
    rintro _ _ ⟨rfl, rfl⟩
    by_cases hk : (nd d s.edit.at').kind ≠ 3 ∧ (nd d s.edit.at').kind ≠ 4
    · have hb : ¬ fitM (headD d n) s := fun h => by have := (eF.1 h).2; omega
      repeat' (first | ((with_reducible refine Br.dec (fun _ => ?_) (fun _ => ?_)) <;> try (exfalso; omega)) | ((with_reducible refine Br.eq (fun _ => ?_) (fun _ => ?_)) <;> try (exfalso; omega)) | ((with_reducible refine Br.ne (fun _ => ?_) (fun _ => ?_)) <;> try (exfalso; omega)) | ((with_reducible refine brNdec (fun _ => ?_) (fun _ => ?_)) <;> try (exfalso; omega)) | ((with_reducible refine brNeq (fun _ => ?_) (fun _ => ?_)) <;> try (exfalso; omega)) | with_reducible refine Br.intro (fun _ => ?_) (fun _ => ?_) | (with_reducible refine And.intro ?_ ?_; · omega) | simp -dsimp -implicitDefEqProofs (disch := omega) only [↓vcOps_sp 13, ↓vcOps_sp 19, VCA, Nat.reduceEqDiff, Nat.reduceAdd, Nat.reduceLeDiff, ↓reduceIte, exists_eq_left', gN, gk, rl])
      all_goals first | (exfalso; omega) | exact ⟨_, Sub.refl _, UnR.bad hb⟩ | trace_state
    · have hb : fitM (headD d n) s := eF.2 ⟨hm, by omega⟩
      repeat' (first | ((with_reducible refine Br.dec (fun _ => ?_) (fun _ => ?_)) <;> try (exfalso; omega)) | ((with_reducible refine Br.eq (fun _ => ?_) (fun _ => ?_)) <;> try (exfalso; omega)) | ((with_reducible refine Br.ne (fun _ => ?_) (fun _ => ?_)) <;> try (exfalso; omega)) | ((with_reducible refine brNdec (fun _ => ?_) (fun _ => ?_)) <;> try (exfalso; omega)) | ((with_reducible refine brNeq (fun _ => ?_) (fun _ => ?_)) <;> try (exfalso; omega)) | with_reducible refine Br.intro (fun _ => ?_) (fun _ => ?_) | (with_reducible refine And.intro ?_ ?_; · omega) | simp -dsimp -implicitDefEqProofs (disch := omega) only [↓vcOps_sp 13, ↓vcOps_sp 19, VCA, Nat.reduceEqDiff, Nat.reduceAdd, Nat.reduceLeDiff, ↓reduceIte, setAt, exists_eq_left', gN, gk, rl])
      all_goals first | (exfalso; omega) | exact ⟨_, Sub.refl _, UnR.good hb Ec (by rw [eD]; exact head_setN)⟩ | trace_state
  · rw [if_neg hm] at hE
    have hb : ¬ fitM (headD d n) s := fun h => hm (eF.1 h).1
    refine DCalls.of hE ?_
    rintro _ _ ⟨rfl, rfl⟩
    repeat' (first | ((with_reducible refine Br.dec (fun _ => ?_) (fun _ => ?_)) <;> try (exfalso; omega)) | ((with_reducible refine Br.eq (fun _ => ?_) (fun _ => ?_)) <;> try (exfalso; omega)) | ((with_reducible refine Br.ne (fun _ => ?_) (fun _ => ?_)) <;> try (exfalso; omega)) | ((with_reducible refine brNdec (fun _ => ?_) (fun _ => ?_)) <;> try (exfalso; omega)) | ((with_reducible refine brNeq (fun _ => ?_) (fun _ => ?_)) <;> try (exfalso; omega)) | with_reducible refine Br.intro (fun _ => ?_) (fun _ => ?_) | (with_reducible refine And.intro ?_ ?_; · omega) | simp -dsimp -implicitDefEqProofs (disch := omega) only [↓vcOps_sp 13, ↓vcOps_sp 19, VCA, Nat.reduceEqDiff, ↓reduceIte])
    all_goals exact ⟨_, Sub.refl _, UnR.bad hb⟩
end Go.Proofs.K
end
section
/- Steps undone: All of nothing gives a document of one's own; the list backward. -/
set_option linter.unusedSimpArgs false
set_option linter.unusedVariables false
namespace Go.Proofs.K
open Go Go.Sim Go.Proofs
variable {G : Glob}
set_option maxHeartbeats 1000000 in
theorem allnil_own (d : HDoc) (sm : DocSm d) (h : Heap) : DCalls (Pg G) 38 [.agg (eDoc d), .emp] h fun a h' =>
    if docE d = 0 then ∃ rN sl, a = .tup [.agg [.osl rN 6 0 d.nodes.length, .bool d.quirks], aInt 0, aInt 0] ∧ Dw [] h h' rN d sl ∧ ∀ k, k < 2 * d.nodes.length → Mut (sl k)
    else a = .tup [.agg [.emp, .bool false], aInt 0, aInt (docE d)] ∧ h' = h := by
  have hC := check_ok (G := G) d sm
  refine dcalls_of_vc Tryz.func38 hn38 hc38 (by rw [Tryz.ntmps38]; simp) (by rw [Tryz.ntmps38]; decide) ?_
  simp -dsimp -implicitDefEqProofs (disch := omega) only [VCA, Nat.reduceEqDiff, ↓reduceIte, c38, eDoc_len, eDoc_take]
  intro r4 hr4
  have S4 : ∀ x, Sim.Sub h (upd h r4 (some x)) := fun x => (Sub.refl h).upd hr4
  by_cases h1 : docE d = 0
  · have V := docE_DV h1
    simp only []
    rw [h1] at hC
    have hOwn := fun hp => own_ok' (G := G) d sm V.pos hp
    repeat' (first | ((with_reducible refine Br.dec (fun _ => ?_) (fun _ => ?_)) <;> try (exfalso; omega)) | ((with_reducible refine Br.eq (fun _ => ?_) (fun _ => ?_)) <;> try (exfalso; omega)) | ((with_reducible refine Br.ne (fun _ => ?_) (fun _ => ?_)) <;> try (exfalso; omega)) | ((with_reducible refine brNdec (fun _ => ?_) (fun _ => ?_)) <;> try (exfalso; omega)) | ((with_reducible refine brNeq (fun _ => ?_) (fun _ => ?_)) <;> try (exfalso; omega)) | with_reducible refine Br.intro (fun _ => ?_) (fun _ => ?_) | (with_reducible apply pcallE.of; · exact hC) | (with_reducible refine And.intro ?_ ?_; · omega) | simp -dsimp -implicitDefEqProofs (disch := omega) only [↓vcOps_sp 16, VCA, Nat.reduceEqDiff, ↓reduceIte, eDoc_len, eDoc_take])
    have hOwn := hOwn (upd h r4 (some ⟨.t 24, 2, [[.emp, .bool false]]⟩))
    generalize hhb : upd h r4 (some ⟨.t 24, 2, [[.emp, .bool false]]⟩) = hb at *
    have gb4 : hb r4 = some ⟨.t 24, 2, [[.emp, .bool false]]⟩ := by rw [← hhb]; exact upd_same _ _ _
    have Sb : Sub h hb := by rw [← hhb]; exact S4 _
    refine DCalls.of hOwn ?_
    rintro a h2 ⟨rN, sl0, rfl, Dw1, M1⟩
    simp -dsimp -implicitDefEqProofs (disch := omega) only [VCA, Nat.reduceEqDiff, Nat.reduceAdd, Nat.reduceLeDiff, ↓reduceIte, fillA, okFill]
    intro re hre
    have E0 := Ed.begin Dw1 M1 hre
    refine LoopVC.intro (fun m e h' => m = 0 ∧ e 4 = .vp r4 0 ∧ e 8 = .vp re 0 ∧ e 30 = aInt 0 ∧ e 31 = aInt 0 ∧ ∃ sl', Ed hb h' re rN d sl' 0) 0 ⟨rfl, rfl, rfl, rfl, rfl, _, E0⟩ ?_
    rintro m e h' ⟨rfl, e4, e8, e30, e31, sl', E⟩
    have g4 := E.dw.sub _ _ gb4
    have gE := E.ed
    repeat' (first | ((with_reducible refine Br.dec (fun _ => ?_) (fun _ => ?_)) <;> try (exfalso; omega)) | ((with_reducible refine Br.eq (fun _ => ?_) (fun _ => ?_)) <;> try (exfalso; omega)) | ((with_reducible refine Br.ne (fun _ => ?_) (fun _ => ?_)) <;> try (exfalso; omega)) | ((with_reducible refine brNdec (fun _ => ?_) (fun _ => ?_)) <;> try (exfalso; omega)) | ((with_reducible refine brNeq (fun _ => ?_) (fun _ => ?_)) <;> try (exfalso; omega)) | with_reducible refine Br.intro (fun _ => ?_) (fun _ => ?_) | (with_reducible refine And.intro ?_ ?_; · omega) | simp -dsimp -implicitDefEqProofs (disch := omega) only [VCA, Nat.reduceEqDiff, Nat.reduceAdd, Nat.reduceLT, Nat.reduceLeDiff, ↓reduceIte, setAt, exists_eq_left', e4, e8, e30, e31, g4, gE])
    have nre : r4 ∉ [re] := fun h => by
      have h : r4 = re := by simpa using h
      have := E.new
      rw [← h, gb4] at this; cases this
    refine ⟨_, Sub.refl _, ?_⟩
    rw [if_pos h1]
    exact ⟨rN, sl', rfl, (E.dw.beside Sb gb4 hr4 nre _).less (fun x hx => by cases hx), fun k hk => E.live k hk⟩
  · simp only []
    repeat' (first | ((with_reducible refine Br.dec (fun _ => ?_) (fun _ => ?_)) <;> try (exfalso; omega)) | ((with_reducible refine Br.eq (fun _ => ?_) (fun _ => ?_)) <;> try (exfalso; omega)) | ((with_reducible refine Br.ne (fun _ => ?_) (fun _ => ?_)) <;> try (exfalso; omega)) | ((with_reducible refine brNdec (fun _ => ?_) (fun _ => ?_)) <;> try (exfalso; omega)) | ((with_reducible refine brNeq (fun _ => ?_) (fun _ => ?_)) <;> try (exfalso; omega)) | with_reducible refine Br.intro (fun _ => ?_) (fun _ => ?_) | (with_reducible apply pcallE.of; · exact hC) | (with_reducible refine And.intro ?_ ?_; · omega) | simp -dsimp -implicitDefEqProofs (disch := omega) only [↓vcOps_sp 16, VCA, Nat.reduceEqDiff, Nat.reduceAdd, Nat.reduceLT, ↓reduceIte, fillA, okFill, setAt, exists_eq_right_right, exists_eq_left', h1])
    exact S4 _
end Go.Proofs.K
end
section
/- Steps undone: a list of steps backward. -/
set_option linter.unusedSimpArgs false
set_option linter.unusedVariables false
namespace Go.Proofs.K
open Go Go.Sim Go.Proofs
variable {G : Glob}
theorem datA' (l : List HAttr) : Dat (sl eAttr l) := .slc _ fun e he c hc => by
  obtain ⟨x, _, rfl⟩ := List.mem_map.1 he
  simp only [eAttr, List.mem_cons, List.mem_nil_iff, or_false] at hc
  rcases hc with rfl | rfl <;> constructor
theorem datI' (l : List Int) : Dat (sl eInt l) := .slc _ fun e he c hc => by
  obtain ⟨x, _, rfl⟩ := List.mem_map.1 he
  simp only [eInt, List.mem_cons, List.mem_nil_iff, or_false] at hc
  subst hc; constructor
theorem datS (s : HStep) : ∀ c ∈ eStep s, Dat c := fun c hc => by
  simp only [eStep, List.mem_cons, List.mem_nil_iff, or_false] at hc
  rcases hc with rfl | rfl | rfl | rfl | rfl | rfl | rfl | rfl | rfl | rfl | rfl | rfl | rfl | rfl | rfl | rfl <;> first | exact datA' _ | exact datI' _ | constructor
theorem datSs (l : List HStep) : Dat (sl eStep l) := .slc _ fun e he c hc => by
  obtain ⟨x, _, rfl⟩ := List.mem_map.1 he
  exact datS x c hc
/-- the places and the steps, from a place down -/
def bkM (l : List HStep) : (k : Nat) → k ≤ l.length → List (Nat × { s : HStep // s ∈ l })
  | 0, _ => []
  | k + 1, h => (k, ⟨nth l k, nth_mem' h⟩) :: bkM l k (by omega)
theorem bkM_map (l : List HStep) : ∀ (k : Nat) (h : k ≤ l.length), (bkM l k h).map (·.2.1) = (l.take k).reverse
  | 0, _ => by simp [bkM]
  | k + 1, h => by
    rw [bkM, List.map_cons, bkM_map l k]
    have : l.take (k + 1) = l.take k ++ [nth l k] := by
      have e : nth l k = l[k] := by unfold nth; rw [List.getD_eq_getElem?_getD, List.getElem?_eq_getElem h]; rfl
      rw [e, List.take_succ_eq_append_getElem h]
    rw [this, List.reverse_append]; rfl
def eBk {l : List HStep} (x : Nat × { s : HStep // s ∈ l }) : List AVal := [aInt x.1, .agg (eStep x.2.1)]
def c82 : ICode := (.seq (.reg [(.op ⟨(some 4), (.ld 1 false (.t 1)), none⟩), (.op ⟨(some 5), (.len (.t 4)), none⟩), (.op ⟨(some 6), (.bin .sub (.t 5) (.c (.int .i64 (1)))), none⟩), (.op ⟨(some 3), (.mv (.t 6)), none⟩)]) (.block 0 (.loop (.seq (.seq (.reg [(.op ⟨(some 7), (.mv (.t 3)), none⟩), (.op ⟨(some 8), (.bin .geq (.t 7) (.c (.int .i64 (0)))), none⟩)]) (.cond (.t 8) .skip (.exit 0))) (.seq (.block 1 (.seq (.reg [(.op ⟨(some 11), (.mv (.t 0)), none⟩), (.op ⟨(some 12), (.mv (.t 3)), none⟩), (.op ⟨(some 13), (.ld 1 false (.t 1)), none⟩), (.op ⟨(some 14), (.mv (.t 3)), none⟩), (.op ⟨(some 15), (.idxA 16 (.t 13) (.t 14)), none⟩), (.op ⟨(some 16), (.ld 16 true (.t 15)), none⟩), (.yld (some 17) (.t 11) [(.t 12), (.t 16)]), (.op ⟨(some 18), (.un .not (.t 17)), none⟩)]) (.cond (.t 18) .ret .skip))) (.reg [(.op ⟨(some 9), (.mv (.t 3)), none⟩), (.op ⟨(some 10), (.bin .sub (.t 9) (.c (.int .i64 (1)))), none⟩), (.op ⟨(some 3), (.mv (.t 10)), none⟩)]))))))
theorem hc82 : toIF Tryz.prog {} 2 Tryz.f82 = some c82 := by kernel_rfl
theorem hn82 : (Tryz.f82.name == "runtime.NumGoroutine") = false := by kernel_rfl
set_option maxRecDepth 10000 in
theorem backward1_it (l : List HStep) (hl : l.length ≤ 1073741824) : IterV (Pg G) 82 [.pin [sl eStep l]] eBk (bkM l l.length (Nat.le_refl _)) (l.length + 1) := by
  refine iterV_of_itv Tryz.func82 hn82 hc82 (by rw [Tryz.ntmps82]; simp) (by rw [Tryz.ntmps82]; decide) ?_ ?_ ?_
  · intro c hc
    simp at hc; subst hc
    exact .pin _ (fun c hc => by simp at hc; subst hc; exact datSs l)
  · intro x y hy
    simp only [eBk, List.mem_cons, List.mem_nil_iff, or_false] at hy
    rcases hy with rfl | rfl
    · exact .inl (.int _ _)
    · exact .inr ⟨rfl, .agg _ fun c hc => datS _ c hc⟩
  · intro r
    simp -dsimp -implicitDefEqProofs (disch := omega) only [VCA, Nat.reduceAdd, ↓reduceIte, IT1, IT2, c82]
    refine itLoop.intro (fun m b p e => ∃ (i : Nat) (h : i ≤ l.length), m = i ∧ b = false ∧ p.length = l.length - i ∧ p ++ bkM l i h = bkM l l.length (Nat.le_refl _) ∧ e 0 = .prim (.func (.yield r) #[] #[]) ∧ e 1 = .pin [sl eStep l] ∧ e 3 = aInt ((i : Int) - 1)) l.length ⟨l.length, Nat.le_refl _, rfl, rfl, by simp, rfl, rfl, rfl, rfl⟩ ?_
    rintro i b p e ⟨_, hi, rfl, rfl, hp, hP, he0, he1, he3⟩
    simp -dsimp -implicitDefEqProofs (disch := omega) only [VCA, ↓reduceIte, IT1, IT2, he3]
    refine Br.dec (fun hlt => ?_) (fun hge => ?_)
    · obtain ⟨j, rfl⟩ : ∃ j, i = j + 1 := ⟨i - 1, by omega⟩
      have ej : ((j + 1 : Nat) : Int) - 1 = j := by omega
      rw [ej] at he3
      simp -dsimp -implicitDefEqProofs (disch := omega) only [VCA, Nat.reduceEqDiff, ↓reduceIte, reduceCtorEq, IT1, IT2, IT3, aft_lo, aft_hi, he0, he1, he3]
      rw [bkM] at hP
      refine ⟨by omega, by rw [eStep_len]; omega, by omega, (j, ⟨nth l j, nth_mem' hi⟩), rfl, ⟨j, by omega, j, by omega, rfl, by rw [List.length_append, hp]; simp; omega, by rw [← hP]; simp, rfl⟩, ⟨bkM l j (by omega), by rw [← hP]; simp⟩⟩
    · obtain rfl : i = 0 := by omega
      simp -dsimp -implicitDefEqProofs (disch := omega) only [VCA, ↓reduceIte, IT1, IT2, IT3]
      rw [bkM, List.append_nil] at hP
      exact hP
def c45 : SFun := ⟨(.seq (.reg [⟨(some 1), (.boxF 27 1 (.t 0)), none⟩, ⟨(some 2), (.mv (.c (.prim .nilFunc))), none⟩]) (.seq (.reg [⟨(some 3), (.mkf 82 [] [(.t 1)]), none⟩, ⟨(some 2), (.mv (.t 3)), none⟩]) .ret)), [(.tmp 2)]⟩
theorem hc45 : toSF Tryz.prog {} Tryz.f45 = some c45 := by kernel_rfl
theorem hn45 : (Tryz.f45.name == "runtime.NumGoroutine") = false := by kernel_rfl
theorem backward_ok (l : List HStep) : PCalls (Pg G) 45 [sl eStep l] (.fn 82 [] [.pin [sl eStep l]]) := fun h => by
  refine dcalls_of_vc Tryz.func45 hn45 hc45 (by rw [Tryz.ntmps45]; simp) (by rw [Tryz.ntmps45]; decide) ?_
  simp -dsimp -implicitDefEqProofs (disch := omega) only [VCA, Nat.reduceEqDiff, ↓reduceIte, exists_eq_right, c45]
  exact Sub.refl _
end Go.Proofs.K
end
section
/- Steps undone: Undo. -/
set_option linter.unusedSimpArgs false
set_option linter.unusedVariables false
namespace Go.Proofs.K
open Go Go.Sim Go.Proofs
variable {G : Glob}
/-- undoing a step, as the program has it -/
def UndoneOK (G : Glob) (s : HStep) : Prop := ∀ {h0 h : Heap} {re rN : Nat} {d : HDoc} {n : Nat} {sl : Nat → AVal} {k : Nat}, Un h0 h re rN d n sl → USm k (headD d n) → k ≤ 1000 → DCalls (Pg G) 46 [.vp re 0, .agg (eStep s)] h (UnR h0 h re (headD d n) s)
def c46 : SFun := ⟨(.seq (.reg [⟨(some 3), (.boxF 44 16 (.t 1)), none⟩, ⟨(some 4), (.mv (.c (.bool false))), none⟩]) (.seq (.seq (.reg [⟨(some 5), (.fldA 0 (.t 3)), none⟩, ⟨(some 6), (.fldA 0 (.t 5)), none⟩, ⟨(some 7), (.ld 1 false (.t 6)), none⟩]) (.block 0 (.seq (.reg [⟨(some 9), (.bin .eql (.t 7) (.c (.int .i64 (1)))), none⟩, ⟨(some 8), (.mv (.t 9)), none⟩]) (.cond (.t 8) (.seq (.reg [⟨(some 10), (.mv (.t 0)), none⟩, ⟨(some 11), (.ld 16 true (.t 3)), none⟩, ⟨(some 12), (.call (.c (.fn 83 [] [])) [(.t 10), (.t 11)]), none⟩, ⟨(some 4), (.mv (.t 12)), none⟩]) .ret) (.seq (.reg [⟨(some 14), (.bin .eql (.t 7) (.c (.int .i64 (2)))), none⟩, ⟨(some 13), (.mv (.t 14)), none⟩]) (.cond (.t 13) (.seq (.reg [⟨(some 15), (.mv (.t 0)), none⟩, ⟨(some 16), (.ld 16 true (.t 3)), none⟩, ⟨(some 17), (.call (.c (.fn 84 [] [])) [(.t 15), (.t 16)]), none⟩, ⟨(some 4), (.mv (.t 17)), none⟩]) .ret) (.seq (.reg [⟨(some 19), (.bin .eql (.t 7) (.c (.int .i64 (3)))), none⟩, ⟨(some 18), (.mv (.t 19)), none⟩]) (.cond (.t 18) (.seq (.reg [⟨(some 20), (.mv (.t 0)), none⟩, ⟨(some 21), (.ld 16 true (.t 3)), none⟩, ⟨(some 22), (.call (.c (.fn 85 [] [])) [(.t 20), (.t 21)]), none⟩, ⟨(some 4), (.mv (.t 22)), none⟩]) .ret) (.seq (.reg [⟨(some 24), (.bin .eql (.t 7) (.c (.int .i64 (4)))), none⟩, ⟨(some 23), (.mv (.t 24)), none⟩]) (.cond (.t 23) (.seq (.reg [⟨(some 25), (.mv (.t 0)), none⟩, ⟨(some 26), (.ld 16 true (.t 3)), none⟩, ⟨(some 27), (.call (.c (.fn 86 [] [])) [(.t 25), (.t 26)]), none⟩, ⟨(some 4), (.mv (.t 27)), none⟩]) .ret) (.seq (.reg [⟨(some 29), (.bin .eql (.t 7) (.c (.int .i64 (5)))), none⟩, ⟨(some 28), (.mv (.t 29)), none⟩]) (.cond (.t 28) (.seq (.reg [⟨(some 30), (.mv (.t 0)), none⟩, ⟨(some 31), (.ld 16 true (.t 3)), none⟩, ⟨(some 32), (.call (.c (.fn 87 [] [])) [(.t 30), (.t 31)]), none⟩, ⟨(some 4), (.mv (.t 32)), none⟩]) .ret) (.seq (.reg [⟨(some 34), (.bin .eql (.t 7) (.c (.int .i64 (6)))), none⟩, ⟨(some 33), (.mv (.t 34)), none⟩]) (.cond (.t 33) (.seq (.reg [⟨(some 35), (.mv (.t 0)), none⟩, ⟨(some 36), (.ld 16 true (.t 3)), none⟩, ⟨(some 37), (.call (.c (.fn 88 [] [])) [(.t 35), (.t 36)]), none⟩, ⟨(some 4), (.mv (.t 37)), none⟩]) .ret) .skip)))))))))))))) (.seq (.reg [⟨(some 4), (.mv (.c (.bool false))), none⟩]) .ret))), [(.tmp 4)]⟩
theorem hc46 : toSF Tryz.prog {} Tryz.f46 = some c46 := by kernel_rfl
theorem hn46 : (Tryz.f46.name == "runtime.NumGoroutine") = false := by kernel_rfl
theorem undone_text (s : HStep) (hs : StepSm s) (h3 : s.edit.do' = 3) : UndoneOK G s := fun {h0 h re rN d n sl k} E U hk => by
  have hn : n ≤ 100000 := by have := U.len; rw [headD_len E.le] at this; omega
  have hT := utext_ok (G := G) E hn s hs h3
  have b1 : (s.edit.do' == 1) = false := by simp [h3]
  have b2 : (s.edit.do' == 2) = false := by simp [h3]
  have b3 : (s.edit.do' == 3) = true := by simp [h3]
  refine dcalls_of_vc Tryz.func46 hn46 hc46 (by rw [Tryz.ntmps46]; simp) (by rw [Tryz.ntmps46]; decide) ?_
  unfold eStep at *
  simp -dsimp -implicitDefEqProofs (disch := omega) only [VCA, Nat.reduceEqDiff, Nat.reduceAdd, Nat.reduceLeDiff, ↓reduceIte, reduceCtorEq, c46, b1, b2, b3]
  refine DCalls.of hT ?_
  intro r h' hR
  simp -dsimp -implicitDefEqProofs (disch := omega) only [VCA, ↓reduceIte]
  exact ⟨_, Sub.refl _, hR⟩
theorem backM_app : ∀ (p : List HStep) (d : HDoc) (s : HStep), backM d (p ++ [s]) = match backM d p with | none => none | some D => if fitM D s then some (undoD D s) else none
  | [], d, s => by
    simp only [List.nil_append, backM]
  | x :: p, d, s => by
    simp only [List.cons_append, backM]
    split
    · exact backM_app p _ s
    · rfl
theorem backM_none : ∀ (p q : List HStep) (d : HDoc), backM d p = none → backM d (p ++ q) = none
  | [], q, d, h => by cases h
  | x :: p, q, d, h => by
    simp only [List.cons_append, backM] at h ⊢
    split
    · rename_i hf; rw [if_pos hf] at h; exact backM_none p q _ h
    · rfl
/-- what is said of an undoer holds without new maps, too -/
theorem Un.strp {h0 h h1 h2 : Heap} {re rN : Nat} {d : HDoc} {n : Nat} {sl : Nat → AVal} (E : Un h0 h1 re rN d n sl) (S : Sub h0 h) (hk : ∀ r o, h1 r = some o → o.ty.isM = false ∨ h r = some o → h2 r = some o) : Un h0 h2 re rN d n sl := by
  have ow : ∀ {ty sz : Nat} {cells : List (List AVal)} {a : AVal}, OwnS h1 ty sz cells a → OwnS h2 ty sz cells a := fun O => by
    rcases O with O | O | ⟨r, es, ha, hr, q1, q2⟩
    · exact .inl O
    · exact .inr (.inl O)
    · exact .inr (.inr ⟨r, es, ha, hk r _ hr (.inl rfl), q1, q2⟩)
  refine ⟨⟨fun r o hr => hk r o (E.dw.sub r o hr) (.inr (S r o hr)), hk _ _ E.dw.nodes (.inl rfl), E.dw.new, fun i hi => ⟨ow (E.dw.own i hi).1, ow (E.dw.own i hi).2⟩, E.dw.fresh, E.dw.sep, fun r hr => ?_⟩, hk _ _ E.un (.inl rfl), E.new, E.live, E.le⟩
  simp at hr; subst hr; exact ⟨_, hk _ _ E.un (.inl rfl)⟩
/-- the first nodes, lent to a reader -/
theorem Dw.vwH {X : List Nat} {h0 h : Heap} {rN : Nat} {d : HDoc} {n : Nat} {sl' : Nat → AVal} (E : Dw X h0 h rN d sl') (le : n ≤ d.nodes.length) : Vw h (.osl rN 6 0 n) (sl eNode (headD d n).nodes) := by
  have key : ∀ (i : Nat), i < d.nodes.length → F2 (Vw h) (rowA (nth d.nodes i) (sl' (2 * i)) (sl' (2 * i + 1))) (eNode (nth d.nodes i)) := fun i hi => by
    obtain ⟨g1, g2⟩ := E.own i hi
    exact .cons (.refl _) (.cons (.refl _) (.cons g1.vw (.cons (.refl _) (.cons (.refl _) (.cons g2.vw .nil)))))
  have e1 : (rowsA d sl').take n = (List.range n).map fun i => rowA (nth d.nodes i) (sl' (2 * i)) (sl' (2 * i + 1)) := by unfold rowsA; rw [← List.map_take, List.take_range, Nat.min_eq_left le]
  have e2 : (headD d n).nodes.map eNode = (List.range n).map fun i => eNode (nth d.nodes i) := by
    apply List.ext_getElem?
    intro j
    have hl := headD_len le
    by_cases hj : j < n
    · rw [List.getElem?_map, List.getElem?_map, List.getElem?_range hj, nth_some (by omega), Option.map_some, Option.map_some]
      show some (eNode (nth (d.nodes.take n) j)) = _
      rw [nth_take' hj]
    · rw [List.getElem?_eq_none (by simp; omega), List.getElem?_eq_none (by simp; omega)]
  have gen : ∀ l : List Nat, (∀ i ∈ l, i < d.nodes.length) → F2 (F2 (Vw h)) (l.map fun i => rowA (nth d.nodes i) (sl' (2 * i)) (sl' (2 * i + 1))) (l.map fun i => eNode (nth d.nodes i)) := fun l => by
    induction l with
    | nil => intro _; exact .nil
    | cons i l ih => intro hl; exact .cons (key i (hl i List.mem_cons_self)) (ih fun j hj => hl j (List.mem_cons_of_mem _ hj))
  refine Vw.osl0 E.nodes (by rw [List.length_map, headD_len le]) (by rw [rowsA_len]; exact le) (fun f hf => by obtain ⟨x, _, rfl⟩ := List.mem_map.1 hf; rfl) ?_
  show F2 (F2 (Vw h)) ((rowsA d sl').take n) ((headD d n).nodes.map eNode)
  rw [e1, e2]
  exact gen _ fun i hi => by have := List.mem_range.1 hi; omega
theorem Dw.baseAdd {X : List Nat} {h0 h : Heap} {rN : Nat} {d : HDoc} {sl' : Nat → AVal} (E : Dw X h0 h rN d sl') {r : Nat} (hr : h r = none) (o : AObj) : Dw X (upd h0 r (some o)) (upd h r (some o)) rN d sl' := by
  have ne : ∀ t ob, h t = some ob → t ≠ r := fun t ob ht e => by rw [e, hr] at ht; cases ht
  refine ⟨fun t ob ht => ?_, by rw [upd_ne _ _ (ne _ _ E.nodes)]; exact E.nodes, ⟨by rw [upd_ne _ _ (ne _ _ E.nodes)]; exact E.new.1, E.new.2⟩, fun i hi => ?_, fun k hk t ht => ?_, E.sep, fun t ht => ?_⟩
  · by_cases e : t = r
    · subst e; rw [upd_same] at ht ⊢; exact ht
    · rw [upd_ne _ _ e] at ht ⊢; exact E.sub t ob ht
  · obtain ⟨g1, g2⟩ := E.own i hi
    exact ⟨g1.keep fun t ob _ ho => by rw [upd_ne _ _ (ne t ob ho)]; exact ho, g2.keep fun t ob _ ho => by rw [upd_ne _ _ (ne t ob ho)]; exact ho⟩
  · obtain ⟨ob, ho⟩ := E.slot hk ht
    exact ⟨by rw [upd_ne _ _ (ne t ob ho)]; exact (E.fresh k hk t ht).1, (E.fresh k hk t ht).2⟩
  · obtain ⟨ob, ho⟩ := E.keep t ht
    exact ⟨ob, by rw [upd_ne _ _ (ne t ob ho)]; exact ho⟩
theorem Un.aside {h0 h : Heap} {re rN : Nat} {d : HDoc} {n : Nat} {sl' : Nat → AVal} (E : Un h0 h re rN d n sl') {r : Nat} (hr : h r = none) (o : AObj) : Un h0 (upd h r (some o)) re rN d n sl' :=
  ⟨(E.dw.more hr o).less (fun x hx => by simp at hx; subst hx; simp), by rw [upd_ne _ _ (fun e => by have := E.un; rw [e, hr] at this; cases this)]; exact E.un, E.new, E.live, E.le⟩
def undoV (d : HDoc) (l : List HStep) : AVal := .tup [.agg (eDoc (undoR d l)), aInt (undoE d l)]
def c16 : SFun := ⟨(.seq (.reg [⟨(some 2), (.boxF 24 2 (.t 0)), none⟩, ⟨(some 4), (.new 24 2 [.emp, (.bool false)]), none⟩, ⟨(some 5), (.new 28 1 [(.int .i64 (0))]), none⟩]) (.seq (.reg [⟨(some 13), (.ld 2 true (.t 2)), none⟩, ⟨(some 14), (.call (.c (.fn 38 [] [])) [(.t 13), (.c .emp)]), none⟩, ⟨(some 12), (.mv (.t 14)), none⟩, ⟨(some 15), (.ext (.t 12) 0), none⟩, ⟨(some 16), (.ext (.t 12) 1), none⟩, ⟨(some 17), (.ext (.t 12) 2), none⟩, ⟨(some 6), (.new 24 2 [.emp, (.bool false)]), none⟩, ⟨none, (.st 2 (.t 6) (.t 15)), none⟩, ⟨(some 7), (.mv (.t 16)), none⟩, ⟨(some 8), (.mv (.t 17)), none⟩]) (.seq (.seq (.reg [⟨(some 18), (.mv (.t 8)), none⟩, ⟨(some 19), (.bin .eql (.t 18) (.c (.int .i64 (0)))), none⟩, ⟨(some 20), (.mv (.t 19)), none⟩, ⟨(some 21), (.mv (.t 1)), (some (20, true))⟩, ⟨(some 22), (.len (.t 21)), (some (20, true))⟩, ⟨(some 23), (.bin .gtr (.t 22) (.c (.int .i64 (40)))), (some (20, true))⟩, ⟨(some 24), (.pick (.t 20) (.t 23) (.c (.bool false))), none⟩]) (.cond (.t 24) (.reg [⟨(some 8), (.mv (.c (.int .i64 (2)))), none⟩]) .skip)) (.seq (.seq (.reg [⟨(some 25), (.mv (.t 8)), none⟩, ⟨(some 26), (.bin .neq (.t 25) (.c (.int .i64 (0)))), none⟩]) (.cond (.t 26) (.seq (.reg [⟨(some 27), (.bld [.emp, (.bool false)] []), none⟩, ⟨(some 28), (.mv (.t 8)), none⟩, ⟨none, (.st 2 (.t 4) (.t 27)), none⟩, ⟨none, (.st 1 (.t 5) (.t 28)), none⟩]) .ret) .skip)) (.seq (.reg [⟨(some 29), (.ld 2 true (.t 6)), none⟩, ⟨(some 30), (.bld [.emp, (.bool false)] [(0, (2, (.t 29)))]), none⟩, ⟨(some 31), (.box 79 2 (.t 30)), none⟩, ⟨(some 9), (.new 77 1 [(.prim (Value.pointer none))]), none⟩, ⟨none, (.st 1 (.t 9) (.t 31)), none⟩]) (.seq (.seq (.reg [⟨(some 32), (.mv (.t 1)), none⟩, ⟨(some 33), (.pcall 45 [(.t 32)]), none⟩]) (.block 0 (.range (.t 33) [34, 35] (.reg [⟨(some 11), (.new 44 16 [(.int .i64 (0)), (.int .i64 (0)), (.int .i64 (0)), (.int .i64 (0)), (.str []), (.str []), (.int .i64 (0)), (.str []), .emp, (.str []), (.int .i64 (0)), .emp, (.bool false), (.str []), (.int .i64 (0)), (.int .i64 (0))]), none⟩, ⟨none, (.st 16 (.t 11) (.t 35)), none⟩]) (.block 1 (.seq (.reg [⟨(some 36), (.ld 1 false (.t 9)), none⟩, ⟨(some 37), (.ld 16 true (.t 11)), none⟩, ⟨(some 38), (.call (.c (.fn 46 [] [])) [(.t 36), (.t 37)]), none⟩, ⟨(some 39), (.un .not (.t 38)), none⟩]) (.cond (.t 39) (.seq (.reg [⟨(some 40), (.bld [.emp, (.bool false)] []), none⟩, ⟨none, (.st 2 (.t 4) (.t 40)), none⟩, ⟨none, (.st 1 (.t 5) (.c (.int .i64 (9)))), none⟩]) .ret) .skip)))))) (.seq (.seq (.reg [⟨(some 41), (.ld 1 false (.t 9)), none⟩, ⟨(some 42), (.fldA 0 (.t 41)), none⟩, ⟨(some 43), (.fldA 0 (.t 42)), none⟩, ⟨(some 44), (.ld 2 true (.t 43)), none⟩, ⟨(some 45), (.call (.c (.fn 47 [] [])) [(.t 44)]), none⟩, ⟨(some 46), (.bin .neq (.t 45) (.c (.int .i64 (0)))), none⟩]) (.cond (.t 46) (.seq (.reg [⟨(some 47), (.bld [.emp, (.bool false)] []), none⟩, ⟨none, (.st 2 (.t 4) (.t 47)), none⟩, ⟨none, (.st 1 (.t 5) (.c (.int .i64 (9)))), none⟩]) .ret) .skip)) (.seq (.reg [⟨(some 48), (.ld 1 false (.t 9)), none⟩, ⟨(some 49), (.fldA 0 (.t 48)), none⟩, ⟨(some 50), (.fldA 0 (.t 49)), none⟩, ⟨(some 51), (.ld 2 true (.t 50)), none⟩, ⟨none, (.st 2 (.t 4) (.t 51)), none⟩, ⟨none, (.st 1 (.t 5) (.c (.int .i64 (0)))), none⟩]) .ret)))))))), [(.cell 4 2 true), (.cell 5 1 false)]⟩
theorem hc16 : toSF Tryz.prog {pure := [45], how := [(31, 6)]} Tryz.f16 = some c16 := by kernel_rfl
theorem hn16 : (Tryz.f16.name == "runtime.NumGoroutine") = false := by kernel_rfl
set_option maxHeartbeats 1000000 in
set_option maxRecDepth 10000 in
theorem undo_ok_of (d : HDoc) (sm : DocSm d) (l : List HStep) (hl : ∀ s ∈ l, StepSm s) (ll : l.length ≤ 1073741824) (hU : ∀ s ∈ l, UndoneOK G s) : PCalls (Pg G) 16 [.agg (eDoc d), sl eStep l] (undoV d l) := PCalls.outV fun h => by
  unfold undoV
  refine dcalls_of_vc Tryz.func16 hn16 hc16 (by rw [Tryz.ntmps16]; simp) (by rw [Tryz.ntmps16]; decide) ?_
  simp -dsimp -implicitDefEqProofs (disch := omega) only [VCA, ↓upd_none, Nat.reduceEqDiff, ↓reduceIte, ne_eq, c16, eDoc_len, eDoc_take]
  intro r4 hr4 r5 hr5
  have n1 : ¬ r4 = r5 := fun q => hr5.1 q.symm
  have n2 : ¬ r5 = r4 := hr5.1
  generalize hhb : upd (upd h r4 (some ⟨.t 24, 2, [[.emp, .bool false]]⟩)) r5 (some ⟨.t 28, 1, [[.int .i64 0]]⟩) = hb
  have gb4 : hb r4 = some ⟨.t 24, 2, [[.emp, .bool false]]⟩ := by rw [← hhb, upd_ne _ _ n1, upd_same]
  have gb5 : hb r5 = some ⟨.t 28, 1, [[.int .i64 0]]⟩ := by rw [← hhb, upd_same]
  have Sb : Sub h hb := by rw [← hhb]; exact ((Sub.refl h).upd hr4).upd hr5.2
  by_cases h0 : docE d = 0
  · refine DCalls.of (allnil_own d sm hb) ?_
    intro a h2 hK
    rw [if_pos h0] at hK
    obtain ⟨rN, sl', rfl, D1, M1⟩ := hK
    have g4 := D1.sub _ _ gb4
    have g5 := D1.sub _ _ gb5
    have V := docE_DV h0
    by_cases h40 : 40 < l.length
    · have uE : undoE d l = 2 := by unfold undoE; rw [if_neg (by simpa using h0), if_pos h40]
      have uR : undoR d l = noDoc := by unfold undoR; rw [uE]; rfl
      rw [uE, uR]
      have S2 := Sb.trans D1.sub
      repeat' (first | ((with_reducible refine Br.dec (fun _ => ?_) (fun _ => ?_)) <;> try (exfalso; omega)) | ((with_reducible refine Br.eq (fun _ => ?_) (fun _ => ?_)) <;> try (exfalso; omega)) | ((with_reducible refine Br.ne (fun _ => ?_) (fun _ => ?_)) <;> try (exfalso; omega)) | ((with_reducible refine brNdec (fun _ => ?_) (fun _ => ?_)) <;> try (exfalso; omega)) | ((with_reducible refine brNeq (fun _ => ?_) (fun _ => ?_)) <;> try (exfalso; omega)) | with_reducible refine Br.intro (fun _ => ?_) (fun _ => ?_) | (with_reducible refine And.intro ?_ ?_; · omega) | simp -dsimp -implicitDefEqProofs (disch := omega) only [↓vcOps_sp 20, VCA, Nat.reduceEqDiff, Nat.reduceAdd, Nat.reduceLT, ↓reduceIte, setAt, exists_eq_left'])
      intro r6 hr6
      have n3 : ¬ r4 = r6 := fun q => by rw [← q, g4] at hr6; cases hr6
      have n4 : ¬ r5 = r6 := fun q => by rw [← q, g5] at hr6; cases hr6
      have n5 : ¬ r6 = r4 := fun q => n3 q.symm
      have n6 : ¬ r6 = r5 := fun q => n4 q.symm
      repeat' (first | ((with_reducible refine Br.dec (fun _ => ?_) (fun _ => ?_)) <;> try (exfalso; omega)) | ((with_reducible refine Br.eq (fun _ => ?_) (fun _ => ?_)) <;> try (exfalso; omega)) | ((with_reducible refine Br.ne (fun _ => ?_) (fun _ => ?_)) <;> try (exfalso; omega)) | ((with_reducible refine brNdec (fun _ => ?_) (fun _ => ?_)) <;> try (exfalso; omega)) | ((with_reducible refine brNeq (fun _ => ?_) (fun _ => ?_)) <;> try (exfalso; omega)) | with_reducible refine Br.intro (fun _ => ?_) (fun _ => ?_) | (with_reducible refine And.intro ?_ ?_; · omega) | simp -dsimp -implicitDefEqProofs (disch := omega) only [VCA, Nat.reduceEqDiff, Nat.reduceAdd, Nat.reduceLT, ↓reduceIte, fillA, okFill, setAt, exists_eq_left', g4, g5, n1, n2, n3, n4])
      all_goals first | (exfalso; omega) | exact ⟨_, Sub.refl _, ((S2.upd (S2.none hr6)).upd hr4).upd hr5.2, .tup' (.cons (vw_noDoc _) (.cons (.refl _) .nil))⟩ | trace_state
    · repeat' (first | ((with_reducible refine Br.dec (fun _ => ?_) (fun _ => ?_)) <;> try (exfalso; omega)) | ((with_reducible refine Br.eq (fun _ => ?_) (fun _ => ?_)) <;> try (exfalso; omega)) | ((with_reducible refine Br.ne (fun _ => ?_) (fun _ => ?_)) <;> try (exfalso; omega)) | ((with_reducible refine brNdec (fun _ => ?_) (fun _ => ?_)) <;> try (exfalso; omega)) | ((with_reducible refine brNeq (fun _ => ?_) (fun _ => ?_)) <;> try (exfalso; omega)) | with_reducible refine Br.intro (fun _ => ?_) (fun _ => ?_) | (with_reducible refine And.intro ?_ ?_; · omega) | simp -dsimp -implicitDefEqProofs (disch := omega) only [↓vcOps_sp 20, VCA, Nat.reduceEqDiff, Nat.reduceAdd, Nat.reduceLT, ↓reduceIte, setAt, exists_eq_left'])
      intro r6 hr6
      have n3 : ¬ r4 = r6 := fun q => by rw [← q, g4] at hr6; cases hr6
      have n4 : ¬ r5 = r6 := fun q => by rw [← q, g5] at hr6; cases hr6
      have n5 : ¬ r6 = r4 := fun q => n3 q.symm
      have n6 : ¬ r6 = r5 := fun q => n4 q.symm
      have b40 : decide ((40 : Int) < l.length) = false := decide_eq_false (by omega)
      repeat' (first | ((with_reducible refine Br.dec (fun _ => ?_) (fun _ => ?_)) <;> try (exfalso; omega)) | ((with_reducible refine Br.eq (fun _ => ?_) (fun _ => ?_)) <;> try (exfalso; omega)) | ((with_reducible refine Br.ne (fun _ => ?_) (fun _ => ?_)) <;> try (exfalso; omega)) | ((with_reducible refine brNdec (fun _ => ?_) (fun _ => ?_)) <;> try (exfalso; omega)) | ((with_reducible refine brNeq (fun _ => ?_) (fun _ => ?_)) <;> try (exfalso; omega)) | with_reducible refine Br.intro (fun _ => ?_) (fun _ => ?_) | (with_reducible refine And.intro ?_ ?_; · omega) | simp -dsimp -implicitDefEqProofs (disch := omega) only [VCA, ↓upd_none, Nat.reduceEqDiff, Nat.reduceAdd, Nat.reduceLT, ↓reduceIte, fillA, okFill, setAt, ne_eq, exists_eq_left', b40])
      all_goals try (exfalso; omega)
      intro re hre r9 hr9
      have E1 := D1.baseAdd hr6 ⟨.t 24, 2, [[.osl rN 6 0 d.nodes.length, .bool d.quirks]]⟩
      have E2 := E1.more (r := re) (by rw [upd_ne _ _ hre.1]; exact hre.2) ⟨.t 79, 2, [[.osl rN 6 0 d.nodes.length, .bool d.quirks]]⟩
      have E3 := E2.baseAdd (r := r9) (by rw [upd_ne _ _ hr9.1, upd_ne _ _ hr9.2.1]; exact hr9.2.2) ⟨.t 77, 1, [[.vp re 0]]⟩
      have U0 : Un _ _ re rN d d.nodes.length sl' := ⟨E3, by rw [upd_ne _ _ (fun q => hr9.1 q.symm), upd_same], by rw [upd_ne _ _ (fun q => hr9.1 q.symm), upd_ne _ _ hre.1]; exact D1.sub.none hre.2, M1, Nat.le_refl _⟩
      have SB : Sub h (upd (upd hb r6 (some ⟨.t 24, 2, [[.osl rN 6 0 d.nodes.length, .bool d.quirks]]⟩)) r9 (some ⟨.t 77, 1, [[.vp re 0]]⟩)) := (Sb.upd (Sb.none (D1.sub.none hr6))).upd (Sb.none (D1.sub.none hr9.2.2))
      have gB4 : upd (upd hb r6 (some ⟨.t 24, 2, [[.osl rN 6 0 d.nodes.length, .bool d.quirks]]⟩)) r9 (some ⟨.t 77, 1, [[.vp re 0]]⟩) r4 = some ⟨.t 24, 2, [[.emp, .bool false]]⟩ := by
        rw [upd_ne _ _ (fun q => by rw [← q, g4] at hr9; cases hr9.2.2), upd_ne _ _ n3]; exact gb4
      have gB5 : upd (upd hb r6 (some ⟨.t 24, 2, [[.osl rN 6 0 d.nodes.length, .bool d.quirks]]⟩)) r9 (some ⟨.t 77, 1, [[.vp re 0]]⟩) r5 = some ⟨.t 28, 1, [[.int .i64 0]]⟩ := by
        rw [upd_ne _ _ (fun q => by rw [← q, g5] at hr9; cases hr9.2.2), upd_ne _ _ n4]; exact gb5
      have gB9 : upd (upd hb r6 (some ⟨.t 24, 2, [[.osl rN 6 0 d.nodes.length, .bool d.quirks]]⟩)) r9 (some ⟨.t 77, 1, [[.vp re 0]]⟩) r9 = some ⟨.t 77, 1, [[.vp re 0]]⟩ := upd_same _ _ _
      have hd0 : headD d d.nodes.length = d := by unfold headD; rw [List.take_length]
      repeat' (first | ((with_reducible refine Br.dec (fun _ => ?_) (fun _ => ?_)) <;> try (exfalso; omega)) | ((with_reducible refine Br.eq (fun _ => ?_) (fun _ => ?_)) <;> try (exfalso; omega)) | ((with_reducible refine Br.ne (fun _ => ?_) (fun _ => ?_)) <;> try (exfalso; omega)) | ((with_reducible refine brNdec (fun _ => ?_) (fun _ => ?_)) <;> try (exfalso; omega)) | ((with_reducible refine brNeq (fun _ => ?_) (fun _ => ?_)) <;> try (exfalso; omega)) | with_reducible refine Br.intro (fun _ => ?_) (fun _ => ?_) | (with_reducible apply pcallE.of; · exact backward_ok (G := G) l) | (with_reducible refine And.intro ?_ ?_; · omega) | simp -dsimp -implicitDefEqProofs (disch := omega) only [VCA])
      generalize upd (upd (upd h2 r6 (some ⟨.t 24, 2, [[.osl rN 6 0 d.nodes.length, .bool d.quirks]]⟩)) re (some ⟨.t 79, 2, [[.osl rN 6 0 d.nodes.length, .bool d.quirks]]⟩)) r9 (some ⟨.t 77, 1, [[.vp re 0]]⟩) = hR at *
      generalize upd (upd hb r6 (some ⟨.t 24, 2, [[.osl rN 6 0 d.nodes.length, .bool d.quirks]]⟩)) r9 (some ⟨.t 77, 1, [[.vp re 0]]⟩) = hB at *
      clear E1 E2 E3 D1
      have SR : Sub hB hR := U0.dw.sub
      refine RangeVC.intro (backward1_it (G := G) l ll) rfl (fun _ => rfl)
        (fun pre h' => ∃ D rN' d' n' sl'', backM d (pre.map (·.2.1)) = some D ∧ Un hB h' re rN' d' n' sl'' ∧ headD d' n' = D ∧ USm pre.length D)
        (fun ex pre h' => ex = .ret ∧ backM d (pre.map (·.2.1)) = none ∧ h' r4 = some ⟨.t 24, 2, [[.emp, .bool false]]⟩ ∧ h' r5 = some ⟨.t 28, 1, [[.int .i64 9]]⟩ ∧ Sub h h') ?_ ?_ ?_ ?_ ?_
      · exact ⟨d, rN, d, d.nodes.length, sl', rfl, U0, hd0, V.usm sm⟩
      · rintro pre x h' ⟨D, rN', d', n', sl2, hM, E, rfl, U⟩ hN
        have hs := hl x.2.1 x.2.2
        have g9 := E.dw.sub _ _ gB9
        have e4 := E.dw.sub _ _ gB4
        have e5 := E.dw.sub _ _ gB5
        have Sh := SB.trans E.dw.sub
        repeat' (first | ((with_reducible refine Br.dec (fun _ => ?_) (fun _ => ?_)) <;> try (exfalso; omega)) | ((with_reducible refine Br.eq (fun _ => ?_) (fun _ => ?_)) <;> try (exfalso; omega)) | ((with_reducible refine Br.ne (fun _ => ?_) (fun _ => ?_)) <;> try (exfalso; omega)) | ((with_reducible refine brNdec (fun _ => ?_) (fun _ => ?_)) <;> try (exfalso; omega)) | ((with_reducible refine brNeq (fun _ => ?_) (fun _ => ?_)) <;> try (exfalso; omega)) | with_reducible refine Br.intro (fun _ => ?_) (fun _ => ?_) | (with_reducible refine And.intro ?_ ?_; · omega) | simp -dsimp -implicitDefEqProofs (disch := omega) only [VCA, Nat.reduceEqDiff, Nat.reduceAdd, Nat.reduceLT, ↓reduceIte, setAt, exists_eq_left', eBk, eStep_len, eStep_all, g9])
        intro r11 hr11
        have j1 : ¬ r9 = r11 := fun q => by rw [← q, g9] at hr11; cases hr11
        repeat' (first | ((with_reducible refine Br.dec (fun _ => ?_) (fun _ => ?_)) <;> try (exfalso; omega)) | ((with_reducible refine Br.eq (fun _ => ?_) (fun _ => ?_)) <;> try (exfalso; omega)) | ((with_reducible refine Br.ne (fun _ => ?_) (fun _ => ?_)) <;> try (exfalso; omega)) | ((with_reducible refine brNdec (fun _ => ?_) (fun _ => ?_)) <;> try (exfalso; omega)) | ((with_reducible refine brNeq (fun _ => ?_) (fun _ => ?_)) <;> try (exfalso; omega)) | with_reducible refine Br.intro (fun _ => ?_) (fun _ => ?_) | (with_reducible refine And.intro ?_ ?_; · omega) | simp -dsimp -implicitDefEqProofs (disch := omega) only [VCA, Nat.reduceLT, ↓reduceIte, exists_eq_left', j1])
        refine DCalls.of (hU x.2.1 x.2.2 (E.aside hr11 _) U (by omega)) ?_
        rintro r h3 ⟨rfl, hR3⟩
        have j2 : ¬ r4 = r11 := fun q => by rw [← q, e4] at hr11; cases hr11
        have j3 : ¬ r5 = r11 := fun q => by rw [← q, e5] at hr11; cases hr11
        by_cases hf : fitM (headD d' n') x.2.1
        · obtain ⟨_, rN3, d3, k3, sl3, E3, hd3⟩ := hR3.resolve_left (fun q => q.1 hf)
          have bT : decide (fitM (headD d' n') x.2.1) = true := decide_eq_true hf
          repeat' (first | ((with_reducible refine Br.dec (fun _ => ?_) (fun _ => ?_)) <;> try (exfalso; omega)) | ((with_reducible refine Br.eq (fun _ => ?_) (fun _ => ?_)) <;> try (exfalso; omega)) | ((with_reducible refine Br.ne (fun _ => ?_) (fun _ => ?_)) <;> try (exfalso; omega)) | ((with_reducible refine brNdec (fun _ => ?_) (fun _ => ?_)) <;> try (exfalso; omega)) | ((with_reducible refine brNeq (fun _ => ?_) (fun _ => ?_)) <;> try (exfalso; omega)) | with_reducible refine Br.intro (fun _ => ?_) (fun _ => ?_) | (with_reducible refine And.intro ?_ ?_; · omega) | simp -dsimp -implicitDefEqProofs (disch := omega) only [VCA, ↓reduceIte, bT])
          exact ⟨undoD (headD d' n') x.2.1, ⟨rN3, d3, k3, sl3, by rw [List.map_append, List.map_cons, List.map_nil, backM_app, hM]; exact if_pos hf, E3, hd3, by rw [List.length_append]; exact U.undo hs (by omega) hf⟩⟩
        · obtain ⟨_, rfl⟩ := hR3.resolve_right (fun q => hf q.1)
          have bF : decide (fitM (headD d' n') x.2.1) = false := decide_eq_false hf
          repeat' (first | ((with_reducible refine Br.dec (fun _ => ?_) (fun _ => ?_)) <;> try (exfalso; omega)) | ((with_reducible refine Br.eq (fun _ => ?_) (fun _ => ?_)) <;> try (exfalso; omega)) | ((with_reducible refine Br.ne (fun _ => ?_) (fun _ => ?_)) <;> try (exfalso; omega)) | ((with_reducible refine brNdec (fun _ => ?_) (fun _ => ?_)) <;> try (exfalso; omega)) | ((with_reducible refine brNeq (fun _ => ?_) (fun _ => ?_)) <;> try (exfalso; omega)) | with_reducible refine Br.intro (fun _ => ?_) (fun _ => ?_) | (with_reducible refine And.intro ?_ ?_; · omega) | simp -dsimp -implicitDefEqProofs (disch := omega) only [VCA, Nat.reduceEqDiff, Nat.reduceAdd, Nat.reduceLT, ↓reduceIte, fillA, okFill, setAt, exists_eq_left', bF, e4, e5, j2, j3, n1, n2])
          exact ⟨by rw [List.map_append, List.map_cons, List.map_nil, backM_app, hM]; exact if_neg hf, ((Sh.upd (Sh.none hr11)).upd hr4).upd hr5.2⟩
      · rintro h' ⟨D, rN', d', n', sl2, hM, E, rfl, U⟩
        have g9 := E.dw.sub _ _ gB9
        have e4 := E.dw.sub _ _ gB4
        have e5 := E.dw.sub _ _ gB5
        have gU := E.un
        have Sh := SB.trans E.dw.sub
        have hCk : DCalls (Pg G) 47 [.agg [.osl rN' 6 0 n', .bool d'.quirks]] h' (fun r h2 => r = aInt (docE (headD d' n')) ∧ h2 = h') := DCalls.bor (check_ok (G := G) (headD d' n') U.sm) (.int _ _) (.cons (Vw.agg' (.cons (E.dw.vwH E.le) (.cons (.refl _) .nil))) .nil)
        have hB2 := bkM_map l l.length (Nat.le_refl _)
        rw [List.take_length] at hB2
        rw [hB2] at hM
        by_cases hC : docE (headD d' n') = 0
        · have uE : undoE d l = 0 := by unfold undoE; rw [if_neg (by simpa using h0), if_neg h40, hM]; simp [hC]
          have uR : undoR d l = headD d' n' := by unfold undoR; rw [uE, if_pos rfl, hM]; rfl
          rw [uE, uR]
          rw [hC] at hCk
          repeat' (first | ((with_reducible refine Br.dec (fun _ => ?_) (fun _ => ?_)) <;> try (exfalso; omega)) | ((with_reducible refine Br.eq (fun _ => ?_) (fun _ => ?_)) <;> try (exfalso; omega)) | ((with_reducible refine Br.ne (fun _ => ?_) (fun _ => ?_)) <;> try (exfalso; omega)) | ((with_reducible refine brNdec (fun _ => ?_) (fun _ => ?_)) <;> try (exfalso; omega)) | ((with_reducible refine brNeq (fun _ => ?_) (fun _ => ?_)) <;> try (exfalso; omega)) | with_reducible refine Br.intro (fun _ => ?_) (fun _ => ?_) | ((refine DCalls.of hCk ?_; rintro _ _ ⟨rfl, rfl⟩)) | (with_reducible refine And.intro ?_ ?_; · omega) | simp -dsimp -implicitDefEqProofs (disch := omega) only [VCA, Nat.reduceEqDiff, Nat.reduceAdd, Nat.reduceLT, ↓reduceIte, setAt, exists_eq_left', g9, gU, e4, e5, n1, n2])
          have nX : ∀ r o, hB r = some o → r ∉ [re] := fun r o hr hm => by
            have hm : r = re := by simpa using hm
            rw [hm, E.new] at hr; cases hr
          have S5 : Sub (upd h r5 (some ⟨.t 28, 1, [[.int .i64 0]]⟩)) hB := fun t ob ht => by
            by_cases q : t = r5
            · subst q; rw [upd_same] at ht; rw [gB5]; exact ht
            · rw [upd_ne _ _ q] at ht; exact SB t ob ht
          have B1 := E.dw.beside S5 gB4 (by rw [upd_ne _ _ n1]; exact hr4) (nX _ _ gB4) ⟨.t 24, 2, [[.osl rN' 6 0 n', .bool d'.quirks]]⟩
          have B2 := B1.beside ((Sub.refl h).upd hr5.2) (upd_same _ _ _) hr5.2 (nX _ _ gB5) ⟨.t 28, 1, [[.int .i64 0]]⟩
          exact ⟨_, Sub.refl _, (Sh.upd hr4).upd hr5.2, .tup' (.cons (Vw.agg' (.cons (B2.new'.vwH E.le) (.cons (.refl _) .nil))) (.cons (.refl _) .nil))⟩
        · have uE : undoE d l = 9 := by unfold undoE; rw [if_neg (by simpa using h0), if_neg h40, hM]; simp [hC]
          have uR : undoR d l = noDoc := by unfold undoR; rw [uE]; rfl
          rw [uE, uR]
          have bC : (docE (headD d' n') != 0) = true := by simpa using hC
          repeat' (first | ((with_reducible refine Br.dec (fun _ => ?_) (fun _ => ?_)) <;> try (exfalso; omega)) | ((with_reducible refine Br.eq (fun _ => ?_) (fun _ => ?_)) <;> try (exfalso; omega)) | ((with_reducible refine Br.ne (fun _ => ?_) (fun _ => ?_)) <;> try (exfalso; omega)) | ((with_reducible refine brNdec (fun _ => ?_) (fun _ => ?_)) <;> try (exfalso; omega)) | ((with_reducible refine brNeq (fun _ => ?_) (fun _ => ?_)) <;> try (exfalso; omega)) | with_reducible refine Br.intro (fun _ => ?_) (fun _ => ?_) | ((refine DCalls.of hCk ?_; rintro _ _ ⟨rfl, rfl⟩)) | (with_reducible refine And.intro ?_ ?_; · omega) | simp -dsimp -implicitDefEqProofs (disch := omega) only [VCA, Nat.reduceEqDiff, Nat.reduceAdd, Nat.reduceLT, ↓reduceIte, fillA, okFill, setAt, exists_eq_left', g9, gU, e4, e5, n1, n2, bC])
          exact ⟨_, Sub.refl _, (Sh.upd hr4).upd hr5.2, .tup' (.cons (vw_noDoc _) (.cons (.refl _) .nil))⟩
      · rintro ex pre h' hne hp ⟨rfl, hM, e4, e5, Sh⟩
        have uB : backM d l.reverse = none := by
          obtain ⟨q, hq⟩ := hp
          have := bkM_map l l.length (Nat.le_refl _)
          rw [List.take_length] at this
          rw [← this, ← hq, List.map_append]
          exact backM_none _ _ _ hM
        have uE : undoE d l = 9 := by unfold undoE; rw [if_neg (by simpa using h0), if_neg h40, uB]
        have uR : undoR d l = noDoc := by unfold undoR; rw [uE]; rfl
        rw [uE, uR]
        repeat' (first | ((with_reducible refine Br.dec (fun _ => ?_) (fun _ => ?_)) <;> try (exfalso; omega)) | ((with_reducible refine Br.eq (fun _ => ?_) (fun _ => ?_)) <;> try (exfalso; omega)) | ((with_reducible refine Br.ne (fun _ => ?_) (fun _ => ?_)) <;> try (exfalso; omega)) | ((with_reducible refine brNdec (fun _ => ?_) (fun _ => ?_)) <;> try (exfalso; omega)) | ((with_reducible refine brNeq (fun _ => ?_) (fun _ => ?_)) <;> try (exfalso; omega)) | with_reducible refine Br.intro (fun _ => ?_) (fun _ => ?_) | (with_reducible refine And.intro ?_ ?_; · omega) | simp -dsimp -implicitDefEqProofs (disch := omega) only [VCA, Nat.reduceEqDiff, Nat.reduceAdd, Nat.reduceLT, ↓reduceIte, exists_eq_left', e4, e5])
        exact ⟨_, Sub.refl _, Sh, .tup' (.cons (vw_noDoc _) (.cons (.refl _) .nil))⟩
      · refine ⟨fun pre h' h'' ⟨D, rN', d', n', sl2, hM, E, hD, U⟩ _ hk => ⟨D, rN', d', n', sl2, hM, E.strp SR hk, hD, U⟩, fun ex pre h' h'' ⟨q1, q2, q3, q4, q5⟩ _ hk => ⟨q1, q2, hk _ _ q3 (.inl rfl), hk _ _ q4 (.inl rfl), fun r o hr => hk r o (q5 r o hr) (.inr (SR _ _ (SB r o hr)))⟩⟩
  · have uE : undoE d l = docE d := by unfold undoE; rw [if_pos h0]
    have uR : undoR d l = noDoc := by unfold undoR; rw [uE, if_neg h0]
    rw [uE, uR]
    refine DCalls.of (allnil_own d sm hb) ?_
    intro a h2 hK
    rw [if_neg h0] at hK
    obtain ⟨rfl, rfl⟩ := hK
    have b0 : (docE d == 0) = false := by simpa using h0
    have b1 : (docE d != 0) = true := by simpa using h0
    repeat' (first | ((with_reducible refine Br.dec (fun _ => ?_) (fun _ => ?_)) <;> try (exfalso; omega)) | ((with_reducible refine Br.eq (fun _ => ?_) (fun _ => ?_)) <;> try (exfalso; omega)) | ((with_reducible refine Br.ne (fun _ => ?_) (fun _ => ?_)) <;> try (exfalso; omega)) | ((with_reducible refine brNdec (fun _ => ?_) (fun _ => ?_)) <;> try (exfalso; omega)) | ((with_reducible refine brNeq (fun _ => ?_) (fun _ => ?_)) <;> try (exfalso; omega)) | with_reducible refine Br.intro (fun _ => ?_) (fun _ => ?_) | (with_reducible refine And.intro ?_ ?_; · omega) | simp -dsimp -implicitDefEqProofs (disch := omega) only [↓vcOps_sp 20, VCA, Nat.reduceEqDiff, Nat.reduceAdd, Nat.reduceLT, ↓reduceIte, fillA, okFill, setAt, exists_eq_left', b0, b1, gb4, gb5])
    intro r6 hr6
    have n3 : ¬ r4 = r6 := fun q => by rw [← q, gb4] at hr6; cases hr6
    have n4 : ¬ r5 = r6 := fun q => by rw [← q, gb5] at hr6; cases hr6
    have n5 : ¬ r6 = r4 := fun q => n3 q.symm
    have n6 : ¬ r6 = r5 := fun q => n4 q.symm
    repeat' (first | ((with_reducible refine Br.dec (fun _ => ?_) (fun _ => ?_)) <;> try (exfalso; omega)) | ((with_reducible refine Br.eq (fun _ => ?_) (fun _ => ?_)) <;> try (exfalso; omega)) | ((with_reducible refine Br.ne (fun _ => ?_) (fun _ => ?_)) <;> try (exfalso; omega)) | ((with_reducible refine brNdec (fun _ => ?_) (fun _ => ?_)) <;> try (exfalso; omega)) | ((with_reducible refine brNeq (fun _ => ?_) (fun _ => ?_)) <;> try (exfalso; omega)) | with_reducible refine Br.intro (fun _ => ?_) (fun _ => ?_) | (with_reducible refine And.intro ?_ ?_; · omega) | simp -dsimp -implicitDefEqProofs (disch := omega) only [VCA, Nat.reduceAdd, Nat.reduceLT, ↓reduceIte, exists_eq_left', n1, n2, n3, n4])
    exact ⟨_, Sub.refl _, ((Sb.upd (Sb.none hr6)).upd hr4).upd hr5.2, .tup' (.cons (vw_noDoc _) (.cons (.refl _) .nil))⟩
theorem undo_text (d : HDoc) (sm : DocSm d) (l : List HStep) (hl : ∀ s ∈ l, StepSm s) (ll : l.length ≤ 1073741824) (h3 : ∀ s ∈ l, s.edit.do' = 3) : PCalls (Pg G) 16 [.agg (eDoc d), sl eStep l] (.tup [.agg (eDoc (undoR d l)), aInt (undoE d l)]) :=
  undo_ok_of d sm l hl ll fun s hs => undone_text s (hl s hs) (h3 s hs)
end Go.Proofs.K
end
section
/- Steps: what must be in any case; the law of Do. -/
set_option linter.unusedSimpArgs false
set_option linter.unusedVariables false
namespace Go.Proofs.K
open Go Go.Sim Go.Proofs
variable {G : Glob}
def begS : HStep := ⟨zE 3 2 [122], false, [60, 10], 0, 0⟩
def oneZ : HDoc := (allM oneD [zE 3 2 [122]]).1
theorem begS_is : (allM oneD [zE 3 2 [122]]).2.2 = 0 ∧ recM oneD [zE 3 2 [122]] = [begS] ∧ (nd oneZ 2).text = [122] ∧ 2 < oneZ.nodes.length ∧ undoE oneZ [begS] = 0 ∧ undoR oneZ [begS] = oneD := by decide +kernel
theorem begS_sm : StepSm begS := ⟨⟨by decide, by decide, by decide, by decide, (fun a ha => by cases ha), by decide, by decide⟩, by decide⟩
def c13 : SFun := ⟨(.seq (.reg [⟨(some 0), (.mv (.c (.bool false))), none⟩]) (.seq (.reg [⟨(some 8), (.pcall 42 []), none⟩, ⟨(some 9), (.bld [(.int .i64 (0)), (.int .i64 (0)), (.int .i64 (0)), (.int .i64 (0)), (.str []), (.str []), (.int .i64 (0)), (.str []), .emp, (.str []), (.int .i64 (0)), .emp] [(0, (1, (.c (.int .i64 (3))))), (1, (1, (.c (.int .i64 (2))))), (5, (1, (.c (.str [122]))))]), none⟩, ⟨(some 10), (.bldF 42 12 [(.t 9)]), none⟩, ⟨(some 11), (.pcall 11 [(.t 8), (.t 10)]), none⟩, ⟨(some 7), (.mv (.t 11)), none⟩, ⟨(some 12), (.ext (.t 7) 0), none⟩, ⟨(some 13), (.ext (.t 7) 1), none⟩, ⟨(some 14), (.ext (.t 7) 2), none⟩, ⟨(some 15), (.ext (.t 7) 3), none⟩, ⟨(some 1), (.new 24 2 [.emp, (.bool false)]), none⟩, ⟨none, (.st 2 (.t 1) (.t 12)), none⟩, ⟨(some 2), (.mv (.t 13)), none⟩, ⟨(some 3), (.mv (.t 14)), none⟩, ⟨(some 4), (.mv (.t 15)), none⟩]) (.seq (.reg [⟨(some 17), (.ld 2 true (.t 1)), none⟩, ⟨(some 18), (.mv (.t 2)), none⟩, ⟨(some 19), (.pcall 16 [(.t 17), (.t 18)]), none⟩, ⟨(some 16), (.mv (.t 19)), none⟩, ⟨(some 20), (.ext (.t 16) 0), none⟩, ⟨(some 21), (.ext (.t 16) 1), none⟩, ⟨(some 5), (.new 24 2 [.emp, (.bool false)]), none⟩, ⟨none, (.st 2 (.t 5) (.t 20)), none⟩, ⟨(some 6), (.mv (.t 21)), none⟩]) (.seq (.dreg [(⟨(some 22), (.mv (.t 3)), none⟩, none), (⟨(some 23), (.bin .eql (.t 22) (.c (.int .i64 (0)))), none⟩, none), (⟨(some 24), (.mv (.t 23)), none⟩, none), (⟨(some 25), (.mv (.t 4)), (some (24, true))⟩, none), (⟨(some 26), (.bin .eql (.t 25) (.c (.int .i64 (0)))), (some (24, true))⟩, none), (⟨(some 27), (.pick (.t 24) (.t 26) (.c (.bool false))), none⟩, none), (⟨(some 28), (.mv (.t 27)), none⟩, none), (⟨(some 29), (.mv (.t 2)), (some (28, true))⟩, none), (⟨(some 30), (.len (.t 29)), (some (28, true))⟩, none), (⟨(some 31), (.bin .eql (.t 30) (.c (.int .i64 (1)))), (some (28, true))⟩, none), (⟨(some 32), (.pick (.t 28) (.t 31) (.c (.bool false))), none⟩, none), (⟨(some 33), (.mv (.t 32)), none⟩, none), (⟨(some 34), (.mv (.t 2)), (some (33, true))⟩, none), (⟨(some 35), (.idxA 16 (.t 34) (.c (.int .i64 (0)))), (some (33, true))⟩, none), (⟨(some 36), (.fldA 13 (.t 35)), (some (33, true))⟩, none), (⟨(some 37), (.ld 1 false (.t 36)), (some (33, true))⟩, none), (⟨(some 38), (.bin .eql (.t 37) (.c (.str [60, 10]))), (some (33, true))⟩, none), (⟨(some 39), (.pick (.t 33) (.t 38) (.c (.bool false))), none⟩, none), (⟨(some 40), (.mv (.t 39)), none⟩, none), (⟨(some 41), (.fldA 0 (.t 1)), (some (40, true))⟩, none), (⟨(some 42), (.ld 1 false (.t 41)), (some (40, true))⟩, none), (⟨(some 43), (.idxA 6 (.t 42) (.c (.int .i64 (2)))), (some (40, true))⟩, none), (⟨(some 44), (.fldA 3 (.t 43)), (some (40, true))⟩, none), (⟨(some 45), (.ld 1 false (.t 44)), (some (40, true))⟩, none), (⟨(some 46), (.bin .eql (.t 45) (.c (.str [122]))), (some (40, true))⟩, none), (⟨(some 47), (.pick (.t 40) (.t 46) (.c (.bool false))), none⟩, none), (⟨(some 48), (.mv (.t 47)), none⟩, none), (⟨(some 49), (.mv (.t 6)), (some (48, true))⟩, none), (⟨(some 50), (.bin .eql (.t 49) (.c (.int .i64 (0)))), (some (48, true))⟩, none), (⟨(some 51), (.pick (.t 48) (.t 50) (.c (.bool false))), none⟩, none), (⟨(some 52), (.mv (.t 51)), none⟩, none), (⟨(some 53), (.ld 2 true (.t 5)), (some (52, true))⟩, none), (⟨(some 54), (.pcall 42 []), (some (52, true))⟩, none), (⟨(some 55), (.pcall 14 [(.t 53), (.t 54)]), (some (52, true))⟩, none), (⟨(some 56), (.pick (.t 52) (.t 55) (.c (.bool false))), none⟩, none), (⟨(some 0), (.mv (.t 56)), none⟩, none)]) .ret)))), [(.tmp 0)]⟩
theorem hc13 : toSF Tryz.prog {pure := [42, 11, 16, 14]} Tryz.f13 = some c13 := by kernel_rfl
theorem hn13 : (Tryz.f13.name == "runtime.NumGoroutine") = false := by kernel_rfl
set_option maxRecDepth 10000 in
theorem recordBegun_ok : PCalls (Pg G) 13 [] (.bool true) := fun h => by
  obtain ⟨b1, b2, b3, b4, b5, b6⟩ := begS_is
  have sE : EditSm (zE 3 2 [122]) := begS_sm.edit
  have smZ : DocSm oneZ := allM_sm oneD_sm (fun e he => by simp at he; subst he; exact sE)
  have h1 : PCalls (Pg G) 11 [.agg (eDoc oneD), .slc [[.int .i64 3, .int .i64 2, .int .i64 0, .int .i64 0, .str [], .str [122], .int .i64 0, .str [], .emp, .str [], .int .i64 0, .emp]]] (.tup [.agg (eDoc oneZ), .slc [eStep begS], aInt 0, aInt 0]) := by
    have h := (do_ok (G := G) oneD oneD_sm [zE 3 2 [122]] (fun e he => by simp at he; subst he; exact sE) (by decide)).wk (args := [.agg (eDoc oneD), .slc [eE0 (zE 3 2 [122])]]) (.cons (.refl _) (.cons (.slc' (show F2 (F2 Wk) ([zE 3 2 [122]].map eE0) ([zE 3 2 [122]].map eEdit) from eE0_wks fun e he => by obtain rfl : e = zE 3 2 [122] := (by simpa using he); exact ⟨rfl, rfl⟩)) .nil))
    unfold doV at h
    rw [if_pos b1, b2] at h
    exact h
  have h2 : PCalls (Pg G) 16 [.agg (eDoc oneZ), .slc [eStep begS]] (.tup [.agg (eDoc oneD), aInt 0]) := by
    have h := undo_text (G := G) oneZ smZ [begS] (fun s hs => by simp at hs; subst hs; exact begS_sm) (by decide) (fun s hs => by simp at hs; subst hs; rfl)
    rw [b5, b6] at h
    exact h
  have hO := oneP_ok (G := G)
  have h4 : PCalls (Pg G) 14 [.agg (eDoc oneD), .agg (eDoc oneD)] (.bool true) := by
    have h := sameDoc_ok (G := G) oneD oneD oneD_sm oneD_sm
    rwa [show (oneD == oneD) = true by simp] at h
  have e2 : nth oneZ.nodes (Int.toNat 2) = nd oneZ 2 := rfl
  have e0 : begS.was = [60, 10] := rfl
  generalize oneZ = Z at *
  refine dcalls_of_vc Tryz.func13 hn13 hc13 (by rw [Tryz.ntmps13]; simp) (by rw [Tryz.ntmps13]; decide) ?_
  simp -dsimp -implicitDefEqProofs (disch := omega) only [VCA, c13]
  repeat' (first | ((with_reducible refine Br.dec (fun _ => ?_) (fun _ => ?_)) <;> try (exfalso; omega)) | ((with_reducible refine Br.eq (fun _ => ?_) (fun _ => ?_)) <;> try (exfalso; omega)) | ((with_reducible refine Br.ne (fun _ => ?_) (fun _ => ?_)) <;> try (exfalso; omega)) | ((with_reducible refine brNdec (fun _ => ?_) (fun _ => ?_)) <;> try (exfalso; omega)) | ((with_reducible refine brNeq (fun _ => ?_) (fun _ => ?_)) <;> try (exfalso; omega)) | with_reducible refine Br.intro (fun _ => ?_) (fun _ => ?_) | (with_reducible apply pcallE.of; · exact hO) | (with_reducible apply pcallE.of; · exact h1) | (with_reducible refine And.intro ?_ ?_; · omega) | simp -dsimp -implicitDefEqProofs (disch := omega) only [VCA, Nat.reduceEqDiff, Nat.reduceAdd, Nat.reduceLT, Nat.reduceLeDiff, ↓reduceIte, okParts, fillA, okFill, setAt, exists_eq_left'])
  intro r1 hr1
  repeat' (first | ((with_reducible refine Br.dec (fun _ => ?_) (fun _ => ?_)) <;> try (exfalso; omega)) | ((with_reducible refine Br.eq (fun _ => ?_) (fun _ => ?_)) <;> try (exfalso; omega)) | ((with_reducible refine Br.ne (fun _ => ?_) (fun _ => ?_)) <;> try (exfalso; omega)) | ((with_reducible refine brNdec (fun _ => ?_) (fun _ => ?_)) <;> try (exfalso; omega)) | ((with_reducible refine brNeq (fun _ => ?_) (fun _ => ?_)) <;> try (exfalso; omega)) | with_reducible refine Br.intro (fun _ => ?_) (fun _ => ?_) | (with_reducible apply pcallE.of; · exact h2) | (with_reducible refine And.intro ?_ ?_; · omega) | simp -dsimp -implicitDefEqProofs (disch := omega) only [↓vcD_sp 24, VCA, ↓upd_none, Nat.reduceEqDiff, Nat.reduceAdd, Nat.reduceLT, ↓reduceIte, rsOf, rootsOf, setAt, ne_eq, exists_eq_left', rootL, eDoc_len, eDoc_take])
  intro r5 hr5
  have n1 : ¬ r5 = r1 := hr5.1
  have n2 : ¬ r1 = r5 := fun q => n1 q.symm
  unfold eDoc at hO h4
  repeat' (first | ((with_reducible refine Br.dec (fun _ => ?_) (fun _ => ?_)) <;> try (exfalso; omega)) | ((with_reducible refine Br.eq (fun _ => ?_) (fun _ => ?_)) <;> try (exfalso; omega)) | ((with_reducible refine Br.ne (fun _ => ?_) (fun _ => ?_)) <;> try (exfalso; omega)) | ((with_reducible refine brNdec (fun _ => ?_) (fun _ => ?_)) <;> try (exfalso; omega)) | ((with_reducible refine brNeq (fun _ => ?_) (fun _ => ?_)) <;> try (exfalso; omega)) | with_reducible refine Br.intro (fun _ => ?_) (fun _ => ?_) | (with_reducible apply pcallE.of; · exact hO) | (with_reducible apply pcallE.of; · exact h4) | (with_reducible refine And.intro ?_ ?_; · omega) | simp -dsimp -implicitDefEqProofs (disch := omega) only [↓vcD_sp 28, ↓vcD_sp 33, ↓vcD_sp 40, ↓vcD_sp 48, ↓vcD_sp 52, VCA, Nat.reduceEqDiff, Nat.reduceAdd, Nat.reduceLT, Nat.reduceLeDiff, ↓reduceIte, rsOf, rootsOf, exists_eq_right_right, exists_eq_right, exists_eq_left', rootL, n2, eDoc, eNode, eStep, e0, e2, b3])
  all_goals first | exact ((Sub.refl h).upd hr1).upd hr5.2 | exact ⟨((Sub.refl h).upd hr1).upd hr5.2, by simp⟩ | (exfalso; rename_i q; exact q rfl) | (exfalso; rename_i q; exact q b3) | trace_state
end Go.Proofs.K
end
section
/- Steps: is a node touched? the reference; the law of Touched. -/
set_option linter.unusedSimpArgs false
set_option linter.unusedVariables false
namespace Go.Proofs.K
open Go Go.Sim Go.Proofs
variable {G : Glob}
theorem touchesM_cons (s : HStep) (l : List HStep) (n : Int) : touchesM (s :: l) n = (decide (n ∈ nodesS s) || touchesM l n) := rfl
def c37 : SFun := ⟨(.seq (.reg [⟨(some 4), (.mv (.c (.bool false))), none⟩]) (.seq (.seq (.reg [⟨(some 5), (.mv (.c (.int .i64 (0)))), none⟩]) (.block 0 (.loop (.seq (.seq (.reg [⟨(some 7), (.mv (.t 5)), none⟩, ⟨(some 8), (.mv (.t 0)), none⟩, ⟨(some 9), (.len (.t 8)), none⟩, ⟨(some 10), (.bin .lss (.t 7) (.t 9)), none⟩]) (.cond (.t 10) .skip (.exit 0))) (.seq (.block 1 (.seq (.reg [⟨(some 13), (.mv (.t 0)), none⟩, ⟨(some 14), (.mv (.t 5)), none⟩, ⟨(some 15), (.idxA 16 (.t 13) (.t 14)), none⟩, ⟨(some 16), (.fldA 0 (.t 15)), none⟩, ⟨(some 17), (.ld 12 true (.t 16)), none⟩, ⟨(some 6), (.new 42 12 [(.int .i64 (0)), (.int .i64 (0)), (.int .i64 (0)), (.int .i64 (0)), (.str []), (.str []), (.int .i64 (0)), (.str []), .emp, (.str []), (.int .i64 (0)), .emp]), none⟩, ⟨none, (.st 12 (.t 6) (.t 17)), none⟩]) (.seq (.reg [⟨(some 18), (.fldA 0 (.t 6)), none⟩, ⟨(some 19), (.ld 1 false (.t 18)), none⟩, ⟨(some 20), (.pcall 76 [(.t 19), (.c (.int .i64 (1))), (.c (.int .i64 (3)))]), none⟩, ⟨(some 21), (.mv (.t 20)), none⟩, ⟨(some 22), (.fldA 1 (.t 6)), (some (21, true))⟩, ⟨(some 23), (.ld 1 false (.t 22)), (some (21, true))⟩, ⟨(some 24), (.mv (.t 1)), (some (21, true))⟩, ⟨(some 25), (.bin .eql (.t 23) (.t 24)), (some (21, true))⟩, ⟨(some 26), (.pick (.t 21) (.t 25) (.c (.bool false))), none⟩, ⟨(some 27), (.mv (.t 26)), none⟩, ⟨(some 28), (.fldA 0 (.t 6)), (some (27, false))⟩, ⟨(some 29), (.ld 1 false (.t 28)), (some (27, false))⟩, ⟨(some 30), (.bin .eql (.t 29) (.c (.int .i64 (5)))), (some (27, false))⟩, ⟨(some 31), (.mv (.t 30)), (some (27, false))⟩, ⟨(some 32), (.fldA 1 (.t 6)), (some (31, true))⟩, ⟨(some 33), (.ld 1 false (.t 32)), (some (31, true))⟩, ⟨(some 34), (.mv (.t 1)), (some (31, true))⟩, ⟨(some 35), (.bin .eql (.t 33) (.t 34)), (some (31, true))⟩, ⟨(some 36), (.mv (.t 35)), (some (31, true))⟩, ⟨(some 37), (.fldA 2 (.t 6)), (some (36, false))⟩, ⟨(some 38), (.ld 1 false (.t 37)), (some (36, false))⟩, ⟨(some 39), (.mv (.t 1)), (some (36, false))⟩, ⟨(some 40), (.bin .eql (.t 38) (.t 39)), (some (36, false))⟩, ⟨(some 41), (.pick (.t 36) (.c (.bool true)) (.t 40)), (some (31, true))⟩, ⟨(some 42), (.pick (.t 31) (.t 41) (.c (.bool false))), (some (27, false))⟩, ⟨(some 43), (.pick (.t 27) (.c (.bool true)) (.t 42)), none⟩, ⟨(some 44), (.mv (.t 43)), none⟩, ⟨(some 45), (.fldA 0 (.t 6)), (some (44, false))⟩, ⟨(some 46), (.ld 1 false (.t 45)), (some (44, false))⟩, ⟨(some 47), (.bin .eql (.t 46) (.c (.int .i64 (6)))), (some (44, false))⟩, ⟨(some 48), (.mv (.t 47)), (some (44, false))⟩, ⟨(some 49), (.fldA 1 (.t 6)), (some (48, true))⟩, ⟨(some 50), (.ld 1 false (.t 49)), (some (48, true))⟩, ⟨(some 51), (.mv (.t 1)), (some (48, true))⟩, ⟨(some 52), (.bin .eql (.t 50) (.t 51)), (some (48, true))⟩, ⟨(some 53), (.mv (.t 52)), (some (48, true))⟩, ⟨(some 54), (.mv (.t 0)), (some (53, false))⟩, ⟨(some 55), (.mv (.t 5)), (some (53, false))⟩, ⟨(some 56), (.idxA 16 (.t 54) (.t 55)), (some (53, false))⟩, ⟨(some 57), (.fldA 14 (.t 56)), (some (53, false))⟩, ⟨(some 58), (.ld 1 false (.t 57)), (some (53, false))⟩, ⟨(some 59), (.mv (.t 1)), (some (53, false))⟩, ⟨(some 60), (.bin .eql (.t 58) (.t 59)), (some (53, false))⟩, ⟨(some 61), (.pick (.t 53) (.c (.bool true)) (.t 60)), (some (48, true))⟩, ⟨(some 62), (.pick (.t 48) (.t 61) (.c (.bool false))), (some (44, false))⟩, ⟨(some 63), (.pick (.t 44) (.c (.bool true)) (.t 62)), none⟩, ⟨(some 64), (.mv (.t 63)), none⟩, ⟨(some 65), (.fldA 0 (.t 6)), (some (64, false))⟩, ⟨(some 66), (.ld 1 false (.t 65)), (some (64, false))⟩, ⟨(some 67), (.bin .eql (.t 66) (.c (.int .i64 (4)))), (some (64, false))⟩, ⟨(some 68), (.mv (.t 67)), (some (64, false))⟩, ⟨(some 69), (.mv (.t 0)), (some (68, true))⟩, ⟨(some 70), (.mv (.t 5)), (some (68, true))⟩, ⟨(some 71), (.idxA 16 (.t 69) (.t 70)), (some (68, true))⟩, ⟨(some 72), (.fldA 15 (.t 71)), (some (68, true))⟩, ⟨(some 73), (.ld 1 false (.t 72)), (some (68, true))⟩, ⟨(some 74), (.mv (.t 1)), (some (68, true))⟩, ⟨(some 75), (.bin .eql (.t 73) (.t 74)), (some (68, true))⟩, ⟨(some 76), (.pick (.t 68) (.t 75) (.c (.bool false))), (some (64, false))⟩, ⟨(some 77), (.pick (.t 64) (.c (.bool true)) (.t 76)), none⟩]) (.cond (.t 77) (.seq (.reg [⟨(some 4), (.mv (.c (.bool true))), none⟩]) .ret) .skip)))) (.reg [⟨(some 11), (.mv (.t 5)), none⟩, ⟨(some 12), (.bin .add (.t 11) (.c (.int .i64 (1)))), none⟩, ⟨(some 5), (.mv (.t 12)), none⟩])))))) (.seq (.reg [⟨(some 4), (.mv (.c (.bool false))), none⟩]) .ret))), [(.tmp 4)]⟩
theorem hc37 : toSF Tryz.prog {pure := [76], how := [(6, 6)]} Tryz.f37 = some c37 := by kernel_rfl
theorem hn37 : (Tryz.f37.name == "runtime.NumGoroutine") = false := by kernel_rfl
set_option maxHeartbeats 4000000 in
set_option maxRecDepth 10000 in
theorem recordTouched_ok (l : List HStep) (n : Int) (hl : l.length ≤ 1000) : PCalls (Pg G) 37 [sl eStep l, aInt n] (.bool (touchesM l n)) := fun h => by
  refine dcalls_of_vc Tryz.func37 hn37 hc37 (by rw [Tryz.ntmps37]; simp) (by rw [Tryz.ntmps37]; decide) ?_
  simp -dsimp -implicitDefEqProofs (disch := omega) only [VCA, c37]
  refine LoopVC.intro (fun m E h' => ∃ k : Nat, k ≤ l.length ∧ m = l.length - k ∧ E 0 = sl eStep l ∧ E 1 = aInt n ∧ E 5 = aInt k ∧ Sub h h' ∧ touchesM l n = touchesM (l.drop k) n) l.length ⟨0, by omega, by omega, rfl, rfl, rfl, Sub.refl _, rfl⟩ ?_
  rintro m E h' ⟨k, hk, rfl, E0, E1, E5, S, hT⟩
  simp -dsimp -implicitDefEqProofs (disch := omega) only [VCA, Nat.reduceEqDiff, ↓reduceIte, reduceCtorEq, E0, E5]
  refine Br.dec (fun hlt => ?_) (fun hge => ?_)
  · have hk' : k < l.length := by omega
    have hd : l.drop k = nth l k :: l.drop (k + 1) := by
      have e : nth l k = l[k] := by unfold nth; rw [List.getD_eq_getElem?_getD, List.getElem?_eq_getElem hk']; rfl
      rw [e, List.getElem_cons_drop]
    rw [hd, touchesM_cons] at hT
    obtain ⟨x, hxx⟩ : ∃ x, nth l k = x := ⟨_, rfl⟩
    rw [hxx] at hT
    have hB := betw_ok (G := G) x.edit.do' 1 3
    by_cases c1 : x.edit.do' = 1 ∨ x.edit.do' = 2 ∨ x.edit.do' = 3
    · have hns : nodesS x = [x.edit.at'] := by unfold nodesS; rw [if_pos c1]
      rw [show (decide ((1 : Int) ≤ x.edit.do') && decide (x.edit.do' ≤ 3)) = true by simp; omega] at hB
      have b5 : (x.edit.do' == 5) = false := bI_f (by omega)
      have b6 : (x.edit.do' == 6) = false := bI_f (by omega)
      have b4 : (x.edit.do' == 4) = false := bI_f (by omega)
      by_cases p : x.edit.at' = n
      · have bp := bI_t p
        have hR : touchesM l n = true := by rw [hT, hns]; simp [p]
        rw [hR]
        repeat' (first | ((with_reducible refine Br.dec (fun _ => ?_) (fun _ => ?_)) <;> try (exfalso; omega)) | ((with_reducible refine Br.eq (fun _ => ?_) (fun _ => ?_)) <;> try (exfalso; omega)) | ((with_reducible refine Br.ne (fun _ => ?_) (fun _ => ?_)) <;> try (exfalso; omega)) | ((with_reducible refine brNdec (fun _ => ?_) (fun _ => ?_)) <;> try (exfalso; omega)) | ((with_reducible refine brNeq (fun _ => ?_) (fun _ => ?_)) <;> try (exfalso; omega)) | with_reducible refine Br.intro (fun _ => ?_) (fun _ => ?_) | (with_reducible refine And.intro ?_ ?_; · omega) | simp -dsimp -implicitDefEqProofs (disch := omega) only [VCA, Nat.reduceEqDiff, Nat.reduceAdd, Nat.reduceLT, Nat.reduceLeDiff, ↓reduceIte, reduceCtorEq, setAt, exists_eq_left', E0, E5, hxx, eStep])
        intro r6 hr6
        repeat' (first | ((with_reducible refine Br.dec (fun _ => ?_) (fun _ => ?_)) <;> try (exfalso; omega)) | ((with_reducible refine Br.eq (fun _ => ?_) (fun _ => ?_)) <;> try (exfalso; omega)) | ((with_reducible refine Br.ne (fun _ => ?_) (fun _ => ?_)) <;> try (exfalso; omega)) | ((with_reducible refine brNdec (fun _ => ?_) (fun _ => ?_)) <;> try (exfalso; omega)) | ((with_reducible refine brNeq (fun _ => ?_) (fun _ => ?_)) <;> try (exfalso; omega)) | with_reducible refine Br.intro (fun _ => ?_) (fun _ => ?_) | (with_reducible apply pcallE.of; · exact hB) | (with_reducible refine And.intro ?_ ?_; · omega) | simp -dsimp -implicitDefEqProofs (disch := omega) only [↓vcOps_sp 21, ↓vcOps_sp 27, ↓vcOps_sp 31, ↓vcOps_sp 36, ↓vcOps_sp 44, ↓vcOps_sp 48, ↓vcOps_sp 53, ↓vcOps_sp 64, ↓vcOps_sp 68, VCA, Nat.reduceEqDiff, Nat.reduceAdd, Nat.reduceLT, Nat.reduceLeDiff, ↓reduceIte, exists_eq_right, exists_eq_left', E1, bp])
        all_goals first | (exfalso; omega) | exact S.upd (S.none hr6) | exact ⟨S.upd (S.none hr6), rfl⟩ | trace_state
      · have bp := bI_f p
        have hR : touchesM l n = touchesM (l.drop (k + 1)) n := by rw [hT, hns]; first | (simp; done) | (simp; intro q; exfalso; omega)
        repeat' (first | ((with_reducible refine Br.dec (fun _ => ?_) (fun _ => ?_)) <;> try (exfalso; omega)) | ((with_reducible refine Br.eq (fun _ => ?_) (fun _ => ?_)) <;> try (exfalso; omega)) | ((with_reducible refine Br.ne (fun _ => ?_) (fun _ => ?_)) <;> try (exfalso; omega)) | ((with_reducible refine brNdec (fun _ => ?_) (fun _ => ?_)) <;> try (exfalso; omega)) | ((with_reducible refine brNeq (fun _ => ?_) (fun _ => ?_)) <;> try (exfalso; omega)) | with_reducible refine Br.intro (fun _ => ?_) (fun _ => ?_) | (with_reducible refine And.intro ?_ ?_; · omega) | simp -dsimp -implicitDefEqProofs (disch := omega) only [VCA, Nat.reduceEqDiff, Nat.reduceAdd, Nat.reduceLT, Nat.reduceLeDiff, ↓reduceIte, reduceCtorEq, setAt, exists_eq_left', E0, E5, hxx, eStep])
        intro r6 hr6
        repeat' (first | ((with_reducible refine Br.dec (fun _ => ?_) (fun _ => ?_)) <;> try (exfalso; omega)) | ((with_reducible refine Br.eq (fun _ => ?_) (fun _ => ?_)) <;> try (exfalso; omega)) | ((with_reducible refine Br.ne (fun _ => ?_) (fun _ => ?_)) <;> try (exfalso; omega)) | ((with_reducible refine brNdec (fun _ => ?_) (fun _ => ?_)) <;> try (exfalso; omega)) | ((with_reducible refine brNeq (fun _ => ?_) (fun _ => ?_)) <;> try (exfalso; omega)) | with_reducible refine Br.intro (fun _ => ?_) (fun _ => ?_) | (with_reducible apply pcallE.of; · exact hB) | (with_reducible refine And.intro ?_ ?_; · omega) | simp -dsimp -implicitDefEqProofs (disch := omega) only [↓vcOps_sp 21, ↓vcOps_sp 27, ↓vcOps_sp 31, ↓vcOps_sp 36, ↓vcOps_sp 44, ↓vcOps_sp 48, ↓vcOps_sp 53, ↓vcOps_sp 64, ↓vcOps_sp 68, VCA, Nat.reduceEqDiff, Nat.reduceAdd, Nat.reduceLT, Nat.reduceLeDiff, ↓reduceIte, reduceCtorEq, exists_eq_left', E0, E1, E5, bp, b4, b5, b6])
        all_goals first | (exfalso; omega) | exact ⟨_, by omega, k + 1, by omega, rfl, by omega, S.upd (S.none hr6), hR⟩ | trace_state
    rw [show (decide ((1 : Int) ≤ x.edit.do') && decide (x.edit.do' ≤ 3)) = false by rw [Bool.and_eq_false_iff]; simp; omega] at hB
    by_cases c5 : x.edit.do' = 5
    · have hns : nodesS x = [x.edit.at', x.edit.to] := by unfold nodesS; rw [if_neg c1]; rw [if_pos c5]
      have b5 := bI_t c5
      have b6 : (x.edit.do' == 6) = false := bI_f (by omega)
      have b4 : (x.edit.do' == 4) = false := bI_f (by omega)
      by_cases p : x.edit.at' = n
      · have bp := bI_t p
        have hR : touchesM l n = true := by rw [hT, hns]; simp [p]
        rw [hR]
        repeat' (first | ((with_reducible refine Br.dec (fun _ => ?_) (fun _ => ?_)) <;> try (exfalso; omega)) | ((with_reducible refine Br.eq (fun _ => ?_) (fun _ => ?_)) <;> try (exfalso; omega)) | ((with_reducible refine Br.ne (fun _ => ?_) (fun _ => ?_)) <;> try (exfalso; omega)) | ((with_reducible refine brNdec (fun _ => ?_) (fun _ => ?_)) <;> try (exfalso; omega)) | ((with_reducible refine brNeq (fun _ => ?_) (fun _ => ?_)) <;> try (exfalso; omega)) | with_reducible refine Br.intro (fun _ => ?_) (fun _ => ?_) | (with_reducible refine And.intro ?_ ?_; · omega) | simp -dsimp -implicitDefEqProofs (disch := omega) only [VCA, Nat.reduceEqDiff, Nat.reduceAdd, Nat.reduceLT, Nat.reduceLeDiff, ↓reduceIte, reduceCtorEq, setAt, exists_eq_left', E0, E5, hxx, eStep])
        intro r6 hr6
        repeat' (first | ((with_reducible refine Br.dec (fun _ => ?_) (fun _ => ?_)) <;> try (exfalso; omega)) | ((with_reducible refine Br.eq (fun _ => ?_) (fun _ => ?_)) <;> try (exfalso; omega)) | ((with_reducible refine Br.ne (fun _ => ?_) (fun _ => ?_)) <;> try (exfalso; omega)) | ((with_reducible refine brNdec (fun _ => ?_) (fun _ => ?_)) <;> try (exfalso; omega)) | ((with_reducible refine brNeq (fun _ => ?_) (fun _ => ?_)) <;> try (exfalso; omega)) | with_reducible refine Br.intro (fun _ => ?_) (fun _ => ?_) | (with_reducible apply pcallE.of; · exact hB) | (with_reducible refine And.intro ?_ ?_; · omega) | simp -dsimp -implicitDefEqProofs (disch := omega) only [↓vcOps_sp 21, ↓vcOps_sp 27, ↓vcOps_sp 31, ↓vcOps_sp 36, ↓vcOps_sp 44, ↓vcOps_sp 48, ↓vcOps_sp 53, ↓vcOps_sp 64, ↓vcOps_sp 68, VCA, Nat.reduceEqDiff, Nat.reduceAdd, Nat.reduceLT, Nat.reduceLeDiff, ↓reduceIte, exists_eq_right, exists_eq_left', E1, bp, b5])
        all_goals first | (exfalso; omega) | exact S.upd (S.none hr6) | exact ⟨S.upd (S.none hr6), rfl⟩ | trace_state
      · have bp := bI_f p
        by_cases q : x.edit.to = n
        · have bq := bI_t q
          have hR : touchesM l n = true := by rw [hT, hns]; simp [q]
          rw [hR]
          repeat' (first | ((with_reducible refine Br.dec (fun _ => ?_) (fun _ => ?_)) <;> try (exfalso; omega)) | ((with_reducible refine Br.eq (fun _ => ?_) (fun _ => ?_)) <;> try (exfalso; omega)) | ((with_reducible refine Br.ne (fun _ => ?_) (fun _ => ?_)) <;> try (exfalso; omega)) | ((with_reducible refine brNdec (fun _ => ?_) (fun _ => ?_)) <;> try (exfalso; omega)) | ((with_reducible refine brNeq (fun _ => ?_) (fun _ => ?_)) <;> try (exfalso; omega)) | with_reducible refine Br.intro (fun _ => ?_) (fun _ => ?_) | (with_reducible refine And.intro ?_ ?_; · omega) | simp -dsimp -implicitDefEqProofs (disch := omega) only [VCA, Nat.reduceEqDiff, Nat.reduceAdd, Nat.reduceLT, Nat.reduceLeDiff, ↓reduceIte, reduceCtorEq, setAt, exists_eq_left', E0, E5, hxx, eStep])
          intro r6 hr6
          repeat' (first | ((with_reducible refine Br.dec (fun _ => ?_) (fun _ => ?_)) <;> try (exfalso; omega)) | ((with_reducible refine Br.eq (fun _ => ?_) (fun _ => ?_)) <;> try (exfalso; omega)) | ((with_reducible refine Br.ne (fun _ => ?_) (fun _ => ?_)) <;> try (exfalso; omega)) | ((with_reducible refine brNdec (fun _ => ?_) (fun _ => ?_)) <;> try (exfalso; omega)) | ((with_reducible refine brNeq (fun _ => ?_) (fun _ => ?_)) <;> try (exfalso; omega)) | with_reducible refine Br.intro (fun _ => ?_) (fun _ => ?_) | (with_reducible apply pcallE.of; · exact hB) | (with_reducible refine And.intro ?_ ?_; · omega) | simp -dsimp -implicitDefEqProofs (disch := omega) only [↓vcOps_sp 21, ↓vcOps_sp 27, ↓vcOps_sp 31, ↓vcOps_sp 36, ↓vcOps_sp 44, ↓vcOps_sp 48, ↓vcOps_sp 53, ↓vcOps_sp 64, ↓vcOps_sp 68, VCA, Nat.reduceEqDiff, Nat.reduceAdd, Nat.reduceLT, Nat.reduceLeDiff, ↓reduceIte, exists_eq_right, exists_eq_left', E1, bp, bq, b5])
          all_goals first | (exfalso; omega) | exact S.upd (S.none hr6) | exact ⟨S.upd (S.none hr6), rfl⟩ | trace_state
        · have bq := bI_f q
          have hR : touchesM l n = touchesM (l.drop (k + 1)) n := by rw [hT, hns]; first | (simp; done) | (simp; intro q; exfalso; omega)
          repeat' (first | ((with_reducible refine Br.dec (fun _ => ?_) (fun _ => ?_)) <;> try (exfalso; omega)) | ((with_reducible refine Br.eq (fun _ => ?_) (fun _ => ?_)) <;> try (exfalso; omega)) | ((with_reducible refine Br.ne (fun _ => ?_) (fun _ => ?_)) <;> try (exfalso; omega)) | ((with_reducible refine brNdec (fun _ => ?_) (fun _ => ?_)) <;> try (exfalso; omega)) | ((with_reducible refine brNeq (fun _ => ?_) (fun _ => ?_)) <;> try (exfalso; omega)) | with_reducible refine Br.intro (fun _ => ?_) (fun _ => ?_) | (with_reducible refine And.intro ?_ ?_; · omega) | simp -dsimp -implicitDefEqProofs (disch := omega) only [VCA, Nat.reduceEqDiff, Nat.reduceAdd, Nat.reduceLT, Nat.reduceLeDiff, ↓reduceIte, reduceCtorEq, setAt, exists_eq_left', E0, E5, hxx, eStep])
          intro r6 hr6
          repeat' (first | ((with_reducible refine Br.dec (fun _ => ?_) (fun _ => ?_)) <;> try (exfalso; omega)) | ((with_reducible refine Br.eq (fun _ => ?_) (fun _ => ?_)) <;> try (exfalso; omega)) | ((with_reducible refine Br.ne (fun _ => ?_) (fun _ => ?_)) <;> try (exfalso; omega)) | ((with_reducible refine brNdec (fun _ => ?_) (fun _ => ?_)) <;> try (exfalso; omega)) | ((with_reducible refine brNeq (fun _ => ?_) (fun _ => ?_)) <;> try (exfalso; omega)) | with_reducible refine Br.intro (fun _ => ?_) (fun _ => ?_) | (with_reducible apply pcallE.of; · exact hB) | (with_reducible refine And.intro ?_ ?_; · omega) | simp -dsimp -implicitDefEqProofs (disch := omega) only [↓vcOps_sp 21, ↓vcOps_sp 27, ↓vcOps_sp 31, ↓vcOps_sp 36, ↓vcOps_sp 44, ↓vcOps_sp 48, ↓vcOps_sp 53, ↓vcOps_sp 64, ↓vcOps_sp 68, VCA, Nat.reduceEqDiff, Nat.reduceAdd, Nat.reduceLT, Nat.reduceLeDiff, ↓reduceIte, reduceCtorEq, exists_eq_left', E0, E1, E5, bp, bq, b4, b5, b6])
          all_goals first | (exfalso; omega) | exact ⟨_, by omega, k + 1, by omega, rfl, by omega, S.upd (S.none hr6), hR⟩ | trace_state
    by_cases c6 : x.edit.do' = 6
    · have hns : nodesS x = [x.edit.at', x.parent] := by unfold nodesS; rw [if_neg c1, if_neg c5]; rw [if_pos c6]
      have b6 := bI_t c6
      have b5 : (x.edit.do' == 5) = false := bI_f (by omega)
      have b4 : (x.edit.do' == 4) = false := bI_f (by omega)
      by_cases p : x.edit.at' = n
      · have bp := bI_t p
        have hR : touchesM l n = true := by rw [hT, hns]; simp [p]
        rw [hR]
        repeat' (first | ((with_reducible refine Br.dec (fun _ => ?_) (fun _ => ?_)) <;> try (exfalso; omega)) | ((with_reducible refine Br.eq (fun _ => ?_) (fun _ => ?_)) <;> try (exfalso; omega)) | ((with_reducible refine Br.ne (fun _ => ?_) (fun _ => ?_)) <;> try (exfalso; omega)) | ((with_reducible refine brNdec (fun _ => ?_) (fun _ => ?_)) <;> try (exfalso; omega)) | ((with_reducible refine brNeq (fun _ => ?_) (fun _ => ?_)) <;> try (exfalso; omega)) | with_reducible refine Br.intro (fun _ => ?_) (fun _ => ?_) | (with_reducible refine And.intro ?_ ?_; · omega) | simp -dsimp -implicitDefEqProofs (disch := omega) only [VCA, Nat.reduceEqDiff, Nat.reduceAdd, Nat.reduceLT, Nat.reduceLeDiff, ↓reduceIte, reduceCtorEq, setAt, exists_eq_left', E0, E5, hxx, eStep])
        intro r6 hr6
        repeat' (first | ((with_reducible refine Br.dec (fun _ => ?_) (fun _ => ?_)) <;> try (exfalso; omega)) | ((with_reducible refine Br.eq (fun _ => ?_) (fun _ => ?_)) <;> try (exfalso; omega)) | ((with_reducible refine Br.ne (fun _ => ?_) (fun _ => ?_)) <;> try (exfalso; omega)) | ((with_reducible refine brNdec (fun _ => ?_) (fun _ => ?_)) <;> try (exfalso; omega)) | ((with_reducible refine brNeq (fun _ => ?_) (fun _ => ?_)) <;> try (exfalso; omega)) | with_reducible refine Br.intro (fun _ => ?_) (fun _ => ?_) | (with_reducible apply pcallE.of; · exact hB) | (with_reducible refine And.intro ?_ ?_; · omega) | simp -dsimp -implicitDefEqProofs (disch := omega) only [↓vcOps_sp 21, ↓vcOps_sp 27, ↓vcOps_sp 31, ↓vcOps_sp 36, ↓vcOps_sp 44, ↓vcOps_sp 48, ↓vcOps_sp 53, ↓vcOps_sp 64, ↓vcOps_sp 68, VCA, Nat.reduceEqDiff, Nat.reduceAdd, Nat.reduceLT, Nat.reduceLeDiff, ↓reduceIte, exists_eq_right, exists_eq_left', E1, bp, b5, b6])
        all_goals first | (exfalso; omega) | exact S.upd (S.none hr6) | exact ⟨S.upd (S.none hr6), rfl⟩ | trace_state
      · have bp := bI_f p
        by_cases q : x.parent = n
        · have bq := bI_t q
          have hR : touchesM l n = true := by rw [hT, hns]; simp [q]
          rw [hR]
          repeat' (first | ((with_reducible refine Br.dec (fun _ => ?_) (fun _ => ?_)) <;> try (exfalso; omega)) | ((with_reducible refine Br.eq (fun _ => ?_) (fun _ => ?_)) <;> try (exfalso; omega)) | ((with_reducible refine Br.ne (fun _ => ?_) (fun _ => ?_)) <;> try (exfalso; omega)) | ((with_reducible refine brNdec (fun _ => ?_) (fun _ => ?_)) <;> try (exfalso; omega)) | ((with_reducible refine brNeq (fun _ => ?_) (fun _ => ?_)) <;> try (exfalso; omega)) | with_reducible refine Br.intro (fun _ => ?_) (fun _ => ?_) | (with_reducible refine And.intro ?_ ?_; · omega) | simp -dsimp -implicitDefEqProofs (disch := omega) only [VCA, Nat.reduceEqDiff, Nat.reduceAdd, Nat.reduceLT, Nat.reduceLeDiff, ↓reduceIte, reduceCtorEq, setAt, exists_eq_left', E0, E5, hxx, eStep])
          intro r6 hr6
          repeat' (first | ((with_reducible refine Br.dec (fun _ => ?_) (fun _ => ?_)) <;> try (exfalso; omega)) | ((with_reducible refine Br.eq (fun _ => ?_) (fun _ => ?_)) <;> try (exfalso; omega)) | ((with_reducible refine Br.ne (fun _ => ?_) (fun _ => ?_)) <;> try (exfalso; omega)) | ((with_reducible refine brNdec (fun _ => ?_) (fun _ => ?_)) <;> try (exfalso; omega)) | ((with_reducible refine brNeq (fun _ => ?_) (fun _ => ?_)) <;> try (exfalso; omega)) | with_reducible refine Br.intro (fun _ => ?_) (fun _ => ?_) | (with_reducible apply pcallE.of; · exact hB) | (with_reducible refine And.intro ?_ ?_; · omega) | simp -dsimp -implicitDefEqProofs (disch := omega) only [↓vcOps_sp 21, ↓vcOps_sp 27, ↓vcOps_sp 31, ↓vcOps_sp 36, ↓vcOps_sp 44, ↓vcOps_sp 48, ↓vcOps_sp 53, ↓vcOps_sp 64, ↓vcOps_sp 68, VCA, Nat.reduceEqDiff, Nat.reduceAdd, Nat.reduceLT, Nat.reduceLeDiff, ↓reduceIte, reduceCtorEq, exists_eq_right, exists_eq_left', E0, E1, E5, hxx, eStep, bp, bq, b5, b6])
          all_goals first | (exfalso; omega) | exact S.upd (S.none hr6) | exact ⟨S.upd (S.none hr6), rfl⟩ | trace_state
        · have bq := bI_f q
          have hR : touchesM l n = touchesM (l.drop (k + 1)) n := by rw [hT, hns]; first | (simp; done) | (simp; intro q; exfalso; omega)
          repeat' (first | ((with_reducible refine Br.dec (fun _ => ?_) (fun _ => ?_)) <;> try (exfalso; omega)) | ((with_reducible refine Br.eq (fun _ => ?_) (fun _ => ?_)) <;> try (exfalso; omega)) | ((with_reducible refine Br.ne (fun _ => ?_) (fun _ => ?_)) <;> try (exfalso; omega)) | ((with_reducible refine brNdec (fun _ => ?_) (fun _ => ?_)) <;> try (exfalso; omega)) | ((with_reducible refine brNeq (fun _ => ?_) (fun _ => ?_)) <;> try (exfalso; omega)) | with_reducible refine Br.intro (fun _ => ?_) (fun _ => ?_) | (with_reducible refine And.intro ?_ ?_; · omega) | simp -dsimp -implicitDefEqProofs (disch := omega) only [VCA, Nat.reduceEqDiff, Nat.reduceAdd, Nat.reduceLT, Nat.reduceLeDiff, ↓reduceIte, reduceCtorEq, setAt, exists_eq_left', E0, E5, hxx, eStep])
          intro r6 hr6
          repeat' (first | ((with_reducible refine Br.dec (fun _ => ?_) (fun _ => ?_)) <;> try (exfalso; omega)) | ((with_reducible refine Br.eq (fun _ => ?_) (fun _ => ?_)) <;> try (exfalso; omega)) | ((with_reducible refine Br.ne (fun _ => ?_) (fun _ => ?_)) <;> try (exfalso; omega)) | ((with_reducible refine brNdec (fun _ => ?_) (fun _ => ?_)) <;> try (exfalso; omega)) | ((with_reducible refine brNeq (fun _ => ?_) (fun _ => ?_)) <;> try (exfalso; omega)) | with_reducible refine Br.intro (fun _ => ?_) (fun _ => ?_) | (with_reducible apply pcallE.of; · exact hB) | (with_reducible refine And.intro ?_ ?_; · omega) | simp -dsimp -implicitDefEqProofs (disch := omega) only [↓vcOps_sp 21, ↓vcOps_sp 27, ↓vcOps_sp 31, ↓vcOps_sp 36, ↓vcOps_sp 44, ↓vcOps_sp 48, ↓vcOps_sp 53, ↓vcOps_sp 64, ↓vcOps_sp 68, VCA, Nat.reduceEqDiff, Nat.reduceAdd, Nat.reduceLT, Nat.reduceLeDiff, ↓reduceIte, reduceCtorEq, exists_eq_left', E0, E1, E5, hxx, eStep, bp, bq, b4, b5, b6])
          all_goals first | (exfalso; omega) | exact ⟨_, by omega, k + 1, by omega, rfl, by omega, S.upd (S.none hr6), hR⟩ | trace_state
    have b5 := bI_f c5
    have b6 := bI_f c6
    by_cases c4 : x.edit.do' = 4
    · have hns : nodesS x = [x.place] := by unfold nodesS; rw [if_neg c1, if_neg c5, if_neg c6, if_pos c4]
      have b4 := bI_t c4
      by_cases p : x.place = n
      · have bp := bI_t p
        have hR : touchesM l n = true := by rw [hT, hns]; simp [p]
        rw [hR]
        repeat' (first | ((with_reducible refine Br.dec (fun _ => ?_) (fun _ => ?_)) <;> try (exfalso; omega)) | ((with_reducible refine Br.eq (fun _ => ?_) (fun _ => ?_)) <;> try (exfalso; omega)) | ((with_reducible refine Br.ne (fun _ => ?_) (fun _ => ?_)) <;> try (exfalso; omega)) | ((with_reducible refine brNdec (fun _ => ?_) (fun _ => ?_)) <;> try (exfalso; omega)) | ((with_reducible refine brNeq (fun _ => ?_) (fun _ => ?_)) <;> try (exfalso; omega)) | with_reducible refine Br.intro (fun _ => ?_) (fun _ => ?_) | (with_reducible refine And.intro ?_ ?_; · omega) | simp -dsimp -implicitDefEqProofs (disch := omega) only [VCA, Nat.reduceEqDiff, Nat.reduceAdd, Nat.reduceLT, Nat.reduceLeDiff, ↓reduceIte, reduceCtorEq, setAt, exists_eq_left', E0, E5, hxx, eStep])
        intro r6 hr6
        repeat' (first | ((with_reducible refine Br.dec (fun _ => ?_) (fun _ => ?_)) <;> try (exfalso; omega)) | ((with_reducible refine Br.eq (fun _ => ?_) (fun _ => ?_)) <;> try (exfalso; omega)) | ((with_reducible refine Br.ne (fun _ => ?_) (fun _ => ?_)) <;> try (exfalso; omega)) | ((with_reducible refine brNdec (fun _ => ?_) (fun _ => ?_)) <;> try (exfalso; omega)) | ((with_reducible refine brNeq (fun _ => ?_) (fun _ => ?_)) <;> try (exfalso; omega)) | with_reducible refine Br.intro (fun _ => ?_) (fun _ => ?_) | (with_reducible apply pcallE.of; · exact hB) | (with_reducible refine And.intro ?_ ?_; · omega) | simp -dsimp -implicitDefEqProofs (disch := omega) only [↓vcOps_sp 21, ↓vcOps_sp 27, ↓vcOps_sp 31, ↓vcOps_sp 36, ↓vcOps_sp 44, ↓vcOps_sp 48, ↓vcOps_sp 53, ↓vcOps_sp 64, ↓vcOps_sp 68, VCA, Nat.reduceEqDiff, Nat.reduceAdd, Nat.reduceLT, Nat.reduceLeDiff, ↓reduceIte, reduceCtorEq, exists_eq_right, exists_eq_left', E0, E1, E5, hxx, eStep, bp, b4, b5, b6])
        all_goals first | (exfalso; omega) | exact S.upd (S.none hr6) | exact ⟨S.upd (S.none hr6), rfl⟩ | trace_state
      · have bp := bI_f p
        have hR : touchesM l n = touchesM (l.drop (k + 1)) n := by rw [hT, hns]; first | (simp; done) | (simp; intro q; exfalso; omega)
        repeat' (first | ((with_reducible refine Br.dec (fun _ => ?_) (fun _ => ?_)) <;> try (exfalso; omega)) | ((with_reducible refine Br.eq (fun _ => ?_) (fun _ => ?_)) <;> try (exfalso; omega)) | ((with_reducible refine Br.ne (fun _ => ?_) (fun _ => ?_)) <;> try (exfalso; omega)) | ((with_reducible refine brNdec (fun _ => ?_) (fun _ => ?_)) <;> try (exfalso; omega)) | ((with_reducible refine brNeq (fun _ => ?_) (fun _ => ?_)) <;> try (exfalso; omega)) | with_reducible refine Br.intro (fun _ => ?_) (fun _ => ?_) | (with_reducible refine And.intro ?_ ?_; · omega) | simp -dsimp -implicitDefEqProofs (disch := omega) only [VCA, Nat.reduceEqDiff, Nat.reduceAdd, Nat.reduceLT, Nat.reduceLeDiff, ↓reduceIte, reduceCtorEq, setAt, exists_eq_left', E0, E5, hxx, eStep])
        intro r6 hr6
        repeat' (first | ((with_reducible refine Br.dec (fun _ => ?_) (fun _ => ?_)) <;> try (exfalso; omega)) | ((with_reducible refine Br.eq (fun _ => ?_) (fun _ => ?_)) <;> try (exfalso; omega)) | ((with_reducible refine Br.ne (fun _ => ?_) (fun _ => ?_)) <;> try (exfalso; omega)) | ((with_reducible refine brNdec (fun _ => ?_) (fun _ => ?_)) <;> try (exfalso; omega)) | ((with_reducible refine brNeq (fun _ => ?_) (fun _ => ?_)) <;> try (exfalso; omega)) | with_reducible refine Br.intro (fun _ => ?_) (fun _ => ?_) | (with_reducible apply pcallE.of; · exact hB) | (with_reducible refine And.intro ?_ ?_; · omega) | simp -dsimp -implicitDefEqProofs (disch := omega) only [↓vcOps_sp 21, ↓vcOps_sp 27, ↓vcOps_sp 31, ↓vcOps_sp 36, ↓vcOps_sp 44, ↓vcOps_sp 48, ↓vcOps_sp 53, ↓vcOps_sp 64, ↓vcOps_sp 68, VCA, Nat.reduceEqDiff, Nat.reduceAdd, Nat.reduceLT, Nat.reduceLeDiff, ↓reduceIte, reduceCtorEq, exists_eq_left', E0, E1, E5, hxx, eStep, bp, b4, b5, b6])
        all_goals first | (exfalso; omega) | exact ⟨_, by omega, k + 1, by omega, rfl, by omega, S.upd (S.none hr6), hR⟩ | trace_state
    · have hns : nodesS x = [] := by unfold nodesS; rw [if_neg c1, if_neg c5, if_neg c6, if_neg c4]
      have b4 := bI_f c4
      have hR : touchesM l n = touchesM (l.drop (k + 1)) n := by rw [hT, hns]; first | (simp; done) | (simp; intro q; exfalso; omega)
      repeat' (first | ((with_reducible refine Br.dec (fun _ => ?_) (fun _ => ?_)) <;> try (exfalso; omega)) | ((with_reducible refine Br.eq (fun _ => ?_) (fun _ => ?_)) <;> try (exfalso; omega)) | ((with_reducible refine Br.ne (fun _ => ?_) (fun _ => ?_)) <;> try (exfalso; omega)) | ((with_reducible refine brNdec (fun _ => ?_) (fun _ => ?_)) <;> try (exfalso; omega)) | ((with_reducible refine brNeq (fun _ => ?_) (fun _ => ?_)) <;> try (exfalso; omega)) | with_reducible refine Br.intro (fun _ => ?_) (fun _ => ?_) | (with_reducible refine And.intro ?_ ?_; · omega) | simp -dsimp -implicitDefEqProofs (disch := omega) only [VCA, Nat.reduceEqDiff, Nat.reduceAdd, Nat.reduceLT, Nat.reduceLeDiff, ↓reduceIte, reduceCtorEq, setAt, exists_eq_left', E0, E5, hxx, eStep])
      intro r6 hr6
      repeat' (first | ((with_reducible refine Br.dec (fun _ => ?_) (fun _ => ?_)) <;> try (exfalso; omega)) | ((with_reducible refine Br.eq (fun _ => ?_) (fun _ => ?_)) <;> try (exfalso; omega)) | ((with_reducible refine Br.ne (fun _ => ?_) (fun _ => ?_)) <;> try (exfalso; omega)) | ((with_reducible refine brNdec (fun _ => ?_) (fun _ => ?_)) <;> try (exfalso; omega)) | ((with_reducible refine brNeq (fun _ => ?_) (fun _ => ?_)) <;> try (exfalso; omega)) | with_reducible refine Br.intro (fun _ => ?_) (fun _ => ?_) | (with_reducible apply pcallE.of; · exact hB) | (with_reducible refine And.intro ?_ ?_; · omega) | simp -dsimp -implicitDefEqProofs (disch := omega) only [↓vcOps_sp 21, ↓vcOps_sp 27, ↓vcOps_sp 31, ↓vcOps_sp 36, ↓vcOps_sp 44, ↓vcOps_sp 48, ↓vcOps_sp 53, ↓vcOps_sp 64, ↓vcOps_sp 68, VCA, Nat.reduceEqDiff, Nat.reduceAdd, Nat.reduceLT, Nat.reduceLeDiff, ↓reduceIte, reduceCtorEq, exists_eq_left', E0, E1, E5, b4, b5, b6])
      all_goals first | (exfalso; omega) | exact ⟨_, by omega, k + 1, by omega, rfl, by omega, S.upd (S.none hr6), hR⟩ | trace_state
  · obtain rfl : k = l.length := by omega
    rw [List.drop_length] at hT
    have hT' : touchesM l n = false := hT
    rw [hT']
    simp -dsimp -implicitDefEqProofs (disch := omega) only [VCA, ↓reduceIte, exists_eq_right]
    first | exact S | exact ⟨S, rfl⟩
theorem touchesM_mem {l : List HStep} {n : Int} (h0 : 0 ≤ n) : touchesM l n = true ↔ n ∈ touchedM l := by
  have := (touched_spec l).2.1 n
  constructor
  · intro h; exact this.2 ⟨h0, h⟩
  · intro h; exact (this.1 h).2
def c9 : SFun := ⟨(.seq (.reg [⟨(some 4), (.mv (.c (.bool false))), none⟩]) (.seq (.reg [⟨(some 8), (.mv (.t 0)), none⟩, ⟨(some 9), (.mv (.t 0)), none⟩, ⟨(some 10), (.len (.t 9)), none⟩, ⟨(some 11), (.min2 (.t 10) (.c (.int .i64 (45)))), none⟩, ⟨(some 12), (.slA 16 (.t 8) none (some (.t 11))), none⟩, ⟨(some 0), (.mv (.t 12)), none⟩]) (.seq (.reg [⟨(some 13), (.mv (.t 0)), none⟩, ⟨(some 14), (.pcall 36 [(.t 13)]), none⟩, ⟨(some 5), (.mv (.t 14)), none⟩]) (.seq (.reg [⟨(some 6), (.mv (.c (.bool false))), none⟩]) (.seq (.seq (.reg [⟨(some 7), (.mv (.c (.int .i64 (0)))), none⟩]) (.block 0 (.loop (.seq (.seq (.reg [⟨(some 15), (.mv (.t 7)), none⟩, ⟨(some 16), (.mv (.t 5)), none⟩, ⟨(some 17), (.len (.t 16)), none⟩, ⟨(some 18), (.bin .lss (.t 15) (.t 17)), none⟩]) (.cond (.t 18) .skip (.exit 0))) (.seq (.block 1 (.seq (.seq (.dreg [(⟨(some 21), (.mv (.t 5)), none⟩, none), (⟨(some 22), (.mv (.t 7)), none⟩, none), (⟨(some 23), (.idxA 1 (.t 21) (.t 22)), none⟩, none), (⟨(some 24), (.ld 1 false (.t 23)), none⟩, none), (⟨(some 25), (.bin .lss (.t 24) (.c (.int .i64 (0)))), none⟩, none), (⟨(some 26), (.mv (.t 25)), none⟩, none), (⟨(some 27), (.mv (.t 7)), (some (26, false))⟩, none), (⟨(some 28), (.bin .gtr (.t 27) (.c (.int .i64 (0)))), (some (26, false))⟩, none), (⟨(some 29), (.mv (.t 28)), (some (26, false))⟩, none), (⟨(some 30), (.mv (.t 5)), (some (29, true))⟩, none), (⟨(some 31), (.mv (.t 7)), (some (29, true))⟩, none), (⟨(some 32), (.idxA 1 (.t 30) (.t 31)), (some (29, true))⟩, none), (⟨(some 33), (.ld 1 false (.t 32)), (some (29, true))⟩, none), (⟨(some 34), (.mv (.t 5)), (some (29, true))⟩, none), (⟨(some 35), (.mv (.t 7)), (some (29, true))⟩, none), (⟨(some 36), (.bin .sub (.t 35) (.c (.int .i64 (1)))), (some (29, true))⟩, none), (⟨(some 37), (.idxA 1 (.t 34) (.t 36)), (some (29, true))⟩, none), (⟨(some 38), (.ld 1 false (.t 37)), (some (29, true))⟩, none), (⟨(some 39), (.bin .leq (.t 33) (.t 38)), (some (29, true))⟩, none), (⟨(some 40), (.pick (.t 29) (.t 39) (.c (.bool false))), (some (26, false))⟩, none), (⟨(some 41), (.pick (.t 26) (.c (.bool true)) (.t 40)), none⟩, none), (⟨(some 42), (.mv (.t 41)), none⟩, none), (⟨(some 43), (.mv (.t 0)), (some (42, false))⟩, none), (⟨(some 44), (.mv (.t 5)), (some (42, false))⟩, none), (⟨(some 45), (.mv (.t 7)), (some (42, false))⟩, none), (⟨(some 46), (.idxA 1 (.t 44) (.t 45)), (some (42, false))⟩, none), (⟨(some 47), (.ld 1 false (.t 46)), (some (42, false))⟩, none), (⟨(some 48), (.pcall 37 [(.t 43), (.t 47)]), (some (42, false))⟩, none), (⟨(some 49), (.un .not (.t 48)), (some (42, false))⟩, none), (⟨(some 50), (.pick (.t 42) (.c (.bool true)) (.t 49)), none⟩, none)]) (.cond (.t 50) (.seq (.reg [⟨(some 4), (.mv (.c (.bool false))), none⟩]) .ret) .skip)) (.reg [⟨(some 51), (.mv (.t 6)), none⟩, ⟨(some 52), (.mv (.t 51)), none⟩, ⟨(some 53), (.mv (.t 5)), (some (52, false))⟩, ⟨(some 54), (.mv (.t 7)), (some (52, false))⟩, ⟨(some 55), (.idxA 1 (.t 53) (.t 54)), (some (52, false))⟩, ⟨(some 56), (.ld 1 false (.t 55)), (some (52, false))⟩, ⟨(some 57), (.mv (.t 1)), (some (52, false))⟩, ⟨(some 58), (.bin .eql (.t 56) (.t 57)), (some (52, false))⟩, ⟨(some 59), (.pick (.t 52) (.c (.bool true)) (.t 58)), none⟩, ⟨(some 6), (.mv (.t 59)), none⟩]))) (.reg [⟨(some 19), (.mv (.t 7)), none⟩, ⟨(some 20), (.bin .add (.t 19) (.c (.int .i64 (1)))), none⟩, ⟨(some 7), (.mv (.t 20)), none⟩])))))) (.seq (.reg [⟨(some 60), (.pcall 13 []), none⟩, ⟨(some 61), (.mv (.t 60)), none⟩, ⟨(some 62), (.mv (.t 1)), (some (61, true))⟩, ⟨(some 63), (.bin .lss (.t 62) (.c (.int .i64 (0)))), (some (61, true))⟩, ⟨(some 64), (.mv (.t 63)), (some (61, true))⟩, ⟨(some 65), (.mv (.t 6)), (some (64, false))⟩, ⟨(some 66), (.mv (.t 0)), (some (64, false))⟩, ⟨(some 67), (.mv (.t 1)), (some (64, false))⟩, ⟨(some 68), (.pcall 37 [(.t 66), (.t 67)]), (some (64, false))⟩, ⟨(some 69), (.eqb false (.t 65) (.t 68)), (some (64, false))⟩, ⟨(some 70), (.pick (.t 64) (.c (.bool true)) (.t 69)), (some (61, true))⟩, ⟨(some 71), (.pick (.t 61) (.t 70) (.c (.bool false))), none⟩, ⟨(some 4), (.mv (.t 71)), none⟩]) .ret)))))), [(.tmp 4)]⟩
theorem hc9 : toSF Tryz.prog {pure := [36, 37, 13]} Tryz.f9 = some c9 := by kernel_rfl
theorem hn9 : (Tryz.f9.name == "runtime.NumGoroutine") = false := by kernel_rfl
set_option maxHeartbeats 1000000 in
set_option maxRecDepth 10000 in
theorem recordTouches_ok (l : List HStep) (n : Int) (ll : l.length ≤ 1073741824) : PCalls (Pg G) 9 [sl eStep l, aInt n] (.bool true) := fun h => by
  obtain ⟨L, hL⟩ : ∃ L, l.take (min (l.length : Int) 45).toNat = L := ⟨_, rfl⟩
  have ml : L.length ≤ 45 := by rw [← hL, List.length_take]; omega
  have hA := touched_ok (G := G) L (by omega)
  have hB := recordBegun_ok (G := G)
  have hR := fun m => recordTouched_ok (G := G) L m (by omega)
  obtain ⟨s1, s2, s3⟩ := touched_spec L
  have hM := fun h0 => touchesM_mem (l := L) (n := n) h0
  obtain ⟨T, hTT⟩ : ∃ T, touchedM L = T := ⟨_, rfl⟩
  rw [hTT] at hA s1 s2 s3 hM
  refine dcalls_of_vc Tryz.func9 hn9 hc9 (by rw [Tryz.ntmps9]; simp) (by rw [Tryz.ntmps9]; decide) ?_
  simp -dsimp -implicitDefEqProofs (disch := omega) only [VCA, Nat.reduceEqDiff, ↓reduceIte, reduceCtorEq, c9, hL]
  repeat' (first | ((with_reducible refine Br.dec (fun _ => ?_) (fun _ => ?_)) <;> try (exfalso; omega)) | ((with_reducible refine Br.eq (fun _ => ?_) (fun _ => ?_)) <;> try (exfalso; omega)) | ((with_reducible refine Br.ne (fun _ => ?_) (fun _ => ?_)) <;> try (exfalso; omega)) | ((with_reducible refine brNdec (fun _ => ?_) (fun _ => ?_)) <;> try (exfalso; omega)) | ((with_reducible refine brNeq (fun _ => ?_) (fun _ => ?_)) <;> try (exfalso; omega)) | with_reducible refine Br.intro (fun _ => ?_) (fun _ => ?_) | (with_reducible apply pcallE.of; · exact hA) | (with_reducible refine And.intro ?_ ?_; · omega) | simp -dsimp -implicitDefEqProofs (disch := omega) only [VCA, ↓reduceIte])
  refine LoopVC.intro (fun m E h' => ∃ k : Nat, k ≤ T.length ∧ m = T.length - k ∧ E 0 = sl eStep L ∧ E 1 = aInt n ∧ E 5 = sl eInt T ∧ E 6 = .bool (decide (n ∈ T.take k)) ∧ E 7 = aInt k ∧ h' = h) T.length ⟨0, by omega, by omega, rfl, rfl, rfl, by simp [upd, Sim.upd], rfl, rfl⟩ ?_
  rintro m E h' ⟨k, hk, rfl, E0, E1, E5, E6, E7, rfl⟩
  simp -dsimp -implicitDefEqProofs (disch := omega) only [VCA, Nat.reduceEqDiff, ↓reduceIte, E5, E7]
  refine Br.dec (fun hlt => ?_) (fun hge => ?_)
  · have hk' : k < T.length := by omega
    have ht : T.take (k + 1) = T.take k ++ [nth T k] := by
      have e : nth T k = T[k] := by unfold nth; rw [List.getD_eq_getElem?_getD, List.getElem?_eq_getElem hk']; rfl
      rw [e, List.take_succ_eq_append_getElem hk']
    have hm := (s2 _).1 (nth_mem' hk')
    have hlow : 0 < k → nth T ((k : Int) - 1).toNat < nth T k := fun h0 => by
      have e1 : ((k : Int) - 1).toNat = k - 1 := by omega
      rw [e1]
      have hp := List.pairwise_iff_getElem.1 s1 (k - 1) k (by omega) hk' (by omega)
      have q1 : nth T (k - 1) = T[k - 1] := by unfold nth; rw [List.getD_eq_getElem?_getD, List.getElem?_eq_getElem (by omega)]; rfl
      have q2 : nth T k = T[k] := by unfold nth; rw [List.getD_eq_getElem?_getD, List.getElem?_eq_getElem hk']; rfl
      rw [q1, q2]; exact hp
    obtain ⟨x, hxx⟩ : ∃ x, nth T k = x := ⟨_, rfl⟩
    obtain ⟨y, hyy⟩ : ∃ y, nth T ((k : Int) - 1).toNat = y := ⟨_, rfl⟩
    rw [hxx] at ht hm hlow
    rw [hyy] at hlow
    obtain ⟨x0, hx1⟩ := hm
    have hRx := hR x
    rw [hx1] at hRx
    have new : ∀ b, b = (decide (n ∈ T.take k) || (x == n)) → b = decide (n ∈ T.take (k + 1)) := fun b hb => by
      rw [hb, ht, Bool.eq_iff_iff]
      simp only [Bool.or_eq_true, decide_eq_true_eq, beq_iff_eq, List.mem_append, List.mem_singleton]
      constructor
      · rintro (q | q)
        · exact .inl q
        · exact .inr q.symm
      · rintro (q | q)
        · exact .inl q
        · exact .inr q.symm
    by_cases hin : n ∈ T.take k
    · have bin : decide (n ∈ T.take k) = true := decide_eq_true hin
      rw [bin] at E6 new
      repeat' (first | ((with_reducible refine Br.dec (fun _ => ?_) (fun _ => ?_)) <;> try (exfalso; omega)) | ((with_reducible refine Br.eq (fun _ => ?_) (fun _ => ?_)) <;> try (exfalso; omega)) | ((with_reducible refine Br.ne (fun _ => ?_) (fun _ => ?_)) <;> try (exfalso; omega)) | ((with_reducible refine brNdec (fun _ => ?_) (fun _ => ?_)) <;> try (exfalso; omega)) | ((with_reducible refine brNeq (fun _ => ?_) (fun _ => ?_)) <;> try (exfalso; omega)) | with_reducible refine Br.intro (fun _ => ?_) (fun _ => ?_) | (with_reducible apply pcallE.of; · exact hRx) | (with_reducible refine And.intro ?_ ?_; · omega) | simp -dsimp -implicitDefEqProofs (disch := omega) only [↓vcD_sp 26, ↓vcD_sp 29, ↓vcD_sp 42, ↓vcOps_sp 52, VCA, Nat.reduceEqDiff, ↓reduceIte, reduceCtorEq, rsOf, rootsOf, rootL, eInt, E0, E1, E5, E6, E7, hxx, hyy, eInt])
      all_goals first
        | (exfalso; omega)
        | exact ⟨_, by omega, k + 1, by omega, rfl, new _ rfl, by omega⟩
        | trace_state
    · have bin : decide (n ∈ T.take k) = false := decide_eq_false hin
      rw [bin] at E6 new
      by_cases hxn : x = n
      · have bx := bI_t hxn
        rw [bx] at new
        repeat' (first | ((with_reducible refine Br.dec (fun _ => ?_) (fun _ => ?_)) <;> try (exfalso; omega)) | ((with_reducible refine Br.eq (fun _ => ?_) (fun _ => ?_)) <;> try (exfalso; omega)) | ((with_reducible refine Br.ne (fun _ => ?_) (fun _ => ?_)) <;> try (exfalso; omega)) | ((with_reducible refine brNdec (fun _ => ?_) (fun _ => ?_)) <;> try (exfalso; omega)) | ((with_reducible refine brNeq (fun _ => ?_) (fun _ => ?_)) <;> try (exfalso; omega)) | with_reducible refine Br.intro (fun _ => ?_) (fun _ => ?_) | (with_reducible apply pcallE.of; · exact hRx) | (with_reducible refine And.intro ?_ ?_; · omega) | simp -dsimp -implicitDefEqProofs (disch := omega) only [↓vcD_sp 26, ↓vcD_sp 29, ↓vcD_sp 42, ↓vcOps_sp 52, VCA, Nat.reduceEqDiff, ↓reduceIte, reduceCtorEq, rsOf, rootsOf, rootL, eInt, E0, E1, E5, E6, E7, hxx, hyy, eInt, bx])
        all_goals first
          | (exfalso; omega)
          | exact ⟨_, by omega, k + 1, by omega, rfl, new _ rfl, by omega⟩
          | trace_state
      · have bx := bI_f hxn
        rw [bx] at new
        repeat' (first | ((with_reducible refine Br.dec (fun _ => ?_) (fun _ => ?_)) <;> try (exfalso; omega)) | ((with_reducible refine Br.eq (fun _ => ?_) (fun _ => ?_)) <;> try (exfalso; omega)) | ((with_reducible refine Br.ne (fun _ => ?_) (fun _ => ?_)) <;> try (exfalso; omega)) | ((with_reducible refine brNdec (fun _ => ?_) (fun _ => ?_)) <;> try (exfalso; omega)) | ((with_reducible refine brNeq (fun _ => ?_) (fun _ => ?_)) <;> try (exfalso; omega)) | with_reducible refine Br.intro (fun _ => ?_) (fun _ => ?_) | (with_reducible apply pcallE.of; · exact hRx) | (with_reducible refine And.intro ?_ ?_; · omega) | simp -dsimp -implicitDefEqProofs (disch := omega) only [↓vcD_sp 26, ↓vcD_sp 29, ↓vcD_sp 42, ↓vcOps_sp 52, VCA, Nat.reduceEqDiff, ↓reduceIte, reduceCtorEq, rsOf, rootsOf, rootL, eInt, E0, E1, E5, E6, E7, hxx, hyy, eInt, bx])
        all_goals first
          | (exfalso; omega)
          | exact ⟨_, by omega, k + 1, by omega, rfl, new _ rfl, by omega⟩
          | trace_state
  · obtain rfl : k = T.length := by omega
    rw [List.take_length] at E6
    have hRn := hR n
    by_cases h0 : 0 ≤ n
    · have e : touchesM L n = decide (n ∈ T) := by rw [Bool.eq_iff_iff, hM h0]; simp
      rw [e] at hRn
      generalize decide (n ∈ T) = b at *
      have bb : (b == b) = true := by simp
      repeat' (first | ((with_reducible refine Br.dec (fun _ => ?_) (fun _ => ?_)) <;> try (exfalso; omega)) | ((with_reducible refine Br.eq (fun _ => ?_) (fun _ => ?_)) <;> try (exfalso; omega)) | ((with_reducible refine Br.ne (fun _ => ?_) (fun _ => ?_)) <;> try (exfalso; omega)) | ((with_reducible refine brNdec (fun _ => ?_) (fun _ => ?_)) <;> try (exfalso; omega)) | ((with_reducible refine brNeq (fun _ => ?_) (fun _ => ?_)) <;> try (exfalso; omega)) | with_reducible refine Br.intro (fun _ => ?_) (fun _ => ?_) | (with_reducible apply pcallE.of; · exact hB) | (with_reducible apply pcallE.of; · exact hRn) | (with_reducible refine And.intro ?_ ?_; · omega) | simp -dsimp -implicitDefEqProofs (disch := omega) only [↓vcOps_sp 61, ↓vcOps_sp 64, VCA, Nat.reduceEqDiff, ↓reduceIte, reduceCtorEq, exists_eq_right, E0, E1, E6, bb])
      all_goals first
        | (exfalso; omega)
        | exact Sub.refl _
        | exact ⟨Sub.refl _, by simp⟩
        | trace_state
    · generalize decide (n ∈ T) = b at *
      repeat' (first | ((with_reducible refine Br.dec (fun _ => ?_) (fun _ => ?_)) <;> try (exfalso; omega)) | ((with_reducible refine Br.eq (fun _ => ?_) (fun _ => ?_)) <;> try (exfalso; omega)) | ((with_reducible refine Br.ne (fun _ => ?_) (fun _ => ?_)) <;> try (exfalso; omega)) | ((with_reducible refine brNdec (fun _ => ?_) (fun _ => ?_)) <;> try (exfalso; omega)) | ((with_reducible refine brNeq (fun _ => ?_) (fun _ => ?_)) <;> try (exfalso; omega)) | with_reducible refine Br.intro (fun _ => ?_) (fun _ => ?_) | (with_reducible apply pcallE.of; · exact hB) | (with_reducible apply pcallE.of; · exact hRn) | (with_reducible refine And.intro ?_ ?_; · omega) | simp -dsimp -implicitDefEqProofs (disch := omega) only [↓vcOps_sp 61, ↓vcOps_sp 64, VCA, Nat.reduceEqDiff, ↓reduceIte, exists_eq_right, E1])
      all_goals first
        | (exfalso; omega)
        | exact Sub.refl _
        | exact ⟨Sub.refl _, by simp⟩
        | trace_state
end Go.Proofs.K
end
