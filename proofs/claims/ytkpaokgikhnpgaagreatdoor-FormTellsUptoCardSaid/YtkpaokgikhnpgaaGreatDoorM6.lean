/- Texts of this claim, one behind the other. -/
import Derived.Test.YtkpaokgikhnpgaaGreatDoorM5
import Derived.Test.YtkpaokgikhnpgaaGreatDoorM4
section
set_option linter.unusedSimpArgs false
set_option linter.unusedVariables false
namespace Go.Proofs.K
open Go Go.Sim Go.Proofs
variable {G : Glob}
theorem text_name (d : HDoc) (V : DV d) {n : Int} (hn : inD d n) (h : (nd d n).name ≠ []) : textUM d n = lettersM d (below d n) := by
  have h1 := V.node n hn
  unfold nodeE at h1
  split at h1
  · omega
  · rename_i h2
    have hb : bareM (nd d n) = true := by
      cases hq : bareM (nd d n)
      · exact absurd (.inr (.inr hq)) h2
      · rfl
    unfold bareM at hb
    simp only [Bool.and_eq_true, Bool.or_eq_true, decide_eq_true_eq] at hb
    have hk : (nd d n).kind = 2 ∨ (nd d n).kind = 5 := by
      rcases hb.1.1.1 with (h3 | h3) | h3
      · exact .inl h3
      · exact .inr h3
      · exact absurd h3 h
    unfold textUM
    rw [if_neg (by omega)]
def c50 : SFun := ⟨.seq (.reg [⟨some 2, .boxF 36 2 (.t 0), none⟩, ⟨some 4, .mv (.c (.str [])), none⟩]) (.seq (.seq (.reg [⟨some 5, .ld 2 true (.t 2), none⟩, ⟨some 6, .mv (.t 1), none⟩, ⟨some 7, .pcall 49 [.t 5, .t 6, .c (.str [118, 97, 108, 117, 101])], none⟩]) (.cond (.t 7) (.seq (.reg [⟨some 8, .ld 2 true (.t 2), none⟩, ⟨some 9, .mv (.t 1), none⟩, ⟨some 10, .pcall 46 [.t 8, .t 9, .c (.str [118, 97, 108, 117, 101])], none⟩, ⟨some 4, .mv (.t 10), none⟩]) .ret) .skip)) (.seq (.reg [⟨some 11, .ld 2 true (.t 2), none⟩, ⟨some 12, .mv (.t 1), none⟩, ⟨some 13, .pcall 58 [.t 11, .t 12], none⟩, ⟨some 4, .mv (.t 13), none⟩]) .ret)), [.tmp 4]⟩
theorem hc50 : toSF Tryz.prog {pure := [49, 46, 58]} Tryz.f50 = some c50 := by kernel_rfl
theorem hn50 : (Tryz.f50.name == "runtime.NumGoroutine") = false := by kernel_rfl
theorem refOptV_ok (d : HDoc) (V : DV d) (sm : DocSm d) (n : Int) (hn : inD d n) (hm : (nd d n).name ≠ []) : PCalls (Pg G) 50 [.agg (eDoc d), aInt n] (.str (optV d n)) := fun h => by
  have cH := rhas_ok (G := G) d sm n hn [118, 97, 108, 117, 101]
  have cA := ratt_ok (G := G) d sm n hn [118, 97, 108, 117, 101]
  have cT := textUnder_ok (G := G) d V sm n hn
  rw [text_name d V hn hm] at cT
  unfold optV
  unfold eDoc at cH cA cT
  cases hb : hasA d n [118, 97, 108, 117, 101]
  all_goals
    rw [hb] at cH
    refine dcalls_of_vc Tryz.func50 hn50 hc50 (by rw [Tryz.ntmps50]; simp) (by rw [Tryz.ntmps50]; decide) ?_
    simp -dsimp -implicitDefEqProofs (disch := omega) only [VCA, Nat.reduceEqDiff, Nat.reduceAdd, ↓reduceIte, c50, eDoc]
    repeat' (first | ((with_reducible refine brC (fun _ => ?_) fun _ => ?_) <;> try (exfalso; omega)) | (with_reducible apply pcallE.of; · exact cH) | (with_reducible apply pcallE.of; · exact cA) | (with_reducible apply pcallE.of; · exact cT) | (with_reducible refine And.intro ?_ ?_; · omega) | simp -dsimp -implicitDefEqProofs (disch := omega) only [VCA, Nat.reduceEqDiff, Nat.reduceAdd, ↓reduceIte, exists_eq_right])
  all_goals first | exact Sub.refl _ | exact ⟨Sub.refl _, rfl⟩ | trace_state
theorem acc_keep {h0 h h2 : Heap} {ty : TypeId} {sz : Nat} {cells : List (List AVal)} {a b b' : AVal} (A : Acc h0 ty sz cells a h) (hd : ∀ r, rootOf a = some r → rootOf b ≠ some r) (kp : ∀ r o, h r = some o → rootOf b ≠ some r → h2 r = some o ∧ rootOf b' ≠ some r) :
    Acc h0 ty sz cells a h2 ∧ ∀ r, rootOf a = some r → rootOf b' ≠ some r := by
  rcases A with ⟨h1, rfl⟩ | ⟨r, q0, q1, rfl⟩
  · exact ⟨.inl ⟨h1, rfl⟩, fun r e => by cases e⟩
  · have := kp r _ q1 (hd r rfl)
    exact ⟨.inr ⟨r, q0, this.1, rfl⟩, fun r' e => by cases e; exact this.2⟩
def alO (d : HDoc) (L : List Int) (k : Nat) : List Int := ((L.take k).drop 1).filter (isN d [111, 112, 116, 105, 111, 110])
def seO (d : HDoc) (L : List Int) (k : Nat) : List Int := (alO d L k).filter fun k => hasA d k [115, 101, 108, 101, 99, 116, 101, 100]
theorem alO_step {d : HDoc} {L : List Int} {k : Nat} (h1 : 1 ≤ k) (hk : k < L.length) : alO d L (k + 1) = alO d L k ++ (if isN d [111, 112, 116, 105, 111, 110] (nth L k) = true then [nth L k] else []) := by
  unfold alO
  rw [take_snoc hk, List.drop_append_of_le_length (by rw [List.length_take]; omega), List.filter_append, List.filter_cons, List.filter_nil]
theorem seO_step {d : HDoc} {L : List Int} {k : Nat} (h1 : 1 ≤ k) (hk : k < L.length) : seO d L (k + 1) = seO d L k ++ (if isN d [111, 112, 116, 105, 111, 110] (nth L k) = true ∧ hasA d (nth L k) [115, 101, 108, 101, 99, 116, 101, 100] = true then [nth L k] else []) := by
  unfold seO
  rw [alO_step h1 hk, List.filter_append]
  congr 1
  cases isN d [111, 112, 116, 105, 111, 110] (nth L k) <;> cases hb : hasA d (nth L k) [115, 101, 108, 101, 99, 116, 101, 100] <;> simp [hb]
theorem alO_len (d : HDoc) (L : List Int) (k : Nat) : (alO d L k).length ≤ L.length := by
  have := List.length_filter_le (isN d [111, 112, 116, 105, 111, 110]) ((L.take k).drop 1)
  rw [List.length_drop, List.length_take] at this
  unfold alO; omega
theorem seO_len (d : HDoc) (L : List Int) (k : Nat) : (seO d L k).length ≤ L.length := Nat.le_trans (List.length_filter_le _ _) (alO_len d L k)
theorem take1_filter {p : Int → Bool} {l : List Int} {k : Nat} (h : (l.take k).filter p ≠ []) : (l.filter p).take 1 = ((l.take k).filter p).take 1 := by
  conv => lhs; rw [← List.take_append_drop k l, List.filter_append]
  cases hq : (l.take k).filter p with
  | nil => exact absurd hq h
  | cons x r => rfl
def c48 : SFun := ⟨.seq (.reg [⟨some 2, .boxF 36 2 (.t 0), none⟩, ⟨some 4, .mv (.c .emp), none⟩]) (.seq (.reg [⟨some 5, .mv (.c .emp), none⟩, ⟨some 6, .mv (.c .emp), none⟩]) (.seq (.reg [⟨some 10, .ld 2 true (.t 2), none⟩, ⟨some 11, .mv (.t 1), none⟩, ⟨some 12, .pcall 44 [.t 10, .t 11], none⟩, ⟨some 7, .mv (.t 12), none⟩]) (.seq (.seq (.reg [⟨some 8, .mv (.c (.int .i64 1)), none⟩]) (.block 0 (.loop (.seq (.seq (.reg [⟨some 13, .mv (.t 8), none⟩, ⟨some 14, .mv (.t 7), none⟩, ⟨some 15, .len (.t 14), none⟩, ⟨some 16, .bin .lss (.t 13) (.t 15), none⟩]) (.cond (.t 16) .skip (.exit 0))) (.seq (.block 1 (.seq (.dreg [(⟨some 19, .fldA 0 (.t 2), none⟩, none), (⟨some 20, .ld 1 false (.t 19), none⟩, none), (⟨some 21, .mv (.t 7), none⟩, none), (⟨some 22, .mv (.t 8), none⟩, none), (⟨some 23, .idxA 1 (.t 21) (.t 22), none⟩, none), (⟨some 24, .ld 1 false (.t 23), none⟩, none), (⟨some 25, .idxA 6 (.t 20) (.t 24), none⟩, none), (⟨some 26, .fldA 0 (.t 25), none⟩, none), (⟨some 27, .ld 1 false (.t 26), none⟩, none), (⟨some 28, .bin .eql (.t 27) (.c (.int .i64 2)), none⟩, none), (⟨some 29, .mv (.t 28), none⟩, none), (⟨some 30, .fldA 0 (.t 2), some (29, true)⟩, none), (⟨some 31, .ld 1 false (.t 30), some (29, true)⟩, none), (⟨some 32, .mv (.t 7), some (29, true)⟩, none), (⟨some 33, .mv (.t 8), some (29, true)⟩, none), (⟨some 34, .idxA 1 (.t 32) (.t 33), some (29, true)⟩, none), (⟨some 35, .ld 1 false (.t 34), some (29, true)⟩, none), (⟨some 36, .idxA 6 (.t 31) (.t 35), some (29, true)⟩, none), (⟨some 37, .fldA 1 (.t 36), some (29, true)⟩, none), (⟨some 38, .ld 1 false (.t 37), some (29, true)⟩, none), (⟨some 39, .bin .eql (.t 38) (.c (.str [111, 112, 116, 105, 111, 110])), some (29, true)⟩, none), (⟨some 40, .pick (.t 29) (.t 39) (.c (.bool false)), none⟩, none)]) (.cond (.t 40) (.seq (.reg [⟨some 41, .mv (.t 5), none⟩, ⟨some 42, .mv (.t 7), none⟩, ⟨some 43, .mv (.t 8), none⟩, ⟨some 44, .idxA 1 (.t 42) (.t 43), none⟩, ⟨some 45, .ld 1 false (.t 44), none⟩, ⟨some 46, .bldF 3 1 [.t 45], none⟩, ⟨some 47, .app 3 1 8 (.t 41) (.t 46), none⟩, ⟨some 5, .mv (.t 47), none⟩]) (.seq (.dreg [(⟨some 48, .ld 2 true (.t 2), none⟩, none), (⟨some 49, .mv (.t 7), none⟩, none), (⟨some 50, .mv (.t 8), none⟩, none), (⟨some 51, .idxA 1 (.t 49) (.t 50), none⟩, none), (⟨some 52, .ld 1 false (.t 51), none⟩, none), (⟨some 53, .pcall 49 [.t 48, .t 52, .c (.str [115, 101, 108, 101, 99, 116, 101, 100])], none⟩, none)]) (.cond (.t 53) (.reg [⟨some 54, .mv (.t 6), none⟩, ⟨some 55, .mv (.t 7), none⟩, ⟨some 56, .mv (.t 8), none⟩, ⟨some 57, .idxA 1 (.t 55) (.t 56), none⟩, ⟨some 58, .ld 1 false (.t 57), none⟩, ⟨some 59, .bldF 3 1 [.t 58], none⟩, ⟨some 60, .app 3 1 8 (.t 54) (.t 59), none⟩, ⟨some 6, .mv (.t 60), none⟩]) .skip))) .skip))) (.reg [⟨some 17, .mv (.t 8), none⟩, ⟨some 18, .bin .add (.t 17) (.c (.int .i64 1)), none⟩, ⟨some 8, .mv (.t 18), none⟩])))))) (.seq (.seq (.reg [⟨some 9, .mv (.c (.int .i64 0)), none⟩]) (.block 2 (.loop (.seq (.seq (.reg [⟨some 61, .mv (.t 9), none⟩, ⟨some 62, .mv (.t 5), none⟩, ⟨some 63, .len (.t 62), none⟩, ⟨some 64, .bin .lss (.t 61) (.t 63), none⟩, ⟨some 65, .mv (.t 64), none⟩, ⟨some 66, .mv (.t 6), some (65, true)⟩, ⟨some 67, .len (.t 66), some (65, true)⟩, ⟨some 68, .bin .eql (.t 67) (.c (.int .i64 0)), some (65, true)⟩, ⟨some 69, .pick (.t 65) (.t 68) (.c (.bool false)), none⟩, ⟨some 70, .mv (.t 69), none⟩, ⟨some 71, .ld 2 true (.t 2), some (70, true)⟩, ⟨some 72, .mv (.t 1), some (70, true)⟩, ⟨some 73, .pcall 49 [.t 71, .t 72, .c (.str [109, 117, 108, 116, 105, 112, 108, 101])], some (70, true)⟩, ⟨some 74, .un .not (.t 73), some (70, true)⟩, ⟨some 75, .pick (.t 70) (.t 74) (.c (.bool false)), none⟩]) (.cond (.t 75) .skip (.exit 2))) (.seq (.block 3 (.seq (.dreg [(⟨some 78, .ld 2 true (.t 2), none⟩, none), (⟨some 79, .mv (.t 5), none⟩, none), (⟨some 80, .mv (.t 9), none⟩, none), (⟨some 81, .idxA 1 (.t 79) (.t 80), none⟩, none), (⟨some 82, .ld 1 false (.t 81), none⟩, none), (⟨some 83, .pcall 49 [.t 78, .t 82, .c (.str [100, 105, 115, 97, 98, 108, 101, 100])], none⟩, none), (⟨some 84, .un .not (.t 83), none⟩, none)]) (.cond (.t 84) (.reg [⟨some 85, .mv (.t 6), none⟩, ⟨some 86, .mv (.t 5), none⟩, ⟨some 87, .mv (.t 9), none⟩, ⟨some 88, .idxA 1 (.t 86) (.t 87), none⟩, ⟨some 89, .ld 1 false (.t 88), none⟩, ⟨some 90, .bldF 3 1 [.t 89], none⟩, ⟨some 91, .app 3 1 8 (.t 85) (.t 90), none⟩, ⟨some 6, .mv (.t 91), none⟩]) .skip))) (.reg [⟨some 76, .mv (.t 9), none⟩, ⟨some 77, .bin .add (.t 76) (.c (.int .i64 1)), none⟩, ⟨some 9, .mv (.t 77), none⟩])))))) (.seq (.reg [⟨some 92, .mv (.t 6), none⟩, ⟨some 4, .mv (.t 92), none⟩]) .ret))))), [.tmp 4]⟩
theorem hc48 : toSF Tryz.prog {pure := [49, 44]} Tryz.f48 = some c48 := by kernel_rfl
theorem hn48 : (Tryz.f48.name == "runtime.NumGoroutine") = false := by kernel_rfl
set_option maxHeartbeats 2000000 in
theorem refOpts_ok (d : HDoc) (V : DV d) (sm : DocSm d) (n : Int) (hn : inD d n) : PCalls (Pg G) 48 [.agg (eDoc d), aInt n] (sl eInt (chosM d n)) := PCalls.outV fun h => by
  have hl := V.len
  have e0 : ∀ k : Int, nth d.nodes k.toNat = nd d k := fun _ => rfl
  have cB := below_ok (G := G) d V sm n hn
  have cM := rhas_ok (G := G) d sm n hn [109, 117, 108, 116, 105, 112, 108, 101]
  have gS := fun k hk => rhas_ok (G := G) d sm k hk [115, 101, 108, 101, 99, 116, 101, 100]
  have gD := fun k hk => rhas_ok (G := G) d sm k hk [100, 105, 115, 97, 98, 108, 101, 100]
  have bl := below_len V hn
  have bi := below_in V n hn
  have bp : 0 < (below d n).length := List.length_pos_iff.2 (List.ne_nil_of_mem (below_self V hn))
  have dE : eDoc d = [sl eNode d.nodes, .bool d.quirks] := rfl
  rw [dE] at cB cM
  have aE : belO d [111, 112, 116, 105, 111, 110] n = alO d (below d n) (below d n).length := by unfold belO alO; rw [List.take_length]
  unfold chosM
  rw [aE]
  generalize below d n = L at *
  generalize hasA d n [109, 117, 108, 116, 105, 112, 108, 101] = mu at *
  refine dcalls_of_vc Tryz.func48 hn48 hc48 (by rw [Tryz.ntmps48]; simp) (by rw [Tryz.ntmps48]; decide) ?_
  simp -dsimp -implicitDefEqProofs (disch := omega) only [VCA, Nat.reduceEqDiff, Nat.reduceAdd, ↓reduceIte, ne_eq, c48, eDoc]
  repeat' (first | ((with_reducible refine brC (fun _ => ?_) fun _ => ?_) <;> try (exfalso; omega)) | (with_reducible apply pcallE.of; · exact cB) | (with_reducible refine And.intro ?_ ?_; · omega) | simp -dsimp -implicitDefEqProofs (disch := omega) only [VCA, ↓reduceIte])
  refine LoopVC.intro (fun m e h' => ∃ k : Nat, 1 ≤ k ∧ k ≤ L.length ∧ m = L.length - k ∧ e 1 = aInt n ∧ e 2 = .pin [sl eNode d.nodes, .bool d.quirks] ∧ e 7 = sl eInt L ∧ e 8 = aInt k ∧ Acc h 3 1 ((alO d L k).map eInt) (e 5) h' ∧ Acc h 3 1 ((seO d L k).map eInt) (e 6) h' ∧ (∀ r, rootOf (e 5) = some r → rootOf (e 6) ≠ some r) ∧ Sim.Sub h h') (L.length - 1)
    (by
      have z1 : alO d L 1 = [] := by
        unfold alO; rw [List.drop_eq_nil_of_le (by rw [List.length_take]; omega)]; rfl
      refine ⟨1, by omega, by omega, rfl, rfl, rfl, rfl, rfl, ?_, ?_, (fun r e => nomatch e), Sub.refl _⟩
      · rw [z1]; exact Acc.nil
      · unfold seO; rw [z1]; exact Acc.nil) ?_
  rintro m e h' ⟨k, h1, hk, rfl, e1, e2, e7, e8, A5, A6, hne, S⟩
  have l5 := alO_len d L k
  have l6 := seO_len d L k
  by_cases hlt : k < L.length
  · have d1 : decide ((k : Int) < (L.length : Int)) = true := decide_eq_true (by omega)
    have s5 := alO_step (d := d) h1 hlt
    have s6 := seO_step (d := d) h1 hlt
    obtain ⟨x, hx⟩ : ∃ x, nth L k = x := ⟨_, rfl⟩
    have hxo : inD d x := by rw [← hx]; exact bi _ (nth_mem' hlt)
    rw [hx] at s5 s6
    have x0 := hxo.1
    have x1 := hxo.2
    have g1 := gS x hxo
    rw [dE] at g1
    obtain ⟨b2, hb2⟩ : ∃ b, ((nd d x).kind == 2) = b := ⟨_, rfl⟩
    obtain ⟨b3, hb3⟩ : ∃ b, ((nd d x).name == [111, 112, 116, 105, 111, 110]) = b := ⟨_, rfl⟩
    have hi : isN d [111, 112, 116, 105, 111, 110] x = (b3 && b2) := by unfold isN; rw [hb2, hb3]
    rw [hi] at s5 s6
    cases hbb : (b3 && b2)
    · rw [hbb] at s5 s6
      rw [if_neg (by simp), List.append_nil] at s5 s6
      have hz : ((nd d x).kind == 2 && (nd d x).name == [111, 112, 116, 105, 111, 110]) = false := by rw [hb2, hb3, Bool.and_comm]; exact hbb
      cases b2
      · repeat' (first | ((with_reducible refine brC (fun _ => ?_) fun _ => ?_) <;> try (exfalso; omega)) | (with_reducible refine And.intro ?_ ?_; · omega) | simp -dsimp -implicitDefEqProofs (disch := omega) only [↓vcD_sp 29, VCA, Nat.reduceEqDiff, Nat.reduceAdd, Nat.reduceLeDiff, ↓reduceIte, rsOf, rootsOf, ne_eq, rootL, eInt, e1, e2, e7, e8, d1, hx, eNode, e0, hb2])
        all_goals first | exact ⟨_, by omega, k + 1, by omega, by omega, rfl, by omega, by rw [s5]; exact A5, by rw [s6]; exact A6, hne, S⟩ | trace_state
      · cases b3
        · repeat' (first | ((with_reducible refine brC (fun _ => ?_) fun _ => ?_) <;> try (exfalso; omega)) | (with_reducible refine And.intro ?_ ?_; · omega) | simp -dsimp -implicitDefEqProofs (disch := omega) only [↓vcD_sp 29, VCA, Nat.reduceEqDiff, Nat.reduceAdd, Nat.reduceLeDiff, ↓reduceIte, rsOf, rootsOf, ne_eq, rootL, eInt, e1, e2, e7, e8, d1, hx, eNode, e0, hb2, hb3])
          all_goals first | exact ⟨_, by omega, k + 1, by omega, by omega, rfl, by omega, by rw [s5]; exact A5, by rw [s6]; exact A6, hne, S⟩ | trace_state
        · cases hbb
    · rw [hbb] at s5 s6
      obtain ⟨rfl, rfl⟩ : b3 = true ∧ b2 = true := by simpa using hbb
      rw [if_pos rfl] at s5
      repeat' (first | ((with_reducible refine brC (fun _ => ?_) fun _ => ?_) <;> try (exfalso; omega)) | (with_reducible refine And.intro ?_ ?_; · omega) | simp -dsimp -implicitDefEqProofs (disch := omega) only [↓vcD_sp 29, VCA, Nat.reduceEqDiff, Nat.reduceAdd, Nat.reduceLeDiff, ↓reduceIte, rsOf, rootsOf, okParts, forall_eq, ne_eq, exists_eq_left, rootL, eInt, e2, e7, e8, d1, hx, eNode, e0, hb2, hb3])
      refine A5.appW S (by simp only [List.length_map, List.length_cons, List.length_nil]; omega) (by simp only [List.length_map, List.length_cons, List.length_nil]; omega) fun a5 h2 A5' S2 kp => ?_
      obtain ⟨A6', hne'⟩ := acc_keep A6 (fun r q q' => hne r q' q) kp
      cases hz : hasA d x [115, 101, 108, 101, 99, 116, 101, 100]
      · rw [hz] at g1 s6
        rw [if_neg (by simp), List.append_nil] at s6
        repeat' (first | ((with_reducible refine brC (fun _ => ?_) fun _ => ?_) <;> try (exfalso; omega)) | (with_reducible apply pcallE.of; · exact g1) | (with_reducible refine And.intro ?_ ?_; · omega) | simp -dsimp -implicitDefEqProofs (disch := omega) only [VCA, Nat.reduceEqDiff, Nat.reduceAdd, ↓reduceIte, rsOf, rootsOf, rootL, eInt, e1, e2, e7, e8, hx])
        all_goals first | exact ⟨_, by omega, k + 1, by omega, by omega, rfl, by omega, by rw [s5, List.map_append]; exact A5', by rw [s6]; exact A6', fun r q q' => hne' r q' q, S2⟩ | trace_state
      · rw [hz] at g1 s6
        rw [if_pos ⟨rfl, rfl⟩] at s6
        repeat' (first | ((with_reducible refine brC (fun _ => ?_) fun _ => ?_) <;> try (exfalso; omega)) | (with_reducible apply pcallE.of; · exact g1) | (with_reducible refine And.intro ?_ ?_; · omega) | simp -dsimp -implicitDefEqProofs (disch := omega) only [VCA, Nat.reduceEqDiff, Nat.reduceAdd, ↓reduceIte, rsOf, rootsOf, okParts, forall_eq, exists_eq_left, rootL, eInt, e2, e7, e8, hx])
        refine A6'.appW S2 (by simp only [List.length_map, List.length_cons, List.length_nil]; omega) (by simp only [List.length_map, List.length_cons, List.length_nil]; omega) fun a6 h3 A6'' S3 kp2 => ?_
        obtain ⟨A5'', hne''⟩ := acc_keep A5' (fun r q q' => hne' r q' q) kp2
        repeat' (first | ((with_reducible refine brC (fun _ => ?_) fun _ => ?_) <;> try (exfalso; omega)) | (with_reducible refine And.intro ?_ ?_; · omega) | simp -dsimp -implicitDefEqProofs (disch := omega) only [VCA, Nat.reduceEqDiff, ↓reduceIte, e1, e2, e7, e8])
        all_goals first | exact ⟨_, by omega, k + 1, by omega, by omega, rfl, by omega, by rw [s5, List.map_append]; exact A5'', by rw [s6, List.map_append]; exact A6'', hne'', S3⟩ | trace_state
  · obtain rfl : k = L.length := by omega
    have d1 : decide ((L.length : Int) < (L.length : Int)) = false := decide_eq_false (by omega)
    have ali : ∀ x ∈ alO d L L.length, inD d x := fun x hx => bi x (by
      unfold alO at hx
      exact List.mem_of_mem_take (List.mem_of_mem_drop (List.mem_filter.1 hx).1))
    have hW0 : (alO d L L.length).filter (fun k => hasA d k [115, 101, 108, 101, 99, 116, 101, 100]) = seO d L L.length := rfl
    rw [hW0]
    generalize alO d L L.length = A at *
    generalize seO d L L.length = W at *
    repeat' (first | ((with_reducible refine brC (fun _ => ?_) fun _ => ?_) <;> try (exfalso; omega)) | (with_reducible refine And.intro ?_ ?_; · omega) | simp -dsimp -implicitDefEqProofs (disch := omega) only [VCA, Nat.reduceEqDiff, ↓reduceIte, ne_eq, e7, e8, d1])
    refine LoopVC.intro (fun m e2 h2 => ∃ (k : Nat) (o : List Int), k ≤ A.length ∧ m = A.length - k ∧ e2 1 = aInt n ∧ e2 2 = .pin [sl eNode d.nodes, .bool d.quirks] ∧ e2 9 = aInt k ∧ Acc h 3 1 (A.map eInt) (e2 5) h2 ∧ Acc h 3 1 (o.map eInt) (e2 6) h2 ∧ (∀ r, rootOf (e2 5) = some r → rootOf (e2 6) ≠ some r) ∧ Sim.Sub h h2 ∧
        o = (if W ≠ [] ∨ mu = true then W else ((A.take k).filter fun k => !hasA d k [100, 105, 115, 97, 98, 108, 101, 100]).take 1)) A.length
      (by
        refine ⟨0, W, by omega, by omega, e1, e2, rfl, A5, A6, hne, S, ?_⟩
        split
        · rfl
        · rename_i q; simp only [not_or, Classical.not_not] at q; rw [q.1]; rfl) ?_
    rintro m e h2 ⟨k, o, hk, rfl, e1, e2, e9, A5, A6, hne, S, ho⟩
    have aL := A5.len
    have oL := A6.len
    simp only [List.length_map] at aL oL
    have hv : Vw (newH h h2) (e 6) (sl eInt o) := (OwnS.of_acc A6).1.vwN fun r hr => (OwnS.of_acc A6).2.1 r hr
    by_cases hlt : k < A.length
    · have d2 : decide ((k : Int) < (A.length : Int)) = true := decide_eq_true (by omega)
      by_cases hoe : o = []
      · have d3 : ((o.length : Int) == 0) = true := by rw [hoe]; rfl
        cases mu
        · have hW : W = [] := Classical.byContradiction fun q => by
            rw [if_pos (.inl q)] at ho
            exact q (ho.symm.trans hoe)
          rw [if_neg (by simp [hW])] at ho
          have hf : (A.take k).filter (fun k => !hasA d k [100, 105, 115, 97, 98, 108, 101, 100]) = [] := by
            rw [hoe] at ho
            cases hq : (A.take k).filter (fun k => !hasA d k [100, 105, 115, 97, 98, 108, 101, 100]) with
            | nil => rfl
            | cons y r => rw [hq] at ho; cases ho
          have tk : (A.take (k + 1)).filter (fun k => !hasA d k [100, 105, 115, 97, 98, 108, 101, 100]) = if hasA d (nth A k) [100, 105, 115, 97, 98, 108, 101, 100] = true then [] else [nth A k] := by
            rw [take_snoc hlt, List.filter_append, hf, List.filter_cons, List.filter_nil]
            cases hasA d (nth A k) [100, 105, 115, 97, 98, 108, 101, 100] <;> rfl
          have hxo := ali _ (nth_mem' hlt)
          obtain ⟨r5, q0, q1, q2⟩ := A5.pos (by rw [List.length_map]; omega)
          have hget := getD_map_enc (enc := eInt) hlt
          obtain ⟨x, hx⟩ : ∃ x, nth A k = x := ⟨_, rfl⟩
          rw [hx] at hxo tk hget
          have g1 := gD x hxo
          rw [dE] at g1
          have hlm : (A.map eInt).length = A.length := List.length_map _
          rw [hlm] at q2
          rw [q2] at A5 hne
          cases hz : hasA d x [100, 105, 115, 97, 98, 108, 101, 100]
          · rw [hz] at g1 tk
            rw [if_neg (by simp)] at tk
            repeat' (first | ((with_reducible refine brC (fun _ => ?_) fun _ => ?_) <;> try (exfalso; omega)) | (with_reducible apply pcallE.of; · exact cM) | (with_reducible apply pcallE.of; · exact g1) | (with_reducible refine And.intro ?_ ?_; · omega) | simp -dsimp -implicitDefEqProofs (disch := omega) only [↓vcOps_sp 65, ↓vcOps_sp 70, VCA, Nat.reduceEqDiff, Nat.reduceAdd, ↓reduceIte, rsOf, rootsOf, okParts, forall_eq, ne_eq, exists_eq_left, exists_eq_left', rootL, eInt, e1, e2, e9, oL.1, oL.2, d2, d3, q2, q1, hlm, hget])
            refine A6.appW S (by rw [hoe]; simp only [List.length_map, List.length_cons, List.length_nil]; omega) (by rw [hoe]; simp only [List.length_map, List.length_cons, List.length_nil]; omega) fun a6 h3 A6' S3 kp => ?_
            obtain ⟨A5', hne'⟩ := acc_keep A5 hne kp
            repeat' (first | ((with_reducible refine brC (fun _ => ?_) fun _ => ?_) <;> try (exfalso; omega)) | (with_reducible refine And.intro ?_ ?_; · omega) | simp -dsimp -implicitDefEqProofs (disch := omega) only [VCA, Nat.reduceEqDiff, ↓reduceIte, e1, e2, e9, q2])
            refine ⟨_, by omega, k + 1, [x], by omega, rfl, by omega, A5', by rw [hoe] at A6'; exact A6', hne', S3, ?_⟩
            rw [if_neg (by simp [hW]), tk]; rfl
          · rw [hz] at g1 tk
            rw [if_pos rfl] at tk
            repeat' (first | ((with_reducible refine brC (fun _ => ?_) fun _ => ?_) <;> try (exfalso; omega)) | (with_reducible apply pcallE.of; · exact cM) | (with_reducible apply pcallE.of; · exact g1) | (with_reducible refine And.intro ?_ ?_; · omega) | simp -dsimp -implicitDefEqProofs (disch := omega) only [↓vcOps_sp 65, ↓vcOps_sp 70, VCA, Nat.reduceEqDiff, Nat.reduceAdd, ↓reduceIte, rsOf, rootsOf, ne_eq, exists_eq_left', rootL, eInt, e1, e2, e9, oL.1, oL.2, d2, d3, q2, q1, hlm, hget])
            refine ⟨_, by omega, k + 1, o, by omega, rfl, by omega, A5, A6, hne, S, ?_⟩
            rw [if_neg (by simp [hW]), tk, hoe]; rfl
        · have hc : (if W ≠ [] ∨ True then W else (A.filter fun k => !hasA d k [100, 105, 115, 97, 98, 108, 101, 100]).take 1) = o := by
            rw [ho]; simp
          rw [if_pos (.inr rfl)]
          rw [if_pos (.inr rfl)] at ho
          rw [← ho]
          repeat' (first | ((with_reducible refine brC (fun _ => ?_) fun _ => ?_) <;> try (exfalso; omega)) | (with_reducible apply pcallE.of; · exact cM) | (with_reducible refine And.intro ?_ ?_; · omega) | simp -dsimp -implicitDefEqProofs (disch := omega) only [↓vcOps_sp 65, ↓vcOps_sp 70, VCA, Nat.reduceEqDiff, Nat.reduceAdd, ↓reduceIte, ne_eq, e1, e2, e9, aL.1, aL.2, oL.1, oL.2, d2, d3])
          exact ⟨_, Sub.refl _, S, .one _ _ hv⟩
      · have d3 : ((o.length : Int) == 0) = false := by
          have := List.length_pos_iff.2 hoe
          simp; omega
        have hc : (if W ≠ [] ∨ mu = true then W else (A.filter fun k => !hasA d k [100, 105, 115, 97, 98, 108, 101, 100]).take 1) = o := by
          rw [ho]
          by_cases q : W ≠ [] ∨ mu = true
          · rw [if_pos q, if_pos q]
          · rw [if_neg q] at ho ⊢
            rw [if_neg q]
            exact take1_filter fun q2 => hoe (by rw [ho, q2]; rfl)
        rw [hc]
        repeat' (first | ((with_reducible refine brC (fun _ => ?_) fun _ => ?_) <;> try (exfalso; omega)) | (with_reducible refine And.intro ?_ ?_; · omega) | simp -dsimp -implicitDefEqProofs (disch := omega) only [↓vcOps_sp 65, ↓vcOps_sp 70, VCA, Nat.reduceEqDiff, ↓reduceIte, ne_eq, e9, aL.1, aL.2, oL.1, oL.2, d2, d3])
        exact ⟨_, Sub.refl _, S, .one _ _ hv⟩
    · obtain rfl : k = A.length := by omega
      have d2 : decide ((A.length : Int) < (A.length : Int)) = false := decide_eq_false (by omega)
      rw [List.take_length] at ho
      rw [← ho]
      repeat' (first | ((with_reducible refine brC (fun _ => ?_) fun _ => ?_) <;> try (exfalso; omega)) | (with_reducible refine And.intro ?_ ?_; · omega) | simp -dsimp -implicitDefEqProofs (disch := omega) only [↓vcOps_sp 65, ↓vcOps_sp 70, VCA, Nat.reduceEqDiff, ↓reduceIte, ne_eq, e9, aL.1, aL.2, d2])
      exact ⟨_, Sub.refl _, S, .one _ _ hv⟩
end Go.Proofs.K
end
section
set_option linter.unusedSimpArgs false
set_option linter.unusedVariables false
namespace Go.Proofs.K
open Go Go.Sim Go.Proofs
variable {G : Glob}
theorem belO_name (d : HDoc) (n : Int) : ∀ k ∈ belO d [111, 112, 116, 105, 111, 110] n, (nd d k).name ≠ [] := fun k hk => by
  have h := (List.mem_filter.1 hk).2
  unfold isN at h
  simp only [Bool.and_eq_true, beq_iff_eq] at h
  rw [h.1]; simp
theorem chosM_name (d : HDoc) (n : Int) : ∀ k ∈ chosM d n, (nd d k).name ≠ [] := fun k hk => by
  unfold chosM at hk
  split at hk
  · exact belO_name d n k (List.mem_filter.1 hk).1
  · exact belO_name d n k (List.mem_filter.1 (List.mem_of_mem_take hk)).1
theorem inW_tick (x : List UInt8) : inW x [99, 104, 101, 99, 107, 98, 111, 120, 32, 114, 97, 100, 105, 111] = tickM x :=
  inW_two x [99, 104, 101, 99, 107, 98, 111, 120] [114, 97, 100, 105, 111] (by decide) (by decide)
def c21 : SFun := ⟨.seq (.reg [⟨some 2, .boxF 36 2 (.t 0), none⟩, ⟨some 4, .mv (.c (.str [])), none⟩]) (.seq (.seq (.reg [⟨some 6, .fldA 0 (.t 2), none⟩, ⟨some 7, .ld 1 false (.t 6), none⟩, ⟨some 8, .mv (.t 1), none⟩, ⟨some 9, .idxA 6 (.t 7) (.t 8), none⟩, ⟨some 10, .fldA 1 (.t 9), none⟩, ⟨some 11, .ld 1 false (.t 10), none⟩, ⟨some 12, .bin .eql (.t 11) (.c (.str [116, 101, 120, 116, 97, 114, 101, 97])), none⟩]) (.cond (.t 12) (.seq (.reg [⟨some 13, .ld 2 true (.t 2), none⟩, ⟨some 14, .mv (.t 1), none⟩, ⟨some 15, .pcall 58 [.t 13, .t 14], none⟩, ⟨some 4, .mv (.t 15), none⟩]) .ret) .skip)) (.seq (.seq (.reg [⟨some 16, .fldA 0 (.t 2), none⟩, ⟨some 17, .ld 1 false (.t 16), none⟩, ⟨some 18, .mv (.t 1), none⟩, ⟨some 19, .idxA 6 (.t 17) (.t 18), none⟩, ⟨some 20, .fldA 1 (.t 19), none⟩, ⟨some 21, .ld 1 false (.t 20), none⟩, ⟨some 22, .bin .eql (.t 21) (.c (.str [115, 101, 108, 101, 99, 116])), none⟩]) (.cond (.t 22) (.seq (.reg [⟨some 23, .ld 2 true (.t 2), none⟩, ⟨some 24, .mv (.t 1), none⟩, ⟨some 25, .pcall 48 [.t 23, .t 24], none⟩, ⟨some 5, .mv (.t 25), none⟩]) (.seq (.seq (.reg [⟨some 26, .mv (.t 5), none⟩, ⟨some 27, .len (.t 26), none⟩, ⟨some 28, .bin .eql (.t 27) (.c (.int .i64 0)), none⟩]) (.cond (.t 28) (.seq (.reg [⟨some 4, .mv (.c (.str [])), none⟩]) .ret) .skip)) (.seq (.dreg [(⟨some 29, .ld 2 true (.t 2), none⟩, none), (⟨some 30, .mv (.t 5), none⟩, none), (⟨some 31, .mv (.t 5), none⟩, none), (⟨some 32, .len (.t 31), none⟩, none), (⟨some 33, .bin .sub (.t 32) (.c (.int .i64 1)), none⟩, none), (⟨some 34, .idxA 1 (.t 30) (.t 33), none⟩, none), (⟨some 35, .ld 1 false (.t 34), none⟩, none), (⟨some 36, .pcall 50 [.t 29, .t 35], none⟩, none), (⟨some 4, .mv (.t 36), none⟩, none)]) .ret))) .skip)) (.seq (.seq (.reg [⟨some 37, .ld 2 true (.t 2), none⟩, ⟨some 38, .mv (.t 1), none⟩, ⟨some 39, .pcall 47 [.t 37, .t 38], none⟩, ⟨some 40, .pcall 59 [.t 39, .c (.str [99, 104, 101, 99, 107, 98, 111, 120, 32, 114, 97, 100, 105, 111])], none⟩, ⟨some 41, .mv (.t 40), none⟩, ⟨some 42, .ld 2 true (.t 2), some (41, true)⟩, ⟨some 43, .mv (.t 1), some (41, true)⟩, ⟨some 44, .pcall 49 [.t 42, .t 43, .c (.str [118, 97, 108, 117, 101])], some (41, true)⟩, ⟨some 45, .un .not (.t 44), some (41, true)⟩, ⟨some 46, .pick (.t 41) (.t 45) (.c (.bool false)), none⟩]) (.cond (.t 46) (.seq (.reg [⟨some 4, .mv (.c (.str [111, 110])), none⟩]) .ret) .skip)) (.seq (.reg [⟨some 47, .ld 2 true (.t 2), none⟩, ⟨some 48, .mv (.t 1), none⟩, ⟨some 49, .pcall 46 [.t 47, .t 48, .c (.str [118, 97, 108, 117, 101])], none⟩, ⟨some 4, .mv (.t 49), none⟩]) .ret)))), [.tmp 4]⟩
theorem hc21 : toSF Tryz.prog {pure := [58, 48, 50, 59, 47, 49, 46]} Tryz.f21 = some c21 := by kernel_rfl
theorem hn21 : (Tryz.f21.name == "runtime.NumGoroutine") = false := by kernel_rfl
set_option maxRecDepth 10000 in
theorem refValue_ok (d : HDoc) (V : DV d) (sm : DocSm d) (n : Int) (hn : inD d n) : PCalls (Pg G) 21 [.agg (eDoc d), aInt n] (.str (valM d n)) := fun h => by
  have hl := V.len
  have n0 := hn.1
  have n1 := hn.2
  have e0 : nth d.nodes n.toNat = nd d n := rfl
  have cX := textUnder_ok (G := G) d V sm n hn
  have cC := refOpts_ok (G := G) d V sm n hn
  have cK := inputType_ok (G := G) d V sm n hn
  have cH := rhas_ok (G := G) d sm n hn [118, 97, 108, 117, 101]
  have cA := ratt_ok (G := G) d sm n hn [118, 97, 108, 117, 101]
  have cW : PCalls (Pg G) 59 [.str (kindM d n), .str [99, 104, 101, 99, 107, 98, 111, 120, 32, 114, 97, 100, 105, 111]] (.bool (tickM (kindM d n))) := by
    have h := wordW_ok (G := G) (kindM d n) [99, 104, 101, 99, 107, 98, 111, 120, 32, 114, 97, 100, 105, 111] (by decide)
    rw [← inW_tick]; exact h
  have ci := chosM_in V hn
  have cl := chosM_len V hn
  have cn := chosM_name d n
  have gO := fun x hx hm => refOptV_ok (G := G) d V sm x hx hm
  have dE : eDoc d = [sl eNode d.nodes, .bool d.quirks] := rfl
  rw [dE] at cX cC cK cH cA
  unfold valM
  generalize chosM d n = L at *
  generalize kindM d n = kd at *
  by_cases h1 : (nd d n).name = [116, 101, 120, 116, 97, 114, 101, 97]
  · have b1 : ((nd d n).name == [116, 101, 120, 116, 97, 114, 101, 97]) = true := by simpa using h1
    rw [text_name d V hn (by rw [h1]; simp)] at cX
    rw [if_pos h1]
    refine dcalls_of_vc Tryz.func21 hn21 hc21 (by rw [Tryz.ntmps21]; simp) (by rw [Tryz.ntmps21]; decide) ?_
    simp -dsimp -implicitDefEqProofs (disch := omega) only [VCA, Nat.reduceEqDiff, Nat.reduceAdd, Nat.reduceLeDiff, ↓reduceIte, c21, eDoc]
    repeat' (first | ((with_reducible refine brC (fun _ => ?_) fun _ => ?_) <;> try (exfalso; omega)) | (with_reducible apply pcallE.of; · exact cX) | (with_reducible refine And.intro ?_ ?_; · omega) | simp -dsimp -implicitDefEqProofs (disch := omega) only [VCA, Nat.reduceEqDiff, Nat.reduceAdd, Nat.reduceLeDiff, ↓reduceIte, exists_eq_right, eNode, e0, b1])
    all_goals first | exact Sub.refl _ | exact ⟨by omega, Sub.refl _⟩ | trace_state
  · have b1 : ((nd d n).name == [116, 101, 120, 116, 97, 114, 101, 97]) = false := by simpa using h1
    rw [if_neg h1]
    by_cases h2 : (nd d n).name = [115, 101, 108, 101, 99, 116]
    · have b2 : ((nd d n).name == [115, 101, 108, 101, 99, 116]) = true := by simpa using h2
      rw [if_pos h2]
      by_cases h3 : L = []
      · have d3 : ((L.length : Int) == 0) = true := by rw [h3]; rfl
        rw [if_pos h3]
        refine dcalls_of_vc Tryz.func21 hn21 hc21 (by rw [Tryz.ntmps21]; simp) (by rw [Tryz.ntmps21]; decide) ?_
        simp -dsimp -implicitDefEqProofs (disch := omega) only [VCA, Nat.reduceEqDiff, Nat.reduceAdd, Nat.reduceLeDiff, ↓reduceIte, c21, eDoc]
        repeat' (first | ((with_reducible refine brC (fun _ => ?_) fun _ => ?_) <;> try (exfalso; omega)) | (with_reducible apply pcallE.of; · exact cC) | (with_reducible refine And.intro ?_ ?_; · omega) | simp -dsimp -implicitDefEqProofs (disch := omega) only [VCA, Nat.reduceEqDiff, Nat.reduceAdd, Nat.reduceLeDiff, ↓reduceIte, exists_eq_right, eNode, e0, b1, b2, d3])
        all_goals first | exact Sub.refl _ | exact ⟨by omega, Sub.refl _⟩ | trace_state
      · have hp := List.length_pos_iff.2 h3
        have d3 : ((L.length : Int) == 0) = false := by simp; omega
        have hlt : L.length - 1 < L.length := by omega
        have eL : ((L.length : Int) - 1).toNat = L.length - 1 := by omega
        have g := gO _ (ci _ (nth_mem' hlt)) (cn _ (nth_mem' hlt))
        rw [dE] at g
        rw [if_neg h3]
        obtain ⟨x, hxx⟩ : ∃ x, nth L (L.length - 1) = x := ⟨_, rfl⟩
        rw [hxx] at g ⊢
        refine dcalls_of_vc Tryz.func21 hn21 hc21 (by rw [Tryz.ntmps21]; simp) (by rw [Tryz.ntmps21]; decide) ?_
        simp -dsimp -implicitDefEqProofs (disch := omega) only [VCA, Nat.reduceEqDiff, Nat.reduceAdd, Nat.reduceLeDiff, ↓reduceIte, c21, eDoc]
        repeat' (first | ((with_reducible refine brC (fun _ => ?_) fun _ => ?_) <;> try (exfalso; omega)) | (with_reducible apply pcallE.of; · exact cC) | (with_reducible apply pcallE.of; · exact g) | (with_reducible refine And.intro ?_ ?_; · omega) | simp -dsimp -implicitDefEqProofs (disch := omega) only [VCA, Nat.reduceEqDiff, Nat.reduceAdd, Nat.reduceLeDiff, ↓reduceIte, rsOf, rootsOf, exists_eq_right, rootL, eInt, eNode, e0, b1, b2, d3, eL, hxx])
        all_goals first | exact Sub.refl _ | exact ⟨by omega, Sub.refl _⟩ | trace_state
    · have b2 : ((nd d n).name == [115, 101, 108, 101, 99, 116]) = false := by simpa using h2
      rw [if_neg h2]
      cases h3 : tickM kd
      · rw [h3] at cW
        rw [if_neg (by simp)]
        refine dcalls_of_vc Tryz.func21 hn21 hc21 (by rw [Tryz.ntmps21]; simp) (by rw [Tryz.ntmps21]; decide) ?_
        simp -dsimp -implicitDefEqProofs (disch := omega) only [VCA, Nat.reduceEqDiff, Nat.reduceAdd, Nat.reduceLeDiff, ↓reduceIte, c21, eDoc]
        repeat' (first | ((with_reducible refine brC (fun _ => ?_) fun _ => ?_) <;> try (exfalso; omega)) | (with_reducible apply pcallE.of; · exact cK) | (with_reducible apply pcallE.of; · exact cW) | (with_reducible apply pcallE.of; · exact cA) | (with_reducible refine And.intro ?_ ?_; · omega) | simp -dsimp -implicitDefEqProofs (disch := omega) only [↓vcOps_sp 41, VCA, Nat.reduceEqDiff, Nat.reduceAdd, Nat.reduceLeDiff, ↓reduceIte, exists_eq_right, eNode, e0, b1, b2])
        all_goals first | exact Sub.refl _ | exact ⟨by omega, Sub.refl _⟩ | trace_state
      · rw [h3] at cW
        cases h4 : hasA d n [118, 97, 108, 117, 101]
        · rw [h4] at cH
          rw [if_pos ⟨rfl, rfl⟩]
          refine dcalls_of_vc Tryz.func21 hn21 hc21 (by rw [Tryz.ntmps21]; simp) (by rw [Tryz.ntmps21]; decide) ?_
          simp -dsimp -implicitDefEqProofs (disch := omega) only [VCA, Nat.reduceEqDiff, Nat.reduceAdd, Nat.reduceLeDiff, ↓reduceIte, c21, eDoc]
          repeat' (first | ((with_reducible refine brC (fun _ => ?_) fun _ => ?_) <;> try (exfalso; omega)) | (with_reducible apply pcallE.of; · exact cK) | (with_reducible apply pcallE.of; · exact cW) | (with_reducible apply pcallE.of; · exact cH) | (with_reducible refine And.intro ?_ ?_; · omega) | simp -dsimp -implicitDefEqProofs (disch := omega) only [↓vcOps_sp 41, VCA, Nat.reduceEqDiff, Nat.reduceAdd, Nat.reduceLeDiff, ↓reduceIte, exists_eq_right, eNode, e0, b1, b2])
          all_goals first | exact Sub.refl _ | exact ⟨by omega, Sub.refl _⟩ | trace_state
        · rw [h4] at cH
          rw [if_neg (by simp)]
          refine dcalls_of_vc Tryz.func21 hn21 hc21 (by rw [Tryz.ntmps21]; simp) (by rw [Tryz.ntmps21]; decide) ?_
          simp -dsimp -implicitDefEqProofs (disch := omega) only [VCA, Nat.reduceEqDiff, Nat.reduceAdd, Nat.reduceLeDiff, ↓reduceIte, c21, eDoc]
          repeat' (first | ((with_reducible refine brC (fun _ => ?_) fun _ => ?_) <;> try (exfalso; omega)) | (with_reducible apply pcallE.of; · exact cK) | (with_reducible apply pcallE.of; · exact cW) | (with_reducible apply pcallE.of; · exact cH) | (with_reducible apply pcallE.of; · exact cA) | (with_reducible refine And.intro ?_ ?_; · omega) | simp -dsimp -implicitDefEqProofs (disch := omega) only [↓vcOps_sp 41, VCA, Nat.reduceEqDiff, Nat.reduceAdd, Nat.reduceLeDiff, ↓reduceIte, exists_eq_right, eNode, e0, b1, b2])
          all_goals first | exact Sub.refl _ | exact ⟨by omega, Sub.refl _⟩ | trace_state
def k45_1 : List UInt8 := [115, 117, 98, 109, 105, 116, 32, 114, 101, 115, 101, 116, 32, 98, 117, 116, 116, 111, 110, 32, 105, 109, 97, 103, 101, 32, 102, 105, 108, 101]
def c45 : SFun := ⟨.seq (.reg [⟨some 3, .boxF 36 2 (.t 0), none⟩, ⟨some 6, .mv (.c (.bool false)), none⟩]) (.seq (.seq (.reg [⟨some 9, .ld 2 true (.t 3), none⟩, ⟨some 10, .mv (.t 1), none⟩, ⟨some 11, .pcall 42 [.t 9, .t 10], none⟩, ⟨some 12, .un .not (.t 11), none⟩, ⟨some 13, .mv (.t 12), none⟩, ⟨some 14, .ld 2 true (.t 3), some (13, false)⟩, ⟨some 15, .mv (.t 1), some (13, false)⟩, ⟨some 16, .pcall 20 [.t 14, .t 15], some (13, false)⟩, ⟨some 17, .mv (.t 2), some (13, false)⟩, ⟨some 18, .bin .neq (.t 16) (.t 17), some (13, false)⟩, ⟨some 19, .pick (.t 13) (.c (.bool true)) (.t 18), none⟩, ⟨some 20, .mv (.t 19), none⟩, ⟨some 21, .ld 2 true (.t 3), some (20, false)⟩, ⟨some 22, .mv (.t 1), some (20, false)⟩, ⟨some 23, .pcall 46 [.t 21, .t 22, .c (.str [110, 97, 109, 101])], some (20, false)⟩, ⟨some 24, .bin .eql (.t 23) (.c (.str [])), some (20, false)⟩, ⟨some 25, .pick (.t 20) (.c (.bool true)) (.t 24), none⟩, ⟨some 26, .mv (.t 25), none⟩, ⟨some 27, .ld 2 true (.t 3), some (26, false)⟩, ⟨some 28, .mv (.t 1), some (26, false)⟩, ⟨some 29, .pcall 49 [.t 27, .t 28, .c (.str [100, 105, 115, 97, 98, 108, 101, 100])], some (26, false)⟩, ⟨some 30, .pick (.t 26) (.c (.bool true)) (.t 29), none⟩]) (.cond (.t 30) (.seq (.reg [⟨some 6, .mv (.c (.bool false)), none⟩]) .ret) .skip)) (.seq (.seq (.reg [⟨some 31, .fldA 0 (.t 3), none⟩, ⟨some 32, .ld 1 false (.t 31), none⟩, ⟨some 33, .mv (.t 1), none⟩, ⟨some 34, .idxA 6 (.t 32) (.t 33), none⟩, ⟨some 35, .fldA 4 (.t 34), none⟩, ⟨some 36, .ld 1 false (.t 35), none⟩, ⟨some 7, .mv (.t 36), none⟩]) (.block 0 (.loop (.seq (.seq (.reg [⟨some 37, .mv (.t 7), none⟩, ⟨some 38, .bin .geq (.t 37) (.c (.int .i64 0)), none⟩]) (.cond (.t 38) .skip (.exit 0))) (.seq (.block 1 (.seq (.reg [⟨some 45, .fldA 0 (.t 3), none⟩, ⟨some 46, .ld 1 false (.t 45), none⟩, ⟨some 47, .mv (.t 7), none⟩, ⟨some 48, .idxA 6 (.t 46) (.t 47), none⟩, ⟨some 49, .fldA 0 (.t 48), none⟩, ⟨some 50, .ld 1 false (.t 49), none⟩, ⟨some 51, .bin .eql (.t 50) (.c (.int .i64 2)), none⟩, ⟨some 52, .mv (.t 51), none⟩, ⟨some 53, .fldA 0 (.t 3), some (52, true)⟩, ⟨some 54, .ld 1 false (.t 53), some (52, true)⟩, ⟨some 55, .mv (.t 7), some (52, true)⟩, ⟨some 56, .idxA 6 (.t 54) (.t 55), some (52, true)⟩, ⟨some 57, .fldA 1 (.t 56), some (52, true)⟩, ⟨some 58, .ld 1 false (.t 57), some (52, true)⟩, ⟨some 59, .bin .eql (.t 58) (.c (.str [102, 105, 101, 108, 100, 115, 101, 116])), some (52, true)⟩, ⟨some 60, .pick (.t 52) (.t 59) (.c (.bool false)), none⟩, ⟨some 61, .mv (.t 60), none⟩, ⟨some 62, .ld 2 true (.t 3), some (61, true)⟩, ⟨some 63, .mv (.t 7), some (61, true)⟩, ⟨some 64, .pcall 49 [.t 62, .t 63, .c (.str [100, 105, 115, 97, 98, 108, 101, 100])], some (61, true)⟩, ⟨some 65, .pick (.t 61) (.t 64) (.c (.bool false)), none⟩]) (.cond (.t 65) (.seq (.reg [⟨some 6, .mv (.c (.bool false)), none⟩]) .ret) .skip))) (.reg [⟨some 39, .fldA 0 (.t 3), none⟩, ⟨some 40, .ld 1 false (.t 39), none⟩, ⟨some 41, .mv (.t 7), none⟩, ⟨some 42, .idxA 6 (.t 40) (.t 41), none⟩, ⟨some 43, .fldA 4 (.t 42), none⟩, ⟨some 44, .ld 1 false (.t 43), none⟩, ⟨some 7, .mv (.t 44), none⟩])))))) (.seq (.reg [⟨some 66, .ld 2 true (.t 3), none⟩, ⟨some 67, .mv (.t 1), none⟩, ⟨some 68, .pcall 47 [.t 66, .t 67], none⟩, ⟨some 8, .mv (.t 68), none⟩]) (.seq (.seq (.reg [⟨some 69, .mv (.t 8), none⟩, ⟨some 70, .pcall 59 [.t 69, .c (.str k45_1)], none⟩]) (.cond (.t 70) (.seq (.reg [⟨some 6, .mv (.c (.bool false)), none⟩]) .ret) .skip)) (.seq (.reg [⟨some 71, .mv (.t 8), none⟩, ⟨some 72, .pcall 59 [.t 71, .c (.str [99, 104, 101, 99, 107, 98, 111, 120, 32, 114, 97, 100, 105, 111])], none⟩, ⟨some 73, .un .not (.t 72), none⟩, ⟨some 74, .mv (.t 73), none⟩, ⟨some 75, .ld 2 true (.t 3), some (74, false)⟩, ⟨some 76, .mv (.t 1), some (74, false)⟩, ⟨some 77, .pcall 49 [.t 75, .t 76, .c (.str [99, 104, 101, 99, 107, 101, 100])], some (74, false)⟩, ⟨some 78, .pick (.t 74) (.c (.bool true)) (.t 77), none⟩, ⟨some 6, .mv (.t 78), none⟩]) .ret))))), [.tmp 6]⟩
theorem hc45 : toSF Tryz.prog {pure := [42, 20, 46, 49, 47, 59]} Tryz.f45 = some c45 := by kernel_rfl
theorem hn45 : (Tryz.f45.name == "runtime.NumGoroutine") = false := by kernel_rfl
set_option maxHeartbeats 2000000 in
set_option maxRecDepth 10000 in
theorem isTold_ok (d : HDoc) (V : DV d) (sm : DocSm d) (n f : Int) (hn : inD d n) : PCalls (Pg G) 45 [.agg (eDoc d), aInt n, aInt f] (.bool (tellM d f n)) := fun h => by
  have hl := V.len
  have n0 := hn.1
  have n1 := hn.2
  have e0 : ∀ k : Int, nth d.nodes k.toNat = nd d k := fun _ => rfl
  have cI := isCtl_ok (G := G) d sm n hn
  have cO := refOwner_ok (G := G) d V sm n hn
  have cN := ratt_ok (G := G) d sm n hn [110, 97, 109, 101]
  have cD := rhas_ok (G := G) d sm n hn [100, 105, 115, 97, 98, 108, 101, 100]
  have cC := rhas_ok (G := G) d sm n hn [99, 104, 101, 99, 107, 101, 100]
  have cK := inputType_ok (G := G) d V sm n hn
  have cW : PCalls (Pg G) 59 [.str (kindM d n), .str [99, 104, 101, 99, 107, 98, 111, 120, 32, 114, 97, 100, 105, 111]] (.bool (tickM (kindM d n))) := by
    have h := wordW_ok (G := G) (kindM d n) [99, 104, 101, 99, 107, 98, 111, 120, 32, 114, 97, 100, 105, 111] (by decide)
    rw [← inW_tick]; exact h
  have cS : PCalls (Pg G) 59 [.str (kindM d n), .str subS] (.bool (inW (kindM d n) subS)) := wordW_ok (G := G) (kindM d n) subS (by decide)
  have ek : k45_1 = subS := by decide +kernel
  have gD := fun k hk => rhas_ok (G := G) d sm k hk [100, 105, 115, 97, 98, 108, 101, 100]
  have hat : attD d n [110, 97, 109, 101] ≠ [] → (nd d n).kind = 2 := att_el V hn
  have dE : eDoc d = [sl eNode d.nodes, .bool d.quirks] := rfl
  rw [dE] at cI cO cN cD cC cK
  unfold tellM toldM
  generalize kindM d n = kd at *
  generalize inW kd subS = b1 at *
  generalize tickM kd = b2 at *
  generalize hasA d n [99, 104, 101, 99, 107, 101, 100] = b3 at *
  generalize hasA d n [100, 105, 115, 97, 98, 108, 101, 100] = b4 at *
  generalize attD d n [110, 97, 109, 101] = nm at *
  generalize ownM d (below d 0) n = ow at *
  generalize inW (nd d n).name ctlS = b6 at *
  obtain ⟨b5, h5⟩ : ∃ b, (nm == []) = b := ⟨_, rfl⟩
  obtain ⟨b7, h7⟩ : ∃ b, (ow == f) = b := ⟨_, rfl⟩
  obtain ⟨b8, h8⟩ : ∃ b, ((nd d n).kind == 2) = b := ⟨_, rfl⟩
  have h9 : (ow != f) = !b7 := by rw [← h7]; rfl
  rw [h8] at cI
  rw [h5, h7]
  have h58 : b5 = false → b8 = true := fun q => by
    rw [← h8, beq_iff_eq]
    exact hat (by rw [q] at h5; simpa using h5)
  by_cases hpre : (b8 && b6) = true ∧ b7 = true ∧ b5 = false ∧ b4 = false
  · obtain ⟨q1, rfl, rfl, rfl⟩ := hpre
    obtain ⟨rfl, rfl⟩ : b8 = true ∧ b6 = true := by simpa using q1
    simp only [Bool.and_self, Bool.true_and, Bool.false_or, Bool.not_true] at cI h9 ⊢
    have hpar : ∀ k, inD d k → (nd d k).parent = -1 ∨ (inD d (nd d k).parent ∧ up d k = up d (nd d k).parent + 1) := fun k hk => by
      rcases V.par k hk with h1 | h1
      · exact .inl h1
      · exact .inr ⟨h1.1, V.up_par hk h1.1.1⟩
    have hdeep := V.deep
    refine dcalls_of_vc Tryz.func45 hn45 hc45 (by rw [Tryz.ntmps45]; simp) (by rw [Tryz.ntmps45]; decide) ?_
    simp -dsimp -implicitDefEqProofs (disch := omega) only [VCA, Nat.reduceEqDiff, Nat.reduceAdd, ↓reduceIte, c45, eDoc]
    repeat' (first | ((with_reducible refine brC (fun _ => ?_) fun _ => ?_) <;> try (exfalso; omega)) | (with_reducible apply pcallE.of; · exact cI) | (with_reducible apply pcallE.of; · exact cO) | (with_reducible apply pcallE.of; · exact cN) | (with_reducible apply pcallE.of; · exact cD) | (with_reducible refine And.intro ?_ ?_; · omega) | simp -dsimp -implicitDefEqProofs (disch := omega) only [↓vcOps_sp 13, ↓vcOps_sp 20, ↓vcOps_sp 26, VCA, Nat.reduceEqDiff, Nat.reduceAdd, Nat.reduceLeDiff, ↓reduceIte, eNode, e0, h5, h9])
    refine LoopVC.intro (fun m e h' => ∃ (c : Int) (g : Nat), m = g ∧ (c = -1 ∨ (inD d c ∧ up d c + 1 < g)) ∧ 0 < g ∧ e 1 = aInt n ∧ e 3 = .pin [sl eNode d.nodes, .bool d.quirks] ∧ e 7 = aInt c ∧ h' = h ∧ abF g d (offM d) c = abM d (offM d) n) 42
      (by
        refine ⟨(nd d n).parent, 42, rfl, ?_, by omega, rfl, rfl, rfl, rfl, rfl⟩
        rcases hpar n hn with h1 | h1
        · exact .inl h1
        · have := hdeep _ h1.1; exact .inr ⟨h1.1, by omega⟩) ?_
    rintro m e h' ⟨c, g, rfl, hc, hg, e1, e3, e7, rfl, hM⟩
    obtain ⟨g, rfl⟩ : ∃ k, m = k + 1 := ⟨m - 1, by omega⟩
    rw [abF] at hM
    by_cases h0 : 0 ≤ c
    · rcases hc with rfl | ⟨hc, hu⟩
      · omega
      · rw [if_neg (by omega)] at hM
        have c0 := hc.1
        have c1 := hc.2
        have d0 : decide (0 ≤ c) = true := decide_eq_true h0
        have g1 := gD c hc
        rw [dE] at g1
        obtain ⟨w2, hb2⟩ : ∃ b, ((nd d c).kind == 2) = b := ⟨_, rfl⟩
        obtain ⟨w3, hb3⟩ : ∃ b, ((nd d c).name == [102, 105, 101, 108, 100, 115, 101, 116]) = b := ⟨_, rfl⟩
        obtain ⟨w4, hb4⟩ : ∃ b, hasA d c [100, 105, 115, 97, 98, 108, 101, 100] = b := ⟨_, rfl⟩
        have hi : offM d c = ((w3 && w2) && w4) := by unfold offM isN; rw [hb2, hb3, hb4]
        rw [hi] at hM
        rw [hb4] at g1
        cases w2 <;> cases w3 <;> cases w4
        all_goals
          simp only [Bool.and_true, Bool.and_false, Bool.false_eq_true, if_false, if_true] at hM
          repeat' (first | ((with_reducible refine brC (fun _ => ?_) fun _ => ?_) <;> try (exfalso; omega)) | (with_reducible apply pcallE.of; · exact g1) | (with_reducible refine And.intro ?_ ?_; · omega) | simp -dsimp -implicitDefEqProofs (disch := omega) only [↓vcOps_sp 52, ↓vcOps_sp 61, VCA, Nat.reduceEqDiff, Nat.reduceAdd, Nat.reduceLeDiff, ↓reduceIte, exists_eq_right_right, exists_eq_left', e1, e3, e7, d0, eNode, e0, hb2, hb3])
        all_goals first
          | (rw [← hM]; exact ⟨Sub.refl _, by simp [d0]⟩)
          | (refine ⟨_, by omega, (nd d c).parent, g, rfl, ?_, by omega, rfl, hM⟩
             rcases hpar c hc with h1 | h1
             · exact .inl h1
             · exact .inr ⟨h1.1, by omega⟩)
          | (refine ⟨g, by omega, (nd d c).parent, ?_, by omega, rfl, hM⟩
             rcases hpar c hc with h1 | h1
             · exact .inl h1
             · exact .inr ⟨h1.1, by omega⟩)
          | trace_state
    · have d0 : decide (0 ≤ c) = false := decide_eq_false h0
      rw [if_pos (by omega)] at hM
      rw [← hM, d0]
      cases b1 <;> cases b2 <;> cases b3
      all_goals repeat' (first | ((with_reducible refine brC (fun _ => ?_) fun _ => ?_) <;> try (exfalso; omega)) | (with_reducible apply pcallE.of; · exact cK) | (with_reducible apply pcallE.of; · exact cS) | (with_reducible apply pcallE.of; · exact cW) | (with_reducible apply pcallE.of; · exact cC) | (with_reducible refine And.intro ?_ ?_; · omega) | simp -dsimp -implicitDefEqProofs (disch := omega) only [↓vcOps_sp 74, VCA, Nat.reduceEqDiff, Nat.reduceAdd, ↓reduceIte, exists_eq_right_right, exists_eq_right, exists_eq_left', e1, e3, e7, d0, ek])
      all_goals first | exact Sub.refl _ | exact ⟨Sub.refl _, rfl⟩ | trace_state
  · have hv : (b6 && (b7 && (!(b5 || (b4 || decide (0 ≤ abM d (offM d) n))) && (!b1 && (!b2 || b3))))) = false := by
      cases b5
      · obtain rfl := h58 rfl
        cases b6 <;> cases b7 <;> cases b4 <;> simp_all
      · simp
    rw [hv]
    cases b6 <;> cases b7 <;> cases b5 <;> cases b4 <;> cases b8
    all_goals first
      | (exact absurd ⟨rfl, rfl, rfl, rfl⟩ hpre)
      | skip
    all_goals
      simp only [Bool.and_true, Bool.and_false, Bool.not_true, Bool.not_false] at cI h9
      refine dcalls_of_vc Tryz.func45 hn45 hc45 (by rw [Tryz.ntmps45]; simp) (by rw [Tryz.ntmps45]; decide) ?_
      simp -dsimp -implicitDefEqProofs (disch := omega) only [VCA, Nat.reduceEqDiff, Nat.reduceAdd, ↓reduceIte, c45, eDoc]
      repeat' (first | ((with_reducible refine brC (fun _ => ?_) fun _ => ?_) <;> try (exfalso; omega)) | (with_reducible apply pcallE.of; · exact cI) | (with_reducible apply pcallE.of; · exact cO) | (with_reducible apply pcallE.of; · exact cN) | (with_reducible apply pcallE.of; · exact cD) | (with_reducible refine And.intro ?_ ?_; · omega) | simp -dsimp -implicitDefEqProofs (disch := omega) only [↓vcOps_sp 13, ↓vcOps_sp 20, ↓vcOps_sp 26, VCA, Nat.reduceEqDiff, Nat.reduceAdd, ↓reduceIte, exists_eq_right, h5, h9])
    all_goals first | exact Sub.refl _ | exact ⟨Sub.refl _, rfl⟩ | trace_state
end Go.Proofs.K
end
section
set_option linter.unusedSimpArgs false
set_option linter.unusedVariables false
namespace Go.Proofs.K
open Go Go.Sim Go.Proofs
variable {G : Glob}
theorem entL_drop {d : HDoc} {f : Int} {L : List Int} {i : Nat} (hi : i < L.length) : entL d f (L.drop i) = (if tellM d f (nth L i) = true ∧ lateM d f (L.drop (i + 1)) (nth L i) = false then entsOf d (nth L i) else []) ++ entL d f (L.drop (i + 1)) := by
  rw [drop_cons' hi, entL]
theorem any_step {p : Int → Bool} {l : List Int} {a j : Nat} (ha : a ≤ j) (hj : j < l.length) : ((l.drop a).take (j + 1 - a)).any p = (((l.drop a).take (j - a)).any p || p (nth l j)) := by
  have h1 : j - a < (l.drop a).length := by rw [List.length_drop]; omega
  have h2 : nth (l.drop a) (j - a) = nth l j := by
    unfold nth; rw [List.getD_eq_getElem?_getD, List.getD_eq_getElem?_getD, List.getElem?_drop]; congr 2; omega
  rw [show j + 1 - a = (j - a) + 1 by omega, take_snoc h1, List.any_append, h2, List.any_cons, List.any_nil, Bool.or_false]
def ptO (g : Int → HEnt) (mu : Bool) (O : List Int) (k : Nat) : List HEnt := if mu = true then (O.take k).map g else ((O.take k).drop (O.length - 1)).map g
theorem ptO_zero (g : Int → HEnt) (mu : Bool) (O : List Int) : ptO g mu O 0 = [] := by unfold ptO; split <;> simp
theorem ptO_step (g : Int → HEnt) (mu : Bool) (O : List Int) (k : Nat) (hk : k < O.length) : ptO g mu O (k + 1) = ptO g mu O k ++ if (mu || ((k : Int) == (O.length : Int) - 1)) = true then [g (nth O k)] else [] := by
  unfold ptO
  cases mu
  · rw [if_neg (by simp), if_neg (by simp)]
    by_cases he : k = O.length - 1
    · rw [if_pos (by simp; omega), take_snoc hk, List.drop_append_of_le_length (by rw [List.length_take]; omega), List.map_append]; rfl
    · rw [if_neg (by simp; omega), List.append_nil, List.drop_eq_nil_of_le (by rw [List.length_take]; omega), List.drop_eq_nil_of_le (by rw [List.length_take]; omega)]
  · rw [if_pos rfl, if_pos rfl, if_pos (by simp), take_snoc hk, List.map_append]; rfl
theorem ptO_all (d : HDoc) (n : Int) (hs : (nd d n).name = [115, 101, 108, 101, 99, 116]) : ptO (fun k => ⟨attD d n [110, 97, 109, 101], optV d k⟩) (hasA d n [109, 117, 108, 116, 105, 112, 108, 101]) (chosM d n) (chosM d n).length = entsOf d n := by
  unfold ptO entsOf
  rw [List.take_length, if_pos hs]
  split <;> rfl
theorem ptO_len (g : Int → HEnt) (mu : Bool) (O : List Int) (k : Nat) : (ptO g mu O k).length ≤ O.length := by
  unfold ptO
  split
  · rw [List.length_map, List.length_take]; omega
  · rw [List.length_map, List.length_drop, List.length_take]; omega
def c16 : SFun := ⟨.seq (.reg [⟨some 2, .boxF 36 2 (.t 0), none⟩, ⟨some 4, .mv (.c .emp), none⟩]) (.seq (.reg [⟨some 5, .mv (.c .emp), none⟩]) (.seq (.reg [⟨some 14, .ld 2 true (.t 2), none⟩, ⟨some 15, .pcall 44 [.t 14, .c (.int .i64 0)], none⟩, ⟨some 6, .mv (.t 15), none⟩]) (.seq (.seq (.reg [⟨some 7, .mv (.c (.int .i64 0)), none⟩]) (.block 0 (.loop (.seq (.seq (.reg [⟨some 16, .mv (.t 7), none⟩, ⟨some 17, .mv (.t 6), none⟩, ⟨some 18, .len (.t 17), none⟩, ⟨some 19, .bin .lss (.t 16) (.t 18), none⟩]) (.cond (.t 19) .skip (.exit 0))) (.seq (.block 1 (.seq (.reg [⟨some 22, .mv (.t 6), none⟩, ⟨some 23, .mv (.t 7), none⟩, ⟨some 24, .idxA 1 (.t 22) (.t 23), none⟩, ⟨some 25, .ld 1 false (.t 24), none⟩, ⟨some 8, .mv (.t 25), none⟩]) (.seq (.seq (.reg [⟨some 26, .ld 2 true (.t 2), none⟩, ⟨some 27, .mv (.t 8), none⟩, ⟨some 28, .mv (.t 1), none⟩, ⟨some 29, .pcall 45 [.t 26, .t 27, .t 28], none⟩, ⟨some 30, .un .not (.t 29), none⟩]) (.cond (.t 30) (.exit 1) .skip)) (.seq (.reg [⟨some 31, .ld 2 true (.t 2), none⟩, ⟨some 32, .mv (.t 8), none⟩, ⟨some 33, .pcall 46 [.t 31, .t 32, .c (.str [110, 97, 109, 101])], none⟩, ⟨some 9, .mv (.t 33), none⟩]) (.seq (.reg [⟨some 10, .mv (.c (.bool false)), none⟩]) (.seq (.seq (.reg [⟨some 34, .mv (.t 7), none⟩, ⟨some 35, .bin .add (.t 34) (.c (.int .i64 1)), none⟩, ⟨some 11, .mv (.t 35), none⟩]) (.block 2 (.loop (.seq (.seq (.reg [⟨some 36, .mv (.t 11), none⟩, ⟨some 37, .mv (.t 6), none⟩, ⟨some 38, .len (.t 37), none⟩, ⟨some 39, .bin .lss (.t 36) (.t 38), none⟩, ⟨some 40, .mv (.t 39), none⟩, ⟨some 41, .ld 2 true (.t 2), some (40, true)⟩, ⟨some 42, .mv (.t 8), some (40, true)⟩, ⟨some 43, .pcall 47 [.t 41, .t 42], some (40, true)⟩, ⟨some 44, .bin .eql (.t 43) (.c (.str [114, 97, 100, 105, 111])), some (40, true)⟩, ⟨some 45, .pick (.t 40) (.t 44) (.c (.bool false)), none⟩]) (.cond (.t 45) .skip (.exit 2))) (.seq (.block 3 (.dreg [(⟨some 48, .mv (.t 10), none⟩, none), (⟨some 49, .mv (.t 48), none⟩, none), (⟨some 50, .ld 2 true (.t 2), some (49, false)⟩, none), (⟨some 51, .mv (.t 6), some (49, false)⟩, none), (⟨some 52, .mv (.t 11), some (49, false)⟩, none), (⟨some 53, .idxA 1 (.t 51) (.t 52), some (49, false)⟩, none), (⟨some 54, .ld 1 false (.t 53), some (49, false)⟩, none), (⟨some 55, .mv (.t 1), some (49, false)⟩, none), (⟨some 56, .pcall 45 [.t 50, .t 54, .t 55], some (49, false)⟩, none), (⟨some 57, .mv (.t 56), some (49, false)⟩, none), (⟨some 58, .ld 2 true (.t 2), some (57, true)⟩, none), (⟨some 59, .mv (.t 6), some (57, true)⟩, none), (⟨some 60, .mv (.t 11), some (57, true)⟩, none), (⟨some 61, .idxA 1 (.t 59) (.t 60), some (57, true)⟩, none), (⟨some 62, .ld 1 false (.t 61), some (57, true)⟩, none), (⟨some 63, .pcall 47 [.t 58, .t 62], some (57, true)⟩, none), (⟨some 64, .bin .eql (.t 63) (.c (.str [114, 97, 100, 105, 111])), some (57, true)⟩, none), (⟨some 65, .pick (.t 57) (.t 64) (.c (.bool false)), some (49, false)⟩, none), (⟨some 66, .mv (.t 65), some (49, false)⟩, none), (⟨some 67, .ld 2 true (.t 2), some (66, true)⟩, none), (⟨some 68, .mv (.t 6), some (66, true)⟩, none), (⟨some 69, .mv (.t 11), some (66, true)⟩, none), (⟨some 70, .idxA 1 (.t 68) (.t 69), some (66, true)⟩, none), (⟨some 71, .ld 1 false (.t 70), some (66, true)⟩, none), (⟨some 72, .pcall 46 [.t 67, .t 71, .c (.str [110, 97, 109, 101])], some (66, true)⟩, none), (⟨some 73, .mv (.t 9), some (66, true)⟩, none), (⟨some 74, .bin .eql (.t 72) (.t 73), some (66, true)⟩, none), (⟨some 75, .pick (.t 66) (.t 74) (.c (.bool false)), some (49, false)⟩, none), (⟨some 76, .pick (.t 49) (.c (.bool true)) (.t 75), none⟩, none), (⟨some 10, .mv (.t 76), none⟩, (some [67, 71, 58, 62, 50, 54]))])) (.reg [⟨some 46, .mv (.t 11), none⟩, ⟨some 47, .bin .add (.t 46) (.c (.int .i64 1)), none⟩, ⟨some 11, .mv (.t 47), none⟩])))))) (.seq (.seq (.reg [⟨some 77, .mv (.t 10), none⟩]) (.cond (.t 77) (.exit 1) .skip)) (.seq (.seq (.reg [⟨some 78, .fldA 0 (.t 2), none⟩, ⟨some 79, .ld 1 false (.t 78), none⟩, ⟨some 80, .mv (.t 8), none⟩, ⟨some 81, .idxA 6 (.t 79) (.t 80), none⟩, ⟨some 82, .fldA 1 (.t 81), none⟩, ⟨some 83, .ld 1 false (.t 82), none⟩, ⟨some 84, .bin .neq (.t 83) (.c (.str [115, 101, 108, 101, 99, 116])), none⟩]) (.cond (.t 84) (.seq (.reg [⟨some 85, .mv (.t 5), none⟩, ⟨some 86, .mv (.t 9), none⟩, ⟨some 87, .ld 2 true (.t 2), none⟩, ⟨some 88, .mv (.t 8), none⟩, ⟨some 89, .pcall 21 [.t 87, .t 88], none⟩, ⟨some 90, .bld [.str [], .str []] [(0, (1, (.t 86))), (1, (1, (.t 89)))], none⟩, ⟨some 91, .bldF 25 2 [.t 90], none⟩, ⟨some 92, .app 25 2 32 (.t 85) (.t 91), none⟩, ⟨some 5, .mv (.t 92), none⟩]) (.exit 1)) .skip)) (.seq (.reg [⟨some 93, .ld 2 true (.t 2), none⟩, ⟨some 94, .mv (.t 8), none⟩, ⟨some 95, .pcall 48 [.t 93, .t 94], none⟩, ⟨some 12, .mv (.t 95), none⟩]) (.seq (.reg [⟨some 13, .mv (.c (.int .i64 0)), none⟩]) (.block 4 (.loop (.seq (.seq (.reg [⟨some 96, .mv (.t 13), none⟩, ⟨some 97, .mv (.t 12), none⟩, ⟨some 98, .len (.t 97), none⟩, ⟨some 99, .bin .lss (.t 96) (.t 98), none⟩]) (.cond (.t 99) .skip (.exit 4))) (.seq (.block 5 (.seq (.reg [⟨some 102, .ld 2 true (.t 2), none⟩, ⟨some 103, .mv (.t 8), none⟩, ⟨some 104, .pcall 49 [.t 102, .t 103, .c (.str [109, 117, 108, 116, 105, 112, 108, 101])], none⟩, ⟨some 105, .mv (.t 104), none⟩, ⟨some 106, .mv (.t 13), some (105, false)⟩, ⟨some 107, .mv (.t 12), some (105, false)⟩, ⟨some 108, .len (.t 107), some (105, false)⟩, ⟨some 109, .bin .sub (.t 108) (.c (.int .i64 1)), some (105, false)⟩, ⟨some 110, .bin .eql (.t 106) (.t 109), some (105, false)⟩, ⟨some 111, .pick (.t 105) (.c (.bool true)) (.t 110), none⟩]) (.cond (.t 111) (.dreg [(⟨some 112, .mv (.t 5), none⟩, none), (⟨some 113, .mv (.t 9), none⟩, none), (⟨some 114, .ld 2 true (.t 2), none⟩, none), (⟨some 115, .mv (.t 12), none⟩, none), (⟨some 116, .mv (.t 13), none⟩, none), (⟨some 117, .idxA 1 (.t 115) (.t 116), none⟩, none), (⟨some 118, .ld 1 false (.t 117), none⟩, none), (⟨some 119, .pcall 50 [.t 114, .t 118], none⟩, none), (⟨some 120, .bld [.str [], .str []] [(0, (1, (.t 113))), (1, (1, (.t 119)))], none⟩, none), (⟨some 121, .bldF 25 2 [.t 120], none⟩, none), (⟨some 122, .app 25 2 32 (.t 112) (.t 121), none⟩, (some [114, 118])), (⟨some 5, .mv (.t 122), none⟩, (some [114, 118]))]) .skip))) (.reg [⟨some 100, .mv (.t 13), none⟩, ⟨some 101, .bin .add (.t 100) (.c (.int .i64 1)), none⟩, ⟨some 13, .mv (.t 101), none⟩]))))))))))))))) (.reg [⟨some 20, .mv (.t 7), none⟩, ⟨some 21, .bin .add (.t 20) (.c (.int .i64 1)), none⟩, ⟨some 7, .mv (.t 21), none⟩])))))) (.seq (.reg [⟨some 123, .mv (.t 5), none⟩, ⟨some 4, .mv (.t 123), none⟩]) .ret)))), [.tmp 4]⟩
theorem hc16 : toSF Tryz.prog {pure := [44, 45, 46, 47, 21, 48, 49, 50]} Tryz.f16 = some c16 := by kernel_rfl
theorem hn16 : (Tryz.f16.name == "runtime.NumGoroutine") = false := by kernel_rfl
set_option maxHeartbeats 4000000 in
set_option maxRecDepth 10000 in
theorem refEntries_ok (d : HDoc) (V : DV d) (sm : DocSm d) (f : Int) : PCalls (Pg G) 16 [.agg (eDoc d), aInt f] (sl eEnt (entL d f (below d 0))) := PCalls.acc (ty := 25) (sz := 2) fun h => by
  have hl := V.len
  have e0 : ∀ k : Int, nth d.nodes k.toNat = nd d k := fun _ => rfl
  have cB := below_ok (G := G) d V sm 0 V.zero
  have gT := fun k hk => isTold_ok (G := G) d V sm k f hk
  have gA := fun k hk => ratt_ok (G := G) d sm k hk [110, 97, 109, 101]
  have gK := fun k hk => inputType_ok (G := G) d V sm k hk
  have gV := fun k hk => refValue_ok (G := G) d V sm k hk
  have gC := fun k hk => refOpts_ok (G := G) d V sm k hk
  have gM := fun k hk => rhas_ok (G := G) d sm k hk [109, 117, 108, 116, 105, 112, 108, 101]
  have gO := fun k hk hm => refOptV_ok (G := G) d V sm k hk hm
  have bl := below_len V V.zero
  have bi := below_in V 0 V.zero
  have dE : eDoc d = [sl eNode d.nodes, .bool d.quirks] := rfl
  rw [dE] at cB
  obtain ⟨L, hL⟩ : ∃ L, below d 0 = L := ⟨_, rfl⟩
  rw [hL] at cB bl bi ⊢
  have tl := entL_len V f L bi
  refine dcalls_of_vc Tryz.func16 hn16 hc16 (by rw [Tryz.ntmps16]; simp) (by rw [Tryz.ntmps16]; decide) ?_
  simp -dsimp -implicitDefEqProofs (disch := omega) only [VCA, Nat.reduceEqDiff, Nat.reduceAdd, ↓reduceIte, c16, eDoc]
  repeat' (first | ((with_reducible refine brC (fun _ => ?_) fun _ => ?_) <;> try (exfalso; omega)) | (with_reducible apply pcallE.of; · exact cB) | (with_reducible refine And.intro ?_ ?_; · omega) | simp -dsimp -implicitDefEqProofs (disch := omega) only [VCA, ↓reduceIte])
  refine LoopVC.intro (fun m e h' => ∃ (i : Nat) (P : List HEnt), i ≤ L.length ∧ m = L.length - i ∧ e 1 = aInt f ∧ e 2 = .pin [sl eNode d.nodes, .bool d.quirks] ∧ e 6 = sl eInt L ∧ e 7 = aInt i ∧ Acc h 25 2 (P.map eEnt) (e 5) h' ∧ Sim.Sub h h' ∧ P ++ entL d f (L.drop i) = entL d f L) L.length
    (by exact ⟨0, [], by omega, by omega, rfl, rfl, rfl, rfl, Acc.nil, Sub.refl _, rfl⟩) ?_
  rintro m e h' ⟨i, P, hi, rfl, e1, e2, e6, e7, A, S, hP⟩
  by_cases hlt : i < L.length
  · have d1 : decide ((i : Int) < (L.length : Int)) = true := decide_eq_true (by omega)
    have hd := entL_drop (d := d) (f := f) hlt
    obtain ⟨x, hx⟩ : ∃ x, nth L i = x := ⟨_, rfl⟩
    have hxo : inD d x := by rw [← hx]; exact bi _ (nth_mem' hlt)
    rw [hx] at hd
    have x0 := hxo.1
    have x1 := hxo.2
    have cT := gT x hxo
    have cA := gA x hxo
    have cK := gK x hxo
    rw [dE] at cT cA cK
    cases ht : tellM d f x
    · rw [ht] at cT hd
      rw [if_neg (by simp), List.nil_append] at hd
      repeat' (first | ((with_reducible refine brC (fun _ => ?_) fun _ => ?_) <;> try (exfalso; omega)) | (with_reducible apply pcallE.of; · exact cT) | (with_reducible refine And.intro ?_ ?_; · omega) | simp -dsimp -implicitDefEqProofs (disch := omega) only [VCA, Nat.reduceEqDiff, Nat.reduceAdd, ↓reduceIte, eInt, e1, e2, e6, e7, d1, hx])
      all_goals first | exact ⟨_, by omega, i + 1, P, by omega, rfl, by omega, A, S, by rw [← hd]; exact hP⟩ | trace_state
    · rw [ht] at cT hd
      obtain ⟨nm, hnm⟩ : ∃ nm, attD d x [110, 97, 109, 101] = nm := ⟨_, rfl⟩
      rw [hnm] at cA
      repeat' (first | ((with_reducible refine brC (fun _ => ?_) fun _ => ?_) <;> try (exfalso; omega)) | (with_reducible apply pcallE.of; · exact cT) | (with_reducible apply pcallE.of; · exact cA) | (with_reducible refine And.intro ?_ ?_; · omega) | simp -dsimp -implicitDefEqProofs (disch := omega) only [VCA, Nat.reduceEqDiff, Nat.reduceAdd, ↓reduceIte, eInt, e1, e2, e6, e7, d1, hx])
      have Qe : lateM d f (L.drop (i + 1)) x = (radM d x && (L.drop (i + 1)).any fun k => tellM d f k && (radM d k && attD d k [110, 97, 109, 101] == nm)) := by unfold lateM; rw [hnm]
      obtain ⟨Q, hQ⟩ : ∃ Q : Int → Bool, (fun k => tellM d f k && (radM d k && attD d k [110, 97, 109, 101] == nm)) = Q := ⟨_, rfl⟩
      rw [hQ] at Qe
      obtain ⟨a5, ha5⟩ : ∃ a, e 5 = a := ⟨_, rfl⟩
      rw [ha5] at A
      refine LoopVC.intro (fun m e2 h2 => ∃ j : Nat, i + 1 ≤ j ∧ j ≤ L.length ∧ m = L.length - j ∧ e2 1 = aInt f ∧ e2 2 = .pin [sl eNode d.nodes, .bool d.quirks] ∧ e2 5 = a5 ∧ e2 6 = sl eInt L ∧ e2 7 = aInt i ∧ e2 8 = aInt x ∧ e2 9 = .str nm ∧ e2 10 = .bool (((L.drop (i + 1)).take (j - (i + 1))).any Q) ∧ e2 11 = aInt j ∧ h2 = h' ∧ (radM d x = false → j = i + 1)) (L.length - (i + 1))
        (by exact ⟨i + 1, by omega, by omega, rfl, e1, e2, ha5, e6, e7, rfl, rfl, by rw [Nat.sub_self]; rfl, by simp, rfl, fun _ => rfl⟩) ?_
      rintro m e h2 ⟨j, hj1, hj2, rfl, e1, e2, e5, e6, e7, e8, e9, e10, e11, rfl, hrj⟩
      obtain ⟨lt, hlt2⟩ : ∃ b, ((L.drop (i + 1)).take (j - (i + 1))).any Q = b := ⟨_, rfl⟩
      rw [hlt2] at e10
      by_cases hgo : j < L.length ∧ radM d x = true
      · have d2 : decide ((j : Int) < (L.length : Int)) = true := decide_eq_true (by omega)
        have brd : (kindM d x == [114, 97, 100, 105, 111]) = true := hgo.2
        have hs := any_step (p := Q) hj1 hgo.1
        rw [hlt2] at hs
        obtain ⟨y, hy⟩ : ∃ y, nth L j = y := ⟨_, rfl⟩
        have hyo : inD d y := by rw [← hy]; exact bi _ (nth_mem' hgo.1)
        rw [hy] at hs
        have yT := gT y hyo
        have yA := gA y hyo
        have yK := gK y hyo
        rw [dE] at yT yA yK
        have hQy : Q y = (tellM d f y && ((kindM d y == [114, 97, 100, 105, 111]) && (attD d y [110, 97, 109, 101] == nm))) := by rw [← hQ]; rfl
        obtain ⟨w2, hw2⟩ : ∃ b, (kindM d y == [114, 97, 100, 105, 111]) = b := ⟨_, rfl⟩
        obtain ⟨w3, hw3⟩ : ∃ b, (attD d y [110, 97, 109, 101] == nm) = b := ⟨_, rfl⟩
        obtain ⟨w1, hw1⟩ : ∃ b, tellM d f y = b := ⟨_, rfl⟩
        rw [hw1, hw2, hw3] at hQy
        rw [hw1] at yT
        rw [hQy] at hs
        cases lt
        · cases w1 <;> cases w2 <;> cases w3
          all_goals
            repeat' (first | ((with_reducible refine brC (fun _ => ?_) fun _ => ?_) <;> try (exfalso; omega)) | (with_reducible apply pcallE.of; · exact cK) | (with_reducible apply pcallE.of; · exact yT) | (with_reducible apply pcallE.of; · exact yK) | (with_reducible apply pcallE.of; · exact yA) | (with_reducible refine And.intro ?_ ?_; · omega) | simp -dsimp -implicitDefEqProofs (disch := omega) only [↓vcOps_sp 40, ↓vcD_sp 49, ↓vcD_sp 57, ↓vcD_sp 66, VCA, Nat.reduceEqDiff, Nat.reduceAdd, ↓reduceIte, rsOf, rootsOf, SOp.rd, SI.rd, SX.rd, rootL, eInt, e1, e2, e5, e6, e7, e8, e9, e10, e11, d2, brd, hy, hw2, hw3])
          all_goals first
            | exact ⟨_, by omega, j + 1, by omega, by omega, rfl, by rw [hs]; rfl, by omega, fun q => by rw [hgo.2] at q; cases q⟩
            | exact ⟨by simp [keepR, deVp], _, by omega, j + 1, by omega, by omega, rfl, by rw [hs]; rfl, by omega, fun q => by rw [hgo.2] at q; cases q⟩
            | trace_state
        · repeat' (first | ((with_reducible refine brC (fun _ => ?_) fun _ => ?_) <;> try (exfalso; omega)) | (with_reducible apply pcallE.of; · exact cK) | (with_reducible refine And.intro ?_ ?_; · omega) | simp -dsimp -implicitDefEqProofs (disch := omega) only [↓vcOps_sp 40, ↓vcD_sp 49, ↓vcD_sp 57, ↓vcD_sp 66, VCA, Nat.reduceEqDiff, Nat.reduceAdd, ↓reduceIte, rsOf, rootsOf, SOp.rd, SI.rd, SX.rd, rootL, e1, e2, e5, e6, e7, e8, e9, e10, e11, d2, brd])
          all_goals first
            | exact ⟨_, by omega, j + 1, by omega, by omega, rfl, by rw [hs]; rfl, by omega, fun q => by rw [hgo.2] at q; cases q⟩
            | exact ⟨by simp [keepR, deVp], _, by omega, j + 1, by omega, by omega, rfl, by rw [hs]; rfl, by omega, fun q => by rw [hgo.2] at q; cases q⟩
            | trace_state
      · have hla : lateM d f (L.drop (i + 1)) x = lt := by
          rw [Qe]
          cases hr : radM d x
          · have := hrj hr
            rw [this, Nat.sub_self] at hlt2
            rw [← hlt2]; rfl
          · have hje : j = L.length := Classical.byContradiction fun q => hgo ⟨by omega, hr⟩
            rw [← hlt2, hje, Bool.true_and, List.take_of_length_le (by rw [List.length_drop]; omega)]
        rw [hla] at hd
        have dj : decide ((j : Int) < (L.length : Int)) = true → (kindM d x == [114, 97, 100, 105, 111]) = false := fun q => by
          cases hr : (kindM d x == [114, 97, 100, 105, 111])
          · rfl
          · exact absurd ⟨by have := of_decide_eq_true q; omega, hr⟩ hgo
        obtain ⟨bj, hbj⟩ : ∃ b, decide ((j : Int) < (L.length : Int)) = b := ⟨_, rfl⟩
        rw [hbj] at dj
        obtain ⟨br, hbr⟩ : ∃ b, (kindM d x == [114, 97, 100, 105, 111]) = b := ⟨_, rfl⟩
        rw [hbr] at dj
        have hPl : (P ++ entL d f (L.drop i)).length ≤ 40000 := by rw [hP]; omega
        rw [hd] at hP hPl
        cases lt
        · rw [if_pos ⟨rfl, rfl⟩] at hP hPl
          by_cases hsl : (nd d x).name = [115, 101, 108, 101, 99, 116]
          · have b1 : ((nd d x).name != [115, 101, 108, 101, 99, 116]) = false := by simpa using hsl
            have hpt := ptO_all d x hsl
            rw [hnm] at hpt
            have cC := gC x hxo
            have cM := gM x hxo
            rw [dE] at cC cM
            have ci := chosM_in V hxo
            have cn := chosM_name d x
            have cl := chosM_len V hxo
            obtain ⟨g, hg⟩ : ∃ g : Int → HEnt, (fun k => ⟨nm, optV d k⟩) = g := ⟨_, rfl⟩
            rw [hg] at hpt
            generalize chosM d x = O at *
            generalize hasA d x [109, 117, 108, 116, 105, 112, 108, 101] = mu at *
            rw [List.length_append, List.length_append] at hPl
            cases bj
            · repeat' (first | ((with_reducible refine brC (fun _ => ?_) fun _ => ?_) <;> try (exfalso; omega)) | (with_reducible apply pcallE.of; · exact cC) | (with_reducible refine And.intro ?_ ?_; · omega) | simp -dsimp -implicitDefEqProofs (disch := omega) only [↓vcOps_sp 40, VCA, Nat.reduceEqDiff, Nat.reduceAdd, Nat.reduceLeDiff, ↓reduceIte, e2, e6, e8, e10, e11, hbj, eNode, e0, b1])
              refine LoopVC.intro (fun m e3 h3 => ∃ k : Nat, k ≤ O.length ∧ m = O.length - k ∧ e3 1 = aInt f ∧ e3 2 = .pin [sl eNode d.nodes, .bool d.quirks] ∧ e3 6 = sl eInt L ∧ e3 7 = aInt i ∧ e3 8 = aInt x ∧ e3 9 = .str nm ∧ e3 12 = sl eInt O ∧ e3 13 = aInt k ∧ Acc h 25 2 ((P ++ ptO g mu O k).map eEnt) (e3 5) h3 ∧ Sim.Sub h h3) O.length
                (by
                  refine ⟨0, by omega, rfl, e1, e2, e6, e7, e8, e9, rfl, rfl, ?_, S⟩
                  rw [ptO_zero, List.append_nil]
                  first | exact A | (show Acc _ _ _ _ (e 5) _; rw [e5]; exact A)) ?_
              rintro m e h3 ⟨k, hk, rfl, e1, e2, e6, e7, e8, e9, e12, e13, A, S⟩
              have pl := ptO_len g mu O k
              have hAl : ((P ++ ptO g mu O k).map eEnt).length ≤ 41000 := by rw [List.length_map, List.length_append]; omega
              by_cases hlo : k < O.length
              · have d3 : decide ((k : Int) < (O.length : Int)) = true := decide_eq_true (by omega)
                have hs := ptO_step g mu O k hlo
                have yi := ci _ (nth_mem' hlo)
                have yn := cn _ (nth_mem' hlo)
                obtain ⟨y, hy⟩ : ∃ y, nth O k = y := ⟨_, rfl⟩
                rw [hy] at hs yi yn
                have cO := gO y yi yn
                rw [dE] at cO
                have hgy : g y = ⟨nm, optV d y⟩ := by rw [← hg]
                obtain ⟨bk, hbk⟩ : ∃ b, ((k : Int) == (O.length : Int) - 1) = b := ⟨_, rfl⟩
                rw [hbk] at hs
                cases mu <;> cases bk
                · rw [if_neg (by simp), List.append_nil] at hs
                  repeat' (first | ((with_reducible refine brC (fun _ => ?_) fun _ => ?_) <;> try (exfalso; omega)) | (with_reducible apply pcallE.of; · exact cM) | (with_reducible apply pcallE.of; · exact cO) | (with_reducible refine And.intro ?_ ?_; · omega) | simp -dsimp -implicitDefEqProofs (disch := omega) only [↓vcOps_sp 105, VCA, Nat.reduceEqDiff, Nat.reduceAdd, ↓reduceIte, e1, e2, e6, e7, e8, e9, e12, e13, d3, hbk])
                  all_goals first | exact ⟨_, by omega, k + 1, by omega, rfl, by omega, by rw [hs]; exact A, S⟩ | trace_state
                all_goals
                  rw [if_pos (by simp), hgy] at hs
                  repeat' (first | ((with_reducible refine brC (fun _ => ?_) fun _ => ?_) <;> try (exfalso; omega)) | (with_reducible apply pcallE.of; · exact cM) | (with_reducible apply pcallE.of; · exact cO) | (with_reducible refine And.intro ?_ ?_; · omega) | simp -dsimp -implicitDefEqProofs (disch := omega) only [↓vcOps_sp 105, VCA, Nat.reduceEqDiff, Nat.reduceAdd, Nat.reduceLeDiff, ↓reduceIte, rsOf, rootsOf, okParts, fillA, okFill, forall_eq, exists_eq_left, rootL, eInt, e2, e8, e9, e12, e13, d3, hy, hbk])
                  refine A.app S (by simp only [List.length_cons, List.length_nil]; omega) (by simp only [List.length_cons, List.length_nil]; omega) fun a' h4 A' S' => ?_
                  repeat' (first | ((with_reducible refine brC (fun _ => ?_) fun _ => ?_) <;> try (exfalso; omega)) | (with_reducible refine And.intro ?_ ?_; · omega) | simp -dsimp -implicitDefEqProofs (disch := omega) only [VCA, Nat.reduceEqDiff, ↓reduceIte, SOp.rd, SI.rd, SX.rd, e1, e2, e6, e7, e8, e9, e12, e13])
                  all_goals first
                    | exact ⟨_, by omega, k + 1, by omega, rfl, by omega, by rw [hs, ← List.append_assoc, List.map_append]; exact A', S'⟩
                    | exact ⟨by simp [keepR, deVp], _, by omega, k + 1, by omega, rfl, by omega, by rw [hs, ← List.append_assoc, List.map_append]; exact A', S'⟩
                    | trace_state
              · obtain rfl : k = O.length := by omega
                have d3 : decide ((O.length : Int) < (O.length : Int)) = false := decide_eq_false (by omega)
                rw [hpt] at A
                repeat' (first | ((with_reducible refine brC (fun _ => ?_) fun _ => ?_) <;> try (exfalso; omega)) | (with_reducible refine And.intro ?_ ?_; · omega) | simp -dsimp -implicitDefEqProofs (disch := omega) only [VCA, Nat.reduceEqDiff, ↓reduceIte, e1, e2, e6, e7, e12, e13, d3])
                all_goals first | exact ⟨_, by omega, i + 1, P ++ entsOf d x, by omega, rfl, by omega, A, S, by rw [List.append_assoc]; exact hP⟩ | trace_state
            · obtain rfl := dj rfl
              repeat' (first | ((with_reducible refine brC (fun _ => ?_) fun _ => ?_) <;> try (exfalso; omega)) | (with_reducible apply pcallE.of; · exact cK) | (with_reducible apply pcallE.of; · exact cC) | (with_reducible refine And.intro ?_ ?_; · omega) | simp -dsimp -implicitDefEqProofs (disch := omega) only [↓vcOps_sp 40, VCA, Nat.reduceEqDiff, Nat.reduceAdd, Nat.reduceLeDiff, ↓reduceIte, e2, e6, e8, e10, e11, hbj, hbr, eNode, e0, b1])
              refine LoopVC.intro (fun m e3 h3 => ∃ k : Nat, k ≤ O.length ∧ m = O.length - k ∧ e3 1 = aInt f ∧ e3 2 = .pin [sl eNode d.nodes, .bool d.quirks] ∧ e3 6 = sl eInt L ∧ e3 7 = aInt i ∧ e3 8 = aInt x ∧ e3 9 = .str nm ∧ e3 12 = sl eInt O ∧ e3 13 = aInt k ∧ Acc h 25 2 ((P ++ ptO g mu O k).map eEnt) (e3 5) h3 ∧ Sim.Sub h h3) O.length
                (by
                  refine ⟨0, by omega, rfl, e1, e2, e6, e7, e8, e9, rfl, rfl, ?_, S⟩
                  rw [ptO_zero, List.append_nil]
                  first | exact A | (show Acc _ _ _ _ (e 5) _; rw [e5]; exact A)) ?_
              rintro m e h3 ⟨k, hk, rfl, e1, e2, e6, e7, e8, e9, e12, e13, A, S⟩
              have pl := ptO_len g mu O k
              have hAl : ((P ++ ptO g mu O k).map eEnt).length ≤ 41000 := by rw [List.length_map, List.length_append]; omega
              by_cases hlo : k < O.length
              · have d3 : decide ((k : Int) < (O.length : Int)) = true := decide_eq_true (by omega)
                have hs := ptO_step g mu O k hlo
                have yi := ci _ (nth_mem' hlo)
                have yn := cn _ (nth_mem' hlo)
                obtain ⟨y, hy⟩ : ∃ y, nth O k = y := ⟨_, rfl⟩
                rw [hy] at hs yi yn
                have cO := gO y yi yn
                rw [dE] at cO
                have hgy : g y = ⟨nm, optV d y⟩ := by rw [← hg]
                obtain ⟨bk, hbk⟩ : ∃ b, ((k : Int) == (O.length : Int) - 1) = b := ⟨_, rfl⟩
                rw [hbk] at hs
                cases mu <;> cases bk
                · rw [if_neg (by simp), List.append_nil] at hs
                  repeat' (first | ((with_reducible refine brC (fun _ => ?_) fun _ => ?_) <;> try (exfalso; omega)) | (with_reducible apply pcallE.of; · exact cM) | (with_reducible apply pcallE.of; · exact cO) | (with_reducible refine And.intro ?_ ?_; · omega) | simp -dsimp -implicitDefEqProofs (disch := omega) only [↓vcOps_sp 105, VCA, Nat.reduceEqDiff, Nat.reduceAdd, ↓reduceIte, e1, e2, e6, e7, e8, e9, e12, e13, d3, hbk])
                  all_goals first | exact ⟨_, by omega, k + 1, by omega, rfl, by omega, by rw [hs]; exact A, S⟩ | trace_state
                all_goals
                  rw [if_pos (by simp), hgy] at hs
                  repeat' (first | ((with_reducible refine brC (fun _ => ?_) fun _ => ?_) <;> try (exfalso; omega)) | (with_reducible apply pcallE.of; · exact cM) | (with_reducible apply pcallE.of; · exact cO) | (with_reducible refine And.intro ?_ ?_; · omega) | simp -dsimp -implicitDefEqProofs (disch := omega) only [↓vcOps_sp 105, VCA, Nat.reduceEqDiff, Nat.reduceAdd, Nat.reduceLeDiff, ↓reduceIte, rsOf, rootsOf, okParts, fillA, okFill, forall_eq, exists_eq_left, rootL, eInt, e2, e8, e9, e12, e13, d3, hy, hbk])
                  refine A.app S (by simp only [List.length_cons, List.length_nil]; omega) (by simp only [List.length_cons, List.length_nil]; omega) fun a' h4 A' S' => ?_
                  repeat' (first | ((with_reducible refine brC (fun _ => ?_) fun _ => ?_) <;> try (exfalso; omega)) | (with_reducible refine And.intro ?_ ?_; · omega) | simp -dsimp -implicitDefEqProofs (disch := omega) only [VCA, Nat.reduceEqDiff, ↓reduceIte, SOp.rd, SI.rd, SX.rd, e1, e2, e6, e7, e8, e9, e12, e13])
                  all_goals first
                    | exact ⟨_, by omega, k + 1, by omega, rfl, by omega, by rw [hs, ← List.append_assoc, List.map_append]; exact A', S'⟩
                    | exact ⟨by simp [keepR, deVp], _, by omega, k + 1, by omega, rfl, by omega, by rw [hs, ← List.append_assoc, List.map_append]; exact A', S'⟩
                    | trace_state
              · obtain rfl : k = O.length := by omega
                have d3 : decide ((O.length : Int) < (O.length : Int)) = false := decide_eq_false (by omega)
                rw [hpt] at A
                repeat' (first | ((with_reducible refine brC (fun _ => ?_) fun _ => ?_) <;> try (exfalso; omega)) | (with_reducible refine And.intro ?_ ?_; · omega) | simp -dsimp -implicitDefEqProofs (disch := omega) only [VCA, Nat.reduceEqDiff, ↓reduceIte, e1, e2, e6, e7, e12, e13, d3])
                all_goals first | exact ⟨_, by omega, i + 1, P ++ entsOf d x, by omega, rfl, by omega, A, S, by rw [List.append_assoc]; exact hP⟩ | trace_state
          · have b1 : ((nd d x).name != [115, 101, 108, 101, 99, 116]) = true := by simpa using hsl
            have hen : entsOf d x = [⟨nm, valM d x⟩] := by unfold entsOf; rw [if_neg hsl, hnm]
            have cV := gV x hxo
            rw [dE] at cV
            rw [hen, List.length_append] at hPl
            rw [hen] at hP
            cases bj
            · repeat' (first | ((with_reducible refine brC (fun _ => ?_) fun _ => ?_) <;> try (exfalso; omega)) | (with_reducible apply pcallE.of; · exact cV) | (with_reducible refine And.intro ?_ ?_; · omega) | simp -dsimp -implicitDefEqProofs (disch := omega) only [↓vcOps_sp 40, VCA, Nat.reduceEqDiff, Nat.reduceAdd, Nat.reduceLeDiff, ↓reduceIte, okParts, fillA, okFill, forall_eq, exists_eq_left, e2, e5, e6, e8, e9, e10, e11, hbj, eNode, e0, b1])
              refine A.app S (by simp only [List.length_map, List.length_cons, List.length_nil] at *; omega) (by simp only [List.length_map, List.length_cons, List.length_nil] at *; omega) fun a' h3 A' S' => ?_
              simp -dsimp -implicitDefEqProofs (disch := omega) only [VCA, Nat.reduceEqDiff, ↓reduceIte, e1, e2, e6, e7]
              refine ⟨_, by omega, i + 1, P ++ [⟨nm, valM d x⟩], by omega, rfl, by omega, ?_, S', ?_⟩
              · rw [List.map_append]; exact A'
              · rw [List.append_assoc]; exact hP
            · obtain rfl := dj rfl
              repeat' (first | ((with_reducible refine brC (fun _ => ?_) fun _ => ?_) <;> try (exfalso; omega)) | (with_reducible apply pcallE.of; · exact cK) | (with_reducible apply pcallE.of; · exact cV) | (with_reducible refine And.intro ?_ ?_; · omega) | simp -dsimp -implicitDefEqProofs (disch := omega) only [↓vcOps_sp 40, VCA, Nat.reduceEqDiff, Nat.reduceAdd, Nat.reduceLeDiff, ↓reduceIte, okParts, fillA, okFill, forall_eq, exists_eq_left, e2, e5, e6, e8, e9, e10, e11, hbj, hbr, eNode, e0, b1])
              refine A.app S (by simp only [List.length_map, List.length_cons, List.length_nil] at *; omega) (by simp only [List.length_map, List.length_cons, List.length_nil] at *; omega) fun a' h3 A' S' => ?_
              simp -dsimp -implicitDefEqProofs (disch := omega) only [VCA, Nat.reduceEqDiff, ↓reduceIte, e1, e2, e6, e7]
              refine ⟨_, by omega, i + 1, P ++ [⟨nm, valM d x⟩], by omega, rfl, by omega, ?_, S', ?_⟩
              · rw [List.map_append]; exact A'
              · rw [List.append_assoc]; exact hP
        · rw [if_neg (by simp), List.nil_append] at hP
          cases bj
          · repeat' (first | ((with_reducible refine brC (fun _ => ?_) fun _ => ?_) <;> try (exfalso; omega)) | (with_reducible refine And.intro ?_ ?_; · omega) | simp -dsimp -implicitDefEqProofs (disch := omega) only [↓vcOps_sp 40, VCA, Nat.reduceEqDiff, ↓reduceIte, e1, e2, e5, e6, e7, e10, e11, hbj])
            all_goals first | exact ⟨_, by omega, i + 1, P, by omega, rfl, by omega, A, S, hP⟩ | trace_state
          · obtain rfl := dj rfl
            repeat' (first | ((with_reducible refine brC (fun _ => ?_) fun _ => ?_) <;> try (exfalso; omega)) | (with_reducible apply pcallE.of; · exact cK) | (with_reducible refine And.intro ?_ ?_; · omega) | simp -dsimp -implicitDefEqProofs (disch := omega) only [↓vcOps_sp 40, VCA, Nat.reduceEqDiff, Nat.reduceAdd, ↓reduceIte, e1, e2, e5, e6, e7, e8, e10, e11, hbj, hbr])
            all_goals first | exact ⟨_, by omega, i + 1, P, by omega, rfl, by omega, A, S, hP⟩ | trace_state
  · obtain rfl : i = L.length := by omega
    have d1 : decide ((L.length : Int) < (L.length : Int)) = false := decide_eq_false (by omega)
    rw [List.drop_length] at hP
    have hP2 : P = entL d f L := by rw [← hP]; simp [entL]
    rw [← hP2]
    repeat' (first | ((with_reducible refine brC (fun _ => ?_) fun _ => ?_) <;> try (exfalso; omega)) | (with_reducible refine And.intro ?_ ?_; · omega) | simp -dsimp -implicitDefEqProofs (disch := omega) only [VCA, Nat.reduceEqDiff, ↓reduceIte, e6, e7, d1])
    all_goals first | exact ⟨_, Sub.refl _, A, S⟩ | trace_state
end Go.Proofs.K
end
section
set_option linter.unusedSimpArgs false
set_option linter.unusedVariables false
namespace Go.Proofs.K
open Go Go.Sim Go.Proofs
variable {G : Glob}
def c32 : SFun := ⟨.seq (.reg [⟨some 3, .boxF 36 2 (.t 0), none⟩, ⟨some 6, .mv (.c (.prim (Value.pointer none))), none⟩, ⟨some 7, .mv (.c (.int .i64 0)), none⟩]) (.seq (.reg [⟨some 11, .ld 2 true (.t 3), none⟩, ⟨some 12, .pcall 74 [.t 11], none⟩, ⟨some 10, .mv (.t 12), none⟩, ⟨some 13, .ext (.t 10) 0, none⟩, ⟨some 14, .ext (.t 10) 1, none⟩, ⟨some 8, .mv (.t 13), none⟩, ⟨some 9, .mv (.t 14), none⟩]) (.seq (.block 0 (.seq (.reg [⟨some 16, .mv (.t 9), none⟩, ⟨some 17, .bin .neq (.t 16) (.c (.int .i64 0)), none⟩, ⟨some 15, .mv (.t 17), none⟩]) (.cond (.t 15) .skip (.seq (.reg [⟨some 19, .mv (.t 1), none⟩, ⟨some 20, .bin .lss (.t 19) (.c (.int .i64 0)), none⟩, ⟨some 21, .mv (.t 20), none⟩, ⟨some 22, .mv (.t 1), some (21, false)⟩, ⟨some 23, .fldA 0 (.t 3), some (21, false)⟩, ⟨some 24, .ld 1 false (.t 23), some (21, false)⟩, ⟨some 25, .len (.t 24), some (21, false)⟩, ⟨some 26, .bin .geq (.t 22) (.t 25), some (21, false)⟩, ⟨some 27, .pick (.t 21) (.c (.bool true)) (.t 26), none⟩, ⟨some 18, .mv (.t 27), none⟩]) (.cond (.t 18) (.reg [⟨some 9, .mv (.c (.int .i64 1)), none⟩]) (.seq (.reg [⟨some 29, .fldA 0 (.t 3), none⟩, ⟨some 30, .ld 1 false (.t 29), none⟩, ⟨some 31, .mv (.t 1), none⟩, ⟨some 32, .idxA 6 (.t 30) (.t 31), none⟩, ⟨some 33, .fldA 0 (.t 32), none⟩, ⟨some 34, .ld 1 false (.t 33), none⟩, ⟨some 35, .bin .neq (.t 34) (.c (.int .i64 2)), none⟩, ⟨some 36, .mv (.t 35), none⟩, ⟨some 37, .fldA 0 (.t 3), some (36, false)⟩, ⟨some 38, .ld 1 false (.t 37), some (36, false)⟩, ⟨some 39, .mv (.t 1), some (36, false)⟩, ⟨some 40, .idxA 6 (.t 38) (.t 39), some (36, false)⟩, ⟨some 41, .fldA 1 (.t 40), some (36, false)⟩, ⟨some 42, .ld 1 false (.t 41), some (36, false)⟩, ⟨some 43, .mv (.t 2), some (36, false)⟩, ⟨some 44, .pcall 34 [.t 42, .t 43], some (36, false)⟩, ⟨some 45, .un .not (.t 44), some (36, false)⟩, ⟨some 46, .pick (.t 36) (.c (.bool true)) (.t 45), none⟩, ⟨some 28, .mv (.t 46), none⟩]) (.cond (.t 28) (.reg [⟨some 9, .mv (.c (.int .i64 7)), none⟩]) (.seq (.reg [⟨some 48, .mv (.t 8), none⟩, ⟨some 49, .mv (.t 1), none⟩, ⟨some 50, .pcall 75 [.t 48, .t 49], none⟩, ⟨some 51, .un .not (.t 50), none⟩, ⟨some 47, .mv (.t 51), none⟩]) (.cond (.t 47) (.reg [⟨some 9, .mv (.c (.int .i64 5)), none⟩]) .skip))))))))) (.seq (.reg [⟨some 52, .ld 2 true (.t 3), none⟩, ⟨some 53, .mv (.t 8), none⟩, ⟨some 54, .bld [.emp, .bool false, .emp] [(0, (2, (.t 52))), (2, (1, (.t 53)))], none⟩, ⟨some 55, .boxF 69 3 (.t 54), none⟩, ⟨some 56, .mv (.t 9), none⟩, ⟨some 6, .mv (.t 55), none⟩, ⟨some 7, .mv (.t 56), none⟩]) .ret))), [.tmp 6, .tmp 7]⟩
theorem hc32 : toSF Tryz.prog {pure := [74, 34, 75]} Tryz.f32 = some c32 := by kernel_rfl
theorem hn32 : (Tryz.f32.name == "runtime.NumGoroutine") = false := by kernel_rfl
theorem control_ok (hG : MaxLenOK G) (d : HDoc) (sm : DocSm d) (n : Int) (nm : List UInt8) (hs : ((splitB 32 [] nm).any (· == [])) = false) (hnl : nm.length < 4294967200) :
    PCalls (Pg G) 32 [.agg (eDoc d), aInt n, .str (32 :: (nm ++ [32]))] (.tup [fA d (orderD d), aInt (ctlE d n nm)]) := fun h => by
  have hl := sm.len
  have cO := order2_ok (G := G) d sm
  unfold eDoc at cO
  by_cases h0 : docE d = 0
  · have V := docE_DV h0
    have oD : orderD d = below d 0 := if_pos h0
    have bl := below_len V V.zero
    rw [oD, h0] at cO
    rw [oD]
    by_cases hn : inD d n
    · have n0 := hn.1
      have n1 := hn.2
      have e0 : nth d.nodes n.toNat = nd d n := rfl
      have b1 : decide (n < 0) = false := decide_eq_false (by omega)
      have b2 : decide ((d.nodes.length : Int) ≤ n) = false := decide_eq_false (by omega)
      have cC := hasI_ok (G := G) (below d 0) n (by omega)
      rw [show (below d 0).any (· == n) = decide (n ∈ below d 0) by rw [Bool.eq_iff_iff]; simp] at cC
      have nl := name_len V hn
      have cW := one_in (G := G) hG (nd d n).name nm hs (by omega) hnl
      have hE : ctlE d n nm = if (nd d n).kind ≠ 2 ∨ inW (nd d n).name nm = false then 7 else if 0 ∈ chain d n then 0 else 5 := by
        unfold ctlE; rw [if_neg (by simpa using h0), if_neg (by simpa using hn)]
      have hm := mem_below V hn V.zero
      by_cases hk : (nd d n).kind = 2
      · have bk : ((nd d n).kind != 2) = false := by simpa using hk
        cases hw : inW (nd d n).name nm
        · rw [hw] at cW
          rw [hE, if_pos (.inr hw)]
          refine dcalls_of_vc Tryz.func32 hn32 hc32 (by rw [Tryz.ntmps32]; simp) (by rw [Tryz.ntmps32]; decide) ?_
          simp -dsimp -implicitDefEqProofs (disch := omega) only [VCA, Nat.reduceEqDiff, Nat.reduceAdd, ↓reduceIte, c32, eDoc]
          repeat' (first | ((with_reducible refine brC (fun _ => ?_) fun _ => ?_) <;> try (exfalso; omega)) | (with_reducible apply pcallE.of; · exact cO) | (with_reducible apply pcallE.of; · exact cC) | (with_reducible apply pcallE.of; · exact cW) | (with_reducible refine And.intro ?_ ?_; · omega) | simp -dsimp -implicitDefEqProofs (disch := omega) only [↓vcOps_sp 21, ↓vcOps_sp 36, VCA, Nat.reduceEqDiff, Nat.reduceAdd, Nat.reduceLT, Nat.reduceLeDiff, ↓reduceIte, fillA, okFill, exists_eq_right_right, b1, b2, bk, eNode, e0])
          all_goals first | exact Sub.refl _ | exact ⟨Sub.refl _, rfl⟩ | trace_state
        · rw [hw] at cW
          by_cases hc : 0 ∈ chain d n
          · rw [decide_eq_true (hm.2 hc)] at cC
            rw [hE, if_neg (by simp [hk, hw]), if_pos hc]
            refine dcalls_of_vc Tryz.func32 hn32 hc32 (by rw [Tryz.ntmps32]; simp) (by rw [Tryz.ntmps32]; decide) ?_
            simp -dsimp -implicitDefEqProofs (disch := omega) only [VCA, Nat.reduceEqDiff, Nat.reduceAdd, ↓reduceIte, c32, eDoc]
            repeat' (first | ((with_reducible refine brC (fun _ => ?_) fun _ => ?_) <;> try (exfalso; omega)) | (with_reducible apply pcallE.of; · exact cO) | (with_reducible apply pcallE.of; · exact cC) | (with_reducible apply pcallE.of; · exact cW) | (with_reducible refine And.intro ?_ ?_; · omega) | simp -dsimp -implicitDefEqProofs (disch := omega) only [↓vcOps_sp 21, ↓vcOps_sp 36, VCA, Nat.reduceEqDiff, Nat.reduceAdd, Nat.reduceLT, Nat.reduceLeDiff, ↓reduceIte, fillA, okFill, exists_eq_right_right, b1, b2, bk, eNode, e0])
            all_goals first | exact Sub.refl _ | exact ⟨Sub.refl _, rfl⟩ | trace_state
          · rw [decide_eq_false (fun q => hc (hm.1 q))] at cC
            rw [hE, if_neg (by simp [hk, hw]), if_neg hc]
            refine dcalls_of_vc Tryz.func32 hn32 hc32 (by rw [Tryz.ntmps32]; simp) (by rw [Tryz.ntmps32]; decide) ?_
            simp -dsimp -implicitDefEqProofs (disch := omega) only [VCA, Nat.reduceEqDiff, Nat.reduceAdd, ↓reduceIte, c32, eDoc]
            repeat' (first | ((with_reducible refine brC (fun _ => ?_) fun _ => ?_) <;> try (exfalso; omega)) | (with_reducible apply pcallE.of; · exact cO) | (with_reducible apply pcallE.of; · exact cC) | (with_reducible apply pcallE.of; · exact cW) | (with_reducible refine And.intro ?_ ?_; · omega) | simp -dsimp -implicitDefEqProofs (disch := omega) only [↓vcOps_sp 21, ↓vcOps_sp 36, VCA, Nat.reduceEqDiff, Nat.reduceAdd, Nat.reduceLT, Nat.reduceLeDiff, ↓reduceIte, fillA, okFill, exists_eq_right_right, b1, b2, bk, eNode, e0])
            all_goals first | exact Sub.refl _ | exact ⟨Sub.refl _, rfl⟩ | trace_state
      · have bk : ((nd d n).kind != 2) = true := by simpa using hk
        rw [hE, if_pos (.inl hk)]
        refine dcalls_of_vc Tryz.func32 hn32 hc32 (by rw [Tryz.ntmps32]; simp) (by rw [Tryz.ntmps32]; decide) ?_
        simp -dsimp -implicitDefEqProofs (disch := omega) only [VCA, Nat.reduceEqDiff, Nat.reduceAdd, ↓reduceIte, c32, eDoc]
        repeat' (first | ((with_reducible refine brC (fun _ => ?_) fun _ => ?_) <;> try (exfalso; omega)) | (with_reducible apply pcallE.of; · exact cO) | (with_reducible apply pcallE.of; · exact cC) | (with_reducible apply pcallE.of; · exact cW) | (with_reducible refine And.intro ?_ ?_; · omega) | simp -dsimp -implicitDefEqProofs (disch := omega) only [↓vcOps_sp 21, ↓vcOps_sp 36, VCA, Nat.reduceEqDiff, Nat.reduceAdd, Nat.reduceLT, Nat.reduceLeDiff, ↓reduceIte, fillA, okFill, exists_eq_right_right, b1, b2, bk, eNode, e0])
        all_goals first | exact Sub.refl _ | exact ⟨Sub.refl _, rfl⟩ | trace_state
    · have hE : ctlE d n nm = 1 := by unfold ctlE; rw [if_neg (by simpa using h0), if_pos hn]
      rw [hE]
      by_cases hneg : n < 0
      · have b1 : decide (n < 0) = true := decide_eq_true hneg
        refine dcalls_of_vc Tryz.func32 hn32 hc32 (by rw [Tryz.ntmps32]; simp) (by rw [Tryz.ntmps32]; decide) ?_
        simp -dsimp -implicitDefEqProofs (disch := omega) only [VCA, Nat.reduceEqDiff, Nat.reduceAdd, ↓reduceIte, c32, eDoc]
        repeat' (first | ((with_reducible refine brC (fun _ => ?_) fun _ => ?_) <;> try (exfalso; omega)) | (with_reducible apply pcallE.of; · exact cO) | (with_reducible refine And.intro ?_ ?_; · omega) | simp -dsimp -implicitDefEqProofs (disch := omega) only [↓vcOps_sp 21, VCA, Nat.reduceEqDiff, Nat.reduceAdd, Nat.reduceLT, Nat.reduceLeDiff, ↓reduceIte, fillA, okFill, exists_eq_right_right, b1])
        all_goals first | exact Sub.refl _ | exact ⟨Sub.refl _, rfl⟩ | trace_state
      · have b1 : decide (n < 0) = false := decide_eq_false hneg
        have b2 : decide ((d.nodes.length : Int) ≤ n) = true := decide_eq_true (by unfold inD at hn; omega)
        refine dcalls_of_vc Tryz.func32 hn32 hc32 (by rw [Tryz.ntmps32]; simp) (by rw [Tryz.ntmps32]; decide) ?_
        simp -dsimp -implicitDefEqProofs (disch := omega) only [VCA, Nat.reduceEqDiff, Nat.reduceAdd, ↓reduceIte, c32, eDoc]
        repeat' (first | ((with_reducible refine brC (fun _ => ?_) fun _ => ?_) <;> try (exfalso; omega)) | (with_reducible apply pcallE.of; · exact cO) | (with_reducible refine And.intro ?_ ?_; · omega) | simp -dsimp -implicitDefEqProofs (disch := omega) only [↓vcOps_sp 21, VCA, Nat.reduceEqDiff, Nat.reduceAdd, Nat.reduceLT, Nat.reduceLeDiff, ↓reduceIte, fillA, okFill, exists_eq_right_right, b1, b2])
        all_goals first | exact Sub.refl _ | exact ⟨Sub.refl _, rfl⟩ | trace_state
  · have hE : ctlE d n nm = docE d := if_pos h0
    rw [hE]
    obtain ⟨x, hx⟩ : ∃ x, docE d = x := ⟨_, rfl⟩
    rw [hx] at cO h0 ⊢
    have bx : (x != 0) = true := by simpa using h0
    generalize orderD d = o at *
    refine dcalls_of_vc Tryz.func32 hn32 hc32 (by rw [Tryz.ntmps32]; simp) (by rw [Tryz.ntmps32]; decide) ?_
    simp -dsimp -implicitDefEqProofs (disch := omega) only [VCA, Nat.reduceEqDiff, Nat.reduceAdd, ↓reduceIte, c32, eDoc]
    repeat' (first | ((with_reducible refine brC (fun _ => ?_) fun _ => ?_) <;> try (exfalso; omega)) | (with_reducible apply pcallE.of; · exact cO) | (with_reducible refine And.intro ?_ ?_; · omega) | simp -dsimp -implicitDefEqProofs (disch := omega) only [VCA, Nat.reduceEqDiff, Nat.reduceAdd, Nat.reduceLT, Nat.reduceLeDiff, ↓reduceIte, fillA, okFill, exists_eq_right_right, bx])
    all_goals first | exact Sub.refl _ | exact ⟨Sub.refl _, rfl⟩ | trace_state
def c35 : SFun := ⟨.seq (.reg [⟨some 4, .mv (.c (.int .i64 0)), none⟩]) (.seq (.seq (.reg [⟨some 8, .mv (.t 0), none⟩, ⟨some 9, .mv (.t 1), none⟩, ⟨some 10, .pcall 78 [.t 8, .t 9, .c (.str [102, 111, 114, 109])], none⟩, ⟨some 11, .un .not (.t 10), none⟩]) (.cond (.t 11) (.seq (.reg [⟨some 12, .mv (.t 0), none⟩, ⟨some 13, .mv (.t 1), none⟩, ⟨some 14, .mv (.t 0), none⟩, ⟨some 15, .pcall 80 [.t 14, .c (.str [102, 111, 114, 109])], none⟩, ⟨some 16, .pcall 79 [.t 12, .t 13, .t 15], none⟩, ⟨some 4, .mv (.t 16), none⟩]) .ret) .skip)) (.seq (.reg [⟨some 17, .mv (.t 0), none⟩, ⟨some 18, .mv (.t 1), none⟩, ⟨some 19, .pcall 38 [.t 17, .t 18, .c (.str [102, 111, 114, 109])], none⟩, ⟨some 5, .mv (.t 19), none⟩]) (.seq (.seq (.reg [⟨some 20, .mv (.t 0), none⟩, ⟨some 21, .fldA 0 (.t 20), none⟩, ⟨some 22, .fldA 2 (.t 21), none⟩, ⟨some 23, .ld 1 false (.t 22), none⟩, ⟨some 24, .len (.t 23), none⟩, ⟨some 25, .mv (.c (.int .i64 0)), none⟩]) (.block 0 (.loop (.seq (.reg [⟨some 26, .bin .lss (.t 25) (.t 24), none⟩]) (.seq (.cond (.t 26) .skip (.exit 0)) (.seq (.block 1 (.seq (.reg [⟨some 27, .idxA 1 (.t 23) (.t 25), none⟩, ⟨some 28, .ld 1 false (.t 27), none⟩, ⟨some 7, .mv (.t 28), none⟩]) (.seq (.reg [⟨some 29, .mv (.t 0), none⟩, ⟨some 30, .mv (.t 7), none⟩, ⟨some 31, .pcall 78 [.t 29, .t 30, .c (.str [105, 100])], none⟩, ⟨some 32, .mv (.t 31), none⟩, ⟨some 33, .mv (.t 0), some (32, true)⟩, ⟨some 34, .mv (.t 7), some (32, true)⟩, ⟨some 35, .pcall 38 [.t 33, .t 34, .c (.str [105, 100])], some (32, true)⟩, ⟨some 36, .mv (.t 5), some (32, true)⟩, ⟨some 37, .bin .eql (.t 35) (.t 36), some (32, true)⟩, ⟨some 38, .pick (.t 32) (.t 37) (.c (.bool false)), none⟩]) (.cond (.t 38) (.seq (.seq (.reg [⟨some 39, .mv (.t 0), none⟩, ⟨some 40, .pcall 80 [.t 39, .c (.str [102, 111, 114, 109])], none⟩, ⟨some 41, .mv (.t 7), none⟩, ⟨some 42, .call (.t 40) [.t 41], none⟩]) (.cond (.t 42) (.seq (.reg [⟨some 43, .mv (.t 7), none⟩, ⟨some 4, .mv (.t 43), none⟩]) .ret) .skip)) (.seq (.reg [⟨some 4, .mv (.c (.int .i64 (-1))), none⟩]) .ret)) .skip)))) (.reg [⟨some 44, .bin .add (.t 25) (.c (.int .i64 1)), none⟩, ⟨some 25, .mv (.t 44), none⟩]))))))) (.seq (.reg [⟨some 4, .mv (.c (.int .i64 (-1))), none⟩]) .ret)))), [.tmp 4]⟩
theorem hc35 : toSF Tryz.prog {pure := [78, 38, 79, 80]} Tryz.f35 = some c35 := by kernel_rfl
theorem hn35 : (Tryz.f35.name == "runtime.NumGoroutine") = false := by kernel_rfl
theorem owner_ok (d : HDoc) (V : DV d) (sm : DocSm d) (o : List Int) (ho : ∀ k ∈ o, inD d k) (hol : o.length ≤ 1000) (n : Int) (hn : inD d n) : PCalls (Pg G) 35 [fA d o, aInt n] (aInt (ownM d o n)) := fun h => by
  have c1 := fhas_ok (G := G) d sm o n hn [102, 111, 114, 109]
  have c2 := fattr_ok (G := G) d sm o n hn [102, 111, 114, 109]
  have c3 := fnamed_ok (G := G) d o [102, 111, 114, 109]
  have c4 := fabove_ok (G := G) d V sm o n hn 113 [] [.pin [fA d o], .pin [.str [102, 111, 114, 109]]] (isN d [102, 111, 114, 109]) fun k hk => fnamed1_ok d sm o k hk [102, 111, 114, 109]
  have al := attD_len V hn [102, 111, 114, 109]
  have fE : fA d o = .pin [sl eNode d.nodes, .bool d.quirks, sl eInt o] := rfl
  obtain ⟨F, hF⟩ : ∃ F, fA d o = F := ⟨_, rfl⟩
  rw [hF] at c1 c2 c3 c4 fE
  unfold ownM
  cases hh : hasA d n [102, 111, 114, 109]
  · rw [hh] at c1
    refine dcalls_of_vc Tryz.func35 hn35 hc35 (by rw [Tryz.ntmps35]; simp) (by rw [Tryz.ntmps35]; decide) ?_
    simp -dsimp -implicitDefEqProofs (disch := omega) only [VCA, Nat.reduceEqDiff, ↓reduceIte, reduceCtorEq, c35, hF]
    repeat' (first | ((with_reducible refine brC (fun _ => ?_) fun _ => ?_) <;> try (exfalso; omega)) | (with_reducible apply pcallE.of; · exact c1) | (with_reducible apply pcallE.of; · exact c2) | (with_reducible apply pcallE.of; · exact c3) | (with_reducible apply pcallE.of; · exact c4) | (with_reducible refine And.intro ?_ ?_; · omega) | simp -dsimp -implicitDefEqProofs (disch := omega) only [VCA, Nat.reduceEqDiff, ↓reduceIte, reduceCtorEq, exists_eq_right])
    all_goals first | exact Sub.refl _ | trace_state
  · rw [hh] at c1
    rw [if_neg (by simp)]
    generalize attD d n [102, 111, 114, 109] = id at *
    refine dcalls_of_vc Tryz.func35 hn35 hc35 (by rw [Tryz.ntmps35]; simp) (by rw [Tryz.ntmps35]; decide) ?_
    simp -dsimp -implicitDefEqProofs (disch := omega) only [VCA, Nat.reduceEqDiff, ↓reduceIte, reduceCtorEq, c35, hF]
    repeat' (first | ((with_reducible refine brC (fun _ => ?_) fun _ => ?_) <;> try (exfalso; omega)) | (with_reducible apply pcallE.of; · exact c1) | (with_reducible apply pcallE.of; · exact c2) | (with_reducible refine And.intro ?_ ?_; · omega) | simp -dsimp -implicitDefEqProofs (disch := omega) only [VCA, Nat.reduceEqDiff, ↓reduceIte, reduceCtorEq])
    repeat' (first | ((with_reducible refine brC (fun _ => ?_) fun _ => ?_) <;> try (exfalso; omega)) | (with_reducible refine And.intro ?_ ?_; · omega) | simp -dsimp -implicitDefEqProofs (disch := omega) only [VCA, fE])
    refine LoopVC.intro (fun m e h' => ∃ k : Nat, k ≤ o.length ∧ m = o.length - k ∧ e 0 = F ∧ e 5 = .str id ∧ e 23 = sl eInt o ∧ e 24 = aInt o.length ∧ e 25 = aInt k ∧ h' = h ∧ o.find? (fun k => hasA d k [105, 100] && attD d k [105, 100] == id) = (o.drop k).find? (fun k => hasA d k [105, 100] && attD d k [105, 100] == id)) o.length
      (by exact ⟨0, by omega, by omega, fE.symm, rfl, rfl, rfl, rfl, rfl, rfl⟩) ?_
    rintro m e h' ⟨k, hk, rfl, e0, e5, e23, e24, e25, rfl, hf⟩
    by_cases hlt : k < o.length
    · have d1 : decide ((k : Int) < (o.length : Int)) = true := decide_eq_true (by omega)
      rw [drop_cons' hlt, List.find?_cons] at hf
      obtain ⟨x, hx⟩ : ∃ x, nth o k = x := ⟨_, rfl⟩
      have hxo : inD d x := by rw [← hx]; exact ho _ (nth_mem' hlt)
      rw [hx] at hf
      have g1 := fhas_ok (G := G) d sm o x hxo [105, 100]
      have g2 := fattr_ok (G := G) d sm o x hxo [105, 100]
      have g3 := fnamed1_ok (G := G) d sm o x hxo [102, 111, 114, 109]
      rw [hF] at g1 g2 g3
      cases hb : hasA d x [105, 100]
      · rw [hb] at g1
        rw [hb] at hf
        repeat' (first | ((with_reducible refine brC (fun _ => ?_) fun _ => ?_) <;> try (exfalso; omega)) | (with_reducible apply pcallE.of; · exact g1) | (with_reducible refine And.intro ?_ ?_; · omega) | simp -dsimp -implicitDefEqProofs (disch := omega) only [↓vcOps_sp 32, VCA, Nat.reduceEqDiff, ↓reduceIte, reduceCtorEq, eInt, e0, e5, e23, e24, e25, d1, hx])
        all_goals first
          | exact ⟨_, by omega, k + 1, by omega, rfl, by omega, hf⟩
          | trace_state
      · rw [hb] at g1
        rw [hb] at hf
        cases hc : (attD d x [105, 100] == id)
        · rw [hc] at hf
          repeat' (first | ((with_reducible refine brC (fun _ => ?_) fun _ => ?_) <;> try (exfalso; omega)) | (with_reducible apply pcallE.of; · exact g1) | (with_reducible apply pcallE.of; · exact g2) | (with_reducible refine And.intro ?_ ?_; · omega) | simp -dsimp -implicitDefEqProofs (disch := omega) only [↓vcOps_sp 32, VCA, Nat.reduceEqDiff, ↓reduceIte, reduceCtorEq, eInt, e0, e5, e23, e24, e25, d1, hx, hc])
          all_goals first
            | exact ⟨_, by omega, k + 1, by omega, rfl, by omega, hf⟩
            | trace_state
        · rw [hc] at hf
          simp only [Bool.and_self] at hf
          rw [hf]
          cases hz : isN d [102, 111, 114, 109] x
          · rw [hz] at g3
            repeat' (first | ((with_reducible refine brC (fun _ => ?_) fun _ => ?_) <;> try (exfalso; omega)) | (with_reducible apply pcallE.of; · exact g1) | (with_reducible apply pcallE.of; · exact g2) | (with_reducible apply pcallE.of; · exact c3) | (with_reducible refine PCalls.of g3 ?_) | (with_reducible refine And.intro ?_ ?_; · omega) | simp -dsimp -implicitDefEqProofs (disch := omega) only [↓vcOps_sp 32, VCA, Nat.reduceEqDiff, ↓reduceIte, reduceCtorEq, exists_eq_right, eInt, e0, e5, e23, e24, e25, d1, hx, hc, hz])
            all_goals first | exact Sub.refl _ | exact ⟨Sub.refl _, rfl⟩ | trace_state
          · rw [hz] at g3
            repeat' (first | ((with_reducible refine brC (fun _ => ?_) fun _ => ?_) <;> try (exfalso; omega)) | (with_reducible apply pcallE.of; · exact g1) | (with_reducible apply pcallE.of; · exact g2) | (with_reducible apply pcallE.of; · exact c3) | (with_reducible refine PCalls.of g3 ?_) | (with_reducible refine And.intro ?_ ?_; · omega) | simp -dsimp -implicitDefEqProofs (disch := omega) only [↓vcOps_sp 32, VCA, Nat.reduceEqDiff, ↓reduceIte, reduceCtorEq, exists_eq_right, eInt, e0, e5, e23, e24, e25, d1, hx, hc, hz])
            all_goals first | exact Sub.refl _ | exact ⟨Sub.refl _, rfl⟩ | trace_state
    · obtain rfl : k = o.length := by omega
      have d1 : decide ((o.length : Int) < (o.length : Int)) = false := decide_eq_false (by omega)
      rw [List.drop_length] at hf
      rw [hf]
      repeat' (first | ((with_reducible refine brC (fun _ => ?_) fun _ => ?_) <;> try (exfalso; omega)) | (with_reducible refine And.intro ?_ ?_; · omega) | simp -dsimp -implicitDefEqProofs (disch := omega) only [VCA, ↓reduceIte, exists_eq_right_right, e24, e25, d1])
      all_goals first | exact Sub.refl _ | exact ⟨Sub.refl _, rfl⟩ | trace_state
end Go.Proofs.K
end
section
set_option linter.unusedSimpArgs false
set_option linter.unusedVariables false
namespace Go.Proofs.K
open Go Go.Sim Go.Proofs
variable {G : Glob}
theorem lett_one {d : HDoc} (V : DV d) {n : Int} (hn : inD d n) (h3 : (nd d n).kind = 3) : lettersM d (below d n) = (nd d n).text := by
  rw [letters_one V hn (by omega), if_pos h3]
theorem lett_kids {d : HDoc} (V : DV d) {n : Int} (hn : inD d n) (h3 : ¬ (nd d n).kind = 3) : lettersM d (below d n) = (nd d n).kids.flatMap fun k => lettersM d (below d k) := by
  have h : ∀ l : List Int, lettersM d (l.flatMap (below d)) = l.flatMap fun k => lettersM d (below d k) := fun l => by
    induction l with
    | nil => rfl
    | cons x r ih => rw [List.flatMap_cons, letters_app, List.flatMap_cons, ih]
  rw [below_eq V hn]
  have : lettersM d (n :: (nd d n).kids.flatMap (below d)) = lettersM d ([n] ++ (nd d n).kids.flatMap (below d)) := rfl
  rw [this, letters_app, h]
  have : lettersM d [n] = [] := by unfold lettersM; simp [h3]
  rw [this, List.nil_append]
def c92 : SFun := ⟨.seq (.reg [⟨some 4, .mv (.c (.str [])), none⟩]) (.seq (.seq (.reg [⟨some 8, .mv (.t 0), none⟩, ⟨some 9, .fldA 0 (.t 8), none⟩, ⟨some 10, .fldA 0 (.t 9), none⟩, ⟨some 11, .fldA 0 (.t 10), none⟩, ⟨some 12, .ld 1 false (.t 11), none⟩, ⟨some 13, .mv (.t 1), none⟩, ⟨some 14, .idxA 6 (.t 12) (.t 13), none⟩, ⟨some 15, .fldA 0 (.t 14), none⟩, ⟨some 16, .ld 1 false (.t 15), none⟩, ⟨some 17, .bin .eql (.t 16) (.c (.int .i64 3)), none⟩]) (.cond (.t 17) (.seq (.reg [⟨some 18, .mv (.t 0), none⟩, ⟨some 19, .fldA 0 (.t 18), none⟩, ⟨some 20, .fldA 0 (.t 19), none⟩, ⟨some 21, .fldA 0 (.t 20), none⟩, ⟨some 22, .ld 1 false (.t 21), none⟩, ⟨some 23, .mv (.t 1), none⟩, ⟨some 24, .idxA 6 (.t 22) (.t 23), none⟩, ⟨some 25, .fldA 3 (.t 24), none⟩, ⟨some 26, .ld 1 false (.t 25), none⟩, ⟨some 4, .mv (.t 26), none⟩]) .ret) .skip)) (.seq (.reg [⟨some 5, .mv (.c (.str [])), none⟩]) (.seq (.seq (.reg [⟨some 27, .mv (.t 0), none⟩, ⟨some 28, .fldA 0 (.t 27), none⟩, ⟨some 29, .fldA 0 (.t 28), none⟩, ⟨some 30, .fldA 0 (.t 29), none⟩, ⟨some 31, .ld 1 false (.t 30), none⟩, ⟨some 32, .mv (.t 1), none⟩, ⟨some 33, .idxA 6 (.t 31) (.t 32), none⟩, ⟨some 34, .fldA 5 (.t 33), none⟩, ⟨some 35, .ld 1 false (.t 34), none⟩, ⟨some 36, .len (.t 35), none⟩, ⟨some 37, .mv (.c (.int .i64 0)), none⟩]) (.block 0 (.loop (.seq (.reg [⟨some 38, .bin .lss (.t 37) (.t 36), none⟩]) (.seq (.cond (.t 38) .skip (.exit 0)) (.seq (.block 1 (.seq (.reg [⟨some 39, .idxA 1 (.t 35) (.t 37), none⟩, ⟨some 40, .ld 1 false (.t 39), none⟩, ⟨some 7, .mv (.t 40), none⟩]) (.reg [⟨some 41, .mv (.t 5), none⟩, ⟨some 42, .mv (.t 0), none⟩, ⟨some 43, .mv (.t 7), none⟩, ⟨some 44, .pcall 92 [.t 42, .t 43], none⟩, ⟨some 45, .bin .add (.t 41) (.t 44), none⟩, ⟨some 5, .mv (.t 45), none⟩]))) (.reg [⟨some 46, .bin .add (.t 37) (.c (.int .i64 1)), none⟩, ⟨some 37, .mv (.t 46), none⟩]))))))) (.seq (.reg [⟨some 47, .mv (.t 5), none⟩, ⟨some 4, .mv (.t 47), none⟩]) .ret)))), [.tmp 4]⟩
theorem hc92 : toSF Tryz.prog {pure := [92]} Tryz.f92 = some c92 := by kernel_rfl
theorem hn92 : (Tryz.f92.name == "runtime.NumGoroutine") = false := by kernel_rfl
theorem ftext_ok (d : HDoc) (V : DV d) (sm : DocSm d) (o : List Int) : ∀ n, inD d n → PCalls (Pg G) 92 [fA d o, aInt n] (.str (lettersM d (below d n))) := V.down fun n hn ih h => by
  have hl := V.len
  have n0 := hn.1
  have n1 := hn.2
  have e0 : nth d.nodes n.toNat = nd d n := rfl
  have kl := (sm.nd n).kids
  have tl := lett_len V hn
  have fE : fA d o = .pin [sl eNode d.nodes, .bool d.quirks, sl eInt o] := rfl
  obtain ⟨F, hF⟩ : ∃ F, fA d o = F := ⟨_, rfl⟩
  rw [hF] at fE ih
  by_cases h3 : (nd d n).kind = 3
  · have b3 : ((nd d n).kind == 3) = true := by simpa using h3
    have eT := lett_one V hn h3
    rw [eT]
    refine dcalls_of_vc Tryz.func92 hn92 hc92 (by rw [Tryz.ntmps92]; simp) (by rw [Tryz.ntmps92]; decide) ?_
    simp -dsimp -implicitDefEqProofs (disch := omega) only [VCA, Nat.reduceEqDiff, Nat.reduceAdd, Nat.reduceLeDiff, ↓reduceIte, reduceCtorEq, exists_eq_right, c92, hF, fE, eNode, e0, b3]
    exact ⟨by omega, by omega, Sub.refl _⟩
  · have b3 : ((nd d n).kind == 3) = false := by simpa using h3
    have eT := lett_kids V hn h3
    have fl : ∀ k, k ≤ (nd d n).kids.length → (((nd d n).kids.take k).flatMap fun k => lettersM d (below d k)).length ≤ 80000 := fun k hk => by
      have : (((nd d n).kids.take k).flatMap fun k => lettersM d (below d k)).length ≤ ((nd d n).kids.flatMap fun k => lettersM d (below d k)).length := by
        conv => rhs; rw [← List.take_append_drop k (nd d n).kids, List.flatMap_append, List.length_append]
        omega
      rw [← eT] at this; omega
    rw [eT]
    refine dcalls_of_vc Tryz.func92 hn92 hc92 (by rw [Tryz.ntmps92]; simp) (by rw [Tryz.ntmps92]; decide) ?_
    simp -dsimp -implicitDefEqProofs (disch := omega) only [VCA, Nat.reduceEqDiff, Nat.reduceAdd, Nat.reduceLeDiff, ↓reduceIte, reduceCtorEq, c92, hF, fE, eNode, e0, b3]
    refine ⟨by omega, by omega, ?_⟩
    refine LoopVC.intro (fun m e h' => ∃ k : Nat, k ≤ (nd d n).kids.length ∧ m = (nd d n).kids.length - k ∧ e 0 = F ∧ e 5 = .str (((nd d n).kids.take k).flatMap fun k => lettersM d (below d k)) ∧ e 35 = sl eInt (nd d n).kids ∧ e 36 = aInt (nd d n).kids.length ∧ e 37 = aInt k ∧ h' = h) (nd d n).kids.length
      (by exact ⟨0, by omega, by omega, fE.symm, rfl, rfl, rfl, rfl, rfl⟩) ?_
    rintro m e h' ⟨k, hk, rfl, e0', e5, e35, e36, e37, rfl⟩
    by_cases hlt : k < (nd d n).kids.length
    · have d1 : decide ((k : Int) < ((nd d n).kids.length : Int)) = true := decide_eq_true (by omega)
      have ihk := ih _ (nth_mem' hlt)
      have f1 := fl (k + 1) (by omega)
      have tk : ((nd d n).kids.take (k + 1)).flatMap (fun k => lettersM d (below d k)) = (((nd d n).kids.take k).flatMap fun k => lettersM d (below d k)) ++ lettersM d (below d (nth (nd d n).kids k)) := by rw [take_snoc hlt, List.flatMap_append]; simp
      rw [tk, List.length_append] at f1
      repeat' (first | ((with_reducible refine brC (fun _ => ?_) fun _ => ?_) <;> try (exfalso; omega)) | (with_reducible apply pcallE.of; · exact ihk) | (with_reducible refine And.intro ?_ ?_; · omega) | simp -dsimp -implicitDefEqProofs (disch := omega) only [VCA, Nat.reduceEqDiff, ↓reduceIte, reduceCtorEq, eInt, e0', e5, e35, e36, e37, d1])
      all_goals first | exact ⟨_, by omega, k + 1, by omega, rfl, by rw [tk], by omega⟩ | trace_state
    · obtain rfl : k = (nd d n).kids.length := by omega
      have d1 : decide (((nd d n).kids.length : Int) < ((nd d n).kids.length : Int)) = false := decide_eq_false (by omega)
      rw [List.take_length] at e5
      repeat' (first | ((with_reducible refine brC (fun _ => ?_) fun _ => ?_) <;> try (exfalso; omega)) | (with_reducible refine And.intro ?_ ?_; · omega) | simp -dsimp -implicitDefEqProofs (disch := omega) only [VCA, Nat.reduceEqDiff, ↓reduceIte, exists_eq_right, e5, e36, e37, d1])
      all_goals first | exact Sub.refl _ | trace_state
theorem belO_eq {d : HDoc} (V : DV d) {n : Int} (hn : inD d n) (nm : List UInt8) : belO d nm n = (nd d n).kids.flatMap fun k => (if isN d nm k = true then [k] else []) ++ belO d nm k := by
  have h : ∀ l : List Int, (∀ k ∈ l, inD d k) → (l.flatMap (below d)).filter (isN d nm) = l.flatMap fun k => (if isN d nm k = true then [k] else []) ++ belO d nm k := fun l => by
    induction l with
    | nil => intro _; rfl
    | cons x r ih =>
      intro hl
      have hx := hl x List.mem_cons_self
      rw [List.flatMap_cons, List.filter_append, List.flatMap_cons, ih fun k hk => hl k (List.mem_cons_of_mem _ hk)]
      congr 1
      unfold belO
      rw [below_eq V hx, List.filter_cons]
      cases isN d nm x <;> rfl
  unfold belO
  rw [below_eq V hn]
  exact h _ fun k hk => (V.kid n hn k hk).1
def c117 : SFun := ⟨.seq (.reg [⟨some 6, .mv (.c .emp), none⟩]) (.seq (.seq (.reg [⟨some 9, .mv (.t 0), none⟩, ⟨some 10, .fldA 0 (.t 9), none⟩, ⟨some 11, .fldA 0 (.t 10), none⟩, ⟨some 12, .fldA 0 (.t 11), none⟩, ⟨some 13, .ld 1 false (.t 12), none⟩, ⟨some 14, .mv (.t 1), none⟩, ⟨some 15, .idxA 6 (.t 13) (.t 14), none⟩, ⟨some 16, .fldA 5 (.t 15), none⟩, ⟨some 17, .ld 1 false (.t 16), none⟩, ⟨some 18, .len (.t 17), none⟩, ⟨some 19, .mv (.c (.int .i64 0)), none⟩]) (.block 0 (.loop (.seq (.reg [⟨some 20, .bin .lss (.t 19) (.t 18), none⟩]) (.seq (.cond (.t 20) .skip (.exit 0)) (.seq (.block 1 (.seq (.reg [⟨some 21, .idxA 1 (.t 17) (.t 19), none⟩, ⟨some 22, .ld 1 false (.t 21), none⟩, ⟨some 8, .mv (.t 22), none⟩]) (.seq (.seq (.reg [⟨some 23, .mv (.t 0), none⟩, ⟨some 24, .mv (.t 2), none⟩, ⟨some 25, .pcall 80 [.t 23, .t 24], none⟩, ⟨some 26, .mv (.t 8), none⟩, ⟨some 27, .call (.t 25) [.t 26], none⟩]) (.cond (.t 27) (.reg [⟨some 28, .mv (.t 6), none⟩, ⟨some 29, .mv (.t 8), none⟩, ⟨some 30, .bldF 3 1 [.t 29], none⟩, ⟨some 31, .app 3 1 8 (.t 28) (.t 30), none⟩, ⟨some 6, .mv (.t 31), none⟩]) .skip)) (.reg [⟨some 32, .mv (.t 6), none⟩, ⟨some 33, .mv (.t 0), none⟩, ⟨some 34, .mv (.t 8), none⟩, ⟨some 35, .mv (.t 2), none⟩, ⟨some 36, .pcall 117 [.t 33, .t 34, .t 35], none⟩, ⟨some 37, .app 3 1 8 (.t 32) (.t 36), none⟩, ⟨some 6, .mv (.t 37), none⟩])))) (.reg [⟨some 38, .bin .add (.t 19) (.c (.int .i64 1)), none⟩, ⟨some 19, .mv (.t 38), none⟩]))))))) (.seq (.reg [⟨some 39, .mv (.t 6), none⟩, ⟨some 6, .mv (.t 39), none⟩]) .ret)), [.tmp 6]⟩
theorem hc117 : toSF Tryz.prog {pure := [117, 80]} Tryz.f117 = some c117 := by kernel_rfl
theorem hn117 : (Tryz.f117.name == "runtime.NumGoroutine") = false := by kernel_rfl
theorem fbelow_ok (d : HDoc) (V : DV d) (sm : DocSm d) (o : List Int) (nm : List UInt8) : ∀ n, inD d n → PCalls (Pg G) 117 [fA d o, aInt n, .str nm] (sl eInt (belO d nm n)) := V.down fun n hn ih => PCalls.acc (ty := 3) (sz := 1) fun h => by
  have hl := V.len
  have n0 := hn.1
  have n1 := hn.2
  have e0 : nth d.nodes n.toNat = nd d n := rfl
  have kl := (sm.nd n).kids
  have bl := belO_len V hn (nm := nm)
  have c3 := fnamed_ok (G := G) d o nm
  have g3 := fun x hx => fnamed1_ok (G := G) d sm o x hx nm
  have fE : fA d o = .pin [sl eNode d.nodes, .bool d.quirks, sl eInt o] := rfl
  obtain ⟨F, hF⟩ : ∃ F, fA d o = F := ⟨_, rfl⟩
  rw [hF] at fE ih c3 g3
  have eB := belO_eq V hn nm
  rw [eB] at bl ⊢
  obtain ⟨f, hf⟩ : ∃ f : Int → List Int, (fun k => (if isN d nm k = true then [k] else []) ++ belO d nm k) = f := ⟨_, rfl⟩
  rw [hf] at bl ⊢
  have fl : ∀ k, k ≤ (nd d n).kids.length → (((nd d n).kids.take k).flatMap f).length ≤ 200 := fun k hk => by
    have : (((nd d n).kids.take k).flatMap f).length ≤ ((nd d n).kids.flatMap f).length := by
      conv => rhs; rw [← List.take_append_drop k (nd d n).kids, List.flatMap_append, List.length_append]
      omega
    omega
  refine dcalls_of_vc Tryz.func117 hn117 hc117 (by rw [Tryz.ntmps117]; simp) (by rw [Tryz.ntmps117]; decide) ?_
  simp -dsimp -implicitDefEqProofs (disch := omega) only [VCA, Nat.reduceEqDiff, Nat.reduceAdd, Nat.reduceLeDiff, ↓reduceIte, reduceCtorEq, c117, hF, fE, eNode, e0]
  refine ⟨by omega, ?_⟩
  refine LoopVC.intro (fun m e h' => ∃ k : Nat, k ≤ (nd d n).kids.length ∧ m = (nd d n).kids.length - k ∧ e 0 = F ∧ e 2 = .str nm ∧ e 17 = sl eInt (nd d n).kids ∧ e 18 = aInt (nd d n).kids.length ∧ e 19 = aInt k ∧ Acc h 3 1 ((((nd d n).kids.take k).flatMap f).map eInt) (e 6) h' ∧ Sim.Sub h h') (nd d n).kids.length
    (by exact ⟨0, by omega, by omega, fE.symm, rfl, rfl, rfl, rfl, Acc.nil, Sub.refl _⟩) ?_
  rintro m e h' ⟨k, hk, rfl, e0', e2, e17, e18, e19, A, S⟩
  by_cases hlt : k < (nd d n).kids.length
  · have d1 : decide ((k : Int) < ((nd d n).kids.length : Int)) = true := decide_eq_true (by omega)
    have ihk := ih _ (nth_mem' hlt)
    have hx := (V.kid n hn _ (nth_mem' hlt)).1
    have f1 := fl (k + 1) (by omega)
    have g := g3 _ hx
    rw [take_snoc hlt, List.flatMap_append, List.length_append] at f1
    obtain ⟨x, hxx⟩ : ∃ x, nth (nd d n).kids k = x := ⟨_, rfl⟩
    have tk : ((nd d n).kids.take (k + 1)).flatMap f = ((nd d n).kids.take k).flatMap f ++ f x := by rw [take_snoc hlt, List.flatMap_append, hxx]; simp
    rw [hxx] at ihk g f1
    simp only [List.flatMap_cons, List.flatMap_nil, List.append_nil] at f1
    have fx : f x = (if isN d nm x = true then [x] else []) ++ belO d nm x := by rw [← hf]
    cases hz : isN d nm x
    · rw [hz] at g
      rw [hz] at fx
      rw [fx] at f1
      simp only [Bool.false_eq_true, if_false, List.nil_append] at f1 fx
      repeat' (first | ((with_reducible refine brC (fun _ => ?_) fun _ => ?_) <;> try (exfalso; omega)) | (with_reducible apply pcallE.of; · exact c3) | (with_reducible refine PCalls.of g ?_) | (with_reducible apply pcallE.of; · exact ihk) | (with_reducible refine And.intro ?_ ?_; · omega) | simp -dsimp -implicitDefEqProofs (disch := omega) only [VCA, Nat.reduceEqDiff, ↓reduceIte, reduceCtorEq, exists_eq_left, eInt, e0', e2, e17, e18, e19, d1, hxx])
      refine A.app S (by simp only [List.length_map]; omega) (by simp only [List.length_map]; omega) fun a' h'' A' S' => ?_
      simp -dsimp -implicitDefEqProofs (disch := omega) only [VCA, Nat.reduceEqDiff, ↓reduceIte, reduceCtorEq, e0', e2, e17, e18, e19]
      refine ⟨_, by omega, k + 1, by omega, rfl, by omega, ?_, S'⟩
      rw [tk, fx]
      simpa [eInt] using A'
    · rw [hz] at g
      rw [hz] at fx
      rw [fx] at f1
      simp only [if_true, List.cons_append, List.nil_append, List.length_cons] at f1 fx
      repeat' (first | ((with_reducible refine brC (fun _ => ?_) fun _ => ?_) <;> try (exfalso; omega)) | (with_reducible apply pcallE.of; · exact c3) | (with_reducible refine PCalls.of g ?_) | (with_reducible apply pcallE.of; · exact ihk) | (with_reducible refine And.intro ?_ ?_; · omega) | simp -dsimp -implicitDefEqProofs (disch := omega) only [VCA, Nat.reduceEqDiff, ↓reduceIte, reduceCtorEq, okParts, forall_eq, exists_eq_left, eInt, e0', e2, e17, e18, e19, d1, hxx])
      refine A.app S (by simp only [List.length_map, List.length_cons, List.length_nil]; omega) (by simp only [List.length_map, List.length_cons, List.length_nil]; omega) fun a' h'' A' S' => ?_
      repeat' (first | ((with_reducible refine brC (fun _ => ?_) fun _ => ?_) <;> try (exfalso; omega)) | (with_reducible apply pcallE.of; · exact ihk) | (with_reducible refine And.intro ?_ ?_; · omega) | simp -dsimp -implicitDefEqProofs (disch := omega) only [VCA, Nat.reduceEqDiff, ↓reduceIte, reduceCtorEq, exists_eq_left, e0', e2])
      refine A'.app S' (by simp only [List.length_append, List.length_map, List.length_cons, List.length_nil]; omega) (by simp only [List.length_append, List.length_map, List.length_cons, List.length_nil]; omega) fun a2 h2 A2 S2 => ?_
      simp -dsimp -implicitDefEqProofs (disch := omega) only [VCA, Nat.reduceEqDiff, ↓reduceIte, reduceCtorEq, e0', e2, e17, e18, e19]
      refine ⟨_, by omega, k + 1, by omega, rfl, by omega, ?_, S2⟩
      rw [tk, fx]
      simpa [eInt] using A2
  · obtain rfl : k = (nd d n).kids.length := by omega
    have d1 : decide (((nd d n).kids.length : Int) < ((nd d n).kids.length : Int)) = false := decide_eq_false (by omega)
    rw [List.take_length] at A
    repeat' (first | ((with_reducible refine brC (fun _ => ?_) fun _ => ?_) <;> try (exfalso; omega)) | (with_reducible refine And.intro ?_ ?_; · omega) | simp -dsimp -implicitDefEqProofs (disch := omega) only [VCA, Nat.reduceEqDiff, ↓reduceIte, e18, e19, d1])
    all_goals first | exact ⟨_, Sub.refl _, A, S⟩ | trace_state
end Go.Proofs.K
end
section
set_option linter.unusedSimpArgs false
set_option linter.unusedVariables false
namespace Go.Proofs.K
open Go Go.Sim Go.Proofs
variable {G : Glob}
def c86 : SFun := ⟨.seq (.reg [⟨some 4, .mv (.c (.str [])), none⟩]) (.seq (.seq (.reg [⟨some 5, .mv (.t 0), none⟩, ⟨some 6, .mv (.t 1), none⟩, ⟨some 7, .pcall 78 [.t 5, .t 6, .c (.str [118, 97, 108, 117, 101])], none⟩]) (.cond (.t 7) (.seq (.reg [⟨some 8, .mv (.t 0), none⟩, ⟨some 9, .mv (.t 1), none⟩, ⟨some 10, .pcall 38 [.t 8, .t 9, .c (.str [118, 97, 108, 117, 101])], none⟩, ⟨some 4, .mv (.t 10), none⟩]) .ret) .skip)) (.seq (.reg [⟨some 11, .mv (.t 0), none⟩, ⟨some 12, .mv (.t 1), none⟩, ⟨some 13, .pcall 92 [.t 11, .t 12], none⟩, ⟨some 4, .mv (.t 13), none⟩]) .ret)), [.tmp 4]⟩
theorem hc86 : toSF Tryz.prog {pure := [78, 38, 92]} Tryz.f86 = some c86 := by kernel_rfl
theorem hn86 : (Tryz.f86.name == "runtime.NumGoroutine") = false := by kernel_rfl
theorem option_ok (d : HDoc) (V : DV d) (sm : DocSm d) (o : List Int) (n : Int) (hn : inD d n) : PCalls (Pg G) 86 [fA d o, aInt n] (.str (optV d n)) := fun h => by
  have c1 := fhas_ok (G := G) d sm o n hn [118, 97, 108, 117, 101]
  have c2 := fattr_ok (G := G) d sm o n hn [118, 97, 108, 117, 101]
  have c3 := ftext_ok (G := G) d V sm o n hn
  obtain ⟨F, hF⟩ : ∃ F, fA d o = F := ⟨_, rfl⟩
  rw [hF] at c1 c2 c3
  unfold optV
  cases hb : hasA d n [118, 97, 108, 117, 101]
  · rw [hb] at c1
    refine dcalls_of_vc Tryz.func86 hn86 hc86 (by rw [Tryz.ntmps86]; simp) (by rw [Tryz.ntmps86]; decide) ?_
    simp -dsimp -implicitDefEqProofs (disch := omega) only [VCA, Nat.reduceEqDiff, ↓reduceIte, reduceCtorEq, c86, hF]
    repeat' (first | ((with_reducible refine brC (fun _ => ?_) fun _ => ?_) <;> try (exfalso; omega)) | (with_reducible apply pcallE.of; · exact c1) | (with_reducible apply pcallE.of; · exact c3) | (with_reducible refine And.intro ?_ ?_; · omega) | simp -dsimp -implicitDefEqProofs (disch := omega) only [VCA, Nat.reduceEqDiff, ↓reduceIte, reduceCtorEq, exists_eq_right])
    all_goals first | exact Sub.refl _ | exact ⟨Sub.refl _, rfl⟩ | trace_state
  · rw [hb] at c1
    refine dcalls_of_vc Tryz.func86 hn86 hc86 (by rw [Tryz.ntmps86]; simp) (by rw [Tryz.ntmps86]; decide) ?_
    simp -dsimp -implicitDefEqProofs (disch := omega) only [VCA, Nat.reduceEqDiff, ↓reduceIte, reduceCtorEq, c86, hF]
    repeat' (first | ((with_reducible refine brC (fun _ => ?_) fun _ => ?_) <;> try (exfalso; omega)) | (with_reducible apply pcallE.of; · exact c1) | (with_reducible apply pcallE.of; · exact c2) | (with_reducible refine And.intro ?_ ?_; · omega) | simp -dsimp -implicitDefEqProofs (disch := omega) only [VCA, Nat.reduceEqDiff, ↓reduceIte, reduceCtorEq, exists_eq_right])
    all_goals first | exact Sub.refl _ | exact ⟨Sub.refl _, rfl⟩ | trace_state
def c82 : SFun := ⟨.seq (.reg [⟨some 2, .mv (.c (.bool false)), none⟩]) (.seq (.reg [⟨some 3, .mv (.t 0), none⟩, ⟨some 4, .bin .eql (.t 3) (.c (.str [99, 104, 101, 99, 107, 98, 111, 120])), none⟩, ⟨some 5, .mv (.t 4), none⟩, ⟨some 6, .mv (.t 0), some (5, false)⟩, ⟨some 7, .bin .eql (.t 6) (.c (.str [114, 97, 100, 105, 111])), some (5, false)⟩, ⟨some 8, .pick (.t 5) (.c (.bool true)) (.t 7), none⟩, ⟨some 2, .mv (.t 8), none⟩]) .ret), [.tmp 2]⟩
theorem hc82 : toSF Tryz.prog {} Tryz.f82 = some c82 := by kernel_rfl
theorem hn82 : (Tryz.f82.name == "runtime.NumGoroutine") = false := by kernel_rfl
theorem ticked_ok (k : List UInt8) : PCalls (Pg G) 82 [.str k] (.bool (tickM k)) := fun h => by
  unfold tickM
  refine dcalls_of_vc Tryz.func82 hn82 hc82 (by rw [Tryz.ntmps82]; simp) (by rw [Tryz.ntmps82]; decide) ?_
  cases h1 : (k == [99, 104, 101, 99, 107, 98, 111, 120]) <;> cases h2 : (k == [114, 97, 100, 105, 111])
  all_goals
    simp -dsimp -implicitDefEqProofs (disch := omega) only [↓vcOps_sp 5, VCA, Nat.reduceEqDiff, ↓reduceIte, reduceCtorEq, exists_eq_right, c82, h1, h2]
    repeat' (first | ((with_reducible refine brC (fun _ => ?_) fun _ => ?_) <;> try (exfalso; omega)) | (with_reducible refine And.intro ?_ ?_; · omega) | simp -dsimp -implicitDefEqProofs (disch := omega) only [↓vcOps_sp 5, ↓vcD_sp 5, VCA, pg_gl, ↓upd_none, Nat.reduceEqDiff, Nat.reduceBEq, Nat.reduceAdd, Nat.reduceSub, Nat.reduceMul, Nat.reduceLT, Nat.reduceLeDiff, ↓reduceIte, reduceCtorEq, rsOf, rootsOf, SOp.rd, SI.rd, SX.rd, rdL, rdO, rdP, okParts, eqCells, okEqCells, fillA, okFill, setAt, implies_true, forall_const, forall_eq, ne_eq, exists_eq_right_right, exists_eq_right, exists_eq_left, exists_eq_left', rootL, eInt, eStr, eAttr, lit_eq, h1, h2])
  all_goals first | exact Sub.refl _ | exact ⟨Sub.refl _, rfl⟩ | trace_state
def k37_1 : List UInt8 := [32, 104, 105, 100, 100, 101, 110, 32, 116, 101, 120, 116, 32, 110, 117, 109, 98, 101, 114, 32, 99, 104, 101, 99, 107, 98, 111, 120, 32, 114, 97, 100, 105, 111, 32, 115, 117, 98, 109, 105, 116, 32, 114, 101, 115, 101, 116, 32, 98, 117, 116, 116, 111, 110, 32, 105, 109, 97, 103, 101, 32, 102, 105, 108, 101, 32]
def c37 : SFun := ⟨.seq (.reg [⟨some 4, .mv (.c (.str [])), none⟩]) (.seq (.seq (.reg [⟨some 6, .mv (.t 0), none⟩, ⟨some 7, .fldA 0 (.t 6), none⟩, ⟨some 8, .fldA 0 (.t 7), none⟩, ⟨some 9, .fldA 0 (.t 8), none⟩, ⟨some 10, .ld 1 false (.t 9), none⟩, ⟨some 11, .mv (.t 1), none⟩, ⟨some 12, .idxA 6 (.t 10) (.t 11), none⟩, ⟨some 13, .fldA 1 (.t 12), none⟩, ⟨some 14, .ld 1 false (.t 13), none⟩, ⟨some 15, .bin .neq (.t 14) (.c (.str [105, 110, 112, 117, 116])), none⟩]) (.cond (.t 15) (.seq (.reg [⟨some 16, .mv (.t 0), none⟩, ⟨some 17, .fldA 0 (.t 16), none⟩, ⟨some 18, .fldA 0 (.t 17), none⟩, ⟨some 19, .fldA 0 (.t 18), none⟩, ⟨some 20, .ld 1 false (.t 19), none⟩, ⟨some 21, .mv (.t 1), none⟩, ⟨some 22, .idxA 6 (.t 20) (.t 21), none⟩, ⟨some 23, .fldA 1 (.t 22), none⟩, ⟨some 24, .ld 1 false (.t 23), none⟩, ⟨some 4, .mv (.t 24), none⟩]) .ret) .skip)) (.seq (.reg [⟨some 25, .mv (.t 0), none⟩, ⟨some 26, .mv (.t 1), none⟩, ⟨some 27, .pcall 38 [.t 25, .t 26, .c (.str [116, 121, 112, 101])], none⟩, ⟨some 5, .mv (.t 27), none⟩]) (.seq (.seq (.reg [⟨some 28, .mv (.t 5), none⟩, ⟨some 29, .lenS (.t 28), none⟩, ⟨some 30, .bin .gtr (.t 29) (.c (.int .i64 8)), none⟩, ⟨some 31, .mv (.t 30), none⟩, ⟨some 32, .mv (.t 5), some (31, false)⟩, ⟨some 33, .pcall 83 [.t 32], some (31, false)⟩, ⟨some 34, .pcall 34 [.t 33, .c (.str k37_1)], some (31, false)⟩, ⟨some 35, .un .not (.t 34), some (31, false)⟩, ⟨some 36, .pick (.t 31) (.c (.bool true)) (.t 35), none⟩]) (.cond (.t 36) (.seq (.reg [⟨some 4, .mv (.c (.str [116, 101, 120, 116])), none⟩]) .ret) .skip)) (.seq (.reg [⟨some 37, .mv (.t 5), none⟩, ⟨some 38, .pcall 83 [.t 37], none⟩, ⟨some 4, .mv (.t 38), none⟩]) .ret)))), [.tmp 4]⟩
theorem hc37 : toSF Tryz.prog {pure := [38, 83, 34]} Tryz.f37 = some c37 := by kernel_rfl
theorem hn37 : (Tryz.f37.name == "runtime.NumGoroutine") = false := by kernel_rfl
theorem kind_ok (hG : MaxLenOK G) (hT : TabsOK G) (d : HDoc) (V : DV d) (sm : DocSm d) (o : List Int) (n : Int) (hn : inD d n) : PCalls (Pg G) 37 [fA d o, aInt n] (.str (kindM d n)) := fun h => by
  have hl := V.len
  have n0 := hn.1
  have n1 := hn.2
  have e0 : nth d.nodes n.toNat = nd d n := rfl
  have c2 := fattr_ok (G := G) d sm o n hn [116, 121, 112, 101]
  have al := attD_len V hn [116, 121, 112, 101]
  have fE : fA d o = .pin [sl eNode d.nodes, .bool d.quirks, sl eInt o] := rfl
  rw [fE] at c2
  unfold kindM
  by_cases hi : (nd d n).name = [105, 110, 112, 117, 116]
  · have bi : ((nd d n).name != [105, 110, 112, 117, 116]) = false := by simpa using hi
    rw [if_pos hi]
    obtain ⟨v, hv⟩ : ∃ v, attD d n [116, 121, 112, 101] = v := ⟨_, rfl⟩
    rw [hv] at c2 al ⊢
    have ht := typ_is v
    have cL := flower_ok (G := G) hT v (by omega)
    have ll := lowU_len v
    have ek : k37_1 = 32 :: (typS ++ [32]) := by decide +kernel
    have cO : PCalls (Pg G) 34 [.str (lowU v), .str (32 :: (typS ++ [32]))] (.bool (inW (lowU v) typS)) := one_in hG (lowU v) typS (by decide +kernel) (by omega) (by decide +kernel)
    by_cases h8 : v.length ≤ 8
    · have d8 : decide ((8 : Int) < (v.length : Int)) = false := decide_eq_false (by omega)
      cases hw : inW (lowU v) typS
      · rw [hw] at cO ht
        rw [if_neg (by simp)] at ht
        rw [← ht]
        refine dcalls_of_vc Tryz.func37 hn37 hc37 (by rw [Tryz.ntmps37]; simp) (by rw [Tryz.ntmps37]; decide) ?_
        simp -dsimp -implicitDefEqProofs (disch := omega) only [VCA, Nat.reduceEqDiff, Nat.reduceAdd, Nat.reduceLeDiff, ↓reduceIte, reduceCtorEq, c37, fA, eNode, e0, bi, ek]
        refine ⟨by omega, ?_⟩
        repeat' (first | ((with_reducible refine brC (fun _ => ?_) fun _ => ?_) <;> try (exfalso; omega)) | (with_reducible apply pcallE.of; · exact c2) | (with_reducible apply pcallE.of; · exact cL) | (with_reducible apply pcallE.of; · exact cO) | (with_reducible refine And.intro ?_ ?_; · omega) | simp -dsimp -implicitDefEqProofs (disch := omega) only [↓vcOps_sp 31, VCA, Nat.reduceEqDiff, ↓reduceIte, exists_eq_right, d8])
        all_goals first | exact Sub.refl _ | exact ⟨Sub.refl _, rfl⟩ | trace_state
      · rw [hw] at cO ht
        rw [if_pos ⟨h8, rfl⟩] at ht
        rw [← ht]
        refine dcalls_of_vc Tryz.func37 hn37 hc37 (by rw [Tryz.ntmps37]; simp) (by rw [Tryz.ntmps37]; decide) ?_
        simp -dsimp -implicitDefEqProofs (disch := omega) only [VCA, Nat.reduceEqDiff, Nat.reduceAdd, Nat.reduceLeDiff, ↓reduceIte, reduceCtorEq, c37, fA, eNode, e0, bi, ek]
        refine ⟨by omega, ?_⟩
        repeat' (first | ((with_reducible refine brC (fun _ => ?_) fun _ => ?_) <;> try (exfalso; omega)) | (with_reducible apply pcallE.of; · exact c2) | (with_reducible apply pcallE.of; · exact cL) | (with_reducible apply pcallE.of; · exact cO) | (with_reducible refine And.intro ?_ ?_; · omega) | simp -dsimp -implicitDefEqProofs (disch := omega) only [↓vcOps_sp 31, VCA, Nat.reduceEqDiff, ↓reduceIte, exists_eq_right, d8])
        all_goals first | exact Sub.refl _ | exact ⟨Sub.refl _, rfl⟩ | trace_state
    · have d8 : decide ((8 : Int) < (v.length : Int)) = true := decide_eq_true (by omega)
      rw [if_neg (fun q => h8 q.1)] at ht
      rw [← ht]
      refine dcalls_of_vc Tryz.func37 hn37 hc37 (by rw [Tryz.ntmps37]; simp) (by rw [Tryz.ntmps37]; decide) ?_
      simp -dsimp -implicitDefEqProofs (disch := omega) only [VCA, Nat.reduceEqDiff, Nat.reduceAdd, Nat.reduceLeDiff, ↓reduceIte, reduceCtorEq, c37, fA, eNode, e0, bi, ek]
      refine ⟨by omega, ?_⟩
      repeat' (first | ((with_reducible refine brC (fun _ => ?_) fun _ => ?_) <;> try (exfalso; omega)) | (with_reducible apply pcallE.of; · exact c2) | (with_reducible refine And.intro ?_ ?_; · omega) | simp -dsimp -implicitDefEqProofs (disch := omega) only [↓vcOps_sp 31, VCA, Nat.reduceEqDiff, ↓reduceIte, exists_eq_right, d8])
      all_goals first | exact Sub.refl _ | exact ⟨Sub.refl _, rfl⟩ | trace_state
  · have bi : ((nd d n).name != [105, 110, 112, 117, 116]) = true := by simpa using hi
    rw [if_neg hi]
    refine dcalls_of_vc Tryz.func37 hn37 hc37 (by rw [Tryz.ntmps37]; simp) (by rw [Tryz.ntmps37]; decide) ?_
    simp -dsimp -implicitDefEqProofs (disch := omega) only [VCA, Nat.reduceEqDiff, Nat.reduceAdd, Nat.reduceLeDiff, ↓reduceIte, reduceCtorEq, exists_eq_right, c37, fA, eNode, e0, bi]
    all_goals first | exact ⟨by omega, by omega, Sub.refl _⟩ | trace_state
def c85 : SFun := ⟨.seq (.reg [⟨some 4, .mv (.c .emp), none⟩]) (.seq (.reg [⟨some 10, .mv (.t 0), none⟩, ⟨some 11, .mv (.t 1), none⟩, ⟨some 12, .pcall 117 [.t 10, .t 11, .c (.str [111, 112, 116, 105, 111, 110])], none⟩, ⟨some 5, .mv (.t 12), none⟩]) (.seq (.seq (.reg [⟨some 13, .mv (.t 5), none⟩, ⟨some 14, .len (.t 13), none⟩, ⟨some 15, .mv (.c (.int .i64 0)), none⟩]) (.block 0 (.loop (.seq (.reg [⟨some 16, .bin .lss (.t 15) (.t 14), none⟩]) (.seq (.cond (.t 16) .skip (.exit 0)) (.seq (.block 1 (.seq (.reg [⟨some 17, .idxA 1 (.t 13) (.t 15), none⟩, ⟨some 18, .ld 1 false (.t 17), none⟩, ⟨some 7, .mv (.t 18), none⟩]) (.seq (.reg [⟨some 19, .mv (.t 0), none⟩, ⟨some 20, .mv (.t 7), none⟩, ⟨some 21, .pcall 78 [.t 19, .t 20, .c (.str [115, 101, 108, 101, 99, 116, 101, 100])], none⟩]) (.cond (.t 21) (.reg [⟨some 22, .mv (.t 4), none⟩, ⟨some 23, .mv (.t 7), none⟩, ⟨some 24, .bldF 3 1 [.t 23], none⟩, ⟨some 25, .app 3 1 8 (.t 22) (.t 24), none⟩, ⟨some 4, .mv (.t 25), none⟩]) .skip)))) (.reg [⟨some 26, .bin .add (.t 15) (.c (.int .i64 1)), none⟩, ⟨some 15, .mv (.t 26), none⟩]))))))) (.seq (.seq (.reg [⟨some 27, .mv (.t 4), none⟩, ⟨some 28, .len (.t 27), none⟩, ⟨some 29, .bin .gtr (.t 28) (.c (.int .i64 0)), none⟩, ⟨some 30, .mv (.t 29), none⟩, ⟨some 31, .mv (.t 0), some (30, false)⟩, ⟨some 32, .mv (.t 1), some (30, false)⟩, ⟨some 33, .pcall 78 [.t 31, .t 32, .c (.str [109, 117, 108, 116, 105, 112, 108, 101])], some (30, false)⟩, ⟨some 34, .pick (.t 30) (.c (.bool true)) (.t 33), none⟩]) (.cond (.t 34) (.seq (.reg [⟨some 35, .mv (.t 4), none⟩, ⟨some 4, .mv (.t 35), none⟩]) .ret) .skip)) (.seq (.seq (.reg [⟨some 36, .mv (.t 5), none⟩, ⟨some 37, .len (.t 36), none⟩, ⟨some 38, .mv (.c (.int .i64 0)), none⟩]) (.block 2 (.loop (.seq (.reg [⟨some 39, .bin .lss (.t 38) (.t 37), none⟩]) (.seq (.cond (.t 39) .skip (.exit 2)) (.seq (.block 3 (.seq (.reg [⟨some 40, .idxA 1 (.t 36) (.t 38), none⟩, ⟨some 41, .ld 1 false (.t 40), none⟩, ⟨some 9, .mv (.t 41), none⟩]) (.seq (.reg [⟨some 42, .mv (.t 0), none⟩, ⟨some 43, .mv (.t 9), none⟩, ⟨some 44, .pcall 78 [.t 42, .t 43, .c (.str [100, 105, 115, 97, 98, 108, 101, 100])], none⟩, ⟨some 45, .un .not (.t 44), none⟩]) (.cond (.t 45) (.seq (.reg [⟨some 46, .mv (.t 9), none⟩, ⟨some 47, .bldF 3 1 [.t 46], none⟩, ⟨some 4, .mv (.t 47), none⟩]) .ret) .skip)))) (.reg [⟨some 48, .bin .add (.t 38) (.c (.int .i64 1)), none⟩, ⟨some 38, .mv (.t 48), none⟩]))))))) (.seq (.reg [⟨some 4, .mv (.c .emp), none⟩]) .ret))))), [.tmp 4]⟩
theorem hc85 : toSF Tryz.prog {pure := [117, 78]} Tryz.f85 = some c85 := by kernel_rfl
theorem hn85 : (Tryz.f85.name == "runtime.NumGoroutine") = false := by kernel_rfl
theorem chosen_ok (d : HDoc) (V : DV d) (sm : DocSm d) (o : List Int) (n : Int) (hn : inD d n) : PCalls (Pg G) 85 [fA d o, aInt n] (sl eInt (chosM d n)) := PCalls.outV fun h => by
  have cB := fbelow_ok (G := G) d V sm o [111, 112, 116, 105, 111, 110] n hn
  have cM := fhas_ok (G := G) d sm o n hn [109, 117, 108, 116, 105, 112, 108, 101]
  have gS := fun x hx => fhas_ok (G := G) d sm o x hx [115, 101, 108, 101, 99, 116, 101, 100]
  have gD := fun x hx => fhas_ok (G := G) d sm o x hx [100, 105, 115, 97, 98, 108, 101, 100]
  have bl := belO_len V hn (nm := [111, 112, 116, 105, 111, 110])
  have bi := belO_in V hn (nm := [111, 112, 116, 105, 111, 110])
  obtain ⟨F, hF⟩ : ∃ F, fA d o = F := ⟨_, rfl⟩
  rw [hF] at cB cM gS gD
  unfold chosM
  generalize belO d [111, 112, 116, 105, 111, 110] n = L at *
  refine dcalls_of_vc Tryz.func85 hn85 hc85 (by rw [Tryz.ntmps85]; simp) (by rw [Tryz.ntmps85]; decide) ?_
  simp -dsimp -implicitDefEqProofs (disch := omega) only [VCA, Nat.reduceEqDiff, ↓reduceIte, reduceCtorEq, ne_eq, c85, hF]
  repeat' (first | ((with_reducible refine brC (fun _ => ?_) fun _ => ?_) <;> try (exfalso; omega)) | (with_reducible apply pcallE.of; · exact cB) | (with_reducible refine And.intro ?_ ?_; · omega) | simp -dsimp -implicitDefEqProofs (disch := omega) only [VCA, ↓reduceIte])
  refine LoopVC.intro (fun m e h' => ∃ k : Nat, k ≤ L.length ∧ m = L.length - k ∧ e 0 = F ∧ e 1 = aInt n ∧ e 5 = sl eInt L ∧ e 13 = sl eInt L ∧ e 14 = aInt L.length ∧ e 15 = aInt k ∧ Acc h 3 1 (((L.take k).filter fun k => hasA d k [115, 101, 108, 101, 99, 116, 101, 100]).map eInt) (e 4) h' ∧ Sim.Sub h h') L.length
    (by exact ⟨0, by omega, by omega, rfl, rfl, rfl, rfl, rfl, rfl, Acc.nil, Sub.refl _⟩) ?_
  rintro m e h' ⟨k, hk, rfl, e0, e1, e5, e13, e14, e15, A, S⟩
  have fl : ((L.take k).filter fun k => hasA d k [115, 101, 108, 101, 99, 116, 101, 100]).length ≤ 200 := by
    have := List.length_filter_le (fun k => hasA d k [115, 101, 108, 101, 99, 116, 101, 100]) (L.take k)
    rw [List.length_take] at this; omega
  by_cases hlt : k < L.length
  · have d1 : decide ((k : Int) < (L.length : Int)) = true := decide_eq_true (by omega)
    have hx := bi _ (nth_mem' hlt)
    have tk : (L.take (k + 1)).filter (fun k => hasA d k [115, 101, 108, 101, 99, 116, 101, 100]) = (L.take k).filter (fun k => hasA d k [115, 101, 108, 101, 99, 116, 101, 100]) ++ if hasA d (nth L k) [115, 101, 108, 101, 99, 116, 101, 100] = true then [nth L k] else [] := by
      rw [take_snoc hlt, List.filter_append, List.filter_cons, List.filter_nil]
    obtain ⟨x, hxx⟩ : ∃ x, nth L k = x := ⟨_, rfl⟩
    rw [hxx] at hx tk
    have g := gS x hx
    cases hz : hasA d x [115, 101, 108, 101, 99, 116, 101, 100]
    · rw [hz] at g
      rw [hz, if_neg (by simp), List.append_nil] at tk
      repeat' (first | ((with_reducible refine brC (fun _ => ?_) fun _ => ?_) <;> try (exfalso; omega)) | (with_reducible apply pcallE.of; · exact g) | (with_reducible refine And.intro ?_ ?_; · omega) | simp -dsimp -implicitDefEqProofs (disch := omega) only [VCA, Nat.reduceEqDiff, ↓reduceIte, reduceCtorEq, eInt, e0, e1, e5, e13, e14, e15, d1, hxx])
      all_goals first | exact ⟨_, by omega, k + 1, by omega, rfl, by omega, by rw [tk]; exact A, S⟩ | trace_state
    · rw [hz] at g
      rw [hz, if_pos rfl] at tk
      repeat' (first | ((with_reducible refine brC (fun _ => ?_) fun _ => ?_) <;> try (exfalso; omega)) | (with_reducible apply pcallE.of; · exact g) | (with_reducible refine And.intro ?_ ?_; · omega) | simp -dsimp -implicitDefEqProofs (disch := omega) only [VCA, Nat.reduceEqDiff, ↓reduceIte, reduceCtorEq, okParts, forall_eq, exists_eq_left, eInt, e0, e13, e14, e15, d1, hxx])
      refine A.app S (by simp only [List.length_map, List.length_cons, List.length_nil]; omega) (by simp only [List.length_map, List.length_cons, List.length_nil]; omega) fun a' h'' A' S' => ?_
      simp -dsimp -implicitDefEqProofs (disch := omega) only [VCA, Nat.reduceEqDiff, ↓reduceIte, reduceCtorEq, e0, e1, e5, e13, e14, e15]
      refine ⟨_, by omega, k + 1, by omega, rfl, by omega, ?_, S'⟩
      rw [tk]
      simpa [eInt] using A'
  · obtain rfl : k = L.length := by omega
    have d1 : decide ((L.length : Int) < (L.length : Int)) = false := decide_eq_false (by omega)
    rw [List.take_length] at A fl
    obtain ⟨W, hW⟩ : ∃ W, (L.filter fun k => hasA d k [115, 101, 108, 101, 99, 116, 101, 100]) = W := ⟨_, rfl⟩
    rw [hW] at A fl ⊢
    have aL := A.len
    simp only [List.length_map] at aL
    have hv : Vw (newH h h') (e 4) (sl eInt W) := (OwnS.of_acc A).1.vwN fun r hr => (OwnS.of_acc A).2.1 r hr
    by_cases hw : W = []
    · have dw : decide ((0 : Int) < (W.length : Int)) = false := decide_eq_false (by rw [hw]; simp)
      cases hm : hasA d n [109, 117, 108, 116, 105, 112, 108, 101]
      · rw [hm] at cM
        rw [if_neg (by simp [hw])]
        repeat' (first | ((with_reducible refine brC (fun _ => ?_) fun _ => ?_) <;> try (exfalso; omega)) | (with_reducible apply pcallE.of; · exact cM) | (with_reducible refine And.intro ?_ ?_; · omega) | simp -dsimp -implicitDefEqProofs (disch := omega) only [↓vcOps_sp 30, VCA, Nat.reduceEqDiff, ↓reduceIte, reduceCtorEq, e0, e1, e5, e14, e15, d1, aL.1, aL.2, dw])
        refine LoopVC.intro (fun m e h2 => ∃ k : Nat, k ≤ L.length ∧ m = L.length - k ∧ e 0 = F ∧ e 36 = sl eInt L ∧ e 37 = aInt L.length ∧ e 38 = aInt k ∧ h2 = h' ∧ (L.take k).filter (fun k => !hasA d k [100, 105, 115, 97, 98, 108, 101, 100]) = []) L.length
          (by exact ⟨0, by omega, by omega, e0, rfl, rfl, rfl, rfl, rfl⟩) ?_
        rintro m e h2 ⟨k, hk, rfl, e0, e36, e37, e38, rfl, hf⟩
        by_cases hlt : k < L.length
        · have d1 : decide ((k : Int) < (L.length : Int)) = true := decide_eq_true (by omega)
          have hx := bi _ (nth_mem' hlt)
          have tk : (L.take (k + 1)).filter (fun k => !hasA d k [100, 105, 115, 97, 98, 108, 101, 100]) = if hasA d (nth L k) [100, 105, 115, 97, 98, 108, 101, 100] = true then [] else [nth L k] := by
            rw [take_snoc hlt, List.filter_append, hf, List.filter_cons, List.filter_nil]
            cases hasA d (nth L k) [100, 105, 115, 97, 98, 108, 101, 100] <;> rfl
          obtain ⟨x, hxx⟩ : ∃ x, nth L k = x := ⟨_, rfl⟩
          rw [hxx] at hx tk
          have g := gD x hx
          cases hz : hasA d x [100, 105, 115, 97, 98, 108, 101, 100]
          · rw [hz] at g tk
            have hr : (L.filter fun k => !hasA d k [100, 105, 115, 97, 98, 108, 101, 100]).take 1 = [x] := by
              rw [if_neg (by simp)] at tk
              rw [← List.take_append_drop (k + 1) L, List.filter_append, tk]; rfl
            rw [hr]
            repeat' (first | ((with_reducible refine brC (fun _ => ?_) fun _ => ?_) <;> try (exfalso; omega)) | (with_reducible apply pcallE.of; · exact g) | (with_reducible refine And.intro ?_ ?_; · omega) | simp -dsimp -implicitDefEqProofs (disch := omega) only [VCA, Nat.reduceEqDiff, ↓reduceIte, reduceCtorEq, okParts, eInt, e0, e36, e37, e38, d1, hxx])
            all_goals first | exact ⟨_, Sub.refl _, S, .one _ _ (.refl _)⟩ | exact ⟨S, .one _ _ (.refl _)⟩ | trace_state
          · rw [hz] at g tk
            rw [if_pos rfl] at tk
            repeat' (first | ((with_reducible refine brC (fun _ => ?_) fun _ => ?_) <;> try (exfalso; omega)) | (with_reducible apply pcallE.of; · exact g) | (with_reducible refine And.intro ?_ ?_; · omega) | simp -dsimp -implicitDefEqProofs (disch := omega) only [VCA, Nat.reduceEqDiff, ↓reduceIte, reduceCtorEq, eInt, e0, e36, e37, e38, d1, hxx])
            all_goals first | exact ⟨_, by omega, k + 1, by omega, rfl, by omega, tk⟩ | trace_state
        · obtain rfl : k = L.length := by omega
          have d1 : decide ((L.length : Int) < (L.length : Int)) = false := decide_eq_false (by omega)
          rw [List.take_length] at hf
          rw [hf]
          repeat' (first | ((with_reducible refine brC (fun _ => ?_) fun _ => ?_) <;> try (exfalso; omega)) | (with_reducible refine And.intro ?_ ?_; · omega) | simp -dsimp -implicitDefEqProofs (disch := omega) only [VCA, ↓reduceIte, e37, e38, d1])
          all_goals first | exact ⟨_, Sub.refl _, S, .one _ _ .emp⟩ | exact ⟨S, .one _ _ .emp⟩ | trace_state
      · rw [hm] at cM
        rw [if_pos (.inr rfl)]
        repeat' (first | ((with_reducible refine brC (fun _ => ?_) fun _ => ?_) <;> try (exfalso; omega)) | (with_reducible apply pcallE.of; · exact cM) | (with_reducible refine And.intro ?_ ?_; · omega) | simp -dsimp -implicitDefEqProofs (disch := omega) only [↓vcOps_sp 30, VCA, Nat.reduceEqDiff, ↓reduceIte, reduceCtorEq, e0, e1, e14, e15, d1, aL.1, aL.2, dw])
        all_goals first | exact ⟨_, Sub.refl _, S, .one _ _ hv⟩ | exact ⟨S, .one _ _ hv⟩ | trace_state
    · have dw : decide ((0 : Int) < (W.length : Int)) = true := decide_eq_true (by have := List.length_pos_iff.2 hw; omega)
      rw [if_pos (.inl hw)]
      repeat' (first | ((with_reducible refine brC (fun _ => ?_) fun _ => ?_) <;> try (exfalso; omega)) | (with_reducible refine And.intro ?_ ?_; · omega) | simp -dsimp -implicitDefEqProofs (disch := omega) only [↓vcOps_sp 30, VCA, Nat.reduceEqDiff, ↓reduceIte, e14, e15, d1, aL.1, aL.2, dw])
      all_goals first | exact ⟨_, Sub.refl _, S, .one _ _ hv⟩ | exact ⟨S, .one _ _ hv⟩ | trace_state
def c51 : SFun := ⟨.seq (.reg [⟨some 4, .mv (.c (.str [])), none⟩]) (.seq (.seq (.reg [⟨some 7, .mv (.t 0), none⟩, ⟨some 8, .mv (.t 1), none⟩, ⟨some 9, .pcall 37 [.t 7, .t 8], none⟩, ⟨some 5, .mv (.t 9), none⟩]) (.block 0 (.seq (.reg [⟨some 11, .mv (.t 0), none⟩, ⟨some 12, .fldA 0 (.t 11), none⟩, ⟨some 13, .fldA 0 (.t 12), none⟩, ⟨some 14, .fldA 0 (.t 13), none⟩, ⟨some 15, .ld 1 false (.t 14), none⟩, ⟨some 16, .mv (.t 1), none⟩, ⟨some 17, .idxA 6 (.t 15) (.t 16), none⟩, ⟨some 18, .fldA 1 (.t 17), none⟩, ⟨some 19, .ld 1 false (.t 18), none⟩, ⟨some 20, .bin .eql (.t 19) (.c (.str [116, 101, 120, 116, 97, 114, 101, 97])), none⟩, ⟨some 10, .mv (.t 20), none⟩]) (.cond (.t 10) (.seq (.reg [⟨some 21, .mv (.t 0), none⟩, ⟨some 22, .mv (.t 1), none⟩, ⟨some 23, .pcall 92 [.t 21, .t 22], none⟩, ⟨some 4, .mv (.t 23), none⟩]) .ret) (.seq (.reg [⟨some 25, .mv (.t 0), none⟩, ⟨some 26, .fldA 0 (.t 25), none⟩, ⟨some 27, .fldA 0 (.t 26), none⟩, ⟨some 28, .fldA 0 (.t 27), none⟩, ⟨some 29, .ld 1 false (.t 28), none⟩, ⟨some 30, .mv (.t 1), none⟩, ⟨some 31, .idxA 6 (.t 29) (.t 30), none⟩, ⟨some 32, .fldA 1 (.t 31), none⟩, ⟨some 33, .ld 1 false (.t 32), none⟩, ⟨some 34, .bin .eql (.t 33) (.c (.str [115, 101, 108, 101, 99, 116])), none⟩, ⟨some 24, .mv (.t 34), none⟩]) (.cond (.t 24) (.seq (.seq (.reg [⟨some 35, .mv (.t 0), none⟩, ⟨some 36, .mv (.t 1), none⟩, ⟨some 37, .pcall 85 [.t 35, .t 36], none⟩, ⟨some 6, .mv (.t 37), none⟩]) (.seq (.reg [⟨some 38, .mv (.t 6), none⟩, ⟨some 39, .len (.t 38), none⟩, ⟨some 40, .bin .gtr (.t 39) (.c (.int .i64 0)), none⟩]) (.cond (.t 40) (.seq (.reg [⟨some 41, .mv (.t 0), none⟩, ⟨some 42, .mv (.t 6), none⟩, ⟨some 43, .mv (.t 6), none⟩, ⟨some 44, .len (.t 43), none⟩, ⟨some 45, .bin .sub (.t 44) (.c (.int .i64 1)), none⟩, ⟨some 46, .idxA 1 (.t 42) (.t 45), none⟩, ⟨some 47, .ld 1 false (.t 46), none⟩, ⟨some 48, .pcall 86 [.t 41, .t 47], none⟩, ⟨some 4, .mv (.t 48), none⟩]) .ret) .skip))) (.seq (.reg [⟨some 4, .mv (.c (.str [])), none⟩]) .ret)) (.seq (.reg [⟨some 50, .mv (.t 5), none⟩, ⟨some 51, .pcall 82 [.t 50], none⟩, ⟨some 52, .mv (.t 51), none⟩, ⟨some 53, .mv (.t 0), some (52, true)⟩, ⟨some 54, .mv (.t 1), some (52, true)⟩, ⟨some 55, .pcall 78 [.t 53, .t 54, .c (.str [118, 97, 108, 117, 101])], some (52, true)⟩, ⟨some 56, .un .not (.t 55), some (52, true)⟩, ⟨some 57, .pick (.t 52) (.t 56) (.c (.bool false)), none⟩, ⟨some 49, .mv (.t 57), none⟩]) (.cond (.t 49) (.seq (.reg [⟨some 4, .mv (.c (.str [111, 110])), none⟩]) .ret) .skip)))))))) (.seq (.reg [⟨some 58, .mv (.t 0), none⟩, ⟨some 59, .mv (.t 1), none⟩, ⟨some 60, .pcall 38 [.t 58, .t 59, .c (.str [118, 97, 108, 117, 101])], none⟩, ⟨some 4, .mv (.t 60), none⟩]) .ret)), [.tmp 4]⟩
theorem hc51 : toSF Tryz.prog {pure := [37, 92, 85, 86, 82, 78, 38]} Tryz.f51 = some c51 := by kernel_rfl
theorem hn51 : (Tryz.f51.name == "runtime.NumGoroutine") = false := by kernel_rfl
theorem value_ok (hG : MaxLenOK G) (hT : TabsOK G) (d : HDoc) (V : DV d) (sm : DocSm d) (o : List Int) (n : Int) (hn : inD d n) : PCalls (Pg G) 51 [fA d o, aInt n] (.str (valM d n)) := fun h => by
  have hl := V.len
  have n0 := hn.1
  have n1 := hn.2
  have e0 : nth d.nodes n.toNat = nd d n := rfl
  have cK := kind_ok (G := G) hG hT d V sm o n hn
  have cX := ftext_ok (G := G) d V sm o n hn
  have cC := chosen_ok (G := G) d V sm o n hn
  have cH := fhas_ok (G := G) d sm o n hn [118, 97, 108, 117, 101]
  have cA := fattr_ok (G := G) d sm o n hn [118, 97, 108, 117, 101]
  have cT := ticked_ok (G := G) (kindM d n)
  have ci := chosM_in V hn
  have cl := chosM_len V hn
  have gO := fun x hx => option_ok (G := G) d V sm o x hx
  have fE : fA d o = .pin [sl eNode d.nodes, .bool d.quirks, sl eInt o] := rfl
  rw [fE] at cK cX cC cH cA gO
  unfold valM
  generalize chosM d n = L at *
  generalize kindM d n = kd at *
  by_cases h1 : (nd d n).name = [116, 101, 120, 116, 97, 114, 101, 97]
  · have b1 : ((nd d n).name == [116, 101, 120, 116, 97, 114, 101, 97]) = true := by simpa using h1
    rw [if_pos h1]
    refine dcalls_of_vc Tryz.func51 hn51 hc51 (by rw [Tryz.ntmps51]; simp) (by rw [Tryz.ntmps51]; decide) ?_
    simp -dsimp -implicitDefEqProofs (disch := omega) only [VCA, Nat.reduceEqDiff, ↓reduceIte, reduceCtorEq, c51, fA]
    repeat' (first | ((with_reducible refine brC (fun _ => ?_) fun _ => ?_) <;> try (exfalso; omega)) | (with_reducible apply pcallE.of; · exact cK) | (with_reducible apply pcallE.of; · exact cX) | (with_reducible refine And.intro ?_ ?_; · omega) | simp -dsimp -implicitDefEqProofs (disch := omega) only [VCA, Nat.reduceEqDiff, Nat.reduceAdd, Nat.reduceLeDiff, ↓reduceIte, reduceCtorEq, exists_eq_right, eNode, e0, b1])
    all_goals first | exact Sub.refl _ | exact ⟨by omega, by omega, Sub.refl _⟩ | trace_state
  · have b1 : ((nd d n).name == [116, 101, 120, 116, 97, 114, 101, 97]) = false := by simpa using h1
    rw [if_neg h1]
    by_cases h2 : (nd d n).name = [115, 101, 108, 101, 99, 116]
    · have b2 : ((nd d n).name == [115, 101, 108, 101, 99, 116]) = true := by simpa using h2
      rw [if_pos h2]
      by_cases h3 : L = []
      · have d3 : decide ((0 : Int) < (L.length : Int)) = false := decide_eq_false (by rw [h3]; simp)
        rw [if_pos h3]
        refine dcalls_of_vc Tryz.func51 hn51 hc51 (by rw [Tryz.ntmps51]; simp) (by rw [Tryz.ntmps51]; decide) ?_
        simp -dsimp -implicitDefEqProofs (disch := omega) only [VCA, Nat.reduceEqDiff, ↓reduceIte, reduceCtorEq, c51, fA]
        repeat' (first | ((with_reducible refine brC (fun _ => ?_) fun _ => ?_) <;> try (exfalso; omega)) | (with_reducible apply pcallE.of; · exact cK) | (with_reducible apply pcallE.of; · exact cC) | (with_reducible refine And.intro ?_ ?_; · omega) | simp -dsimp -implicitDefEqProofs (disch := omega) only [VCA, Nat.reduceEqDiff, Nat.reduceAdd, Nat.reduceLeDiff, ↓reduceIte, reduceCtorEq, exists_eq_right, eNode, e0, b1, b2, d3])
        all_goals first | exact Sub.refl _ | exact ⟨by omega, by omega, Sub.refl _⟩ | trace_state
      · have hp := List.length_pos_iff.2 h3
        have d3 : decide ((0 : Int) < (L.length : Int)) = true := decide_eq_true (by omega)
        have hlt : L.length - 1 < L.length := by omega
        have eL : ((L.length : Int) - 1).toNat = L.length - 1 := by omega
        have g := gO _ (ci _ (nth_mem' hlt))
        rw [if_neg h3]
        obtain ⟨x, hxx⟩ : ∃ x, nth L (L.length - 1) = x := ⟨_, rfl⟩
        rw [hxx] at g ⊢
        refine dcalls_of_vc Tryz.func51 hn51 hc51 (by rw [Tryz.ntmps51]; simp) (by rw [Tryz.ntmps51]; decide) ?_
        simp -dsimp -implicitDefEqProofs (disch := omega) only [VCA, Nat.reduceEqDiff, ↓reduceIte, reduceCtorEq, c51, fA]
        repeat' (first | ((with_reducible refine brC (fun _ => ?_) fun _ => ?_) <;> try (exfalso; omega)) | (with_reducible apply pcallE.of; · exact cK) | (with_reducible apply pcallE.of; · exact cC) | (with_reducible apply pcallE.of; · exact g) | (with_reducible refine And.intro ?_ ?_; · omega) | simp -dsimp -implicitDefEqProofs (disch := omega) only [VCA, Nat.reduceEqDiff, Nat.reduceAdd, Nat.reduceLeDiff, ↓reduceIte, reduceCtorEq, exists_eq_right, eInt, eNode, e0, b1, b2, d3, eL, hxx])
        all_goals first | exact Sub.refl _ | exact ⟨by omega, by omega, Sub.refl _⟩ | trace_state
    · have b2 : ((nd d n).name == [115, 101, 108, 101, 99, 116]) = false := by simpa using h2
      rw [if_neg h2]
      cases h3 : tickM kd
      · rw [h3] at cT
        rw [if_neg (by simp)]
        refine dcalls_of_vc Tryz.func51 hn51 hc51 (by rw [Tryz.ntmps51]; simp) (by rw [Tryz.ntmps51]; decide) ?_
        simp -dsimp -implicitDefEqProofs (disch := omega) only [VCA, Nat.reduceEqDiff, ↓reduceIte, reduceCtorEq, c51, fA]
        repeat' (first | ((with_reducible refine brC (fun _ => ?_) fun _ => ?_) <;> try (exfalso; omega)) | (with_reducible apply pcallE.of; · exact cK) | (with_reducible apply pcallE.of; · exact cT) | (with_reducible apply pcallE.of; · exact cA) | (with_reducible refine And.intro ?_ ?_; · omega) | simp -dsimp -implicitDefEqProofs (disch := omega) only [↓vcOps_sp 52, VCA, Nat.reduceEqDiff, Nat.reduceAdd, Nat.reduceLeDiff, ↓reduceIte, reduceCtorEq, exists_eq_right, eNode, e0, b1, b2])
        all_goals first | exact Sub.refl _ | exact ⟨by omega, by omega, Sub.refl _⟩ | trace_state
      · rw [h3] at cT
        cases h4 : hasA d n [118, 97, 108, 117, 101]
        · rw [h4] at cH
          rw [if_pos ⟨rfl, rfl⟩]
          refine dcalls_of_vc Tryz.func51 hn51 hc51 (by rw [Tryz.ntmps51]; simp) (by rw [Tryz.ntmps51]; decide) ?_
          simp -dsimp -implicitDefEqProofs (disch := omega) only [VCA, Nat.reduceEqDiff, ↓reduceIte, reduceCtorEq, c51, fA]
          repeat' (first | ((with_reducible refine brC (fun _ => ?_) fun _ => ?_) <;> try (exfalso; omega)) | (with_reducible apply pcallE.of; · exact cK) | (with_reducible apply pcallE.of; · exact cT) | (with_reducible apply pcallE.of; · exact cH) | (with_reducible refine And.intro ?_ ?_; · omega) | simp -dsimp -implicitDefEqProofs (disch := omega) only [↓vcOps_sp 52, VCA, Nat.reduceEqDiff, Nat.reduceAdd, Nat.reduceLeDiff, ↓reduceIte, reduceCtorEq, exists_eq_right, eNode, e0, b1, b2])
          all_goals first | exact Sub.refl _ | exact ⟨by omega, by omega, Sub.refl _⟩ | trace_state
        · rw [h4] at cH
          rw [if_neg (by simp)]
          refine dcalls_of_vc Tryz.func51 hn51 hc51 (by rw [Tryz.ntmps51]; simp) (by rw [Tryz.ntmps51]; decide) ?_
          simp -dsimp -implicitDefEqProofs (disch := omega) only [VCA, Nat.reduceEqDiff, ↓reduceIte, reduceCtorEq, c51, fA]
          repeat' (first | ((with_reducible refine brC (fun _ => ?_) fun _ => ?_) <;> try (exfalso; omega)) | (with_reducible apply pcallE.of; · exact cK) | (with_reducible apply pcallE.of; · exact cT) | (with_reducible apply pcallE.of; · exact cH) | (with_reducible apply pcallE.of; · exact cA) | (with_reducible refine And.intro ?_ ?_; · omega) | simp -dsimp -implicitDefEqProofs (disch := omega) only [↓vcOps_sp 52, VCA, Nat.reduceEqDiff, Nat.reduceAdd, Nat.reduceLeDiff, ↓reduceIte, reduceCtorEq, exists_eq_right, eNode, e0, b1, b2])
          all_goals first | exact Sub.refl _ | exact ⟨by omega, by omega, Sub.refl _⟩ | trace_state
end Go.Proofs.K
end
section
set_option linter.unusedSimpArgs false
set_option linter.unusedVariables false
namespace Go.Proofs.K
open Go Go.Sim Go.Proofs
variable {G : Glob}
def c81 : SFun := ⟨.seq (.reg [⟨some 3, .mv (.c (.bool false)), none⟩]) (.seq (.reg [⟨some 4, .ld 1 false (.t 1), none⟩, ⟨some 5, .pcall 80 [.t 4, .c (.str [102, 105, 101, 108, 100, 115, 101, 116])], none⟩, ⟨some 6, .mv (.t 0), none⟩, ⟨some 7, .call (.t 5) [.t 6], none⟩, ⟨some 8, .mv (.t 7), none⟩, ⟨some 9, .ld 1 false (.t 1), some (8, true)⟩, ⟨some 10, .mv (.t 0), some (8, true)⟩, ⟨some 11, .pcall 78 [.t 9, .t 10, .c (.str [100, 105, 115, 97, 98, 108, 101, 100])], some (8, true)⟩, ⟨some 12, .pick (.t 8) (.t 11) (.c (.bool false)), none⟩, ⟨some 3, .mv (.t 12), none⟩]) .ret), [.tmp 3]⟩
theorem hc81 : toSF Tryz.prog {pure := [80, 78]} Tryz.f81 = some c81 := by kernel_rfl
theorem hn81 : (Tryz.f81.name == "runtime.NumGoroutine") = false := by kernel_rfl
theorem told1_ok (d : HDoc) (sm : DocSm d) (o : List Int) (n : Int) (hn : inD d n) : PCalls (Pg G) 81 [aInt n, .pin [fA d o]] (.bool (offM d n)) := fun h => by
  have c3 := fnamed_ok (G := G) d o [102, 105, 101, 108, 100, 115, 101, 116]
  have g3 := fnamed1_ok (G := G) d sm o n hn [102, 105, 101, 108, 100, 115, 101, 116]
  have c1 := fhas_ok (G := G) d sm o n hn [100, 105, 115, 97, 98, 108, 101, 100]
  obtain ⟨F, hF⟩ : ∃ F, fA d o = F := ⟨_, rfl⟩
  rw [hF] at c1 c3 g3
  unfold offM
  generalize isN d [102, 105, 101, 108, 100, 115, 101, 116] n = b at *
  generalize hasA d n [100, 105, 115, 97, 98, 108, 101, 100] = c at *
  cases b <;> cases c
  all_goals
    refine dcalls_of_vc Tryz.func81 hn81 hc81 (by rw [Tryz.ntmps81]; simp) (by rw [Tryz.ntmps81]; decide) ?_
    simp -dsimp -implicitDefEqProofs (disch := omega) only [VCA, Nat.reduceEqDiff, ↓reduceIte, c81, hF]
    repeat' (first | ((with_reducible refine brC (fun _ => ?_) fun _ => ?_) <;> try (exfalso; omega)) | (with_reducible apply pcallE.of; · exact c3) | (with_reducible refine PCalls.of g3 ?_) | (with_reducible apply pcallE.of; · exact c1) | (with_reducible refine And.intro ?_ ?_; · omega) | simp -dsimp -implicitDefEqProofs (disch := omega) only [↓vcOps_sp 8, VCA, Nat.reduceEqDiff, ↓reduceIte, reduceCtorEq, exists_eq_right_right, exists_eq_right])
  all_goals first | exact Sub.refl _ | exact ⟨Sub.refl _, rfl⟩ | trace_state
def k36_1 : List UInt8 := [32, 115, 117, 98, 109, 105, 116, 32, 114, 101, 115, 101, 116, 32, 98, 117, 116, 116, 111, 110, 32, 105, 109, 97, 103, 101, 32, 102, 105, 108, 101, 32]
def c36 : SFun := ⟨.seq (.reg [⟨some 2, .boxF 60 1 (.t 0), none⟩, ⟨some 4, .mv (.c (.bool false)), none⟩]) (.seq (.reg [⟨some 7, .ld 1 false (.t 2), none⟩, ⟨some 8, .mv (.t 1), none⟩, ⟨some 9, .pcall 37 [.t 7, .t 8], none⟩, ⟨some 5, .mv (.t 9), none⟩]) (.seq (.reg [⟨some 10, .mkf 81 [] [.t 2], none⟩, ⟨some 6, .mv (.t 10), none⟩]) (.seq (.block 0 (.seq (.seq (.reg [⟨some 12, .ld 1 false (.t 2), none⟩, ⟨some 13, .mv (.t 1), none⟩, ⟨some 14, .pcall 38 [.t 12, .t 13, .c (.str [110, 97, 109, 101])], none⟩, ⟨some 15, .bin .eql (.t 14) (.c (.str [])), none⟩, ⟨some 11, .mv (.t 15), none⟩]) (.cond (.t 11) .skip (.seq (.reg [⟨some 16, .ld 1 false (.t 2), none⟩, ⟨some 17, .mv (.t 1), none⟩, ⟨some 18, .pcall 78 [.t 16, .t 17, .c (.str [100, 105, 115, 97, 98, 108, 101, 100])], none⟩, ⟨some 11, .mv (.t 18), none⟩]) (.cond (.t 11) .skip (.reg [⟨some 19, .ld 1 false (.t 2), none⟩, ⟨some 20, .mv (.t 1), none⟩, ⟨some 21, .mv (.t 6), none⟩, ⟨some 22, .pcall 79 [.t 19, .t 20, .t 21], none⟩, ⟨some 23, .bin .geq (.t 22) (.c (.int .i64 0)), none⟩, ⟨some 11, .mv (.t 23), none⟩]))))) (.cond (.t 11) (.seq (.reg [⟨some 4, .mv (.c (.bool false)), none⟩]) .ret) (.seq (.reg [⟨some 25, .mv (.t 5), none⟩, ⟨some 26, .pcall 34 [.t 25, .c (.str k36_1)], none⟩, ⟨some 24, .mv (.t 26), none⟩]) (.cond (.t 24) (.seq (.reg [⟨some 4, .mv (.c (.bool false)), none⟩]) .ret) .skip))))) (.seq (.reg [⟨some 27, .mv (.t 5), none⟩, ⟨some 28, .pcall 82 [.t 27], none⟩, ⟨some 29, .un .not (.t 28), none⟩, ⟨some 30, .mv (.t 29), none⟩, ⟨some 31, .ld 1 false (.t 2), some (30, false)⟩, ⟨some 32, .mv (.t 1), some (30, false)⟩, ⟨some 33, .pcall 78 [.t 31, .t 32, .c (.str [99, 104, 101, 99, 107, 101, 100])], some (30, false)⟩, ⟨some 34, .pick (.t 30) (.c (.bool true)) (.t 33), none⟩, ⟨some 4, .mv (.t 34), none⟩]) .ret)))), [.tmp 4]⟩
theorem hc36 : toSF Tryz.prog {pure := [37, 38, 78, 79, 34, 82]} Tryz.f36 = some c36 := by kernel_rfl
theorem hn36 : (Tryz.f36.name == "runtime.NumGoroutine") = false := by kernel_rfl
theorem told_ok (hG : MaxLenOK G) (hT : TabsOK G) (d : HDoc) (V : DV d) (sm : DocSm d) (o : List Int) (n : Int) (hn : inD d n) : PCalls (Pg G) 36 [fA d o, aInt n] (.bool (toldM d n)) := fun h => by
  have cK := kind_ok (G := G) hG hT d V sm o n hn
  have cN := fattr_ok (G := G) d sm o n hn [110, 97, 109, 101]
  have cD := fhas_ok (G := G) d sm o n hn [100, 105, 115, 97, 98, 108, 101, 100]
  have cC := fhas_ok (G := G) d sm o n hn [99, 104, 101, 99, 107, 101, 100]
  have cB := fabove_ok (G := G) d V sm o n hn 81 [] [.pin [fA d o]] (offM d) fun k hk => told1_ok d sm o k hk
  have cT := ticked_ok (G := G) (kindM d n)
  have kl : (kindM d n).length ≤ 4000 := by
    unfold kindM
    split
    · unfold typM
      split
      · have := attD_len V hn [116, 121, 112, 101]; rw [List.length_map]; omega
      · decide
    · have := name_len V hn; omega
  have ek : k36_1 = 32 :: (subS ++ [32]) := by decide +kernel
  have cO : PCalls (Pg G) 34 [.str (kindM d n), .str (32 :: (subS ++ [32]))] (.bool (inW (kindM d n) subS)) := one_in hG (kindM d n) subS (by decide +kernel) (by omega) (by decide +kernel)
  have vF : isV (fA d o) = true := rfl
  have wF : cellsOf (fA d o) = [fA d o] := rfl
  obtain ⟨F, hF⟩ : ∃ F, fA d o = F := ⟨_, rfl⟩
  rw [hF] at cK cN cD cC cB vF wF
  unfold toldM
  generalize kindM d n = kd at *
  generalize inW kd subS = b1 at *
  generalize tickM kd = b2 at *
  generalize hasA d n [99, 104, 101, 99, 107, 101, 100] = b3 at *
  generalize hasA d n [100, 105, 115, 97, 98, 108, 101, 100] = b4 at *
  generalize attD d n [110, 97, 109, 101] = nm at *
  generalize abM d (offM d) n = ab at *
  obtain ⟨b5, h5⟩ : ∃ b, (nm == []) = b := ⟨_, rfl⟩
  obtain ⟨b6, h6⟩ : ∃ b, decide (0 ≤ ab) = b := ⟨_, rfl⟩
  rw [h5, h6]
  cases b5
  · cases b4
    · cases b6
      · cases b1
        · cases b2
          · refine dcalls_of_vc Tryz.func36 hn36 hc36 (by rw [Tryz.ntmps36]; simp) (by rw [Tryz.ntmps36]; decide) ?_
            simp -dsimp -implicitDefEqProofs (disch := omega) only [VCA, Nat.reduceEqDiff, ↓reduceIte, c36, hF, vF, wF]
            repeat' (first | ((with_reducible refine brC (fun _ => ?_) fun _ => ?_) <;> try (exfalso; omega)) | (with_reducible apply pcallE.of; · exact cK) | (with_reducible apply pcallE.of; · exact cN) | (with_reducible apply pcallE.of; · exact cD) | (with_reducible apply pcallE.of; · exact cB) | (with_reducible apply pcallE.of; · exact cO) | (with_reducible apply pcallE.of; · exact cT) | (with_reducible apply pcallE.of; · exact cC) | (with_reducible refine And.intro ?_ ?_; · omega) | simp -dsimp -implicitDefEqProofs (disch := omega) only [↓vcOps_sp 30, VCA, Nat.reduceEqDiff, ↓reduceIte, exists_eq_right, h5, h6, ek])
            all_goals first | exact Sub.refl _ | exact ⟨Sub.refl _, rfl⟩ | trace_state
          · cases b3
            all_goals
              refine dcalls_of_vc Tryz.func36 hn36 hc36 (by rw [Tryz.ntmps36]; simp) (by rw [Tryz.ntmps36]; decide) ?_
              simp -dsimp -implicitDefEqProofs (disch := omega) only [VCA, Nat.reduceEqDiff, ↓reduceIte, c36, hF, vF, wF]
              repeat' (first | ((with_reducible refine brC (fun _ => ?_) fun _ => ?_) <;> try (exfalso; omega)) | (with_reducible apply pcallE.of; · exact cK) | (with_reducible apply pcallE.of; · exact cN) | (with_reducible apply pcallE.of; · exact cD) | (with_reducible apply pcallE.of; · exact cB) | (with_reducible apply pcallE.of; · exact cO) | (with_reducible apply pcallE.of; · exact cT) | (with_reducible apply pcallE.of; · exact cC) | (with_reducible refine And.intro ?_ ?_; · omega) | simp -dsimp -implicitDefEqProofs (disch := omega) only [↓vcOps_sp 30, VCA, Nat.reduceEqDiff, ↓reduceIte, exists_eq_right_right, exists_eq_right, h5, h6, ek])
            all_goals first | exact Sub.refl _ | exact ⟨Sub.refl _, rfl⟩ | trace_state
        · refine dcalls_of_vc Tryz.func36 hn36 hc36 (by rw [Tryz.ntmps36]; simp) (by rw [Tryz.ntmps36]; decide) ?_
          simp -dsimp -implicitDefEqProofs (disch := omega) only [VCA, Nat.reduceEqDiff, ↓reduceIte, c36, hF, vF, wF]
          repeat' (first | ((with_reducible refine brC (fun _ => ?_) fun _ => ?_) <;> try (exfalso; omega)) | (with_reducible apply pcallE.of; · exact cK) | (with_reducible apply pcallE.of; · exact cN) | (with_reducible apply pcallE.of; · exact cD) | (with_reducible apply pcallE.of; · exact cB) | (with_reducible apply pcallE.of; · exact cO) | (with_reducible refine And.intro ?_ ?_; · omega) | simp -dsimp -implicitDefEqProofs (disch := omega) only [VCA, Nat.reduceEqDiff, ↓reduceIte, exists_eq_right_right, h5, h6, ek])
          all_goals first | exact Sub.refl _ | exact ⟨Sub.refl _, rfl⟩ | trace_state
      · refine dcalls_of_vc Tryz.func36 hn36 hc36 (by rw [Tryz.ntmps36]; simp) (by rw [Tryz.ntmps36]; decide) ?_
        simp -dsimp -implicitDefEqProofs (disch := omega) only [VCA, Nat.reduceEqDiff, ↓reduceIte, c36, hF, vF, wF]
        repeat' (first | ((with_reducible refine brC (fun _ => ?_) fun _ => ?_) <;> try (exfalso; omega)) | (with_reducible apply pcallE.of; · exact cK) | (with_reducible apply pcallE.of; · exact cN) | (with_reducible apply pcallE.of; · exact cD) | (with_reducible apply pcallE.of; · exact cB) | (with_reducible refine And.intro ?_ ?_; · omega) | simp -dsimp -implicitDefEqProofs (disch := omega) only [VCA, Nat.reduceEqDiff, ↓reduceIte, exists_eq_right_right, h5, h6, ek])
        all_goals first | exact Sub.refl _ | exact ⟨Sub.refl _, rfl⟩ | trace_state
    · refine dcalls_of_vc Tryz.func36 hn36 hc36 (by rw [Tryz.ntmps36]; simp) (by rw [Tryz.ntmps36]; decide) ?_
      simp -dsimp -implicitDefEqProofs (disch := omega) only [VCA, Nat.reduceEqDiff, ↓reduceIte, c36, hF, vF, wF]
      repeat' (first | ((with_reducible refine brC (fun _ => ?_) fun _ => ?_) <;> try (exfalso; omega)) | (with_reducible apply pcallE.of; · exact cK) | (with_reducible apply pcallE.of; · exact cN) | (with_reducible apply pcallE.of; · exact cD) | (with_reducible refine And.intro ?_ ?_; · omega) | simp -dsimp -implicitDefEqProofs (disch := omega) only [VCA, Nat.reduceEqDiff, ↓reduceIte, exists_eq_right_right, h5])
      all_goals first | exact Sub.refl _ | exact ⟨Sub.refl _, rfl⟩ | trace_state
  · refine dcalls_of_vc Tryz.func36 hn36 hc36 (by rw [Tryz.ntmps36]; simp) (by rw [Tryz.ntmps36]; decide) ?_
    simp -dsimp -implicitDefEqProofs (disch := omega) only [VCA, Nat.reduceEqDiff, ↓reduceIte, c36, hF, vF, wF]
    repeat' (first | ((with_reducible refine brC (fun _ => ?_) fun _ => ?_) <;> try (exfalso; omega)) | (with_reducible apply pcallE.of; · exact cK) | (with_reducible apply pcallE.of; · exact cN) | (with_reducible refine And.intro ?_ ?_; · omega) | simp -dsimp -implicitDefEqProofs (disch := omega) only [VCA, Nat.reduceEqDiff, ↓reduceIte, exists_eq_right_right, h5])
    all_goals first | exact Sub.refl _ | exact ⟨Sub.refl _, rfl⟩ | trace_state
def c39 : SFun := ⟨.seq (.reg [⟨some 4, .mv (.c .emp), none⟩]) (.seq (.reg [⟨some 10, .mv (.t 0), none⟩, ⟨some 11, .mv (.t 1), none⟩, ⟨some 12, .pcall 38 [.t 10, .t 11, .c (.str [110, 97, 109, 101])], none⟩, ⟨some 5, .mv (.t 12), none⟩]) (.seq (.seq (.reg [⟨some 13, .mv (.t 0), none⟩, ⟨some 14, .fldA 0 (.t 13), none⟩, ⟨some 15, .fldA 0 (.t 14), none⟩, ⟨some 16, .fldA 0 (.t 15), none⟩, ⟨some 17, .ld 1 false (.t 16), none⟩, ⟨some 18, .mv (.t 1), none⟩, ⟨some 19, .idxA 6 (.t 17) (.t 18), none⟩, ⟨some 20, .fldA 1 (.t 19), none⟩, ⟨some 21, .ld 1 false (.t 20), none⟩, ⟨some 22, .bin .neq (.t 21) (.c (.str [115, 101, 108, 101, 99, 116])), none⟩]) (.cond (.t 22) (.seq (.reg [⟨some 23, .mv (.t 5), none⟩, ⟨some 24, .mv (.t 0), none⟩, ⟨some 25, .mv (.t 1), none⟩, ⟨some 26, .pcall 51 [.t 24, .t 25], none⟩, ⟨some 27, .bld [.str [], .str []] [(0, (1, (.t 23))), (1, (1, (.t 26)))], none⟩, ⟨some 28, .bldR 25 2 [.t 27], none⟩, ⟨some 4, .mv (.t 28), none⟩]) .ret) .skip)) (.seq (.reg [⟨some 29, .mv (.t 0), none⟩, ⟨some 30, .mv (.t 1), none⟩, ⟨some 31, .pcall 85 [.t 29, .t 30], none⟩, ⟨some 6, .mv (.t 31), none⟩]) (.seq (.seq (.reg [⟨some 32, .mv (.t 0), none⟩, ⟨some 33, .mv (.t 1), none⟩, ⟨some 34, .pcall 78 [.t 32, .t 33, .c (.str [109, 117, 108, 116, 105, 112, 108, 101])], none⟩, ⟨some 35, .un .not (.t 34), none⟩]) (.cond (.t 35) (.reg [⟨some 36, .mv (.t 6), none⟩, ⟨some 37, .mv (.t 6), none⟩, ⟨some 38, .len (.t 37), none⟩, ⟨some 39, .bin .sub (.t 38) (.c (.int .i64 1)), none⟩, ⟨some 40, .max2 (.t 39) (.c (.int .i64 0)), none⟩, ⟨some 41, .slA 1 (.t 36) (some (.t 40)) none, none⟩, ⟨some 6, .mv (.t 41), none⟩]) .skip)) (.seq (.reg [⟨some 7, .mv (.c .emp), none⟩]) (.seq (.seq (.reg [⟨some 42, .mv (.t 6), none⟩, ⟨some 43, .len (.t 42), none⟩, ⟨some 44, .mv (.c (.int .i64 0)), none⟩]) (.block 0 (.loop (.seq (.reg [⟨some 45, .bin .lss (.t 44) (.t 43), none⟩]) (.seq (.cond (.t 45) .skip (.exit 0)) (.seq (.block 1 (.seq (.reg [⟨some 46, .idxA 1 (.t 42) (.t 44), none⟩, ⟨some 47, .ld 1 false (.t 46), none⟩, ⟨some 9, .mv (.t 47), none⟩]) (.reg [⟨some 48, .mv (.t 7), none⟩, ⟨some 49, .mv (.t 5), none⟩, ⟨some 50, .mv (.t 0), none⟩, ⟨some 51, .mv (.t 9), none⟩, ⟨some 52, .pcall 86 [.t 50, .t 51], none⟩, ⟨some 53, .bld [.str [], .str []] [(0, (1, (.t 49))), (1, (1, (.t 52)))], none⟩, ⟨some 54, .bldF 25 2 [.t 53], none⟩, ⟨some 55, .app 25 2 32 (.t 48) (.t 54), none⟩, ⟨some 7, .mv (.t 55), none⟩]))) (.reg [⟨some 56, .bin .add (.t 44) (.c (.int .i64 1)), none⟩, ⟨some 44, .mv (.t 56), none⟩]))))))) (.seq (.reg [⟨some 57, .mv (.t 7), none⟩, ⟨some 4, .mv (.t 57), none⟩]) .ret))))))), [.tmp 4]⟩
theorem hc39 : toSF Tryz.prog {pure := [38, 51, 85, 78, 86], how := [(28, 2)]} Tryz.f39 = some c39 := by kernel_rfl
theorem hn39 : (Tryz.f39.name == "runtime.NumGoroutine") = false := by kernel_rfl
theorem entries_ok (hG : MaxLenOK G) (hT : TabsOK G) (d : HDoc) (V : DV d) (sm : DocSm d) (o : List Int) (n : Int) (hn : inD d n) (h : Heap) : DCalls (Pg G) 39 [fA d o, aInt n] h fun a h' => Acc h 25 2 ((entsOf d n).map eEnt) a h' ∧ Sim.Sub h h' := by
  have hl := V.len
  have n0 := hn.1
  have n1 := hn.2
  have e0 : nth d.nodes n.toNat = nd d n := rfl
  have cN := fattr_ok (G := G) d sm o n hn [110, 97, 109, 101]
  have cV := value_ok (G := G) hG hT d V sm o n hn
  have cC := chosen_ok (G := G) d V sm o n hn
  have cM := fhas_ok (G := G) d sm o n hn [109, 117, 108, 116, 105, 112, 108, 101]
  have gO := fun x hx => option_ok (G := G) d V sm o x hx
  have ci := chosM_in V hn
  have cl := chosM_len V hn
  have fE : fA d o = .pin [sl eNode d.nodes, .bool d.quirks, sl eInt o] := rfl
  rw [fE] at cN cV cC cM
  unfold entsOf
  generalize attD d n [110, 97, 109, 101] = nm at *
  by_cases h1 : (nd d n).name = [115, 101, 108, 101, 99, 116]
  · have b1 : ((nd d n).name != [115, 101, 108, 101, 99, 116]) = false := by simpa using h1
    rw [if_pos h1]
    generalize chosM d n = L0 at *
    obtain ⟨L, hL⟩ : ∃ L, (if hasA d n [109, 117, 108, 116, 105, 112, 108, 101] = true then L0 else L0.drop (L0.length - 1)) = L := ⟨_, rfl⟩
    rw [hL]
    have hLi : ∀ k ∈ L, inD d k := fun k hk => by
      rw [← hL] at hk
      split at hk
      · exact ci k hk
      · exact ci k (List.mem_of_mem_drop hk)
    have hLl : L.length ≤ 200 := by
      rw [← hL]
      split
      · exact cl
      · rw [List.length_drop]; omega
    have mx2 : (max ((L0.length : Int) - 1) 0).toNat = L0.length - 1 := by omega
    have mx3 : decide (0 ≤ max ((L0.length : Int) - 1) 0) = true := decide_eq_true (by omega)
    have mx4 : max ((L0.length : Int) - 1) 0 ≤ (L0.length : Int) := by omega
    cases hm : hasA d n [109, 117, 108, 116, 105, 112, 108, 101]
    · rw [hm] at cM hL
      rw [if_neg (by simp)] at hL
      refine dcalls_of_vc Tryz.func39 hn39 hc39 (by rw [Tryz.ntmps39]; simp) (by rw [Tryz.ntmps39]; decide) ?_
      simp -dsimp -implicitDefEqProofs (disch := omega) only [VCA, Nat.reduceEqDiff, ↓reduceIte, reduceCtorEq, c39, fA]
      repeat' (first | ((with_reducible refine brC (fun _ => ?_) fun _ => ?_) <;> try (exfalso; omega)) | (with_reducible apply pcallE.of; · exact cN) | (with_reducible apply pcallE.of; · exact cC) | (with_reducible apply pcallE.of; · exact cM) | (with_reducible refine And.intro ?_ ?_; · omega) | simp -dsimp -implicitDefEqProofs (disch := omega) only [VCA, Nat.reduceEqDiff, Nat.reduceAdd, Nat.reduceLeDiff, ↓reduceIte, reduceCtorEq, eNode, e0, b1, mx2, hL])
      refine LoopVC.intro (fun m e h' => ∃ k : Nat, k ≤ L.length ∧ m = L.length - k ∧ e 0 = .pin [sl eNode d.nodes, .bool d.quirks, sl eInt o] ∧ e 5 = .str nm ∧ e 42 = sl eInt L ∧ e 43 = aInt L.length ∧ e 44 = aInt k ∧ Acc h 25 2 (((L.take k).map fun k => (⟨nm, optV d k⟩ : HEnt)).map eEnt) (e 7) h' ∧ Sim.Sub h h') L.length
        (by exact ⟨0, by omega, by omega, rfl, rfl, rfl, rfl, rfl, Acc.nil, Sub.refl _⟩) ?_
      rintro m e h' ⟨k, hk, rfl, e0', e5, e42, e43, e44, A, S⟩
      by_cases hlt : k < L.length
      · have d1 : decide ((k : Int) < (L.length : Int)) = true := decide_eq_true (by omega)
        have hx := hLi _ (nth_mem' hlt)
        have tk : (L.take (k + 1)).map (fun k => (⟨nm, optV d k⟩ : HEnt)) = (L.take k).map (fun k => (⟨nm, optV d k⟩ : HEnt)) ++ [⟨nm, optV d (nth L k)⟩] := by
          rw [take_snoc hlt, List.map_append]; rfl
        obtain ⟨x, hxx⟩ : ∃ x, nth L k = x := ⟨_, rfl⟩
        rw [hxx] at hx tk
        have g := gO x hx
        rw [fE] at g
        repeat' (first | ((with_reducible refine brC (fun _ => ?_) fun _ => ?_) <;> try (exfalso; omega)) | (with_reducible apply pcallE.of; · exact g) | (with_reducible refine And.intro ?_ ?_; · omega) | simp -dsimp -implicitDefEqProofs (disch := omega) only [VCA, Nat.reduceEqDiff, Nat.reduceAdd, Nat.reduceLeDiff, ↓reduceIte, reduceCtorEq, okParts, fillA, okFill, forall_eq, exists_eq_left, eInt, e0', e5, e42, e43, e44, d1, hxx])
        refine A.app S (by simp only [List.length_map, List.length_cons, List.length_nil, List.length_take]; omega) (by simp only [List.length_map, List.length_cons, List.length_nil, List.length_take]; omega) fun a' h'' A' S' => ?_
        simp -dsimp -implicitDefEqProofs (disch := omega) only [VCA, Nat.reduceEqDiff, ↓reduceIte, reduceCtorEq, e0', e5, e42, e43, e44]
        refine ⟨_, by omega, k + 1, by omega, rfl, by omega, ?_, S'⟩
        rw [tk, List.map_append]
        exact A'
      · obtain rfl : k = L.length := by omega
        have d1 : decide ((L.length : Int) < (L.length : Int)) = false := decide_eq_false (by omega)
        rw [List.take_length] at A
        repeat' (first | ((with_reducible refine brC (fun _ => ?_) fun _ => ?_) <;> try (exfalso; omega)) | (with_reducible refine And.intro ?_ ?_; · omega) | simp -dsimp -implicitDefEqProofs (disch := omega) only [VCA, Nat.reduceEqDiff, ↓reduceIte, e43, e44, d1])
        all_goals first | exact ⟨_, Sub.refl _, A, S⟩ | trace_state
    · rw [hm] at cM hL
      rw [if_pos rfl] at hL
      refine dcalls_of_vc Tryz.func39 hn39 hc39 (by rw [Tryz.ntmps39]; simp) (by rw [Tryz.ntmps39]; decide) ?_
      simp -dsimp -implicitDefEqProofs (disch := omega) only [VCA, Nat.reduceEqDiff, ↓reduceIte, reduceCtorEq, c39, fA]
      repeat' (first | ((with_reducible refine brC (fun _ => ?_) fun _ => ?_) <;> try (exfalso; omega)) | (with_reducible apply pcallE.of; · exact cN) | (with_reducible apply pcallE.of; · exact cC) | (with_reducible apply pcallE.of; · exact cM) | (with_reducible refine And.intro ?_ ?_; · omega) | simp -dsimp -implicitDefEqProofs (disch := omega) only [VCA, Nat.reduceEqDiff, Nat.reduceAdd, Nat.reduceLeDiff, ↓reduceIte, reduceCtorEq, eNode, e0, b1, hL])
      refine LoopVC.intro (fun m e h' => ∃ k : Nat, k ≤ L.length ∧ m = L.length - k ∧ e 0 = .pin [sl eNode d.nodes, .bool d.quirks, sl eInt o] ∧ e 5 = .str nm ∧ e 42 = sl eInt L ∧ e 43 = aInt L.length ∧ e 44 = aInt k ∧ Acc h 25 2 (((L.take k).map fun k => (⟨nm, optV d k⟩ : HEnt)).map eEnt) (e 7) h' ∧ Sim.Sub h h') L.length
        (by exact ⟨0, by omega, by omega, rfl, rfl, rfl, rfl, rfl, Acc.nil, Sub.refl _⟩) ?_
      rintro m e h' ⟨k, hk, rfl, e0', e5, e42, e43, e44, A, S⟩
      by_cases hlt : k < L.length
      · have d1 : decide ((k : Int) < (L.length : Int)) = true := decide_eq_true (by omega)
        have hx := hLi _ (nth_mem' hlt)
        have tk : (L.take (k + 1)).map (fun k => (⟨nm, optV d k⟩ : HEnt)) = (L.take k).map (fun k => (⟨nm, optV d k⟩ : HEnt)) ++ [⟨nm, optV d (nth L k)⟩] := by
          rw [take_snoc hlt, List.map_append]; rfl
        obtain ⟨x, hxx⟩ : ∃ x, nth L k = x := ⟨_, rfl⟩
        rw [hxx] at hx tk
        have g := gO x hx
        rw [fE] at g
        repeat' (first | ((with_reducible refine brC (fun _ => ?_) fun _ => ?_) <;> try (exfalso; omega)) | (with_reducible apply pcallE.of; · exact g) | (with_reducible refine And.intro ?_ ?_; · omega) | simp -dsimp -implicitDefEqProofs (disch := omega) only [VCA, Nat.reduceEqDiff, Nat.reduceAdd, Nat.reduceLeDiff, ↓reduceIte, reduceCtorEq, okParts, fillA, okFill, forall_eq, exists_eq_left, eInt, e0', e5, e42, e43, e44, d1, hxx])
        refine A.app S (by simp only [List.length_map, List.length_cons, List.length_nil, List.length_take]; omega) (by simp only [List.length_map, List.length_cons, List.length_nil, List.length_take]; omega) fun a' h'' A' S' => ?_
        simp -dsimp -implicitDefEqProofs (disch := omega) only [VCA, Nat.reduceEqDiff, ↓reduceIte, reduceCtorEq, e0', e5, e42, e43, e44]
        refine ⟨_, by omega, k + 1, by omega, rfl, by omega, ?_, S'⟩
        rw [tk, List.map_append]
        exact A'
      · obtain rfl : k = L.length := by omega
        have d1 : decide ((L.length : Int) < (L.length : Int)) = false := decide_eq_false (by omega)
        rw [List.take_length] at A
        repeat' (first | ((with_reducible refine brC (fun _ => ?_) fun _ => ?_) <;> try (exfalso; omega)) | (with_reducible refine And.intro ?_ ?_; · omega) | simp -dsimp -implicitDefEqProofs (disch := omega) only [VCA, Nat.reduceEqDiff, ↓reduceIte, e43, e44, d1])
        all_goals first | exact ⟨_, Sub.refl _, A, S⟩ | trace_state
  · have b1 : ((nd d n).name != [115, 101, 108, 101, 99, 116]) = true := by simpa using h1
    rw [if_neg h1]
    refine dcalls_of_vc Tryz.func39 hn39 hc39 (by rw [Tryz.ntmps39]; simp) (by rw [Tryz.ntmps39]; decide) ?_
    simp -dsimp -implicitDefEqProofs (disch := omega) only [VCA, Nat.reduceEqDiff, ↓reduceIte, reduceCtorEq, eEnt, c39, fA]
    repeat' (first | ((with_reducible refine brC (fun _ => ?_) fun _ => ?_) <;> try (exfalso; omega)) | (with_reducible apply pcallE.of; · exact cN) | (with_reducible apply pcallE.of; · exact cV) | (with_reducible refine And.intro ?_ ?_; · omega) | simp -dsimp -implicitDefEqProofs (disch := omega) only [VCA, Nat.reduceEqDiff, Nat.reduceAdd, Nat.reduceLeDiff, ↓reduceIte, reduceCtorEq, okParts, fillA, okFill, lit_eq, eNode, e0, b1])
    intro r hr
    exact ⟨_, Sub.refl _, Acc.root hr (upd_same _ _ _), (Sub.refl h).upd hr⟩
end Go.Proofs.K
end
section
set_option linter.unusedSimpArgs false
set_option linter.unusedVariables false
namespace Go.Proofs.K
open Go Go.Sim Go.Proofs
variable {G : Glob}
structure EI (h0 : Heap) (d : HDoc) (F : AVal) (r6 r8 r9 rM : Nat) (f : Int) (R : List Int) (seen : List (List UInt8)) (ao : AVal) (h : Heap) : Prop where
  c6 : h r6 = some ⟨.t 60, 1, [[F]]⟩
  c8 : h r8 = some ⟨.t 22, 1, [[ao]]⟩
  c9 : h r9 = some ⟨.t 63, 1, [[.mpr rM]]⟩
  cM : h rM = some ⟨.m 63 (eMs seen), 1, []⟩
  acc : Acc h0 25 2 ((entL d f R).map eEnt) ao h
  sub : Sim.Sub h0 h
  fr : h0 r6 = none ∧ h0 r8 = none ∧ h0 r9 = none ∧ h0 rM = none
  seen : ∀ nm, nm ∈ seen ↔ R.any (fun k => tellM d f k && (radM d k && attD d k [110, 97, 109, 101] == nm)) = true
theorem EI.strp {h0 hb : Heap} {d : HDoc} {F : AVal} {r6 r8 r9 rM : Nat} {f : Int} {R : List Int} {o' : AObj} (h01 : Sim.Sub h0 hb) (hM : hb rM = some o') (hm : o'.ty.isM = true) : StrpM hb fun h => ∃ seen ao, EI h0 d F r6 r8 r9 rM f R seen ao h := by
  rintro h' h'' ⟨seen, ao, S⟩ _ hk hk2
  have k : ∀ r o, h' r = some o → o.ty.isM = false → h'' r = some o := fun r o ho hm => hk r o ho (.inl hm)
  refine ⟨seen, ao, k _ _ S.c6 rfl, k _ _ S.c8 rfl, k _ _ S.c9 rfl, hk2 _ _ _ S.cM hM hm, ?_, fun t o ht => hk t o (S.sub t o ht) (.inr (h01 t o ht)), S.fr, S.seen⟩
  rcases S.acc with q | ⟨r, q0, q1, q2⟩
  · exact .inl q
  · exact .inr ⟨r, q0, k _ _ q1 rfl, q2⟩
theorem EI.skip {h0 h : Heap} {d : HDoc} {F : AVal} {r6 r8 r9 rM : Nat} {f n : Int} {R : List Int} {seen : List (List UInt8)} {ao : AVal} (S : EI h0 d F r6 r8 r9 rM f R seen ao h) (ht : tellM d f n = false) : EI h0 d F r6 r8 r9 rM f (n :: R) seen ao h :=
  ⟨S.c6, S.c8, S.c9, S.cM, by rw [entL, if_neg (by rw [ht]; simp), List.nil_append]; exact S.acc, S.sub, S.fr, fun nm => by rw [S.seen nm, List.any_cons, ht, Bool.false_and, Bool.false_or]⟩
theorem EI.put {h0 h : Heap} {d : HDoc} {F : AVal} {r6 r8 r9 rM : Nat} {f : Int} {R : List Int} {seen : List (List UInt8)} {ao : AVal} (S : EI h0 d F r6 r8 r9 rM f R seen ao h) (nm : List UInt8) (h' : Heap) (hh : h' = upd h rM (some ⟨.m 63 (eMs (putS nm seen)), 1, []⟩)) :
    h' r6 = some ⟨.t 60, 1, [[F]]⟩ ∧ h' r8 = some ⟨.t 22, 1, [[ao]]⟩ ∧ h' r9 = some ⟨.t 63, 1, [[.mpr rM]]⟩ ∧ h' rM = some ⟨.m 63 (eMs (putS nm seen)), 1, []⟩ ∧ Acc h0 25 2 ((entL d f R).map eEnt) ao h' ∧ Sim.Sub h0 h' := by
  subst hh
  have m6 : r6 ≠ rM := fun e => by have q := S.c6; rw [e, S.cM] at q; cases q
  have m8 : r8 ≠ rM := fun e => by have q := S.c8; rw [e, S.cM] at q; cases q
  have m9 : r9 ≠ rM := fun e => by have q := S.c9; rw [e, S.cM] at q; cases q
  refine ⟨by rw [upd_ne _ _ m6]; exact S.c6, by rw [upd_ne _ _ m8]; exact S.c8, by rw [upd_ne _ _ m9]; exact S.c9, upd_same _ _ _, ?_, S.sub.upd S.fr.2.2.2⟩
  refine S.acc.keepA (fun e => ?_) _
  rcases S.acc with ⟨_, q⟩ | ⟨r, q0, q1, q2⟩
  · rw [q] at e; cases e
  · rw [q2] at e
    have e : r = rM := Option.some.inj e
    rw [e, S.cM] at q1; cases q1
theorem EI.add {h0 h h3 : Heap} {d : HDoc} {F : AVal} {r6 r8 r9 rM : Nat} {f n : Int} {R : List Int} {sn : List (List UInt8)} {ao a3 : AVal} (sub : Sim.Sub h0 h) (fr : h0 r6 = none ∧ h0 r8 = none ∧ h0 r9 = none ∧ h0 rM = none)
    (A3 : Acc h 25 2 ((entsOf d n).map eEnt ++ (entL d f R).map eEnt) a3 h3) (S3 : Sim.Sub h h3) (n8 : rootOf a3 ≠ some r8)
    (e6 : h3 r6 = some ⟨.t 60, 1, [[F]]⟩) (e8 : h3 r8 = some ⟨.t 22, 1, [[ao]]⟩) (e9 : h3 r9 = some ⟨.t 63, 1, [[.mpr rM]]⟩) (eM : h3 rM = some ⟨.m 63 (eMs sn), 1, []⟩)
    (ht : entL d f (n :: R) = entsOf d n ++ entL d f R) (hs : ∀ nm, nm ∈ sn ↔ (n :: R).any (fun k => tellM d f k && (radM d k && attD d k [110, 97, 109, 101] == nm)) = true) :
    EI h0 d F r6 r8 r9 rM f (n :: R) sn a3 (upd h3 r8 (some ⟨.t 22, 1, [[a3]]⟩)) := by
  have n6 : r6 ≠ r8 := fun e => by rw [e, e8] at e6; cases e6
  have n9 : r9 ≠ r8 := fun e => by rw [e, e8] at e9; cases e9
  have nM : rM ≠ r8 := fun e => by rw [e, e8] at eM; cases eM
  refine ⟨by rw [upd_ne _ _ n6]; exact e6, upd_same _ _ _, by rw [upd_ne _ _ n9]; exact e9, by rw [upd_ne _ _ nM]; exact eM, ?_, Sim.Sub.upd (fun t o q => S3 t o (sub t o q)) fr.2.1, fr, hs⟩
  rw [ht, List.map_append]
  exact (A3.mono sub).keepA n8 _
theorem putS_mem (nm : List UInt8) (l : List (List UInt8)) (x : List UInt8) : x ∈ putS nm l ↔ x ∈ l ∨ nm = x := by
  unfold putS
  split
  · rename_i h
    exact ⟨.inl, fun q => q.elim id fun e => e ▸ h⟩
  · rw [List.mem_append, List.mem_singleton]
    exact or_congr_right eq_comm
theorem seen_put {d : HDoc} {f n : Int} {R : List Int} {seen : List (List UInt8)} (hs : ∀ nm, nm ∈ seen ↔ R.any (fun k => tellM d f k && (radM d k && attD d k [110, 97, 109, 101] == nm)) = true) (ht : tellM d f n = true) (hr : radM d n = true) :
    ∀ nm, nm ∈ putS (attD d n [110, 97, 109, 101]) seen ↔ (n :: R).any (fun k => tellM d f k && (radM d k && attD d k [110, 97, 109, 101] == nm)) = true := fun nm => by
  rw [putS_mem, hs nm, List.any_cons, Bool.or_eq_true, ht, hr, Bool.true_and, Bool.true_and, beq_iff_eq]
  exact or_comm
theorem late_seen {d : HDoc} {f n : Int} {R : List Int} {seen : List (List UInt8)} (hs : ∀ nm, nm ∈ seen ↔ R.any (fun k => tellM d f k && (radM d k && attD d k [110, 97, 109, 101] == nm)) = true) (hr : radM d n = true) : lateM d f R n = decide (attD d n [110, 97, 109, 101] ∈ seen) := by
  unfold lateM
  rw [hr, Bool.true_and, Bool.eq_iff_iff, decide_eq_true_iff, hs]
theorem aFnd_y (z v : AVal) : aFound true z (some v) = .tup [v, .bool true] := rfl
theorem aFnd_n (z : AVal) : aFound true z none = .tup [z, .bool false] := rfl
theorem lift_sub {α : Type} {Q : α → Prop} : ∀ l : List α, (∀ x ∈ l, Q x) → ∃ xs : List { x // Q x }, xs.map (·.1) = l
  | [], _ => ⟨[], rfl⟩
  | x :: r, h => by
    obtain ⟨xs, hx⟩ := lift_sub r fun y hy => h y (List.mem_cons_of_mem _ hy)
    exact ⟨⟨x, h x List.mem_cons_self⟩ :: xs, by rw [List.map_cons, hx]⟩
theorem EI.late {h0 h : Heap} {d : HDoc} {F : AVal} {r6 r8 r9 rM : Nat} {f n : Int} {R : List Int} {sn : List (List UInt8)} {ao : AVal} (S : EI h0 d F r6 r8 r9 rM f R sn ao h) (ht : tellM d f n = true) (hr : radM d n = true) (hl : lateM d f R n = true) :
    EI h0 d F r6 r8 r9 rM f (n :: R) (putS (attD d n [110, 97, 109, 101]) sn) ao (upd h rM (some ⟨.m 63 (eMs (putS (attD d n [110, 97, 109, 101]) sn)), 1, []⟩)) := by
  obtain ⟨c6, c8, c9, cM, A, B⟩ := S.put (attD d n [110, 97, 109, 101]) _ rfl
  exact ⟨c6, c8, c9, cM, by rw [entL, if_neg (by rw [hl]; simp), List.nil_append]; exact A, B, S.fr, seen_put S.seen ht hr⟩
def tellsM (d : HDoc) (n : Int) : List HEnt × Int :=
  if ctlE d n [102, 111, 114, 109] ≠ 0 then ([], ctlE d n [102, 111, 114, 109]) else if 100 < (entL d n (below d 0)).length then ([], 2) else (entL d n (below d 0), 0)
def k14_1 : List UInt8 := [32, 105, 110, 112, 117, 116, 32, 116, 101, 120, 116, 97, 114, 101, 97, 32, 115, 101, 108, 101, 99, 116, 32, 98, 117, 116, 116, 111, 110, 32]
def c14 : SFun := ⟨.seq (.reg [⟨some 2, .boxF 36 2 (.t 0), none⟩, ⟨some 3, .boxF 3 1 (.t 1), none⟩, ⟨some 4, .mv (.c .emp), none⟩, ⟨some 5, .mv (.c (.int .i64 0)), none⟩]) (.seq (.reg [⟨some 15, .ld 2 true (.t 2), none⟩, ⟨some 16, .ld 1 false (.t 3), none⟩, ⟨some 17, .pcall 32 [.t 15, .t 16, .c (.str [32, 102, 111, 114, 109, 32])], none⟩, ⟨some 14, .mv (.t 17), none⟩, ⟨some 18, .ext (.t 14) 0, none⟩, ⟨some 19, .ext (.t 14) 1, none⟩, ⟨some 6, .new 60 1 [.prim (Value.pointer none)], none⟩, ⟨none, .st 1 (.t 6) (.t 18), none⟩, ⟨some 7, .mv (.t 19), none⟩]) (.seq (.seq (.reg [⟨some 20, .mv (.t 7), none⟩, ⟨some 21, .bin .neq (.t 20) (.c (.int .i64 0)), none⟩]) (.cond (.t 21) (.seq (.reg [⟨some 22, .mv (.t 7), none⟩, ⟨some 4, .mv (.c .emp), none⟩, ⟨some 5, .mv (.t 22), none⟩]) .ret) .skip)) (.seq (.reg [⟨some 8, .new 22 1 [.emp], none⟩]) (.seq (.reg [⟨some 23, .mkm 63, none⟩, ⟨some 9, .new 63 1 [.prim (Value.map none)], none⟩, ⟨none, .st 1 (.t 9) (.t 23), none⟩]) (.seq (.seq (.reg [⟨some 24, .ld 1 false (.t 6), none⟩, ⟨some 25, .fldA 0 (.t 24), none⟩, ⟨some 26, .fldA 2 (.t 25), none⟩, ⟨some 27, .ld 1 false (.t 26), none⟩, ⟨some 28, .pcall 33 [.t 27], none⟩]) (.block 0 (.range (.t 28) [29, 30] (.reg [⟨some 11, .mv (.t 30), none⟩]) (.block 1 (.seq (.seq (.dreg [(⟨some 31, .fldA 0 (.t 2), none⟩, none), (⟨some 32, .ld 1 false (.t 31), none⟩, none), (⟨some 33, .mv (.t 11), none⟩, none), (⟨some 34, .idxA 6 (.t 32) (.t 33), none⟩, none), (⟨some 35, .fldA 1 (.t 34), none⟩, none), (⟨some 36, .ld 1 false (.t 35), none⟩, none), (⟨some 37, .pcall 34 [.t 36, .c (.str k14_1)], none⟩, none), (⟨some 38, .un .not (.t 37), none⟩, none), (⟨some 39, .mv (.t 38), none⟩, none), (⟨some 40, .ld 1 false (.t 6), some (39, false)⟩, none), (⟨some 41, .mv (.t 11), some (39, false)⟩, none), (⟨some 42, .pcall 35 [.t 40, .t 41], some (39, false)⟩, none), (⟨some 43, .ld 1 false (.t 3), some (39, false)⟩, none), (⟨some 44, .bin .neq (.t 42) (.t 43), some (39, false)⟩, none), (⟨some 45, .pick (.t 39) (.c (.bool true)) (.t 44), none⟩, none), (⟨some 46, .mv (.t 45), none⟩, none), (⟨some 47, .ld 1 false (.t 6), some (46, false)⟩, none), (⟨some 48, .mv (.t 11), some (46, false)⟩, none), (⟨some 49, .pcall 36 [.t 47, .t 48], some (46, false)⟩, none), (⟨some 50, .un .not (.t 49), some (46, false)⟩, none), (⟨some 51, .pick (.t 46) (.c (.bool true)) (.t 50), none⟩, none)]) (.cond (.t 51) (.exit 1) .skip)) (.seq (.seq (.reg [⟨some 52, .ld 1 false (.t 6), none⟩, ⟨some 53, .mv (.t 11), none⟩, ⟨some 54, .pcall 37 [.t 52, .t 53], none⟩, ⟨some 55, .bin .eql (.t 54) (.c (.str [114, 97, 100, 105, 111])), none⟩]) (.cond (.t 55) (.seq (.dreg [(⟨some 57, .ldm 23 1 false (.t 9), none⟩, none), (⟨some 58, .ld 1 false (.t 6), none⟩, none), (⟨some 59, .mv (.t 11), none⟩, none), (⟨some 60, .pcall 38 [.t 58, .t 59, .c (.str [110, 97, 109, 101])], none⟩, none), (⟨some 61, .lkp none true (.agg []) (.t 57) (.t 60), none⟩, none), (⟨some 56, .mv (.t 61), none⟩, none), (⟨some 62, .ext (.t 56) 0, none⟩, none), (⟨some 63, .ext (.t 56) 1, none⟩, none), (⟨some 12, .boxF 77 0 (.c (.agg [])), none⟩, (some [])), (⟨none, .st 0 (.t 12) (.t 62), none⟩, (some [58])), (⟨some 13, .mv (.t 63), none⟩, none)]) (.seq (.dreg [(⟨some 64, .ldm 23 1 false (.t 9), none⟩, none), (⟨some 65, .ld 1 false (.t 6), none⟩, none), (⟨some 66, .mv (.t 11), none⟩, none), (⟨some 67, .pcall 38 [.t 65, .t 66, .c (.str [110, 97, 109, 101])], none⟩, none), (⟨some 68, .bld [] [], none⟩, none), (⟨none, .mup none (.t 64) (.t 67) (.t 68), none⟩, (some [65]))]) (.seq (.reg [⟨some 69, .mv (.t 13), none⟩]) (.cond (.t 69) (.exit 1) .skip)))) .skip)) (.dreg [(⟨some 70, .ld 1 false (.t 6), none⟩, none), (⟨some 71, .mv (.t 11), none⟩, none), (⟨some 73, .ld 1 false (.t 8), none⟩, none), (⟨some 72, .call (.c (.fn 39 [] [])) [.t 70, .t 71], none⟩, (some [70])), (⟨some 74, .app 25 2 32 (.t 72) (.t 73), none⟩, (some [73, 70])), (⟨none, .st 1 (.t 8) (.t 74), none⟩, (some [73, 70]))]))))))) (.seq (.seq (.reg [⟨some 75, .ld 1 false (.t 8), none⟩, ⟨some 76, .len (.t 75), none⟩, ⟨some 77, .bin .gtr (.t 76) (.c (.int .i64 100)), none⟩]) (.cond (.t 77) (.seq (.reg [⟨some 4, .mv (.c .emp), none⟩, ⟨some 5, .mv (.c (.int .i64 2)), none⟩]) .ret) .skip)) (.seq (.reg [⟨some 78, .ld 1 false (.t 8), none⟩, ⟨some 4, .mv (.t 78), none⟩, ⟨some 5, .mv (.c (.int .i64 0)), none⟩]) .ret))))))), [.tmp 4, .tmp 5]⟩
theorem hc14 : toSF Tryz.prog {pure := [32, 34, 35, 36, 37, 38, 33], mp := [23, 57, 64], how := [(57, 1023), (64, 1023), (72, 5)]} Tryz.f14 = some c14 := by kernel_rfl
theorem hn14 : (Tryz.f14.name == "runtime.NumGoroutine") = false := by kernel_rfl
set_option maxHeartbeats 2000000 in
theorem fEntries_ok (hG : MaxLenOK G) (hT : TabsOK G) (d : HDoc) (sm : DocSm d) (n : Int) : PCalls (Pg G) 14 [.agg (eDoc d), aInt n] (.tup [sl eEnt (tellsM d n).1, aInt (tellsM d n).2]) := PCalls.outV fun h => by
  have cC := control_ok (G := G) hG d sm n [102, 111, 114, 109] (by decide +kernel) (by decide)
  have ek : (32 :: ([102, 111, 114, 109] ++ [32]) : List UInt8) = [32, 102, 111, 114, 109, 32] := rfl
  rw [ek] at cC
  unfold tellsM
  by_cases h0 : ctlE d n [102, 111, 114, 109] = 0
  · rw [if_neg (by simpa using h0)]
    rw [h0] at cC
    have hd0 : docE d = 0 := by
      unfold ctlE at h0
      split at h0
      · rename_i q; exact absurd h0 q
      · rename_i q; simpa using q
    have V := docE_DV hd0
    have hl := V.len
    have oD : orderD d = below d 0 := if_pos hd0
    have bl := below_len V V.zero
    have bi := below_in V 0 V.zero
    rw [oD] at cC
    obtain ⟨o, ho⟩ : ∃ o, below d 0 = o := ⟨_, rfl⟩
    rw [ho] at cC bl bi
    rw [ho]
    have el := entL_len V n o bi
    have cB := backI_ok (G := G) o
    have ek2 : k14_1 = 32 :: (ctlS ++ [32]) := by decide +kernel
    have vF : isV (fA d o) = true := rfl
    have wF : cellsOf (fA d o) = [fA d o] := rfl
    have fE : fA d o = .pin [sl eNode d.nodes, .bool d.quirks, sl eInt o] := rfl
    have cOw := fun k hk => owner_ok (G := G) d V sm o bi (by omega) k hk
    have cTo := fun k hk => told_ok (G := G) hG hT d V sm o k hk
    have cKi := fun k hk => kind_ok (G := G) hG hT d V sm o k hk
    have cAt := fun k hk => fattr_ok (G := G) d sm o k hk [110, 97, 109, 101]
    have cEn := fun k hk h => entries_ok (G := G) hG hT d V sm o k hk h
    obtain ⟨F, hF⟩ : ∃ F, fA d o = F := ⟨_, rfl⟩
    rw [hF] at cC vF wF fE cOw cTo cKi cAt cEn
    unfold eDoc at cC
    refine dcalls_of_vc Tryz.func14 hn14 hc14 (by rw [Tryz.ntmps14]; simp) (by rw [Tryz.ntmps14]; decide) ?_
    simp -dsimp -implicitDefEqProofs (disch := omega) only [VCA, Nat.reduceEqDiff, Nat.reduceAdd, ↓reduceIte, c14, eDoc]
    repeat' (first | ((with_reducible refine brC (fun _ => ?_) fun _ => ?_) <;> try (exfalso; omega)) | (with_reducible apply pcallE.of; · exact cC) | (with_reducible refine And.intro ?_ ?_; · omega) | simp -dsimp -implicitDefEqProofs (disch := omega) only [VCA, Nat.reduceEqDiff, Nat.reduceAdd, Nat.reduceLT, ↓reduceIte, setAt, exists_eq_left', vF, wF])
    intro r6 hr6
    have bz : ((0 : Int) != 0) = false := rfl
    repeat' (first | ((with_reducible refine brC (fun _ => ?_) fun _ => ?_) <;> try (exfalso; omega)) | (with_reducible refine And.intro ?_ ?_; · omega) | simp -dsimp -implicitDefEqProofs (disch := omega) only [VCA, ↓upd_none, Nat.reduceEqDiff, Nat.reduceLT, ↓reduceIte, setAt, ne_eq, exists_eq_left', bz])
    intro r8 hr8
    repeat' (first | ((with_reducible refine brC (fun _ => ?_) fun _ => ?_) <;> try (exfalso; omega)) | (with_reducible refine And.intro ?_ ?_; · omega) | simp -dsimp -implicitDefEqProofs (disch := omega) only [↓vcOps_sp 39, ↓vcD_sp 39, ↓vcOps_sp 46, ↓vcD_sp 46, VCA, pg_gl, ↓upd_none, Nat.reduceEqDiff, Nat.reduceBEq, Nat.reduceAdd, Nat.reduceSub, Nat.reduceMul, Nat.reduceLT, Nat.reduceLeDiff, ↓reduceIte, reduceCtorEq, rsOf, rootsOf, SOp.rd, SI.rd, SX.rd, rdL, rdO, rdP, okParts, eqCells, okEqCells, fillA, okFill, setAt, implies_true, forall_const, forall_eq, ne_eq, exists_eq_right_right, exists_eq_right, exists_eq_left, exists_eq_left', rootL, eInt, eStr, eAttr, eEnt, lit_eq, vF, wF])
    intro rM hrM
    repeat' (first | ((with_reducible refine brC (fun _ => ?_) fun _ => ?_) <;> try (exfalso; omega)) | (with_reducible refine And.intro ?_ ?_; · omega) | simp -dsimp -implicitDefEqProofs (disch := omega) only [↓vcOps_sp 39, ↓vcD_sp 39, ↓vcOps_sp 46, ↓vcD_sp 46, VCA, pg_gl, ↓upd_none, Nat.reduceEqDiff, Nat.reduceBEq, Nat.reduceAdd, Nat.reduceSub, Nat.reduceMul, Nat.reduceLT, Nat.reduceLeDiff, ↓reduceIte, reduceCtorEq, rsOf, rootsOf, SOp.rd, SI.rd, SX.rd, rdL, rdO, rdP, okParts, eqCells, okEqCells, fillA, okFill, setAt, implies_true, forall_const, forall_eq, ne_eq, exists_eq_right_right, exists_eq_right, exists_eq_left, exists_eq_left', rootL, eInt, eStr, eAttr, eEnt, lit_eq, vF, wF])
    intro r9 hr9
    obtain ⟨g1, g2, g3, g4⟩ := hr9
    obtain ⟨g5, g6, g7⟩ := hrM
    obtain ⟨g8, g9⟩ := hr8
    have a1 : ¬ r6 = r9 := fun e => g3 e.symm
    have a2 : ¬ r6 = rM := fun e => g6 e.symm
    have a3 : ¬ r6 = r8 := fun e => g8 e.symm
    have q1 : aFldA 0 F = F := by rw [fE]; rfl
    have q2 : okFldA F = True := by rw [fE]; rfl
    have q3 : aFldA 2 F = .pin [sl eInt o] := by rw [fE]; rfl
    repeat' (first | ((with_reducible refine brC (fun _ => ?_) fun _ => ?_) <;> try (exfalso; omega)) | (with_reducible apply pcallE.of; · exact cB) | (with_reducible refine And.intro ?_ ?_; · omega) | simp -dsimp -implicitDefEqProofs (disch := omega) only [VCA, Nat.reduceLT, ↓reduceIte, exists_eq_left', a1, a2, a3, q1, q2, q3])
    have hbm : ∀ x ∈ bkI o o.length, inD d x.2 := fun x hx => by
      have h1 : x.2 ∈ (bkI o o.length).map (·.2) := List.mem_map.2 ⟨x, hx, rfl⟩
      rw [bkI_map o _ (Nat.le_refl _), List.take_length, List.mem_reverse] at h1
      exact bi _ h1
    obtain ⟨xs, hxs⟩ := lift_sub (Q := fun p : Nat × Int => inD d p.2) (bkI o o.length) hbm
    have hR0 : (xs.map (·.1.2)).reverse = o := by
      have : xs.map (·.1.2) = (xs.map (·.1)).map (·.2) := by rw [List.map_map]; rfl
      rw [this, hxs, bkI_map o _ (Nat.le_refl _), List.take_length, List.reverse_reverse]
    obtain ⟨hb, hhb⟩ : ∃ x, upd (upd (upd (upd h r6 (some ⟨.t 60, 1, [[F]]⟩)) r8 (some ⟨.t 22, 1, [[.emp]]⟩)) rM (some ⟨.m 63 [], 1, []⟩)) r9 (some ⟨.t 63, 1, [[.mpr rM]]⟩) = x := ⟨_, rfl⟩
    have S0 : EI h d F r6 r8 r9 rM n [] [] .emp hb := by
      rw [← hhb]
      refine ⟨by rw [upd_ne _ _ a1, upd_ne _ _ a2, upd_ne _ _ a3]; exact upd_same _ _ _, by rw [upd_ne _ _ (fun e => g2 e.symm), upd_ne _ _ (fun e => g5 e.symm)]; exact upd_same _ _ _, upd_same _ _ _, by rw [upd_ne _ _ (fun e => g1 e.symm)]; exact upd_same _ _ _, Acc.nil, ((((Sub.refl h).upd hr6).upd g9).upd g7).upd g4, ⟨hr6, g9, g4, g7⟩, fun nm => by simp⟩
    rw [hhb]
    refine RangeVC.introM (backQ_it (G := G) o (by omega) (fun p => inD d p.2) xs hxs) rfl (fun _ => rfl) (fun pre h' => ∃ seen ao, EI h d F r6 r8 r9 rM n ((pre.map (·.1.2)).reverse) seen ao h') (fun _ _ _ => False) ⟨[], .emp, S0⟩ ?_ ?_ (fun _ _ _ _ _ q => q.elim) ⟨fun pre => EI.strp S0.sub S0.cM rfl, fun _ _ _ _ q _ _ _ => q.elim⟩
    · rintro pre ⟨⟨i, k⟩, hk⟩ h' ⟨seen, ao, S⟩ hlen
      simp only at hk
      have k0 := hk.1
      have k1 := hk.2
      have ek0 : nth d.nodes k.toNat = nd d k := rfl
      have hR : ((pre ++ [(⟨(i, k), hk⟩ : { p : Nat × Int // inD d p.2 })]).map (·.1.2)).reverse = k :: (pre.map (·.1.2)).reverse := by
        rw [List.map_append, List.reverse_append]; rfl
      have hRi : ∀ j ∈ (pre.map (·.1.2)).reverse, inD d j := fun j hj => by
        rw [List.mem_reverse] at hj
        obtain ⟨x, _, rfl⟩ := List.mem_map.1 hj
        exact x.2
      have hRl : (pre.map (·.1.2)).reverse.length ≤ 200 := by rw [List.length_reverse, List.length_map]; omega
      obtain ⟨R, hRe⟩ : ∃ R, (pre.map (·.1.2)).reverse = R := ⟨_, rfl⟩
      rw [hRe] at S hR hRi hRl
      have hI : ∀ seen' ao' h2, EI h d F r6 r8 r9 rM n (k :: R) seen' ao' h2 → ∃ seen ao, EI h d F r6 r8 r9 rM n (((pre ++ [(⟨(i, k), hk⟩ : { p : Nat × Int // inD d p.2 })]).map (·.1.2)).reverse) seen ao h2 := fun s a h2 q => ⟨s, a, by rw [hR]; exact q⟩
      have nl := name_len V hk
      have cW := one_in (G := G) hG (nd d k).name ctlS (by decide +kernel) (by omega) (by decide +kernel)
      have cO := cOw k hk
      have cT := cTo k hk
      have cK := cKi k hk
      have cA := cAt k hk
      have c6 := S.c6
      have c8 := S.c8
      have c9 := S.c9
      have cM := S.cM
      cases hctl : inW (nd d k).name ctlS
      · rw [hctl] at cW
        have ht : tellM d n k = false := by unfold tellM; rw [hctl]; rfl
        simp -dsimp -implicitDefEqProofs (disch := omega) only [VCA, Nat.reduceEqDiff, Nat.reduceAdd, Nat.reduceLeDiff, ↓reduceIte, rsOf, rootsOf, rootL, eBkI]
        repeat' (first | ((with_reducible refine brC (fun _ => ?_) fun _ => ?_) <;> try (exfalso; omega)) | (with_reducible apply pcallE.of; · exact cW) | (with_reducible refine And.intro ?_ ?_; · omega) | simp -dsimp -implicitDefEqProofs (disch := omega) only [↓vcD_sp 39, ↓vcD_sp 46, VCA, Nat.reduceEqDiff, Nat.reduceAdd, Nat.reduceLeDiff, ↓reduceIte, rsOf, rootsOf, rootL, eNode, ek0, ek2])
        exact hI _ _ _ (S.skip ht)
      · rw [hctl] at cW
        obtain ⟨ow, how⟩ : ∃ x, ownM d o k = x := ⟨_, rfl⟩
        rw [how] at cO
        by_cases hown : ow = n
        · have bown : (ow != n) = false := by simpa using hown
          cases htd : toldM d k
          · rw [htd] at cT
            have ht : tellM d n k = false := by unfold tellM; rw [htd, Bool.and_false, Bool.and_false]
            simp -dsimp -implicitDefEqProofs (disch := omega) only [VCA, Nat.reduceEqDiff, Nat.reduceAdd, Nat.reduceLeDiff, ↓reduceIte, rsOf, rootsOf, rootL, eBkI]
            repeat' (first | ((with_reducible refine brC (fun _ => ?_) fun _ => ?_) <;> try (exfalso; omega)) | (with_reducible apply pcallE.of; · exact cW) | (with_reducible apply pcallE.of; · exact cO) | (with_reducible apply pcallE.of; · exact cT) | (with_reducible refine And.intro ?_ ?_; · omega) | simp -dsimp -implicitDefEqProofs (disch := omega) only [↓vcD_sp 39, ↓vcD_sp 46, VCA, Nat.reduceEqDiff, Nat.reduceAdd, Nat.reduceLT, Nat.reduceLeDiff, ↓reduceIte, rsOf, rootsOf, exists_eq_left', rootL, eNode, ek0, ek2, c6, bown])
            exact hI _ _ _ (S.skip ht)
          · rw [htd] at cT
            have ht : tellM d n k = true := by unfold tellM; rw [htd, hctl, ho, how, hown]; simp
            cases hrd : radM d k
            · have brd : (kindM d k == [114, 97, 100, 105, 111]) = false := hrd
              simp -dsimp -implicitDefEqProofs (disch := omega) only [VCA, Nat.reduceEqDiff, Nat.reduceAdd, Nat.reduceLeDiff, ↓reduceIte, rsOf, rootsOf, rootL, eBkI]
              repeat' (first | ((with_reducible refine brC (fun _ => ?_) fun _ => ?_) <;> try (exfalso; omega)) | (with_reducible apply pcallE.of; · exact cW) | (with_reducible apply pcallE.of; · exact cO) | (with_reducible apply pcallE.of; · exact cT) | (with_reducible apply pcallE.of; · exact cK) | (with_reducible refine And.intro ?_ ?_; · omega) | simp -dsimp -implicitDefEqProofs (disch := omega) only [↓vcD_sp 39, ↓vcD_sp 46, VCA, Nat.reduceEqDiff, Nat.reduceAdd, Nat.reduceLT, Nat.reduceLeDiff, ↓reduceIte, rsOf, rootsOf, exists_eq_left', rootL, eNode, ek0, ek2, c6, bown, brd, c8])
              refine DCalls.of (cEn k hk h') ?_
              rintro v h2 ⟨A1, S1⟩
              have d8 := S1 _ _ c8
              have d6 := S1 _ _ c6
              have nv : ∀ r o, h' r = some o → rootOf v ≠ some r := fun r o hr e => by have := (OwnS.of_acc A1).2.1 r e; rw [hr] at this; cases this
              have hlt : lateM d n R k = false := by unfold lateM; rw [hrd, Bool.false_and]
              have hent : entL d n (k :: R) = entsOf d k ++ entL d n R := by rw [entL, if_pos ⟨ht, hlt⟩]
              have hsn : ∀ nm, nm ∈ seen ↔ (k :: R).any (fun k => tellM d n k && (radM d k && attD d k [110, 97, 109, 101] == nm)) = true := fun nm => by rw [S.seen nm, List.any_cons, hrd, Bool.false_and, Bool.and_false, Bool.false_or]
              have l1 := entsOf_len V hk
              have l2 := entL_len V n R hRi
              rcases S.acc with ⟨hnil, hao⟩ | ⟨rO, hO0, hO1, hao⟩
              · subst hao
                repeat' (first | ((with_reducible refine brC (fun _ => ?_) fun _ => ?_) <;> try (exfalso; omega)) | (with_reducible refine And.intro ?_ ?_; · omega) | simp -dsimp -implicitDefEqProofs (disch := omega) only [VCA, Nat.reduceEqDiff, Nat.reduceBEq, ↓reduceIte, SOp.rd, SI.rd, SX.rd, rdL, implies_true, exists_eq_left, c6, c8, d6, d8])
                refine A1.appW S1 (by simp only [List.length_map, List.length_nil]; omega) (by simp only [List.length_map, List.length_nil]; omega) fun a3 h3 A3 S3 kp => ?_
                have e8 := kp _ _ d8 (nv _ _ c8)
                have iv := (OwnS.of_acc A3).1.isV
                repeat' (first | ((with_reducible refine brC (fun _ => ?_) fun _ => ?_) <;> try (exfalso; omega)) | (with_reducible refine And.intro ?_ ?_; · omega) | simp -dsimp -implicitDefEqProofs (disch := omega) only [VCA, Nat.reduceEqDiff, Nat.reduceBEq, Nat.reduceLT, ↓reduceIte, SOp.rd, SI.rd, SX.rd, setAt, implies_true, exists_eq_left', d8, e8.1, iv.1, iv.2])
                refine hI _ _ _ (EI.add S.sub S.fr (by rw [hnil]; exact A3) S3 e8.2 (kp _ _ d6 (nv _ _ c6)).1 e8.1 (kp _ _ (S1 _ _ c9) (nv _ _ c9)).1 (kp _ _ (S1 _ _ cM) (nv _ _ cM)).1 hent hsn)
              · have dO := S1 _ _ hO1
                subst hao
                repeat' (first | ((with_reducible refine brC (fun _ => ?_) fun _ => ?_) <;> try (exfalso; omega)) | (with_reducible refine And.intro ?_ ?_; · omega) | simp -dsimp -implicitDefEqProofs (disch := omega) only [VCA, Nat.reduceEqDiff, Nat.reduceBEq, ↓reduceIte, SOp.rd, SI.rd, SX.rd, rdL, implies_true, exists_eq_left', c6, c8, d6, d8, dO])
                rw [List.take_of_length_le (by rw [List.length_map]; exact Nat.le_refl _)]
                refine A1.appW S1 (by simp only [List.length_map]; omega) (by simp only [List.length_map]; omega) fun a3 h3 A3 S3 kp => ?_
                have e8 := kp _ _ d8 (nv _ _ c8)
                have iv := (OwnS.of_acc A3).1.isV
                repeat' (first | ((with_reducible refine brC (fun _ => ?_) fun _ => ?_) <;> try (exfalso; omega)) | (with_reducible refine And.intro ?_ ?_; · omega) | simp -dsimp -implicitDefEqProofs (disch := omega) only [VCA, Nat.reduceEqDiff, Nat.reduceBEq, Nat.reduceLT, ↓reduceIte, SOp.rd, SI.rd, SX.rd, setAt, implies_true, exists_eq_left', d8, e8.1, iv.1, iv.2])
                refine hI _ _ _ (EI.add S.sub S.fr A3 S3 e8.2 (kp _ _ d6 (nv _ _ c6)).1 e8.1 (kp _ _ (S1 _ _ c9) (nv _ _ c9)).1 (kp _ _ (S1 _ _ cM) (nv _ _ cM)).1 hent hsn)
            · have brd : (kindM d k == [114, 97, 100, 105, 111]) = true := hrd
              have hls := late_seen S.seen hrd
              by_cases hin : attD d k [110, 97, 109, 101] ∈ seen
              · simp -dsimp -implicitDefEqProofs (disch := omega) only [VCA, Nat.reduceEqDiff, Nat.reduceAdd, Nat.reduceLeDiff, ↓reduceIte, rsOf, rootsOf, rootL, eBkI]
                repeat' (first | ((with_reducible refine brC (fun _ => ?_) fun _ => ?_) <;> try (exfalso; omega)) | (with_reducible apply pcallE.of; · exact cW) | (with_reducible apply pcallE.of; · exact cO) | (with_reducible apply pcallE.of; · exact cT) | (with_reducible apply pcallE.of; · exact cK) | (with_reducible apply pcallE.of; · exact cA) | (with_reducible refine And.intro ?_ ?_; · omega) | simp -dsimp -implicitDefEqProofs (disch := omega) only [↓vcD_sp 39, ↓vcD_sp 46, VCA, Nat.reduceEqDiff, Nat.reduceBEq, Nat.reduceAdd, Nat.reduceLT, Nat.reduceLeDiff, ↓reduceIte, rsOf, rootsOf, SOp.rd, SI.rd, SX.rd, fillA, okFill, implies_true, exists_eq_left', rootL, eNode, ek0, ek2, c6, bown, brd, c9, cM, hin, aFnd_y])
                rw [decide_eq_true hin] at hls
                exact hI _ _ _ (S.late ht hrd hls)
              · obtain ⟨h1, hh1⟩ : ∃ x, upd h' rM (some ⟨.m 63 (eMs (putS (attD d k [110, 97, 109, 101]) seen)), 1, []⟩) = x := ⟨_, rfl⟩
                obtain ⟨z6, z8, z9, zM, zA, zS⟩ := S.put (attD d k [110, 97, 109, 101]) _ hh1.symm
                have m6 : ¬ r6 = rM := fun e => by have q := c6; rw [e, cM] at q; cases q
                have m8 : ¬ r8 = rM := fun e => by have q := c8; rw [e, cM] at q; cases q
                simp -dsimp -implicitDefEqProofs (disch := omega) only [VCA, Nat.reduceEqDiff, Nat.reduceAdd, Nat.reduceLeDiff, ↓reduceIte, rsOf, rootsOf, rootL, eBkI]
                repeat' (first | ((with_reducible refine brC (fun _ => ?_) fun _ => ?_) <;> try (exfalso; omega)) | (with_reducible apply pcallE.of; · exact cW) | (with_reducible apply pcallE.of; · exact cO) | (with_reducible apply pcallE.of; · exact cT) | (with_reducible apply pcallE.of; · exact cK) | (with_reducible apply pcallE.of; · exact cA) | (with_reducible refine And.intro ?_ ?_; · omega) | simp -dsimp -implicitDefEqProofs (disch := omega) only [↓vcD_sp 39, ↓vcD_sp 46, VCA, Nat.reduceEqDiff, Nat.reduceBEq, Nat.reduceAdd, Nat.reduceLT, Nat.reduceLeDiff, ↓reduceIte, rsOf, rootsOf, SOp.rd, SI.rd, SX.rd, fillA, okFill, implies_true, exists_eq_left', rootL, eNode, ek0, ek2, c6, bown, brd, c8, c9, cM, hin, aFnd_n, hh1, m6, m8])
                refine DCalls.of (cEn k hk h1) ?_
                rintro v h2 ⟨A1, S1⟩
                have d8 := S1 _ _ z8
                have d6 := S1 _ _ z6
                have nv : ∀ r o, h1 r = some o → rootOf v ≠ some r := fun r o hr e => by have := (OwnS.of_acc A1).2.1 r e; rw [hr] at this; cases this
                rw [decide_eq_false hin] at hls
                have hent : entL d n (k :: R) = entsOf d k ++ entL d n R := by rw [entL, if_pos ⟨ht, hls⟩]
                have hsn := seen_put S.seen ht hrd
                have l1 := entsOf_len V hk
                have l2 := entL_len V n R hRi
                rcases zA with ⟨hnil, hao⟩ | ⟨rO, hO0, hO1, hao⟩
                · subst hao
                  repeat' (first | ((with_reducible refine brC (fun _ => ?_) fun _ => ?_) <;> try (exfalso; omega)) | (with_reducible refine And.intro ?_ ?_; · omega) | simp -dsimp -implicitDefEqProofs (disch := omega) only [VCA, Nat.reduceEqDiff, Nat.reduceBEq, ↓reduceIte, SOp.rd, SI.rd, SX.rd, rdL, implies_true, exists_eq_left, d6, d8, m6, m8, c6, c8])
                  refine A1.appW S1 (by simp only [List.length_map, List.length_nil]; omega) (by simp only [List.length_map, List.length_nil]; omega) fun a3 h3 A3 S3 kp => ?_
                  have e8 := kp _ _ d8 (nv _ _ z8)
                  have iv := (OwnS.of_acc A3).1.isV
                  repeat' (first | ((with_reducible refine brC (fun _ => ?_) fun _ => ?_) <;> try (exfalso; omega)) | (with_reducible refine And.intro ?_ ?_; · omega) | simp -dsimp -implicitDefEqProofs (disch := omega) only [VCA, Nat.reduceEqDiff, Nat.reduceBEq, Nat.reduceLT, ↓reduceIte, SOp.rd, SI.rd, SX.rd, setAt, implies_true, exists_eq_left', d8, e8.1, iv.1, iv.2])
                  refine hI _ _ _ (EI.add zS S.fr (by rw [hnil]; exact A3) S3 e8.2 (kp _ _ d6 (nv _ _ z6)).1 e8.1 (kp _ _ (S1 _ _ z9) (nv _ _ z9)).1 (kp _ _ (S1 _ _ zM) (nv _ _ zM)).1 hent hsn)
                · have dO := S1 _ _ hO1
                  subst hao
                  repeat' (first | ((with_reducible refine brC (fun _ => ?_) fun _ => ?_) <;> try (exfalso; omega)) | (with_reducible refine And.intro ?_ ?_; · omega) | simp -dsimp -implicitDefEqProofs (disch := omega) only [VCA, Nat.reduceEqDiff, Nat.reduceBEq, ↓reduceIte, SOp.rd, SI.rd, SX.rd, rdL, implies_true, exists_eq_left', d6, d8, dO, m6, m8, c6, c8])
                  rw [List.take_of_length_le (by rw [List.length_map]; exact Nat.le_refl _)]
                  refine A1.appW S1 (by simp only [List.length_map]; omega) (by simp only [List.length_map]; omega) fun a3 h3 A3 S3 kp => ?_
                  have e8 := kp _ _ d8 (nv _ _ z8)
                  have iv := (OwnS.of_acc A3).1.isV
                  repeat' (first | ((with_reducible refine brC (fun _ => ?_) fun _ => ?_) <;> try (exfalso; omega)) | (with_reducible refine And.intro ?_ ?_; · omega) | simp -dsimp -implicitDefEqProofs (disch := omega) only [VCA, Nat.reduceEqDiff, Nat.reduceBEq, Nat.reduceLT, ↓reduceIte, SOp.rd, SI.rd, SX.rd, setAt, implies_true, exists_eq_left', d8, e8.1, iv.1, iv.2])
                  refine hI _ _ _ (EI.add zS S.fr A3 S3 e8.2 (kp _ _ d6 (nv _ _ z6)).1 e8.1 (kp _ _ (S1 _ _ z9) (nv _ _ z9)).1 (kp _ _ (S1 _ _ zM) (nv _ _ zM)).1 hent hsn)
        · have bown : (ow != n) = true := by simpa using hown
          have ht : tellM d n k = false := by
            unfold tellM; rw [ho, how, show (ow == n) = false by simpa using hown, Bool.false_and, Bool.and_false]
          simp -dsimp -implicitDefEqProofs (disch := omega) only [VCA, Nat.reduceEqDiff, Nat.reduceAdd, Nat.reduceLeDiff, ↓reduceIte, rsOf, rootsOf, rootL, eBkI]
          repeat' (first | ((with_reducible refine brC (fun _ => ?_) fun _ => ?_) <;> try (exfalso; omega)) | (with_reducible apply pcallE.of; · exact cW) | (with_reducible apply pcallE.of; · exact cO) | (with_reducible refine And.intro ?_ ?_; · omega) | simp -dsimp -implicitDefEqProofs (disch := omega) only [↓vcD_sp 39, ↓vcD_sp 46, VCA, Nat.reduceEqDiff, Nat.reduceAdd, Nat.reduceLT, Nat.reduceLeDiff, ↓reduceIte, rsOf, rootsOf, exists_eq_left', rootL, eNode, ek0, ek2, c6, bown])
          exact hI _ _ _ (S.skip ht)
    · rintro h' ⟨seen, ao, S⟩
      rw [hR0] at S
      have c8 := S.c8
      have aL := S.acc.len
      simp only [List.length_map] at aL
      have hv : Vw (newH h h') ao (sl eEnt (entL d n o)) := (OwnS.of_acc S.acc).1.vwN fun r hr => (OwnS.of_acc S.acc).2.1 r hr
      by_cases h100 : 100 < (entL d n o).length
      · have d1 : decide ((100 : Int) < ((entL d n o).length : Int)) = true := decide_eq_true (by omega)
        rw [if_pos h100]
        repeat' (first | ((with_reducible refine brC (fun _ => ?_) fun _ => ?_) <;> try (exfalso; omega)) | (with_reducible refine And.intro ?_ ?_; · omega) | simp -dsimp -implicitDefEqProofs (disch := omega) only [VCA, Nat.reduceEqDiff, Nat.reduceLT, ↓reduceIte, exists_eq_left', c8, aL.1, aL.2, d1])
        all_goals first | exact ⟨_, Sub.refl _, S.sub, .tup' (.cons .emp (.cons (.refl _) .nil))⟩ | trace_state
      · have d1 : decide ((100 : Int) < ((entL d n o).length : Int)) = false := decide_eq_false (by omega)
        rw [if_neg h100]
        repeat' (first | ((with_reducible refine brC (fun _ => ?_) fun _ => ?_) <;> try (exfalso; omega)) | (with_reducible refine And.intro ?_ ?_; · omega) | simp -dsimp -implicitDefEqProofs (disch := omega) only [VCA, Nat.reduceEqDiff, Nat.reduceLT, ↓reduceIte, exists_eq_left', c8, aL.1, aL.2, d1])
        all_goals first | exact ⟨_, Sub.refl _, S.sub, .tup' (.cons hv (.cons (.refl _) .nil))⟩ | trace_state
  · rw [if_pos h0]
    obtain ⟨x, hx⟩ : ∃ x, ctlE d n [102, 111, 114, 109] = x := ⟨_, rfl⟩
    rw [hx] at cC h0 ⊢
    unfold eDoc at cC
    have bx : (x != 0) = true := by simpa using h0
    have vF : isV (fA d (orderD d)) = true := rfl
    have wF : cellsOf (fA d (orderD d)) = [fA d (orderD d)] := rfl
    obtain ⟨F, hF⟩ : ∃ F, fA d (orderD d) = F := ⟨_, rfl⟩
    rw [hF] at cC vF wF
    refine dcalls_of_vc Tryz.func14 hn14 hc14 (by rw [Tryz.ntmps14]; simp) (by rw [Tryz.ntmps14]; decide) ?_
    simp -dsimp -implicitDefEqProofs (disch := omega) only [VCA, Nat.reduceEqDiff, Nat.reduceAdd, ↓reduceIte, c14, eDoc]
    repeat' (first | ((with_reducible refine brC (fun _ => ?_) fun _ => ?_) <;> try (exfalso; omega)) | (with_reducible apply pcallE.of; · exact cC) | (with_reducible refine And.intro ?_ ?_; · omega) | simp -dsimp -implicitDefEqProofs (disch := omega) only [VCA, Nat.reduceEqDiff, Nat.reduceAdd, Nat.reduceLT, ↓reduceIte, setAt, exists_eq_left', bx, vF, wF])
    intro r6 hr6
    repeat' (first | ((with_reducible refine brC (fun _ => ?_) fun _ => ?_) <;> try (exfalso; omega)) | (with_reducible refine And.intro ?_ ?_; · omega) | simp -dsimp -implicitDefEqProofs (disch := omega) only [↓vcOps_sp 39, ↓vcD_sp 39, ↓vcOps_sp 46, ↓vcD_sp 46, VCA, pg_gl, ↓upd_none, Nat.reduceEqDiff, Nat.reduceBEq, Nat.reduceAdd, Nat.reduceSub, Nat.reduceMul, Nat.reduceLT, Nat.reduceLeDiff, ↓reduceIte, reduceCtorEq, rsOf, rootsOf, SOp.rd, SI.rd, SX.rd, rdL, rdO, rdP, okParts, eqCells, okEqCells, fillA, okFill, setAt, implies_true, forall_const, forall_eq, ne_eq, exists_eq_right_right, exists_eq_right, exists_eq_left, exists_eq_left', rootL, eInt, eStr, eAttr, eEnt, lit_eq, bx, vF, wF, upd_same])
    exact ⟨_, Sub.refl _, (Sub.refl h).upd hr6, .tup' (.cons .emp (.cons (.refl _) .nil))⟩
end Go.Proofs.K
end
section
set_option linter.unusedSimpArgs false
set_option linter.unusedVariables false
namespace Go.Proofs.K
open Go Go.Sim Go.Proofs
variable {G : Glob}
def formD : HDoc := ⟨[⟨1, [], [], [], -1, [1]⟩, ⟨2, [102, 111, 114, 109], [], [], 0, [2]⟩, ⟨2, [105, 110, 112, 117, 116], [⟨[110, 97, 109, 101], [113]⟩, ⟨[118, 97, 108, 117, 101], [97, 32, 98]⟩], [], 1, []⟩], false⟩
theorem formD_sm : DocSm formD := ⟨by decide, by
  intro x hx
  have : x = ⟨1, [], [], [], -1, [1]⟩ ∨ x = ⟨2, [102, 111, 114, 109], [], [], 0, [2]⟩ ∨ x = ⟨2, [105, 110, 112, 117, 116], [⟨[110, 97, 109, 101], [113]⟩, ⟨[118, 97, 108, 117, 101], [97, 32, 98]⟩], [], 1, []⟩ := by simpa [formD] using hx
  rcases this with rfl | rfl | rfl <;> exact ⟨by decide, by decide, by decide, by decide, by decide⟩⟩
def c29 : SFun := ⟨.seq (.reg [⟨some 0, .new 36 2 [.emp, .bool false], none⟩]) (.seq (.reg [⟨some 1, .bldF 3 1 [.c (.int .i64 1)], none⟩, ⟨some 2, .bld [.int .i64 0, .str [], .emp, .str [], .int .i64 0, .emp] [(0, (1, (.c (.int .i64 1)))), (4, (1, (.c (.int .i64 (-1))))), (5, (1, (.t 1)))], none⟩, ⟨some 3, .bldF 3 1 [.c (.int .i64 2)], none⟩, ⟨some 4, .bld [.int .i64 0, .str [], .emp, .str [], .int .i64 0, .emp] [(0, (1, (.c (.int .i64 2)))), (1, (1, (.c (.str [102, 111, 114, 109])))), (5, (1, (.t 3)))], none⟩, ⟨some 5, .bld [.str [], .str []] [(0, (1, (.c (.str [110, 97, 109, 101])))), (1, (1, (.c (.str [113]))))], none⟩, ⟨some 6, .bld [.str [], .str []] [(0, (1, (.c (.str [118, 97, 108, 117, 101])))), (1, (1, (.c (.str [97, 32, 98]))))], none⟩, ⟨some 7, .bldF 108 2 [.t 5, .t 6], none⟩, ⟨some 8, .bld [.int .i64 0, .str [], .emp, .str [], .int .i64 0, .emp] [(0, (1, (.c (.int .i64 2)))), (1, (1, (.c (.str [105, 110, 112, 117, 116])))), (4, (1, (.c (.int .i64 1)))), (2, (1, (.t 7)))], none⟩, ⟨some 9, .bldF 73 6 [.t 2, .t 4, .t 8], none⟩, ⟨some 10, .bld [.emp, .bool false] [(0, (1, (.t 9)))], none⟩, ⟨none, .st 2 (.t 0) (.t 10), none⟩]) .ret), [.cell 0 2 true]⟩
theorem hc29 : toSF Tryz.prog {} Tryz.f29 = some c29 := by kernel_rfl
theorem hn29 : (Tryz.f29.name == "runtime.NumGoroutine") = false := by kernel_rfl
theorem oneForm_ok : PCalls (Pg G) 29 [] (.agg (eDoc formD)) := fun h => by
  refine DCalls.res (K := fun a h' => a = .agg [.slc [[.int .i64 1, .str [], .emp, .str [], .int .i64 (-1), .slc [[.int .i64 1]]], [.int .i64 2, .str [102, 111, 114, 109], .emp, .str [], .int .i64 0, .slc [[.int .i64 2]]], [.int .i64 2, .str [105, 110, 112, 117, 116], .slc [[.str [110, 97, 109, 101], .str [113]], [.str [118, 97, 108, 117, 101], .str [97, 32, 98]]], .str [], .int .i64 1, .emp]], .bool false] ∧ h' = h) ?_ ?_
  · refine dcalls_of_vc Tryz.func29 hn29 hc29 (by rw [Tryz.ntmps29]; simp) (by rw [Tryz.ntmps29]; decide) ?_
    simp -dsimp -implicitDefEqProofs (disch := omega) only [VCA, Nat.reduceEqDiff, Nat.reduceAdd, Nat.reduceLT, Nat.reduceLeDiff, ↓reduceIte, reduceCtorEq, okParts, fillA, okFill, setAt, exists_eq_right_right, exists_eq_left', c29]
    intro r hr
    exact (Sub.refl _).upd hr
  · rintro a h' ⟨rfl, rfl⟩
    exact ⟨_, Wk.agg' (.cons (Wk.slc' (.cons (.cons (.refl _) (.cons (.refl _) (.cons .emp (.cons (.refl _) (.cons (.refl _) (.cons (.refl _) .nil)))))) (.cons (.cons (.refl _) (.cons (.refl _) (.cons .emp (.cons (.refl _) (.cons (.refl _) (.cons (.refl _) .nil)))))) (.cons (.cons (.refl _) (.cons (.refl _) (.cons (.refl _) (.cons (.refl _) (.cons (.refl _) (.cons .emp .nil)))))) .nil)))) (.cons (.refl _) .nil)), rfl, rfl⟩
end Go.Proofs.K
end
