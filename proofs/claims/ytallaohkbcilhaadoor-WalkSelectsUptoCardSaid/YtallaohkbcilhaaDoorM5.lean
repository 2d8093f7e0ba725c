/- Texts of this claim, one behind the other. -/
import Derived.Test.YtallaohkbcilhaaDoorM4
import Derived.Test.YtallaohkbcilhaaDoorM3
section
/- Ways through a tree: check, Step; the reference. -/
set_option linter.unusedSimpArgs false
set_option linter.unusedVariables false
namespace Go.Proofs.K
open Go Go.Sim Go.Proofs
variable {G : Glob}
theorem eDoc_len (d : HDoc) : (eDoc d).length = 2 := rfl
theorem eDoc_take (d : HDoc) : (eDoc d).take 2 = eDoc d := rfl
theorem docE_DV {d : HDoc} (h : docE d = 0) : DV d := (docE_iff d).1 h
/-- what check answers -/
def walkE (d : HDoc) (l : List Int) : Int :=
  if docE d ≠ 0 then docE d else if ∀ n ∈ l, inD d n then (if ∀ n ∈ l, 0 ∈ chain d n then 0 else 5) else 1
theorem walkE_bad {d : HDoc} {l : List Int} (h : docE d ≠ 0) : walkE d l = docE d := by unfold walkE; rw [if_pos h]
theorem walkE_out {d : HDoc} {l : List Int} {k : Nat} (h : docE d = 0) (hk : k < l.length) (ho : ¬ inD d (nth l k)) : walkE d l = 1 := by
  unfold walkE; rw [if_neg (by simpa using h), if_neg fun hh => ho (hh _ (nth_mem' hk))]
theorem walkE_off {d : HDoc} {l : List Int} {k : Nat} (h : docE d = 0) (hi : ∀ n ∈ l, inD d n) (hk : k < l.length) (ho : 0 ∉ chain d (nth l k)) : walkE d l = 5 := by
  unfold walkE; rw [if_neg (by simpa using h), if_pos hi, if_neg fun hh => ho (hh _ (nth_mem' hk))]
theorem walkE_ok {d : HDoc} {l : List Int} (h : docE d = 0) (hi : ∀ n ∈ l, inD d n) (hc : ∀ n ∈ l, 0 ∈ chain d n) : walkE d l = 0 := by
  unfold walkE; rw [if_neg (by simpa using h), if_pos hi, if_pos hc]
theorem walkE_zero {d : HDoc} {l : List Int} (h : walkE d l = 0) : docE d = 0 ∧ (∀ n ∈ l, inD d n) ∧ ∀ n ∈ l, 0 ∈ chain d n := by
  unfold walkE at h
  split at h
  · rename_i h1; exact absurd h h1
  · rename_i h1
    split at h
    · rename_i h2
      split at h
      · rename_i h3; exact ⟨by simpa using h1, h2, h3⟩
      · omega
    · omega
theorem chain_rev0 {d : HDoc} (V : DV d) : ∀ n, inD d n → (nth (chain d n).reverse 0 = 0 ↔ 0 ∈ chain d n) := V.rise fun n hn ih => by
  have hr : ∀ l : List Int, l ≠ [] → nth l.reverse 0 = l.getLastD (-1) := fun l hl => by
    rw [getLastD_nth hl]
    unfold nth
    rw [List.getD_eq_getElem?_getD, List.getD_eq_getElem?_getD, List.getElem?_reverse (List.length_pos_iff.2 hl)]
    simp
  have hne : ∀ m, chain d m ≠ [] := fun m => List.ne_nil_of_mem (chain_self d m)
  rw [hr _ (hne n)]
  by_cases hp : 0 ≤ (nd d n).parent
  · have ih := ih hp
    rw [hr _ (hne _)] at ih
    rw [chain_up V hn hp, show n :: chain d (nd d n).parent = [n] ++ chain d (nd d n).parent from rfl, getLastD_append (hne _), ih]
    have : ¬ (0 : Int) = n := fun e => by subst e; have := V.root; omega
    simp [this]
  · rw [chain_top V hp]
    simp
    exact eq_comm
theorem nth_reverse_len (d : HDoc) (n : Int) : 0 < (chain d n).reverse.length := by rw [List.length_reverse]; exact List.length_pos_iff.2 (List.ne_nil_of_mem (chain_self d n))
theorem all_of_nth {l : List Int} {p : Int → Prop} (h : ∀ j, j < l.length → p (nth l j)) : ∀ n ∈ l, p n := fun n hn => by
  obtain ⟨j, hj, rfl⟩ := mem_nth hn
  exact h j hj
def wPin (d : HDoc) (e : Int) : AVal := if e = 0 then .pin (eDoc d) else .prim (.pointer none)
def c11 : SFun := ⟨(.seq (.reg [⟨(some 2), (.boxF 24 2 (.t 0)), none⟩, ⟨(some 4), (.mv (.c (.prim (Value.pointer none)))), none⟩, ⟨(some 5), (.mv (.c (.int .i64 (0)))), none⟩]) (.seq (.seq (.reg [⟨(some 12), (.ld 2 true (.t 2)), none⟩, ⟨(some 13), (.pcall 22 [(.t 12)]), none⟩, ⟨(some 6), (.mv (.t 13)), none⟩]) (.seq (.reg [⟨(some 14), (.mv (.t 6)), none⟩, ⟨(some 15), (.bin .neq (.t 14) (.c (.int .i64 (0)))), none⟩]) (.cond (.t 15) (.seq (.reg [⟨(some 16), (.mv (.t 6)), none⟩, ⟨(some 4), (.mv (.c (.prim (Value.pointer none)))), none⟩, ⟨(some 5), (.mv (.t 16)), none⟩]) .ret) .skip))) (.seq (.reg [⟨(some 17), (.ld 2 true (.t 2)), none⟩, ⟨(some 18), (.bld [.emp, (.bool false)] [(0, (2, (.t 17)))]), none⟩, ⟨(some 19), (.boxF 45 2 (.t 18)), none⟩, ⟨(some 7), (.mv (.t 19)), none⟩]) (.seq (.seq (.reg [⟨(some 20), (.mv (.t 1)), none⟩, ⟨(some 21), (.len (.t 20)), none⟩, ⟨(some 22), (.mv (.c (.int .i64 (0)))), none⟩]) (.block 0 (.loop (.seq (.reg [⟨(some 23), (.bin .lss (.t 22) (.t 21)), none⟩]) (.seq (.cond (.t 23) .skip (.exit 0)) (.seq (.block 1 (.seq (.reg [⟨(some 24), (.idxA 1 (.t 20) (.t 22)), none⟩, ⟨(some 25), (.ld 1 false (.t 24)), none⟩, ⟨(some 9), (.mv (.t 25)), none⟩]) (.seq (.reg [⟨(some 26), (.mv (.t 9)), none⟩, ⟨(some 27), (.bin .lss (.t 26) (.c (.int .i64 (0)))), none⟩, ⟨(some 28), (.mv (.t 27)), none⟩, ⟨(some 29), (.mv (.t 9)), (some (28, false))⟩, ⟨(some 30), (.fldA 0 (.t 2)), (some (28, false))⟩, ⟨(some 31), (.ld 1 false (.t 30)), (some (28, false))⟩, ⟨(some 32), (.len (.t 31)), (some (28, false))⟩, ⟨(some 33), (.bin .geq (.t 29) (.t 32)), (some (28, false))⟩, ⟨(some 34), (.pick (.t 28) (.c (.bool true)) (.t 33)), none⟩]) (.cond (.t 34) (.seq (.reg [⟨(some 4), (.mv (.c (.prim (Value.pointer none)))), none⟩, ⟨(some 5), (.mv (.c (.int .i64 (1)))), none⟩]) .ret) .skip)))) (.reg [⟨(some 35), (.bin .add (.t 22) (.c (.int .i64 (1)))), none⟩, ⟨(some 22), (.mv (.t 35)), none⟩]))))))) (.seq (.seq (.reg [⟨(some 36), (.mv (.t 1)), none⟩, ⟨(some 37), (.len (.t 36)), none⟩, ⟨(some 38), (.mv (.c (.int .i64 (0)))), none⟩]) (.block 2 (.loop (.seq (.reg [⟨(some 39), (.bin .lss (.t 38) (.t 37)), none⟩]) (.seq (.cond (.t 39) .skip (.exit 2)) (.seq (.block 3 (.seq (.reg [⟨(some 40), (.idxA 1 (.t 36) (.t 38)), none⟩, ⟨(some 41), (.ld 1 false (.t 40)), none⟩, ⟨(some 11), (.mv (.t 41)), none⟩]) (.seq (.reg [⟨(some 42), (.mv (.t 7)), none⟩, ⟨(some 43), (.mv (.t 11)), none⟩, ⟨(some 44), (.pcall 23 [(.t 42), (.t 43)]), none⟩, ⟨(some 45), (.idxA 1 (.t 44) (.c (.int .i64 (0)))), none⟩, ⟨(some 46), (.ld 1 false (.t 45)), none⟩, ⟨(some 47), (.bin .neq (.t 46) (.c (.int .i64 (0)))), none⟩]) (.cond (.t 47) (.seq (.reg [⟨(some 4), (.mv (.c (.prim (Value.pointer none)))), none⟩, ⟨(some 5), (.mv (.c (.int .i64 (5)))), none⟩]) .ret) .skip)))) (.reg [⟨(some 48), (.bin .add (.t 38) (.c (.int .i64 (1)))), none⟩, ⟨(some 38), (.mv (.t 48)), none⟩]))))))) (.seq (.reg [⟨(some 49), (.mv (.t 7)), none⟩, ⟨(some 4), (.mv (.t 49)), none⟩, ⟨(some 5), (.mv (.c (.int .i64 (0)))), none⟩]) .ret)))))), [(.tmp 4), (.tmp 5)]⟩
theorem hc11 : toSF Tryd.prog {pure := [23, 22]} Tryd.f11 = some c11 := by kernel_rfl
theorem hn11 : (Tryd.f11.name == "runtime.NumGoroutine") = false := by kernel_rfl
theorem wcheck_ok (d : HDoc) (sm : DocSm d) (l : List Int) (hl : l.length ≤ 1073741824) : PCalls (Pg G) 11 [.agg (eDoc d), sl eInt l] (.tup [wPin d (walkE d l), aInt (walkE d l)]) := fun h => by
  have dl := sm.len
  refine dcalls_of_vc Tryd.func11 hn11 hc11 (by rw [Tryd.ntmps11]; simp) (by rw [Tryd.ntmps11]; decide) ?_
  simp -dsimp -implicitDefEqProofs (disch := omega) only [VCA, Nat.reduceEqDiff, ↓reduceIte, c11, eDoc_len, eDoc_take]
  refine pcallE.of (check_ok (G := G) d sm) ?_; simp -dsimp -implicitDefEqProofs (disch := omega) only [VCA, ↓reduceIte]
  refine Br.ne (fun h1 => ?_) (fun h1 => ?_)
  · simp -dsimp -implicitDefEqProofs (disch := omega) only [VCA, Nat.reduceEqDiff, ↓reduceIte, exists_eq_right_right]
    rw [walkE_bad h1]
    unfold wPin; rw [if_neg h1]
    exact ⟨Sub.refl _, rfl⟩
  · have V := docE_DV h1
    simp -dsimp -implicitDefEqProofs (disch := omega) only [VCA, Nat.reduceEqDiff, Nat.reduceAdd, ↓reduceIte, fillA, okFill, eDoc]
    refine LoopVC.intro (fun m e h' => ∃ k : Nat, k ≤ l.length ∧ m = l.length - k ∧ e 1 = sl eInt l ∧ e 2 = .pin (eDoc d) ∧ e 7 = .pin (eDoc d) ∧ e 20 = sl eInt l ∧ e 21 = aInt l.length ∧ e 22 = aInt k ∧ h' = h ∧ ∀ j, j < k → inD d (nth l j)) l.length ⟨0, by omega, by omega, rfl, rfl, rfl, rfl, rfl, rfl, rfl, by omega⟩ ?_
    rintro m e h' ⟨k, hk, rfl, he1, he2, he7, he20, he21, he22, rfl, hj⟩
    simp -dsimp -implicitDefEqProofs (disch := omega) only [VCA, ↓reduceIte, he21, he22]
    refine Br.dec (fun hlt => ?_) (fun hge => ?_)
    · have hk' : k < l.length := by omega
      simp -dsimp -implicitDefEqProofs (disch := omega) only [↓vcOps_sp 28, VCA, Nat.reduceEqDiff, ↓reduceIte, eInt, he20, he22, eDoc]
      by_cases hin : inD d (nth l k)
      · have q0 := hin.1
        have q1 := hin.2
        repeat' (first | ((with_reducible refine Br.dec (fun _ => ?_) (fun _ => ?_)) <;> try (exfalso; omega)) | ((with_reducible refine Br.eq (fun _ => ?_) (fun _ => ?_)) <;> try (exfalso; omega)) | ((with_reducible refine Br.ne (fun _ => ?_) (fun _ => ?_)) <;> try (exfalso; omega)) | ((with_reducible refine brNdec (fun _ => ?_) (fun _ => ?_)) <;> try (exfalso; omega)) | ((with_reducible refine brNeq (fun _ => ?_) (fun _ => ?_)) <;> try (exfalso; omega)) | with_reducible refine Br.intro (fun _ => ?_) (fun _ => ?_) | (with_reducible refine And.intro ?_ ?_; · omega) | simp -dsimp -implicitDefEqProofs (disch := omega) only [VCA, Nat.reduceEqDiff, Nat.reduceAdd, Nat.reduceLeDiff, ↓reduceIte, he1, he2, he7, he20, he21, he22, eDoc])
        refine ⟨_, by omega, k + 1, by omega, rfl, by omega, fun j hj' => ?_⟩
        by_cases hjk : j = k
        · subst hjk; exact hin
        · exact hj j (by omega)
      · have hw := walkE_out h1 hk' hin
        have hw2 : wPin d 1 = .prim (.pointer none) := rfl
        unfold inD at hin
        rw [hw, hw2]
        repeat' (first | ((with_reducible refine Br.dec (fun _ => ?_) (fun _ => ?_)) <;> try (exfalso; omega)) | ((with_reducible refine Br.eq (fun _ => ?_) (fun _ => ?_)) <;> try (exfalso; omega)) | ((with_reducible refine Br.ne (fun _ => ?_) (fun _ => ?_)) <;> try (exfalso; omega)) | ((with_reducible refine brNdec (fun _ => ?_) (fun _ => ?_)) <;> try (exfalso; omega)) | ((with_reducible refine brNeq (fun _ => ?_) (fun _ => ?_)) <;> try (exfalso; omega)) | with_reducible refine Br.intro (fun _ => ?_) (fun _ => ?_) | (with_reducible refine And.intro ?_ ?_; · omega) | simp -dsimp -implicitDefEqProofs (disch := omega) only [VCA, Nat.reduceEqDiff, Nat.reduceAdd, Nat.reduceLeDiff, ↓reduceIte, exists_eq_right, he2, eDoc])
        all_goals exact Sub.refl _
    · obtain rfl : k = l.length := by omega
      have hin := all_of_nth hj
      simp -dsimp -implicitDefEqProofs (disch := omega) only [VCA, Nat.reduceEqDiff, ↓reduceIte, he1]
      refine LoopVC.intro (fun m e h2 => ∃ k : Nat, k ≤ l.length ∧ m = l.length - k ∧ e 7 = .pin (eDoc d) ∧ e 36 = sl eInt l ∧ e 37 = aInt l.length ∧ e 38 = aInt k ∧ h2 = h' ∧ ∀ j, j < k → 0 ∈ chain d (nth l j)) l.length ⟨0, by omega, by omega, he7, rfl, rfl, rfl, rfl, by omega⟩ ?_
      rintro m e h2 ⟨k, hk, rfl, he7, he36, he37, he38, rfl, hj2⟩
      simp -dsimp -implicitDefEqProofs (disch := omega) only [VCA, ↓reduceIte, he37, he38]
      refine Br.dec (fun hlt => ?_) (fun hge => ?_)
      · have hk' : k < l.length := by omega
        have hn := hj k hk'
        have hr := chain_rev0 V _ hn
        have hrl := nth_reverse_len d (nth l k)
        simp -dsimp -implicitDefEqProofs (disch := omega) only [VCA, Nat.reduceEqDiff, ↓reduceIte, eInt, he7, he36, he38]
        refine ⟨by omega, ?_⟩
        refine pcallE.of (path_ok (G := G) d V sm (nth l k) hn) ?_; simp -dsimp -implicitDefEqProofs (disch := omega) only [VCA, ↓reduceIte, eInt]
        refine ⟨by omega, Br.ne (fun h3 => ?_) (fun h3 => ?_)⟩
        · have hw := walkE_off h1 hin hk' (fun hh => h3 (hr.2 hh))
          have hw2 : wPin d 5 = .prim (.pointer none) := rfl
          rw [hw, hw2]
          simp -dsimp -implicitDefEqProofs (disch := omega) only [VCA, Nat.reduceEqDiff, ↓reduceIte, exists_eq_right]
          exact Sub.refl _
        · simp -dsimp -implicitDefEqProofs (disch := omega) only [VCA, Nat.reduceEqDiff, ↓reduceIte, he7, he36, he37, he38]
          refine ⟨_, by omega, k + 1, by omega, rfl, by omega, fun j hj' => ?_⟩
          by_cases hjk : j = k
          · subst hjk; exact hr.1 h3
          · exact hj2 j (by omega)
      · obtain rfl : k = l.length := by omega
        simp -dsimp -implicitDefEqProofs (disch := omega) only [VCA, Nat.reduceEqDiff, ↓reduceIte, exists_eq_right_right, he7]
        rw [walkE_ok h1 hin (all_of_nth hj2)]
        exact ⟨Sub.refl _, rfl⟩
theorem walkE_nil (d : HDoc) : walkE d [] = docE d := by
  unfold walkE; by_cases h : docE d = 0 <;> simp [h]
theorem wcheck0_ok (d : HDoc) (sm : DocSm d) : PCalls (Pg G) 11 [.agg (eDoc d), .emp] (.tup [wPin d (docE d), aInt (docE d)]) := by
  have h := wcheck_ok (G := G) d sm [] (by simp)
  rw [walkE_nil] at h
  exact h.wk (.cons (.refl _) (.cons .emp .nil))
def stepE (d : HDoc) (n how : Int) : Int := if docE d ≠ 0 then docE d else if how < 1 ∨ 8 < how then 1 else walkE d [n]
def c19 : SFun := ⟨(.seq (.reg [⟨(some 3), (.boxF 24 2 (.t 0)), none⟩, ⟨(some 6), (.mv (.c (.int .i64 (0)))), none⟩, ⟨(some 7), (.mv (.c (.bool false))), none⟩, ⟨(some 8), (.mv (.c (.int .i64 (0)))), none⟩]) (.seq (.reg [⟨(some 13), (.ld 2 true (.t 3)), none⟩, ⟨(some 14), (.pcall 11 [(.t 13), (.c .emp)]), none⟩, ⟨(some 12), (.mv (.t 14)), none⟩, ⟨(some 15), (.ext (.t 12) 0), none⟩, ⟨(some 16), (.ext (.t 12) 1), none⟩, ⟨(some 9), (.mv (.t 15)), none⟩, ⟨(some 10), (.mv (.t 16)), none⟩]) (.seq (.seq (.reg [⟨(some 17), (.mv (.t 10)), none⟩, ⟨(some 18), (.bin .eql (.t 17) (.c (.int .i64 (0)))), none⟩, ⟨(some 19), (.mv (.t 18)), none⟩, ⟨(some 20), (.mv (.t 2)), (some (19, true))⟩, ⟨(some 21), (.bin .lss (.t 20) (.c (.int .i64 (1)))), (some (19, true))⟩, ⟨(some 22), (.mv (.t 21)), (some (19, true))⟩, ⟨(some 23), (.mv (.t 2)), (some (22, false))⟩, ⟨(some 24), (.bin .gtr (.t 23) (.c (.int .i64 (8)))), (some (22, false))⟩, ⟨(some 25), (.pick (.t 22) (.c (.bool true)) (.t 24)), (some (19, true))⟩, ⟨(some 26), (.pick (.t 19) (.t 25) (.c (.bool false))), none⟩]) (.cond (.t 26) (.reg [⟨(some 10), (.mv (.c (.int .i64 (1)))), none⟩]) .skip)) (.seq (.seq (.reg [⟨(some 27), (.mv (.t 10)), none⟩, ⟨(some 28), (.bin .eql (.t 27) (.c (.int .i64 (0)))), none⟩]) (.cond (.t 28) (.reg [⟨(some 30), (.ld 2 true (.t 3)), none⟩, ⟨(some 31), (.mv (.t 1)), none⟩, ⟨(some 32), (.bldF 3 1 [(.t 31)]), none⟩, ⟨(some 33), (.pcall 11 [(.t 30), (.t 32)]), none⟩, ⟨(some 29), (.mv (.t 33)), none⟩, ⟨(some 34), (.ext (.t 29) 0), none⟩, ⟨(some 35), (.ext (.t 29) 1), none⟩, ⟨(some 9), (.mv (.t 34)), none⟩, ⟨(some 10), (.mv (.t 35)), none⟩]) .skip)) (.seq (.seq (.reg [⟨(some 36), (.mv (.t 10)), none⟩, ⟨(some 37), (.bin .neq (.t 36) (.c (.int .i64 (0)))), none⟩]) (.cond (.t 37) (.seq (.reg [⟨(some 38), (.mv (.t 10)), none⟩, ⟨(some 6), (.mv (.c (.int .i64 (0)))), none⟩, ⟨(some 7), (.mv (.c (.bool false))), none⟩, ⟨(some 8), (.mv (.t 38)), none⟩]) .ret) .skip)) (.seq (.reg [⟨(some 39), (.mv (.t 9)), none⟩, ⟨(some 40), (.mv (.t 1)), none⟩, ⟨(some 41), (.mv (.t 2)), none⟩, ⟨(some 42), (.pcall 28 [(.t 39), (.t 40), (.t 41)]), none⟩, ⟨(some 11), (.mv (.t 42)), none⟩]) (.seq (.reg [⟨(some 43), (.mv (.t 11)), none⟩, ⟨(some 44), (.max2 (.t 43) (.c (.int .i64 (0)))), none⟩, ⟨(some 45), (.mv (.t 11)), none⟩, ⟨(some 46), (.bin .geq (.t 45) (.c (.int .i64 (0)))), none⟩, ⟨(some 6), (.mv (.t 44)), none⟩, ⟨(some 7), (.mv (.t 46)), none⟩, ⟨(some 8), (.mv (.c (.int .i64 (0)))), none⟩]) .ret))))))), [(.tmp 6), (.tmp 7), (.tmp 8)]⟩
theorem hc19 : toSF Tryd.prog {pure := [11, 28]} Tryd.f19 = some c19 := by kernel_rfl
theorem hn19 : (Tryd.f19.name == "runtime.NumGoroutine") = false := by kernel_rfl
theorem Step_ok (d : HDoc) (sm : DocSm d) (n how : Int) : PCalls (Pg G) 19 [.agg (eDoc d), aInt n, aInt how]
    (.tup [aInt (if stepE d n how = 0 then max (stepW d n how) 0 else 0), .bool (decide (stepE d n how = 0) && decide (0 ≤ stepW d n how)), aInt (stepE d n how)]) := fun h => by
  refine dcalls_of_vc Tryd.func19 hn19 hc19 (by rw [Tryd.ntmps19]; simp) (by rw [Tryd.ntmps19]; decide) ?_
  by_cases h1 : docE d = 0
  · by_cases h2 : how < 1 ∨ 8 < how
    · have hE : stepE d n how = 1 := by unfold stepE; rw [if_neg (by simpa using h1), if_pos h2]
      simp -dsimp -implicitDefEqProofs (disch := omega) only [VCA, Nat.reduceEqDiff, ↓reduceIte, c19, eDoc_len, eDoc_take, hE]
      repeat' (first | ((with_reducible refine Br.dec (fun _ => ?_) (fun _ => ?_)) <;> try (exfalso; omega)) | ((with_reducible refine Br.eq (fun _ => ?_) (fun _ => ?_)) <;> try (exfalso; omega)) | ((with_reducible refine Br.ne (fun _ => ?_) (fun _ => ?_)) <;> try (exfalso; omega)) | ((with_reducible refine brNdec (fun _ => ?_) (fun _ => ?_)) <;> try (exfalso; omega)) | ((with_reducible refine brNeq (fun _ => ?_) (fun _ => ?_)) <;> try (exfalso; omega)) | with_reducible refine Br.intro (fun _ => ?_) (fun _ => ?_) | (with_reducible apply pcallE.of; · exact wcheck0_ok (G := G) d sm) | (with_reducible refine And.intro ?_ ?_; · omega) | simp -dsimp -implicitDefEqProofs (disch := omega) only [↓vcOps_sp 19, ↓vcOps_sp 22, VCA, Nat.reduceEqDiff, Nat.reduceAdd, Nat.reduceLT, ↓reduceIte, exists_eq_right_right, h1])
      all_goals exact ⟨Sub.refl _, by simp⟩
    · have V := docE_DV h1
      have hE : stepE d n how = walkE d [n] := by unfold stepE; rw [if_neg (by simpa using h1), if_neg h2]
      have hw0 : wPin d 0 = .pin (eDoc d) := rfl
      have hC : PCalls (Pg G) 11 [.agg (eDoc d), .slc [[.int .i64 n]]] (.tup [wPin d (walkE d [n]), aInt (walkE d [n])]) := wcheck_ok (G := G) d sm [n] (by simp)
      by_cases h3 : walkE d [n] = 0
      · have hn : inD d n := (walkE_zero h3).2.1 n (by simp)
        simp -dsimp -implicitDefEqProofs (disch := omega) only [VCA, Nat.reduceEqDiff, ↓reduceIte, c19, eDoc_len, eDoc_take, hE, h3]
        repeat' (first | ((with_reducible refine Br.dec (fun _ => ?_) (fun _ => ?_)) <;> try (exfalso; omega)) | ((with_reducible refine Br.eq (fun _ => ?_) (fun _ => ?_)) <;> try (exfalso; omega)) | ((with_reducible refine Br.ne (fun _ => ?_) (fun _ => ?_)) <;> try (exfalso; omega)) | ((with_reducible refine brNdec (fun _ => ?_) (fun _ => ?_)) <;> try (exfalso; omega)) | ((with_reducible refine brNeq (fun _ => ?_) (fun _ => ?_)) <;> try (exfalso; omega)) | with_reducible refine Br.intro (fun _ => ?_) (fun _ => ?_) | (with_reducible apply pcallE.of; · exact wcheck0_ok (G := G) d sm) | (with_reducible apply pcallE.of; · exact hC) | (with_reducible apply pcallE.of; · exact step_ok (G := G) d V sm n how hn) | (with_reducible refine And.intro ?_ ?_; · omega) | simp -dsimp -implicitDefEqProofs (disch := omega) only [↓vcOps_sp 19, ↓vcOps_sp 22, VCA, Nat.reduceEqDiff, Nat.reduceAdd, Nat.reduceLT, ↓reduceIte, okParts, exists_eq_right_right, eDoc_len, eDoc_take, h1, h3, hw0])
        all_goals exact ⟨Sub.refl _, by simp⟩
      · simp -dsimp -implicitDefEqProofs (disch := omega) only [VCA, Nat.reduceEqDiff, ↓reduceIte, c19, eDoc_len, eDoc_take, hE, h3]
        repeat' (first | ((with_reducible refine Br.dec (fun _ => ?_) (fun _ => ?_)) <;> try (exfalso; omega)) | ((with_reducible refine Br.eq (fun _ => ?_) (fun _ => ?_)) <;> try (exfalso; omega)) | ((with_reducible refine Br.ne (fun _ => ?_) (fun _ => ?_)) <;> try (exfalso; omega)) | ((with_reducible refine brNdec (fun _ => ?_) (fun _ => ?_)) <;> try (exfalso; omega)) | ((with_reducible refine brNeq (fun _ => ?_) (fun _ => ?_)) <;> try (exfalso; omega)) | with_reducible refine Br.intro (fun _ => ?_) (fun _ => ?_) | (with_reducible apply pcallE.of; · exact wcheck0_ok (G := G) d sm) | (with_reducible apply pcallE.of; · exact hC) | (with_reducible refine And.intro ?_ ?_; · omega) | simp -dsimp -implicitDefEqProofs (disch := omega) only [↓vcOps_sp 19, ↓vcOps_sp 22, VCA, Nat.reduceEqDiff, Nat.reduceAdd, Nat.reduceLT, ↓reduceIte, okParts, exists_eq_right_right, eDoc_len, eDoc_take, h1])
        all_goals exact ⟨Sub.refl _, by simp⟩
  · have hE : stepE d n how = docE d := by unfold stepE; rw [if_pos h1]
    simp -dsimp -implicitDefEqProofs (disch := omega) only [VCA, Nat.reduceEqDiff, ↓reduceIte, c19, eDoc_len, eDoc_take, hE]
    repeat' (first | ((with_reducible refine Br.dec (fun _ => ?_) (fun _ => ?_)) <;> try (exfalso; omega)) | ((with_reducible refine Br.eq (fun _ => ?_) (fun _ => ?_)) <;> try (exfalso; omega)) | ((with_reducible refine Br.ne (fun _ => ?_) (fun _ => ?_)) <;> try (exfalso; omega)) | ((with_reducible refine brNdec (fun _ => ?_) (fun _ => ?_)) <;> try (exfalso; omega)) | ((with_reducible refine brNeq (fun _ => ?_) (fun _ => ?_)) <;> try (exfalso; omega)) | with_reducible refine Br.intro (fun _ => ?_) (fun _ => ?_) | (with_reducible apply pcallE.of; · exact wcheck0_ok (G := G) d sm) | (with_reducible refine And.intro ?_ ?_; · omega) | simp -dsimp -implicitDefEqProofs (disch := omega) only [↓vcOps_sp 19, ↓vcOps_sp 22, VCA, Nat.reduceEqDiff, Nat.reduceAdd, Nat.reduceLT, ↓reduceIte, exists_eq_right_right, h1])
    all_goals exact ⟨Sub.refl _, by simp⟩
end Go.Proofs.K
end
section
/- Ways through a tree: the reference's WalkStep; Common; what must be in any case. -/
set_option linter.unusedSimpArgs false
set_option linter.unusedVariables false
namespace Go.Proofs.K
open Go Go.Sim Go.Proofs
variable {G : Glob}
section
variable {d : HDoc} {n : Int} {A B : List Int}
end
/-! ## the common node -/
def cpl : List Int → List Int → Nat
  | x :: p, y :: q => if x = y then cpl p q + 1 else 0
  | _, _ => 0
theorem cpl_is : ∀ (i : Nat) (p q : List Int), i ≤ p.length → i ≤ q.length → (∀ j, j < i → nth p j = nth q j) → ¬ (i < p.length ∧ i < q.length ∧ nth p i = nth q i) → cpl p q = i
  | 0, p, q, _, _, _, h => by
    cases p with
    | nil => rfl
    | cons x p => cases q with
      | nil => rfl
      | cons y q =>
        unfold cpl
        rw [if_neg]
        intro e
        exact h ⟨by simp, by simp, e⟩
  | i + 1, p, q, hp, hq, hj, h => by
    cases p with
    | nil => simp at hp
    | cons x p => cases q with
      | nil => simp at hq
      | cons y q =>
        simp only [List.length_cons] at hp hq h
        unfold cpl
        rw [if_pos (show x = y from hj 0 (by omega)), cpl_is i p q (by omega) (by omega) (fun j hj' => hj (j + 1) (by omega)) (fun ⟨h1, h2, h3⟩ => h ⟨by omega, by omega, h3⟩)]
def commonM (d : HDoc) (a b : Int) : Int := nth (chain d a).reverse (cpl (chain d a).reverse (chain d b).reverse - 1)
def c21 : SFun := ⟨(.seq (.reg [⟨(some 3), (.boxF 24 2 (.t 0)), none⟩, ⟨(some 6), (.mv (.c (.int .i64 (0)))), none⟩, ⟨(some 7), (.mv (.c (.int .i64 (0)))), none⟩]) (.seq (.reg [⟨(some 14), (.ld 2 true (.t 3)), none⟩, ⟨(some 15), (.mv (.t 1)), none⟩, ⟨(some 16), (.mv (.t 2)), none⟩, ⟨(some 17), (.bldF 3 1 [(.t 15), (.t 16)]), none⟩, ⟨(some 18), (.pcall 11 [(.t 14), (.t 17)]), none⟩, ⟨(some 13), (.mv (.t 18)), none⟩, ⟨(some 19), (.ext (.t 13) 0), none⟩, ⟨(some 20), (.ext (.t 13) 1), none⟩, ⟨(some 8), (.mv (.t 19)), none⟩, ⟨(some 9), (.mv (.t 20)), none⟩]) (.seq (.seq (.reg [⟨(some 21), (.mv (.t 9)), none⟩, ⟨(some 22), (.bin .neq (.t 21) (.c (.int .i64 (0)))), none⟩]) (.cond (.t 22) (.seq (.reg [⟨(some 23), (.mv (.t 9)), none⟩, ⟨(some 6), (.mv (.c (.int .i64 (0)))), none⟩, ⟨(some 7), (.mv (.t 23)), none⟩]) .ret) .skip)) (.seq (.reg [⟨(some 24), (.mv (.t 8)), none⟩, ⟨(some 25), (.mv (.t 1)), none⟩, ⟨(some 26), (.pcall 23 [(.t 24), (.t 25)]), none⟩, ⟨(some 27), (.mv (.t 8)), none⟩, ⟨(some 28), (.mv (.t 2)), none⟩, ⟨(some 29), (.pcall 23 [(.t 27), (.t 28)]), none⟩, ⟨(some 10), (.mv (.t 26)), none⟩, ⟨(some 11), (.mv (.t 29)), none⟩]) (.seq (.reg [⟨(some 12), (.mv (.c (.int .i64 (0)))), none⟩]) (.seq (.block 0 (.loop (.seq (.seq (.dreg [(⟨(some 30), (.mv (.t 12)), none⟩, none), (⟨(some 31), (.mv (.t 10)), none⟩, none), (⟨(some 32), (.len (.t 31)), none⟩, none), (⟨(some 33), (.bin .lss (.t 30) (.t 32)), none⟩, none), (⟨(some 34), (.mv (.t 33)), none⟩, none), (⟨(some 35), (.mv (.t 12)), (some (34, true))⟩, none), (⟨(some 36), (.mv (.t 11)), (some (34, true))⟩, none), (⟨(some 37), (.len (.t 36)), (some (34, true))⟩, none), (⟨(some 38), (.bin .lss (.t 35) (.t 37)), (some (34, true))⟩, none), (⟨(some 39), (.pick (.t 34) (.t 38) (.c (.bool false))), none⟩, none), (⟨(some 40), (.mv (.t 39)), none⟩, none), (⟨(some 41), (.mv (.t 10)), (some (40, true))⟩, none), (⟨(some 42), (.mv (.t 12)), (some (40, true))⟩, none), (⟨(some 43), (.idxA 1 (.t 41) (.t 42)), (some (40, true))⟩, none), (⟨(some 44), (.ld 1 false (.t 43)), (some (40, true))⟩, none), (⟨(some 45), (.mv (.t 11)), (some (40, true))⟩, none), (⟨(some 46), (.mv (.t 12)), (some (40, true))⟩, none), (⟨(some 47), (.idxA 1 (.t 45) (.t 46)), (some (40, true))⟩, none), (⟨(some 48), (.ld 1 false (.t 47)), (some (40, true))⟩, none), (⟨(some 49), (.bin .eql (.t 44) (.t 48)), (some (40, true))⟩, none), (⟨(some 50), (.pick (.t 40) (.t 49) (.c (.bool false))), none⟩, none)]) (.cond (.t 50) .skip (.exit 0))) (.block 1 (.reg [⟨(some 51), (.mv (.t 12)), none⟩, ⟨(some 52), (.bin .add (.t 51) (.c (.int .i64 (1)))), none⟩, ⟨(some 12), (.mv (.t 52)), none⟩]))))) (.seq (.reg [⟨(some 53), (.mv (.t 10)), none⟩, ⟨(some 54), (.mv (.t 12)), none⟩, ⟨(some 55), (.bin .sub (.t 54) (.c (.int .i64 (1)))), none⟩, ⟨(some 56), (.idxA 1 (.t 53) (.t 55)), none⟩, ⟨(some 57), (.ld 1 false (.t 56)), none⟩, ⟨(some 6), (.mv (.t 57)), none⟩, ⟨(some 7), (.mv (.c (.int .i64 (0)))), none⟩]) .ret))))))), [(.tmp 6), (.tmp 7)]⟩
theorem hc21 : toSF Tryd.prog {pure := [11, 23]} Tryd.f21 = some c21 := by kernel_rfl
theorem hn21 : (Tryd.f21.name == "runtime.NumGoroutine") = false := by kernel_rfl
theorem common_ok (d : HDoc) (sm : DocSm d) (a b : Int) : PCalls (Pg G) 21 [.agg (eDoc d), aInt a, aInt b] (.tup [aInt (if walkE d [a, b] = 0 then commonM d a b else 0), aInt (walkE d [a, b])]) := fun h => by
  have hC : PCalls (Pg G) 11 [.agg (eDoc d), .slc [[.int .i64 a], [.int .i64 b]]] (.tup [wPin d (walkE d [a, b]), aInt (walkE d [a, b])]) := wcheck_ok (G := G) d sm [a, b] (by simp)
  refine dcalls_of_vc Tryd.func21 hn21 hc21 (by rw [Tryd.ntmps21]; simp) (by rw [Tryd.ntmps21]; decide) ?_
  simp -dsimp -implicitDefEqProofs (disch := omega) only [VCA, Nat.reduceEqDiff, ↓reduceIte, okParts, c21, eDoc_len, eDoc_take]
  refine pcallE.of (hC) ?_; simp -dsimp -implicitDefEqProofs (disch := omega) only [VCA, Nat.reduceEqDiff, Nat.reduceAdd, Nat.reduceLT, ↓reduceIte]
  by_cases h1 : walkE d [a, b] = 0
  · obtain ⟨hd, hi, hc⟩ := walkE_zero h1
    have V := docE_DV hd
    have ha : inD d a := hi a (by simp)
    have hb : inD d b := hi b (by simp)
    have ca := (chain_rev0 V a ha).2 (hc a (by simp))
    have cb := (chain_rev0 V b hb).2 (hc b (by simp))
    have la := chain_len V a ha
    have lb := chain_len V b hb
    have da := V.deep a ha
    have db := V.deep b hb
    have hw0 : wPin d 0 = .pin (eDoc d) := rfl
    have hla : (chain d a).reverse.length = (chain d a).length := by simp
    have hlb : (chain d b).reverse.length = (chain d b).length := by simp
    have hA := path_ok (G := G) d V sm a ha
    have hB := path_ok (G := G) d V sm b hb
    have hcm : commonM d a b = nth (chain d a).reverse (cpl (chain d a).reverse (chain d b).reverse - 1) := rfl
    rw [h1]
    generalize (chain d a).reverse = p at *
    generalize (chain d b).reverse = q at *
    refine Br.ne (fun hh => absurd rfl hh) (fun _ => ?_)
    simp -dsimp -implicitDefEqProofs (disch := omega) only [VCA, Nat.reduceEqDiff, ↓reduceIte, hw0]
    refine pcallE.of (hA) ?_; simp -dsimp -implicitDefEqProofs (disch := omega) only [VCA, Nat.reduceEqDiff, ↓reduceIte]
    refine pcallE.of (hB) ?_; simp -dsimp -implicitDefEqProofs (disch := omega) only [VCA, Nat.reduceEqDiff, ↓reduceIte]
    refine LoopVC.intro (fun m e h' => ∃ i : Nat, i ≤ p.length ∧ i ≤ q.length ∧ m = p.length - i ∧ e 10 = sl eInt p ∧ e 11 = sl eInt q ∧ e 12 = aInt i ∧ h' = h ∧ ∀ j, j < i → nth p j = nth q j) p.length ⟨0, by omega, by omega, by omega, rfl, rfl, rfl, rfl, by omega⟩ ?_
    rintro m e h' ⟨i, hip, hiq, rfl, he10, he11, he12, rfl, hj⟩
    have fin : ¬ (i < p.length ∧ i < q.length ∧ nth p i = nth q i) → 1 ≤ i ∧ commonM d a b = nth p (i - 1) := fun hn => by
      have := cpl_is i p q hip hiq hj hn
      rw [hcm, this]
      refine ⟨?_, rfl⟩
      cases i with
      | zero => exact absurd ⟨by omega, by omega, by rw [ca, cb]⟩ hn
      | succ i => omega
    have ei : ((i : Int) - 1).toNat = i - 1 := by omega
    simp -dsimp -implicitDefEqProofs (disch := omega) only [↓vcD_sp 34, VCA, Nat.reduceEqDiff, ↓reduceIte, rsOf, rootsOf, rootL, he10, he12]
    repeat' (first | ((with_reducible refine Br.dec (fun _ => ?_) (fun _ => ?_)) <;> try (exfalso; omega)) | ((with_reducible refine Br.eq (fun _ => ?_) (fun _ => ?_)) <;> try (exfalso; omega)) | ((with_reducible refine Br.ne (fun _ => ?_) (fun _ => ?_)) <;> try (exfalso; omega)) | ((with_reducible refine brNdec (fun _ => ?_) (fun _ => ?_)) <;> try (exfalso; omega)) | ((with_reducible refine brNeq (fun _ => ?_) (fun _ => ?_)) <;> try (exfalso; omega)) | with_reducible refine Br.intro (fun _ => ?_) (fun _ => ?_) | (with_reducible refine And.intro ?_ ?_; · omega) | simp -dsimp -implicitDefEqProofs (disch := omega) only [↓vcD_sp 40, VCA, Nat.reduceEqDiff, ↓reduceIte, rsOf, rootsOf, exists_eq_right_right, rootL, eInt, he10, he11, he12])
    · rename_i q1 q2 q3
      refine ⟨_, by omega, i + 1, by omega, by omega, rfl, by omega, fun j hj' => ?_⟩
      by_cases hji : j = i
      · subst hji; exact q3
      · exact hj j (by omega)
    all_goals exact ⟨Sub.refl _, by rw [(fin (by omega)).2, ei]⟩
  · repeat' (first | ((with_reducible refine Br.dec (fun _ => ?_) (fun _ => ?_)) <;> try (exfalso; omega)) | ((with_reducible refine Br.eq (fun _ => ?_) (fun _ => ?_)) <;> try (exfalso; omega)) | ((with_reducible refine Br.ne (fun _ => ?_) (fun _ => ?_)) <;> try (exfalso; omega)) | ((with_reducible refine brNdec (fun _ => ?_) (fun _ => ?_)) <;> try (exfalso; omega)) | ((with_reducible refine brNeq (fun _ => ?_) (fun _ => ?_)) <;> try (exfalso; omega)) | with_reducible refine Br.intro (fun _ => ?_) (fun _ => ?_) | (with_reducible refine And.intro ?_ ?_; · omega) | simp -dsimp -implicitDefEqProofs (disch := omega) only [VCA, Nat.reduceEqDiff, ↓reduceIte, exists_eq_right, h1])
    exact Sub.refl _
/-- a result's weaker reading -/
theorem DCalls.res {P : PG} {f : Nat} {args : List AVal} {h : Heap} {K K' : AVal → Heap → Prop} (hd : DCalls P f args h K) (hk : ∀ a h', K a h' → ∃ b, Wk a b ∧ K' b h') : DCalls P f args h K' :=
  ⟨hd.1, fun g w vs H GR V => (hd.2 g w vs H GR V).mono fun e w' ⟨v', a, h', g', he, k0, H', Va, S⟩ => by
    obtain ⟨b, hb, k1⟩ := hk a h' k0
    exact ⟨v', b, h', g', he, k1, H', hb.rel Va, S⟩⟩
def oneD : HDoc := ⟨[⟨1, [], [], [], -1, [1]⟩, ⟨2, [112], [⟨[97], [34]⟩], [], 0, [2]⟩, ⟨3, [], [], [60, 10], 1, []⟩], false⟩
theorem oneD_sm : DocSm oneD := ⟨by decide, by
  intro x hx
  have : x = ⟨1, [], [], [], -1, [1]⟩ ∨ x = ⟨2, [112], [⟨[97], [34]⟩], [], 0, [2]⟩ ∨ x = ⟨3, [], [], [60, 10], 1, []⟩ := by simpa [oneD] using hx
  rcases this with rfl | rfl | rfl <;> exact ⟨by decide, by decide, by decide, by decide, by decide⟩⟩
def c20 : SFun := ⟨(.seq (.reg [⟨(some 0), (.new 24 2 [.emp, (.bool false)]), none⟩]) (.seq (.reg [⟨(some 1), (.bldF 3 1 [(.c (.int .i64 (1)))]), none⟩, ⟨(some 2), (.bld [(.int .i64 (0)), (.str []), .emp, (.str []), (.int .i64 (0)), .emp] [(0, (1, (.c (.int .i64 (1))))), (4, (1, (.c (.int .i64 (-1))))), (5, (1, (.t 1)))]), none⟩, ⟨(some 3), (.bld [(.str []), (.str [])] [(0, (1, (.c (.str [97])))), (1, (1, (.c (.str [34]))))]), none⟩, ⟨(some 4), (.bldF 48 2 [(.t 3)]), none⟩, ⟨(some 5), (.bldF 3 1 [(.c (.int .i64 (2)))]), none⟩, ⟨(some 6), (.bld [(.int .i64 (0)), (.str []), .emp, (.str []), (.int .i64 (0)), .emp] [(0, (1, (.c (.int .i64 (2))))), (1, (1, (.c (.str [112])))), (2, (1, (.t 4))), (5, (1, (.t 5)))]), none⟩, ⟨(some 7), (.bld [(.int .i64 (0)), (.str []), .emp, (.str []), (.int .i64 (0)), .emp] [(0, (1, (.c (.int .i64 (3))))), (3, (1, (.c (.str [60, 10])))), (4, (1, (.c (.int .i64 (1)))))]), none⟩, ⟨(some 8), (.bldF 29 6 [(.t 2), (.t 6), (.t 7)]), none⟩, ⟨(some 9), (.bld [.emp, (.bool false)] [(0, (1, (.t 8)))]), none⟩, ⟨none, (.st 2 (.t 0) (.t 9)), none⟩]) .ret)), [(.cell 0 2 true)]⟩
theorem hc20 : toSF Tryd.prog {} Tryd.f20 = some c20 := by kernel_rfl
theorem hn20 : (Tryd.f20.name == "runtime.NumGoroutine") = false := by kernel_rfl
theorem oneP_ok : PCalls (Pg G) 20 [] (.agg (eDoc oneD)) := fun h => by
  refine DCalls.res (K := fun a h' => a = .agg [.slc [[.int .i64 1, .str [], .emp, .str [], .int .i64 (-1), .slc [[.int .i64 1]]], [.int .i64 2, .str [112], .slc [[.str [97], .str [34]]], .str [], .int .i64 0, .slc [[.int .i64 2]]], [.int .i64 3, .str [], .emp, .str [60, 10], .int .i64 1, .emp]], .bool false] ∧ h' = h) ?_ ?_
  · refine dcalls_of_vc Tryd.func20 hn20 hc20 (by rw [Tryd.ntmps20]; simp) (by rw [Tryd.ntmps20]; decide) ?_
    simp -dsimp -implicitDefEqProofs (disch := omega) only [VCA, Nat.reduceEqDiff, Nat.reduceAdd, Nat.reduceLT, Nat.reduceLeDiff, ↓reduceIte, reduceCtorEq, okParts, fillA, okFill, setAt, exists_eq_right_right, exists_eq_left', c20]
    intro r hr
    exact (Sub.refl _).upd hr
  · rintro a h' ⟨rfl, rfl⟩
    exact ⟨_, Wk.agg' (.cons (Wk.slc' (.cons (.cons (.refl _) (.cons (.refl _) (.cons .emp (.cons (.refl _) (.cons (.refl _) (.cons (.refl _) .nil)))))) (.cons (.cons (.refl _) (.cons (.refl _) (.cons (.refl _) (.cons (.refl _) (.cons (.refl _) (.cons (.refl _) .nil)))))) (.cons (.cons (.refl _) (.cons (.refl _) (.cons .emp (.cons (.refl _) (.cons (.refl _) (.cons .emp .nil)))))) .nil)))) (.cons (.refl _) .nil)), rfl, rfl⟩
theorem one_step : stepE oneD 1 1 = 0 ∧ stepW oneD 1 1 = 2 ∧ walkE oneD [1, 2] = 0 ∧ commonM oneD 1 2 = 1 := by decide +kernel
def c9 : SFun := ⟨(.seq (.reg [⟨(some 0), (.mv (.c (.bool false))), none⟩]) (.seq (.reg [⟨(some 7), (.pcall 20 []), none⟩, ⟨(some 8), (.pcall 19 [(.t 7), (.c (.int .i64 (1))), (.c (.int .i64 (1)))]), none⟩, ⟨(some 6), (.mv (.t 8)), none⟩, ⟨(some 9), (.ext (.t 6) 0), none⟩, ⟨(some 10), (.ext (.t 6) 1), none⟩, ⟨(some 11), (.ext (.t 6) 2), none⟩, ⟨(some 1), (.mv (.t 9)), none⟩, ⟨(some 2), (.mv (.t 10)), none⟩, ⟨(some 3), (.mv (.t 11)), none⟩]) (.seq (.reg [⟨(some 13), (.pcall 20 []), none⟩, ⟨(some 14), (.pcall 21 [(.t 13), (.c (.int .i64 (1))), (.c (.int .i64 (2)))]), none⟩, ⟨(some 12), (.mv (.t 14)), none⟩, ⟨(some 15), (.ext (.t 12) 0), none⟩, ⟨(some 16), (.ext (.t 12) 1), none⟩, ⟨(some 4), (.mv (.t 15)), none⟩, ⟨(some 5), (.mv (.t 16)), none⟩]) (.seq (.reg [⟨(some 17), (.mv (.t 1)), none⟩, ⟨(some 18), (.bin .eql (.t 17) (.c (.int .i64 (2)))), none⟩, ⟨(some 19), (.mv (.t 18)), none⟩, ⟨(some 20), (.mv (.t 2)), (some (19, true))⟩, ⟨(some 21), (.pick (.t 19) (.t 20) (.c (.bool false))), none⟩, ⟨(some 22), (.mv (.t 21)), none⟩, ⟨(some 23), (.mv (.t 3)), (some (22, true))⟩, ⟨(some 24), (.bin .eql (.t 23) (.c (.int .i64 (0)))), (some (22, true))⟩, ⟨(some 25), (.pick (.t 22) (.t 24) (.c (.bool false))), none⟩, ⟨(some 26), (.mv (.t 25)), none⟩, ⟨(some 27), (.mv (.t 4)), (some (26, true))⟩, ⟨(some 28), (.bin .eql (.t 27) (.c (.int .i64 (1)))), (some (26, true))⟩, ⟨(some 29), (.pick (.t 26) (.t 28) (.c (.bool false))), none⟩, ⟨(some 30), (.mv (.t 29)), none⟩, ⟨(some 31), (.mv (.t 5)), (some (30, true))⟩, ⟨(some 32), (.bin .eql (.t 31) (.c (.int .i64 (0)))), (some (30, true))⟩, ⟨(some 33), (.pick (.t 30) (.t 32) (.c (.bool false))), none⟩, ⟨(some 0), (.mv (.t 33)), none⟩]) .ret)))), [(.tmp 0)]⟩
theorem hc9 : toSF Tryd.prog {pure := [20, 19, 21]} Tryd.f9 = some c9 := by kernel_rfl
theorem hn9 : (Tryd.f9.name == "runtime.NumGoroutine") = false := by kernel_rfl
theorem walkBegun_ok : PCalls (Pg G) 9 [] (.bool true) := fun h => by
  have h1 : PCalls (Pg G) 19 [.agg (eDoc oneD), aInt 1, aInt 1] (.tup [aInt 2, .bool true, aInt 0]) := by
    have h := Step_ok (G := G) oneD oneD_sm 1 1
    rw [one_step.1, one_step.2.1] at h
    exact h
  have h2 : PCalls (Pg G) 21 [.agg (eDoc oneD), aInt 1, aInt 2] (.tup [aInt 1, aInt 0]) := by
    have h := common_ok (G := G) oneD oneD_sm 1 2
    rw [one_step.2.2.1, one_step.2.2.2] at h
    exact h
  refine dcalls_of_vc Tryd.func9 hn9 hc9 (by rw [Tryd.ntmps9]; simp) (by rw [Tryd.ntmps9]; decide) ?_
  simp -dsimp -implicitDefEqProofs (disch := omega) only [VCA, c9]
  repeat' (first | ((with_reducible refine Br.dec (fun _ => ?_) (fun _ => ?_)) <;> try (exfalso; omega)) | ((with_reducible refine Br.eq (fun _ => ?_) (fun _ => ?_)) <;> try (exfalso; omega)) | ((with_reducible refine Br.ne (fun _ => ?_) (fun _ => ?_)) <;> try (exfalso; omega)) | ((with_reducible refine brNdec (fun _ => ?_) (fun _ => ?_)) <;> try (exfalso; omega)) | ((with_reducible refine brNeq (fun _ => ?_) (fun _ => ?_)) <;> try (exfalso; omega)) | with_reducible refine Br.intro (fun _ => ?_) (fun _ => ?_) | (with_reducible apply pcallE.of; · exact oneP_ok (G := G)) | (with_reducible apply pcallE.of; · exact h1) | (with_reducible apply pcallE.of; · exact h2) | (with_reducible refine And.intro ?_ ?_; · omega) | simp -dsimp -implicitDefEqProofs (disch := omega) only [↓vcOps_sp 19, ↓vcOps_sp 22, ↓vcOps_sp 26, ↓vcOps_sp 30, VCA, Nat.reduceEqDiff, Nat.reduceAdd, Nat.reduceLT, ↓reduceIte, exists_eq_right_right])
  exact ⟨Sub.refl _, rfl⟩
end Go.Proofs.K
end
section
/- Edits of documents: what becomes of a document; whether it is still right. Plain law. -/
set_option linter.unusedSimpArgs false
set_option linter.unusedVariables false
namespace Go.Proofs.K
open Go Go.Sim Go.Proofs
/-! ## a node set -/
def setN (d : HDoc) (n : Int) (x : HNode) : HDoc := ⟨d.nodes.set n.toNat x, d.quirks⟩
section
variable {d : HDoc}
theorem setN_len (n : Int) (x : HNode) : (setN d n x).nodes.length = d.nodes.length := by simp [setN]
theorem inD_setN {n m : Int} {x : HNode} : inD (setN d n x) m ↔ inD d m := by unfold inD; rw [setN_len]
theorem nd_setN {n m : Int} {x : HNode} (hn : inD d n) (hm : inD d m) : nd (setN d n x) m = if m = n then x else nd d m := by
  have h1 := hn.nat
  have h2 := hm.nat
  unfold nd setN
  rw [nth_set _ _ _ _ h1.1]
  by_cases h : m = n
  · subst h; rw [if_pos rfl, if_pos rfl]
  · rw [if_neg h, if_neg (by omega)]
/-! ## how deep, by parents alone -/
theorem upF_congr {d' : HDoc} (V : DV d) (h : ∀ m, inD d m → (nd d' m).parent = (nd d m).parent) : ∀ (f : Nat) (n : Int), inD d n → upF f d' n = upF f d n
  | 0, _, _ => rfl
  | f + 1, n, hn => by
    unfold upF
    rw [h n hn]
    by_cases hp : 0 ≤ (nd d n).parent
    · rw [if_pos hp, if_pos hp, upF_congr V h f _ (V.par_in hn hp).1]
    · rw [if_neg hp, if_neg hp]
/-! ## a node more -/
def addN (d : HDoc) (x : HNode) : HDoc := ⟨d.nodes ++ [x], d.quirks⟩
theorem addN_len (x : HNode) : (addN d x).nodes.length = d.nodes.length + 1 := by simp [addN]
theorem nd_addN {x : HNode} {m : Int} (hm : inD d m) : nd (addN d x) m = nd d m := by
  have h := hm.nat
  unfold nd addN nth
  rw [List.getD_eq_getElem?_getD, List.getD_eq_getElem?_getD, List.getElem?_append_left h.1]
theorem nd_addN_new (x : HNode) : nd (addN d x) (d.nodes.length : Int) = x := by
  unfold nd addN nth
  rw [List.getD_eq_getElem?_getD]; simp
theorem inD_addN {x : HNode} {m : Int} : inD (addN d x) m ↔ inD d m ∨ m = d.nodes.length := by unfold inD; rw [addN_len]; omega
theorem up_addN (V : DV d) {x : HNode} {m : Int} (hm : inD d m) : up (addN d x) m = up d m := by
  have h1 : upF (d.nodes.length + 1 + 1) (addN d x) m = upF (d.nodes.length + 1 + 1) d m := upF_congr V (fun k hk => by rw [nd_addN hk]) _ m hm
  have h2 : up (addN d x) m = upF (d.nodes.length + 1 + 1) (addN d x) m := by unfold up; rw [addN_len]
  rw [h2, h1]
  have h3 := V.fin m hm
  exact upF_mono (f := d.nodes.length + 1) (by unfold up at h3; omega) (by omega)
theorem DV.add (V : DV d) {x : HNode} (hp : x.parent = -1) (hc : x.kids = []) (h1 : x.kind ≠ 1) : DV (addN d x) ↔ nodeE x = 0 ∧ d.nodes.length < 200 := by
  have new := nd_addN_new (d := d) x
  have inew : inD (addN d x) (d.nodes.length : Int) := inD_addN.2 (.inr rfl)
  constructor
  · intro W
    have h2 := W.node _ inew
    have h3 := W.len
    rw [new] at h2
    rw [addN_len] at h3
    exact ⟨h2, by omega⟩
  · rintro ⟨hx, hl⟩
    have z := V.pos
    have upn : up (addN d x) (d.nodes.length : Int) = 0 := by
      unfold up upF
      rw [new, if_neg (by omega)]
    refine ⟨by rw [addN_len]; omega, by rw [addN_len]; omega, fun m hm => ?_, fun m hm => ?_, fun m hm k hk' => ?_, fun m hm => ?_, fun k hk' => ?_, fun m hm => ?_, ?_, fun m hm => ?_, fun m hm => ?_⟩
    · rcases inD_addN.1 hm with hm | rfl
      · rw [nd_addN hm]; exact V.kind m hm
      · rw [new]; constructor
        · intro h; exact absurd h h1
        · intro h; omega
    · rcases inD_addN.1 hm with hm | rfl
      · rw [nd_addN hm]; exact V.node m hm
      · rw [new]; exact hx
    · rcases inD_addN.1 hm with hm | rfl
      · rw [nd_addN hm] at hk'
        obtain ⟨g1, g2⟩ := V.kid m hm k hk'
        exact ⟨inD_addN.2 (.inl g1), by rw [nd_addN g1]; exact g2⟩
      · rw [new, hc] at hk'; cases hk'
    · rcases inD_addN.1 hm with hm | rfl
      · rw [nd_addN hm]; exact V.nodup m hm
      · rw [new, hc]; exact .nil
    · rw [nd_addN V.zero] at hk'
      rw [nd_addN (V.kid 0 V.zero k hk').1]; exact V.top k hk'
    · rcases inD_addN.1 hm with hm | rfl
      · rw [nd_addN hm]
        rcases V.par m hm with h | ⟨g1, g2⟩
        · exact .inl h
        · exact .inr ⟨inD_addN.2 (.inl g1), by rw [nd_addN g1]; exact g2⟩
      · rw [new]; exact .inl hp
    · rw [nd_addN V.zero]; exact V.root
    · rcases inD_addN.1 hm with hm | rfl
      · rw [up_addN V hm, addN_len]; have := V.fin m hm; omega
      · rw [upn]; omega
    · rcases inD_addN.1 hm with hm | rfl
      · rw [up_addN V hm]; exact V.deep m hm
      · rw [upn]; omega
/-! ## a node hung up -/
theorem bareM_kids {x : HNode} {l : List Int} (h : x.kind = 1 ∨ x.kind = 2) : nodeE { x with kids := l } = nodeE x := by
  have : bareM { x with kids := l } = bareM x := by
    unfold bareM
    rcases h with h | h <;> simp [h]
  unfold nodeE
  rw [this]
section
variable {a t : Int} {i : Nat}
end
/-! ## a node taken away -/
theorem split_nthK {l : List Int} {k : Nat} (hk : k < l.length) : l = l.take k ++ nth l k :: l.drop (k + 1) := by
  have : nth l k = l[k] := by unfold nth; rw [List.getD_eq_getElem?_getD, List.getElem?_eq_getElem hk]; rfl
  rw [this, List.getElem_cons_drop, List.take_append_drop]
theorem nodup_del {l : List Int} (hn : l.Nodup) {i : Nat} (hi : i < l.length) : (l.take i ++ l.drop (i + 1)).Nodup ∧ ∀ x, x ∈ l.take i ++ l.drop (i + 1) ↔ x ∈ l ∧ x ≠ nth l i := by
  have e := split_nthK hi
  generalize nth l i = y at *
  have h := hn
  rw [e, List.nodup_append, List.nodup_cons] at h
  obtain ⟨h1, ⟨h2, h3⟩, h4⟩ := h
  constructor
  · rw [List.nodup_append]
    exact ⟨h1, h3, fun x hx z hz => h4 x hx z (List.mem_cons_of_mem _ hz)⟩
  · intro x
    have hm : x ∈ l ↔ x ∈ l.take i ∨ x = y ∨ x ∈ l.drop (i + 1) := by
      conv => lhs; rw [e]
      rw [List.mem_append, List.mem_cons]
    rw [hm, List.mem_append]
    constructor
    · rintro (hx | hx)
      · exact ⟨.inl hx, fun e => h4 x hx y List.mem_cons_self e⟩
      · exact ⟨.inr (.inr hx), fun e => h2 (e ▸ hx)⟩
    · rintro ⟨hx | hx | hx, hne⟩
      · exact .inl hx
      · exact absurd hx hne
      · exact .inr hx
def cutN (d : HDoc) (n : Int) (i : Nat) : HDoc := setN (setN d (nd d n).parent { nd d (nd d n).parent with kids := (nd d (nd d n).parent).kids.take i ++ (nd d (nd d n).parent).kids.drop (i + 1) }) n { nd d n with parent := -1 }
section
variable {n : Int} {i : Nat}
theorem cutN_len : (cutN d n i).nodes.length = d.nodes.length := by unfold cutN; rw [setN_len, setN_len]
theorem inD_cutN {m : Int} : inD (cutN d n i) m ↔ inD d m := by unfold cutN; rw [inD_setN, inD_setN]
theorem nd_cutN (hn : inD d n) (hp : inD d (nd d n).parent) {m : Int} (hm : inD d m) : nd (cutN d n i) m = if m = n then { nd d n with parent := -1 } else if m = (nd d n).parent then { nd d (nd d n).parent with kids := (nd d (nd d n).parent).kids.take i ++ (nd d (nd d n).parent).kids.drop (i + 1) } else nd d m := by
  unfold cutN
  rw [nd_setN (inD_setN.2 hn) (inD_setN.2 hm), nd_setN hp hm]
theorem upF_cutN (V : DV d) (hn : inD d n) (hp : 0 ≤ (nd d n).parent) : ∀ (f : Nat) (m : Int), inD d m → upF f (cutN d n i) m ≤ upF f d m
  | 0, _, _ => Nat.le_refl _
  | f + 1, m, hm => by
    have hpi := (V.par_in hn hp).1
    unfold upF
    rw [nd_cutN hn hpi hm]
    by_cases h1 : m = n
    · rw [if_pos h1, if_neg (by show ¬ (0 : Int) ≤ -1; omega)]; omega
    · rw [if_neg h1]
      have e : (if m = (nd d n).parent then { nd d (nd d n).parent with kids := (nd d (nd d n).parent).kids.take i ++ (nd d (nd d n).parent).kids.drop (i + 1) } else nd d m).parent = (nd d m).parent := by
        split
        · rename_i h2; rw [h2]
        · rfl
      rw [e]
      by_cases h3 : 0 ≤ (nd d m).parent
      · rw [if_pos h3, if_pos h3]
        have := upF_cutN V hn hp f _ (V.par_in hm h3).1
        omega
      · rw [if_neg h3, if_neg h3]; omega
theorem DV.cut (V : DV d) (hn : inD d n) (hp : 0 ≤ (nd d n).parent) (hi : i < (nd d (nd d n).parent).kids.length) (hk : nth (nd d (nd d n).parent).kids i = n) : DV (cutN d n i) := by
  obtain ⟨hpi, hnk⟩ := V.par_in hn hp
  have hne : (nd d n).parent ≠ n := fun e => by have := V.up_par hn hp; rw [e] at this; omega
  have at' : ∀ m, inD d m → nd (cutN d n i) m = _ := fun m hm => nd_cutN hn hpi hm
  obtain ⟨nd1, nd2⟩ := nodup_del (V.nodup _ hpi) hi
  rw [hk] at nd2
  have pk : (nd d (nd d n).parent).kind = 1 ∨ (nd d (nd d n).parent).kind = 2 := by
    have h := V.node _ hpi
    unfold nodeE at h
    split at h
    · omega
    · rename_i hb
      have hb : bareM (nd d (nd d n).parent) = true := by
        cases hb2 : bareM (nd d (nd d n).parent) with
        | true => rfl
        | false => exact absurd (.inr (.inr hb2)) hb
      unfold bareM at hb
      simp only [Bool.and_eq_true, Bool.or_eq_true, decide_eq_true_eq] at hb
      rcases hb.2 with (h | h) | h
      · exact .inl h
      · exact .inr h
      · rw [h] at hnk; cases hnk
  have kind' : ∀ m, inD d m → (nd (cutN d n i) m).kind = (nd d m).kind := fun m hm => by
    rw [at' m hm]
    by_cases h1 : m = n
    · rw [if_pos h1, h1]
    · rw [if_neg h1]
      split
      · rename_i h2; rw [h2]
      · rfl
  have par' : ∀ m, inD d m → (nd (cutN d n i) m).parent = if m = n then -1 else (nd d m).parent := fun m hm => by
    rw [at' m hm]
    by_cases h1 : m = n
    · rw [if_pos h1, if_pos h1]
    · rw [if_neg h1, if_neg h1]
      split
      · rename_i h2; rw [h2]
      · rfl
  have kids' : ∀ m, inD d m → (nd (cutN d n i) m).kids = if m = (nd d n).parent then (nd d (nd d n).parent).kids.take i ++ (nd d (nd d n).parent).kids.drop (i + 1) else (nd d m).kids := fun m hm => by
    rw [at' m hm]
    by_cases h1 : m = n
    · rw [if_pos h1, h1, if_neg (fun e => hne e.symm)]
    · rw [if_neg h1]
      split <;> rfl
  refine ⟨by rw [cutN_len]; exact V.pos, by rw [cutN_len]; exact V.len, fun m hm => ?_, fun m hm => ?_, fun m hm k hk' => ?_, fun m hm => ?_, fun k hk' => ?_, fun m hm => ?_, ?_, fun m hm => ?_, fun m hm => ?_⟩
  · rw [inD_cutN] at hm; rw [kind' m hm]; exact V.kind m hm
  · rw [inD_cutN] at hm
    rw [at' m hm]
    by_cases h1 : m = n
    · rw [if_pos h1]; exact V.node n hn
    · rw [if_neg h1]
      by_cases h2 : m = (nd d n).parent
      · rw [if_pos h2, bareM_kids pk]; exact V.node _ hpi
      · rw [if_neg h2]; exact V.node m hm
  · rw [inD_cutN] at hm
    rw [kids' m hm] at hk'
    by_cases h2 : m = (nd d n).parent
    · rw [if_pos h2, nd2] at hk'
      obtain ⟨g1, g2⟩ := V.kid _ hpi k hk'.1
      exact ⟨inD_cutN.2 g1, by rw [par' k g1, if_neg hk'.2, h2]; exact g2⟩
    · rw [if_neg h2] at hk'
      obtain ⟨g1, g2⟩ := V.kid m hm k hk'
      refine ⟨inD_cutN.2 g1, ?_⟩
      rw [par' k g1, if_neg (fun e => h2 (by rw [← g2, e]))]; exact g2
  · rw [inD_cutN] at hm
    rw [kids' m hm]
    split
    · exact nd1
    · exact V.nodup m hm
  · rw [kids' 0 V.zero] at hk'
    have hk2 : k ∈ (nd d 0).kids := by
      split at hk'
      · rename_i h2; rw [nd2] at hk'; rw [h2]; exact hk'.1
      · exact hk'
    rw [kind' k (V.kid 0 V.zero k hk2).1]; exact V.top k hk2
  · rw [inD_cutN] at hm
    rw [par' m hm]
    by_cases h1 : m = n
    · exact .inl (if_pos h1)
    · rw [if_neg h1]
      rcases V.par m hm with h | ⟨g1, g2⟩
      · exact .inl h
      · refine .inr ⟨inD_cutN.2 g1, ?_⟩
        rw [kids' _ g1]
        split
        · rename_i h2; rw [nd2, ← h2]; exact ⟨g2, h1⟩
        · exact g2
  · rw [par' 0 V.zero]
    split
    · rfl
    · exact V.root
  · rw [inD_cutN] at hm
    have h1 : up (cutN d n i) m ≤ up d m := by unfold up; rw [cutN_len]; exact upF_cutN V hn hp _ m hm
    have := V.fin m hm
    rw [cutN_len]; omega
  · rw [inD_cutN] at hm
    have h1 : up (cutN d n i) m ≤ up d m := by unfold up; rw [cutN_len]; exact upF_cutN V hn hp _ m hm
    have := V.deep m hm
    omega
end
end
end Go.Proofs.K
end
section
/- Edits of documents: what they do, and what is wrong with them: plain law. -/
set_option linter.unusedSimpArgs false
set_option linter.unusedVariables false
namespace Go.Proofs.K
open Go Go.Sim Go.Proofs
structure HEdit where
  do' : Int
  at' : Int
  into : Int
  before : Int
  name : List UInt8
  value : List UInt8
  node : HNode
deriving DecidableEq, Inhabited
def eEdit (e : HEdit) : List AVal := [aInt e.do', aInt e.at', aInt e.into, aInt e.before, .str e.name, .str e.value, aInt e.node.kind, .str e.node.name, sl eAttr e.node.attrs, .str e.node.text, aInt e.node.parent, sl eInt e.node.kids]
instance : LenE eEdit 12 := ⟨fun _ => rfl⟩
structure EditSm (e : HEdit) : Prop where
  name : e.name.length ≤ 1073741824
  value : e.value.length ≤ 1073741824
  node : NodeSm e.node
/-! ## attributes -/
/-! ## how far what lies below a node goes -/
section
variable {d : HDoc}
end
/-! ## the edits -/
section
variable {d : HDoc}
end
end Go.Proofs.K
end
section
/- Documents of one's own: nodes in a root, lists of each node in roots of their own. -/
set_option linter.unusedSimpArgs false
set_option linter.unusedVariables false
namespace Go.Proofs.K
open Go Go.Sim Go.Proofs
variable {G : Glob}
def rootOf : AVal → Option Nat
  | .osl r _ _ _ => some r
  | _ => none
/-- a list of one's own; or data -/
def OwnS (h : Heap) (ty sz : Nat) (cells : List (List AVal)) (a : AVal) : Prop :=
  (cells = [] ∧ a = .emp) ∨ (a = .slc cells ∧ ∀ e ∈ cells, e.length = sz) ∨ ∃ r es, a = .osl r sz 0 cells.length ∧ h r = some ⟨ty, sz, es⟩ ∧ cells.length ≤ es.length ∧ es.take cells.length = cells
def Mut (a : AVal) : Prop := ∀ es, a ≠ .slc es
theorem OwnS.live {h : Heap} {ty sz : Nat} {cells : List (List AVal)} {a : AVal} (O : OwnS h ty sz cells a) (M : Mut a) : (cells = [] ∧ a = .emp) ∨ ∃ r es, a = .osl r sz 0 cells.length ∧ h r = some ⟨ty, sz, es⟩ ∧ cells.length ≤ es.length ∧ es.take cells.length = cells := by
  rcases O with O | O | O
  · exact .inl O
  · exact absurd O.1 (M _)
  · exact .inr O
theorem OwnS.keep {h h2 : Heap} {ty sz : Nat} {cells : List (List AVal)} {a : AVal} (O : OwnS h ty sz cells a) (hk : ∀ r o, rootOf a = some r → h r = some o → h2 r = some o) : OwnS h2 ty sz cells a := by
  rcases O with O | O | ⟨r, es, ha, hr, h1, h2⟩
  · exact .inl O
  · exact .inr (.inl O)
  · exact .inr (.inr ⟨r, es, ha, hk r _ (by rw [ha]; rfl) hr, h1, h2⟩)
theorem OwnS.of_acc {h h' : Heap} {ty sz : Nat} {cells : List (List AVal)} {a : AVal} (A : Acc h ty sz cells a h') : OwnS h' ty sz cells a ∧ (∀ r, rootOf a = some r → h r = none) ∧ Mut a := by
  rcases A with ⟨h1, h2⟩ | ⟨r, h0, h1, h2⟩
  · exact ⟨.inl ⟨h1, h2⟩, fun r hr => by (rw [h2] at hr; cases hr), fun es e => by rw [h2] at e; cases e⟩
  · exact ⟨.inr (.inr ⟨r, _, h2, h1, Nat.le_refl _, by rw [List.take_length]⟩), fun r' hr => by (rw [h2] at hr; cases hr; exact h0), fun es e => by rw [h2] at e; cases e⟩
theorem OwnS.len {h : Heap} {ty sz : Nat} {cells : List (List AVal)} {a : AVal} (O : OwnS h ty sz cells a) : aLen a = aInt cells.length ∧ okLen a = True := by
  rcases O with ⟨h1, h2⟩ | ⟨h2, _⟩ | ⟨r, es, ha, _⟩
  · subst h1; subst h2; exact ⟨rfl, rfl⟩
  · subst h2; exact ⟨rfl, rfl⟩
  · subst ha; exact ⟨rfl, rfl⟩
theorem OwnS.isV {h : Heap} {ty sz : Nat} {cells : List (List AVal)} {a : AVal} (O : OwnS h ty sz cells a) : isV a = true ∧ cellsOf a = [a] := by
  rcases O with ⟨h1, h2⟩ | ⟨h2, _⟩ | ⟨r, es, ha, _⟩
  · subst h2; exact ⟨rfl, rfl⟩
  · subst h2; exact ⟨rfl, rfl⟩
  · subst ha; exact ⟨rfl, rfl⟩
theorem OwnS.root {h : Heap} {ty sz : Nat} {cells : List (List AVal)} {a : AVal} (O : OwnS h ty sz cells a) {r : Nat} (hr : rootOf a = some r) : ∃ o, h r = some o := by
  rcases O with ⟨h1, h2⟩ | ⟨h2, _⟩ | ⟨r', es, ha, h1, _⟩
  · subst h2; cases hr
  · subst h2; cases hr
  · subst ha; cases hr; exact ⟨_, h1⟩
/-- .. lent to a reader -/
theorem OwnS.vw {α : Type} [Inhabited α] {enc : α → List AVal} {h : Heap} {ty sz : Nat} [LenE enc sz] {l : List α} {a : AVal} (O : OwnS h ty sz (l.map enc) a) : Vw h a (sl enc l) := by
  rcases O with ⟨h1, h2⟩ | ⟨h2, _⟩ | ⟨r, es, ha, hr, h1, h2⟩
  · have : l = [] := by simpa using h1
    subst this; subst h2; exact .emp
  · subst h2; exact .refl _
  · subst ha
    refine .osl r sz 0 _ ⟨ty, sz, es⟩ (l.map enc) hr (by simpa using h1) rfl (fun f hf => by obtain ⟨x, _, rfl⟩ := List.mem_map.1 hf; exact LenE.len x) fun k j e f x y he hf hx hy => ?_
    have hk : k < (l.map enc).length := (List.getElem?_eq_some_iff.1 hf).1
    simp only [Nat.zero_add] at he
    have he' : (es.take (l.map enc).length)[k]? = some e := by rw [List.getElem?_take, if_pos hk]; exact he
    rw [h2] at he'
    rw [he'] at hf
    cases hf
    rw [hx] at hy; cases hy; exact .refl _
def rowA (x : HNode) (a k : AVal) : List AVal := [aInt x.kind, .str x.name, a, .str x.text, aInt x.parent, k]
def rowsA (d : HDoc) (sl : Nat → AVal) : List (List AVal) := (List.range d.nodes.length).map fun i => rowA (nth d.nodes i) (sl (2 * i)) (sl (2 * i + 1))
theorem rowsA_len (d : HDoc) (sl : Nat → AVal) : (rowsA d sl).length = d.nodes.length := by simp [rowsA]
structure Dw (X : List Nat) (h0 h : Heap) (rN : Nat) (d : HDoc) (sl : Nat → AVal) : Prop where
  sub : Sim.Sub h0 h
  nodes : h rN = some ⟨.t 29, 6, rowsA d sl⟩
  new : h0 rN = none ∧ rN ∉ X
  own : ∀ i, i < d.nodes.length → OwnS h 48 2 ((nth d.nodes i).attrs.map eAttr) (sl (2 * i)) ∧ OwnS h 3 1 ((nth d.nodes i).kids.map eInt) (sl (2 * i + 1))
  fresh : ∀ k, k < 2 * d.nodes.length → ∀ r, rootOf (sl k) = some r → h0 r = none ∧ r ≠ rN ∧ r ∉ X
  sep : ∀ j k, j < 2 * d.nodes.length → k < 2 * d.nodes.length → j ≠ k → ∀ r, rootOf (sl j) = some r → rootOf (sl k) ≠ some r
  keep : ∀ r ∈ X, ∃ o, h r = some o
theorem Dw.slot {X : List Nat} {h0 h : Heap} {rN : Nat} {d : HDoc} {sl : Nat → AVal} (E : Dw X h0 h rN d sl) {k : Nat} (hk : k < 2 * d.nodes.length) {r : Nat} (hr : rootOf (sl k) = some r) : ∃ o, h r = some o := by
  have hi : k / 2 < d.nodes.length := by omega
  obtain ⟨h1, h2⟩ := E.own _ hi
  rcases (by omega : k = 2 * (k / 2) ∨ k = 2 * (k / 2) + 1) with h | h
  · rw [h] at hr; exact h1.root hr
  · rw [h] at hr; exact h2.root hr
/-- A node is changed: its row, its lists. -/
theorem Dw.put {X : List Nat} {h0 h h2 : Heap} {rN : Nat} {d : HDoc} {sl sl' : Nat → AVal} (E : Dw X h0 h rN d sl) {i : Nat} (hi : i < d.nodes.length) {x' : HNode}
    (hs : ∀ j, j ≠ 2 * i → j ≠ 2 * i + 1 → sl' j = sl j)
    (hN : h2 rN = some ⟨.t 29, 6, (rowsA d sl).set i (rowA x' (sl' (2 * i)) (sl' (2 * i + 1)))⟩)
    (hk : ∀ r o, h r = some o → r ≠ rN → rootOf (sl (2 * i)) ≠ some r → rootOf (sl (2 * i + 1)) ≠ some r → h2 r = some o)
    (hA : OwnS h2 48 2 (x'.attrs.map eAttr) (sl' (2 * i))) (hK : OwnS h2 3 1 (x'.kids.map eInt) (sl' (2 * i + 1)))
    (hf : ∀ r, rootOf (sl' (2 * i)) = some r ∨ rootOf (sl' (2 * i + 1)) = some r → rootOf (sl (2 * i)) = some r ∨ rootOf (sl (2 * i + 1)) = some r ∨ h r = none)
    (hd : ∀ r, rootOf (sl' (2 * i)) = some r → rootOf (sl' (2 * i + 1)) ≠ some r) : Dw X h0 h2 rN ⟨d.nodes.set i x', d.quirks⟩ sl' := by
  have hl : (d.nodes.set i x').length = d.nodes.length := by simp
  have fr : ∀ r, rootOf (sl' (2 * i)) = some r ∨ rootOf (sl' (2 * i + 1)) = some r → h0 r = none ∧ r ≠ rN ∧ r ∉ X := fun r hr => by
    rcases hf r hr with h | h | h
    · exact E.fresh _ (by omega) r h
    · exact E.fresh _ (by omega) r h
    · refine ⟨E.sub.none h, fun e => ?_, fun hx => ?_⟩
      · rw [e, E.nodes] at h; cases h
      · obtain ⟨o, ho⟩ := E.keep r hx; rw [h] at ho; cases ho
  have oth : ∀ j, j < 2 * d.nodes.length → j ≠ 2 * i → j ≠ 2 * i + 1 → ∀ r, rootOf (sl j) = some r → rootOf (sl' (2 * i)) ≠ some r ∧ rootOf (sl' (2 * i + 1)) ≠ some r := fun j hj h1 h2 r hr => by
    have key : ¬ (rootOf (sl (2 * i)) = some r ∨ rootOf (sl (2 * i + 1)) = some r ∨ h r = none) := by
      rintro (h | h | h)
      · exact E.sep j (2 * i) hj (by omega) h1 r hr h
      · exact E.sep j (2 * i + 1) hj (by omega) h2 r hr h
      · obtain ⟨o, ho⟩ := E.slot hj hr; rw [h] at ho; cases ho
    exact ⟨fun h => key (hf r (.inl h)), fun h => key (hf r (.inr h))⟩
  refine ⟨fun t o ht => ?_, ?_, E.new, fun j hj => ?_, fun k hk' r hr => ?_, fun j k hj hk' hne r hr => ?_, fun r hr => ?_⟩
  · have hne : t ≠ rN := fun e => by rw [e, E.new.1] at ht; cases ht
    refine hk t o (E.sub t o ht) hne (fun h => ?_) (fun h => ?_)
    · have := (E.fresh _ (by omega) t h).1; rw [this] at ht; cases ht
    · have := (E.fresh _ (by omega) t h).1; rw [this] at ht; cases ht
  · rw [hN]
    congr 2
    apply List.ext_getElem?
    intro j
    rw [List.getElem?_set]
    show _ = (rowsA ⟨d.nodes.set i x', d.quirks⟩ sl')[j]?
    unfold rowsA
    simp only [hl]
    by_cases hij : i = j
    · subst hij
      rw [if_pos rfl, if_pos (by simpa using hi), List.getElem?_map, List.getElem?_range hi, Option.map_some, nth_set _ _ _ _ hi, if_pos rfl]
    · rw [if_neg hij]
      by_cases hj : j < d.nodes.length
      · rw [List.getElem?_map, List.getElem?_map, List.getElem?_range hj, Option.map_some, Option.map_some, nth_set _ _ _ _ hi, if_neg (fun e => hij e.symm), hs (2 * j) (by omega) (by omega), hs (2 * j + 1) (by omega) (by omega)]
      · rw [List.getElem?_eq_none (by simp; omega), List.getElem?_eq_none (by simp; omega)]
  · simp only [hl] at hj
    show OwnS h2 _ _ ((nth (d.nodes.set i x') j).attrs.map eAttr) _ ∧ OwnS h2 _ _ ((nth (d.nodes.set i x') j).kids.map eInt) _
    rw [nth_set _ _ _ _ hi]
    by_cases hij : j = i
    · subst hij; rw [if_pos rfl]; exact ⟨hA, hK⟩
    · rw [if_neg hij, hs (2 * j) (by omega) (by omega), hs (2 * j + 1) (by omega) (by omega)]
      obtain ⟨g1, g2⟩ := E.own j hj
      exact ⟨g1.keep fun r o hr ho => hk r o ho (E.fresh _ (by omega) r hr).2.1 (fun h => E.sep (2 * j) (2 * i) (by omega) (by omega) (by omega) r hr h) (fun h => E.sep (2 * j) (2 * i + 1) (by omega) (by omega) (by omega) r hr h),
        g2.keep fun r o hr ho => hk r o ho (E.fresh _ (by omega) r hr).2.1 (fun h => E.sep (2 * j + 1) (2 * i) (by omega) (by omega) (by omega) r hr h) (fun h => E.sep (2 * j + 1) (2 * i + 1) (by omega) (by omega) (by omega) r hr h)⟩
  · simp only [hl] at hk'
    by_cases e1 : k = 2 * i
    · subst e1; exact fr r (.inl hr)
    · by_cases e2 : k = 2 * i + 1
      · subst e2; exact fr r (.inr hr)
      · rw [hs k e1 e2] at hr; exact E.fresh k hk' r hr
  · simp only [hl] at hj hk'
    by_cases j1 : j = 2 * i <;> by_cases j2 : j = 2 * i + 1 <;> by_cases k1 : k = 2 * i <;> by_cases k2 : k = 2 * i + 1
    all_goals first
      | (exfalso; omega)
      | (subst j1; subst k2; exact hd r hr)
      | (subst j2; subst k1; exact fun h => hd r h hr)
      | (subst j1; rw [hs k k1 k2]; exact fun h => (oth k hk' k1 k2 r h).1 hr)
      | (subst j2; rw [hs k k1 k2]; exact fun h => (oth k hk' k1 k2 r h).2 hr)
      | (subst k1; rw [hs j j1 j2] at hr; exact (oth j hj j1 j2 r hr).1)
      | (subst k2; rw [hs j j1 j2] at hr; exact (oth j hj j1 j2 r hr).2)
      | (rw [hs j j1 j2] at hr; rw [hs k k1 k2]; exact E.sep j k hj hk' hne r hr)
  · obtain ⟨o, ho⟩ := E.keep r hr
    refine ⟨o, hk r o ho (fun e => E.new.2 (e ▸ hr)) (fun h => ?_) (fun h => ?_)⟩
    · exact (E.fresh _ (by omega) r h).2.2 hr
    · exact (E.fresh _ (by omega) r h).2.2 hr
/-- a document lent to a reader -/
theorem Dw.vw {X : List Nat} {h0 h : Heap} {rN : Nat} {d : HDoc} {sl' : Nat → AVal} (E : Dw X h0 h rN d sl') : Vw h (.osl rN 6 0 d.nodes.length) (sl eNode d.nodes) := by
  refine Vw.osl0 E.nodes (by simp) (by rw [rowsA_len]; exact Nat.le_refl _) (fun f hf => by obtain ⟨x, _, rfl⟩ := List.mem_map.1 hf; rfl) ?_
  show F2 (F2 (Vw h)) ((rowsA d sl').take d.nodes.length) (d.nodes.map eNode)
  rw [List.take_of_length_le (by rw [rowsA_len]; exact Nat.le_refl _)]
  have key : ∀ (i : Nat), i < d.nodes.length → F2 (Vw h) (rowA (nth d.nodes i) (sl' (2 * i)) (sl' (2 * i + 1))) (eNode (nth d.nodes i)) := fun i hi => by
    obtain ⟨g1, g2⟩ := E.own i hi
    exact .cons (.refl _) (.cons (.refl _) (.cons g1.vw (.cons (.refl _) (.cons (.refl _) (.cons g2.vw .nil)))))
  have e : d.nodes.map eNode = (List.range d.nodes.length).map fun i => eNode (nth d.nodes i) := by
    apply List.ext_getElem?
    intro j
    by_cases hj : j < d.nodes.length
    · rw [List.getElem?_map, List.getElem?_map, List.getElem?_range hj, nth_some hj]; rfl
    · rw [List.getElem?_eq_none (by simp; omega), List.getElem?_eq_none (by simp; omega)]
  rw [e]
  unfold rowsA
  have gen : ∀ l : List Nat, (∀ i ∈ l, i < d.nodes.length) → F2 (F2 (Vw h)) (l.map fun i => rowA (nth d.nodes i) (sl' (2 * i)) (sl' (2 * i + 1))) (l.map fun i => eNode (nth d.nodes i)) := fun l => by
    induction l with
    | nil => intro _; exact .nil
    | cons i l ih => intro hl; exact .cons (key i (hl i List.mem_cons_self)) (ih fun j hj => hl j (List.mem_cons_of_mem _ hj))
  exact gen _ fun i hi => List.mem_range.1 hi
end Go.Proofs.K
end
section
/- Lists that are being built, beside other roots. -/
set_option linter.unusedSimpArgs false
set_option linter.unusedVariables false
namespace Go.Proofs.K
open Go Go.Sim Go.Proofs
variable {G : Glob}
theorem _root_.Go.Sim.Acc.keepA {h h1 : Heap} {ty : TypeId} {sz : Nat} {cells : List (List AVal)} {a : AVal} (A : Acc h ty sz cells a h1) {r2 : Nat} (hn : rootOf a ≠ some r2) (o : Option AObj) : Acc h ty sz cells a (upd h1 r2 o) := by
  rcases A with q | ⟨r, q0, q1, q2⟩
  · exact .inl q
  · have : r ≠ r2 := fun e => hn (by rw [q2, e]; rfl)
    exact .inr ⟨r, q0, by rw [upd_ne _ _ this]; exact q1, q2⟩
theorem _root_.Go.Sim.Acc.vw {h h' : Heap} {ty : TypeId} {sz : Nat} {cells : List (List AVal)} {a : AVal} (A : Acc h ty sz cells a h') (hl : ∀ f ∈ cells, f.length = sz) : Vw (newH h h') a (.slc cells) := by
  rcases A with ⟨rfl, rfl⟩ | ⟨r, h0, h1, rfl⟩
  · exact .emp
  · exact Vw.osl0 (by rw [newH_none h0]; exact h1) rfl (Nat.le_refl _) hl (by rw [List.take_length]; exact F2.refl (F2.refl .refl) _)
theorem _root_.Go.Sim.Acc.appW {h h' : Heap} {ty : TypeId} {sz b : Nat} {cells es2 : List (List AVal)} {a : AVal} {K : AVal → Heap → Prop} (A : Acc h ty sz cells a h') (S : Sub h h')
    (h1 : (cells.length + es2.length) * b ≤ 140737488355328) (h2 : cells.length + es2.length ≤ 140737488355328)
    (hk : ∀ a' h'', Acc h ty sz (cells ++ es2) a' h'' → Sub h h'' → (∀ r o, h' r = some o → rootOf a ≠ some r → h'' r = some o ∧ rootOf a' ≠ some r) → K a' h'') : Hd (appE ty sz b a es2 h') K .mk := by
  rcases A with ⟨rfl, rfl⟩ | ⟨r, h0, hr, rfl⟩
  · refine ⟨by simpa using h1, by simpa using h2, fun r hr => hk _ _ ?_ (S.upd (S.none hr)) fun x o hx _ => ?_⟩
    · exact .inr ⟨r, S.none hr, by simp, rfl⟩
    · have : x ≠ r := fun e => by rw [e, hr] at hx; cases hx
      exact ⟨by rw [upd_ne _ _ this]; exact hx, fun e => this (by cases e; rfl)⟩
  · refine ⟨rfl, _, hr, rfl, by simp, h1, h2, fun r' hr' => hk _ _ ?_ ?_ fun x o hx hn => ?_⟩
    · have hn : h r' = none := (S.del h0).none hr'
      refine .inr ⟨r', hn, by simp, by simp⟩
    · exact (S.del h0).upd ((S.del h0).none hr')
    · have hxr : x ≠ r := fun e => hn (by rw [e]; rfl)
      have hd : del h' r x = some o := by unfold del; rw [if_neg hxr]; exact hx
      have : x ≠ r' := fun e => by rw [e, hr'] at hd; cases hd
      exact ⟨by rw [upd_ne _ _ this]; exact hd, fun e => this (by cases e; rfl)⟩
end Go.Proofs.K
end
section
/- slices.Backward over numbers. -/
set_option linter.unusedSimpArgs false
set_option linter.unusedVariables false
namespace Go.Proofs.K
open Go Go.Sim Go.Proofs
variable {G : Glob}
/-- the places and the numbers, from a place down -/
def bkI (l : List Int) : Nat → List (Nat × Int)
  | 0 => []
  | k + 1 => (k, nth l k) :: bkI l k
theorem bkI_map (l : List Int) : ∀ (k : Nat), k ≤ l.length → (bkI l k).map (·.2) = (l.take k).reverse
  | 0, _ => by simp [bkI]
  | k + 1, h => by
    rw [bkI, List.map_cons, bkI_map l k (by omega)]
    have : l.take (k + 1) = l.take k ++ [nth l k] := by
      have e : nth l k = l[k] := by unfold nth; rw [List.getD_eq_getElem?_getD, List.getElem?_eq_getElem h]; rfl
      rw [e, List.take_succ_eq_append_getElem h]
    rw [this, List.reverse_append]; rfl
def eBkI (x : Nat × Int) : List AVal := [aInt x.1, aInt x.2]
theorem datIs (l : List Int) : Dat (sl eInt l) := .slc _ fun e he c hc => by
  obtain ⟨x, _, rfl⟩ := List.mem_map.1 he
  simp only [eInt, List.mem_cons, List.mem_nil_iff, or_false] at hc
  subst hc; constructor
def c33 : ICode := (.seq (.reg [(.op ⟨(some 4), (.ld 1 false (.t 1)), none⟩), (.op ⟨(some 5), (.len (.t 4)), none⟩), (.op ⟨(some 6), (.bin .sub (.t 5) (.c (.int .i64 (1)))), none⟩), (.op ⟨(some 3), (.mv (.t 6)), none⟩)]) (.block 0 (.loop (.seq (.seq (.reg [(.op ⟨(some 7), (.mv (.t 3)), none⟩), (.op ⟨(some 8), (.bin .geq (.t 7) (.c (.int .i64 (0)))), none⟩)]) (.cond (.t 8) .skip (.exit 0))) (.seq (.block 1 (.seq (.reg [(.op ⟨(some 11), (.mv (.t 0)), none⟩), (.op ⟨(some 12), (.mv (.t 3)), none⟩), (.op ⟨(some 13), (.ld 1 false (.t 1)), none⟩), (.op ⟨(some 14), (.mv (.t 3)), none⟩), (.op ⟨(some 15), (.idxA 1 (.t 13) (.t 14)), none⟩), (.op ⟨(some 16), (.ld 1 false (.t 15)), none⟩), (.yld (some 17) (.t 11) [(.t 12), (.t 16)]), (.op ⟨(some 18), (.un .not (.t 17)), none⟩)]) (.cond (.t 18) .ret .skip))) (.reg [(.op ⟨(some 9), (.mv (.t 3)), none⟩), (.op ⟨(some 10), (.bin .sub (.t 9) (.c (.int .i64 (1)))), none⟩), (.op ⟨(some 3), (.mv (.t 10)), none⟩)]))))))
theorem hc33 : toIF Tryd.prog {} 2 Tryd.f33 = some c33 := by kernel_rfl
theorem hn33 : (Tryd.f33.name == "runtime.NumGoroutine") = false := by kernel_rfl
theorem backI1_it (l : List Int) (hl : l.length ≤ 1073741824) : IterV (Pg G) 33 [.pin [sl eInt l]] eBkI (bkI l l.length) (l.length + 1) := by
  refine iterV_of_itv Tryd.func33 hn33 hc33 (by rw [Tryd.ntmps33]; simp) (by rw [Tryd.ntmps33]; decide) ?_ ?_ ?_
  · intro c hc
    simp at hc; subst hc
    exact .pin _ (fun c hc => by simp at hc; subst hc; exact datIs l)
  · intro x y hy
    simp only [eBkI, List.mem_cons, List.mem_nil_iff, or_false] at hy
    rcases hy with rfl | rfl <;> exact .inl (.int _ _)
  · intro r
    simp -dsimp -implicitDefEqProofs (disch := omega) only [VCA, Nat.reduceAdd, ↓reduceIte, IT1, IT2, c33]
    refine itLoop.intro (fun m b p e => ∃ i : Nat, i ≤ l.length ∧ m = i ∧ b = false ∧ p.length = l.length - i ∧ p ++ bkI l i = bkI l l.length ∧ e 0 = .prim (.func (.yield r) #[] #[]) ∧ e 1 = .pin [sl eInt l] ∧ e 3 = aInt ((i : Int) - 1)) l.length ⟨l.length, Nat.le_refl _, rfl, rfl, by simp, rfl, rfl, rfl, rfl⟩ ?_
    rintro i b p e ⟨_, hi, rfl, rfl, hp, hP, he0, he1, he3⟩
    simp -dsimp -implicitDefEqProofs (disch := omega) only [VCA, ↓reduceIte, IT1, IT2, he3]
    refine Br.dec (fun hlt => ?_) (fun hge => ?_)
    · obtain ⟨j, rfl⟩ : ∃ j, i = j + 1 := ⟨i - 1, by omega⟩
      have ej : ((j + 1 : Nat) : Int) - 1 = j := by omega
      rw [ej] at he3
      simp -dsimp -implicitDefEqProofs (disch := omega) only [VCA, Nat.reduceEqDiff, ↓reduceIte, reduceCtorEq, eInt, IT1, IT2, IT3, aft_lo, aft_hi, he0, he1, he3]
      rw [bkI] at hP
      trace_state
      refine ⟨by omega, by omega, (j, nth l j), rfl, ⟨j, by omega, j, by omega, rfl, by rw [List.length_append, hp]; simp; omega, by rw [← hP]; simp, rfl⟩, ⟨bkI l j, by rw [← hP]; simp⟩⟩
    · obtain rfl : i = 0 := by omega
      simp -dsimp -implicitDefEqProofs (disch := omega) only [VCA, ↓reduceIte, IT1, IT2, IT3]
      rw [bkI, List.append_nil] at hP
      exact hP
def c25 : SFun := ⟨(.seq (.reg [⟨(some 1), (.boxF 27 1 (.t 0)), none⟩, ⟨(some 2), (.mv (.c (.prim .nilFunc))), none⟩]) (.seq (.reg [⟨(some 3), (.mkf 33 [] [(.t 1)]), none⟩, ⟨(some 2), (.mv (.t 3)), none⟩]) .ret)), [(.tmp 2)]⟩
theorem hc25 : toSF Tryd.prog {} Tryd.f25 = some c25 := by kernel_rfl
theorem hn25 : (Tryd.f25.name == "runtime.NumGoroutine") = false := by kernel_rfl
theorem backI_ok (l : List Int) : PCalls (Pg G) 25 [sl eInt l] (.fn 33 [] [.pin [sl eInt l]]) := fun h => by
  refine dcalls_of_vc Tryd.func25 hn25 hc25 (by rw [Tryd.ntmps25]; simp) (by rw [Tryd.ntmps25]; decide) ?_
  simp -dsimp -implicitDefEqProofs (disch := omega) only [VCA, Nat.reduceEqDiff, ↓reduceIte, exists_eq_right, c25]
  exact Sub.refl _
end Go.Proofs.K
end
section
/- Select: what the law keeps; the walk below a node. -/
set_option linter.unusedSimpArgs false
set_option linter.unusedVariables false
namespace Go.Proofs.K
open Go Go.Sim Go.Proofs
variable {G : Glob}
def c5 : SFun := ⟨(.seq (.reg [⟨(some 2), (.boxF 29 6 (.t 0)), none⟩, ⟨(some 3), (.mv (.c (.bool false))), none⟩]) (.seq (.seq (.reg [⟨(some 4), (.fldA 5 (.t 2)), none⟩, ⟨(some 5), (.ld 1 false (.t 4)), none⟩, ⟨(some 6), (.len (.t 5)), none⟩, ⟨(some 7), (.bin .gtr (.t 6) (.c (.int .i64 (0)))), none⟩]) (.cond (.t 7) (.reg [⟨(some 8), (.fldA 5 (.t 2)), none⟩, ⟨(some 9), (.ld 1 false (.t 8)), none⟩, ⟨(some 10), (.idxA 1 (.t 9) (.c (.int .i64 (0)))), none⟩, ⟨none, (.st 1 (.t 10) (.c (.int .i64 (-9)))), none⟩]) .skip)) (.seq (.reg [⟨(some 11), (.fldA 0 (.t 2)), none⟩, ⟨(some 12), (.ld 1 false (.t 11)), none⟩, ⟨(some 13), (.ld 1 false (.t 1)), none⟩, ⟨(some 14), (.bin .eql (.t 12) (.t 13)), none⟩, ⟨(some 3), (.mv (.t 14)), none⟩]) .ret))), [(.tmp 3)]⟩
theorem hc5 : toSF Tryd.prog {} Tryd.f5 = some c5 := by kernel_rfl
theorem hn5 : (Tryd.f5.name == "runtime.NumGoroutine") = false := by kernel_rfl
theorem keep1_ok {h : Heap} (kd : Int) (nm tx : List UInt8) (va : AVal) (pr : Int) (b : AVal) (ks : List Int) (kind : Int) (hva : isV va = true ∧ cellsOf va = [va]) (O : OwnS h 3 1 (ks.map eInt) b) (M : Mut b) :
    DCalls (Pg G) 5 [.agg [aInt kd, .str nm, va, .str tx, aInt pr, b], .pin [aInt kind]] h fun r h' => r = .bool (kd == kind) ∧ ∀ t o, h t = some o → rootOf b ≠ some t → h' t = some o := by
  rcases O.live M with ⟨h1, rfl⟩ | ⟨rk, es, rfl, hr, hle, ht⟩
  · refine dcalls_of_vc Tryd.func5 hn5 hc5 (by rw [Tryd.ntmps5]; simp) (by rw [Tryd.ntmps5]; decide) ?_
    simp -dsimp -implicitDefEqProofs (disch := omega) only [VCA, Nat.reduceEqDiff, Nat.reduceAdd, ↓reduceIte, ne_eq, c5]
    refine Br.dec (fun h => absurd h (by omega)) (fun _ => ?_)
    simp -dsimp -implicitDefEqProofs (disch := omega) only [VCA, Nat.reduceEqDiff, Nat.reduceAdd, Nat.reduceLeDiff, ↓reduceIte]
    exact ⟨_, Sub.refl _, fun t o ho _ => ho⟩
  · rw [List.length_map] at hle ht ⊢
    refine dcalls_of_vc Tryd.func5 hn5 hc5 (by rw [Tryd.ntmps5]; simp) (by rw [Tryd.ntmps5]; decide) ?_
    simp -dsimp -implicitDefEqProofs (disch := omega) only [VCA, Nat.reduceEqDiff, Nat.reduceAdd, ↓reduceIte, ne_eq, c5]
    refine Br.dec (fun h1 => ?_) (fun h1 => ?_)
    · simp -dsimp -implicitDefEqProofs (disch := omega) only [VCA, Nat.reduceEqDiff, Nat.reduceAdd, Nat.reduceLeDiff, ↓reduceIte, setAt, exists_eq_left', hr]
      have hp : 0 < ks.length := by omega
      have hrow : es.getD 0 [] = eInt (nth ks 0) := by
        have h5 : (es.take ks.length)[0]? = some (eInt (nth ks 0)) := by rw [ht, List.getElem?_map, nth_some hp]; rfl
        rw [List.getElem?_take, if_pos hp] at h5
        rw [List.getD_eq_getElem?_getD, h5]; rfl
      refine ⟨⟨by omega, by omega⟩, by omega, by rw [hrow]; exact Nat.le_refl 1, _, Sub.refl _, fun t o ho hne => ?_⟩
      rw [upd_ne _ _ (fun e => hne (by rw [e]; rfl))]; exact ho
    · simp -dsimp -implicitDefEqProofs (disch := omega) only [VCA, Nat.reduceEqDiff, Nat.reduceAdd, Nat.reduceLeDiff, ↓reduceIte]
      exact ⟨_, Sub.refl _, fun t o ho _ => ho⟩
theorem _root_.Go.Sim.Acc.kp {h0 h h2 : Heap} {ty : TypeId} {sz : Nat} {cells : List (List AVal)} {a : AVal} (A : Acc h0 ty sz cells a h) (hk : ∀ r o, rootOf a = some r → h r = some o → h2 r = some o) : Acc h0 ty sz cells a h2 := by
  rcases A with q | ⟨r, q0, q1, q2⟩
  · exact .inl q
  · exact .inr ⟨r, q0, hk r _ (by rw [q2]; rfl) q1, q2⟩
/-- what lies in the heap when a round is over: the stack T (its top last), the nodes that were kept -/
structure SL (hb h : Heap) (d : HDoc) (r4 r8 r10 : Nat) (T out : List Int) (rs : Nat) (ao : AVal) : Prop where
  c4 : h r4 = some ⟨.t 27, 1, [[.osl rs 1 0 T.length]]⟩
  cs : ∃ es, h rs = some ⟨.t 3, 1, es⟩ ∧ T.length ≤ es.length ∧ es.take T.length = T.map eInt
  c8 : h r8 = some ⟨.t 39, 1, [[.pin (eDoc d)]]⟩
  c10 : h r10 = some ⟨.t 27, 1, [[ao]]⟩
  o : Acc hb 3 1 (out.map eInt) ao h
  ns : rs ≠ r4 ∧ rs ≠ r8 ∧ rs ≠ r10 ∧ r4 ≠ r10
  na : ∀ r, rootOf ao = some r → r ≠ r4 ∧ r ≠ rs ∧ r ≠ r8 ∧ r ≠ r10 ∧ hb r = none
  f : hb r4 = none ∧ hb rs = none ∧ hb r8 = none ∧ hb r10 = none
  sub : Sim.Sub hb h
theorem SL.strp {h0 hb : Heap} {d : HDoc} {r4 r8 r10 : Nat} {T out : List Int} (h01 : Sim.Sub hb h0) : Strp h0 fun h => ∃ rs ao, SL hb h d r4 r8 r10 T out rs ao := by
  rintro h' h'' ⟨rs, ao, S⟩ _ hk
  have k : ∀ r o, h' r = some o → o.ty.isM = false → h'' r = some o := fun r o ho hm => hk r o ho (.inl hm)
  refine ⟨rs, ao, k _ _ S.c4 rfl, ?_, k _ _ S.c8 rfl, k _ _ S.c10 rfl, ?_, S.ns, S.na, S.f, fun t o ht => hk t o (S.sub t o ht) (.inr (h01 t o ht))⟩
  · obtain ⟨es, h1, h2, h3⟩ := S.cs
    exact ⟨es, k _ _ h1 rfl, h2, h3⟩
  · rcases S.o with q | ⟨r, q0, q1, q2⟩
    · exact .inl q
    · exact .inr ⟨r, q0, k _ _ q1 rfl, q2⟩
/-- the stack's top is taken off -/
theorem SL.pop {hb h : Heap} {d : HDoc} {r4 r8 r10 : Nat} {T out : List Int} {n : Int} {rs : Nat} {ao : AVal} (S : SL hb h d r4 r8 r10 (T ++ [n]) out rs ao) : SL hb (upd h r4 (some ⟨.t 27, 1, [[.osl rs 1 0 T.length]]⟩)) d r4 r8 r10 T out rs ao := by
  obtain ⟨n1, n2, n3, n4⟩ := S.ns
  obtain ⟨es, h1, h2, h3⟩ := S.cs
  have n8 : r8 ≠ r4 := fun e => by
    have q1 := S.c8
    rw [e, S.c4] at q1
    cases q1
  rw [List.length_append, List.length_singleton] at h2 h3
  refine ⟨upd_same _ _ _, ⟨es, by rw [upd_ne _ _ n1]; exact h1, by omega, ?_⟩, by rw [upd_ne _ _ n8]; exact S.c8, by rw [upd_ne _ _ (fun e => n4 e.symm)]; exact S.c10, S.o.kp fun r o hr ho => by rw [upd_ne _ _ (S.na r hr).1]; exact ho, S.ns, S.na, S.f, S.sub.upd S.f.1⟩
  have h4 : (es.take (T.length + 1)).take T.length = es.take T.length := by rw [List.take_take, Nat.min_eq_left (by omega)]
  rw [← h4, h3, List.map_append, List.take_append_of_le_length (by simp), List.take_of_length_le (by simp)]
/-- a number is pushed: the stack lies in another root now -/
theorem SL.push {hb h : Heap} {d : HDoc} {r4 r8 r10 : Nat} {T out : List Int} {k : Int} {rs r' : Nat} {ao : AVal} {es : List (List AVal)} (S : SL hb h d r4 r8 r10 T out rs ao) (he : h rs = some ⟨.t 3, 1, es⟩) (hr : del h rs r' = none) :
    SL hb (upd (upd (del h rs) r' (some ⟨.t 3, 1, es.take T.length ++ [eInt k]⟩)) r4 (some ⟨.t 27, 1, [[.osl r' 1 0 (T.length + 1)]]⟩)) d r4 r8 r10 (T ++ [k]) out r' ao := by
  obtain ⟨n1, n2, n3, n4⟩ := S.ns
  obtain ⟨es', h1, h2, h3⟩ := S.cs
  rw [he] at h1
  cases h1
  have d' : ∀ t o, h t = some o → t ≠ rs → del h rs t = some o := fun t o ht hne => by unfold del; rw [if_neg hne]; exact ht
  have nr : ∀ t o, h t = some o → t ≠ rs → r' ≠ t := fun t o ht hne e => by rw [e, d' t o ht hne] at hr; cases hr
  have q4 := nr _ _ S.c4 (fun e => n1 e.symm)
  have q8 := nr _ _ S.c8 (fun e => n2 e.symm)
  have q10 := nr _ _ S.c10 (fun e => n3 e.symm)
  have n8 : r8 ≠ r4 := fun e => by
    have q1 := S.c8
    rw [e, S.c4] at q1
    cases q1
  have hbd : hb r' = none := by
    by_cases e : r' = rs
    · rw [e]; exact S.f.2.1
    · unfold del at hr; rw [if_neg e] at hr; exact S.sub.none hr
  have keep : ∀ t o, h t = some o → t ≠ rs → t ≠ r4 → (upd (upd (del h rs) r' (some ⟨.t 3, 1, es.take T.length ++ [eInt k]⟩)) r4 (some ⟨.t 27, 1, [[.osl r' 1 0 (T.length + 1)]]⟩)) t = some o := fun t o ht h1 h2 => by
    rw [upd_ne _ _ h2, upd_ne _ _ (fun e => nr t o ht h1 e.symm)]; exact d' t o ht h1
  refine ⟨by rw [upd_same, List.length_append]; rfl, ⟨_, by rw [upd_ne _ _ q4]; exact upd_same _ _ _, by rw [List.length_append, List.length_append, List.length_take, List.length_singleton, List.length_singleton]; omega, ?_⟩, keep _ _ S.c8 (fun e => n2 e.symm) n8, keep _ _ S.c10 (fun e => n3 e.symm) (fun e => n4 e.symm),
    S.o.kp fun r o hr ho => keep r o ho (S.na r hr).2.1 (S.na r hr).1, ⟨q4, q8, q10, n4⟩, fun r hr' => ?_, ⟨S.f.1, hbd, S.f.2.2⟩, fun t o ht => ?_⟩
  · rw [List.length_append, List.length_singleton, List.map_append, h3, List.take_of_length_le (by simp)]; rfl
  · obtain ⟨a1, a2, a3, a4, a5⟩ := S.na r hr'
    obtain ⟨o, ho⟩ := (OwnS.of_acc S.o).1.root hr'
    exact ⟨a1, fun e => nr r o ho a2 e.symm, a3, a4, a5⟩
  · exact keep t o (S.sub t o ht) (fun e => by have := S.f.2.1; rw [← e, ht] at this; cases this) (fun e => by have := S.f.1; rw [← e, ht] at this; cases this)
theorem SL.keep {hb h h2 : Heap} {d : HDoc} {r4 r8 r10 : Nat} {T out : List Int} {rs : Nat} {ao : AVal} (S : SL hb h d r4 r8 r10 T out rs ao) (hs : Sim.Sub h h2) : SL hb h2 d r4 r8 r10 T out rs ao := by
  obtain ⟨es, h1, h2', h3⟩ := S.cs
  exact ⟨hs _ _ S.c4, ⟨es, hs _ _ h1, h2', h3⟩, hs _ _ S.c8, hs _ _ S.c10, S.o.kp fun r o _ ho => hs r o ho, S.ns, S.na, S.f, fun t o ht => hs t o (S.sub t o ht)⟩
/-- a node is kept -/
theorem SL.add {hb h h2 : Heap} {d : HDoc} {r4 r8 r10 : Nat} {T out : List Int} {rs : Nat} {ao a2 : AVal} {x : Int} (S : SL hb h d r4 r8 r10 T out rs ao) (A2 : Acc hb 3 1 (out.map eInt ++ [eInt x]) a2 h2) (S2 : Sim.Sub hb h2) (kp : ∀ r o, h r = some o → rootOf ao ≠ some r → h2 r = some o ∧ rootOf a2 ≠ some r) :
    SL hb (upd h2 r10 (some ⟨.t 27, 1, [[a2]]⟩)) d r4 r8 r10 T (out ++ [x]) rs a2 := by
  obtain ⟨n1, n2, n3, n4⟩ := S.ns
  obtain ⟨es, h1, h2', h3⟩ := S.cs
  have p4 := kp _ _ S.c4 fun e => (S.na _ e).1 rfl
  have ps := kp _ _ h1 fun e => (S.na _ e).2.1 rfl
  have p8 := kp _ _ S.c8 fun e => (S.na _ e).2.2.1 rfl
  have p10 := kp _ _ S.c10 fun e => (S.na _ e).2.2.2.1 rfl
  have n8 : r8 ≠ r10 := fun e => by
    have q1 := S.c8
    rw [e, S.c10] at q1
    cases q1
  refine ⟨by rw [upd_ne _ _ n4]; exact p4.1, ⟨es, by rw [upd_ne _ _ n3]; exact ps.1, h2', h3⟩, by rw [upd_ne _ _ n8]; exact p8.1, upd_same _ _ _, ?_, S.ns, fun r hr => ⟨fun e => p4.2 (by rw [hr, e]), fun e => ps.2 (by rw [hr, e]), fun e => p8.2 (by rw [hr, e]), fun e => p10.2 (by rw [hr, e]), (OwnS.of_acc A2).2.1 r hr⟩, S.f, S2.upd S.f.2.2.2⟩
  rw [List.map_append]
  exact A2.keepA p10.2 _
end Go.Proofs.K
end
section
/- Select. -/
set_option linter.unusedSimpArgs false
set_option linter.unusedVariables false
namespace Go.Proofs.K
open Go Go.Sim Go.Proofs
variable {G : Glob}
def c14 : SFun := ⟨(.seq (.reg [⟨(some 2), (.mv (.c .emp)), none⟩]) (.seq (.seq (.reg [⟨(some 3), (.mv (.t 0)), none⟩, ⟨(some 4), (.isnil 0 false (.t 3)), none⟩]) (.cond (.t 4) (.seq (.reg [⟨(some 2), (.mv (.c .emp)), none⟩]) .ret) .skip)) (.seq (.reg [⟨(some 5), (.bldF 3 1 []), none⟩, ⟨(some 6), (.mv (.t 0)), none⟩, ⟨(some 7), (.app 3 1 8 (.t 5) (.t 6)), none⟩, ⟨(some 2), (.mv (.t 7)), none⟩]) .ret))), [(.tmp 2)]⟩
theorem hc14 : toSF Tryd.prog {} Tryd.f14 = some c14 := by kernel_rfl
theorem hn14 : (Tryd.f14.name == "runtime.NumGoroutine") = false := by kernel_rfl
theorem cloneZ_own {h : Heap} (l : List Int) (hl : l.length ≤ 1073741824) : DCalls (Pg G) 14 [sl eInt l] h (AccK h 3 1 (l.map eInt)) := by
  refine dcalls_of_vc Tryd.func14 hn14 hc14 (by rw [Tryd.ntmps14]; simp) (by rw [Tryd.ntmps14]; decide) ?_
  simp -dsimp -implicitDefEqProofs (disch := omega) only [VCA, ↓reduceIte, reduceCtorEq, c14]
  intro b hb
  refine Br.intro (fun ht => ?_) (fun hf => ?_)
  · simp -dsimp -implicitDefEqProofs (disch := omega) only [VCA, ↓reduceIte]
    have : l = [] := hb (by simpa using ht)
    subst this
    exact ⟨_, Sub.refl _, Acc.nil, Sub.refl _⟩
  · simp -dsimp -implicitDefEqProofs (disch := omega) only [VCA, Nat.reduceEqDiff, ↓reduceIte, reduceCtorEq, okParts, exists_eq_left]
    refine ⟨by omega, by omega, fun r hr => ?_⟩
    exact ⟨_, Sub.refl _, by simpa using Acc.root (cells := l.map eInt) hr (upd_same _ _ _), (Sub.refl _).upd hr⟩
def c12 : SFun := ⟨(.seq (.reg [⟨(some 2), (.boxF 39 1 (.t 0)), none⟩, ⟨(some 3), (.boxF 3 1 (.t 1)), none⟩, ⟨(some 4), (.mv (.c (.prim .nilFunc))), none⟩]) (.seq (.reg [⟨(some 5), (.mkf 24 [] [(.t 3), (.t 2)]), none⟩, ⟨(some 4), (.mv (.t 5)), none⟩]) .ret)), [(.tmp 4)]⟩
theorem hc12 : toSF Tryd.prog {} Tryd.f12 = some c12 := by kernel_rfl
theorem hn12 : (Tryd.f12.name == "runtime.NumGoroutine") = false := by kernel_rfl
theorem OwnS.vwN {α : Type} [Inhabited α] {enc : α → List AVal} {h0 h : Heap} {ty sz : Nat} [LenE enc sz] {l : List α} {a : AVal} (O : OwnS h ty sz (l.map enc) a) (hf : ∀ r, rootOf a = some r → h0 r = none) : Vw (newH h0 h) a (sl enc l) :=
  OwnS.vw (O.keep fun r o hr ho => by rw [newH_none (hf r hr)]; exact ho)
theorem wbelow_ok (d : HDoc) (n : Int) : PCalls (Pg G) 12 [.pin (eDoc d), aInt n] (.fn 24 [] [.pin [aInt n], .pin [.pin (eDoc d)]]) := fun h => by
  refine dcalls_of_vc Tryd.func12 hn12 hc12 (by rw [Tryd.ntmps12]; simp) (by rw [Tryd.ntmps12]; decide) ?_
  simp -dsimp -implicitDefEqProofs (disch := omega) only [VCA, Nat.reduceEqDiff, ↓reduceIte, exists_eq_right, eDoc, c12]
  exact Sub.refl _
def c24 : MCode := (.seq (.reg [(.op ⟨(some 8), (.ld 1 false (.t 1)), none⟩), (.op ⟨(some 9), (.bldR 3 1 [(.t 8)]), none⟩), (.op ⟨(some 4), (.new 27 1 [.emp]), none⟩), (.op ⟨none, (.st 1 (.t 4) (.t 9)), none⟩)]) (.block 0 (.loop (.seq (.seq (.reg [(.op ⟨(some 10), (.ld 1 false (.t 4)), none⟩), (.op ⟨(some 11), (.len (.t 10)), none⟩), (.op ⟨(some 12), (.bin .gtr (.t 11) (.c (.int .i64 (0)))), none⟩)]) (.cond (.t 12) .skip (.exit 0))) (.block 1 (.seq (.reg [(.op ⟨(some 13), (.ld 1 false (.t 4)), none⟩), (.op ⟨(some 14), (.ld 1 false (.t 4)), none⟩), (.op ⟨(some 15), (.len (.t 14)), none⟩), (.op ⟨(some 16), (.bin .sub (.t 15) (.c (.int .i64 (1)))), none⟩), (.op ⟨(some 17), (.idxA 1 (.t 13) (.t 16)), none⟩), (.op ⟨(some 18), (.ld 1 false (.t 17)), none⟩), (.op ⟨(some 5), (.mv (.t 18)), none⟩)]) (.seq (.reg [(.op ⟨(some 19), (.ld 1 false (.t 4)), none⟩), (.op ⟨(some 20), (.ld 1 false (.t 4)), none⟩), (.op ⟨(some 21), (.len (.t 20)), none⟩), (.op ⟨(some 22), (.bin .sub (.t 21) (.c (.int .i64 (1)))), none⟩), (.op ⟨(some 23), (.slA 1 (.t 19) none (some (.t 22))), none⟩), (.op ⟨none, (.st 1 (.t 4) (.t 23)), none⟩)]) (.seq (.seq (.reg [(.op ⟨(some 24), (.mv (.t 0)), none⟩), (.op ⟨(some 25), (.mv (.t 5)), none⟩), (.yld (some 26) (.t 24) [(.t 25)]), (.op ⟨(some 27), (.un .not (.t 26)), none⟩)]) (.cond (.t 27) .ret .skip)) (.seq (.reg [(.op ⟨(some 28), (.ld 1 false (.t 2)), none⟩), (.op ⟨(some 29), (.fldA 0 (.t 28)), none⟩), (.op ⟨(some 30), (.fldA 0 (.t 29)), none⟩), (.op ⟨(some 31), (.fldA 0 (.t 30)), none⟩), (.op ⟨(some 32), (.ld 1 false (.t 31)), none⟩), (.op ⟨(some 33), (.mv (.t 5)), none⟩), (.op ⟨(some 34), (.idxA 6 (.t 32) (.t 33)), none⟩), (.op ⟨(some 35), (.fldA 5 (.t 34)), none⟩), (.op ⟨(some 36), (.ld 1 false (.t 35)), none⟩), (.op ⟨(some 37), (.pcall 25 [(.t 36)]), none⟩)]) (.block 2 (.sub (.range (.t 37) [38, 39] (.reg [⟨(some 7), (.mv (.t 39)), none⟩]) (.block 3 (.reg [⟨(some 40), (.ld 1 false (.t 4)), none⟩, ⟨(some 41), (.mv (.t 7)), none⟩, ⟨(some 42), (.bldF 3 1 [(.t 41)]), none⟩, ⟨(some 43), (.app 3 1 8 (.t 40) (.t 42)), none⟩, ⟨none, (.st 1 (.t 4) (.t 43)), none⟩]))))))))))))))
theorem hc24 : toMF Tryd.prog {pure := [25], how := [(9, 2)]} Tryd.f24 = some c24 := by kernel_rfl
theorem hn24 : (Tryd.f24.name == "runtime.NumGoroutine") = false := by kernel_rfl
def c6 : SFun := ⟨(.seq (.reg [⟨(some 3), (.boxF 24 2 (.t 0)), none⟩, ⟨(some 5), (.boxF 30 1 (.t 2)), none⟩, ⟨(some 6), (.mv (.c .emp)), none⟩, ⟨(some 7), (.mv (.c (.int .i64 (0)))), none⟩]) (.seq (.reg [⟨(some 14), (.ld 2 true (.t 3)), none⟩, ⟨(some 15), (.pcall 11 [(.t 14), (.c .emp)]), none⟩, ⟨(some 13), (.mv (.t 15)), none⟩, ⟨(some 16), (.ext (.t 13) 0), none⟩, ⟨(some 17), (.ext (.t 13) 1), none⟩, ⟨(some 8), (.new 39 1 [(.prim (Value.pointer none))]), none⟩, ⟨none, (.st 1 (.t 8) (.t 16)), none⟩, ⟨(some 9), (.mv (.t 17)), none⟩]) (.seq (.block 0 (.seq (.reg [⟨(some 19), (.mv (.t 9)), none⟩, ⟨(some 20), (.bin .neq (.t 19) (.c (.int .i64 (0)))), none⟩, ⟨(some 18), (.mv (.t 20)), none⟩]) (.cond (.t 18) .skip (.seq (.reg [⟨(some 22), (.mv (.t 1)), none⟩, ⟨(some 23), (.bin .lss (.t 22) (.c (.int .i64 (0)))), none⟩, ⟨(some 24), (.mv (.t 23)), none⟩, ⟨(some 25), (.mv (.t 1)), (some (24, false))⟩, ⟨(some 26), (.fldA 0 (.t 3)), (some (24, false))⟩, ⟨(some 27), (.ld 1 false (.t 26)), (some (24, false))⟩, ⟨(some 28), (.len (.t 27)), (some (24, false))⟩, ⟨(some 29), (.bin .geq (.t 25) (.t 28)), (some (24, false))⟩, ⟨(some 30), (.pick (.t 24) (.c (.bool true)) (.t 29)), none⟩, ⟨(some 21), (.mv (.t 30)), none⟩]) (.cond (.t 21) (.reg [⟨(some 9), (.mv (.c (.int .i64 (1)))), none⟩]) (.seq (.reg [⟨(some 32), (.ld 1 false (.t 5)), none⟩, ⟨(some 33), (.isnil 2 false (.t 32)), none⟩, ⟨(some 31), (.mv (.t 33)), none⟩]) (.cond (.t 31) (.reg [⟨(some 9), (.mv (.c (.int .i64 (9)))), none⟩]) .skip))))))) (.seq (.seq (.reg [⟨(some 34), (.mv (.t 9)), none⟩, ⟨(some 35), (.bin .neq (.t 34) (.c (.int .i64 (0)))), none⟩]) (.cond (.t 35) (.seq (.reg [⟨(some 36), (.mv (.t 9)), none⟩, ⟨(some 6), (.mv (.c .emp)), none⟩, ⟨(some 7), (.mv (.t 36)), none⟩]) .ret) .skip)) (.seq (.reg [⟨(some 10), (.new 27 1 [.emp]), none⟩]) (.seq (.seq (.reg [⟨(some 37), (.ld 1 false (.t 8)), none⟩, ⟨(some 38), (.mv (.t 1)), none⟩, ⟨(some 39), (.pcall 12 [(.t 37), (.t 38)]), none⟩]) (.block 1 (.range (.t 39) [40] (.reg [⟨(some 11), (.mv (.t 40)), none⟩]) (.block 2 (.seq (.reg [⟨(some 41), (.ld 1 false (.t 8)), none⟩, ⟨(some 42), (.fldA 0 (.t 41)), none⟩, ⟨(some 43), (.fldA 0 (.t 42)), none⟩, ⟨(some 44), (.fldA 0 (.t 43)), none⟩, ⟨(some 45), (.ld 1 false (.t 44)), none⟩, ⟨(some 46), (.mv (.t 11)), none⟩, ⟨(some 47), (.idxA 6 (.t 45) (.t 46)), none⟩, ⟨(some 48), (.ld 6 true (.t 47)), none⟩, ⟨(some 12), (.new 29 6 [(.int .i64 (0)), (.str []), .emp, (.str []), (.int .i64 (0)), .emp]), none⟩, ⟨none, (.st 6 (.t 12) (.t 48)), none⟩]) (.seq (.dreg [(⟨(some 49), (.fldA 2 (.t 12)), none⟩, none), (⟨(some 50), (.ld 1 false (.t 49)), none⟩, none), (⟨(some 51), (.pcall 13 [(.t 50)]), none⟩, none), (⟨(some 52), (.fldA 5 (.t 12)), none⟩, none), (⟨(some 53), (.ld 1 false (.t 52)), none⟩, none), (⟨(some 55), (.fldA 2 (.t 12)), none⟩, none), (⟨(some 54), (.call (.c (.fn 14 [] [])) [(.t 53)]), none⟩, (some [53, 50])), (⟨none, (.st 1 (.t 55) (.t 51)), none⟩, (some [53, 50])), (⟨(some 56), (.fldA 5 (.t 12)), none⟩, none), (⟨none, (.st 1 (.t 56) (.t 54)), none⟩, (some [53, 50]))]) (.seq (.reg [⟨(some 57), (.ld 1 false (.t 5)), none⟩, ⟨(some 58), (.ld 6 true (.t 12)), none⟩, ⟨(some 59), (.call (.t 57) [(.t 58)]), none⟩]) (.cond (.t 59) (.reg [⟨(some 60), (.ld 1 false (.t 10)), none⟩, ⟨(some 61), (.mv (.t 11)), none⟩, ⟨(some 62), (.bldF 3 1 [(.t 61)]), none⟩, ⟨(some 63), (.app 3 1 8 (.t 60) (.t 62)), none⟩, ⟨none, (.st 1 (.t 10) (.t 63)), none⟩]) .skip)))))))) (.seq (.reg [⟨(some 64), (.ld 1 false (.t 10)), none⟩, ⟨(some 6), (.mv (.t 64)), none⟩, ⟨(some 7), (.mv (.c (.int .i64 (0)))), none⟩]) .ret))))))), [(.tmp 6), (.tmp 7)]⟩
theorem hc6 : toSF Tryd.prog {pure := [11, 12, 13]} Tryd.f6 = some c6 := by kernel_rfl
theorem hn6 : (Tryd.f6.name == "runtime.NumGoroutine") = false := by kernel_rfl
def pL : SCode → SCode
  | .seq a _ => a
  | c => c
def pR : SCode → SCode
  | .seq _ b => b
  | c => c
def pB : SCode → SCode
  | .block _ c => c
  | .range _ _ _ c => c
  | c => c
def pT : SCode → SCode
  | .cond _ a _ => a
  | c => c
def pE : SCode → SCode
  | .cond _ _ b => b
  | c => c
/-- what a round does with a node that was asked of -/
def selC : SCode := pR (pR (pR (pB (pB (pB (pR (pL (pR (pR (pR (pR (pR c6.code))))))))))))
theorem selC_ok {hb h : Heap} {d : HDoc} {r4 r8 r10 : Nat} {T out : List Int} {rs : Nat} {ao : AVal} (S : SL hb h d r4 r8 r10 T out rs ao) {e : Env} {x : Int} {t : Bool} {K : SExit → Env → Heap → Prop} (e10 : e 10 = .vp r10 0) (e11 : e 11 = aInt x) (hl : out.length ≤ 100000)
    (hK : ∀ e' h' ao', SL hb h' d r4 r8 r10 T (out ++ if t = true then [x] else []) rs ao' → K .normal e' h') : Br t (vc (Pg G) (pT selC) K e h) (vc (Pg G) (pE selC) K e h) .mk := by
  have g10 := S.c10
  skip
  refine Br.intro (fun ht => ?_) (fun ht => ?_)
  · subst ht
    simp -dsimp -implicitDefEqProofs (disch := omega) only [VCA, Nat.reduceEqDiff, Nat.reduceLT, ↓reduceIte, okParts, forall_eq, exists_eq_left, exists_eq_left', selC, pL, pR, pB, pT, c6, e10, e11, g10]
    refine S.o.appW S.sub (by simp only [List.length_map, List.length_cons, List.length_nil]; omega) (by simp only [List.length_map, List.length_cons, List.length_nil]; omega) fun a2 h4 A4 S4 kp => ?_
    have g10' := (kp _ _ g10 fun e => (S.na _ e).2.2.2.1 rfl).1
    have iv := (OwnS.of_acc A4).1.isV
    simp -dsimp -implicitDefEqProofs (disch := omega) only [VCA, Nat.reduceEqDiff, Nat.reduceLT, ↓reduceIte, setAt, exists_eq_left', e10, g10']
    refine ⟨iv.1, by rw [iv.2]; rfl, ?_⟩
    have S5 := S.add A4 S4 kp
    rw [iv.2]
    exact hK _ _ _ S5
  · subst ht
    simp -dsimp -implicitDefEqProofs (disch := omega) only [VCA, selC, pL, pR, pB, pE, c6]
    refine hK _ _ ao ?_
    show SL hb h d r4 r8 r10 T (out ++ []) rs ao
    rw [List.append_nil]; exact S
def selM (d : HDoc) (n kind : Int) : List Int := (below d n).filter fun m => (nd d m).kind == kind
set_option maxHeartbeats 4000000 in
theorem select_run (d : HDoc) (V : DV d) (sm : DocSm d) (n : Int) (hn : inD d n) (kind : Int) : PCalls (Pg G) 6 [.agg (eDoc d), aInt n, .fn 5 [] [.pin [aInt kind]]] (.tup [sl eInt (selM d n kind), aInt 0]) := PCalls.outV fun h => by
  have h0 := (docE_iff d).2 V
  have cC := wcheck0_ok (G := G) d sm
  rw [h0] at cC
  have cB := wbelow_ok (G := G) d n
  have n0 := hn.1
  have n1 := hn.2
  have z0 : ((0 : Int) != 0) = false := rfl
  have w0 : wPin d 0 = .pin (eDoc d) := rfl
  have d0 : decide (n < 0) = false := decide_eq_false (by omega)
  have d1 : decide ((d.nodes.length : Int) ≤ n) = false := decide_eq_false (by omega)
  rw [w0] at cC
  unfold eDoc at cC cB
  refine dcalls_of_vc Tryd.func6 hn6 hc6 (by rw [Tryd.ntmps6]; simp) (by rw [Tryd.ntmps6]; decide) ?_
  simp -dsimp -implicitDefEqProofs (disch := omega) only [VCA, Nat.reduceEqDiff, Nat.reduceAdd, ↓reduceIte, eDoc, c6, eDoc]
  repeat' (first | ((with_reducible refine Br.dec (fun _ => ?_) (fun _ => ?_)) <;> try (exfalso; omega)) | ((with_reducible refine Br.eq (fun _ => ?_) (fun _ => ?_)) <;> try (exfalso; omega)) | ((with_reducible refine Br.ne (fun _ => ?_) (fun _ => ?_)) <;> try (exfalso; omega)) | ((with_reducible refine brNdec (fun _ => ?_) (fun _ => ?_)) <;> try (exfalso; omega)) | ((with_reducible refine brNeq (fun _ => ?_) (fun _ => ?_)) <;> try (exfalso; omega)) | with_reducible refine Br.intro (fun _ => ?_) (fun _ => ?_) | (with_reducible apply pcallE.of; · exact cC) | (with_reducible refine And.intro ?_ ?_; · omega) | simp -dsimp -implicitDefEqProofs (disch := omega) only [↓vcOps_sp 24, VCA, ↓upd_none, Nat.reduceEqDiff, Nat.reduceAdd, Nat.reduceLT, Nat.reduceLeDiff, ↓reduceIte, setAt, ne_eq, exists_eq_left', z0, d0, d1])
  intro r8 hr8
  repeat' (first | ((with_reducible refine Br.dec (fun _ => ?_) (fun _ => ?_)) <;> try (exfalso; omega)) | ((with_reducible refine Br.eq (fun _ => ?_) (fun _ => ?_)) <;> try (exfalso; omega)) | ((with_reducible refine Br.ne (fun _ => ?_) (fun _ => ?_)) <;> try (exfalso; omega)) | ((with_reducible refine brNdec (fun _ => ?_) (fun _ => ?_)) <;> try (exfalso; omega)) | ((with_reducible refine brNeq (fun _ => ?_) (fun _ => ?_)) <;> try (exfalso; omega)) | with_reducible refine Br.intro (fun _ => ?_) (fun _ => ?_) | (with_reducible refine And.intro ?_ ?_; · omega) | simp -dsimp -implicitDefEqProofs (disch := omega) only [↓vcOps_sp 24, ↓vcD_sp 24, VCA, pg_gl, ↓upd_none, Nat.reduceEqDiff, Nat.reduceBEq, Nat.reduceAdd, Nat.reduceSub, Nat.reduceMul, Nat.reduceLT, Nat.reduceLeDiff, ↓reduceIte, reduceCtorEq, rsOf, rootsOf, SOp.rd, SI.rd, SX.rd, rdL, rdO, rdP, okParts, eqCells, okEqCells, fillA, okFill, setAt, implies_true, forall_const, forall_eq, ne_eq, exists_eq_right_right, exists_eq_right, exists_eq_left, exists_eq_left', rootL, eInt, eNode, eDoc, lit_eq, MT1, MT2, MT3, z0, d0, d1, eDoc, upd_same])
  intro r10 hr10
  have m1 : ¬ r10 = r8 := hr10.1
  have m2 : ¬ r8 = r10 := fun h => m1 h.symm
  repeat' (first | ((with_reducible refine Br.dec (fun _ => ?_) (fun _ => ?_)) <;> try (exfalso; omega)) | ((with_reducible refine Br.eq (fun _ => ?_) (fun _ => ?_)) <;> try (exfalso; omega)) | ((with_reducible refine Br.ne (fun _ => ?_) (fun _ => ?_)) <;> try (exfalso; omega)) | ((with_reducible refine brNdec (fun _ => ?_) (fun _ => ?_)) <;> try (exfalso; omega)) | ((with_reducible refine brNeq (fun _ => ?_) (fun _ => ?_)) <;> try (exfalso; omega)) | with_reducible refine Br.intro (fun _ => ?_) (fun _ => ?_) | (with_reducible apply pcallE.of; · exact cB) | (with_reducible refine And.intro ?_ ?_; · omega) | simp -dsimp -implicitDefEqProofs (disch := omega) only [VCA, Nat.reduceLT, ↓reduceIte, exists_eq_left', m2])
  refine RangeVC.introI (iterS_of_mtv Tryd.func24 hn24 hc24 (by rw [Tryd.ntmps24]; simp) (by rw [Tryd.ntmps24]; decide)) rfl (fun lY => ?_)
  simp -dsimp -implicitDefEqProofs (disch := omega) only [VCA, ↓upd_none, Nat.reduceEqDiff, Nat.reduceLT, ↓reduceIte, okParts, setAt, ne_eq, exists_eq_left', lit_eq, MT1, MT2, c24]
  intro rs0 hrs r4 hr4
  have e48 : r4 ≠ r8 := hr4.2.2.1
  have e410 : r4 ≠ r10 := hr4.2.1
  have e4s : r4 ≠ rs0 := hr4.1
  have es8 : rs0 ≠ r8 := hrs.2.1
  have es10 : rs0 ≠ r10 := hrs.1
  have init : SL h (upd (upd (upd (upd h r8 (some ⟨.t 39, 1, [[.pin [sl eNode d.nodes, .bool d.quirks]]]⟩)) r10 (some ⟨.t 27, 1, [[.emp]]⟩)) rs0 (some ⟨.t 3, 1, [[.int .i64 n]]⟩)) r4 (some ⟨.t 27, 1, [[.osl rs0 1 0 1]]⟩)) d r4 r8 r10 [n] [] rs0 .emp := by
    refine ⟨upd_same _ _ _, ⟨[[.int .i64 n]], by rw [upd_ne _ _ e4s.symm]; exact upd_same _ _ _, Nat.le_refl _, rfl⟩, ?_, ?_, .inl ⟨rfl, rfl⟩, ⟨e4s.symm, es8, es10, e410⟩, (fun r hr => by cases hr), ⟨hr4.2.2.2, hrs.2.2, hr8, hr10.2⟩, ?_⟩
    · rw [upd_ne _ _ e48.symm, upd_ne _ _ es8.symm, upd_ne _ _ m2]; exact upd_same _ _ _
    · rw [upd_ne _ _ e410.symm, upd_ne _ _ es10.symm]; exact upd_same _ _ _
    · exact ((((Sub.refl h).upd hr8).upd hr10.2).upd hrs.2.2).upd hr4.2.2.2
  have bl := below_len V hn
  have dl := V.len
  refine mtLoop.intro (fun m s e h' => ∃ (T out p : List Int) (rs : Nat) (ao : AVal), s = none ∧ e 0 = .prim (.func (.yield lY) #[] #[]) ∧ e 2 = .pin [.pin [sl eNode d.nodes, .bool d.quirks]] ∧ e 4 = .vp r4 0 ∧ SL h h' d r4 r8 r10 T out rs ao ∧ (∀ x ∈ T, inD d x) ∧ p ++ T.reverse.flatMap (below d) = below d n ∧ out = p.filter (fun m => (nd d m).kind == kind) ∧ m = (T.reverse.flatMap (below d)).length)
    _ (by exact ⟨[n], [], [], rs0, .emp, rfl, rfl, rfl, rfl, init, fun x hx => by rw [List.mem_singleton] at hx; rw [hx]; exact hn, by simp, rfl, rfl⟩) ?_
  clear init
  rintro m s e h' ⟨T, out, p, rs, ao, rfl, e0, e2, e4, S, hT, hp, ho, rfl⟩
  have hTl : T.length ≤ (T.reverse.flatMap (below d)).length := by
    clear hp ho S
    induction T with
    | nil => exact Nat.le_refl _
    | cons x r ih =>
      have h1 := ih fun y hy => hT y (List.mem_cons_of_mem _ hy)
      have h2 : 1 ≤ (below d x).length := by rw [below_eq V (hT x List.mem_cons_self)]; simp
      rw [List.reverse_cons, List.flatMap_append, List.length_append, List.length_cons]
      simp only [List.flatMap_cons, List.flatMap_nil, List.append_nil]
      omega
  have hpl : p.length + (T.reverse.flatMap (below d)).length = (below d n).length := by rw [← hp, List.length_append]
  have g4 := S.c4
  rcases List.eq_nil_or_concat T with rfl | ⟨T0, x, rfl⟩
  · have g10 := S.c10
    have hps : p = below d n := by rw [← hp]; simp
    have hlen0 : (([] : List Int).length : Int) = 0 := rfl
    simp -dsimp -implicitDefEqProofs (disch := omega) only [VCA, Nat.reduceLT, ↓reduceIte, exists_eq_left', MT1, MT2, e4, g4]
    refine Br.dec (fun h => absurd h (by omega)) (fun _ => ?_)
    simp -dsimp -implicitDefEqProofs (disch := omega) only [VCA, Nat.reduceEqDiff, Nat.reduceLT, ↓reduceIte, exists_eq_left', MT1, MT2, MT3, g10]
    refine ⟨_, Sub.refl _, S.sub, .tup' (.cons ?_ (.cons (.refl _) .nil))⟩
    have e1 : selM d n kind = out := by rw [ho, hps]; rfl
    rw [e1]
    exact (OwnS.of_acc S.o).1.vwN fun r hr => (S.na r hr).2.2.2.2
  · have hx := hT x (by simp)
    obtain ⟨es, g1, g2, g3⟩ := S.cs
    rw [List.concat_eq_append] at S g4 g2 g3 hT hp hTl hpl
    rw [List.length_append, List.length_singleton] at g4 g2 g3 hTl
    have hrow : es.getD T0.length [] = eInt x := by
      have h5 : (es.take (T0.length + 1))[T0.length]? = some (eInt x) := by rw [g3, List.map_append, List.getElem?_append_right (by simp)]; simp
      rw [List.getElem?_take, if_pos (by omega)] at h5
      rw [List.getD_eq_getElem?_getD, h5]; rfl
    have gt0 : decide ((0 : Int) < ((T0.length + 1 : Nat) : Int)) = true := decide_eq_true (by omega)
    have tn : (((T0.length + 1 : Nat) : Int) - 1).toNat = T0.length := by omega
    have n84 : ¬ r8 = r4 := fun e => by
      have q1 := S.c8
      rw [e, g4] at q1
      cases q1
    have g8 : h' r8 = some ⟨.t 39, 1, [[.pin [sl eNode d.nodes, .bool d.quirks]]]⟩ := S.c8
    have en : nth d.nodes x.toNat = nd d x := rfl
    have x0 := hx.1
    have x1 := hx.2
    have S1 := S.pop
    repeat' (first | ((with_reducible refine Br.dec (fun _ => ?_) (fun _ => ?_)) <;> try (exfalso; omega)) | ((with_reducible refine Br.eq (fun _ => ?_) (fun _ => ?_)) <;> try (exfalso; omega)) | ((with_reducible refine Br.ne (fun _ => ?_) (fun _ => ?_)) <;> try (exfalso; omega)) | ((with_reducible refine brNdec (fun _ => ?_) (fun _ => ?_)) <;> try (exfalso; omega)) | ((with_reducible refine brNeq (fun _ => ?_) (fun _ => ?_)) <;> try (exfalso; omega)) | with_reducible refine Br.intro (fun _ => ?_) (fun _ => ?_) | (with_reducible refine And.intro ?_ ?_; · omega) | simp -dsimp -implicitDefEqProofs (disch := omega) only [VCA, ↓upd_none, Nat.reduceEqDiff, Nat.reduceAdd, Nat.reduceLT, Nat.reduceLeDiff, ↓reduceIte, reduceCtorEq, rsOf, rootsOf, setAt, ne_eq, exists_eq_left', rootL, eInt, eNode, MT1, MT2, MT3, e4, e0, g4, g1, gt0, hrow, n84, g8, en])
    intro r12 hr12
    have cA := cloneA_ok (G := G) (nd d x).attrs (sm.nd x).attrs
    repeat' (first | ((with_reducible refine Br.dec (fun _ => ?_) (fun _ => ?_)) <;> try (exfalso; omega)) | ((with_reducible refine Br.eq (fun _ => ?_) (fun _ => ?_)) <;> try (exfalso; omega)) | ((with_reducible refine Br.ne (fun _ => ?_) (fun _ => ?_)) <;> try (exfalso; omega)) | ((with_reducible refine brNdec (fun _ => ?_) (fun _ => ?_)) <;> try (exfalso; omega)) | ((with_reducible refine brNeq (fun _ => ?_) (fun _ => ?_)) <;> try (exfalso; omega)) | with_reducible refine Br.intro (fun _ => ?_) (fun _ => ?_) | (with_reducible apply pcallE.of; · exact cA) | (with_reducible refine And.intro ?_ ?_; · omega) | simp -dsimp -implicitDefEqProofs (disch := omega) only [VCA, Nat.reduceEqDiff, Nat.reduceAdd, Nat.reduceLT, ↓reduceIte, rsOf, rootsOf, exists_eq_left', rootL])
    obtain ⟨hA, hAe⟩ : ∃ hA, upd h' r4 (some ⟨.t 27, 1, [[.osl rs 1 0 T0.length]]⟩) = hA := ⟨_, rfl⟩
    have hA12 : hA r12 = none := by rw [← hAe, upd_ne _ _ hr12.1]; exact hr12.2
    rw [hAe] at S1 ⊢
    refine DCalls.of (cloneZ_own (G := G) _ (sm.nd x).kids) ?_
    rintro b h2 ⟨AC, SC⟩
    refine ⟨fun p hp hc => ?_, ?_⟩
    · rcases List.mem_cons.1 hp with rfl | hp
      · simp at hc
      · rw [List.mem_singleton] at hp; subst hp; simp at hc
    have g12 := SC _ _ (upd_same _ _ _)
    obtain ⟨OB, hbf, MB⟩ := OwnS.of_acc AC
    have hb12 : rootOf b ≠ some r12 := fun e => by have := hbf _ e; rw [upd_same] at this; cases this
    have sA2 : Sim.Sub hA h2 := fun t o ht => SC t o (by rw [upd_ne _ _ (fun e => by rw [e, hA12] at ht; cases ht)]; exact ht)
    have ivb := OB.isV
    repeat' (first | ((with_reducible refine Br.dec (fun _ => ?_) (fun _ => ?_)) <;> try (exfalso; omega)) | ((with_reducible refine Br.eq (fun _ => ?_) (fun _ => ?_)) <;> try (exfalso; omega)) | ((with_reducible refine Br.ne (fun _ => ?_) (fun _ => ?_)) <;> try (exfalso; omega)) | ((with_reducible refine brNdec (fun _ => ?_) (fun _ => ?_)) <;> try (exfalso; omega)) | ((with_reducible refine brNeq (fun _ => ?_) (fun _ => ?_)) <;> try (exfalso; omega)) | with_reducible refine Br.intro (fun _ => ?_) (fun _ => ?_) | (with_reducible refine And.intro ?_ ?_; · omega) | simp -dsimp -implicitDefEqProofs (disch := omega) only [VCA, Nat.reduceEqDiff, Nat.reduceBEq, Nat.reduceAdd, Nat.reduceLT, Nat.reduceLeDiff, ↓reduceIte, rsOf, rootsOf, SOp.rd, SI.rd, SX.rd, rdL, setAt, exists_eq_left', rootL, g12, ivb.1, ivb.2])
    have OB3 := fun o => OB.keep (h2 := upd h2 r12 (some o)) fun r ob hr ho => by rw [upd_ne _ _ (fun e => hb12 (by rw [hr, e]))]; exact ho
    refine DCalls.of (keep1_ok (G := G) _ _ _ _ _ _ _ kind ⟨rfl, rfl⟩ (OB3 _) MB) ?_
    rintro v h3 ⟨rfl, k3⟩
    have sA3 : Sim.Sub hA h3 := fun t o ht => by
      have hne : t ≠ r12 := fun e => by rw [e, hA12] at ht; cases ht
      refine k3 t o (by rw [upd_ne _ _ hne]; exact sA2 t o ht) fun e => ?_
      have := hbf _ e
      rw [upd_ne _ _ hne, ht] at this; cases this
    have S3 := S1.keep sA3
    have f0 : (p ++ [x]).filter (fun m => (nd d m).kind == kind) = out ++ if (nd d x).kind == kind then [x] else [] := by
      rw [List.filter_append, ← ho]; congr 1
      simp only [List.filter_cons, List.filter_nil]
    have q10 : ∀ (eX : Env), True := fun _ => trivial
    simp -dsimp -implicitDefEqProofs (disch := omega) only [VCA, ↓reduceIte]
    refine selC_ok (G := G) S3 (x := x) ?_ ?_ ?_ ?_
    · rfl
    · rfl
    · have h9 := List.length_filter_le (fun m => (nd d m).kind == kind) p
      rw [← ho] at h9
      omega
    intro e6 h5 ao' S5
    rw [← f0] at S5
    have cBk := backI_ok (G := G) (nd d x).kids
    repeat' (first | ((with_reducible refine Br.dec (fun _ => ?_) (fun _ => ?_)) <;> try (exfalso; omega)) | ((with_reducible refine Br.eq (fun _ => ?_) (fun _ => ?_)) <;> try (exfalso; omega)) | ((with_reducible refine Br.ne (fun _ => ?_) (fun _ => ?_)) <;> try (exfalso; omega)) | ((with_reducible refine brNdec (fun _ => ?_) (fun _ => ?_)) <;> try (exfalso; omega)) | ((with_reducible refine brNeq (fun _ => ?_) (fun _ => ?_)) <;> try (exfalso; omega)) | with_reducible refine Br.intro (fun _ => ?_) (fun _ => ?_) | (with_reducible apply pcallE.of; · exact cBk) | (with_reducible refine And.intro ?_ ?_; · omega) | simp -dsimp -implicitDefEqProofs (disch := omega) only [VCA, Nat.reduceEqDiff, Nat.reduceAdd, Nat.reduceLeDiff, ↓reduceIte, eNode, MT1, MT2, MT3, e2, en, eNode])
    have hkl := (sm.nd x).kids
    have hS : ∃ rs ao, SL h h5 d r4 r8 r10 (T0 ++ (([] : List (Nat × Int)).map (·.2))) ((p ++ [x]).filter fun m => (nd d m).kind == kind) rs ao := ⟨rs, ao', by rw [List.map_nil, List.append_nil]; exact S5⟩
    refine RangeVC.intro (backI1_it (G := G) (nd d x).kids hkl) rfl (fun _ => rfl) (fun pre h' => ∃ rs ao, SL h h' d r4 r8 r10 (T0 ++ pre.map (·.2)) ((p ++ [x]).filter fun m => (nd d m).kind == kind) rs ao) (fun _ _ _ => False) hS ?_ ?_ ?_ ⟨fun pre => SL.strp S5.sub, fun _ _ _ _ h _ _ => h.elim⟩
    · rintro pre y h6 ⟨rs6, ao6, S6⟩ hlen
      have q4 := S6.c4
      obtain ⟨es6, k1, k2, k3⟩ := S6.cs
      have hl6 : (T0 ++ pre.map (·.2)).length = T0.length + pre.length := by rw [List.length_append, List.length_map]
      rw [hl6] at q4 k2
      simp -dsimp -implicitDefEqProofs (disch := omega) only [VCA, Nat.reduceEqDiff, Nat.reduceLT, Nat.reduceLeDiff, ↓reduceIte, okParts, setAt, forall_eq, exists_eq_left, exists_eq_left', e4, q4, eBkI]
      refine ⟨_, k1, rfl, k2, by omega, by omega, fun r' hr' => ?_⟩
      have n4 := S6.ns.1
      have q : del h6 rs6 r4 = some ⟨.t 27, 1, [[.osl rs6 1 0 (T0.length + pre.length)]]⟩ := by unfold del; rw [if_neg (fun e => n4 e.symm)]; exact q4
      have n4' : r4 ≠ r' := fun e => by rw [e, hr'] at q; cases q
      have S7 := S6.push (k := y.2) k1 hr'
      rw [hl6] at S7
      rw [if_neg n4', q]
      refine ⟨_, rfl, Nat.zero_lt_one, Nat.le_refl 1, r', ao6, ?_⟩
      rw [List.map_append, ← List.append_assoc]
      exact S7
    · rintro h6 ⟨rs6, ao6, S6⟩
      rw [bkI_map _ _ (Nat.le_refl _), List.take_length] at S6
      simp -dsimp -implicitDefEqProofs (disch := omega) only [VCA, Nat.reduceEqDiff, ↓reduceIte, reduceCtorEq, MT2, e0, e2, e4]
      have q1 : (T0 ++ [x]).reverse.flatMap (below d) = x :: ((nd d x).kids.flatMap (below d) ++ T0.reverse.flatMap (below d)) := by
        rw [List.reverse_append, List.reverse_singleton, List.singleton_append, List.flatMap_cons, below_eq V hx]; rfl
      have q2 : (T0 ++ (nd d x).kids.reverse).reverse.flatMap (below d) = (nd d x).kids.flatMap (below d) ++ T0.reverse.flatMap (below d) := by
        rw [List.reverse_append, List.reverse_reverse, List.flatMap_append]
      have q3 : (p ++ [x]) ++ (T0 ++ (nd d x).kids.reverse).reverse.flatMap (below d) = below d n := by
        rw [q2, List.append_assoc, List.singleton_append, ← q1]; exact hp
      have q4 : ((T0 ++ (nd d x).kids.reverse).reverse.flatMap (below d)).length < ((T0.concat x).reverse.flatMap (below d)).length := by
        rw [List.concat_eq_append, q1, q2, List.length_cons]; omega
      have q5 : ∀ y ∈ T0 ++ (nd d x).kids.reverse, inD d y := fun y hy => by
        rcases List.mem_append.1 hy with hy | hy
        · exact hT y (List.mem_append_left _ hy)
        · exact (V.kid x hx y (List.mem_reverse.1 hy)).1
      exact ⟨_, q4, T0 ++ (nd d x).kids.reverse, _, p ++ [x], rs6, ao6, S6, q5, q3, rfl, rfl⟩
    · exact fun ex pre h' _ _ h => h.elim
end Go.Proofs.K
end
section
/- Select: the law. -/
set_option linter.unusedSimpArgs false
set_option linter.unusedVariables false
namespace Go.Proofs.K
open Go Go.Sim Go.Proofs
variable {G : Glob}
def selE (d : HDoc) (n : Int) (no : Bool) : Int := if docE d ≠ 0 then docE d else if ¬ inD d n then 1 else if no = true then 9 else 0
def selV (d : HDoc) (n kind : Int) (no : Bool) : List Int := if selE d n no = 0 then selM d n kind else []
def keepV (kind : Int) (no : Bool) : AVal := if no = true then .prim .nilFunc else .fn 5 [] [.pin [aInt kind]]
set_option maxHeartbeats 2000000 in
theorem select_ok (d : HDoc) (sm : DocSm d) (n kind : Int) (no : Bool) : PCalls (Pg G) 6 [.agg (eDoc d), aInt n, keepV kind no] (.tup [sl eInt (selV d n kind no), aInt (selE d n no)]) := by
  by_cases h0 : selE d n no = 0
  · unfold selE at h0
    split at h0
    · contradiction
    · rename_i h1
      split at h0
      · cases h0
      · rename_i h2
        split at h0
        · cases h0
        · rename_i h3
          have h1 : docE d = 0 := by simpa using h1
          have h2 : inD d n := by simpa using h2
          have e0 : selE d n no = 0 := by unfold selE; rw [if_neg (by simpa using h1), if_neg (by simpa using h2), if_neg h3]
          have := select_run (G := G) d (docE_DV h1) sm n h2 kind
          unfold selV keepV
          rw [e0, if_neg h3]
          exact this
  · have hv : selV d n kind no = [] := if_neg h0
    rw [hv]
    refine PCalls.outV fun h => ?_
    have cC := wcheck0_ok (G := G) d sm
    unfold eDoc at cC
    have tail : ∀ E : Int, VwT (newH h h) (.tup [.emp, aInt E]) (.tup [sl eInt [], aInt E]) := fun E => .tup' (.cons .emp (.cons (.refl _) .nil))
    have ik : isV (keepV kind no) = true ∧ cellsOf (keepV kind no) = [keepV kind no] := by unfold keepV; split <;> exact ⟨rfl, rfl⟩
    have k1 : isV (AVal.prim Value.nilFunc) = true := rfl
    have k2 : cellsOf (AVal.prim Value.nilFunc) = [AVal.prim Value.nilFunc] := rfl
    unfold selE at h0 ⊢
    by_cases h1 : docE d = 0
    · rw [h1] at cC
      rw [if_neg (by simpa using h1)] at h0 ⊢
      have w0 : wPin d 0 = .pin (eDoc d) := rfl
      rw [w0] at cC
      unfold eDoc at cC
      have z0 : ((0 : Int) != 0) = false := rfl
      have z1 : ((1 : Int) != 0) = true := rfl
      have z9 : ((9 : Int) != 0) = true := rfl
      by_cases h2 : inD d n
      · rw [if_neg (by simpa using h2)] at h0 ⊢
        have n0 := h2.1
        have n1 := h2.2
        have d0 : decide (n < 0) = false := decide_eq_false (by omega)
        have d1 : decide ((d.nodes.length : Int) ≤ n) = false := decide_eq_false (by omega)
        have hno : no = true := by
          cases no
          · exact absurd rfl h0
          · rfl
        subst hno
        rw [if_pos rfl]
        unfold keepV
        rw [if_pos rfl]
        refine dcalls_of_vc Tryd.func6 hn6 hc6 (by rw [Tryd.ntmps6]; simp) (by rw [Tryd.ntmps6]; decide) ?_
        simp -dsimp -implicitDefEqProofs (disch := omega) only [VCA, Nat.reduceEqDiff, Nat.reduceAdd, ↓reduceIte, c6, eDoc, k1, k2]
        repeat' (first | ((with_reducible refine Br.dec (fun _ => ?_) (fun _ => ?_)) <;> try (exfalso; omega)) | ((with_reducible refine Br.eq (fun _ => ?_) (fun _ => ?_)) <;> try (exfalso; omega)) | ((with_reducible refine Br.ne (fun _ => ?_) (fun _ => ?_)) <;> try (exfalso; omega)) | ((with_reducible refine brNdec (fun _ => ?_) (fun _ => ?_)) <;> try (exfalso; omega)) | ((with_reducible refine brNeq (fun _ => ?_) (fun _ => ?_)) <;> try (exfalso; omega)) | with_reducible refine Br.intro (fun _ => ?_) (fun _ => ?_) | (with_reducible apply pcallE.of; · exact cC) | (with_reducible refine And.intro ?_ ?_; · omega) | simp -dsimp -implicitDefEqProofs (disch := omega) only [↓vcOps_sp 24, VCA, Nat.reduceEqDiff, Nat.reduceAdd, Nat.reduceLT, Nat.reduceLeDiff, ↓reduceIte, setAt, exists_eq_left', z0, d0, d1])
        intro r8 hr8
        repeat' (first | ((with_reducible refine Br.dec (fun _ => ?_) (fun _ => ?_)) <;> try (exfalso; omega)) | ((with_reducible refine Br.eq (fun _ => ?_) (fun _ => ?_)) <;> try (exfalso; omega)) | ((with_reducible refine Br.ne (fun _ => ?_) (fun _ => ?_)) <;> try (exfalso; omega)) | ((with_reducible refine brNdec (fun _ => ?_) (fun _ => ?_)) <;> try (exfalso; omega)) | ((with_reducible refine brNeq (fun _ => ?_) (fun _ => ?_)) <;> try (exfalso; omega)) | with_reducible refine Br.intro (fun _ => ?_) (fun _ => ?_) | (with_reducible refine And.intro ?_ ?_; · omega) | simp -dsimp -implicitDefEqProofs (disch := omega) only [VCA, Nat.reduceEqDiff, ↓reduceIte, z9])
        exact ⟨_, Sub.refl _, (Sub.refl h).upd hr8, .tup' (.cons .emp (.cons (.refl _) .nil))⟩
      · rw [if_pos h2]
        by_cases h3 : n < 0
        · have d0 : decide (n < 0) = true := decide_eq_true h3
          refine dcalls_of_vc Tryd.func6 hn6 hc6 (by rw [Tryd.ntmps6]; simp) (by rw [Tryd.ntmps6]; decide) ?_
          simp -dsimp -implicitDefEqProofs (disch := omega) only [VCA, Nat.reduceEqDiff, Nat.reduceAdd, ↓reduceIte, c6, eDoc, ik.1, ik.2]
          repeat' (first | ((with_reducible refine Br.dec (fun _ => ?_) (fun _ => ?_)) <;> try (exfalso; omega)) | ((with_reducible refine Br.eq (fun _ => ?_) (fun _ => ?_)) <;> try (exfalso; omega)) | ((with_reducible refine Br.ne (fun _ => ?_) (fun _ => ?_)) <;> try (exfalso; omega)) | ((with_reducible refine brNdec (fun _ => ?_) (fun _ => ?_)) <;> try (exfalso; omega)) | ((with_reducible refine brNeq (fun _ => ?_) (fun _ => ?_)) <;> try (exfalso; omega)) | with_reducible refine Br.intro (fun _ => ?_) (fun _ => ?_) | (with_reducible apply pcallE.of; · exact cC) | (with_reducible refine And.intro ?_ ?_; · omega) | simp -dsimp -implicitDefEqProofs (disch := omega) only [↓vcOps_sp 24, VCA, Nat.reduceEqDiff, Nat.reduceAdd, Nat.reduceLT, ↓reduceIte, setAt, exists_eq_left', z0, d0])
          intro r8 hr8
          repeat' (first | ((with_reducible refine Br.dec (fun _ => ?_) (fun _ => ?_)) <;> try (exfalso; omega)) | ((with_reducible refine Br.eq (fun _ => ?_) (fun _ => ?_)) <;> try (exfalso; omega)) | ((with_reducible refine Br.ne (fun _ => ?_) (fun _ => ?_)) <;> try (exfalso; omega)) | ((with_reducible refine brNdec (fun _ => ?_) (fun _ => ?_)) <;> try (exfalso; omega)) | ((with_reducible refine brNeq (fun _ => ?_) (fun _ => ?_)) <;> try (exfalso; omega)) | with_reducible refine Br.intro (fun _ => ?_) (fun _ => ?_) | (with_reducible refine And.intro ?_ ?_; · omega) | simp -dsimp -implicitDefEqProofs (disch := omega) only [VCA, Nat.reduceEqDiff, ↓reduceIte, z1])
          exact ⟨_, Sub.refl _, (Sub.refl h).upd hr8, .tup' (.cons .emp (.cons (.refl _) .nil))⟩
        · have d0 : decide (n < 0) = false := decide_eq_false h3
          have d1 : decide ((d.nodes.length : Int) ≤ n) = true := decide_eq_true (by unfold inD at h2; omega)
          refine dcalls_of_vc Tryd.func6 hn6 hc6 (by rw [Tryd.ntmps6]; simp) (by rw [Tryd.ntmps6]; decide) ?_
          simp -dsimp -implicitDefEqProofs (disch := omega) only [VCA, Nat.reduceEqDiff, Nat.reduceAdd, ↓reduceIte, c6, eDoc, ik.1, ik.2]
          repeat' (first | ((with_reducible refine Br.dec (fun _ => ?_) (fun _ => ?_)) <;> try (exfalso; omega)) | ((with_reducible refine Br.eq (fun _ => ?_) (fun _ => ?_)) <;> try (exfalso; omega)) | ((with_reducible refine Br.ne (fun _ => ?_) (fun _ => ?_)) <;> try (exfalso; omega)) | ((with_reducible refine brNdec (fun _ => ?_) (fun _ => ?_)) <;> try (exfalso; omega)) | ((with_reducible refine brNeq (fun _ => ?_) (fun _ => ?_)) <;> try (exfalso; omega)) | with_reducible refine Br.intro (fun _ => ?_) (fun _ => ?_) | (with_reducible apply pcallE.of; · exact cC) | (with_reducible refine And.intro ?_ ?_; · omega) | simp -dsimp -implicitDefEqProofs (disch := omega) only [↓vcOps_sp 24, VCA, Nat.reduceEqDiff, Nat.reduceAdd, Nat.reduceLT, Nat.reduceLeDiff, ↓reduceIte, setAt, exists_eq_left', z0, d0, d1])
          intro r8 hr8
          repeat' (first | ((with_reducible refine Br.dec (fun _ => ?_) (fun _ => ?_)) <;> try (exfalso; omega)) | ((with_reducible refine Br.eq (fun _ => ?_) (fun _ => ?_)) <;> try (exfalso; omega)) | ((with_reducible refine Br.ne (fun _ => ?_) (fun _ => ?_)) <;> try (exfalso; omega)) | ((with_reducible refine brNdec (fun _ => ?_) (fun _ => ?_)) <;> try (exfalso; omega)) | ((with_reducible refine brNeq (fun _ => ?_) (fun _ => ?_)) <;> try (exfalso; omega)) | with_reducible refine Br.intro (fun _ => ?_) (fun _ => ?_) | (with_reducible refine And.intro ?_ ?_; · omega) | simp -dsimp -implicitDefEqProofs (disch := omega) only [VCA, Nat.reduceEqDiff, ↓reduceIte, z1])
          exact ⟨_, Sub.refl _, (Sub.refl h).upd hr8, .tup' (.cons .emp (.cons (.refl _) .nil))⟩
    · rw [if_pos h1]
      have z0 : (docE d != 0) = true := by simpa using h1
      have w0 : wPin d (docE d) = .prim (.pointer none) := if_neg h1
      rw [w0] at cC
      refine dcalls_of_vc Tryd.func6 hn6 hc6 (by rw [Tryd.ntmps6]; simp) (by rw [Tryd.ntmps6]; decide) ?_
      simp -dsimp -implicitDefEqProofs (disch := omega) only [VCA, Nat.reduceEqDiff, Nat.reduceAdd, ↓reduceIte, c6, eDoc, ik.1, ik.2]
      repeat' (first | ((with_reducible refine Br.dec (fun _ => ?_) (fun _ => ?_)) <;> try (exfalso; omega)) | ((with_reducible refine Br.eq (fun _ => ?_) (fun _ => ?_)) <;> try (exfalso; omega)) | ((with_reducible refine Br.ne (fun _ => ?_) (fun _ => ?_)) <;> try (exfalso; omega)) | ((with_reducible refine brNdec (fun _ => ?_) (fun _ => ?_)) <;> try (exfalso; omega)) | ((with_reducible refine brNeq (fun _ => ?_) (fun _ => ?_)) <;> try (exfalso; omega)) | with_reducible refine Br.intro (fun _ => ?_) (fun _ => ?_) | (with_reducible apply pcallE.of; · exact cC) | (with_reducible refine And.intro ?_ ?_; · omega) | simp -dsimp -implicitDefEqProofs (disch := omega) only [VCA, Nat.reduceEqDiff, Nat.reduceAdd, Nat.reduceLT, ↓reduceIte, setAt, exists_eq_left', z0])
      intro r8 hr8
      repeat' (first | ((with_reducible refine Br.dec (fun _ => ?_) (fun _ => ?_)) <;> try (exfalso; omega)) | ((with_reducible refine Br.eq (fun _ => ?_) (fun _ => ?_)) <;> try (exfalso; omega)) | ((with_reducible refine Br.ne (fun _ => ?_) (fun _ => ?_)) <;> try (exfalso; omega)) | ((with_reducible refine brNdec (fun _ => ?_) (fun _ => ?_)) <;> try (exfalso; omega)) | ((with_reducible refine brNeq (fun _ => ?_) (fun _ => ?_)) <;> try (exfalso; omega)) | with_reducible refine Br.intro (fun _ => ?_) (fun _ => ?_) | (with_reducible refine And.intro ?_ ?_; · omega) | simp -dsimp -implicitDefEqProofs (disch := omega) only [↓vcOps_sp 24, ↓vcD_sp 24, VCA, pg_gl, ↓upd_none, Nat.reduceEqDiff, Nat.reduceBEq, Nat.reduceAdd, Nat.reduceSub, Nat.reduceMul, Nat.reduceLT, Nat.reduceLeDiff, ↓reduceIte, reduceCtorEq, rsOf, rootsOf, SOp.rd, SI.rd, SX.rd, rdL, rdO, rdP, okParts, eqCells, okEqCells, fillA, okFill, setAt, implies_true, forall_const, forall_eq, ne_eq, exists_eq_right_right, exists_eq_right, exists_eq_left, exists_eq_left', rootL, eInt, lit_eq, z0, eDoc, upd_same])
      exact ⟨rfl, rfl, _, Sub.refl _, (Sub.refl h).upd hr8, .tup' (.cons .emp (.cons (.refl _) .nil))⟩
theorem _root_.Go.Sim.Acc.frz {h0 h' : Heap} {ty : TypeId} {sz : Nat} {cells : List (List AVal)} {a : AVal} {K : AVal → Heap → Prop} (A : Acc h0 ty sz cells a h') (S : Sim.Sub h0 h') (hk : ∀ h'', Sim.Sub h0 h'' → K (.slc cells) h'') : Hd (frzE a h') K .mk := by
  rcases A with ⟨rfl, rfl⟩ | ⟨r, q0, q1, rfl⟩
  · exact hk _ S
  · refine ⟨_, q1, by simp, ?_⟩
    have e : ((cells.drop 0).take cells.length) = cells := by simp
    show K (.slc ((cells.drop 0).take cells.length)) (del h' r)
    rw [e]
    exact hk _ (S.del q0)
def c3 : SFun := ⟨(.seq (.reg [⟨(some 4), (.box 24 2 (.t 0)), none⟩, ⟨(some 6), (.boxF 3 1 (.t 2)), none⟩, ⟨(some 8), (.mv (.c (.bool false))), none⟩]) (.seq (.reg [⟨(some 16), (.ld 2 true (.t 4)), none⟩, ⟨(some 17), (.pcall 4 [(.t 16), (.c (.int .i64 (60)))]), none⟩, ⟨none, (.st 2 (.t 4) (.t 17)), none⟩]) (.seq (.reg [⟨(some 18), (.mkf 5 [] [(.t 6)]), none⟩, ⟨(some 9), (.mv (.t 18)), none⟩]) (.seq (.seq (.reg [⟨(some 19), (.mv (.t 3)), none⟩]) (.cond (.t 19) (.reg [⟨(some 9), (.mv (.c (.prim .nilFunc))), none⟩]) .skip)) (.seq (.reg [⟨(some 21), (.ld 2 true (.t 4)), none⟩, ⟨(some 22), (.mv (.t 1)), none⟩, ⟨(some 23), (.mv (.t 9)), none⟩, ⟨(some 24), (.pcall 6 [(.t 21), (.t 22), (.t 23)]), none⟩, ⟨(some 20), (.mv (.t 24)), none⟩, ⟨(some 25), (.ext (.t 20) 0), none⟩, ⟨(some 26), (.ext (.t 20) 1), none⟩, ⟨(some 10), (.mv (.t 25)), none⟩, ⟨(some 11), (.mv (.t 26)), none⟩]) (.seq (.reg [⟨(some 27), (.ld 2 true (.t 4)), none⟩, ⟨(some 28), (.pcall 7 [(.t 27)]), none⟩, ⟨(some 12), (.mv (.t 28)), none⟩]) (.seq (.reg [⟨(some 13), (.mv (.c .emp)), none⟩]) (.seq (.seq (.reg [⟨(some 29), (.mv (.t 12)), none⟩, ⟨(some 30), (.bin .eql (.t 29) (.c (.int .i64 (0)))), none⟩, ⟨(some 31), (.mv (.t 30)), none⟩, ⟨(some 32), (.mv (.t 1)), (some (31, true))⟩, ⟨(some 33), (.bin .lss (.t 32) (.c (.int .i64 (0)))), (some (31, true))⟩, ⟨(some 34), (.mv (.t 33)), (some (31, true))⟩, ⟨(some 35), (.mv (.t 1)), (some (34, false))⟩, ⟨(some 36), (.fldA 0 (.t 4)), (some (34, false))⟩, ⟨(some 37), (.ld 1 false (.t 36)), (some (34, false))⟩, ⟨(some 38), (.len (.t 37)), (some (34, false))⟩, ⟨(some 39), (.bin .geq (.t 35) (.t 38)), (some (34, false))⟩, ⟨(some 40), (.pick (.t 34) (.c (.bool true)) (.t 39)), (some (31, true))⟩, ⟨(some 41), (.pick (.t 31) (.t 40) (.c (.bool false))), none⟩]) (.cond (.t 41) (.reg [⟨(some 12), (.mv (.c (.int .i64 (1)))), none⟩]) .skip)) (.seq (.seq (.reg [⟨(some 42), (.mv (.t 12)), none⟩, ⟨(some 43), (.bin .eql (.t 42) (.c (.int .i64 (0)))), none⟩, ⟨(some 44), (.mv (.t 43)), none⟩, ⟨(some 45), (.mv (.t 3)), (some (44, true))⟩, ⟨(some 46), (.pick (.t 44) (.t 45) (.c (.bool false))), none⟩]) (.cond (.t 46) (.reg [⟨(some 12), (.mv (.c (.int .i64 (9)))), none⟩]) .skip)) (.seq (.seq (.reg [⟨(some 47), (.mv (.t 12)), none⟩, ⟨(some 48), (.bin .eql (.t 47) (.c (.int .i64 (0)))), none⟩]) (.cond (.t 48) (.seq (.reg [⟨(some 49), (.ld 2 true (.t 4)), none⟩, ⟨(some 50), (.mv (.t 1)), none⟩, ⟨(some 51), (.pcall 8 [(.t 49), (.t 50)]), none⟩, ⟨(some 52), (.len (.t 51)), none⟩, ⟨(some 53), (.mv (.c (.int .i64 (0)))), none⟩]) (.block 0 (.loop (.seq (.reg [⟨(some 54), (.bin .lss (.t 53) (.t 52)), none⟩]) (.seq (.cond (.t 54) .skip (.exit 0)) (.seq (.block 1 (.seq (.reg [⟨(some 55), (.idxA 1 (.t 51) (.t 53)), none⟩, ⟨(some 56), (.ld 1 false (.t 55)), none⟩, ⟨(some 15), (.mv (.t 56)), none⟩]) (.seq (.dreg [(⟨(some 57), (.fldA 0 (.t 4)), none⟩, none), (⟨(some 58), (.ld 1 false (.t 57)), none⟩, none), (⟨(some 59), (.mv (.t 15)), none⟩, none), (⟨(some 60), (.idxA 6 (.t 58) (.t 59)), none⟩, none), (⟨(some 61), (.fldA 0 (.t 60)), none⟩, none), (⟨(some 62), (.ld 1 false (.t 61)), none⟩, none), (⟨(some 63), (.ld 1 false (.t 6)), none⟩, none), (⟨(some 64), (.bin .eql (.t 62) (.t 63)), none⟩, none)]) (.cond (.t 64) (.reg [⟨(some 65), (.mv (.t 13)), none⟩, ⟨(some 66), (.mv (.t 15)), none⟩, ⟨(some 67), (.bldF 3 1 [(.t 66)]), none⟩, ⟨(some 68), (.app 3 1 8 (.t 65) (.t 67)), none⟩, ⟨(some 13), (.mv (.t 68)), none⟩]) .skip)))) (.reg [⟨(some 69), (.bin .add (.t 53) (.c (.int .i64 (1)))), none⟩, ⟨(some 53), (.mv (.t 69)), none⟩]))))))) .skip)) (.seq (.reg [⟨(some 70), (.pcall 9 []), none⟩, ⟨(some 71), (.mv (.t 70)), none⟩, ⟨(some 72), (.mv (.t 10)), (some (71, true))⟩, ⟨(some 73), (.frz (.t 13)), (some (71, true))⟩, ⟨(some 74), (.pcall 10 [(.t 72), (.t 73)]), (some (71, true))⟩, ⟨(some 75), (.pick (.t 71) (.t 74) (.c (.bool false))), none⟩, ⟨(some 76), (.mv (.t 75)), none⟩, ⟨(some 77), (.mv (.t 11)), (some (76, true))⟩, ⟨(some 78), (.mv (.t 12)), (some (76, true))⟩, ⟨(some 79), (.bin .eql (.t 77) (.t 78)), (some (76, true))⟩, ⟨(some 80), (.pick (.t 76) (.t 79) (.c (.bool false))), none⟩, ⟨(some 8), (.mv (.t 80)), none⟩]) .ret))))))))))), [(.tmp 8)]⟩
theorem hc3 : toSF Tryd.prog {pure := [4, 7, 8, 10, 9, 6], how := [(4, 6), (73, 8)]} Tryd.f3 = some c3 := by kernel_rfl
theorem hn3 : (Tryd.f3.name == "runtime.NumGoroutine") = false := by kernel_rfl
set_option maxHeartbeats 4000000 in
theorem walkSelects_ok (d : HDoc) (sm : DocSm d) (n kind : Int) (no : Bool) : PCalls (Pg G) 3 [.agg (eDoc d), aInt n, aInt kind, .bool no] (.bool true) := fun h => by
  have hF : PCalls (Pg G) 4 [.agg (eDoc d), .int .i64 60] (.agg (eDoc ⟨d.nodes.take 60, d.quirks⟩)) := few_ok (G := G) d 60 sm
  have fs := sm.few 60
  generalize (⟨d.nodes.take 60, d.quirks⟩ : HDoc) = f at *
  have cS := select_ok (G := G) f fs n kind no
  have cD := docErr_ok (G := G) f fs
  have cB := walkBegun_ok (G := G)
  have hl := fs.len
  have ee : ∀ E : Int, (E == E) = true := fun E => by simp
  have z0 : ((0 : Int) == 0) = true := rfl
  have z1 : ((1 : Int) == 0) = false := rfl
  have z9 : ((9 : Int) == 0) = false := rfl
  have z11 : ((1 : Int) == 1) = true := rfl
  have z99 : ((9 : Int) == 9) = true := rfl
  have c0 : PCalls (Pg G) 10 [sl eInt [], .slc []] (.bool true) := sameN_ok [] [] (by simp) (by simp)
  by_cases h1 : docE f = 0
  · have z3 : (docE f == 0) = true := by rw [h1]; rfl
    by_cases h2 : inD f n
    · have n0 := h2.1
      have n1 := h2.2
      have d0 : decide (n < 0) = false := decide_eq_false (by omega)
      have d1 : decide ((f.nodes.length : Int) ≤ n) = false := decide_eq_false (by omega)
      cases no
      · have hE : selE f n false = 0 := by unfold selE; rw [if_neg (fun h => h h1), if_neg (fun h => h h2)]; rfl
        have hV : selV f n kind false = selM f n kind := by unfold selV; rw [if_pos hE]
        have hK : keepV kind false = .fn 5 [] [.pin [aInt kind]] := rfl
        rw [hE, hV, hK] at cS
        rw [h1] at cD
        have V := docE_DV h1
        have cW := below_ok (G := G) f V fs n h2
        have bl := below_len V h2
        have bi := below_in V n h2
        unfold selM at cS
        obtain ⟨l, hlE⟩ : ∃ l, below f n = l := ⟨_, rfl⟩
        rw [hlE] at cS cW bl bi
        unfold eDoc at hF cS cD cW
        refine dcalls_of_vc Tryd.func3 hn3 hc3 (by rw [Tryd.ntmps3]; simp) (by rw [Tryd.ntmps3]; decide) ?_
        simp -dsimp -implicitDefEqProofs (disch := omega) only [VCA, Nat.reduceEqDiff, Nat.reduceAdd, Nat.reduceLT, ↓reduceIte, exists_eq_left', c3, eDoc]
        intro r4 hr4
        repeat' (first | ((with_reducible refine Br.dec (fun _ => ?_) (fun _ => ?_)) <;> try (exfalso; omega)) | ((with_reducible refine Br.eq (fun _ => ?_) (fun _ => ?_)) <;> try (exfalso; omega)) | ((with_reducible refine Br.ne (fun _ => ?_) (fun _ => ?_)) <;> try (exfalso; omega)) | ((with_reducible refine brNdec (fun _ => ?_) (fun _ => ?_)) <;> try (exfalso; omega)) | ((with_reducible refine brNeq (fun _ => ?_) (fun _ => ?_)) <;> try (exfalso; omega)) | with_reducible refine Br.intro (fun _ => ?_) (fun _ => ?_) | (with_reducible apply pcallE.of; · exact hF) | (with_reducible apply pcallE.of; · exact cS) | (with_reducible apply pcallE.of; · exact cD) | (with_reducible apply pcallE.of; · exact cW) | (with_reducible refine And.intro ?_ ?_; · omega) | simp -dsimp -implicitDefEqProofs (disch := omega) only [↓vcOps_sp 31, ↓vcOps_sp 34, ↓vcOps_sp 44, VCA, Nat.reduceEqDiff, Nat.reduceAdd, Nat.reduceLT, Nat.reduceLeDiff, ↓reduceIte, setAt, exists_eq_left', z0, d0, d1])
        obtain ⟨hB, hBe⟩ : ∃ hB, upd h r4 (some ⟨.t 24, 2, [[sl eNode f.nodes, .bool f.quirks]]⟩) = hB := ⟨_, rfl⟩
        have hB4 : hB r4 = some ⟨.t 24, 2, [[sl eNode f.nodes, .bool f.quirks]]⟩ := by rw [← hBe]; exact upd_same _ _ _
        have sB : Sim.Sub h hB := by rw [← hBe]; exact (Sub.refl h).upd hr4
        rw [hBe]
        have vl := V.len
        refine LoopVC.intro (fun m e h' => ∃ k : Nat, k ≤ l.length ∧ m = l.length - k ∧ e 4 = .vp r4 0 ∧ e 6 = .pin [aInt kind] ∧ e 10 = sl eInt (l.filter fun m => (nd f m).kind == kind) ∧ e 11 = aInt 0 ∧ e 12 = aInt 0 ∧ e 51 = sl eInt l ∧ e 52 = aInt l.length ∧ e 53 = aInt k ∧ Acc hB 3 1 (((l.take k).filter fun m => (nd f m).kind == kind).map eInt) (e 13) h' ∧ Sim.Sub hB h') l.length
          (by exact ⟨0, by omega, by omega, rfl, rfl, rfl, rfl, rfl, rfl, rfl, rfl, .nil, Sub.refl _⟩) ?_
        rintro m e h' ⟨k, hk, rfl, e4, e6, e10, e11, e12, e51, e52, e53, A, S⟩
        have g4 := S _ _ hB4
        simp -dsimp -implicitDefEqProofs (disch := omega) only [VCA, ↓reduceIte, e52, e53]
        refine Br.dec (fun hlt => ?_) (fun hge => ?_)
        · have hk' : k < l.length := by omega
          have hx := bi _ (nth_mem' hk')
          have x0 := hx.1
          have x1 := hx.2
          have en : nth f.nodes (nth l k).toNat = nd f (nth l k) := rfl
          have tk : (l.take (k + 1)).filter (fun m => (nd f m).kind == kind) = (l.take k).filter (fun m => (nd f m).kind == kind) ++ if ((nd f (nth l k)).kind == kind) = true then [nth l k] else [] := by
            rw [take_snoc hk', List.filter_append]
            congr 1
            simp only [List.filter_cons, List.filter_nil]
          have hfl := List.length_filter_le (fun m => (nd f m).kind == kind) (l.take k)
          rw [List.length_take] at hfl
          cases hq : (nd f (nth l k)).kind == kind
          · rw [hq] at tk
            repeat' (first | ((with_reducible refine Br.dec (fun _ => ?_) (fun _ => ?_)) <;> try (exfalso; omega)) | ((with_reducible refine Br.eq (fun _ => ?_) (fun _ => ?_)) <;> try (exfalso; omega)) | ((with_reducible refine Br.ne (fun _ => ?_) (fun _ => ?_)) <;> try (exfalso; omega)) | ((with_reducible refine brNdec (fun _ => ?_) (fun _ => ?_)) <;> try (exfalso; omega)) | ((with_reducible refine brNeq (fun _ => ?_) (fun _ => ?_)) <;> try (exfalso; omega)) | with_reducible refine Br.intro (fun _ => ?_) (fun _ => ?_) | (with_reducible refine And.intro ?_ ?_; · omega) | simp -dsimp -implicitDefEqProofs (disch := omega) only [VCA, Nat.reduceEqDiff, Nat.reduceAdd, Nat.reduceLT, Nat.reduceLeDiff, ↓reduceIte, rsOf, rootsOf, exists_eq_left', rootL, eInt, e4, e6, e51, e52, e53, g4, en, eNode, hq])
            refine ⟨_, by omega, k + 1, by omega, rfl, e10, e11, e12, by omega, ?_, S⟩
            rw [tk]
            simpa using A
          · rw [hq] at tk
            repeat' (first | ((with_reducible refine Br.dec (fun _ => ?_) (fun _ => ?_)) <;> try (exfalso; omega)) | ((with_reducible refine Br.eq (fun _ => ?_) (fun _ => ?_)) <;> try (exfalso; omega)) | ((with_reducible refine Br.ne (fun _ => ?_) (fun _ => ?_)) <;> try (exfalso; omega)) | ((with_reducible refine brNdec (fun _ => ?_) (fun _ => ?_)) <;> try (exfalso; omega)) | ((with_reducible refine brNeq (fun _ => ?_) (fun _ => ?_)) <;> try (exfalso; omega)) | with_reducible refine Br.intro (fun _ => ?_) (fun _ => ?_) | ((refine A.app S (by simp only [List.length_map, List.length_cons, List.length_nil]; omega) (by simp only [List.length_map, List.length_cons, List.length_nil]; omega) (fun a2 h3 A2 S2 => ?_))) | (with_reducible refine And.intro ?_ ?_; · omega) | simp -dsimp -implicitDefEqProofs (disch := omega) only [VCA, Nat.reduceEqDiff, Nat.reduceAdd, Nat.reduceLT, Nat.reduceLeDiff, ↓reduceIte, rsOf, rootsOf, okParts, forall_eq, exists_eq_left, exists_eq_left', rootL, eInt, e4, e6, e51, e52, e53, g4, en, eNode, hq])
            refine ⟨_, by omega, k + 1, by omega, rfl, e10, e11, e12, by omega, ?_, S2⟩
            rw [tk, List.map_append]
            exact A2
        · obtain rfl : k = l.length := by omega
          rw [List.take_length] at A
          have hfl := List.length_filter_le (fun m => (nd f m).kind == kind) l
          have cN := sameN_ok (G := G) (l.filter fun m => (nd f m).kind == kind) (l.filter fun m => (nd f m).kind == kind) (by omega) (by omega)
          rw [beq_self_eq_true] at cN
          generalize (l.filter fun m => (nd f m).kind == kind) = F at *
          repeat' (first | ((with_reducible refine Br.dec (fun _ => ?_) (fun _ => ?_)) <;> try (exfalso; omega)) | ((with_reducible refine Br.eq (fun _ => ?_) (fun _ => ?_)) <;> try (exfalso; omega)) | ((with_reducible refine Br.ne (fun _ => ?_) (fun _ => ?_)) <;> try (exfalso; omega)) | ((with_reducible refine brNdec (fun _ => ?_) (fun _ => ?_)) <;> try (exfalso; omega)) | ((with_reducible refine brNeq (fun _ => ?_) (fun _ => ?_)) <;> try (exfalso; omega)) | with_reducible refine Br.intro (fun _ => ?_) (fun _ => ?_) | (with_reducible apply pcallE.of; · exact cB) | ((refine A.frz S (fun h5 S5 => ?_))) | (with_reducible refine And.intro ?_ ?_; · omega) | simp -dsimp -implicitDefEqProofs (disch := omega) only [↓vcOps_sp 71, VCA, Nat.reduceEqDiff, ↓reduceIte, e10])
          rw [show AVal.slc (F.map eInt) = sl eInt F from rfl]
          repeat' (first | ((with_reducible refine Br.dec (fun _ => ?_) (fun _ => ?_)) <;> try (exfalso; omega)) | ((with_reducible refine Br.eq (fun _ => ?_) (fun _ => ?_)) <;> try (exfalso; omega)) | ((with_reducible refine Br.ne (fun _ => ?_) (fun _ => ?_)) <;> try (exfalso; omega)) | ((with_reducible refine brNdec (fun _ => ?_) (fun _ => ?_)) <;> try (exfalso; omega)) | ((with_reducible refine brNeq (fun _ => ?_) (fun _ => ?_)) <;> try (exfalso; omega)) | with_reducible refine Br.intro (fun _ => ?_) (fun _ => ?_) | (with_reducible apply pcallE.of; · exact cN) | (with_reducible refine And.intro ?_ ?_; · omega) | simp -dsimp -implicitDefEqProofs (disch := omega) only [↓vcOps_sp 76, VCA, Nat.reduceEqDiff, ↓reduceIte, exists_eq_right, e11, e12, z0])
          exact sB.trans S5
      · have hE : selE f n true = 9 := by unfold selE; rw [if_neg (fun h => h h1), if_neg (fun h => h h2)]; rfl
        have hV : selV f n kind true = [] := by unfold selV; rw [hE]; rfl
        have hK : keepV kind true = .prim .nilFunc := rfl
        rw [hE, hV, hK] at cS
        rw [h1] at cD
        unfold eDoc at hF cS cD
        refine dcalls_of_vc Tryd.func3 hn3 hc3 (by rw [Tryd.ntmps3]; simp) (by rw [Tryd.ntmps3]; decide) ?_
        simp -dsimp -implicitDefEqProofs (disch := omega) only [VCA, Nat.reduceEqDiff, Nat.reduceAdd, Nat.reduceLT, ↓reduceIte, exists_eq_left', c3, eDoc]
        intro r4 hr4
        repeat' (first | ((with_reducible refine Br.dec (fun _ => ?_) (fun _ => ?_)) <;> try (exfalso; omega)) | ((with_reducible refine Br.eq (fun _ => ?_) (fun _ => ?_)) <;> try (exfalso; omega)) | ((with_reducible refine Br.ne (fun _ => ?_) (fun _ => ?_)) <;> try (exfalso; omega)) | ((with_reducible refine brNdec (fun _ => ?_) (fun _ => ?_)) <;> try (exfalso; omega)) | ((with_reducible refine brNeq (fun _ => ?_) (fun _ => ?_)) <;> try (exfalso; omega)) | with_reducible refine Br.intro (fun _ => ?_) (fun _ => ?_) | (with_reducible apply pcallE.of; · exact hF) | (with_reducible apply pcallE.of; · exact cS) | (with_reducible apply pcallE.of; · exact cD) | (with_reducible apply pcallE.of; · exact cB) | (with_reducible apply pcallE.of; · exact c0) | (with_reducible refine And.intro ?_ ?_; · omega) | simp -dsimp -implicitDefEqProofs (disch := omega) only [↓vcOps_sp 31, ↓vcOps_sp 34, ↓vcOps_sp 44, ↓vcOps_sp 71, ↓vcOps_sp 76, VCA, Nat.reduceEqDiff, Nat.reduceAdd, Nat.reduceLT, Nat.reduceLeDiff, ↓reduceIte, setAt, exists_eq_right, exists_eq_left', z0, z9, z99, d0, d1])
        all_goals exact (Sub.refl h).upd hr4
    · have hE : ∀ no, selE f n no = 1 := fun no => by unfold selE; rw [if_neg (fun h => h h1), if_pos h2]
      have hV : ∀ no, selV f n kind no = [] := fun no => by unfold selV; rw [hE]; rfl
      rw [hE, hV] at cS
      rw [h1] at cD
      unfold eDoc at hF cS cD
      by_cases h3 : n < 0
      · have d0 : decide (n < 0) = true := decide_eq_true h3
        cases no
        · have hK : keepV kind false = .fn 5 [] [.pin [aInt kind]] := rfl
          rw [hK] at cS
          refine dcalls_of_vc Tryd.func3 hn3 hc3 (by rw [Tryd.ntmps3]; simp) (by rw [Tryd.ntmps3]; decide) ?_
          simp -dsimp -implicitDefEqProofs (disch := omega) only [VCA, Nat.reduceEqDiff, Nat.reduceAdd, Nat.reduceLT, ↓reduceIte, exists_eq_left', c3, eDoc]
          intro r4 hr4
          repeat' (first | ((with_reducible refine Br.dec (fun _ => ?_) (fun _ => ?_)) <;> try (exfalso; omega)) | ((with_reducible refine Br.eq (fun _ => ?_) (fun _ => ?_)) <;> try (exfalso; omega)) | ((with_reducible refine Br.ne (fun _ => ?_) (fun _ => ?_)) <;> try (exfalso; omega)) | ((with_reducible refine brNdec (fun _ => ?_) (fun _ => ?_)) <;> try (exfalso; omega)) | ((with_reducible refine brNeq (fun _ => ?_) (fun _ => ?_)) <;> try (exfalso; omega)) | with_reducible refine Br.intro (fun _ => ?_) (fun _ => ?_) | (with_reducible apply pcallE.of; · exact hF) | (with_reducible apply pcallE.of; · exact cS) | (with_reducible apply pcallE.of; · exact cD) | (with_reducible apply pcallE.of; · exact cB) | (with_reducible apply pcallE.of; · exact c0) | (with_reducible refine And.intro ?_ ?_; · omega) | simp -dsimp -implicitDefEqProofs (disch := omega) only [↓vcOps_sp 31, ↓vcOps_sp 34, ↓vcOps_sp 44, ↓vcOps_sp 71, ↓vcOps_sp 76, VCA, Nat.reduceEqDiff, Nat.reduceAdd, Nat.reduceLT, ↓reduceIte, setAt, exists_eq_right, exists_eq_left', z0, z1, z11, d0])
          all_goals exact (Sub.refl h).upd hr4
        · have hK : keepV kind true = .prim .nilFunc := rfl
          rw [hK] at cS
          refine dcalls_of_vc Tryd.func3 hn3 hc3 (by rw [Tryd.ntmps3]; simp) (by rw [Tryd.ntmps3]; decide) ?_
          simp -dsimp -implicitDefEqProofs (disch := omega) only [VCA, Nat.reduceEqDiff, Nat.reduceAdd, Nat.reduceLT, ↓reduceIte, exists_eq_left', c3, eDoc]
          intro r4 hr4
          repeat' (first | ((with_reducible refine Br.dec (fun _ => ?_) (fun _ => ?_)) <;> try (exfalso; omega)) | ((with_reducible refine Br.eq (fun _ => ?_) (fun _ => ?_)) <;> try (exfalso; omega)) | ((with_reducible refine Br.ne (fun _ => ?_) (fun _ => ?_)) <;> try (exfalso; omega)) | ((with_reducible refine brNdec (fun _ => ?_) (fun _ => ?_)) <;> try (exfalso; omega)) | ((with_reducible refine brNeq (fun _ => ?_) (fun _ => ?_)) <;> try (exfalso; omega)) | with_reducible refine Br.intro (fun _ => ?_) (fun _ => ?_) | (with_reducible apply pcallE.of; · exact hF) | (with_reducible apply pcallE.of; · exact cS) | (with_reducible apply pcallE.of; · exact cD) | (with_reducible apply pcallE.of; · exact cB) | (with_reducible apply pcallE.of; · exact c0) | (with_reducible refine And.intro ?_ ?_; · omega) | simp -dsimp -implicitDefEqProofs (disch := omega) only [↓vcOps_sp 31, ↓vcOps_sp 34, ↓vcOps_sp 44, ↓vcOps_sp 71, ↓vcOps_sp 76, VCA, Nat.reduceEqDiff, Nat.reduceAdd, Nat.reduceLT, ↓reduceIte, setAt, exists_eq_right, exists_eq_left', z0, z1, z11, d0])
          all_goals exact (Sub.refl h).upd hr4
      · have d0 : decide (n < 0) = false := decide_eq_false h3
        have d1 : decide ((f.nodes.length : Int) ≤ n) = true := decide_eq_true (by unfold inD at h2; omega)
        cases no
        · have hK : keepV kind false = .fn 5 [] [.pin [aInt kind]] := rfl
          rw [hK] at cS
          refine dcalls_of_vc Tryd.func3 hn3 hc3 (by rw [Tryd.ntmps3]; simp) (by rw [Tryd.ntmps3]; decide) ?_
          simp -dsimp -implicitDefEqProofs (disch := omega) only [VCA, Nat.reduceEqDiff, Nat.reduceAdd, Nat.reduceLT, ↓reduceIte, exists_eq_left', c3, eDoc]
          intro r4 hr4
          repeat' (first | ((with_reducible refine Br.dec (fun _ => ?_) (fun _ => ?_)) <;> try (exfalso; omega)) | ((with_reducible refine Br.eq (fun _ => ?_) (fun _ => ?_)) <;> try (exfalso; omega)) | ((with_reducible refine Br.ne (fun _ => ?_) (fun _ => ?_)) <;> try (exfalso; omega)) | ((with_reducible refine brNdec (fun _ => ?_) (fun _ => ?_)) <;> try (exfalso; omega)) | ((with_reducible refine brNeq (fun _ => ?_) (fun _ => ?_)) <;> try (exfalso; omega)) | with_reducible refine Br.intro (fun _ => ?_) (fun _ => ?_) | (with_reducible apply pcallE.of; · exact hF) | (with_reducible apply pcallE.of; · exact cS) | (with_reducible apply pcallE.of; · exact cD) | (with_reducible apply pcallE.of; · exact cB) | (with_reducible apply pcallE.of; · exact c0) | (with_reducible refine And.intro ?_ ?_; · omega) | simp -dsimp -implicitDefEqProofs (disch := omega) only [↓vcOps_sp 31, ↓vcOps_sp 34, ↓vcOps_sp 44, ↓vcOps_sp 71, ↓vcOps_sp 76, VCA, Nat.reduceEqDiff, Nat.reduceAdd, Nat.reduceLT, Nat.reduceLeDiff, ↓reduceIte, setAt, exists_eq_right, exists_eq_left', z0, z1, z11, d0, d1])
          all_goals exact (Sub.refl h).upd hr4
        · have hK : keepV kind true = .prim .nilFunc := rfl
          rw [hK] at cS
          refine dcalls_of_vc Tryd.func3 hn3 hc3 (by rw [Tryd.ntmps3]; simp) (by rw [Tryd.ntmps3]; decide) ?_
          simp -dsimp -implicitDefEqProofs (disch := omega) only [VCA, Nat.reduceEqDiff, Nat.reduceAdd, Nat.reduceLT, ↓reduceIte, exists_eq_left', c3, eDoc]
          intro r4 hr4
          repeat' (first | ((with_reducible refine Br.dec (fun _ => ?_) (fun _ => ?_)) <;> try (exfalso; omega)) | ((with_reducible refine Br.eq (fun _ => ?_) (fun _ => ?_)) <;> try (exfalso; omega)) | ((with_reducible refine Br.ne (fun _ => ?_) (fun _ => ?_)) <;> try (exfalso; omega)) | ((with_reducible refine brNdec (fun _ => ?_) (fun _ => ?_)) <;> try (exfalso; omega)) | ((with_reducible refine brNeq (fun _ => ?_) (fun _ => ?_)) <;> try (exfalso; omega)) | with_reducible refine Br.intro (fun _ => ?_) (fun _ => ?_) | (with_reducible apply pcallE.of; · exact hF) | (with_reducible apply pcallE.of; · exact cS) | (with_reducible apply pcallE.of; · exact cD) | (with_reducible apply pcallE.of; · exact cB) | (with_reducible apply pcallE.of; · exact c0) | (with_reducible refine And.intro ?_ ?_; · omega) | simp -dsimp -implicitDefEqProofs (disch := omega) only [↓vcOps_sp 31, ↓vcOps_sp 34, ↓vcOps_sp 44, ↓vcOps_sp 71, ↓vcOps_sp 76, VCA, Nat.reduceEqDiff, Nat.reduceAdd, Nat.reduceLT, Nat.reduceLeDiff, ↓reduceIte, setAt, exists_eq_right, exists_eq_left', z0, z1, z11, d0, d1])
          all_goals exact (Sub.refl h).upd hr4
  · have hE : ∀ no, selE f n no = docE f := fun no => by unfold selE; rw [if_pos h1]
    have hV : ∀ no, selV f n kind no = [] := fun no => by unfold selV; rw [hE, if_neg h1]
    rw [hE, hV] at cS
    obtain ⟨E, hEE⟩ : ∃ E, docE f = E := ⟨_, rfl⟩
    rw [hEE] at cS cD h1
    have z3 : (E == 0) = false := by simpa using h1
    unfold eDoc at hF cS cD
    cases no
    · have hK : keepV kind false = .fn 5 [] [.pin [aInt kind]] := rfl
      rw [hK] at cS
      refine dcalls_of_vc Tryd.func3 hn3 hc3 (by rw [Tryd.ntmps3]; simp) (by rw [Tryd.ntmps3]; decide) ?_
      simp -dsimp -implicitDefEqProofs (disch := omega) only [VCA, Nat.reduceEqDiff, Nat.reduceAdd, Nat.reduceLT, ↓reduceIte, exists_eq_left', c3, eDoc]
      intro r4 hr4
      repeat' (first | ((with_reducible refine Br.dec (fun _ => ?_) (fun _ => ?_)) <;> try (exfalso; omega)) | ((with_reducible refine Br.eq (fun _ => ?_) (fun _ => ?_)) <;> try (exfalso; omega)) | ((with_reducible refine Br.ne (fun _ => ?_) (fun _ => ?_)) <;> try (exfalso; omega)) | ((with_reducible refine brNdec (fun _ => ?_) (fun _ => ?_)) <;> try (exfalso; omega)) | ((with_reducible refine brNeq (fun _ => ?_) (fun _ => ?_)) <;> try (exfalso; omega)) | with_reducible refine Br.intro (fun _ => ?_) (fun _ => ?_) | (with_reducible apply pcallE.of; · exact hF) | (with_reducible apply pcallE.of; · exact cS) | (with_reducible apply pcallE.of; · exact cD) | (with_reducible apply pcallE.of; · exact cB) | (with_reducible apply pcallE.of; · exact c0) | (with_reducible refine And.intro ?_ ?_; · omega) | simp -dsimp -implicitDefEqProofs (disch := omega) only [↓vcOps_sp 31, ↓vcOps_sp 34, ↓vcOps_sp 44, ↓vcOps_sp 71, ↓vcOps_sp 76, VCA, Nat.reduceEqDiff, Nat.reduceAdd, Nat.reduceLT, ↓reduceIte, setAt, exists_eq_right, exists_eq_left', z3, ee])
      all_goals exact (Sub.refl h).upd hr4
    · have hK : keepV kind true = .prim .nilFunc := rfl
      rw [hK] at cS
      refine dcalls_of_vc Tryd.func3 hn3 hc3 (by rw [Tryd.ntmps3]; simp) (by rw [Tryd.ntmps3]; decide) ?_
      simp -dsimp -implicitDefEqProofs (disch := omega) only [VCA, Nat.reduceEqDiff, Nat.reduceAdd, Nat.reduceLT, ↓reduceIte, exists_eq_left', c3, eDoc]
      intro r4 hr4
      repeat' (first | ((with_reducible refine Br.dec (fun _ => ?_) (fun _ => ?_)) <;> try (exfalso; omega)) | ((with_reducible refine Br.eq (fun _ => ?_) (fun _ => ?_)) <;> try (exfalso; omega)) | ((with_reducible refine Br.ne (fun _ => ?_) (fun _ => ?_)) <;> try (exfalso; omega)) | ((with_reducible refine brNdec (fun _ => ?_) (fun _ => ?_)) <;> try (exfalso; omega)) | ((with_reducible refine brNeq (fun _ => ?_) (fun _ => ?_)) <;> try (exfalso; omega)) | with_reducible refine Br.intro (fun _ => ?_) (fun _ => ?_) | (with_reducible apply pcallE.of; · exact hF) | (with_reducible apply pcallE.of; · exact cS) | (with_reducible apply pcallE.of; · exact cD) | (with_reducible apply pcallE.of; · exact cB) | (with_reducible apply pcallE.of; · exact c0) | (with_reducible refine And.intro ?_ ?_; · omega) | simp -dsimp -implicitDefEqProofs (disch := omega) only [↓vcOps_sp 31, ↓vcOps_sp 34, ↓vcOps_sp 44, ↓vcOps_sp 71, ↓vcOps_sp 76, VCA, Nat.reduceEqDiff, Nat.reduceAdd, Nat.reduceLT, ↓reduceIte, setAt, exists_eq_right, exists_eq_left', z3, ee])
      all_goals exact (Sub.refl h).upd hr4
end Go.Proofs.K
end
