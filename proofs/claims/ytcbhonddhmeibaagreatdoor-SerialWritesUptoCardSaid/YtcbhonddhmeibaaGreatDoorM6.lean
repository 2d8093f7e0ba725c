/- Texts of this claim, one behind the other. -/
import Derived.Test.YtcbhonddhmeibaaGreatDoorM5
import Derived.Test.YtcbhonddhmeibaaGreatDoorM4
import Derived.Lib.Repeat
import Derived.Lib.TrimByte
set_option maxHeartbeats 4000000
set_option maxRecDepth 100000
section
set_option linter.unusedSimpArgs false
set_option linter.unusedVariables false
namespace Go.Proofs.K
open Go Go.Sim Go.Proofs
variable {G : Glob}
def c110 : SFun := ⟨.seq (.reg [o 2 (.mv (.c (.int .i64 0)))]) (.seq (.seq (.reg [o 3 (.mv (.t 0))]) (.block 0 (.seq (.seq (.reg [o 5 (.bin .eql (.t 3) (.c (.str [115, 99, 114, 105, 112, 116]))), o 4 (.mv (.t 5))]) (.cond (.t 4) .skip (.reg [o 6 (.bin .eql (.t 3) (.c (.str [115, 116, 121, 108, 101]))), o 4 (.mv (.t 6))]))) (.cond (.t 4) (.seq (.reg [o 2 (.mv (.c (.int .i64 1)))]) .ret) (.seq (.seq (.reg [o 8 (.bin .eql (.t 3) (.c (.str [116, 101, 120, 116, 97, 114, 101, 97]))), o 7 (.mv (.t 8))]) (.cond (.t 7) .skip (.reg [o 9 (.bin .eql (.t 3) (.c (.str [116, 105, 116, 108, 101]))), o 7 (.mv (.t 9))]))) (.cond (.t 7) (.seq (.reg [o 2 (.mv (.c (.int .i64 2)))]) .ret) .skip)))))) (.seq (.reg [o 2 (.mv (.c (.int .i64 0)))]) .ret)), [.tmp 2]⟩
theorem hc110 : X8 Tryz.prog {} Tryz.f110 = some c110 := by kernel_rfl
theorem raw_ok (nm : List UInt8) : PCalls (Pg G) 110 [.str nm] (Y0 (rawM nm)) := fun h => by
 unfold rawM
 refine Z9 Tryz.func110 (by kernel_rfl) hc110 (by rw [Tryz.ntmps110]; simp) (by rw [Tryz.ntmps110]; decide) ?_
 simp -dsimp -implicitDefEqProofs (disch := omega) only [VCA, Z1, ↓Q3, Nat.reduceEqDiff, Nat.reduceBEq, Nat.reduceAdd, Nat.reduceSub, Nat.reduceMul, Nat.reduceLT, Nat.reduceLeDiff, ↓reduceIte, reduceCtorEq, Z7, Q6, SOp.rd, SI.rd, SX.rd, rdL, rdO, rdP, Q5, Q4, Q2, Q8, Q7, Z0, implies_true, forall_const, forall_eq, ne_eq, exists_eq_right_right, exists_eq_right, exists_eq_left, exists_eq_left', Q9, Z3, Z8, Z6, Z4, c110]
 repeat' (first | ((with_reducible refine brC (fun _ => ?_) fun _ => ?_) <;> try (exfalso; omega)) | (with_reducible refine And.intro ?_ ?_; · omega) | simp -dsimp -implicitDefEqProofs (disch := omega) only [VCA, Z1, ↓Q3, Nat.reduceEqDiff, Nat.reduceBEq, Nat.reduceAdd, Nat.reduceSub, Nat.reduceMul, Nat.reduceLT, Nat.reduceLeDiff, ↓reduceIte, reduceCtorEq, Z7, Q6, SOp.rd, SI.rd, SX.rd, rdL, rdO, rdP, Q5, Q4, Q2, Q8, Q7, Z0, implies_true, forall_const, forall_eq, ne_eq, exists_eq_right_right, exists_eq_right, exists_eq_left, exists_eq_left', Q9, Z3, Z8, Z6, Z4])
 all_goals (refine ⟨Sub.refl _, ?_⟩; simp_all)
abbrev WD (d : HDoc) := BlE (sl Z5 d.nodes) (.bool d.quirks)
def textH (d : HDoc) (x : HNode) : List UInt8 := if 0 <= x.parent /\ rawM (nd d x.parent).name = 1 then x.text else escD false x.text
theorem textH_len (d : HDoc) {x : HNode} (Z : NodeSz x) : (textH d x).length <= 2400 := by
 have := esc_len false _ x.text (Nat.le_refl _)
 have := Z.text
 unfold textH; split <;> omega
def c132 : SFun := ⟨.seq (.reg [o 3 (.boxF 101 6 (.t 1))]) (.seq (.seq (.dreg [(o 4 (.fldA 4 (.t 3)), none), (o 5 (.ld 1 false (.t 4)), none), (o 6 (.bin .geq (.t 5) (.c (.int .i64 0))), none), (o 7 (.mv (.t 6)), none), (⟨some 8, .mv (.t 0), some (7, true)⟩, none), (⟨some 9, .fldA 0 (.t 8), some (7, true)⟩, none), (⟨some 10, .fldA 2 (.t 9), some (7, true)⟩, none), (⟨some 11, .fldA 0 (.t 10), some (7, true)⟩, none), (⟨some 12, .ld 1 false (.t 11), some (7, true)⟩, none), (⟨some 13, .fldA 4 (.t 3), some (7, true)⟩, none), (⟨some 14, .ld 1 false (.t 13), some (7, true)⟩, none), (⟨some 15, .idxA 6 (.t 12) (.t 14), some (7, true)⟩, none), (⟨some 16, .fldA 1 (.t 15), some (7, true)⟩, none), (⟨some 17, .ld 1 false (.t 16), some (7, true)⟩, none), (⟨some 18, .pcall 110 [.t 17], some (7, true)⟩, none), (⟨some 19, .bin .eql (.t 18) (.c (.int .i64 1)), some (7, true)⟩, none), (o 20 (.pick (.t 7) (.t 19) (.c (.bool false))), none)]) (.cond (.t 20) (.seq (.dreg [(o 21 (.mv (.t 0)), none), (o 22 (.fldA 0 (.t 21)), none), (o 23 (.fldA 0 (.t 22)), none), (o 24 (.fldA 3 (.t 3)), none), (o 25 (.ld 1 false (.t 24)), none), (o 26 (.call (.c (.fn 51 [] [])) [.t 23, .t 25]), (some [25]))]) .ret) .skip)) (.dreg [(o 27 (.mv (.t 0)), none), (o 28 (.fldA 0 (.t 27)), none), (o 29 (.fldA 0 (.t 28)), none), (o 30 (.fldA 3 (.t 3)), none), (o 31 (.ld 1 false (.t 30)), none), (o 32 (.pcall 126 [.t 31, .c (.bool false)]), none), (o 33 (.call (.c (.fn 51 [] [])) [.t 29, .t 32]), (some [31]))])), []⟩
theorem hc132 : X8 Tryz.prog {pure := [110, 126]} Tryz.f132 = some c132 := by kernel_rfl
theorem hn132 : (Tryz.f132.name == "runtime.NumGoroutine") = false := by kernel_rfl
theorem wtext_ok (hG : MaxOK G) (d : HDoc) {x : HNode} (Z : NodeSz x) (hpar : 0 <= x.parent -> inD d x.parent) {h0 h : J1} {rb : Nat} {s : List UInt8} (B : WD d h0 rb s h) (hs : s.length <= 100000000) :
  DCalls (Pg G) 132 [.vp rb 0, .agg (Z5 x)] h fun a h' => a = .tup [] /\ WD d h0 rb (s ++ textH d x) h' := by
 obtain ⟨p, buf, hat⟩ := B.at
 have hE := escape_ok (G := G) hG x.text false (by have := Z.text; omega)
 have hl := textH_len d Z
 have hW := K4 (G := G) (textH d x) B (by omega)
 have hR := raw_ok (G := G) (nd d x.parent).name
 by_cases hp : 0 <= x.parent
 ·have hi := hpar hp
  have i0 := hi.1
  have i1 := hi.2
  have e0 : nth d.nodes x.parent.toNat = nd d x.parent := rfl
  by_cases hr : rawM (nd d x.parent).name = 1
  ·have e : textH d x = x.text := if_pos ⟨hp, hr⟩
   rw [e] at hW ⊢
   refine Z9 Tryz.func132 hn132 hc132 (by rw [Tryz.ntmps132]; simp) (by rw [Tryz.ntmps132]; decide) ?_
   simp -dsimp -implicitDefEqProofs (disch := omega) only [↓Q0 7, ↓Q1 7, VCA, Z1, ↓Q3, Nat.reduceEqDiff, Nat.reduceBEq, Nat.reduceAdd, Nat.reduceSub, Nat.reduceMul, Nat.reduceLT, Nat.reduceLeDiff, ↓reduceIte, reduceCtorEq, Z7, Q6, SOp.rd, SI.rd, SX.rd, rdL, rdO, rdP, Q5, Q4, Q2, Q8, Q7, Z0, implies_true, forall_const, forall_eq, ne_eq, exists_eq_right_right, exists_eq_right, exists_eq_left, exists_eq_left', Q9, Z3, Z8, Z6, Z4, c132, Z5, hat]
   repeat' (first | ((with_reducible refine brC (fun _ => ?_) fun _ => ?_) <;> try (exfalso; omega)) | (with_reducible apply pcallE.of; · exact hR) | (with_reducible refine And.intro ?_ ?_; · omega) | simp -dsimp -implicitDefEqProofs (disch := omega) only [↓Q0 7, ↓Q1 7, VCA, Z1, ↓Q3, Nat.reduceEqDiff, Nat.reduceBEq, Nat.reduceAdd, Nat.reduceSub, Nat.reduceMul, Nat.reduceLT, Nat.reduceLeDiff, ↓reduceIte, reduceCtorEq, Z7, Q6, SOp.rd, SI.rd, SX.rd, rdL, rdO, rdP, Q5, Q4, Q2, Q8, Q7, Z0, implies_true, forall_const, forall_eq, ne_eq, exists_eq_right_right, exists_eq_right, exists_eq_left, exists_eq_left', Q9, Z3, Z8, Z6, Z4, Z5, hat, e0, hr])
   refine DCalls.of hW ?_
   rintro a h2 ⟨rfl, B'⟩
   simp -dsimp -implicitDefEqProofs (disch := omega) only [↓Q0 7, ↓Q1 7, VCA, Z1, ↓Q3, Nat.reduceEqDiff, Nat.reduceBEq, Nat.reduceAdd, Nat.reduceSub, Nat.reduceMul, Nat.reduceLT, Nat.reduceLeDiff, ↓reduceIte, reduceCtorEq, Z7, Q6, SOp.rd, SI.rd, SX.rd, rdL, rdO, rdP, Q5, Q4, Q2, Q8, Q7, Z0, implies_true, forall_const, forall_eq, ne_eq, exists_eq_right_right, exists_eq_right, exists_eq_left, exists_eq_left', Q9, Z3, Z8, Z6, Z4, Z5]
   exact ⟨_, Sub.refl _, B'⟩
  ·have e : textH d x = escD false x.text := if_neg (fun h => hr h.2)
   rw [e] at hW ⊢
   refine Z9 Tryz.func132 hn132 hc132 (by rw [Tryz.ntmps132]; simp) (by rw [Tryz.ntmps132]; decide) ?_
   simp -dsimp -implicitDefEqProofs (disch := omega) only [↓Q0 7, ↓Q1 7, VCA, Z1, ↓Q3, Nat.reduceEqDiff, Nat.reduceBEq, Nat.reduceAdd, Nat.reduceSub, Nat.reduceMul, Nat.reduceLT, Nat.reduceLeDiff, ↓reduceIte, reduceCtorEq, Z7, Q6, SOp.rd, SI.rd, SX.rd, rdL, rdO, rdP, Q5, Q4, Q2, Q8, Q7, Z0, implies_true, forall_const, forall_eq, ne_eq, exists_eq_right_right, exists_eq_right, exists_eq_left, exists_eq_left', Q9, Z3, Z8, Z6, Z4, c132, Z5, hat]
   repeat' (first | ((with_reducible refine brC (fun _ => ?_) fun _ => ?_) <;> try (exfalso; omega)) | (with_reducible apply pcallE.of; · exact hR) | (with_reducible apply pcallE.of; · exact hE) | (with_reducible refine And.intro ?_ ?_; · omega) | simp -dsimp -implicitDefEqProofs (disch := omega) only [↓Q0 7, ↓Q1 7, VCA, Z1, ↓Q3, Nat.reduceEqDiff, Nat.reduceBEq, Nat.reduceAdd, Nat.reduceSub, Nat.reduceMul, Nat.reduceLT, Nat.reduceLeDiff, ↓reduceIte, reduceCtorEq, Z7, Q6, SOp.rd, SI.rd, SX.rd, rdL, rdO, rdP, Q5, Q4, Q2, Q8, Q7, Z0, implies_true, forall_const, forall_eq, ne_eq, exists_eq_right_right, exists_eq_right, exists_eq_left, exists_eq_left', Q9, Z3, Z8, Z6, Z4, Z5, hat, e0])
   refine DCalls.of hW ?_
   rintro a h2 ⟨rfl, B'⟩
   simp -dsimp -implicitDefEqProofs (disch := omega) only [↓Q0 7, ↓Q1 7, VCA, Z1, ↓Q3, Nat.reduceEqDiff, Nat.reduceBEq, Nat.reduceAdd, Nat.reduceSub, Nat.reduceMul, Nat.reduceLT, Nat.reduceLeDiff, ↓reduceIte, reduceCtorEq, Z7, Q6, SOp.rd, SI.rd, SX.rd, rdL, rdO, rdP, Q5, Q4, Q2, Q8, Q7, Z0, implies_true, forall_const, forall_eq, ne_eq, exists_eq_right_right, exists_eq_right, exists_eq_left, exists_eq_left', Q9, Z3, Z8, Z6, Z4, Z5]
   exact ⟨_, Sub.refl _, B'⟩
 ·have e : textH d x = escD false x.text := if_neg (fun h => hp h.1)
  rw [e] at hW ⊢
  refine Z9 Tryz.func132 hn132 hc132 (by rw [Tryz.ntmps132]; simp) (by rw [Tryz.ntmps132]; decide) ?_
  simp -dsimp -implicitDefEqProofs (disch := omega) only [↓Q0 7, ↓Q1 7, VCA, Z1, ↓Q3, Nat.reduceEqDiff, Nat.reduceBEq, Nat.reduceAdd, Nat.reduceSub, Nat.reduceMul, Nat.reduceLT, Nat.reduceLeDiff, ↓reduceIte, reduceCtorEq, Z7, Q6, SOp.rd, SI.rd, SX.rd, rdL, rdO, rdP, Q5, Q4, Q2, Q8, Q7, Z0, implies_true, forall_const, forall_eq, ne_eq, exists_eq_right_right, exists_eq_right, exists_eq_left, exists_eq_left', Q9, Z3, Z8, Z6, Z4, c132, Z5, hat]
  repeat' (first | ((with_reducible refine brC (fun _ => ?_) fun _ => ?_) <;> try (exfalso; omega)) | (with_reducible apply pcallE.of; · exact hE) | (with_reducible refine And.intro ?_ ?_; · omega) | simp -dsimp -implicitDefEqProofs (disch := omega) only [↓Q0 7, ↓Q1 7, VCA, Z1, ↓Q3, Nat.reduceEqDiff, Nat.reduceBEq, Nat.reduceAdd, Nat.reduceSub, Nat.reduceMul, Nat.reduceLT, Nat.reduceLeDiff, ↓reduceIte, reduceCtorEq, Z7, Q6, SOp.rd, SI.rd, SX.rd, rdL, rdO, rdP, Q5, Q4, Q2, Q8, Q7, Z0, implies_true, forall_const, forall_eq, ne_eq, exists_eq_right_right, exists_eq_right, exists_eq_left, exists_eq_left', Q9, Z3, Z8, Z6, Z4, Z5, hat])
  refine DCalls.of hW ?_
  rintro a h2 ⟨rfl, B'⟩
  simp -dsimp -implicitDefEqProofs (disch := omega) only [↓Q0 7, ↓Q1 7, VCA, Z1, ↓Q3, Nat.reduceEqDiff, Nat.reduceBEq, Nat.reduceAdd, Nat.reduceSub, Nat.reduceMul, Nat.reduceLT, Nat.reduceLeDiff, ↓reduceIte, reduceCtorEq, Z7, Q6, SOp.rd, SI.rd, SX.rd, rdL, rdO, rdP, Q5, Q4, Q2, Q8, Q7, Z0, implies_true, forall_const, forall_eq, ne_eq, exists_eq_right_right, exists_eq_right, exists_eq_left, exists_eq_left', Q9, Z3, Z8, Z6, Z4, Z5]
  exact ⟨_, Sub.refl _, B'⟩
def NodeC (G : Glob) (d : HDoc) (n : Int) : Prop := ∀ (h0 h : J1) (rb : Nat) (s : List UInt8), WD d h0 rb s h -> s.length + (K3 d n).length <= 100000000 ->
 DCalls (Pg G) 58 [.vp rb 0, Y0 n] h fun a h' => a = .tup [] /\ WD d h0 rb (s ++ K3 d n) h'
def c131 : SFun := ⟨.seq (.reg [o 6 (.mv (.t 0)), o 7 (.fldA 0 (.t 6)), o 8 (.fldA 2 (.t 7)), o 9 (.fldA 0 (.t 8)), o 10 (.ld 1 false (.t 9)), o 11 (.mv (.t 1)), o 12 (.idxA 6 (.t 10) (.t 11)), o 13 (.fldA 5 (.t 12)), o 14 (.ld 1 false (.t 13)), o 15 (.len (.t 14)), o 16 (.mv (.c (.int .i64 0)))]) (.block 0 (.loop (.seq (.reg [o 17 (.bin .lss (.t 16) (.t 15))]) (.seq (.cond (.t 17) .skip (.exit 0)) (.seq (.block 1 (.seq (.reg [o 18 (.idxA 1 (.t 14) (.t 16)), o 19 (.ld 1 false (.t 18)), o 5 (.mv (.t 19))]) (.reg [o 20 (.mv (.t 0)), o 21 (.mv (.t 5)), o 22 (.call (.c (.fn 58 [] [])) [.t 20, .t 21])]))) (.reg [o 23 (.bin .add (.t 16) (.c (.int .i64 1))), o 16 (.mv (.t 23))])))))), []⟩
theorem hc131 : X8 Tryz.prog {} Tryz.f131 = some c131 := by kernel_rfl
theorem wkids_ok (d : HDoc) (V : DV d) (n : Int) (hn : inD d n) (ih : ∀ k ∈ (nd d n).kids, NodeC G d k) {h0 h : J1} {rb : Nat} {s : List UInt8} (B : WD d h0 rb s h) (hs : s.length + ((nd d n).kids.flatMap (K3 d)).length <= 100000000) :
  DCalls (Pg G) 131 [.vp rb 0, Y0 n] h fun a h' => a = .tup [] /\ WD d h0 rb (s ++ (nd d n).kids.flatMap (K3 d)) h' := by
 obtain ⟨p, buf, hat⟩ := B.at
 have i0 := hn.1
 have i1 := hn.2
 have e0 : nth d.nodes n.toNat = nd d n := rfl
 have kl : (nd d n).kids.length <= 200 := by
  have := nodup_len d.nodes.length (nd d n).kids (V.nodup n hn) fun k hk => (V.kid n hn k hk).1
  have := V.len; omega
 refine Z9 Tryz.func131 (by kernel_rfl) hc131 (by rw [Tryz.ntmps131]; simp) (by rw [Tryz.ntmps131]; decide) ?_
 simp -dsimp -implicitDefEqProofs (disch := omega) only [VCA, Z1, ↓Q3, Nat.reduceEqDiff, Nat.reduceBEq, Nat.reduceAdd, Nat.reduceSub, Nat.reduceMul, Nat.reduceLT, Nat.reduceLeDiff, ↓reduceIte, reduceCtorEq, Z7, Q6, SOp.rd, SI.rd, SX.rd, rdL, rdO, rdP, Q5, Q4, Q2, Q8, Q7, Z0, implies_true, forall_const, forall_eq, ne_eq, exists_eq_right_right, exists_eq_right, exists_eq_left, exists_eq_left', Q9, Z3, Z8, Z6, Z4, c131, hat]
 repeat' (first | ((with_reducible refine brC (fun _ => ?_) fun _ => ?_) <;> try (exfalso; omega)) | (with_reducible refine And.intro ?_ ?_; · omega) | simp -dsimp -implicitDefEqProofs (disch := omega) only [VCA, Z1, ↓Q3, Nat.reduceEqDiff, Nat.reduceBEq, Nat.reduceAdd, Nat.reduceSub, Nat.reduceMul, Nat.reduceLT, Nat.reduceLeDiff, ↓reduceIte, reduceCtorEq, Z7, Q6, SOp.rd, SI.rd, SX.rd, rdL, rdO, rdP, Q5, Q4, Q2, Q8, Q7, Z0, implies_true, forall_const, forall_eq, ne_eq, exists_eq_right_right, exists_eq_right, exists_eq_left, exists_eq_left', Q9, Z3, Z8, Z6, Z4, hat, e0, Z5])
 refine LoopVC.intro (fun m e h' => ∃ k : Nat, k <= (nd d n).kids.length /\ m = (nd d n).kids.length - k /\ e 0 = .vp rb 0 /\ e 14 = sl Z8 (nd d n).kids /\ e 15 = Y0 (nd d n).kids.length /\ e 16 = Y0 k /\ WD d h0 rb (s ++ ((nd d n).kids.take k).flatMap (K3 d)) h') (nd d n).kids.length
  ⟨0, by omega, by omega, rfl, rfl, rfl, rfl, by simpa using B⟩ ?_
 rintro m e h' ⟨k, hk, rfl, e0', e14, e15, e16, B'⟩
 by_cases hlt : k < (nd d n).kids.length
 ·obtain ⟨c, hcc⟩ : ∃ c, nth (nd d n).kids k = c := ⟨_, rfl⟩
  have hm : c ∈ (nd d n).kids := hcc ▸ X9 hlt
  have ts : ((nd d n).kids.take (k + 1)).flatMap (K3 d) = ((nd d n).kids.take k).flatMap (K3 d) ++ K3 d c := by
   rw [K7 hlt, List.flatMap_append, List.flatMap_cons, List.flatMap_nil, List.append_nil, hcc]
  have hlen : (((nd d n).kids.take (k + 1)).flatMap (K3 d)).length <= ((nd d n).kids.flatMap (K3 d)).length := by
   conv => rhs; rw [<- List.take_append_drop (k + 1) (nd d n).kids, List.flatMap_append, List.length_append]
   omega
  rw [ts, List.length_append] at hlen
  have hN := ih c hm h0 h' rb _ B' (by rw [List.length_append]; omega)
  repeat' (first | ((with_reducible refine brC (fun _ => ?_) fun _ => ?_) <;> try (exfalso; omega)) | (with_reducible refine And.intro ?_ ?_; · omega) | simp -dsimp -implicitDefEqProofs (disch := omega) only [VCA, Z1, ↓Q3, Nat.reduceEqDiff, Nat.reduceBEq, Nat.reduceAdd, Nat.reduceSub, Nat.reduceMul, Nat.reduceLT, Nat.reduceLeDiff, ↓reduceIte, reduceCtorEq, Z7, Q6, SOp.rd, SI.rd, SX.rd, rdL, rdO, rdP, Q5, Q4, Q2, Q8, Q7, Z0, implies_true, forall_const, forall_eq, ne_eq, exists_eq_right_right, exists_eq_right, exists_eq_left, exists_eq_left', Q9, Z3, Z8, Z6, Z4, e0', e14, e15, e16, hcc])
  refine DCalls.of hN ?_
  rintro a h2 ⟨rfl, B2⟩
  simp -dsimp -implicitDefEqProofs (disch := omega) only [VCA, Z1, ↓Q3, Nat.reduceEqDiff, Nat.reduceBEq, Nat.reduceAdd, Nat.reduceSub, Nat.reduceMul, Nat.reduceLT, Nat.reduceLeDiff, ↓reduceIte, reduceCtorEq, Z7, Q6, SOp.rd, SI.rd, SX.rd, rdL, rdO, rdP, Q5, Q4, Q2, Q8, Q7, Z0, implies_true, forall_const, forall_eq, ne_eq, exists_eq_right_right, exists_eq_right, exists_eq_left, exists_eq_left', Q9, Z3, Z8, Z6, Z4, e0', e14, e15, e16]
  exact ⟨_, by omega, k + 1, by omega, rfl, by omega, by rw [ts, <- List.append_assoc]; exact B2⟩
 ·obtain rfl : k = (nd d n).kids.length := by omega
  repeat' (first | ((with_reducible refine brC (fun _ => ?_) fun _ => ?_) <;> try (exfalso; omega)) | (with_reducible refine And.intro ?_ ?_; · omega) | simp -dsimp -implicitDefEqProofs (disch := omega) only [VCA, Z1, ↓Q3, Nat.reduceEqDiff, Nat.reduceBEq, Nat.reduceAdd, Nat.reduceSub, Nat.reduceMul, Nat.reduceLT, Nat.reduceLeDiff, ↓reduceIte, reduceCtorEq, Z7, Q6, SOp.rd, SI.rd, SX.rd, rdL, rdO, rdP, Q5, Q4, Q2, Q8, Q7, Z0, implies_true, forall_const, forall_eq, ne_eq, exists_eq_right_right, exists_eq_right, exists_eq_left, exists_eq_left', Q9, Z3, Z8, Z6, Z4, e0', e14, e15, e16])
  rw [List.take_length] at B'
  exact ⟨_, Sub.refl _, B'⟩
def c133_s6 : SCode := (.seq (.reg [o 104 (.mv (.t 0)), o 105 (.mv (.t 1)), o 106 (.call (.c (.fn 131 [] [])) [.t 104, .t 105])]) (.dreg [(o 107 (.mv (.t 0)), none), (o 108 (.fldA 0 (.t 107)), none), (o 109 (.fldA 0 (.t 108)), none), (o 110 (.fldA 1 (.t 4)), none), (o 111 (.ld 1 false (.t 110)), none), (o 112 (.bin .add (.c (.str [60, 47])) (.t 111)), none), (o 113 (.bin .add (.t 112) (.c (.str [62]))), none), (o 114 (.call (.c (.fn 51 [] [])) [.t 109, .t 113]), (some [111]))]))
def c133_s5 : SCode := (.seq (.seq (.dreg [(o 56 (.fldA 1 (.t 4)), none), (o 57 (.ld 1 false (.t 56)), none), (o 58 (.bin .eql (.t 57) (.c (.str [112, 114, 101]))), none), (o 59 (.mv (.t 58)), none), (⟨some 60, .fldA 1 (.t 4), some (59, false)⟩, none), (⟨some 61, .ld 1 false (.t 60), some (59, false)⟩, none), (⟨some 62, .bin .eql (.t 61) (.c (.str [116, 101, 120, 116, 97, 114, 101, 97])), some (59, false)⟩, none), (o 63 (.pick (.t 59) (.c (.bool true)) (.t 62)), none), (o 64 (.mv (.t 63)), none), (⟨some 65, .fldA 5 (.t 4), some (64, true)⟩, none), (⟨some 66, .ld 1 false (.t 65), some (64, true)⟩, none), (⟨some 67, .len (.t 66), some (64, true)⟩, none), (⟨some 68, .bin .gtr (.t 67) (.c (.int .i64 0)), some (64, true)⟩, none), (o 69 (.pick (.t 64) (.t 68) (.c (.bool false))), none), (o 70 (.mv (.t 69)), none), (⟨some 71, .mv (.t 0), some (70, true)⟩, none), (⟨some 72, .fldA 0 (.t 71), some (70, true)⟩, none), (⟨some 73, .fldA 2 (.t 72), some (70, true)⟩, none), (⟨some 74, .fldA 0 (.t 73), some (70, true)⟩, none), (⟨some 75, .ld 1 false (.t 74), some (70, true)⟩, none), (⟨some 76, .fldA 5 (.t 4), some (70, true)⟩, none), (⟨some 77, .ld 1 false (.t 76), some (70, true)⟩, none), (⟨some 78, .idxA 1 (.t 77) (.c (.int .i64 0)), some (70, true)⟩, none), (⟨some 79, .ld 1 false (.t 78), some (70, true)⟩, none), (⟨some 80, .idxA 6 (.t 75) (.t 79), some (70, true)⟩, none), (⟨some 81, .fldA 3 (.t 80), some (70, true)⟩, none), (⟨some 82, .ld 1 false (.t 81), some (70, true)⟩, none), (⟨some 83, .pcall 120 [.t 82, .c (.str [10])], some (70, true)⟩, none), (o 84 (.pick (.t 70) (.t 83) (.c (.bool false))), none), (o 85 (.mv (.t 84)), none), (⟨some 86, .mv (.t 0), some (85, true)⟩, none), (⟨some 87, .fldA 0 (.t 86), some (85, true)⟩, none), (⟨some 88, .fldA 2 (.t 87), some (85, true)⟩, none), (⟨some 89, .fldA 0 (.t 88), some (85, true)⟩, none), (⟨some 90, .ld 1 false (.t 89), some (85, true)⟩, none), (⟨some 91, .fldA 5 (.t 4), some (85, true)⟩, none), (⟨some 92, .ld 1 false (.t 91), some (85, true)⟩, none), (⟨some 93, .idxA 1 (.t 92) (.c (.int .i64 0)), some (85, true)⟩, none), (⟨some 94, .ld 1 false (.t 93), some (85, true)⟩, none), (⟨some 95, .idxA 6 (.t 90) (.t 94), some (85, true)⟩, none), (⟨some 96, .fldA 0 (.t 95), some (85, true)⟩, none), (⟨some 97, .ld 1 false (.t 96), some (85, true)⟩, none), (⟨some 98, .bin .eql (.t 97) (.c (.int .i64 3)), some (85, true)⟩, none), (o 99 (.pick (.t 85) (.t 98) (.c (.bool false))), none)]) (.cond (.t 99) (.reg [o 100 (.mv (.t 0)), o 101 (.fldA 0 (.t 100)), o 102 (.fldA 0 (.t 101)), o 103 (.call (.c (.fn 51 [] [])) [.t 102, .c (.str [10])])]) .skip)) c133_s6)
def c133_s3 : SCode := (.seq (.reg [o 43 (.mv (.t 0)), o 44 (.fldA 0 (.t 43)), o 45 (.fldA 0 (.t 44)), o 46 (.call (.c (.fn 51 [] [])) [.t 45, .c (.str [62])])]) (.seq (.seq (.reg [o 47 (.fldA 1 (.t 4)), o 48 (.ld 1 false (.t 47)), o 49 (.pcall 189 [.t 48]), o 50 (.mv (.t 49)), ⟨some 51, .fldA 5 (.t 4), some (50, true)⟩, ⟨some 52, .ld 1 false (.t 51), some (50, true)⟩, ⟨some 53, .len (.t 52), some (50, true)⟩, ⟨some 54, .bin .eql (.t 53) (.c (.int .i64 0)), some (50, true)⟩, o 55 (.pick (.t 50) (.t 54) (.c (.bool false)))]) (.cond (.t 55) .ret .skip)) c133_s5))
def c133 : SFun := ⟨.seq (.reg [o 7 (.mv (.t 0)), o 8 (.fldA 0 (.t 7)), o 9 (.fldA 2 (.t 8)), o 10 (.fldA 0 (.t 9)), o 11 (.ld 1 false (.t 10)), o 12 (.mv (.t 1)), o 13 (.idxA 6 (.t 11) (.t 12)), o 14 (.ld 6 true (.t 13)), o 4 (.new 101 6 [.int .i64 0, .str [], .emp, .str [], .int .i64 0, .emp]), ⟨none, .st 6 (.t 4) (.t 14), none⟩]) (.seq (.dreg [(o 15 (.mv (.t 0)), none), (o 16 (.fldA 0 (.t 15)), none), (o 17 (.fldA 0 (.t 16)), none), (o 18 (.fldA 1 (.t 4)), none), (o 19 (.ld 1 false (.t 18)), none), (o 20 (.bin .add (.c (.str [60])) (.t 19)), none), (o 21 (.call (.c (.fn 51 [] [])) [.t 17, .t 20]), (some [19]))]) (.seq (.seq (.reg [o 22 (.fldA 2 (.t 4)), o 23 (.ld 1 false (.t 22)), o 24 (.len (.t 23)), o 25 (.mv (.c (.int .i64 0)))]) (.block 0 (.loop (.seq (.reg [o 26 (.bin .lss (.t 25) (.t 24))]) (.seq (.cond (.t 26) .skip (.exit 0)) (.seq (.block 1 (.seq (.reg [o 27 (.idxA 2 (.t 23) (.t 25)), o 28 (.ld 2 true (.t 27)), o 6 (.new 69 2 [.str [], .str []]), ⟨none, .st 2 (.t 6) (.t 28), none⟩]) (.dreg [(o 29 (.mv (.t 0)), none), (o 30 (.fldA 0 (.t 29)), none), (o 31 (.fldA 0 (.t 30)), none), (o 32 (.fldA 0 (.t 6)), none), (o 33 (.ld 1 false (.t 32)), none), (o 34 (.bin .add (.c (.str [32])) (.t 33)), none), (o 35 (.bin .add (.t 34) (.c (.str [61, 34]))), none), (o 36 (.fldA 1 (.t 6)), none), (o 37 (.ld 1 false (.t 36)), none), (o 38 (.pcall 126 [.t 37, .c (.bool true)]), none), (o 39 (.bin .add (.t 35) (.t 38)), none), (o 40 (.bin .add (.t 39) (.c (.str [34]))), none), (o 41 (.call (.c (.fn 51 [] [])) [.t 31, .t 40]), (some [33, 37]))]))) (.reg [o 42 (.bin .add (.t 25) (.c (.int .i64 1))), o 25 (.mv (.t 42))]))))))) c133_s3)), []⟩
theorem hc133 : X8 Tryz.prog {pure := [126, 189, 120]} Tryz.f133 = some c133 := by kernel_rfl
theorem pre1 (s : List UInt8) : hasPre s [10] = (s != [] && bt s 0 == 10) := by
 cases s with
 | nil => rfl
 | cons c r =>
  rw [Bool.eq_iff_iff]
  unfold hasPre bt
  simp
  constructor
  ·rintro rfl; rfl
  ·intro h
   have : c.toNat = (10 : UInt8).toNat := by simp; omega
   exact UInt8.toNat_inj.1 this
theorem el_last (d : HDoc) (V : DV d) (n : Int) (hn : inD d n) {x : HNode} (hx : nd d n = x) (ih : ∀ k ∈ (nd d n).kids, NodeC G d k) {h0 h : J1} {rb r4 : Nat} {s : List UInt8} (h4 : h0 r4 = none)
  (B : WD d (upd h0 r4 (some ⟨.t 101, 6, [Z5 x]⟩)) rb s h) (hs : s.length + (x.kids.flatMap (K3 d)).length + x.name.length <= 100000000) {e : Env} (e0' : e 0 = .vp rb 0) (e1 : e 1 = Y0 n) (e4 : e 4 = .vp r4 0) :
  vc (Pg G) c133_s6 (retK [] fun a h' => a = .tup [] /\ WD d h0 rb (s ++ x.kids.flatMap (K3 d) ++ (60 :: 47 :: (x.name ++ [62]))) h') e h := by
 have hK := wkids_ok (G := G) d V n hn ih B (by rw [hx]; omega)
 rw [hx] at hK
 skip
 repeat' (first | ((with_reducible refine brC (fun _ => ?_) fun _ => ?_) <;> try (exfalso; omega)) | (with_reducible refine And.intro ?_ ?_; · omega) | simp -dsimp -implicitDefEqProofs (disch := omega) only [↓Q0 50, ↓Q1 50, ↓Q0 59, ↓Q1 59, ↓Q0 64, ↓Q1 64, ↓Q0 70, ↓Q1 70, ↓Q0 85, ↓Q1 85, VCA, Z1, ↓Q3, Nat.reduceEqDiff, Nat.reduceBEq, Nat.reduceAdd, Nat.reduceSub, Nat.reduceMul, Nat.reduceLT, Nat.reduceLeDiff, ↓reduceIte, reduceCtorEq, Z7, Q6, SOp.rd, SI.rd, SX.rd, rdL, rdO, rdP, Q5, Q4, Q2, Q8, Q7, Z0, implies_true, forall_const, forall_eq, ne_eq, exists_eq_right_right, exists_eq_right, exists_eq_left, exists_eq_left', Q9, Z3, Z8, Z6, Z4, c133_s6, e0', e1, e4])
 refine DCalls.of hK ?_
 rintro a h5 ⟨rfl, B5⟩
 have f5 := B5.has
 unfold Z5 at f5
 have hW := K4 (G := G) (60 :: 47 :: (x.name ++ [62])) B5 (by simp only [List.length_append, List.length_cons, List.length_nil]; omega)
 repeat' (first | ((with_reducible refine brC (fun _ => ?_) fun _ => ?_) <;> try (exfalso; omega)) | (with_reducible refine And.intro ?_ ?_; · omega) | simp -dsimp -implicitDefEqProofs (disch := omega) only [↓Q0 50, ↓Q1 50, ↓Q0 59, ↓Q1 59, ↓Q0 64, ↓Q1 64, ↓Q0 70, ↓Q1 70, ↓Q0 85, ↓Q1 85, VCA, Z1, ↓Q3, Nat.reduceEqDiff, Nat.reduceBEq, Nat.reduceAdd, Nat.reduceSub, Nat.reduceMul, Nat.reduceLT, Nat.reduceLeDiff, ↓reduceIte, reduceCtorEq, Z7, Q6, SOp.rd, SI.rd, SX.rd, rdL, rdO, rdP, Q5, Q4, Q2, Q8, Q7, Z0, implies_true, forall_const, forall_eq, ne_eq, exists_eq_right_right, exists_eq_right, exists_eq_left, exists_eq_left', Q9, Z3, Z8, Z6, Z4, e0', e1, e4, f5])
 refine DCalls.of hW ?_
 rintro a h7 ⟨rfl, B7⟩
 simp -dsimp -implicitDefEqProofs (disch := omega) only [↓Q0 50, ↓Q1 50, ↓Q0 59, ↓Q1 59, ↓Q0 64, ↓Q1 64, ↓Q0 70, ↓Q1 70, ↓Q0 85, ↓Q1 85, VCA, Z1, ↓Q3, Nat.reduceEqDiff, Nat.reduceBEq, Nat.reduceAdd, Nat.reduceSub, Nat.reduceMul, Nat.reduceLT, Nat.reduceLeDiff, ↓reduceIte, reduceCtorEq, Z7, Q6, SOp.rd, SI.rd, SX.rd, rdL, rdO, rdP, Q5, Q4, Q2, Q8, Q7, Z0, implies_true, forall_const, forall_eq, ne_eq, exists_eq_right_right, exists_eq_right, exists_eq_left, exists_eq_left', Q9, Z3, Z8, Z6, Z4, e0', e1, e4]
 exact ⟨_, Sub.refl _, B7.less h4⟩
theorem el_mid (d : HDoc) (V : DV d) (n : Int) (hn : inD d n) {x : HNode} (hx : nd d n = x) (ih : ∀ k ∈ (nd d n).kids, NodeC G d k) {h0 h : J1} {rb r4 : Nat} {s : List UInt8} (h4 : h0 r4 = none)
  (B : WD d (upd h0 r4 (some ⟨.t 101, 6, [Z5 x]⟩)) rb s h) (hs : s.length + (x.kids.flatMap (K3 d)).length + x.name.length <= 99999999) {e : Env} (e0' : e 0 = .vp rb 0) (e1 : e 1 = Y0 n) (e4 : e 4 = .vp r4 0) :
  vc (Pg G) c133_s5 (retK [] fun a h' => a = .tup [] /\ WD d h0 rb (s ++ (if X2 d x = true then [10] else []) ++ x.kids.flatMap (K3 d) ++ (60 :: 47 :: (x.name ++ [62]))) h') e h := by
 have f4 := B.has
 unfold Z5 at f4
 obtain ⟨p5, buf5, hat⟩ := B.at
 have n4 : ¬ rb = r4 := fun q => by rw [<- q, hat] at f4; cases f4
 have hW := K4 (G := G) [10] B (by simp only [List.length_cons, List.length_nil]; omega)
 have fin : ∀ (b : Bool) (e' : Env), X2 d x = b -> e' 0 = .vp rb 0 -> e' 1 = Y0 n -> e' 4 = .vp r4 0 -> ∀ h', WD d (upd h0 r4 (some ⟨.t 101, 6, [Z5 x]⟩)) rb (s ++ (if b = true then [10] else [])) h' ->
   vc (Pg G) c133_s6 (retK [] fun a h' => a = .tup [] /\ WD d h0 rb (s ++ (if X2 d x = true then [10] else []) ++ x.kids.flatMap (K3 d) ++ (60 :: 47 :: (x.name ++ [62]))) h') e' h' := by
  intro b e' hb q0 q1 q4 h' B'
  rw [hb]
  exact el_last d V n hn hx ih h4 B' (by
   rw [List.length_append]
   have : (if b = true then [10] else [] : List UInt8).length <= 1 := by split <;> simp
   omega) q0 q1 q4
 have hL : X2 d x = ((x.name == [112, 114, 101] || x.name == [116, 101, 120, 116, 97, 114, 101, 97]) && (decide (0 < x.kids.length) && (hasPre (nd d (nth x.kids 0)).text [10] && (nd d (nth x.kids 0)).kind == 3))) := by
  unfold X2
  rw [pre1, show decide (0 < x.kids.length) = decide (x.kids ≠ []) from by rw [decide_eq_decide, List.length_pos_iff]]
  cases (nd d (nth x.kids 0)).kind == 3 <;> simp
 by_cases c1 : x.name = [112, 114, 101] \/ x.name = [116, 101, 120, 116, 97, 114, 101, 97]
 ·by_cases c2 : 0 < x.kids.length
  ·obtain ⟨k, hk⟩ : ∃ k, nth x.kids 0 = k := ⟨_, rfl⟩
   have hki := (V.kid n hn k (by rw [hx, <- hk]; exact X9 c2)).1
   have k0 := hki.1
   have k1 := hki.2
   have ek : nth d.nodes k.toNat = nd d k := rfl
   have Zk := nodeE_sz (V.node k hki)
   have hP := hasPre_ok (G := G) (nd d k).text [10] (by have := Zk.text; omega) (by decide)
   rw [hk] at hL
   have c1b : (x.name == [112, 114, 101] || x.name == [116, 101, 120, 116, 97, 114, 101, 97]) = true := by simpa using c1
   rw [c1b, decide_eq_true c2] at hL
   by_cases c3 : hasPre (nd d k).text [10] = true
   ·rw [c3] at hL hP
    by_cases c4 : (nd d k).kind = 3
    ·have hF : X2 d x = true := by rw [hL, c4]; rfl
     skip
     repeat' (first | ((with_reducible refine brC (fun _ => ?_) fun _ => ?_) <;> try (exfalso; omega)) | (with_reducible apply pcallE.of; · exact hP) | (with_reducible refine And.intro ?_ ?_; · omega) | simp -dsimp -implicitDefEqProofs (disch := omega) only [↓Q0 50, ↓Q1 50, ↓Q0 59, ↓Q1 59, ↓Q0 64, ↓Q1 64, ↓Q0 70, ↓Q1 70, ↓Q0 85, ↓Q1 85, VCA, Z1, ↓Q3, Nat.reduceEqDiff, Nat.reduceBEq, Nat.reduceAdd, Nat.reduceSub, Nat.reduceMul, Nat.reduceLT, Nat.reduceLeDiff, ↓reduceIte, reduceCtorEq, Z7, Q6, SOp.rd, SI.rd, SX.rd, rdL, rdO, rdP, Q5, Q4, Q2, Q8, Q7, Z0, implies_true, forall_const, forall_eq, ne_eq, exists_eq_right_right, exists_eq_right, exists_eq_left, exists_eq_left', Q9, Z3, Z8, Z6, Z4, c133_s5, e0', e1, e4, f4, hat, hk, ek, c4, Z5])
     all_goals first
      | (refine DCalls.of hW ?_
         rintro a h7 ⟨rfl, B7⟩
         simp -dsimp -implicitDefEqProofs (disch := omega) only [↓Q0 50, ↓Q1 50, ↓Q0 59, ↓Q1 59, ↓Q0 64, ↓Q1 64, ↓Q0 70, ↓Q1 70, ↓Q0 85, ↓Q1 85, VCA, Z1, ↓Q3, Nat.reduceEqDiff, Nat.reduceBEq, Nat.reduceAdd, Nat.reduceSub, Nat.reduceMul, Nat.reduceLT, Nat.reduceLeDiff, ↓reduceIte, reduceCtorEq, Z7, Q6, SOp.rd, SI.rd, SX.rd, rdL, rdO, rdP, Q5, Q4, Q2, Q8, Q7, Z0, implies_true, forall_const, forall_eq, ne_eq, exists_eq_right_right, exists_eq_right, exists_eq_left, exists_eq_left', Q9, Z3, Z8, Z6, Z4, e0', e1, e4]
         exact fin true _ hF (by simp [upd, e0']) (by simp [upd, e1]) (by simp [upd, e4]) _ (by simpa using B7))
      | (exfalso; simp_all; done)
    ·have hF : X2 d x = false := by rw [hL]; simpa using c4
     have c4b : ((nd d k).kind == 3) = false := by simpa using c4
     skip
     repeat' (first | ((with_reducible refine brC (fun _ => ?_) fun _ => ?_) <;> try (exfalso; omega)) | (with_reducible apply pcallE.of; · exact hP) | (with_reducible refine And.intro ?_ ?_; · omega) | simp -dsimp -implicitDefEqProofs (disch := omega) only [↓Q0 50, ↓Q1 50, ↓Q0 59, ↓Q1 59, ↓Q0 64, ↓Q1 64, ↓Q0 70, ↓Q1 70, ↓Q0 85, ↓Q1 85, VCA, Z1, ↓Q3, Nat.reduceEqDiff, Nat.reduceBEq, Nat.reduceAdd, Nat.reduceSub, Nat.reduceMul, Nat.reduceLT, Nat.reduceLeDiff, ↓reduceIte, reduceCtorEq, Z7, Q6, SOp.rd, SI.rd, SX.rd, rdL, rdO, rdP, Q5, Q4, Q2, Q8, Q7, Z0, implies_true, forall_const, forall_eq, ne_eq, exists_eq_right_right, exists_eq_right, exists_eq_left, exists_eq_left', Q9, Z3, Z8, Z6, Z4, c133_s5, e0', e1, e4, f4, hat, hk, ek, c4b, Z5])
     all_goals first
   | (refine fin false _ hF ?_ ?_ ?_ _ (by simpa using B) <;> first | (simp [upd, e0']; done) | (simp [upd, e1]; done) | (simp [upd, e4]; done))
   | (exfalso; simp_all; done)
   ·have c3 : hasPre (nd d k).text [10] = false := by simpa using c3
    rw [c3] at hL hP
    have hF : X2 d x = false := by rw [hL]; rfl
    skip
    repeat' (first | ((with_reducible refine brC (fun _ => ?_) fun _ => ?_) <;> try (exfalso; omega)) | (with_reducible apply pcallE.of; · exact hP) | (with_reducible refine And.intro ?_ ?_; · omega) | simp -dsimp -implicitDefEqProofs (disch := omega) only [↓Q0 50, ↓Q1 50, ↓Q0 59, ↓Q1 59, ↓Q0 64, ↓Q1 64, ↓Q0 70, ↓Q1 70, ↓Q0 85, ↓Q1 85, VCA, Z1, ↓Q3, Nat.reduceEqDiff, Nat.reduceBEq, Nat.reduceAdd, Nat.reduceSub, Nat.reduceMul, Nat.reduceLT, Nat.reduceLeDiff, ↓reduceIte, reduceCtorEq, Z7, Q6, SOp.rd, SI.rd, SX.rd, rdL, rdO, rdP, Q5, Q4, Q2, Q8, Q7, Z0, implies_true, forall_const, forall_eq, ne_eq, exists_eq_right_right, exists_eq_right, exists_eq_left, exists_eq_left', Q9, Z3, Z8, Z6, Z4, c133_s5, e0', e1, e4, f4, hat, hk, ek, Z5])
    all_goals first
   | (refine fin false _ hF ?_ ?_ ?_ _ (by simpa using B) <;> first | (simp [upd, e0']; done) | (simp [upd, e1]; done) | (simp [upd, e4]; done))
   | (exfalso; simp_all; done)
  ·have hF : X2 d x = false := by rw [hL, decide_eq_false c2]; simp
   have hP := hasPre_ok (G := G) [] [10] (by decide) (by decide)
   skip
   repeat' (first | ((with_reducible refine brC (fun _ => ?_) fun _ => ?_) <;> try (exfalso; omega)) | (with_reducible apply pcallE.of; · exact hP) | (with_reducible refine And.intro ?_ ?_; · omega) | simp -dsimp -implicitDefEqProofs (disch := omega) only [↓Q0 50, ↓Q1 50, ↓Q0 59, ↓Q1 59, ↓Q0 64, ↓Q1 64, ↓Q0 70, ↓Q1 70, ↓Q0 85, ↓Q1 85, VCA, Z1, ↓Q3, Nat.reduceEqDiff, Nat.reduceBEq, Nat.reduceAdd, Nat.reduceSub, Nat.reduceMul, Nat.reduceLT, Nat.reduceLeDiff, ↓reduceIte, reduceCtorEq, Z7, Q6, SOp.rd, SI.rd, SX.rd, rdL, rdO, rdP, Q5, Q4, Q2, Q8, Q7, Z0, implies_true, forall_const, forall_eq, ne_eq, exists_eq_right_right, exists_eq_right, exists_eq_left, exists_eq_left', Q9, Z3, Z8, Z6, Z4, c133_s5, e0', e1, e4, f4, hat, Z5])
   all_goals first
   | (refine fin false _ hF ?_ ?_ ?_ _ (by simpa using B) <;> first | (simp [upd, e0']; done) | (simp [upd, e1]; done) | (simp [upd, e4]; done))
   | (exfalso; simp_all; done)
 ·have c1b : (x.name == [112, 114, 101] || x.name == [116, 101, 120, 116, 97, 114, 101, 97]) = false := by simpa using c1
  have hF : X2 d x = false := by rw [hL, c1b]; simp
  have hP := hasPre_ok (G := G) [] [10] (by decide) (by decide)
  skip
  repeat' (first | ((with_reducible refine brC (fun _ => ?_) fun _ => ?_) <;> try (exfalso; omega)) | (with_reducible apply pcallE.of; · exact hP) | (with_reducible refine And.intro ?_ ?_; · omega) | simp -dsimp -implicitDefEqProofs (disch := omega) only [↓Q0 50, ↓Q1 50, ↓Q0 59, ↓Q1 59, ↓Q0 64, ↓Q1 64, ↓Q0 70, ↓Q1 70, ↓Q0 85, ↓Q1 85, VCA, Z1, ↓Q3, Nat.reduceEqDiff, Nat.reduceBEq, Nat.reduceAdd, Nat.reduceSub, Nat.reduceMul, Nat.reduceLT, Nat.reduceLeDiff, ↓reduceIte, reduceCtorEq, Z7, Q6, SOp.rd, SI.rd, SX.rd, rdL, rdO, rdP, Q5, Q4, Q2, Q8, Q7, Z0, implies_true, forall_const, forall_eq, ne_eq, exists_eq_right_right, exists_eq_right, exists_eq_left, exists_eq_left', Q9, Z3, Z8, Z6, Z4, c133_s5, e0', e1, e4, f4, hat, Z5])
  all_goals first
   | (refine fin false _ hF ?_ ?_ ?_ _ (by simpa using B) <;> first | (simp [upd, e0']; done) | (simp [upd, e1]; done) | (simp [upd, e4]; done))
   | (exfalso; simp_all; done)
theorem openH_app (x : HNode) (s : List UInt8) : s ++ (60 :: x.name) ++ x.attrs.flatMap attrH ++ [62] = s ++ openH x := by
 unfold openH; simp
theorem el_end (hG : MaxOK G) (d : HDoc) (V : DV d) (n : Int) (hn : inD d n) {x : HNode} (hx : nd d n = x) (h2 : x.kind = 2) (ih : ∀ k ∈ (nd d n).kids, NodeC G d k) {h0 h : J1} {rb r4 : Nat} {s : List UInt8} (h4 : h0 r4 = none)
  (B : WD d (upd h0 r4 (some ⟨.t 101, 6, [Z5 x]⟩)) rb (s ++ (60 :: x.name) ++ x.attrs.flatMap attrH) h) (hs : s.length + (K3 d n).length <= 100000000) {e : Env} (e0' : e 0 = .vp rb 0) (e1 : e 1 = Y0 n) (e4 : e 4 = .vp r4 0) :
  vc (Pg G) c133_s3 (retK [] fun a h' => a = .tup [] /\ WD d h0 rb (s ++ K3 d n) h') e h := by
 have Z := nodeE_sz (V.node n hn)
 have he := html_eq V hn
 rw [hx] at Z he
 have z1 := Z.name
 have f4 := B.has
 unfold Z5 at f4
 have hoa := openH_app x s
 have hoL : (openH x).length <= 40000 := by
  unfold openH
  have := flat_le (f := attrH) (k := 2500) x.attrs fun a ha => by
   have h1 := Z.each a ha
   have h2 := esc_len true _ a.value (Nat.le_refl _)
   unfold attrH
   simp only [List.length_append, List.length_cons, List.length_nil]
   omega
  have := Z.attrs
  simp only [List.length_append, List.length_cons, List.length_nil]
  omega
 have hW := K4 (G := G) [62] B (by
  have := congrArg List.length hoa
  simp only [List.length_append, List.length_cons, List.length_nil] at this ⊢; omega)
 have hV := void_ok (G := G) hG x.name (by omega)
 have hnz : openH x ≠ [] := by unfold openH; simp
 skip
 repeat' (first | ((with_reducible refine brC (fun _ => ?_) fun _ => ?_) <;> try (exfalso; omega)) | (with_reducible refine And.intro ?_ ?_; · omega) | simp -dsimp -implicitDefEqProofs (disch := omega) only [↓Q0 50, ↓Q1 50, ↓Q0 59, ↓Q1 59, ↓Q0 64, ↓Q1 64, ↓Q0 70, ↓Q1 70, ↓Q0 85, ↓Q1 85, VCA, Z1, ↓Q3, Nat.reduceEqDiff, Nat.reduceBEq, Nat.reduceAdd, Nat.reduceSub, Nat.reduceMul, Nat.reduceLT, Nat.reduceLeDiff, ↓reduceIte, reduceCtorEq, Z7, Q6, SOp.rd, SI.rd, SX.rd, rdL, rdO, rdP, Q5, Q4, Q2, Q8, Q7, Z0, implies_true, forall_const, forall_eq, ne_eq, exists_eq_right_right, exists_eq_right, exists_eq_left, exists_eq_left', Q9, Z3, Z8, Z6, Z4, c133_s3, e0', e1, e4])
 refine DCalls.of hW ?_
 rintro a h5 ⟨rfl, B5⟩
 rw [hoa] at B5
 have f5 := B5.has
 unfold Z5 at f5
 obtain ⟨p5, buf5, hat5⟩ := B5.at
 have eH : K3 d n = if inW x.name voidS = true /\ x.kids = [] then openH x else openH x ++ (if X2 d x = true then [10] else []) ++ x.kids.flatMap (K3 d) ++ [60, 47] ++ x.name ++ [62] := by
  rw [he]; unfold htG
  rw [if_neg (by omega), if_neg (by omega), if_neg (by omega), if_neg (by omega)]
 by_cases hv : inW x.name voidS = true
 ·by_cases hk : x.kids = []
  ·rw [if_pos ⟨hv, hk⟩] at eH
   rw [hv] at hV
   rw [eH]
   repeat' (first | ((with_reducible refine brC (fun _ => ?_) fun _ => ?_) <;> try (exfalso; omega)) | (with_reducible apply pcallE.of; · exact hV) | (with_reducible refine And.intro ?_ ?_; · omega) | simp -dsimp -implicitDefEqProofs (disch := omega) only [↓Q0 50, ↓Q1 50, ↓Q0 59, ↓Q1 59, ↓Q0 64, ↓Q1 64, ↓Q0 70, ↓Q1 70, ↓Q0 85, ↓Q1 85, VCA, Z1, ↓Q3, Nat.reduceEqDiff, Nat.reduceBEq, Nat.reduceAdd, Nat.reduceSub, Nat.reduceMul, Nat.reduceLT, Nat.reduceLeDiff, ↓reduceIte, reduceCtorEq, Z7, Q6, SOp.rd, SI.rd, SX.rd, rdL, rdO, rdP, Q5, Q4, Q2, Q8, Q7, Z0, implies_true, forall_const, forall_eq, ne_eq, exists_eq_right_right, exists_eq_right, exists_eq_left, exists_eq_left', Q9, Z3, Z8, Z6, Z4, e0', e1, e4, f5, hk])
   exact ⟨_, Sub.refl _, B5.less h4⟩
  ·rw [if_neg (fun h => hk h.2)] at eH
   rw [hv] at hV
   have hkp : 0 < x.kids.length := List.length_pos_iff.2 hk
   rw [eH]
   have hs' := hs
   rw [eH] at hs'
   have hmid : ∀ e' : Env, e' 0 = .vp rb 0 -> e' 1 = Y0 n -> e' 4 = .vp r4 0 -> vc (Pg G) c133_s5 (retK [] fun a h' => a = .tup [] /\ WD d h0 rb (s ++ (openH x ++ (if X2 d x = true then [10] else []) ++ x.kids.flatMap (K3 d) ++ [60, 47] ++ x.name ++ [62])) h') e' h5 := fun e' q0 q1 q4 => by
    have := el_mid d V n hn hx ih h4 B5 (by
     simp only [List.length_append, List.length_cons, List.length_nil] at hs' ⊢; omega) q0 q1 q4
    simpa using this
   repeat' (first | ((with_reducible refine brC (fun _ => ?_) fun _ => ?_) <;> try (exfalso; omega)) | (with_reducible apply pcallE.of; · exact hV) | (with_reducible refine And.intro ?_ ?_; · omega) | simp -dsimp -implicitDefEqProofs (disch := omega) only [↓Q0 50, ↓Q1 50, ↓Q0 59, ↓Q1 59, ↓Q0 64, ↓Q1 64, ↓Q0 70, ↓Q1 70, ↓Q0 85, ↓Q1 85, VCA, Z1, ↓Q3, Nat.reduceEqDiff, Nat.reduceBEq, Nat.reduceAdd, Nat.reduceSub, Nat.reduceMul, Nat.reduceLT, Nat.reduceLeDiff, ↓reduceIte, reduceCtorEq, Z7, Q6, SOp.rd, SI.rd, SX.rd, rdL, rdO, rdP, Q5, Q4, Q2, Q8, Q7, Z0, implies_true, forall_const, forall_eq, ne_eq, exists_eq_right_right, exists_eq_right, exists_eq_left, exists_eq_left', Q9, Z3, Z8, Z6, Z4, e0', e1, e4, f5, lenp, hk])
   all_goals (refine hmid _ ?_ ?_ ?_ <;> first | (simp [upd, e0']; done) | (simp [upd, e1]; done) | (simp [upd, e4]; done))
 ·have hv : inW x.name voidS = false := by simpa using hv
  rw [if_neg (fun h => by rw [hv] at h; cases h.1)] at eH
  rw [hv] at hV
  rw [eH]
  have hs' := hs
  rw [eH] at hs'
  have hmid : ∀ e' : Env, e' 0 = .vp rb 0 -> e' 1 = Y0 n -> e' 4 = .vp r4 0 -> vc (Pg G) c133_s5 (retK [] fun a h' => a = .tup [] /\ WD d h0 rb (s ++ (openH x ++ (if X2 d x = true then [10] else []) ++ x.kids.flatMap (K3 d) ++ [60, 47] ++ x.name ++ [62])) h') e' h5 := fun e' q0 q1 q4 => by
   have := el_mid d V n hn hx ih h4 B5 (by
    simp only [List.length_append, List.length_cons, List.length_nil] at hs' ⊢; omega) q0 q1 q4
   simpa using this
  repeat' (first | ((with_reducible refine brC (fun _ => ?_) fun _ => ?_) <;> try (exfalso; omega)) | (with_reducible apply pcallE.of; · exact hV) | (with_reducible refine And.intro ?_ ?_; · omega) | simp -dsimp -implicitDefEqProofs (disch := omega) only [↓Q0 50, ↓Q1 50, ↓Q0 59, ↓Q1 59, ↓Q0 64, ↓Q1 64, ↓Q0 70, ↓Q1 70, ↓Q0 85, ↓Q1 85, VCA, Z1, ↓Q3, Nat.reduceEqDiff, Nat.reduceBEq, Nat.reduceAdd, Nat.reduceSub, Nat.reduceMul, Nat.reduceLT, Nat.reduceLeDiff, ↓reduceIte, reduceCtorEq, Z7, Q6, SOp.rd, SI.rd, SX.rd, rdL, rdO, rdP, Q5, Q4, Q2, Q8, Q7, Z0, implies_true, forall_const, forall_eq, ne_eq, exists_eq_right_right, exists_eq_right, exists_eq_left, exists_eq_left', Q9, Z3, Z8, Z6, Z4, e0', e1, e4, f5])
  all_goals (refine hmid _ ?_ ?_ ?_ <;> first | (simp [upd, e0']; done) | (simp [upd, e1]; done) | (simp [upd, e4]; done))
theorem welement_ok (hG : MaxOK G) (d : HDoc) (V : DV d) (n : Int) (hn : inD d n) (h2 : (nd d n).kind = 2) (ih : ∀ k ∈ (nd d n).kids, NodeC G d k) {h0 h : J1} {rb : Nat} {s : List UInt8} (B : WD d h0 rb s h) (hs : s.length + (K3 d n).length <= 100000000) :
  DCalls (Pg G) 133 [.vp rb 0, Y0 n] h fun a h' => a = .tup [] /\ WD d h0 rb (s ++ K3 d n) h' := by
 obtain ⟨p, buf, hat⟩ := B.at
 have i0 := hn.1
 have i1 := hn.2
 have e0 : nth d.nodes n.toNat = nd d n := rfl
 have Z := nodeE_sz (V.node n hn)
 have he := html_eq V hn
 obtain ⟨x, hx⟩ : ∃ x, nd d n = x := ⟨_, rfl⟩
 rw [hx] at e0 Z he h2
 have z1 := Z.name
 have z5 := Z.attrs
 have hle : (openH x).length <= 40000 := by
  unfold openH
  have := flat_le (f := attrH) (k := 2500) x.attrs fun a ha => by
   have h1 := Z.each a ha
   have h2 := esc_len true _ a.value (Nat.le_refl _)
   unfold attrH
   simp only [List.length_append, List.length_cons, List.length_nil]
   omega
  simp only [List.length_append, List.length_cons, List.length_nil]
  omega
 refine Z9 Tryz.func133 (by kernel_rfl) hc133 (by rw [Tryz.ntmps133]; simp) (by rw [Tryz.ntmps133]; decide) ?_
 simp -dsimp -implicitDefEqProofs (disch := omega) only [↓Q0 50, ↓Q1 50, ↓Q0 59, ↓Q1 59, ↓Q0 64, ↓Q1 64, ↓Q0 70, ↓Q1 70, ↓Q0 85, ↓Q1 85, VCA, Z1, ↓Q3, Nat.reduceEqDiff, Nat.reduceBEq, Nat.reduceAdd, Nat.reduceSub, Nat.reduceMul, Nat.reduceLT, Nat.reduceLeDiff, ↓reduceIte, reduceCtorEq, Z7, Q6, SOp.rd, SI.rd, SX.rd, rdL, rdO, rdP, Q5, Q4, Q2, Q8, Q7, Z0, implies_true, forall_const, forall_eq, ne_eq, exists_eq_right_right, exists_eq_right, exists_eq_left, exists_eq_left', Q9, Z3, Z8, Z6, Z4, c133, hat]
 repeat' (first | ((with_reducible refine brC (fun _ => ?_) fun _ => ?_) <;> try (exfalso; omega)) | (with_reducible refine And.intro ?_ ?_; · omega) | simp -dsimp -implicitDefEqProofs (disch := omega) only [↓Q0 50, ↓Q1 50, ↓Q0 59, ↓Q1 59, ↓Q0 64, ↓Q1 64, ↓Q0 70, ↓Q1 70, ↓Q0 85, ↓Q1 85, VCA, Z1, ↓Q3, Nat.reduceEqDiff, Nat.reduceBEq, Nat.reduceAdd, Nat.reduceSub, Nat.reduceMul, Nat.reduceLT, Nat.reduceLeDiff, ↓reduceIte, reduceCtorEq, Z7, Q6, SOp.rd, SI.rd, SX.rd, rdL, rdO, rdP, Q5, Q4, Q2, Q8, Q7, Z0, implies_true, forall_const, forall_eq, ne_eq, exists_eq_right_right, exists_eq_right, exists_eq_left, exists_eq_left', Q9, Z3, Z8, Z6, Z4, hat, e0, Z5])
 intro r4 hr4
 have n4 : ¬ rb = r4 := fun e => by rw [<- e, hat] at hr4; cases hr4
 have n4' : ¬ r4 = rb := fun e => n4 e.symm
 have B4 := B.more hr4 ⟨101, 6, [Z5 x]⟩
 have hW := K4 (G := G) (60 :: x.name) B4 (by simp; omega)
 have h4 := B.free hr4
 repeat' (first | ((with_reducible refine brC (fun _ => ?_) fun _ => ?_) <;> try (exfalso; omega)) | (with_reducible refine And.intro ?_ ?_; · omega) | simp -dsimp -implicitDefEqProofs (disch := omega) only [↓Q0 50, ↓Q1 50, ↓Q0 59, ↓Q1 59, ↓Q0 64, ↓Q1 64, ↓Q0 70, ↓Q1 70, ↓Q0 85, ↓Q1 85, VCA, Z1, ↓Q3, Nat.reduceEqDiff, Nat.reduceBEq, Nat.reduceAdd, Nat.reduceSub, Nat.reduceMul, Nat.reduceLT, Nat.reduceLeDiff, ↓reduceIte, reduceCtorEq, Z7, Q6, SOp.rd, SI.rd, SX.rd, rdL, rdO, rdP, Q5, Q4, Q2, Q8, Q7, Z0, implies_true, forall_const, forall_eq, ne_eq, exists_eq_right_right, exists_eq_right, exists_eq_left, exists_eq_left', Q9, Z3, Z8, Z6, Z4, hat, e0, Z5, J5, n4, n4'])
 refine DCalls.of hW ?_
 rintro a h5 ⟨rfl, B5⟩
 have f4 := B5.has
 unfold Z5 at f4
 simp -dsimp -implicitDefEqProofs (disch := omega) only [↓Q0 50, ↓Q1 50, ↓Q0 59, ↓Q1 59, ↓Q0 64, ↓Q1 64, ↓Q0 70, ↓Q1 70, ↓Q0 85, ↓Q1 85, VCA, Z1, ↓Q3, Nat.reduceEqDiff, Nat.reduceBEq, Nat.reduceAdd, Nat.reduceSub, Nat.reduceMul, Nat.reduceLT, Nat.reduceLeDiff, ↓reduceIte, reduceCtorEq, Z7, Q6, SOp.rd, SI.rd, SX.rd, rdL, rdO, rdP, Q5, Q4, Q2, Q8, Q7, Z0, implies_true, forall_const, forall_eq, ne_eq, exists_eq_right_right, exists_eq_right, exists_eq_left, exists_eq_left', Q9, Z3, Z8, Z6, Z4, hat, e0, Z5, f4]
 refine LoopVC.intro (fun m e h' => ∃ k : Nat, k <= x.attrs.length /\ m = x.attrs.length - k /\ e 0 = .vp rb 0 /\ e 1 = Y0 n /\ e 4 = .vp r4 0 /\ e 23 = sl Z3 x.attrs /\ e 24 = Y0 x.attrs.length /\ e 25 = Y0 k /\
   WD d (upd h0 r4 (some ⟨.t 101, 6, [Z5 x]⟩)) rb (s ++ (60 :: x.name) ++ (x.attrs.take k).flatMap attrH) h') x.attrs.length
  ⟨0, by omega, by omega, rfl, rfl, rfl, rfl, rfl, rfl, by simpa using B5⟩ ?_
 rintro m e h' ⟨k, hk, rfl, e0', e1, e4, e23, e24, e25, B'⟩
 have f4' := B'.has
 unfold Z5 at f4'
 obtain ⟨p', buf', hat'⟩ := B'.at
 by_cases hlt : k < x.attrs.length
 ·obtain ⟨c, hcc⟩ : ∃ c, nth x.attrs k = c := ⟨_, rfl⟩
  have hm : c ∈ x.attrs := hcc ▸ X9 hlt
  have zc := Z.each c hm
  have ts : (x.attrs.take (k + 1)).flatMap attrH = (x.attrs.take k).flatMap attrH ++ attrH c := by
   rw [K7 hlt, List.flatMap_append, List.flatMap_cons, List.flatMap_nil, List.append_nil, hcc]
  have hE := escape_ok (G := G) hG c.value true (by omega)
  have hEl := esc_len true _ c.value (Nat.le_refl _)
  have hfl := flat_le (f := attrH) (k := 2500) (x.attrs.take k) fun a ha => by
   have h1 := Z.each a (List.mem_of_mem_take ha)
   have h2 := esc_len true _ a.value (Nat.le_refl _)
   unfold attrH
   simp only [List.length_append, List.length_cons, List.length_nil]
   omega
  rw [List.length_take] at hfl
  repeat' (first | ((with_reducible refine brC (fun _ => ?_) fun _ => ?_) <;> try (exfalso; omega)) | (with_reducible refine And.intro ?_ ?_; · omega) | simp -dsimp -implicitDefEqProofs (disch := omega) only [↓Q0 50, ↓Q1 50, ↓Q0 59, ↓Q1 59, ↓Q0 64, ↓Q1 64, ↓Q0 70, ↓Q1 70, ↓Q0 85, ↓Q1 85, VCA, Z1, ↓Q3, Nat.reduceEqDiff, Nat.reduceBEq, Nat.reduceAdd, Nat.reduceSub, Nat.reduceMul, Nat.reduceLT, Nat.reduceLeDiff, ↓reduceIte, reduceCtorEq, Z7, Q6, SOp.rd, SI.rd, SX.rd, rdL, rdO, rdP, Q5, Q4, Q2, Q8, Q7, Z0, implies_true, forall_const, forall_eq, ne_eq, exists_eq_right_right, exists_eq_right, exists_eq_left, exists_eq_left', Q9, Z3, Z8, Z6, Z4, e0', e1, e4, e23, e24, e25, hcc, Z3])
  intro r6 hr6
  have n6 : ¬ rb = r6 := fun q => by rw [<- q, hat'] at hr6; cases hr6
  have n6' : ¬ r6 = rb := fun q => n6 q.symm
  have B6 := B'.more hr6 ⟨69, 2, [Z3 c]⟩
  have h6 := B'.free hr6
  have hal : (attrH c).length <= 2500 := by
   unfold attrH
   simp only [List.length_append, List.length_cons, List.length_nil]
   omega
  have hW6 := K4 (G := G) (attrH c) B6 (by simp only [List.length_append, List.length_cons]; omega)
  have ea : attrH c = 32 :: (c.name ++ [61, 34]) ++ escD true c.value ++ [34] := by unfold attrH; simp
  rw [ea] at hW6
  repeat' (first | ((with_reducible refine brC (fun _ => ?_) fun _ => ?_) <;> try (exfalso; omega)) | (with_reducible apply pcallE.of; · exact hE) | (with_reducible refine And.intro ?_ ?_; · omega) | simp -dsimp -implicitDefEqProofs (disch := omega) only [↓Q0 50, ↓Q1 50, ↓Q0 59, ↓Q1 59, ↓Q0 64, ↓Q1 64, ↓Q0 70, ↓Q1 70, ↓Q0 85, ↓Q1 85, VCA, Z1, ↓Q3, Nat.reduceEqDiff, Nat.reduceBEq, Nat.reduceAdd, Nat.reduceSub, Nat.reduceMul, Nat.reduceLT, Nat.reduceLeDiff, ↓reduceIte, reduceCtorEq, Z7, Q6, SOp.rd, SI.rd, SX.rd, rdL, rdO, rdP, Q5, Q4, Q2, Q8, Q7, Z0, implies_true, forall_const, forall_eq, ne_eq, exists_eq_right_right, exists_eq_right, exists_eq_left, exists_eq_left', Q9, Z3, Z8, Z6, Z4, e0', e1, e4, e23, e24, e25, hcc, Z3, J5, n6, n6'])
  refine ⟨by simp only [List.length_append, List.length_cons, List.length_nil]; omega, by simp only [List.length_append, List.length_cons, List.length_nil]; omega, DCalls.of hW6 ?_⟩
  rintro a h7 ⟨rfl, B7⟩
  simp -dsimp -implicitDefEqProofs (disch := omega) only [↓Q0 50, ↓Q1 50, ↓Q0 59, ↓Q1 59, ↓Q0 64, ↓Q1 64, ↓Q0 70, ↓Q1 70, ↓Q0 85, ↓Q1 85, VCA, Z1, ↓Q3, Nat.reduceEqDiff, Nat.reduceBEq, Nat.reduceAdd, Nat.reduceSub, Nat.reduceMul, Nat.reduceLT, Nat.reduceLeDiff, ↓reduceIte, reduceCtorEq, Z7, Q6, SOp.rd, SI.rd, SX.rd, rdL, rdO, rdP, Q5, Q4, Q2, Q8, Q7, Z0, implies_true, forall_const, forall_eq, ne_eq, exists_eq_right_right, exists_eq_right, exists_eq_left, exists_eq_left', Q9, Z3, Z8, Z6, Z4, e0', e1, e4, e23, e24, e25]
  exact ⟨_, by omega, k + 1, by omega, rfl, by omega, by rw [ts, <- List.append_assoc, ea]; exact B7.less h6⟩
 ·obtain rfl : k = x.attrs.length := by omega
  rw [List.take_length] at B'
  repeat' (first | ((with_reducible refine brC (fun _ => ?_) fun _ => ?_) <;> try (exfalso; omega)) | (with_reducible refine And.intro ?_ ?_; · omega) | simp -dsimp -implicitDefEqProofs (disch := omega) only [↓Q0 50, ↓Q1 50, ↓Q0 59, ↓Q1 59, ↓Q0 64, ↓Q1 64, ↓Q0 70, ↓Q1 70, ↓Q0 85, ↓Q1 85, VCA, Z1, ↓Q3, Nat.reduceEqDiff, Nat.reduceBEq, Nat.reduceAdd, Nat.reduceSub, Nat.reduceMul, Nat.reduceLT, Nat.reduceLeDiff, ↓reduceIte, reduceCtorEq, Z7, Q6, SOp.rd, SI.rd, SX.rd, rdL, rdO, rdP, Q5, Q4, Q2, Q8, Q7, Z0, implies_true, forall_const, forall_eq, ne_eq, exists_eq_right_right, exists_eq_right, exists_eq_left, exists_eq_left', Q9, Z3, Z8, Z6, Z4, e0', e1, e4, e23, e24, e25])
  exact el_end hG d V n hn hx h2 ih h4 B' hs (by simpa [upd] using e0') (by simpa [upd] using e1) (by simpa [upd] using e4)
def hexS : List UInt8 := [48, 49, 50, 51, 52, 53, 54, 55, 56, 57, 97, 98, 99, 100, 101, 102]
theorem hex_hi (c : UInt8) : hexS.getD ((c.toNat : Int).fdiv (2 ^ min (4 : Int).toNat IntKind.u8.bits)).toNat 0 = hexD (c.toNat / 16) /\ 0 <= (c.toNat : Int).fdiv (2 ^ min (4 : Int).toNat IntKind.u8.bits) /\ (c.toNat : Int).fdiv (2 ^ min (4 : Int).toNat IntKind.u8.bits) < 16 :=
 of_decide_eq_true (u8_all (p := fun c => decide (hexS.getD ((c.toNat : Int).fdiv (2 ^ min (4 : Int).toNat IntKind.u8.bits)).toNat 0 = hexD (c.toNat / 16) /\ 0 <= (c.toNat : Int).fdiv (2 ^ min (4 : Int).toNat IntKind.u8.bits) /\ (c.toNat : Int).fdiv (2 ^ min (4 : Int).toNat IntKind.u8.bits) < 16)) (by decide +kernel) c)
theorem hex_lo (c : UInt8) : hexS.getD (bitF .and .u8 (c.toNat : Int) 15).toNat 0 = hexD (c.toNat % 16) /\ 0 <= bitF .and .u8 (c.toNat : Int) 15 /\ bitF .and .u8 (c.toNat : Int) 15 < 16 :=
 of_decide_eq_true (u8_all (p := fun c => decide (hexS.getD (bitF .and .u8 (c.toNat : Int) 15).toNat 0 = hexD (c.toNat % 16) /\ 0 <= bitF .and .u8 (c.toNat : Int) 15 /\ bitF .and .u8 (c.toNat : Int) 15 < 16)) (by decide +kernel) c)
theorem strEs_app (a b : List UInt8) : Y5 (a ++ b) = Y5 a ++ Y5 b := by simp [Y5]
theorem plain_iff (c : UInt8) : plainB c = true ↔ ¬ ((c.toNat : Int) < 32 \/ 126 < (c.toNat : Int) \/ (c.toNat : Int) = 34 \/ (c.toNat : Int) = 92) := by
 have := u8_all (p := fun c => decide (plainB c = true ↔ ¬ ((c.toNat : Int) < 32 \/ 126 < (c.toNat : Int) \/ (c.toNat : Int) = 34 \/ (c.toNat : Int) = 92))) (by decide +kernel) c
 exact of_decide_eq_true this
def c233 : SFun := ⟨.seq (.reg [o 2 (.mv (.c (.str [])))]) (.seq (.reg [o 6 (.bldR 5 1 [.c (.int .u8 34)]), o 3 (.mv (.t 6))]) (.seq (.seq (.reg [o 7 (.mv (.t 0)), o 8 (.lenS (.t 7)), o 9 (.mv (.c (.int .i64 0)))]) (.block 0 (.loop (.seq (.reg [o 10 (.bin .lss (.t 9) (.t 8))]) (.seq (.cond (.t 10) .skip (.exit 0)) (.seq (.block 1 (.seq (.reg [o 11 (.mv (.t 9)), o 4 (.mv (.t 11))]) (.seq (.reg [o 12 (.mv (.t 0)), o 13 (.mv (.t 4)), o 14 (.idxS (.t 12) (.t 13)), o 5 (.mv (.t 14))]) (.seq (.reg [o 15 (.mv (.t 5)), o 16 (.bin .lss (.t 15) (.c (.int .u8 32))), o 17 (.mv (.t 16)), ⟨some 18, .mv (.t 5), some (17, false)⟩, ⟨some 19, .bin .gtr (.t 18) (.c (.int .u8 126)), some (17, false)⟩, o 20 (.pick (.t 17) (.c (.bool true)) (.t 19)), o 21 (.mv (.t 20)), ⟨some 22, .mv (.t 5), some (21, false)⟩, ⟨some 23, .bin .eql (.t 22) (.c (.int .u8 34)), some (21, false)⟩, o 24 (.pick (.t 21) (.c (.bool true)) (.t 23)), o 25 (.mv (.t 24)), ⟨some 26, .mv (.t 5), some (25, false)⟩, ⟨some 27, .bin .eql (.t 26) (.c (.int .u8 92)), some (25, false)⟩, o 28 (.pick (.t 25) (.c (.bool true)) (.t 27))]) (.cond (.t 28) (.dreg [(o 29 (.mv (.t 3)), none), (o 30 (.mv (.t 5)), none), (o 31 (.bin .shr (.t 30) (.c (.int .u64 4))), none), (o 32 (.idxS (.c (.str [48, 49, 50, 51, 52, 53, 54, 55, 56, 57, 97, 98, 99, 100, 101, 102])) (.t 31)), none), (o 33 (.mv (.t 5)), none), (o 34 (.bin .and (.t 33) (.c (.int .u8 15))), none), (o 35 (.idxS (.c (.str [48, 49, 50, 51, 52, 53, 54, 55, 56, 57, 97, 98, 99, 100, 101, 102])) (.t 34)), none), (o 36 (.bldF 5 1 [.c (.int .u8 92), .t 32, .t 35]), none), (o 37 (.app 5 1 1 (.t 29) (.t 36)), (some [])), (o 3 (.mv (.t 37)), (some []))]) (.reg [o 38 (.mv (.t 3)), o 39 (.mv (.t 5)), o 40 (.bldF 5 1 [.t 39]), o 41 (.app 5 1 1 (.t 38) (.t 40)), o 3 (.mv (.t 41))])))))) (.reg [o 42 (.bin .add (.t 9) (.c (.int .i64 1))), o 9 (.mv (.t 42))]))))))) (.seq (.reg [o 43 (.mv (.t 3)), o 44 (.bldF 5 1 [.c (.int .u8 34)]), o 45 (.app 5 1 1 (.t 43) (.t 44)), o 46 (.b2s (.t 45)), o 2 (.mv (.t 46))]) .ret))), [.tmp 2]⟩
theorem hc233 : X8 Tryz.prog {how := [(6, 2)]} Tryz.f233 = some c233 := by kernel_rfl
theorem quoted_ok (s : List UInt8) (hs : s.length <= 1073741824) : PCalls (Pg G) 233 [.str s] (.str (K8 s)) := fun h => by
 refine Z9 Tryz.func233 (by kernel_rfl) hc233 (by rw [Tryz.ntmps233]; simp) (by rw [Tryz.ntmps233]; decide) ?_
 simp -dsimp -implicitDefEqProofs (disch := omega) only [↓Q0 17, ↓Q1 17, ↓Q0 21, ↓Q1 21, ↓Q0 25, ↓Q1 25, VCA, Z1, ↓Q3, Nat.reduceEqDiff, Nat.reduceBEq, Nat.reduceAdd, Nat.reduceSub, Nat.reduceMul, Nat.reduceLT, Nat.reduceLeDiff, ↓reduceIte, reduceCtorEq, Z7, Q6, SOp.rd, SI.rd, SX.rd, rdL, rdO, rdP, Q5, Q4, Q2, Q8, Q7, Z0, implies_true, forall_const, forall_eq, ne_eq, exists_eq_right_right, exists_eq_right, exists_eq_left, exists_eq_left', Q9, Z3, Z8, Z6, Z4, c233]
 intro r hr
 refine LoopVC.intro (fun m e h' => ∃ (k : Nat) (a : AVal), k <= s.length /\ m = s.length - k /\ e 0 = .str s /\ e 8 = Y0 s.length /\ e 9 = Y0 k /\ e 3 = a /\ Acc h 5 1 (Y5 (34 :: (s.take k).flatMap quoB)) a h' /\ Sub h h') s.length
  ⟨0, _, by omega, by omega, rfl, rfl, rfl, rfl, .inr ⟨r, hr, J5 _ _ _, rfl⟩, (Sub.refl _).upd hr⟩ ?_
 rintro m e h' ⟨k, a, hk, rfl, e0, e8, e9, e3, A, S⟩
 have bl : (Y5 (34 :: (s.take k).flatMap quoB)).length <= 3 * k + 1 := by
  have h1 := flat_le (f := quoB) (k := 3) (s.take k) fun b _ => by unfold quoB; split <;> simp
  rw [List.length_take] at h1
  simp [Y5]; simp at h1; omega
 by_cases hlt : k < s.length
 ·obtain ⟨c, hc⟩ : ∃ c, s.getD k 0 = c := ⟨_, rfl⟩
  have ts : (s.take (k + 1)).flatMap quoB = (s.take k).flatMap quoB ++ quoB c := by
   rw [K7 hlt, List.flatMap_append, List.flatMap_cons, List.flatMap_nil, List.append_nil]
   have : nth s k = c := hc
   rw [this]
  have fin : ∀ a' h3, Acc h 5 1 (Y5 (34 :: (s.take k).flatMap quoB) ++ Y5 (quoB c)) a' h3 -> Sub h h3 -> ∃ m', m' < s.length - k /\ ∃ (k' : Nat) (a'' : AVal), k' <= s.length /\ m' = s.length - k' /\ AVal.str s = .str s /\ Y0 s.length = Y0 s.length /\ Y0 ((k : Int) + 1) = Y0 k' /\ a' = a'' /\ Acc h 5 1 (Y5 (34 :: (s.take k').flatMap quoB)) a'' h3 /\ Sub h h3 := fun a' h3 A' S' =>
   ⟨_, by omega, k + 1, a', by omega, rfl, rfl, rfl, rfl, rfl, by rw [ts, show (34 :: ((s.take k).flatMap quoB ++ quoB c)) = (34 :: (s.take k).flatMap quoB) ++ quoB c from rfl, strEs_app]; exact A', S'⟩
  have hp := plain_iff c
  have h1 := hex_hi c
  have h2 := hex_lo c
  unfold hexS at h1 h2
  cases hq : plainB c with
  | true =>
   have hp := hp.1 hq
   rw [show quoB c = [c] from if_pos hq] at fin
   repeat' (first | ((with_reducible refine brC (fun _ => ?_) fun _ => ?_) <;> try (exfalso; omega)) | ((refine A.app S (by simp [Y5] at bl ⊢; omega) (by simp [Y5] at bl ⊢; omega) (fun a' h3 A' S' => ?_))) | (with_reducible refine And.intro ?_ ?_; · omega) | simp -dsimp -implicitDefEqProofs (disch := omega) only [↓Q0 17, ↓Q1 17, ↓Q0 21, ↓Q1 21, ↓Q0 25, ↓Q1 25, VCA, Z1, ↓Q3, Nat.reduceEqDiff, Nat.reduceBEq, Nat.reduceAdd, Nat.reduceSub, Nat.reduceMul, Nat.reduceLT, Nat.reduceLeDiff, ↓reduceIte, reduceCtorEq, Z7, Q6, SOp.rd, SI.rd, SX.rd, rdL, rdO, rdP, Q5, Q4, Q2, Q8, Q7, Z0, implies_true, forall_const, forall_eq, ne_eq, exists_eq_right_right, exists_eq_right, exists_eq_left, exists_eq_left', Q9, Z3, Z8, Z6, Z4, e0, e8, e9, e3, hc])
   obtain ⟨m', q1, k', a'', q2, q3, _, _, q4, q5, q6, q7⟩ := fin a' h3 A' S'
   exact ⟨m', q1, k', a'', q2, q3, by injection q4, q5, q6, q7⟩
  | false =>
   have hp' : (c.toNat : Int) < 32 \/ 126 < (c.toNat : Int) \/ (c.toNat : Int) = 34 \/ (c.toNat : Int) = 92 := Classical.byContradiction fun hh => by rw [hp.2 hh] at hq; cases hq
   rw [show quoB c = [92, hexD (c.toNat / 16), hexD (c.toNat % 16)] from if_neg (by rw [hq]; simp)] at fin
   repeat' (first | ((with_reducible refine brC (fun _ => ?_) fun _ => ?_) <;> try (exfalso; omega)) | (with_reducible refine And.intro ?_ ?_; · omega) | simp -dsimp -implicitDefEqProofs (disch := omega) only [↓Q0 17, ↓Q1 17, ↓Q0 21, ↓Q1 21, ↓Q0 25, ↓Q1 25, VCA, Z1, ↓Q3, Nat.reduceEqDiff, Nat.reduceBEq, Nat.reduceAdd, Nat.reduceSub, Nat.reduceMul, Nat.reduceLT, Nat.reduceLeDiff, ↓reduceIte, reduceCtorEq, Z7, Q6, SOp.rd, SI.rd, SX.rd, rdL, rdO, rdP, Q5, Q4, Q2, Q8, Q7, Z0, implies_true, forall_const, forall_eq, ne_eq, exists_eq_right_right, exists_eq_right, exists_eq_left, exists_eq_left', Q9, Z3, Z8, Z6, Z4, e0, e8, e9, e3, hc, h1.1, h2.1])
   all_goals refine ⟨_, ⟨rfl, (by rintro e (rfl | rfl | rfl) <;> rfl)⟩, A.app S (by simp [Y5] at bl ⊢; omega) (by simp [Y5] at bl ⊢; omega) (fun a' h3 A' S' => ?_)⟩
   all_goals simp -dsimp -implicitDefEqProofs (disch := omega) only [↓Q0 17, ↓Q1 17, ↓Q0 21, ↓Q1 21, ↓Q0 25, ↓Q1 25, VCA, Z1, ↓Q3, Nat.reduceEqDiff, Nat.reduceBEq, Nat.reduceAdd, Nat.reduceSub, Nat.reduceMul, Nat.reduceLT, Nat.reduceLeDiff, ↓reduceIte, reduceCtorEq, Z7, Q6, SOp.rd, SI.rd, SX.rd, rdL, rdO, rdP, Q5, Q4, Q2, Q8, Q7, Z0, implies_true, forall_const, forall_eq, ne_eq, exists_eq_right_right, exists_eq_right, exists_eq_left, exists_eq_left', Q9, Z3, Z8, Z6, Z4, e0, e8, e9, e3, hc]
   all_goals obtain ⟨m', q1, k', a'', q2, q3, _, _, q4, q5, q6, q7⟩ := fin a' h3 A' S'
   all_goals exact ⟨m', q1, k', a'', q2, q3, by injection q4, q5, q6, q7⟩
 ·obtain rfl : k = s.length := by omega
  repeat' (first | ((with_reducible refine brC (fun _ => ?_) fun _ => ?_) <;> try (exfalso; omega)) | ((refine A.app S (by simp [Y5] at bl ⊢; omega) (by simp [Y5] at bl ⊢; omega) (fun a' h3 A' S' => ?_))) | (with_reducible refine And.intro ?_ ?_; · omega) | simp -dsimp -implicitDefEqProofs (disch := omega) only [↓Q0 17, ↓Q1 17, ↓Q0 21, ↓Q1 21, ↓Q0 25, ↓Q1 25, VCA, Z1, ↓Q3, Nat.reduceEqDiff, Nat.reduceBEq, Nat.reduceAdd, Nat.reduceSub, Nat.reduceMul, Nat.reduceLT, Nat.reduceLeDiff, ↓reduceIte, reduceCtorEq, Z7, Q6, SOp.rd, SI.rd, SX.rd, rdL, rdO, rdP, Q5, Q4, Q2, Q8, Q7, Z0, implies_true, forall_const, forall_eq, ne_eq, exists_eq_right_right, exists_eq_right, exists_eq_left, exists_eq_left', Q9, Z3, Z8, Z6, Z4, e0, e8, e9, e3])
  obtain ⟨r', g0, g1, rfl⟩ := A'.pos (by simp)
  refine ⟨⟨rfl, _, g1, by simp, ?_⟩, S'⟩
  simp only [List.take_length, List.drop_zero]
  simp [Y5, K8]
def c191 : SFun := ⟨.seq (.reg [o 1 (.boxF 101 6 (.t 0)), o 2 (.mv (.c (.str [])))]) (.seq (.seq (.reg [o 6 (.fldA 0 (.t 1)), o 7 (.ld 1 false (.t 6))]) (.block 0 (.seq (.reg [o 9 (.bin .eql (.t 7) (.c (.int .i64 5))), o 8 (.mv (.t 9))]) (.cond (.t 8) (.seq (.reg [o 10 (.fldA 1 (.t 1)), o 11 (.ld 1 false (.t 10)), o 12 (.pcall 233 [.t 11]), o 13 (.bin .add (.c (.str [33])) (.t 12)), o 2 (.mv (.t 13))]) .ret) (.seq (.reg [o 15 (.bin .eql (.t 7) (.c (.int .i64 3))), o 14 (.mv (.t 15))]) (.cond (.t 14) (.seq (.reg [o 16 (.fldA 3 (.t 1)), o 17 (.ld 1 false (.t 16)), o 18 (.pcall 233 [.t 17]), o 2 (.mv (.t 18))]) .ret) (.seq (.reg [o 20 (.bin .eql (.t 7) (.c (.int .i64 4))), o 19 (.mv (.t 20))]) (.cond (.t 19) (.seq (.reg [o 21 (.fldA 3 (.t 1)), o 22 (.ld 1 false (.t 21)), o 23 (.pcall 233 [.t 22]), o 24 (.bin .add (.c (.str [45])) (.t 23)), o 2 (.mv (.t 24))]) .ret) .skip)))))))) (.seq (.reg [o 25 (.fldA 1 (.t 1)), o 26 (.ld 1 false (.t 25)), o 3 (.mv (.t 26))]) (.seq (.seq (.reg [o 27 (.fldA 2 (.t 1)), o 28 (.ld 1 false (.t 27)), o 29 (.len (.t 28)), o 30 (.mv (.c (.int .i64 0)))]) (.block 1 (.loop (.seq (.reg [o 31 (.bin .lss (.t 30) (.t 29))]) (.seq (.cond (.t 31) .skip (.exit 1)) (.seq (.block 2 (.seq (.reg [o 32 (.idxA 2 (.t 28) (.t 30)), o 33 (.ld 2 true (.t 32)), o 5 (.new 69 2 [.str [], .str []]), ⟨none, .st 2 (.t 5) (.t 33), none⟩]) (.dreg [(o 34 (.mv (.t 3)), none), (o 35 (.fldA 0 (.t 5)), none), (o 36 (.ld 1 false (.t 35)), none), (o 37 (.bin .add (.c (.str [32])) (.t 36)), none), (o 38 (.bin .add (.t 37) (.c (.str [61]))), none), (o 39 (.fldA 1 (.t 5)), none), (o 40 (.ld 1 false (.t 39)), none), (o 41 (.pcall 233 [.t 40]), none), (o 42 (.bin .add (.t 38) (.t 41)), none), (o 43 (.bin .add (.t 34) (.t 42)), none), (o 3 (.mv (.t 43)), (some [36, 40]))]))) (.reg [o 44 (.bin .add (.t 30) (.c (.int .i64 1))), o 30 (.mv (.t 44))]))))))) (.seq (.reg [o 45 (.mv (.t 3)), o 2 (.mv (.t 45))]) .ret)))), [.tmp 2]⟩
theorem hc191 : X8 Tryz.prog {pure := [233]} Tryz.f191 = some c191 := by kernel_rfl
theorem hn191 : (Tryz.f191.name == "runtime.NumGoroutine") = false := by kernel_rfl
theorem line_ok (x : HNode) (Z : NodeSz x) : PCalls (Pg G) 191 [.agg (Z5 x)] (.str (lineM x)) := fun h => by
 have hq : ∀ s : List UInt8, s.length <= 400 -> PCalls (Pg G) 233 [.str s] (.str (K8 s)) := fun s hs => quoted_ok s (by omega)
 have zn := hq _ Z.name
 have zt := hq _ Z.text
 have za := Z.attrs
 have z1 := Z.name
 have z2 := Z.text
 have z3 := quote_len x.name
 have z4 := quote_len x.text
 unfold lineM
 by_cases h5 : x.kind = 5
 ·rw [if_pos h5]
  refine Z9 Tryz.func191 hn191 hc191 (by rw [Tryz.ntmps191]; simp) (by rw [Tryz.ntmps191]; decide) ?_
  simp -dsimp -implicitDefEqProofs (disch := omega) only [VCA, Z1, ↓Q3, Nat.reduceEqDiff, Nat.reduceBEq, Nat.reduceAdd, Nat.reduceSub, Nat.reduceMul, Nat.reduceLT, Nat.reduceLeDiff, ↓reduceIte, reduceCtorEq, Z7, Q6, SOp.rd, SI.rd, SX.rd, rdL, rdO, rdP, Q5, Q4, Q2, Q8, Q7, Z0, implies_true, forall_const, forall_eq, ne_eq, exists_eq_right_right, exists_eq_right, exists_eq_left, exists_eq_left', Q9, Z3, Z8, Z6, Z4, c191, Z5]
  repeat' (first | ((with_reducible refine brC (fun _ => ?_) fun _ => ?_) <;> try (exfalso; omega)) | (with_reducible apply pcallE.of; · exact zn) | (with_reducible refine And.intro ?_ ?_; · omega) | simp -dsimp -implicitDefEqProofs (disch := omega) only [VCA, Z1, ↓Q3, Nat.reduceEqDiff, Nat.reduceBEq, Nat.reduceAdd, Nat.reduceSub, Nat.reduceMul, Nat.reduceLT, Nat.reduceLeDiff, ↓reduceIte, reduceCtorEq, Z7, Q6, SOp.rd, SI.rd, SX.rd, rdL, rdO, rdP, Q5, Q4, Q2, Q8, Q7, Z0, implies_true, forall_const, forall_eq, ne_eq, exists_eq_right_right, exists_eq_right, exists_eq_left, exists_eq_left', Q9, Z3, Z8, Z6, Z4, Z5, h5])
  all_goals first | exact Sub.refl _ | exact ⟨by omega, Sub.refl _⟩
 rw [if_neg h5]
 by_cases h3 : x.kind = 3
 ·rw [if_pos h3]
  refine Z9 Tryz.func191 hn191 hc191 (by rw [Tryz.ntmps191]; simp) (by rw [Tryz.ntmps191]; decide) ?_
  simp -dsimp -implicitDefEqProofs (disch := omega) only [VCA, Z1, ↓Q3, Nat.reduceEqDiff, Nat.reduceBEq, Nat.reduceAdd, Nat.reduceSub, Nat.reduceMul, Nat.reduceLT, Nat.reduceLeDiff, ↓reduceIte, reduceCtorEq, Z7, Q6, SOp.rd, SI.rd, SX.rd, rdL, rdO, rdP, Q5, Q4, Q2, Q8, Q7, Z0, implies_true, forall_const, forall_eq, ne_eq, exists_eq_right_right, exists_eq_right, exists_eq_left, exists_eq_left', Q9, Z3, Z8, Z6, Z4, c191, Z5]
  repeat' (first | ((with_reducible refine brC (fun _ => ?_) fun _ => ?_) <;> try (exfalso; omega)) | (with_reducible apply pcallE.of; · exact zt) | (with_reducible refine And.intro ?_ ?_; · omega) | simp -dsimp -implicitDefEqProofs (disch := omega) only [VCA, Z1, ↓Q3, Nat.reduceEqDiff, Nat.reduceBEq, Nat.reduceAdd, Nat.reduceSub, Nat.reduceMul, Nat.reduceLT, Nat.reduceLeDiff, ↓reduceIte, reduceCtorEq, Z7, Q6, SOp.rd, SI.rd, SX.rd, rdL, rdO, rdP, Q5, Q4, Q2, Q8, Q7, Z0, implies_true, forall_const, forall_eq, ne_eq, exists_eq_right_right, exists_eq_right, exists_eq_left, exists_eq_left', Q9, Z3, Z8, Z6, Z4, Z5, h3])
  all_goals first | exact Sub.refl _ | exact ⟨by omega, Sub.refl _⟩
 rw [if_neg h3]
 by_cases h4 : x.kind = 4
 ·rw [if_pos h4]
  refine Z9 Tryz.func191 hn191 hc191 (by rw [Tryz.ntmps191]; simp) (by rw [Tryz.ntmps191]; decide) ?_
  simp -dsimp -implicitDefEqProofs (disch := omega) only [VCA, Z1, ↓Q3, Nat.reduceEqDiff, Nat.reduceBEq, Nat.reduceAdd, Nat.reduceSub, Nat.reduceMul, Nat.reduceLT, Nat.reduceLeDiff, ↓reduceIte, reduceCtorEq, Z7, Q6, SOp.rd, SI.rd, SX.rd, rdL, rdO, rdP, Q5, Q4, Q2, Q8, Q7, Z0, implies_true, forall_const, forall_eq, ne_eq, exists_eq_right_right, exists_eq_right, exists_eq_left, exists_eq_left', Q9, Z3, Z8, Z6, Z4, c191, Z5]
  repeat' (first | ((with_reducible refine brC (fun _ => ?_) fun _ => ?_) <;> try (exfalso; omega)) | (with_reducible apply pcallE.of; · exact zt) | (with_reducible refine And.intro ?_ ?_; · omega) | simp -dsimp -implicitDefEqProofs (disch := omega) only [VCA, Z1, ↓Q3, Nat.reduceEqDiff, Nat.reduceBEq, Nat.reduceAdd, Nat.reduceSub, Nat.reduceMul, Nat.reduceLT, Nat.reduceLeDiff, ↓reduceIte, reduceCtorEq, Z7, Q6, SOp.rd, SI.rd, SX.rd, rdL, rdO, rdP, Q5, Q4, Q2, Q8, Q7, Z0, implies_true, forall_const, forall_eq, ne_eq, exists_eq_right_right, exists_eq_right, exists_eq_left, exists_eq_left', Q9, Z3, Z8, Z6, Z4, Z5, h4])
  all_goals first | exact Sub.refl _ | exact ⟨by omega, Sub.refl _⟩
 rw [if_neg h4]
 have b5 : (x.kind == 5) = false := by simpa using h5
 have b3 : (x.kind == 3) = false := by simpa using h3
 have b4 : (x.kind == 4) = false := by simpa using h4
 refine Z9 Tryz.func191 hn191 hc191 (by rw [Tryz.ntmps191]; simp) (by rw [Tryz.ntmps191]; decide) ?_
 simp -dsimp -implicitDefEqProofs (disch := omega) only [VCA, Z1, ↓Q3, Nat.reduceEqDiff, Nat.reduceBEq, Nat.reduceAdd, Nat.reduceSub, Nat.reduceMul, Nat.reduceLT, Nat.reduceLeDiff, ↓reduceIte, reduceCtorEq, Z7, Q6, SOp.rd, SI.rd, SX.rd, rdL, rdO, rdP, Q5, Q4, Q2, Q8, Q7, Z0, implies_true, forall_const, forall_eq, ne_eq, exists_eq_right_right, exists_eq_right, exists_eq_left, exists_eq_left', Q9, Z3, Z8, Z6, Z4, c191, Z5]
 repeat' (first | ((with_reducible refine brC (fun _ => ?_) fun _ => ?_) <;> try (exfalso; omega)) | (with_reducible refine And.intro ?_ ?_; · omega) | simp -dsimp -implicitDefEqProofs (disch := omega) only [VCA, Z1, ↓Q3, Nat.reduceEqDiff, Nat.reduceBEq, Nat.reduceAdd, Nat.reduceSub, Nat.reduceMul, Nat.reduceLT, Nat.reduceLeDiff, ↓reduceIte, reduceCtorEq, Z7, Q6, SOp.rd, SI.rd, SX.rd, rdL, rdO, rdP, Q5, Q4, Q2, Q8, Q7, Z0, implies_true, forall_const, forall_eq, ne_eq, exists_eq_right_right, exists_eq_right, exists_eq_left, exists_eq_left', Q9, Z3, Z8, Z6, Z4, Z5, b5, b3, b4])
 refine LoopVC.intro (fun m e h' => ∃ k : Nat, k <= x.attrs.length /\ m = x.attrs.length - k /\ e 28 = sl Z3 x.attrs /\ e 29 = Y0 x.attrs.length /\ e 30 = Y0 k /\ e 3 = .str (x.name ++ (x.attrs.take k).flatMap attrL) /\ Sub h h') x.attrs.length
  ⟨0, by omega, by omega, rfl, rfl, rfl, by simp; rfl, Sub.refl _⟩ ?_
 rintro m e h' ⟨k, hk, rfl, e28, e29, e30, e3, S⟩
 by_cases hlt : k < x.attrs.length
 ·obtain ⟨a, ha⟩ : ∃ a, nth x.attrs k = a := ⟨_, rfl⟩
  have hz := Z.each a (ha ▸ X9 hlt)
  have zv := hq a.value hz.2.1
  have ts : (x.attrs.take (k + 1)).flatMap attrL = (x.attrs.take k).flatMap attrL ++ attrL a := by
   rw [K7 hlt, List.flatMap_append, List.flatMap_cons, List.flatMap_nil, List.append_nil, ha]
  have q5 := quote_len a.value
  have q6 := flat_le (f := attrL) (k := 1300) (x.attrs.take k) fun a ha => by
   have h1 := Z.each a (List.mem_of_mem_take ha)
   have h2 := quote_len a.value
   unfold attrL
   simp only [List.length_append, List.length_cons, List.length_nil]; omega
  rw [List.length_take] at q6
  repeat' (first | ((with_reducible refine brC (fun _ => ?_) fun _ => ?_) <;> try (exfalso; omega)) | (with_reducible refine And.intro ?_ ?_; · omega) | simp -dsimp -implicitDefEqProofs (disch := omega) only [VCA, Z1, ↓Q3, Nat.reduceEqDiff, Nat.reduceBEq, Nat.reduceAdd, Nat.reduceSub, Nat.reduceMul, Nat.reduceLT, Nat.reduceLeDiff, ↓reduceIte, reduceCtorEq, Z7, Q6, SOp.rd, SI.rd, SX.rd, rdL, rdO, rdP, Q5, Q4, Q2, Q8, Q7, Z0, implies_true, forall_const, forall_eq, ne_eq, exists_eq_right_right, exists_eq_right, exists_eq_left, exists_eq_left', Q9, Z3, Z8, Z6, Z4, e28, e29, e30, e3, ha, Z3])
  intro r hr
  have n1 : ∀ o, upd h' r o r = o := fun o => J5 _ _ _
  repeat' (first | ((with_reducible refine brC (fun _ => ?_) fun _ => ?_) <;> try (exfalso; omega)) | (with_reducible apply pcallE.of; · exact zv) | (with_reducible refine And.intro ?_ ?_; · omega) | simp -dsimp -implicitDefEqProofs (disch := omega) only [VCA, Z1, ↓Q3, Nat.reduceEqDiff, Nat.reduceBEq, Nat.reduceAdd, Nat.reduceSub, Nat.reduceMul, Nat.reduceLT, Nat.reduceLeDiff, ↓reduceIte, reduceCtorEq, Z7, Q6, SOp.rd, SI.rd, SX.rd, rdL, rdO, rdP, Q5, Q4, Q2, Q8, Q7, Z0, implies_true, forall_const, forall_eq, ne_eq, exists_eq_right_right, exists_eq_right, exists_eq_left, exists_eq_left', Q9, Z3, Z8, Z6, Z4, e28, e29, e30, e3, ha, Z3, J5])
  refine ⟨by simp only [List.length_append, List.length_cons, List.length_nil]; omega, by simp only [List.length_append, List.length_cons, List.length_nil]; omega, _, by omega, k + 1, by omega, rfl, by omega, ?_, S.upd (S.none hr)⟩
  rw [ts]
  unfold attrL
  simp
 ·obtain rfl : k = x.attrs.length := by omega
  repeat' (first | ((with_reducible refine brC (fun _ => ?_) fun _ => ?_) <;> try (exfalso; omega)) | (with_reducible refine And.intro ?_ ?_; · omega) | simp -dsimp -implicitDefEqProofs (disch := omega) only [VCA, Z1, ↓Q3, Nat.reduceEqDiff, Nat.reduceBEq, Nat.reduceAdd, Nat.reduceSub, Nat.reduceMul, Nat.reduceLT, Nat.reduceLeDiff, ↓reduceIte, reduceCtorEq, Z7, Q6, SOp.rd, SI.rd, SX.rd, rdL, rdO, rdP, Q5, Q4, Q2, Q8, Q7, Z0, implies_true, forall_const, forall_eq, ne_eq, exists_eq_right_right, exists_eq_right, exists_eq_left, exists_eq_left', Q9, Z3, Z8, Z6, Z4, e28, e29, e30, e3, Z3])
  exact S
def c58 : SFun := ⟨.seq (.reg [o 5 (.mv (.t 0)), o 6 (.fldA 0 (.t 5)), o 7 (.fldA 2 (.t 6)), o 8 (.fldA 0 (.t 7)), o 9 (.ld 1 false (.t 8)), o 10 (.mv (.t 1)), o 11 (.idxA 6 (.t 9) (.t 10)), o 12 (.ld 6 true (.t 11)), o 4 (.new 101 6 [.int .i64 0, .str [], .emp, .str [], .int .i64 0, .emp]), ⟨none, .st 6 (.t 4) (.t 12), none⟩]) (.seq (.reg [o 13 (.fldA 0 (.t 4)), o 14 (.ld 1 false (.t 13))]) (.block 0 (.seq (.reg [o 19 (.bin .eql (.t 14) (.c (.int .i64 1))), o 18 (.mv (.t 19))]) (.cond (.t 18) (.reg [o 20 (.mv (.t 0)), o 21 (.mv (.t 1)), o 22 (.call (.c (.fn 131 [] [])) [.t 20, .t 21])]) (.seq (.reg [o 24 (.bin .eql (.t 14) (.c (.int .i64 5))), o 23 (.mv (.t 24))]) (.cond (.t 23) (.dreg [(o 25 (.mv (.t 0)), none), (o 26 (.fldA 0 (.t 25)), none), (o 27 (.fldA 0 (.t 26)), none), (o 28 (.fldA 1 (.t 4)), none), (o 29 (.ld 1 false (.t 28)), none), (o 30 (.bin .add (.c (.str [60, 33, 68, 79, 67, 84, 89, 80, 69, 32])) (.t 29)), none), (o 31 (.bin .add (.t 30) (.c (.str [62]))), none), (o 32 (.call (.c (.fn 51 [] [])) [.t 27, .t 31]), (some [29]))]) (.seq (.reg [o 34 (.bin .eql (.t 14) (.c (.int .i64 4))), o 33 (.mv (.t 34))]) (.cond (.t 33) (.dreg [(o 35 (.mv (.t 0)), none), (o 36 (.fldA 0 (.t 35)), none), (o 37 (.fldA 0 (.t 36)), none), (o 38 (.fldA 3 (.t 4)), none), (o 39 (.ld 1 false (.t 38)), none), (o 40 (.bin .add (.c (.str [60, 33, 45, 45])) (.t 39)), none), (o 41 (.bin .add (.t 40) (.c (.str [45, 45, 62]))), none), (o 42 (.call (.c (.fn 51 [] [])) [.t 37, .t 41]), (some [39]))]) (.seq (.reg [o 44 (.bin .eql (.t 14) (.c (.int .i64 3))), o 43 (.mv (.t 44))]) (.cond (.t 43) (.reg [o 45 (.mv (.t 0)), o 46 (.ld 6 true (.t 4)), o 47 (.call (.c (.fn 132 [] [])) [.t 45, .t 46])]) (.reg [o 15 (.mv (.t 0)), o 16 (.mv (.t 1)), o 17 (.call (.c (.fn 133 [] [])) [.t 15, .t 16])]))))))))))), []⟩
theorem hc58 : X8 Tryz.prog {} Tryz.f58 = some c58 := by kernel_rfl
theorem hn58 : (Tryz.f58.name == "runtime.NumGoroutine") = false := by kernel_rfl
theorem wnode_ok (hG : MaxOK G) (d : HDoc) (V : DV d) : ∀ n, inD d n -> NodeC G d n := V.down fun n hn ih h0 h rb s B hs => by
 obtain ⟨p, buf, hat⟩ := B.at
 have i0 := hn.1
 have i1 := hn.2
 have e0 : nth d.nodes n.toNat = nd d n := rfl
 have Z := nodeE_sz (V.node n hn)
 have he := html_eq V hn
 have hk1 := V.kind n hn
 have hE := fun (h2 : (nd d n).kind = 2) (h0 h : J1) (rb : Nat) (s : List UInt8) (B : WD d h0 rb s h) => welement_ok (G := G) hG d V n hn h2 ih B
 have hK := fun (h0 h : J1) (rb : Nat) (s : List UInt8) (B : WD d h0 rb s h) => wkids_ok (G := G) d V n hn ih B
 obtain ⟨x, hx⟩ : ∃ x, nd d n = x := ⟨_, rfl⟩
 rw [hx] at e0 Z he hk1 hE hK
 have z1 := Z.name
 have z2 := Z.text
 have hzk := Z.kind
 unfold htG at he
 have n4 : ∀ r4, h r4 = none -> ¬ rb = r4 /\ ¬ r4 = rb := fun r4 hr4 => ⟨(fun e => by rw [<- e, hat] at hr4; cases hr4), (fun e => by rw [e, hat] at hr4; cases hr4)⟩
 by_cases h1 : x.kind = 1
 ·have b1 : (x.kind == 1) = true := by simpa using h1
  rw [if_pos h1] at he
  rw [he] at hs ⊢
  have hn0 := hk1.1 h1
  refine Z9 Tryz.func58 hn58 hc58 (by rw [Tryz.ntmps58]; simp) (by rw [Tryz.ntmps58]; decide) ?_
  simp -dsimp -implicitDefEqProofs (disch := omega) only [VCA, Z1, ↓Q3, Nat.reduceEqDiff, Nat.reduceBEq, Nat.reduceAdd, Nat.reduceSub, Nat.reduceMul, Nat.reduceLT, Nat.reduceLeDiff, ↓reduceIte, reduceCtorEq, Z7, Q6, SOp.rd, SI.rd, SX.rd, rdL, rdO, rdP, Q5, Q4, Q2, Q8, Q7, Z0, implies_true, forall_const, forall_eq, ne_eq, exists_eq_right_right, exists_eq_right, exists_eq_left, exists_eq_left', Q9, Z3, Z8, Z6, Z4, c58, hat]
  repeat' (first | ((with_reducible refine brC (fun _ => ?_) fun _ => ?_) <;> try (exfalso; omega)) | (with_reducible refine And.intro ?_ ?_; · omega) | simp -dsimp -implicitDefEqProofs (disch := omega) only [VCA, Z1, ↓Q3, Nat.reduceEqDiff, Nat.reduceBEq, Nat.reduceAdd, Nat.reduceSub, Nat.reduceMul, Nat.reduceLT, Nat.reduceLeDiff, ↓reduceIte, reduceCtorEq, Z7, Q6, SOp.rd, SI.rd, SX.rd, rdL, rdO, rdP, Q5, Q4, Q2, Q8, Q7, Z0, implies_true, forall_const, forall_eq, ne_eq, exists_eq_right_right, exists_eq_right, exists_eq_left, exists_eq_left', Q9, Z3, Z8, Z6, Z4, hat, e0, Z5, b1])
  intro r4 hr4
  obtain ⟨m1, m2⟩ := n4 r4 hr4
  have B4 := B.more hr4 ⟨101, 6, [Z5 x]⟩
  have h4 := B.free hr4
  repeat' (first | ((with_reducible refine brC (fun _ => ?_) fun _ => ?_) <;> try (exfalso; omega)) | (with_reducible refine And.intro ?_ ?_; · omega) | simp -dsimp -implicitDefEqProofs (disch := omega) only [VCA, Z1, ↓Q3, Nat.reduceEqDiff, Nat.reduceBEq, Nat.reduceAdd, Nat.reduceSub, Nat.reduceMul, Nat.reduceLT, Nat.reduceLeDiff, ↓reduceIte, reduceCtorEq, Z7, Q6, SOp.rd, SI.rd, SX.rd, rdL, rdO, rdP, Q5, Q4, Q2, Q8, Q7, Z0, implies_true, forall_const, forall_eq, ne_eq, exists_eq_right_right, exists_eq_right, exists_eq_left, exists_eq_left', Q9, Z3, Z8, Z6, Z4, hat, e0, Z5, J5, m1, m2, b1])
  refine DCalls.of (hK _ _ _ _ B4 hs) ?_
  rintro a h5 ⟨rfl, B5⟩
  simp -dsimp -implicitDefEqProofs (disch := omega) only [VCA, Z1, ↓Q3, Nat.reduceEqDiff, Nat.reduceBEq, Nat.reduceAdd, Nat.reduceSub, Nat.reduceMul, Nat.reduceLT, Nat.reduceLeDiff, ↓reduceIte, reduceCtorEq, Z7, Q6, SOp.rd, SI.rd, SX.rd, rdL, rdO, rdP, Q5, Q4, Q2, Q8, Q7, Z0, implies_true, forall_const, forall_eq, ne_eq, exists_eq_right_right, exists_eq_right, exists_eq_left, exists_eq_left', Q9, Z3, Z8, Z6, Z4]
  exact ⟨_, Sub.refl _, B5.less h4⟩
 rw [if_neg h1] at he
 have b1 : (x.kind == 1) = false := by simpa using h1
 by_cases h5 : x.kind = 5
 ·have b5 : (x.kind == 5) = true := by simpa using h5
  rw [if_pos h5] at he
  rw [he] at hs ⊢
  refine Z9 Tryz.func58 hn58 hc58 (by rw [Tryz.ntmps58]; simp) (by rw [Tryz.ntmps58]; decide) ?_
  simp -dsimp -implicitDefEqProofs (disch := omega) only [VCA, Z1, ↓Q3, Nat.reduceEqDiff, Nat.reduceBEq, Nat.reduceAdd, Nat.reduceSub, Nat.reduceMul, Nat.reduceLT, Nat.reduceLeDiff, ↓reduceIte, reduceCtorEq, Z7, Q6, SOp.rd, SI.rd, SX.rd, rdL, rdO, rdP, Q5, Q4, Q2, Q8, Q7, Z0, implies_true, forall_const, forall_eq, ne_eq, exists_eq_right_right, exists_eq_right, exists_eq_left, exists_eq_left', Q9, Z3, Z8, Z6, Z4, c58, hat]
  repeat' (first | ((with_reducible refine brC (fun _ => ?_) fun _ => ?_) <;> try (exfalso; omega)) | (with_reducible refine And.intro ?_ ?_; · omega) | simp -dsimp -implicitDefEqProofs (disch := omega) only [VCA, Z1, ↓Q3, Nat.reduceEqDiff, Nat.reduceBEq, Nat.reduceAdd, Nat.reduceSub, Nat.reduceMul, Nat.reduceLT, Nat.reduceLeDiff, ↓reduceIte, reduceCtorEq, Z7, Q6, SOp.rd, SI.rd, SX.rd, rdL, rdO, rdP, Q5, Q4, Q2, Q8, Q7, Z0, implies_true, forall_const, forall_eq, ne_eq, exists_eq_right_right, exists_eq_right, exists_eq_left, exists_eq_left', Q9, Z3, Z8, Z6, Z4, hat, e0, Z5, b1, b5])
  intro r4 hr4
  obtain ⟨m1, m2⟩ := n4 r4 hr4
  have B4 := B.more hr4 ⟨101, 6, [Z5 x]⟩
  have h4 := B.free hr4
  have hW := K4 (G := G) ([60, 33, 68, 79, 67, 84, 89, 80, 69, 32] ++ x.name ++ [62]) B4 (by simp only [List.length_append, List.length_cons, List.length_nil] at hs ⊢; omega)
  simp only [List.cons_append, List.nil_append] at hW
  repeat' (first | ((with_reducible refine brC (fun _ => ?_) fun _ => ?_) <;> try (exfalso; omega)) | (with_reducible refine And.intro ?_ ?_; · omega) | simp -dsimp -implicitDefEqProofs (disch := omega) only [VCA, Z1, ↓Q3, Nat.reduceEqDiff, Nat.reduceBEq, Nat.reduceAdd, Nat.reduceSub, Nat.reduceMul, Nat.reduceLT, Nat.reduceLeDiff, ↓reduceIte, reduceCtorEq, Z7, Q6, SOp.rd, SI.rd, SX.rd, rdL, rdO, rdP, Q5, Q4, Q2, Q8, Q7, Z0, implies_true, forall_const, forall_eq, ne_eq, exists_eq_right_right, exists_eq_right, exists_eq_left, exists_eq_left', Q9, Z3, Z8, Z6, Z4, hat, e0, Z5, J5, m1, m2, b1, b5])
  refine DCalls.of hW ?_
  rintro a h6 ⟨rfl, B6⟩
  simp -dsimp -implicitDefEqProofs (disch := omega) only [VCA, Z1, ↓Q3, Nat.reduceEqDiff, Nat.reduceBEq, Nat.reduceAdd, Nat.reduceSub, Nat.reduceMul, Nat.reduceLT, Nat.reduceLeDiff, ↓reduceIte, reduceCtorEq, Z7, Q6, SOp.rd, SI.rd, SX.rd, rdL, rdO, rdP, Q5, Q4, Q2, Q8, Q7, Z0, implies_true, forall_const, forall_eq, ne_eq, exists_eq_right_right, exists_eq_right, exists_eq_left, exists_eq_left', Q9, Z3, Z8, Z6, Z4]
  first | exact ⟨_, Sub.refl _, B6.less h4⟩ | exact ⟨_, Sub.refl _, by simpa using B6.less h4⟩
 rw [if_neg h5] at he
 have b5 : (x.kind == 5) = false := by simpa using h5
 by_cases h4 : x.kind = 4
 ·have b4 : (x.kind == 4) = true := by simpa using h4
  rw [if_pos h4] at he
  rw [he] at hs ⊢
  refine Z9 Tryz.func58 hn58 hc58 (by rw [Tryz.ntmps58]; simp) (by rw [Tryz.ntmps58]; decide) ?_
  simp -dsimp -implicitDefEqProofs (disch := omega) only [VCA, Z1, ↓Q3, Nat.reduceEqDiff, Nat.reduceBEq, Nat.reduceAdd, Nat.reduceSub, Nat.reduceMul, Nat.reduceLT, Nat.reduceLeDiff, ↓reduceIte, reduceCtorEq, Z7, Q6, SOp.rd, SI.rd, SX.rd, rdL, rdO, rdP, Q5, Q4, Q2, Q8, Q7, Z0, implies_true, forall_const, forall_eq, ne_eq, exists_eq_right_right, exists_eq_right, exists_eq_left, exists_eq_left', Q9, Z3, Z8, Z6, Z4, c58, hat]
  repeat' (first | ((with_reducible refine brC (fun _ => ?_) fun _ => ?_) <;> try (exfalso; omega)) | (with_reducible refine And.intro ?_ ?_; · omega) | simp -dsimp -implicitDefEqProofs (disch := omega) only [VCA, Z1, ↓Q3, Nat.reduceEqDiff, Nat.reduceBEq, Nat.reduceAdd, Nat.reduceSub, Nat.reduceMul, Nat.reduceLT, Nat.reduceLeDiff, ↓reduceIte, reduceCtorEq, Z7, Q6, SOp.rd, SI.rd, SX.rd, rdL, rdO, rdP, Q5, Q4, Q2, Q8, Q7, Z0, implies_true, forall_const, forall_eq, ne_eq, exists_eq_right_right, exists_eq_right, exists_eq_left, exists_eq_left', Q9, Z3, Z8, Z6, Z4, hat, e0, Z5, b1, b5, b4])
  intro r4 hr4
  obtain ⟨m1, m2⟩ := n4 r4 hr4
  have B4 := B.more hr4 ⟨101, 6, [Z5 x]⟩
  have h4' := B.free hr4
  have hW := K4 (G := G) ([60, 33, 45, 45] ++ x.text ++ [45, 45, 62]) B4 (by simp only [List.length_append, List.length_cons, List.length_nil] at hs ⊢; omega)
  simp only [List.cons_append, List.nil_append] at hW
  repeat' (first | ((with_reducible refine brC (fun _ => ?_) fun _ => ?_) <;> try (exfalso; omega)) | (with_reducible refine And.intro ?_ ?_; · omega) | simp -dsimp -implicitDefEqProofs (disch := omega) only [VCA, Z1, ↓Q3, Nat.reduceEqDiff, Nat.reduceBEq, Nat.reduceAdd, Nat.reduceSub, Nat.reduceMul, Nat.reduceLT, Nat.reduceLeDiff, ↓reduceIte, reduceCtorEq, Z7, Q6, SOp.rd, SI.rd, SX.rd, rdL, rdO, rdP, Q5, Q4, Q2, Q8, Q7, Z0, implies_true, forall_const, forall_eq, ne_eq, exists_eq_right_right, exists_eq_right, exists_eq_left, exists_eq_left', Q9, Z3, Z8, Z6, Z4, hat, e0, Z5, J5, m1, m2, b1, b5, b4])
  refine DCalls.of hW ?_
  rintro a h6 ⟨rfl, B6⟩
  simp -dsimp -implicitDefEqProofs (disch := omega) only [VCA, Z1, ↓Q3, Nat.reduceEqDiff, Nat.reduceBEq, Nat.reduceAdd, Nat.reduceSub, Nat.reduceMul, Nat.reduceLT, Nat.reduceLeDiff, ↓reduceIte, reduceCtorEq, Z7, Q6, SOp.rd, SI.rd, SX.rd, rdL, rdO, rdP, Q5, Q4, Q2, Q8, Q7, Z0, implies_true, forall_const, forall_eq, ne_eq, exists_eq_right_right, exists_eq_right, exists_eq_left, exists_eq_left', Q9, Z3, Z8, Z6, Z4]
  first | exact ⟨_, Sub.refl _, B6.less h4'⟩ | exact ⟨_, Sub.refl _, by simpa using B6.less h4'⟩
 rw [if_neg h4] at he
 have b4 : (x.kind == 4) = false := by simpa using h4
 by_cases h3 : x.kind = 3
 ·have b3 : (x.kind == 3) = true := by simpa using h3
  rw [if_pos h3] at he
  have he : K3 d n = textH d x := he
  rw [he] at hs ⊢
  refine Z9 Tryz.func58 hn58 hc58 (by rw [Tryz.ntmps58]; simp) (by rw [Tryz.ntmps58]; decide) ?_
  simp -dsimp -implicitDefEqProofs (disch := omega) only [VCA, Z1, ↓Q3, Nat.reduceEqDiff, Nat.reduceBEq, Nat.reduceAdd, Nat.reduceSub, Nat.reduceMul, Nat.reduceLT, Nat.reduceLeDiff, ↓reduceIte, reduceCtorEq, Z7, Q6, SOp.rd, SI.rd, SX.rd, rdL, rdO, rdP, Q5, Q4, Q2, Q8, Q7, Z0, implies_true, forall_const, forall_eq, ne_eq, exists_eq_right_right, exists_eq_right, exists_eq_left, exists_eq_left', Q9, Z3, Z8, Z6, Z4, c58, hat]
  repeat' (first | ((with_reducible refine brC (fun _ => ?_) fun _ => ?_) <;> try (exfalso; omega)) | (with_reducible refine And.intro ?_ ?_; · omega) | simp -dsimp -implicitDefEqProofs (disch := omega) only [VCA, Z1, ↓Q3, Nat.reduceEqDiff, Nat.reduceBEq, Nat.reduceAdd, Nat.reduceSub, Nat.reduceMul, Nat.reduceLT, Nat.reduceLeDiff, ↓reduceIte, reduceCtorEq, Z7, Q6, SOp.rd, SI.rd, SX.rd, rdL, rdO, rdP, Q5, Q4, Q2, Q8, Q7, Z0, implies_true, forall_const, forall_eq, ne_eq, exists_eq_right_right, exists_eq_right, exists_eq_left, exists_eq_left', Q9, Z3, Z8, Z6, Z4, hat, e0, Z5, b1, b5, b4, b3])
  intro r4 hr4
  obtain ⟨m1, m2⟩ := n4 r4 hr4
  have B4 := B.more hr4 ⟨101, 6, [Z5 x]⟩
  have h4' := B.free hr4
  have hT := wtext_ok (G := G) hG d Z (fun hp => by rw [<- hx] at hp ⊢; exact (V.par_in hn hp).1) B4 (by omega)
  unfold Z5 at hT
  repeat' (first | ((with_reducible refine brC (fun _ => ?_) fun _ => ?_) <;> try (exfalso; omega)) | (with_reducible refine And.intro ?_ ?_; · omega) | simp -dsimp -implicitDefEqProofs (disch := omega) only [VCA, Z1, ↓Q3, Nat.reduceEqDiff, Nat.reduceBEq, Nat.reduceAdd, Nat.reduceSub, Nat.reduceMul, Nat.reduceLT, Nat.reduceLeDiff, ↓reduceIte, reduceCtorEq, Z7, Q6, SOp.rd, SI.rd, SX.rd, rdL, rdO, rdP, Q5, Q4, Q2, Q8, Q7, Z0, implies_true, forall_const, forall_eq, ne_eq, exists_eq_right_right, exists_eq_right, exists_eq_left, exists_eq_left', Q9, Z3, Z8, Z6, Z4, hat, e0, Z5, J5, m1, m2, b1, b5, b4, b3])
  refine DCalls.of hT ?_
  rintro a h6 ⟨rfl, B6⟩
  simp -dsimp -implicitDefEqProofs (disch := omega) only [VCA, Z1, ↓Q3, Nat.reduceEqDiff, Nat.reduceBEq, Nat.reduceAdd, Nat.reduceSub, Nat.reduceMul, Nat.reduceLT, Nat.reduceLeDiff, ↓reduceIte, reduceCtorEq, Z7, Q6, SOp.rd, SI.rd, SX.rd, rdL, rdO, rdP, Q5, Q4, Q2, Q8, Q7, Z0, implies_true, forall_const, forall_eq, ne_eq, exists_eq_right_right, exists_eq_right, exists_eq_left, exists_eq_left', Q9, Z3, Z8, Z6, Z4]
  first | exact ⟨_, Sub.refl _, B6.less h4'⟩ | exact ⟨_, Sub.refl _, by simpa using B6.less h4'⟩
 have h2 : x.kind = 2 := by omega
 have b3 : (x.kind == 3) = false := by simpa using h3
 refine Z9 Tryz.func58 hn58 hc58 (by rw [Tryz.ntmps58]; simp) (by rw [Tryz.ntmps58]; decide) ?_
 simp -dsimp -implicitDefEqProofs (disch := omega) only [VCA, Z1, ↓Q3, Nat.reduceEqDiff, Nat.reduceBEq, Nat.reduceAdd, Nat.reduceSub, Nat.reduceMul, Nat.reduceLT, Nat.reduceLeDiff, ↓reduceIte, reduceCtorEq, Z7, Q6, SOp.rd, SI.rd, SX.rd, rdL, rdO, rdP, Q5, Q4, Q2, Q8, Q7, Z0, implies_true, forall_const, forall_eq, ne_eq, exists_eq_right_right, exists_eq_right, exists_eq_left, exists_eq_left', Q9, Z3, Z8, Z6, Z4, c58, hat]
 repeat' (first | ((with_reducible refine brC (fun _ => ?_) fun _ => ?_) <;> try (exfalso; omega)) | (with_reducible refine And.intro ?_ ?_; · omega) | simp -dsimp -implicitDefEqProofs (disch := omega) only [VCA, Z1, ↓Q3, Nat.reduceEqDiff, Nat.reduceBEq, Nat.reduceAdd, Nat.reduceSub, Nat.reduceMul, Nat.reduceLT, Nat.reduceLeDiff, ↓reduceIte, reduceCtorEq, Z7, Q6, SOp.rd, SI.rd, SX.rd, rdL, rdO, rdP, Q5, Q4, Q2, Q8, Q7, Z0, implies_true, forall_const, forall_eq, ne_eq, exists_eq_right_right, exists_eq_right, exists_eq_left, exists_eq_left', Q9, Z3, Z8, Z6, Z4, hat, e0, Z5, b1, b5, b4, b3])
 intro r4 hr4
 obtain ⟨m1, m2⟩ := n4 r4 hr4
 have B4 := B.more hr4 ⟨101, 6, [Z5 x]⟩
 have h4' := B.free hr4
 repeat' (first | ((with_reducible refine brC (fun _ => ?_) fun _ => ?_) <;> try (exfalso; omega)) | (with_reducible refine And.intro ?_ ?_; · omega) | simp -dsimp -implicitDefEqProofs (disch := omega) only [VCA, Z1, ↓Q3, Nat.reduceEqDiff, Nat.reduceBEq, Nat.reduceAdd, Nat.reduceSub, Nat.reduceMul, Nat.reduceLT, Nat.reduceLeDiff, ↓reduceIte, reduceCtorEq, Z7, Q6, SOp.rd, SI.rd, SX.rd, rdL, rdO, rdP, Q5, Q4, Q2, Q8, Q7, Z0, implies_true, forall_const, forall_eq, ne_eq, exists_eq_right_right, exists_eq_right, exists_eq_left, exists_eq_left', Q9, Z3, Z8, Z6, Z4, hat, e0, Z5, J5, m1, m2, b1, b5, b4, b3])
 refine DCalls.of (hE h2 _ _ _ _ B4 hs) ?_
 rintro a h6 ⟨rfl, B6⟩
 simp -dsimp -implicitDefEqProofs (disch := omega) only [VCA, Z1, ↓Q3, Nat.reduceEqDiff, Nat.reduceBEq, Nat.reduceAdd, Nat.reduceSub, Nat.reduceMul, Nat.reduceLT, Nat.reduceLeDiff, ↓reduceIte, reduceCtorEq, Z7, Q6, SOp.rd, SI.rd, SX.rd, rdL, rdO, rdP, Q5, Q4, Q2, Q8, Q7, Z0, implies_true, forall_const, forall_eq, ne_eq, exists_eq_right_right, exists_eq_right, exists_eq_left, exists_eq_left', Q9, Z3, Z8, Z6, Z4]
 exact ⟨_, Sub.refl _, B6.less h4'⟩
def htmlV (d : HDoc) (n : Int) : List UInt8 × Int := if docE d ≠ 0 then ([], docE d) else if ¬ inD d n then ([], 1) else (K3 d n, 0)
def c18 : SFun := ⟨.seq (.reg [o 2 (.boxF 39 2 (.t 0)), o 4 (.mv (.c (.str []))), o 5 (.mv (.c (.int .i64 0)))]) (.seq (.seq (.reg [o 8 (.ld 2 true (.t 2)), o 9 (.pcall 57 [.t 8]), o 6 (.mv (.t 9))]) (.seq (.reg [o 10 (.mv (.t 6)), o 11 (.bin .neq (.t 10) (.c (.int .i64 0)))]) (.cond (.t 11) (.seq (.reg [o 12 (.mv (.t 6)), o 4 (.mv (.c (.str []))), o 5 (.mv (.t 12))]) .ret) .skip))) (.seq (.seq (.reg [o 13 (.mv (.t 1)), o 14 (.bin .lss (.t 13) (.c (.int .i64 0))), o 15 (.mv (.t 14)), ⟨some 16, .mv (.t 1), some (15, false)⟩, ⟨some 17, .fldA 0 (.t 2), some (15, false)⟩, ⟨some 18, .ld 1 false (.t 17), some (15, false)⟩, ⟨some 19, .len (.t 18), some (15, false)⟩, ⟨some 20, .bin .geq (.t 16) (.t 19), some (15, false)⟩, o 21 (.pick (.t 15) (.c (.bool true)) (.t 20))]) (.cond (.t 21) (.seq (.reg [o 4 (.mv (.c (.str []))), o 5 (.mv (.c (.int .i64 1)))]) .ret) .skip)) (.seq (.reg [o 22 (.ld 2 true (.t 2)), o 23 (.bld [.prim (Value.pointer none), .emp, .emp, .bool false] [(2, (2, (.t 22)))]), o 24 (.box 97 4 (.t 23)), o 7 (.mv (.t 24))]) (.seq (.reg [o 25 (.mv (.t 7)), o 26 (.mv (.t 1)), o 27 (.call (.c (.fn 58 [] [])) [.t 25, .t 26])]) (.seq (.reg [o 28 (.mv (.t 7)), o 29 (.fldA 0 (.t 28)), o 30 (.fldA 0 (.t 29)), o 31 (.call (.c (.fn 54 [] [])) [.t 30]), o 4 (.mv (.t 31)), o 5 (.mv (.c (.int .i64 0)))]) .ret))))), [.tmp 4, .tmp 5]⟩
theorem hc18 : X8 Tryz.prog {pure := [57], how := [(24, 6)]} Tryz.f18 = some c18 := by kernel_rfl
theorem hn18 : (Tryz.f18.name == "runtime.NumGoroutine") = false := by kernel_rfl
theorem html_ok (hG : MaxOK G) (d : HDoc) (sm : DocSm d) (n : Int) : PCalls (Pg G) 18 [.agg (J4 d), Y0 n] (.tup [.str (htmlV d n).1, Y0 (htmlV d n).2]) := fun h => by
 have hC := check_ok (G := G) d sm
 have hl := sm.len
 unfold J4 at hC
 unfold htmlV
 by_cases hd : docE d = 0
 ·rw [if_neg (by simpa using hd)]
  rw [hd] at hC
  have V := (docE_iff d).1 hd
  by_cases hn : inD d n
  ·rw [if_neg (by simpa using hn)]
   have n0 := hn.1
   have n1 := hn.2
   have hN := wnode_ok (G := G) hG d V n hn
   have hlen := html_len V n hn
   have hbl := below_len V hn
   have vl := V.len
   refine Z9 Tryz.func18 hn18 hc18 (by rw [Tryz.ntmps18]; simp) (by rw [Tryz.ntmps18]; decide) ?_
   simp -dsimp -implicitDefEqProofs (disch := omega) only [↓Q0 15, ↓Q1 15, VCA, Z1, ↓Q3, Nat.reduceEqDiff, Nat.reduceBEq, Nat.reduceAdd, Nat.reduceSub, Nat.reduceMul, Nat.reduceLT, Nat.reduceLeDiff, ↓reduceIte, reduceCtorEq, Z7, Q6, SOp.rd, SI.rd, SX.rd, rdL, rdO, rdP, Q5, Q4, Q2, Q8, Q7, Z0, implies_true, forall_const, forall_eq, ne_eq, exists_eq_right_right, exists_eq_right, exists_eq_left, exists_eq_left', Q9, Z3, Z8, Z6, Z4, c18, J4]
   repeat' (first | ((with_reducible refine brC (fun _ => ?_) fun _ => ?_) <;> try (exfalso; omega)) | (with_reducible apply pcallE.of; · exact hC) | (with_reducible refine And.intro ?_ ?_; · omega) | simp -dsimp -implicitDefEqProofs (disch := omega) only [↓Q0 15, ↓Q1 15, VCA, Z1, ↓Q3, Nat.reduceEqDiff, Nat.reduceBEq, Nat.reduceAdd, Nat.reduceSub, Nat.reduceMul, Nat.reduceLT, Nat.reduceLeDiff, ↓reduceIte, reduceCtorEq, Z7, Q6, SOp.rd, SI.rd, SX.rd, rdL, rdO, rdP, Q5, Q4, Q2, Q8, Q7, Z0, implies_true, forall_const, forall_eq, ne_eq, exists_eq_right_right, exists_eq_right, exists_eq_left, exists_eq_left', Q9, Z3, Z8, Z6, Z4, J4])
   intro rb hrb
   have B0 := BlE.new (x := sl Z5 d.nodes) (y := .bool d.quirks) h rb hrb
   repeat' (first | ((with_reducible refine brC (fun _ => ?_) fun _ => ?_) <;> try (exfalso; omega)) | (with_reducible refine And.intro ?_ ?_; · omega) | simp -dsimp -implicitDefEqProofs (disch := omega) only [↓Q0 15, ↓Q1 15, VCA, Z1, ↓Q3, Nat.reduceEqDiff, Nat.reduceBEq, Nat.reduceAdd, Nat.reduceSub, Nat.reduceMul, Nat.reduceLT, Nat.reduceLeDiff, ↓reduceIte, reduceCtorEq, Z7, Q6, SOp.rd, SI.rd, SX.rd, rdL, rdO, rdP, Q5, Q4, Q2, Q8, Q7, Z0, implies_true, forall_const, forall_eq, ne_eq, exists_eq_right_right, exists_eq_right, exists_eq_left, exists_eq_left', Q9, Z3, Z8, Z6, Z4, J4])
   refine DCalls.of (hN _ _ _ _ B0 (by simp only [List.length_nil]; omega)) ?_
   rintro a h5 ⟨rfl, B5⟩
   rw [List.nil_append] at B5
   repeat' (first | ((with_reducible refine brC (fun _ => ?_) fun _ => ?_) <;> try (exfalso; omega)) | (with_reducible refine And.intro ?_ ?_; · omega) | simp -dsimp -implicitDefEqProofs (disch := omega) only [↓Q0 15, ↓Q1 15, VCA, Z1, ↓Q3, Nat.reduceEqDiff, Nat.reduceBEq, Nat.reduceAdd, Nat.reduceSub, Nat.reduceMul, Nat.reduceLT, Nat.reduceLeDiff, ↓reduceIte, reduceCtorEq, Z7, Q6, SOp.rd, SI.rd, SX.rd, rdL, rdO, rdP, Q5, Q4, Q2, Q8, Q7, Z0, implies_true, forall_const, forall_eq, ne_eq, exists_eq_right_right, exists_eq_right, exists_eq_left, exists_eq_left', Q9, Z3, Z8, Z6, Z4, J4])
   refine DCalls.of (stringE_ok B5 (by omega)) ?_
   rintro a h6 ⟨rfl, S⟩
   simp -dsimp -implicitDefEqProofs (disch := omega) only [↓Q0 15, ↓Q1 15, VCA, Z1, ↓Q3, Nat.reduceEqDiff, Nat.reduceBEq, Nat.reduceAdd, Nat.reduceSub, Nat.reduceMul, Nat.reduceLT, Nat.reduceLeDiff, ↓reduceIte, reduceCtorEq, Z7, Q6, SOp.rd, SI.rd, SX.rd, rdL, rdO, rdP, Q5, Q4, Q2, Q8, Q7, Z0, implies_true, forall_const, forall_eq, ne_eq, exists_eq_right_right, exists_eq_right, exists_eq_left, exists_eq_left', Q9, Z3, Z8, Z6, Z4, J4]
   exact S
  ·have hn' : n < 0 \/ (d.nodes.length : Int) <= n := by unfold inD at hn; omega
   rw [if_pos (by simpa using hn)]
   refine Z9 Tryz.func18 hn18 hc18 (by rw [Tryz.ntmps18]; simp) (by rw [Tryz.ntmps18]; decide) ?_
   simp -dsimp -implicitDefEqProofs (disch := omega) only [↓Q0 15, ↓Q1 15, VCA, Z1, ↓Q3, Nat.reduceEqDiff, Nat.reduceBEq, Nat.reduceAdd, Nat.reduceSub, Nat.reduceMul, Nat.reduceLT, Nat.reduceLeDiff, ↓reduceIte, reduceCtorEq, Z7, Q6, SOp.rd, SI.rd, SX.rd, rdL, rdO, rdP, Q5, Q4, Q2, Q8, Q7, Z0, implies_true, forall_const, forall_eq, ne_eq, exists_eq_right_right, exists_eq_right, exists_eq_left, exists_eq_left', Q9, Z3, Z8, Z6, Z4, c18, J4]
   repeat' (first | ((with_reducible refine brC (fun _ => ?_) fun _ => ?_) <;> try (exfalso; omega)) | (with_reducible apply pcallE.of; · exact hC) | (with_reducible refine And.intro ?_ ?_; · omega) | simp -dsimp -implicitDefEqProofs (disch := omega) only [↓Q0 15, ↓Q1 15, VCA, Z1, ↓Q3, Nat.reduceEqDiff, Nat.reduceBEq, Nat.reduceAdd, Nat.reduceSub, Nat.reduceMul, Nat.reduceLT, Nat.reduceLeDiff, ↓reduceIte, reduceCtorEq, Z7, Q6, SOp.rd, SI.rd, SX.rd, rdL, rdO, rdP, Q5, Q4, Q2, Q8, Q7, Z0, implies_true, forall_const, forall_eq, ne_eq, exists_eq_right_right, exists_eq_right, exists_eq_left, exists_eq_left', Q9, Z3, Z8, Z6, Z4, J4])
   all_goals first | exact Sub.refl _ | trace_state
 ·rw [if_pos hd]
  have hd' : (docE d != 0) = true := by simpa using hd
  refine Z9 Tryz.func18 hn18 hc18 (by rw [Tryz.ntmps18]; simp) (by rw [Tryz.ntmps18]; decide) ?_
  simp -dsimp -implicitDefEqProofs (disch := omega) only [↓Q0 15, ↓Q1 15, VCA, Z1, ↓Q3, Nat.reduceEqDiff, Nat.reduceBEq, Nat.reduceAdd, Nat.reduceSub, Nat.reduceMul, Nat.reduceLT, Nat.reduceLeDiff, ↓reduceIte, reduceCtorEq, Z7, Q6, SOp.rd, SI.rd, SX.rd, rdL, rdO, rdP, Q5, Q4, Q2, Q8, Q7, Z0, implies_true, forall_const, forall_eq, ne_eq, exists_eq_right_right, exists_eq_right, exists_eq_left, exists_eq_left', Q9, Z3, Z8, Z6, Z4, c18, J4]
  repeat' (first | ((with_reducible refine brC (fun _ => ?_) fun _ => ?_) <;> try (exfalso; omega)) | (with_reducible apply pcallE.of; · exact hC) | (with_reducible refine And.intro ?_ ?_; · omega) | simp -dsimp -implicitDefEqProofs (disch := omega) only [↓Q0 15, ↓Q1 15, VCA, Z1, ↓Q3, Nat.reduceEqDiff, Nat.reduceBEq, Nat.reduceAdd, Nat.reduceSub, Nat.reduceMul, Nat.reduceLT, Nat.reduceLeDiff, ↓reduceIte, reduceCtorEq, Z7, Q6, SOp.rd, SI.rd, SX.rd, rdL, rdO, rdP, Q5, Q4, Q2, Q8, Q7, Z0, implies_true, forall_const, forall_eq, ne_eq, exists_eq_right_right, exists_eq_right, exists_eq_left, exists_eq_left', Q9, Z3, Z8, Z6, Z4, J4, hd'])
  all_goals first | exact Sub.refl _ | trace_state
theorem bt_inj {a b : UInt8} (h : (a.toNat : Int) = b.toNat) : a = b := UInt8.toNat_inj.1 (by omega)
def hexN (b : UInt8) : Nat := if 48 <= b.toNat /\ b.toNat <= 57 then b.toNat - 48 else if 97 <= b.toNat /\ b.toNat <= 102 then b.toNat - 87 else 16
def qtL : List UInt8 -> Option (List UInt8 × List UInt8)
 | [] => none
 | [c] => if c = 34 then some ([], []) else none
 | [c, a] => if c = 34 then some ([], [a]) else if plainB c = true /\ a = 34 then some ([c], []) else none
 | c :: a :: b :: r =>
  if c = 34 then some ([], a :: b :: r)
  else if c = 92 then
   if hexN a < 16 /\ hexN b < 16 /\ plainB (UInt8.ofNat (16 * hexN a + hexN b)) = false then (qtL r).map fun q => (UInt8.ofNat (16 * hexN a + hexN b) :: q.1, q.2) else none
  else if plainB c = true then (qtL (a :: b :: r)).map fun q => (c :: q.1, q.2) else none
def hexX (b : UInt8) : Int := if hexN b < 16 then hexN b else -1
def byteX (a b : UInt8) : UInt8 := UInt8.ofNat ((IntKind.u8.wrap (bitF .or .i64 (IntKind.i64.wrap (hexX a * 16)) (hexX b))).toNat)
def uqL : List UInt8 -> Option (List UInt8 × List UInt8)
 | [] => none
 | [c] => if c = 34 then some ([], []) else none
 | [c, a] => if c = 34 then some ([], [a]) else if a = 34 then some ([c], []) else none
 | c :: a :: b :: r =>
  if c = 34 then some ([], a :: b :: r)
  else if c = 92 then (uqL r).map fun q => (byteX a b :: q.1, q.2)
  else (uqL (a :: b :: r)).map fun q => (c :: q.1, q.2)
theorem qt_cons {c : UInt8} {t : List UInt8} (h1 : c ≠ 34) (h2 : c ≠ 92) : qtL (c :: t) = if plainB c = true then (qtL t).map fun q => (c :: q.1, q.2) else none := by
 match t with
 | [] => unfold qtL; rw [if_neg h1]; split <;> rfl
 | [a] =>
  unfold qtL
  rw [if_neg h1]
  by_cases hp : plainB c = true
  ·by_cases ha : a = 34
   ·rw [if_pos ⟨hp, ha⟩, if_pos hp, if_pos ha]; rfl
   ·rw [if_neg (fun h => ha h.2), if_pos hp, if_neg ha]; rfl
  ·rw [if_neg (fun h => hp h.1), if_neg hp]
 | a :: b :: r => rw [qtL, if_neg h1, if_neg h2]
theorem qt_end {t : List UInt8} : qtL (34 :: t) = some ([], t) := by
 match t with
 | [] => rfl
 | [a] => rfl
 | a :: b :: r => rw [qtL, if_pos rfl]
theorem uq_cons {c : UInt8} {t : List UInt8} (h1 : c ≠ 34) (h2 : c ≠ 92) : uqL (c :: t) = (uqL t).map fun q => (c :: q.1, q.2) := by
 match t with
 | [] => unfold uqL; rw [if_neg h1]; rfl
 | [a] =>
  unfold uqL
  rw [if_neg h1]
  by_cases ha : a = 34
  ·rw [if_pos ha, if_pos ha]; rfl
  ·rw [if_neg ha, if_neg ha]; rfl
 | a :: b :: r => rw [uqL, if_neg h1, if_neg h2]
theorem uq_end {t : List UInt8} : uqL (34 :: t) = some ([], t) := by
 match t with
 | [] => rfl
 | [a] => rfl
 | a :: b :: r => rw [uqL, if_pos rfl]
theorem plain92 : plainB 92 = false := by decide
theorem plain34 : plainB 34 = false := by decide
theorem quo_plain {c : UInt8} (h : plainB c = true) : quoB c = [c] /\ c ≠ 34 /\ c ≠ 92 := by
 refine ⟨if_pos h, fun e => ?_, fun e => ?_⟩
 ·rw [e, plain34] at h; cases h
 ·rw [e, plain92] at h; cases h
theorem hex_back {n : Nat} (h : n < 16) : hexN (hexD n) = n := by
 have : ∀ m : Fin 16, hexN (hexD m.val) = m.val := by decide +kernel
 exact this ⟨n, h⟩
theorem hexD_hexN (a : UInt8) (h : hexN a < 16) : hexD (hexN a) = a := by
 have := u8_all (p := fun a => decide (hexN a < 16 -> hexD (hexN a) = a)) (by decide +kernel) a
 exact of_decide_eq_true this h
theorem pair_byte {a b : UInt8} (ha : hexN a < 16) (hb : hexN b < 16) : (UInt8.ofNat (16 * hexN a + hexN b)).toNat = 16 * hexN a + hexN b := by
 simp; omega
theorem quo_pair {a b : UInt8} (ha : hexN a < 16) (hb : hexN b < 16) (hp : plainB (UInt8.ofNat (16 * hexN a + hexN b)) = false) : quoB (UInt8.ofNat (16 * hexN a + hexN b)) = [92, a, b] := by
 unfold quoB
 rw [hp, if_neg (by simp), pair_byte ha hb]
 rw [show (16 * hexN a + hexN b) / 16 = hexN a by omega, show (16 * hexN a + hexN b) % 16 = hexN b by omega, hexD_hexN a ha, hexD_hexN b hb]
theorem byteX_pair : ∀ (m n : Fin 16), UInt8.ofNat ((IntKind.u8.wrap (bitF .or .i64 (IntKind.i64.wrap ((m.val : Int) * 16)) n.val)).toNat) = UInt8.ofNat (16 * m.val + n.val) := by decide +kernel
theorem byteX_is {a b : UInt8} (ha : hexN a < 16) (hb : hexN b < 16) : byteX a b = UInt8.ofNat (16 * hexN a + hexN b) := by
 unfold byteX hexX
 rw [if_pos ha, if_pos hb]
 exact byteX_pair ⟨_, ha⟩ ⟨_, hb⟩
theorem qt_uq : ∀ (n : Nat) (t : List UInt8), t.length <= n -> ∀ x r, qtL t = some (x, r) -> uqL t = some (x, r) /\ t = x.flatMap quoB ++ 34 :: r
 | _, [], _, x, r, h => by cases h
 | 0, c :: t, hn, _, _, _ => by simp at hn
 | n + 1, c :: t, hn, x, r, h => by
  simp only [List.length_cons] at hn
  by_cases h1 : c = 34
  ·subst h1
   rw [qt_end] at h
   cases h
   exact ⟨uq_end, rfl⟩
  ·by_cases h2 : c = 92
   ·subst h2
    match t, h with
    | [], h => cases h
    | [a], h =>
     unfold qtL at h
     rw [if_neg (by decide), if_neg (by rw [plain92]; simp)] at h
     cases h
    | a :: b :: u, h =>
     rw [qtL, if_neg (by decide), if_pos rfl] at h
     split at h
     ·rename_i hp
      obtain ⟨ha, hb, hq⟩ := hp
      rw [Option.map_eq_some_iff] at h
      obtain ⟨⟨y, z⟩, hy, he⟩ := h
      cases he
      obtain ⟨g1, g2⟩ := qt_uq n u (by simp at hn; omega) y z hy
      refine ⟨?_, ?_⟩
      ·rw [uqL, if_neg (by decide), if_pos rfl, g1, byteX_is ha hb]; rfl
      ·rw [List.flatMap_cons, quo_pair ha hb hq, List.append_assoc, <- g2]; rfl
     ·cases h
   ·rw [qt_cons h1 h2] at h
    split at h
    ·rename_i hp
     rw [Option.map_eq_some_iff] at h
     obtain ⟨⟨y, z⟩, hy, he⟩ := h
     cases he
     obtain ⟨g1, g2⟩ := qt_uq n t (by omega) y z hy
     refine ⟨?_, ?_⟩
     ·rw [uq_cons h1 h2, g1]; rfl
     ·rw [List.flatMap_cons, (quo_plain hp).1, List.append_assoc, <- g2]; rfl
    ·cases h
theorem qt_quote : ∀ (x r : List UInt8), qtL (x.flatMap quoB ++ 34 :: r) = some (x, r)
 | [], r => qt_end
 | c :: x, r => by
  rw [List.flatMap_cons, List.append_assoc]
  by_cases hp : plainB c = true
  ·obtain ⟨h1, h2, h3⟩ := quo_plain hp
   rw [h1]
   show qtL (c :: (x.flatMap quoB ++ 34 :: r)) = _
   rw [qt_cons h2 h3, if_pos hp, qt_quote x r]; rfl
  ·have hq : plainB c = false := by simpa using hp
   have e : quoB c = [92, hexD (c.toNat / 16), hexD (c.toNat % 16)] := if_neg hp
   have hc := c.toNat_lt
   have e1 := hex_back (n := c.toNat / 16) (by omega)
   have e2 := hex_back (n := c.toNat % 16) (by omega)
   have e3 : UInt8.ofNat (16 * (c.toNat / 16) + c.toNat % 16) = c := by rw [Nat.div_add_mod]; simp
   rw [e]
   show qtL (92 :: hexD (c.toNat / 16) :: hexD (c.toNat % 16) :: (x.flatMap quoB ++ 34 :: r)) = _
   rw [qtL, if_neg (by decide), if_pos rfl, e1, e2, e3, if_pos ⟨by omega, by omega, hq⟩, qt_quote x r]; rfl
def inq (f : List UInt8 -> Option (List UInt8 × List UInt8)) : List UInt8 -> Option (List UInt8 × List UInt8)
 | [] => none
 | c :: r => if c = 34 then f r else none
theorem inq_quote (x r : List UInt8) : inq qtL (K8 x ++ r) = some (x, r) := by
 unfold K8 inq
 rw [List.cons_append]
 simp only [if_true]
 rw [List.append_assoc]
 exact qt_quote x r
theorem inq_uq {t x r : List UInt8} (h : inq qtL t = some (x, r)) : inq uqL t = some (x, r) /\ t = K8 x ++ r := by
 cases t with
 | nil => cases h
 | cons c t =>
  unfold inq at h ⊢
  simp only at h ⊢
  split at h
  ·rename_i hc
   subst hc
   obtain ⟨h1, h2⟩ := qt_uq _ t (Nat.le_refl _) x r h
   rw [if_pos rfl]
   refine ⟨h1, ?_⟩
   unfold K8
   rw [List.cons_append, List.append_assoc, h2]; rfl
  ·cases h
def Y8 (b : UInt8) : List UInt8 -> List UInt8 × Option (List UInt8)
 | [] => ([], none)
 | c :: r => if c = b then ([], some r) else (c :: (Y8 b r).1, (Y8 b r).2)
theorem cutB_not {b : UInt8} : ∀ {x : List UInt8}, b ∉ x -> ∀ r, Y8 b (x ++ r) = (x ++ (Y8 b r).1, (Y8 b r).2)
 | [], _, r => rfl
 | c :: x, h, r => by
  rw [List.cons_append, Y8, if_neg (fun e => h (by rw [e]; exact List.mem_cons_self)), cutB_not (fun hh => h (List.mem_cons_of_mem _ hh)) r]
  rfl
theorem cutB_at {b : UInt8} {x r : List UInt8} (h : b ∉ x) : Y8 b (x ++ b :: r) = (x, some r) := by
 rw [cutB_not h]
 unfold Y8
 simp
theorem cutB_is {b : UInt8} : ∀ (t : List UInt8), b ∉ (Y8 b t).1 /\ t = (Y8 b t).1 ++ (match (Y8 b t).2 with | some r => b :: r | none => [])
 | [] => ⟨by simp [Y8], rfl⟩
 | c :: r => by
  obtain ⟨h1, h2⟩ := cutB_is (b := b) r
  unfold Y8
  split
  ·rename_i hc; subst hc; exact ⟨by simp, rfl⟩
  ·rename_i hc
   refine ⟨fun hh => ?_, ?_⟩
   ·rcases List.mem_cons.1 hh with e | e
    ·exact hc e.symm
    ·exact h1 e
   ·simp only [List.cons_append]; rw [<- h2]
def atsS : Nat -> List UInt8 -> Option (List HAttr)
 | 0, _ => none
 | f + 1, t => match t with
  | [] => some []
  | _ :: u => match Y8 61 u with
   | (_, none) => none
   | (nm, some v) => match inq qtL v with
    | none => none
    | some (x, r) => if r = [] then some [⟨nm, x⟩] else if r.head? = some 32 /\ r.length ≠ 1 then (atsS f r).map (⟨nm, x⟩ :: ·) else none
def atsP : Nat -> List UInt8 -> List HAttr
 | 0, _ => []
 | f + 1, u => match inq uqL ((Y8 61 u).2.getD []) with
   | none => []
   | some (x, r) => ⟨(Y8 61 u).1, x⟩ :: match (Y8 32 r).2 with
    | none => []
    | some u' => atsP f u'
def atsO (f : Nat) : Option (List UInt8) -> List HAttr
 | none => []
 | some u => atsP f u
def nodeS (t : List UInt8) : Option HNode :=
 if t = [] then none
 else if t.head? = some 33 then match inq qtL (t.drop 1) with
  | some (x, []) => some ⟨5, x, [], [], 0, []⟩
  | _ => none
 else if t.head? = some 34 then match inq qtL t with
  | some (x, []) => some ⟨3, [], [], x, 0, []⟩
  | _ => none
 else if t.head? = some 45 then match inq qtL (t.drop 1) with
  | some (x, []) => some ⟨4, [], [], x, 0, []⟩
  | _ => none
 else (atsS (t.length + 1) (t.drop (Y8 32 t).1.length)).map fun l => ⟨2, (Y8 32 t).1, l, [], 0, []⟩
def fstQ (q : Option (List UInt8 × List UInt8)) : List UInt8 := match q with
 | some (x, _) => x
 | none => []
def nodeU (t : List UInt8) : HNode :=
 if t.head? = some 33 then ⟨5, fstQ (inq uqL (t.drop 1)), [], [], 0, []⟩
 else if t.head? = some 34 then ⟨3, [], [], fstQ (inq uqL t), 0, []⟩
 else if t.head? = some 45 then ⟨4, [], [], fstQ (inq uqL (t.drop 1)), 0, []⟩
 else ⟨2, (Y8 32 t).1, atsO (t.length + 1) (Y8 32 t).2, [], 0, []⟩
theorem repeat_ok (k : Nat) (hk : k <= 1000000) : PCalls (Pg G) 190 [.str [32], Y0 k] (.str (List.replicate k 32)) := by
 refine ofBelow ⟨_, Tryz.func190, by kernel_rfl, by kernel_rfl⟩ fun g w vs GR V => ?_
 obtain ⟨u, v, rfl, hu, hv⟩ := V.two_inv
 rw [hu.str_inv', hv.int_inv']
 refine (Tryz.strings_Repeat ⟨⟨[32]⟩⟩ k w (by omega) (by show 1 * k <= _; omega)).mono fun e w' ⟨he, hw⟩ => ⟨_, he, hw, fun g w => ?_⟩
 have := Lib.repeatL_replicate 32 1 k
 rw [Nat.mul_one] at this
 show VRel g w (.string ⟨(Lib.repeatL (List.replicate 1 32) k).toArray⟩) _
 rw [this]; exact VRel.str_mk g w _
theorem cut_ok (hG : MaxLenOK G) (s t : List UInt8) (hs : s.length < 4294967281) : PCalls (Pg G) 90 [.str s, .str t] (.tup [.str (Lib.cut s t).1, .str (Lib.cut s t).2.1, .bool (Lib.cut s t).2.2]) := by
 obtain ⟨m, hG⟩ := hG
 refine ofBelow ⟨_, Tryz.func90, by kernel_rfl, by kernel_rfl⟩ fun g w vs GR V => ?_
 obtain ⟨u, v, rfl, hu, hv⟩ := V.two_inv
 rw [hu.str_inv', hv.str_inv']
 refine (Tryz.strings_Cut ⟨⟨s⟩⟩ ⟨⟨t⟩⟩ m w hs (GR.int hG)).mono fun e w' ⟨he, n, hw⟩ => ⟨_, he, ?_, fun g w => ?_⟩
 ·rw [hw]; exact ⟨rfl, rfl, rfl, Nat.le_refl _, fun _ _ => rfl⟩
 ·refine .tup _ _ rfl fun j u a hu ha => ?_
  match j with
  | 0 => simp at hu ha; subst hu ha; exact VRel.str_mk g w _
  | 1 => simp at hu ha; subst hu ha; exact VRel.str_mk g w _
  | 2 => simp at hu ha; subst hu ha; exact .bool _
  | j + 3 => simp at hu
theorem trimLeft_ok (s : List UInt8) (c : UInt8) (hc : c.toNat < 128) : PCalls (Pg G) 137 [.str s, .str [c]] (.str (s.dropWhile (· == c))) := by
 refine PCalls.ofRun ⟨_, Tryz.func137, by kernel_rfl, by kernel_rfl⟩ fun g w vs GR V => ?_
 obtain ⟨u, v, rfl, hu, hv⟩ := V.two_inv
 rw [hu.str_inv', hv.str_inv']
 exact (Tryz.strings_TrimLeft_one ⟨⟨s⟩⟩ c hc w).mono fun e w' ⟨he, hw⟩ => ⟨_, he, hw, VRel.str_mk g w _⟩
theorem cut_cutB (b : UInt8) (s : List UInt8) : Lib.cut s [b] = ((Y8 b s).1, (Y8 b s).2.getD [], (Y8 b s).2.isSome) := by
 obtain ⟨h1, h2⟩ := cutB_is (b := b) s
 have hocc : ∀ i, Lib.occAt s [b] i = decide (s[i]? = some b) := fun i => by
  unfold Lib.occAt
  cases hd : s.drop i with
  | nil =>
   have := List.drop_eq_nil_iff.1 hd
   rw [List.getElem?_eq_none this]; rfl
  | cons c r =>
   have : s[i]? = some c := by rw [<- List.head?_drop, hd]; rfl
   rw [this, Bool.eq_iff_iff]
   simp [List.isPrefixOf]
   exact ⟨fun h => h.symm, fun h => h.symm⟩
 unfold Lib.cut
 generalize (Y8 b s).1 = x at h1 h2 ⊢
 cases hc : (Y8 b s).2 with
 | none =>
  rw [hc] at h2
  simp only [List.append_nil] at h2
  have hi : Lib.index s [b] = -1 := Lib.index_none fun j hj => by
   rw [hocc]
   apply decide_eq_false
   intro h
   exact h1 (by rw [<- h2]; exact List.mem_of_getElem? h)
  rw [hi, if_neg (by omega), <- h2]; rfl
 | some r =>
  rw [hc] at h2
  simp only at h2
  have hi : Lib.index s [b] = (x.length : Int) := Lib.index_first (by
    have := congrArg List.length h2
    simp only [List.length_append, List.length_cons] at this; omega) (by
    rw [hocc]
    apply decide_eq_true
    rw [h2]; simp) fun j hj => by
    rw [hocc]
    apply decide_eq_false
    intro h
    rw [h2, List.getElem?_append_left hj] at h
    exact h1 (List.mem_of_getElem? h)
  rw [hi, if_pos (by omega), Int.toNat_natCast]
  have e1 : s.take x.length = x := by conv => lhs; rw [h2]; rw [List.take_left' rfl]
  have e2 : s.drop (x.length + [b].length) = r := by
   have : s.drop (x.length + 1) = r := by
    rw [<- List.drop_drop]
    conv => lhs; rw [h2]
    rw [List.drop_left' rfl]; rfl
   exact this
  rw [e1, e2]; rfl
def c134 : SFun := ⟨.seq (.reg [o 4 (.boxF 39 2 (.t 0))]) (.seq (.reg [o 10 (.fldA 0 (.t 4)), o 11 (.ld 1 false (.t 10)), o 12 (.mv (.t 1)), o 13 (.idxA 6 (.t 11) (.t 12)), o 14 (.fldA 5 (.t 13)), o 15 (.ld 1 false (.t 14)), o 16 (.len (.t 15)), o 17 (.mv (.c (.int .i64 0)))]) (.block 0 (.loop (.seq (.reg [o 18 (.bin .lss (.t 17) (.t 16))]) (.seq (.cond (.t 18) .skip (.exit 0)) (.seq (.block 1 (.seq (.reg [o 19 (.idxA 1 (.t 15) (.t 17)), o 20 (.ld 1 false (.t 19)), o 9 (.mv (.t 20))]) (.seq (.dreg [(o 21 (.mv (.t 3)), none), (o 22 (.mv (.t 2)), none), (o 23 (.pcall 190 [.c (.str [32]), .t 22]), none), (o 24 (.fldA 0 (.t 4)), none), (o 25 (.ld 1 false (.t 24)), none), (o 26 (.mv (.t 9)), none), (o 27 (.idxA 6 (.t 25) (.t 26)), none), (o 28 (.ld 6 true (.t 27)), none), (o 29 (.pcall 191 [.t 28]), none), (o 30 (.bin .add (.t 23) (.t 29)), none), (o 31 (.bin .add (.t 30) (.c (.str [10]))), none), (o 32 (.call (.c (.fn 51 [] [])) [.t 21, .t 31]), (some [28, 25]))]) (.reg [o 33 (.ld 2 true (.t 4)), o 34 (.mv (.t 9)), o 35 (.mv (.t 2)), o 36 (.bin .add (.t 35) (.c (.int .i64 1))), o 37 (.mv (.t 3)), o 38 (.call (.c (.fn 134 [] [])) [.t 33, .t 34, .t 36, .t 37])])))) (.reg [o 39 (.bin .add (.t 17) (.c (.int .i64 1))), o 17 (.mv (.t 39))]))))))), []⟩
theorem hc134 : X8 Tryz.prog {pure := [190, 191]} Tryz.f134 = some c134 := by kernel_rfl
def LinesC (G : Glob) (d : HDoc) (n : Int) : Prop := ∀ (h0 h : J1) (rb k : Nat) (s : List UInt8), Bl h0 rb s h -> k <= up d n -> s.length + (linesM d n k).length <= 100000000 ->
 DCalls (Pg G) 134 [.agg (J4 d), Y0 n, Y0 k, .vp rb 0] h fun a h' => a = .tup [] /\ Bl h0 rb (s ++ linesM d n k) h'
theorem lines_ok (d : HDoc) (V : DV d) : ∀ n, inD d n -> LinesC G d n := V.down fun n hn ih h0 h rb q s B hq hs => by
 have i0 := hn.1
 have i1 := hn.2
 have e0 : nth d.nodes n.toNat = nd d n := rfl
 have hup := V.deep n hn
 have kl : (nd d n).kids.length <= 200 := by
  have := nodup_len d.nodes.length (nd d n).kids (V.nodup n hn) fun k hk => (V.kid n hn k hk).1
  have := V.len; omega
 have hR := repeat_ok (G := G) q (by omega)
 have le := lines_eq V hn q
 rw [le] at hs ⊢
 refine Z9 Tryz.func134 (by kernel_rfl) hc134 (by rw [Tryz.ntmps134]; simp) (by rw [Tryz.ntmps134]; decide) ?_
 simp -dsimp -implicitDefEqProofs (disch := omega) only [VCA, Z1, ↓Q3, Nat.reduceEqDiff, Nat.reduceBEq, Nat.reduceAdd, Nat.reduceSub, Nat.reduceMul, Nat.reduceLT, Nat.reduceLeDiff, ↓reduceIte, reduceCtorEq, Z7, Q6, SOp.rd, SI.rd, SX.rd, rdL, rdO, rdP, Q5, Q4, Q2, Q8, Q7, Z0, implies_true, forall_const, forall_eq, ne_eq, exists_eq_right_right, exists_eq_right, exists_eq_left, exists_eq_left', Q9, Z3, Z8, Z6, Z4, c134, J4]
 repeat' (first | ((with_reducible refine brC (fun _ => ?_) fun _ => ?_) <;> try (exfalso; omega)) | (with_reducible refine And.intro ?_ ?_; · omega) | simp -dsimp -implicitDefEqProofs (disch := omega) only [VCA, Z1, ↓Q3, Nat.reduceEqDiff, Nat.reduceBEq, Nat.reduceAdd, Nat.reduceSub, Nat.reduceMul, Nat.reduceLT, Nat.reduceLeDiff, ↓reduceIte, reduceCtorEq, Z7, Q6, SOp.rd, SI.rd, SX.rd, rdL, rdO, rdP, Q5, Q4, Q2, Q8, Q7, Z0, implies_true, forall_const, forall_eq, ne_eq, exists_eq_right_right, exists_eq_right, exists_eq_left, exists_eq_left', Q9, Z3, Z8, Z6, Z4, e0, Z5, J4])
 refine LoopVC.intro (fun m e h' => ∃ k : Nat, k <= (nd d n).kids.length /\ m = (nd d n).kids.length - k /\ e 2 = Y0 q /\ e 3 = .vp rb 0 /\ e 4 = .pin (J4 d) /\ e 15 = sl Z8 (nd d n).kids /\ e 16 = Y0 (nd d n).kids.length /\ e 17 = Y0 k /\
   Bl h0 rb (s ++ ((nd d n).kids.take k).flatMap (fun m => rowL d q m ++ linesM d m (q + 1))) h') (nd d n).kids.length
  ⟨0, by omega, by omega, rfl, rfl, rfl, rfl, rfl, rfl, by simpa using B⟩ ?_
 rintro m e h' ⟨k, hk, rfl, e2, e3, e4, e15, e16, e17, B'⟩
 by_cases hlt : k < (nd d n).kids.length
 ·obtain ⟨c, hcc⟩ : ∃ c, nth (nd d n).kids k = c := ⟨_, rfl⟩
  have hm : c ∈ (nd d n).kids := hcc ▸ X9 hlt
  have hci := (V.kid n hn c hm).1
  have c0 := hci.1
  have c1 := hci.2
  have ec : nth d.nodes c.toNat = nd d c := rfl
  have Zc := nodeE_sz (V.node c hci)
  have hL := line_ok (G := G) (nd d c) Zc
  have hll := line_len Zc
  have ts : ((nd d n).kids.take (k + 1)).flatMap (fun m => rowL d q m ++ linesM d m (q + 1)) = ((nd d n).kids.take k).flatMap (fun m => rowL d q m ++ linesM d m (q + 1)) ++ (rowL d q c ++ linesM d c (q + 1)) := by
   rw [K7 hlt, List.flatMap_append, List.flatMap_cons, List.flatMap_nil, List.append_nil, hcc]
  have hlen : (((nd d n).kids.take (k + 1)).flatMap (fun m => rowL d q m ++ linesM d m (q + 1))).length <= ((nd d n).kids.flatMap (fun m => rowL d q m ++ linesM d m (q + 1))).length := by
   conv => rhs; rw [<- List.take_append_drop (k + 1) (nd d n).kids, List.flatMap_append, List.length_append]
   omega
  rw [ts, List.length_append, List.length_append] at hlen
  have eL : (rowL d q c).length = q + (lineM (nd d c)).length + 1 := by unfold rowL; simp only [List.length_append, List.length_replicate, List.length_cons, List.length_nil]
  have hW := writeString_ok (G := G) (List.replicate q 32 ++ lineM (nd d c) ++ [10]) B' (by simp only [List.length_append, List.length_replicate, List.length_cons, List.length_nil]; omega)
  have hu := V.up_kid hn hm
  unfold Z5 at hL
  repeat' (first | ((with_reducible refine brC (fun _ => ?_) fun _ => ?_) <;> try (exfalso; omega)) | (with_reducible apply pcallE.of; · exact hR) | (with_reducible apply pcallE.of; · exact hL) | (with_reducible refine And.intro ?_ ?_; · omega) | simp -dsimp -implicitDefEqProofs (disch := omega) only [VCA, Z1, ↓Q3, Nat.reduceEqDiff, Nat.reduceBEq, Nat.reduceAdd, Nat.reduceSub, Nat.reduceMul, Nat.reduceLT, Nat.reduceLeDiff, ↓reduceIte, reduceCtorEq, Z7, Q6, SOp.rd, SI.rd, SX.rd, rdL, rdO, rdP, Q5, Q4, Q2, Q8, Q7, Z0, implies_true, forall_const, forall_eq, ne_eq, exists_eq_right_right, exists_eq_right, exists_eq_left, exists_eq_left', Q9, Z3, Z8, Z6, Z4, e2, e3, e4, e15, e16, e17, hcc, ec, J4, Z5])
  refine ⟨by rw [List.length_replicate]; omega, by rw [List.length_append, List.length_replicate]; omega, DCalls.of hW ?_⟩
  rintro a h5 ⟨rfl, B5⟩
  have hI := ih c hm h0 h5 rb (q + 1) _ B5 (by omega) (by
   simp only [List.length_append, List.length_replicate, List.length_cons, List.length_nil]; omega)
  unfold J4 at hI
  have eq1 : ((q + 1 : Nat) : Int) = (q : Int) + 1 := by omega
  rw [eq1] at hI
  repeat' (first | ((with_reducible refine brC (fun _ => ?_) fun _ => ?_) <;> try (exfalso; omega)) | (with_reducible refine And.intro ?_ ?_; · omega) | simp -dsimp -implicitDefEqProofs (disch := omega) only [VCA, Z1, ↓Q3, Nat.reduceEqDiff, Nat.reduceBEq, Nat.reduceAdd, Nat.reduceSub, Nat.reduceMul, Nat.reduceLT, Nat.reduceLeDiff, ↓reduceIte, reduceCtorEq, Z7, Q6, SOp.rd, SI.rd, SX.rd, rdL, rdO, rdP, Q5, Q4, Q2, Q8, Q7, Z0, implies_true, forall_const, forall_eq, ne_eq, exists_eq_right_right, exists_eq_right, exists_eq_left, exists_eq_left', Q9, Z3, Z8, Z6, Z4, e2, e3, e4, e15, e16, e17, J4])
  refine DCalls.of hI ?_
  rintro a h6 ⟨rfl, B6⟩
  simp -dsimp -implicitDefEqProofs (disch := omega) only [VCA, Z1, ↓Q3, Nat.reduceEqDiff, Nat.reduceBEq, Nat.reduceAdd, Nat.reduceSub, Nat.reduceMul, Nat.reduceLT, Nat.reduceLeDiff, ↓reduceIte, reduceCtorEq, Z7, Q6, SOp.rd, SI.rd, SX.rd, rdL, rdO, rdP, Q5, Q4, Q2, Q8, Q7, Z0, implies_true, forall_const, forall_eq, ne_eq, exists_eq_right_right, exists_eq_right, exists_eq_left, exists_eq_left', Q9, Z3, Z8, Z6, Z4, e2, e3, e4, e15, e16, e17]
  exact ⟨_, by omega, k + 1, by omega, rfl, rfl, by omega, by rw [ts, show rowL d q c = List.replicate q 32 ++ lineM (nd d c) ++ [10] from rfl, <- List.append_assoc, <- List.append_assoc]; exact B6⟩
 ·obtain rfl : k = (nd d n).kids.length := by omega
  rw [List.take_length] at B'
  repeat' (first | ((with_reducible refine brC (fun _ => ?_) fun _ => ?_) <;> try (exfalso; omega)) | (with_reducible refine And.intro ?_ ?_; · omega) | simp -dsimp -implicitDefEqProofs (disch := omega) only [VCA, Z1, ↓Q3, Nat.reduceEqDiff, Nat.reduceBEq, Nat.reduceAdd, Nat.reduceSub, Nat.reduceMul, Nat.reduceLT, Nat.reduceLeDiff, ↓reduceIte, reduceCtorEq, Z7, Q6, SOp.rd, SI.rd, SX.rd, rdL, rdO, rdP, Q5, Q4, Q2, Q8, Q7, Z0, implies_true, forall_const, forall_eq, ne_eq, exists_eq_right_right, exists_eq_right, exists_eq_left, exists_eq_left', Q9, Z3, Z8, Z6, Z4, e2, e3, e4, e15, e16, e17, J4])
  exact ⟨_, Sub.refl _, B'⟩
def c59 : SFun := ⟨.seq (.reg [o 1 (.boxF 39 2 (.t 0)), o 2 (.mv (.c (.str [])))]) (.seq (.reg [o 3 (.new 85 2 [.prim (Value.pointer none), .emp])]) (.seq (.seq (.reg [o 4 (.fldA 1 (.t 1)), o 5 (.ld 1 false (.t 4))]) (.cond (.t 5) (.reg [o 6 (.call (.c (.fn 51 [] [])) [.t 3, .c (.str [126, 10])])]) .skip)) (.seq (.reg [o 7 (.ld 2 true (.t 1)), o 8 (.call (.c (.fn 134 [] [])) [.t 7, .c (.int .i64 0), .c (.int .i64 0), .t 3])]) (.seq (.reg [o 9 (.call (.c (.fn 54 [] [])) [.t 3]), o 2 (.mv (.t 9))]) .ret)))), [.tmp 2]⟩
theorem hc59 : X8 Tryz.prog {} Tryz.f59 = some c59 := by kernel_rfl
theorem tree_ok (d : HDoc) (V : DV d) : PCalls (Pg G) 59 [.agg (J4 d)] (.str (treeM d)) := fun h => by
 have hu : up d 0 = 0 := V.up_top (by rw [V.root]; omega)
 have hlen := lines_len V 0 V.zero 0 (Nat.zero_le _)
 have hbl := below_len V V.zero
 have vl := V.len
 have hL := lines_ok (G := G) d V 0 V.zero
 unfold treeM
 refine Z9 Tryz.func59 (by kernel_rfl) hc59 (by rw [Tryz.ntmps59]; simp) (by rw [Tryz.ntmps59]; decide) ?_
 simp -dsimp -implicitDefEqProofs (disch := omega) only [VCA, Z1, ↓Q3, Nat.reduceEqDiff, Nat.reduceBEq, Nat.reduceAdd, Nat.reduceSub, Nat.reduceMul, Nat.reduceLT, Nat.reduceLeDiff, ↓reduceIte, reduceCtorEq, Z7, Q6, SOp.rd, SI.rd, SX.rd, rdL, rdO, rdP, Q5, Q4, Q2, Q8, Q7, Z0, implies_true, forall_const, forall_eq, ne_eq, exists_eq_right_right, exists_eq_right, exists_eq_left, exists_eq_left', Q9, Z3, Z8, Z6, Z4, c59, J4]
 intro rb hrb
 have B0 := Bl.new h rb hrb
 have hW := writeString_ok (G := G) [126, 10] B0 (by simp)
 have fin : ∀ (s : List UInt8) (h1 : J1), s.length <= 2 -> Bl h rb s h1 -> DCalls (Pg G) 134 [.agg [sl Z5 d.nodes, .bool d.quirks], Y0 0, Y0 0, .vp rb 0] h1 fun a h' => a = .tup [] /\ Bl h rb (s ++ linesM d 0 0) h' := fun s h1 hs B =>
  hL h h1 rb 0 s B (Nat.zero_le _) (by omega)
 cases hq : d.quirks with
 | true =>
  rw [hq] at fin
  repeat' (first | ((with_reducible refine brC (fun _ => ?_) fun _ => ?_) <;> try (exfalso; omega)) | (with_reducible refine And.intro ?_ ?_; · omega) | simp -dsimp -implicitDefEqProofs (disch := omega) only [VCA, Z1, ↓Q3, Nat.reduceEqDiff, Nat.reduceBEq, Nat.reduceAdd, Nat.reduceSub, Nat.reduceMul, Nat.reduceLT, Nat.reduceLeDiff, ↓reduceIte, reduceCtorEq, Z7, Q6, SOp.rd, SI.rd, SX.rd, rdL, rdO, rdP, Q5, Q4, Q2, Q8, Q7, Z0, implies_true, forall_const, forall_eq, ne_eq, exists_eq_right_right, exists_eq_right, exists_eq_left, exists_eq_left', Q9, Z3, Z8, Z6, Z4, hq])
  all_goals first
   | (refine DCalls.of hW ?_
      rintro a h5 ⟨rfl, B5⟩
      rw [List.nil_append] at B5
      repeat' (first | ((with_reducible refine brC (fun _ => ?_) fun _ => ?_) <;> try (exfalso; omega)) | (with_reducible refine And.intro ?_ ?_; · omega) | simp -dsimp -implicitDefEqProofs (disch := omega) only [VCA, Z1, ↓Q3, Nat.reduceEqDiff, Nat.reduceBEq, Nat.reduceAdd, Nat.reduceSub, Nat.reduceMul, Nat.reduceLT, Nat.reduceLeDiff, ↓reduceIte, reduceCtorEq, Z7, Q6, SOp.rd, SI.rd, SX.rd, rdL, rdO, rdP, Q5, Q4, Q2, Q8, Q7, Z0, implies_true, forall_const, forall_eq, ne_eq, exists_eq_right_right, exists_eq_right, exists_eq_left, exists_eq_left', Q9, Z3, Z8, Z6, Z4, hq])
      refine DCalls.of (fin _ h5 (by simp) B5) ?_
      rintro a h6 ⟨rfl, B6⟩
      repeat' (first | ((with_reducible refine brC (fun _ => ?_) fun _ => ?_) <;> try (exfalso; omega)) | (with_reducible refine And.intro ?_ ?_; · omega) | simp -dsimp -implicitDefEqProofs (disch := omega) only [VCA, Z1, ↓Q3, Nat.reduceEqDiff, Nat.reduceBEq, Nat.reduceAdd, Nat.reduceSub, Nat.reduceMul, Nat.reduceLT, Nat.reduceLeDiff, ↓reduceIte, reduceCtorEq, Z7, Q6, SOp.rd, SI.rd, SX.rd, rdL, rdO, rdP, Q5, Q4, Q2, Q8, Q7, Z0, implies_true, forall_const, forall_eq, ne_eq, exists_eq_right_right, exists_eq_right, exists_eq_left, exists_eq_left', Q9, Z3, Z8, Z6, Z4, hq])
      refine DCalls.of (string_ok B6 (by simp only [List.length_append, List.length_cons, List.length_nil]; omega)) ?_
      rintro a h7 ⟨rfl, S⟩
      simp -dsimp -implicitDefEqProofs (disch := omega) only [VCA, Z1, ↓Q3, Nat.reduceEqDiff, Nat.reduceBEq, Nat.reduceAdd, Nat.reduceSub, Nat.reduceMul, Nat.reduceLT, Nat.reduceLeDiff, ↓reduceIte, reduceCtorEq, Z7, Q6, SOp.rd, SI.rd, SX.rd, rdL, rdO, rdP, Q5, Q4, Q2, Q8, Q7, Z0, implies_true, forall_const, forall_eq, ne_eq, exists_eq_right_right, exists_eq_right, exists_eq_left, exists_eq_left', Q9, Z3, Z8, Z6, Z4, hq]
      exact S)
   | (exfalso; simp_all; done)
 | false =>
  rw [hq] at fin
  repeat' (first | ((with_reducible refine brC (fun _ => ?_) fun _ => ?_) <;> try (exfalso; omega)) | (with_reducible refine And.intro ?_ ?_; · omega) | simp -dsimp -implicitDefEqProofs (disch := omega) only [VCA, Z1, ↓Q3, Nat.reduceEqDiff, Nat.reduceBEq, Nat.reduceAdd, Nat.reduceSub, Nat.reduceMul, Nat.reduceLT, Nat.reduceLeDiff, ↓reduceIte, reduceCtorEq, Z7, Q6, SOp.rd, SI.rd, SX.rd, rdL, rdO, rdP, Q5, Q4, Q2, Q8, Q7, Z0, implies_true, forall_const, forall_eq, ne_eq, exists_eq_right_right, exists_eq_right, exists_eq_left, exists_eq_left', Q9, Z3, Z8, Z6, Z4, hq])
  all_goals first
   | (refine DCalls.of (fin _ _ (by simp) B0) ?_
      rintro a h6 ⟨rfl, B6⟩
      rw [List.nil_append] at B6
      repeat' (first | ((with_reducible refine brC (fun _ => ?_) fun _ => ?_) <;> try (exfalso; omega)) | (with_reducible refine And.intro ?_ ?_; · omega) | simp -dsimp -implicitDefEqProofs (disch := omega) only [VCA, Z1, ↓Q3, Nat.reduceEqDiff, Nat.reduceBEq, Nat.reduceAdd, Nat.reduceSub, Nat.reduceMul, Nat.reduceLT, Nat.reduceLeDiff, ↓reduceIte, reduceCtorEq, Z7, Q6, SOp.rd, SI.rd, SX.rd, rdL, rdO, rdP, Q5, Q4, Q2, Q8, Q7, Z0, implies_true, forall_const, forall_eq, ne_eq, exists_eq_right_right, exists_eq_right, exists_eq_left, exists_eq_left', Q9, Z3, Z8, Z6, Z4, hq])
      refine DCalls.of (string_ok B6 (by omega)) ?_
      rintro a h7 ⟨rfl, S⟩
      simp -dsimp -implicitDefEqProofs (disch := omega) only [VCA, Z1, ↓Q3, Nat.reduceEqDiff, Nat.reduceBEq, Nat.reduceAdd, Nat.reduceSub, Nat.reduceMul, Nat.reduceLT, Nat.reduceLeDiff, ↓reduceIte, reduceCtorEq, Z7, Q6, SOp.rd, SI.rd, SX.rd, rdL, rdO, rdP, Q5, Q4, Q2, Q8, Q7, Z0, implies_true, forall_const, forall_eq, ne_eq, exists_eq_right_right, exists_eq_right, exists_eq_left, exists_eq_left', Q9, Z3, Z8, Z6, Z4, hq]
      exact S)
   | (exfalso; simp_all; done)
def c43 : SFun := ⟨.seq (.reg [o 2 (.mv (.c (.int .i64 0)))]) (.seq (.seq (.reg [o 3 (.mv (.t 0)), o 4 (.bin .eql (.t 3) (.c (.str [115, 99, 114, 105, 112, 116]))), o 5 (.mv (.t 4)), ⟨some 6, .mv (.t 0), some (5, false)⟩, ⟨some 7, .bin .eql (.t 6) (.c (.str [115, 116, 121, 108, 101])), some (5, false)⟩, o 8 (.pick (.t 5) (.c (.bool true)) (.t 7))]) (.cond (.t 8) (.seq (.reg [o 2 (.mv (.c (.int .i64 1)))]) .ret) .skip)) (.seq (.seq (.reg [o 9 (.mv (.t 0)), o 10 (.bin .eql (.t 9) (.c (.str [116, 101, 120, 116, 97, 114, 101, 97]))), o 11 (.mv (.t 10)), ⟨some 12, .mv (.t 0), some (11, false)⟩, ⟨some 13, .bin .eql (.t 12) (.c (.str [116, 105, 116, 108, 101])), some (11, false)⟩, o 14 (.pick (.t 11) (.c (.bool true)) (.t 13))]) (.cond (.t 14) (.seq (.reg [o 2 (.mv (.c (.int .i64 2)))]) .ret) .skip)) (.seq (.reg [o 2 (.mv (.c (.int .i64 0)))]) .ret))), [.tmp 2]⟩
theorem hc43 : X8 Tryz.prog {} Tryz.f43 = some c43 := by kernel_rfl
theorem refRaw_ok (nm : List UInt8) : PCalls (Pg G) 43 [.str nm] (Y0 (rawM nm)) := fun h => by
 unfold rawM
 refine Z9 Tryz.func43 (by kernel_rfl) hc43 (by rw [Tryz.ntmps43]; simp) (by rw [Tryz.ntmps43]; decide) ?_
 simp -dsimp -implicitDefEqProofs (disch := omega) only [↓Q0 5, ↓Q1 5, ↓Q0 11, ↓Q1 11, VCA, Z1, ↓Q3, Nat.reduceEqDiff, Nat.reduceBEq, Nat.reduceAdd, Nat.reduceSub, Nat.reduceMul, Nat.reduceLT, Nat.reduceLeDiff, ↓reduceIte, reduceCtorEq, Z7, Q6, SOp.rd, SI.rd, SX.rd, rdL, rdO, rdP, Q5, Q4, Q2, Q8, Q7, Z0, implies_true, forall_const, forall_eq, ne_eq, exists_eq_right_right, exists_eq_right, exists_eq_left, exists_eq_left', Q9, Z3, Z8, Z6, Z4, c43]
 repeat' (first | ((with_reducible refine brC (fun _ => ?_) fun _ => ?_) <;> try (exfalso; omega)) | (with_reducible refine And.intro ?_ ?_; · omega) | simp -dsimp -implicitDefEqProofs (disch := omega) only [↓Q0 5, ↓Q1 5, ↓Q0 11, ↓Q1 11, VCA, Z1, ↓Q3, Nat.reduceEqDiff, Nat.reduceBEq, Nat.reduceAdd, Nat.reduceSub, Nat.reduceMul, Nat.reduceLT, Nat.reduceLeDiff, ↓reduceIte, reduceCtorEq, Z7, Q6, SOp.rd, SI.rd, SX.rd, rdL, rdO, rdP, Q5, Q4, Q2, Q8, Q7, Z0, implies_true, forall_const, forall_eq, ne_eq, exists_eq_right_right, exists_eq_right, exists_eq_left, exists_eq_left', Q9, Z3, Z8, Z6, Z4])
 all_goals (refine ⟨Sub.refl _, ?_⟩; simp_all)
theorem digs_at (k : Nat) (h : k < 16) : (hexS.take (k + 1)).drop k = [hexD k] := by
 have : (List.range 16).all (fun k => (hexS.take (k + 1)).drop k == [hexD k]) = true := by decide +kernel
 have := List.all_eq_true.1 this k (List.mem_range.2 h)
 simpa using this
def c140 : SFun := ⟨.seq (.reg [o 2 (.mv (.c (.str [])))]) (.seq (.reg [o 3 (.mv (.c (.str [34])))]) (.seq (.reg [o 4 (.mv (.c (.str [48, 49, 50, 51, 52, 53, 54, 55, 56, 57, 97, 98, 99, 100, 101, 102])))]) (.seq (.seq (.reg [o 5 (.mv (.c (.int .i64 0)))]) (.block 0 (.loop (.seq (.seq (.reg [o 7 (.mv (.t 5)), o 8 (.mv (.t 0)), o 9 (.lenS (.t 8)), o 10 (.bin .lss (.t 7) (.t 9))]) (.cond (.t 10) .skip (.exit 0))) (.seq (.block 1 (.seq (.reg [o 13 (.mv (.t 0)), o 14 (.mv (.t 5)), o 15 (.idxS (.t 13) (.t 14)), o 16 (.cvi .i64 (.t 15)), o 6 (.mv (.t 16))]) (.seq (.reg [o 17 (.mv (.t 6)), o 18 (.pcall 61 [.t 17, .c (.int .i64 32), .c (.int .i64 126)]), o 19 (.mv (.t 18)), ⟨some 20, .mv (.t 6), some (19, true)⟩, ⟨some 21, .bin .neq (.t 20) (.c (.int .i64 34)), some (19, true)⟩, o 22 (.pick (.t 19) (.t 21) (.c (.bool false))), o 23 (.mv (.t 22)), ⟨some 24, .mv (.t 6), some (23, true)⟩, ⟨some 25, .bin .neq (.t 24) (.c (.int .i64 92)), some (23, true)⟩, o 26 (.pick (.t 23) (.t 25) (.c (.bool false)))]) (.cond (.t 26) (.reg [o 27 (.mv (.t 3)), o 28 (.mv (.t 0)), o 29 (.mv (.t 5)), o 30 (.mv (.t 5)), o 31 (.bin .add (.t 30) (.c (.int .i64 1))), o 32 (.slS (.t 28) (some (.t 29)) (some (.t 31))), o 33 (.bin .add (.t 27) (.t 32)), o 3 (.mv (.t 33))]) (.dreg [(o 34 (.mv (.t 3)), none), (o 35 (.mv (.t 4)), none), (o 36 (.mv (.t 6)), none), (o 37 (.bin .quo (.t 36) (.c (.int .i64 16))), none), (o 38 (.mv (.t 6)), none), (o 39 (.bin .quo (.t 38) (.c (.int .i64 16))), none), (o 40 (.bin .add (.t 39) (.c (.int .i64 1))), none), (o 41 (.slS (.t 35) (some (.t 37)) (some (.t 40))), none), (o 42 (.bin .add (.c (.str [92])) (.t 41)), none), (o 43 (.mv (.t 4)), none), (o 44 (.mv (.t 6)), none), (o 45 (.bin .rem (.t 44) (.c (.int .i64 16))), none), (o 46 (.mv (.t 6)), none), (o 47 (.bin .rem (.t 46) (.c (.int .i64 16))), none), (o 48 (.bin .add (.t 47) (.c (.int .i64 1))), none), (o 49 (.slS (.t 43) (some (.t 45)) (some (.t 48))), none), (o 50 (.bin .add (.t 42) (.t 49)), none), (o 51 (.bin .add (.t 34) (.t 50)), none), (o 3 (.mv (.t 51)), (some []))]))))) (.reg [o 11 (.mv (.t 5)), o 12 (.bin .add (.t 11) (.c (.int .i64 1))), o 5 (.mv (.t 12))])))))) (.seq (.reg [o 52 (.mv (.t 3)), o 53 (.bin .add (.t 52) (.c (.str [34]))), o 2 (.mv (.t 53))]) .ret)))), [.tmp 2]⟩
theorem hc140 : X8 Tryz.prog {pure := [61]} Tryz.f140 = some c140 := by kernel_rfl
theorem refQuote_ok (s : List UInt8) (hs : s.length <= 1073741824) : PCalls (Pg G) 140 [.str s] (.str (K8 s)) := fun h => by
 have hx : [48, 49, 50, 51, 52, 53, 54, 55, 56, 57, 97, 98, 99, 100, 101, 102] = hexS := rfl
 refine Z9 Tryz.func140 (by kernel_rfl) hc140 (by rw [Tryz.ntmps140]; simp) (by rw [Tryz.ntmps140]; decide) ?_
 simp -dsimp -implicitDefEqProofs (disch := omega) only [↓Q0 19, ↓Q1 19, ↓Q0 23, ↓Q1 23, VCA, Z1, ↓Q3, Nat.reduceEqDiff, Nat.reduceBEq, Nat.reduceAdd, Nat.reduceSub, Nat.reduceMul, Nat.reduceLT, Nat.reduceLeDiff, ↓reduceIte, reduceCtorEq, Z7, Q6, SOp.rd, SI.rd, SX.rd, rdL, rdO, rdP, Q5, Q4, Q2, Q8, Q7, Z0, implies_true, forall_const, forall_eq, ne_eq, exists_eq_right_right, exists_eq_right, exists_eq_left, exists_eq_left', Q9, Z3, Z8, Z6, Z4, c140]
 refine LoopVC.intro (fun m e h' => ∃ k : Nat, k <= s.length /\ m = s.length - k /\ e 0 = .str s /\ e 3 = .str (34 :: (s.take k).flatMap quoB) /\ e 4 = .str hexS /\ e 5 = Y0 k /\ Sub h h') s.length
  ⟨0, by omega, by omega, rfl, rfl, rfl, rfl, Sub.refl _⟩ ?_
 rintro m e h' ⟨k, hk, rfl, e0, e3, e4, e5, S⟩
 have bl : (34 :: (s.take k).flatMap quoB).length <= 3 * k + 1 := by
  have h1 := flat_le (f := quoB) (k := 3) (s.take k) fun b _ => by unfold quoB; split <;> simp
  rw [List.length_take] at h1
  simp only [List.length_cons]; omega
 by_cases hlt : k < s.length
 ·obtain ⟨c, hc⟩ : ∃ c, s.getD k 0 = c := ⟨_, rfl⟩
  have ts : (s.take (k + 1)).flatMap quoB = (s.take k).flatMap quoB ++ quoB c := by
   rw [K7 hlt, List.flatMap_append, List.flatMap_cons, List.flatMap_nil, List.append_nil]
   have : nth s k = c := hc
   rw [this]
  have hcc : (s.take (k + 1)).drop k = [c] := by
   rw [K7 hlt, List.drop_append_of_le_length (by rw [List.length_take]; omega), List.drop_of_length_le (by rw [List.length_take]; omega)]
   have : nth s k = c := hc
   rw [this]; rfl
  have cl : c.toNat < 256 := c.toNat_lt
  have hB := between_ok (G := G) (c.toNat : Int) 32 126
  have hp := plain_iff c
  have w1 : IntKind.i64.wrap (c.toNat : Int) = c.toNat := wrap_i64 (by omega) (by omega)
  have t1 : ((k : Int) + 1).toNat = k + 1 := by omega
  have k1 : IntKind.i64.wrap ((k : Int) + 1) = k + 1 := wrap_i64 (by omega) (by omega)
  by_cases hq : plainB c = true
  ·have hv := hp.1 hq
   have bb : (decide (32 <= (c.toNat : Int)) && decide ((c.toNat : Int) <= 126)) = true := by simp; omega
   have n34 : ((c.toNat : Int) != 34) = true := by rw [bne_iff_ne]; omega
   have n92 : ((c.toNat : Int) != 92) = true := by rw [bne_iff_ne]; omega
   have e1 : quoB c = [c] := if_pos hq
   rw [e1] at ts
   repeat' (first | ((with_reducible refine brC (fun _ => ?_) fun _ => ?_) <;> try (exfalso; omega)) | (with_reducible apply pcallE.of; · exact hB) | (with_reducible refine And.intro ?_ ?_; · omega) | simp -dsimp -implicitDefEqProofs (disch := omega) only [↓Q0 19, ↓Q1 19, ↓Q0 23, ↓Q1 23, VCA, Z1, ↓Q3, Nat.reduceEqDiff, Nat.reduceBEq, Nat.reduceAdd, Nat.reduceSub, Nat.reduceMul, Nat.reduceLT, Nat.reduceLeDiff, ↓reduceIte, reduceCtorEq, Z7, Q6, SOp.rd, SI.rd, SX.rd, rdL, rdO, rdP, Q5, Q4, Q2, Q8, Q7, Z0, implies_true, forall_const, forall_eq, ne_eq, exists_eq_right_right, exists_eq_right, exists_eq_left, exists_eq_left', Q9, Z3, Z8, Z6, Z4, e0, e3, e4, e5, hc, w1, bb, n34, n92, t1, hcc])
   all_goals first
    | (refine ⟨by simp only [List.length_cons] at bl; omega, _, by omega, k + 1, by omega, rfl, ?_, by omega, S⟩; rw [ts]; first | done | simp)
    | (exfalso; simp only [Bool.and_eq_true, decide_eq_true_eq] at *; omega)
    | trace_state
  ·have hv := Classical.byContradiction fun q => hq (hp.2 q)
   have e1 : quoB c = [92, hexD (c.toNat / 16), hexD (c.toNat % 16)] := if_neg hq
   rw [e1] at ts
   obtain ⟨P, hP⟩ : ∃ P, c.toNat / 16 = P := ⟨_, rfl⟩
   obtain ⟨R, hR⟩ : ∃ R, c.toNat % 16 = R := ⟨_, rfl⟩
   have P16 : P < 16 := by omega
   have R16 : R < 16 := by omega
   rw [hP, hR] at ts
   have d1 : (c.toNat : Int).tdiv 16 = (P : Int) := by rw [Int.tdiv_eq_ediv_of_nonneg (by omega)]; omega
   have d2 : (c.toNat : Int).tmod 16 = (R : Int) := by rw [Int.tmod_eq_emod_of_nonneg (by omega)]; omega
   have w2 : IntKind.i64.wrap (P : Int) = P := wrap_i64 (by omega) (by omega)
   have w3 : IntKind.i64.wrap ((P : Int) + 1) = P + 1 := wrap_i64 (by omega) (by omega)
   have w5 : IntKind.i64.wrap ((R : Int) + 1) = R + 1 := wrap_i64 (by omega) (by omega)
   have g1 := digs_at P P16
   have g2 := digs_at R R16
   have t2 : ((P : Int) + 1).toNat = P + 1 := by omega
   have t3 : ((R : Int) + 1).toNat = R + 1 := by omega
   have h16 : hexS.length = 16 := rfl
   repeat' (first | ((with_reducible refine brC (fun _ => ?_) fun _ => ?_) <;> try (exfalso; omega)) | (with_reducible apply pcallE.of; · exact hB) | (with_reducible refine And.intro ?_ ?_; · omega) | simp -dsimp -implicitDefEqProofs (disch := omega) only [↓Q0 19, ↓Q1 19, ↓Q0 23, ↓Q1 23, VCA, Z1, ↓Q3, Nat.reduceEqDiff, Nat.reduceBEq, Nat.reduceAdd, Nat.reduceSub, Nat.reduceMul, Nat.reduceLT, Nat.reduceLeDiff, ↓reduceIte, reduceCtorEq, Z7, Q6, SOp.rd, SI.rd, SX.rd, rdL, rdO, rdP, Q5, Q4, Q2, Q8, Q7, Z0, implies_true, forall_const, forall_eq, ne_eq, exists_eq_right_right, exists_eq_right, exists_eq_left, exists_eq_left', Q9, Z3, Z8, Z6, Z4, e0, e3, e4, e5, hc, w1, t1, d1, d2, w2, w3, w5, g1, g2, t2, t3, h16])
   all_goals first
    | (refine ⟨by simp only [List.length_cons] at bl; omega, _, by omega, k + 1, by omega, rfl, ?_, by omega, S⟩; rw [ts]; first | done | simp)
    | (exfalso; simp only [Bool.and_eq_true, decide_eq_true_eq] at *; omega)
    | trace_state
 ·obtain rfl : k = s.length := by omega
  repeat' (first | ((with_reducible refine brC (fun _ => ?_) fun _ => ?_) <;> try (exfalso; omega)) | (with_reducible refine And.intro ?_ ?_; · omega) | simp -dsimp -implicitDefEqProofs (disch := omega) only [↓Q0 19, ↓Q1 19, ↓Q0 23, ↓Q1 23, VCA, Z1, ↓Q3, Nat.reduceEqDiff, Nat.reduceBEq, Nat.reduceAdd, Nat.reduceSub, Nat.reduceMul, Nat.reduceLT, Nat.reduceLeDiff, ↓reduceIte, reduceCtorEq, Z7, Q6, SOp.rd, SI.rd, SX.rd, rdL, rdO, rdP, Q5, Q4, Q2, Q8, Q7, Z0, implies_true, forall_const, forall_eq, ne_eq, exists_eq_right_right, exists_eq_right, exists_eq_left, exists_eq_left', Q9, Z3, Z8, Z6, Z4, e0, e3, e4, e5])
  rw [List.take_length] at bl
  simp only [List.length_cons] at bl
  exact ⟨by omega, S, by simp [K8]⟩
def c68 : SFun := ⟨.seq (.reg [o 1 (.boxF 101 6 (.t 0)), o 2 (.mv (.c (.str [])))]) (.seq (.seq (.reg [o 5 (.fldA 0 (.t 1)), o 6 (.ld 1 false (.t 5)), o 7 (.bin .eql (.t 6) (.c (.int .i64 5)))]) (.cond (.t 7) (.seq (.reg [o 8 (.fldA 1 (.t 1)), o 9 (.ld 1 false (.t 8)), o 10 (.pcall 140 [.t 9]), o 11 (.bin .add (.c (.str [33])) (.t 10)), o 2 (.mv (.t 11))]) .ret) .skip)) (.seq (.seq (.reg [o 12 (.fldA 0 (.t 1)), o 13 (.ld 1 false (.t 12)), o 14 (.bin .eql (.t 13) (.c (.int .i64 3)))]) (.cond (.t 14) (.seq (.reg [o 15 (.fldA 3 (.t 1)), o 16 (.ld 1 false (.t 15)), o 17 (.pcall 140 [.t 16]), o 2 (.mv (.t 17))]) .ret) .skip)) (.seq (.seq (.reg [o 18 (.fldA 0 (.t 1)), o 19 (.ld 1 false (.t 18)), o 20 (.bin .eql (.t 19) (.c (.int .i64 4)))]) (.cond (.t 20) (.seq (.reg [o 21 (.fldA 3 (.t 1)), o 22 (.ld 1 false (.t 21)), o 23 (.pcall 140 [.t 22]), o 24 (.bin .add (.c (.str [45])) (.t 23)), o 2 (.mv (.t 24))]) .ret) .skip)) (.seq (.reg [o 25 (.fldA 1 (.t 1)), o 26 (.ld 1 false (.t 25)), o 3 (.mv (.t 26))]) (.seq (.seq (.reg [o 4 (.mv (.c (.int .i64 0)))]) (.block 0 (.loop (.seq (.seq (.reg [o 27 (.mv (.t 4)), o 28 (.fldA 2 (.t 1)), o 29 (.ld 1 false (.t 28)), o 30 (.len (.t 29)), o 31 (.bin .lss (.t 27) (.t 30))]) (.cond (.t 31) .skip (.exit 0))) (.seq (.block 1 (.dreg [(o 34 (.mv (.t 3)), none), (o 35 (.fldA 2 (.t 1)), none), (o 36 (.ld 1 false (.t 35)), none), (o 37 (.mv (.t 4)), none), (o 38 (.idxA 2 (.t 36) (.t 37)), none), (o 39 (.fldA 0 (.t 38)), none), (o 40 (.ld 1 false (.t 39)), none), (o 41 (.bin .add (.c (.str [32])) (.t 40)), none), (o 42 (.bin .add (.t 41) (.c (.str [61]))), none), (o 43 (.fldA 2 (.t 1)), none), (o 44 (.ld 1 false (.t 43)), none), (o 45 (.mv (.t 4)), none), (o 46 (.idxA 2 (.t 44) (.t 45)), none), (o 47 (.fldA 1 (.t 46)), none), (o 48 (.ld 1 false (.t 47)), none), (o 49 (.pcall 140 [.t 48]), none), (o 50 (.bin .add (.t 42) (.t 49)), none), (o 51 (.bin .add (.t 34) (.t 50)), none), (o 3 (.mv (.t 51)), (some [40, 36, 48, 44]))])) (.reg [o 32 (.mv (.t 4)), o 33 (.bin .add (.t 32) (.c (.int .i64 1))), o 4 (.mv (.t 33))])))))) (.seq (.reg [o 52 (.mv (.t 3)), o 2 (.mv (.t 52))]) .ret)))))), [.tmp 2]⟩
theorem hc68 : X8 Tryz.prog {pure := [140]} Tryz.f68 = some c68 := by kernel_rfl
theorem hn68 : (Tryz.f68.name == "runtime.NumGoroutine") = false := by kernel_rfl
theorem refLine_ok (x : HNode) (Z : NodeSz x) : PCalls (Pg G) 68 [.agg (Z5 x)] (.str (lineM x)) := fun h => by
 have hq : ∀ s : List UInt8, s.length <= 400 -> PCalls (Pg G) 140 [.str s] (.str (K8 s)) := fun s hs => refQuote_ok s (by omega)
 have zn := hq _ Z.name
 have zt := hq _ Z.text
 have za := Z.attrs
 have z1 := Z.name
 have z2 := Z.text
 have ql1 := quote_len x.name
 have ql2 := quote_len x.text
 unfold lineM
 have fl := fun (k : Nat) => flat_le (f := attrL) (k := 1300) (x.attrs.take k) fun a ha => by
  have h1 := Z.each a (List.mem_of_mem_take ha)
  have h2 := quote_len a.value
  unfold attrL
  simp only [List.length_append, List.length_cons, List.length_nil]; omega
 by_cases h5 : x.kind = 5
 ·have b5 : (x.kind == 5) = true := by simpa using h5
  rw [if_pos h5]
  refine Z9 Tryz.func68 hn68 hc68 (by rw [Tryz.ntmps68]; simp) (by rw [Tryz.ntmps68]; decide) ?_
  simp -dsimp -implicitDefEqProofs (disch := omega) only [VCA, Z1, ↓Q3, Nat.reduceEqDiff, Nat.reduceBEq, Nat.reduceAdd, Nat.reduceSub, Nat.reduceMul, Nat.reduceLT, Nat.reduceLeDiff, ↓reduceIte, reduceCtorEq, Z7, Q6, SOp.rd, SI.rd, SX.rd, rdL, rdO, rdP, Q5, Q4, Q2, Q8, Q7, Z0, implies_true, forall_const, forall_eq, ne_eq, exists_eq_right_right, exists_eq_right, exists_eq_left, exists_eq_left', Q9, Z3, Z8, Z6, Z4, c68, Z5]
  repeat' (first | ((with_reducible refine brC (fun _ => ?_) fun _ => ?_) <;> try (exfalso; omega)) | (with_reducible apply pcallE.of; · exact zn) | (with_reducible refine And.intro ?_ ?_; · omega) | simp -dsimp -implicitDefEqProofs (disch := omega) only [VCA, Z1, ↓Q3, Nat.reduceEqDiff, Nat.reduceBEq, Nat.reduceAdd, Nat.reduceSub, Nat.reduceMul, Nat.reduceLT, Nat.reduceLeDiff, ↓reduceIte, reduceCtorEq, Z7, Q6, SOp.rd, SI.rd, SX.rd, rdL, rdO, rdP, Q5, Q4, Q2, Q8, Q7, Z0, implies_true, forall_const, forall_eq, ne_eq, exists_eq_right_right, exists_eq_right, exists_eq_left, exists_eq_left', Q9, Z3, Z8, Z6, Z4, b5, Z5])
  all_goals first | exact Sub.refl _ | exact ⟨by omega, Sub.refl _⟩
 have b5 : (x.kind == 5) = false := by simpa using h5
 rw [if_neg h5]
 by_cases h3 : x.kind = 3
 ·have b3 : (x.kind == 3) = true := by simpa using h3
  rw [if_pos h3]
  refine Z9 Tryz.func68 hn68 hc68 (by rw [Tryz.ntmps68]; simp) (by rw [Tryz.ntmps68]; decide) ?_
  simp -dsimp -implicitDefEqProofs (disch := omega) only [VCA, Z1, ↓Q3, Nat.reduceEqDiff, Nat.reduceBEq, Nat.reduceAdd, Nat.reduceSub, Nat.reduceMul, Nat.reduceLT, Nat.reduceLeDiff, ↓reduceIte, reduceCtorEq, Z7, Q6, SOp.rd, SI.rd, SX.rd, rdL, rdO, rdP, Q5, Q4, Q2, Q8, Q7, Z0, implies_true, forall_const, forall_eq, ne_eq, exists_eq_right_right, exists_eq_right, exists_eq_left, exists_eq_left', Q9, Z3, Z8, Z6, Z4, c68, Z5]
  repeat' (first | ((with_reducible refine brC (fun _ => ?_) fun _ => ?_) <;> try (exfalso; omega)) | (with_reducible apply pcallE.of; · exact zt) | (with_reducible refine And.intro ?_ ?_; · omega) | simp -dsimp -implicitDefEqProofs (disch := omega) only [VCA, Z1, ↓Q3, Nat.reduceEqDiff, Nat.reduceBEq, Nat.reduceAdd, Nat.reduceSub, Nat.reduceMul, Nat.reduceLT, Nat.reduceLeDiff, ↓reduceIte, reduceCtorEq, Z7, Q6, SOp.rd, SI.rd, SX.rd, rdL, rdO, rdP, Q5, Q4, Q2, Q8, Q7, Z0, implies_true, forall_const, forall_eq, ne_eq, exists_eq_right_right, exists_eq_right, exists_eq_left, exists_eq_left', Q9, Z3, Z8, Z6, Z4, b5, b3, Z5])
  all_goals first | exact Sub.refl _ | exact ⟨by omega, Sub.refl _⟩
 have b3 : (x.kind == 3) = false := by simpa using h3
 rw [if_neg h3]
 by_cases h4 : x.kind = 4
 ·have b4 : (x.kind == 4) = true := by simpa using h4
  rw [if_pos h4]
  refine Z9 Tryz.func68 hn68 hc68 (by rw [Tryz.ntmps68]; simp) (by rw [Tryz.ntmps68]; decide) ?_
  simp -dsimp -implicitDefEqProofs (disch := omega) only [VCA, Z1, ↓Q3, Nat.reduceEqDiff, Nat.reduceBEq, Nat.reduceAdd, Nat.reduceSub, Nat.reduceMul, Nat.reduceLT, Nat.reduceLeDiff, ↓reduceIte, reduceCtorEq, Z7, Q6, SOp.rd, SI.rd, SX.rd, rdL, rdO, rdP, Q5, Q4, Q2, Q8, Q7, Z0, implies_true, forall_const, forall_eq, ne_eq, exists_eq_right_right, exists_eq_right, exists_eq_left, exists_eq_left', Q9, Z3, Z8, Z6, Z4, c68, Z5]
  repeat' (first | ((with_reducible refine brC (fun _ => ?_) fun _ => ?_) <;> try (exfalso; omega)) | (with_reducible apply pcallE.of; · exact zt) | (with_reducible refine And.intro ?_ ?_; · omega) | simp -dsimp -implicitDefEqProofs (disch := omega) only [VCA, Z1, ↓Q3, Nat.reduceEqDiff, Nat.reduceBEq, Nat.reduceAdd, Nat.reduceSub, Nat.reduceMul, Nat.reduceLT, Nat.reduceLeDiff, ↓reduceIte, reduceCtorEq, Z7, Q6, SOp.rd, SI.rd, SX.rd, rdL, rdO, rdP, Q5, Q4, Q2, Q8, Q7, Z0, implies_true, forall_const, forall_eq, ne_eq, exists_eq_right_right, exists_eq_right, exists_eq_left, exists_eq_left', Q9, Z3, Z8, Z6, Z4, b5, b3, b4, Z5])
  all_goals first | exact Sub.refl _ | exact ⟨by omega, Sub.refl _⟩
 have b4 : (x.kind == 4) = false := by simpa using h4
 rw [if_neg h4]
 refine Z9 Tryz.func68 hn68 hc68 (by rw [Tryz.ntmps68]; simp) (by rw [Tryz.ntmps68]; decide) ?_
 simp -dsimp -implicitDefEqProofs (disch := omega) only [VCA, Z1, ↓Q3, Nat.reduceEqDiff, Nat.reduceBEq, Nat.reduceAdd, Nat.reduceSub, Nat.reduceMul, Nat.reduceLT, Nat.reduceLeDiff, ↓reduceIte, reduceCtorEq, Z7, Q6, SOp.rd, SI.rd, SX.rd, rdL, rdO, rdP, Q5, Q4, Q2, Q8, Q7, Z0, implies_true, forall_const, forall_eq, ne_eq, exists_eq_right_right, exists_eq_right, exists_eq_left, exists_eq_left', Q9, Z3, Z8, Z6, Z4, c68, Z5]
 repeat' (first | ((with_reducible refine brC (fun _ => ?_) fun _ => ?_) <;> try (exfalso; omega)) | (with_reducible refine And.intro ?_ ?_; · omega) | simp -dsimp -implicitDefEqProofs (disch := omega) only [VCA, Z1, ↓Q3, Nat.reduceEqDiff, Nat.reduceBEq, Nat.reduceAdd, Nat.reduceSub, Nat.reduceMul, Nat.reduceLT, Nat.reduceLeDiff, ↓reduceIte, reduceCtorEq, Z7, Q6, SOp.rd, SI.rd, SX.rd, rdL, rdO, rdP, Q5, Q4, Q2, Q8, Q7, Z0, implies_true, forall_const, forall_eq, ne_eq, exists_eq_right_right, exists_eq_right, exists_eq_left, exists_eq_left', Q9, Z3, Z8, Z6, Z4, b5, b3, b4, Z5])
 refine LoopVC.intro (fun m e h' => ∃ k : Nat, k <= x.attrs.length /\ m = x.attrs.length - k /\ e 1 = .pin (Z5 x) /\ e 3 = .str (x.name ++ (x.attrs.take k).flatMap attrL) /\ e 4 = Y0 k /\ Sub h h') x.attrs.length
  ⟨0, by omega, by omega, by exact rfl, by simp [upd], by exact rfl, Sub.refl _⟩ ?_
 rintro m e h' ⟨k, hk', rfl, e1, e3, e4, S⟩
 have fk := fl k
 rw [List.length_take] at fk
 by_cases hlt : k < x.attrs.length
 ·obtain ⟨a, ha⟩ : ∃ a, nth x.attrs k = a := ⟨_, rfl⟩
  have hm : a ∈ x.attrs := ha ▸ X9 hlt
  have he := Z.each a hm
  have cq := hq a.value (by omega)
  have ql := quote_len a.value
  have ts : (x.attrs.take (k + 1)).flatMap attrL = (x.attrs.take k).flatMap attrL ++ attrL a := by
   rw [K7 hlt, List.flatMap_append, List.flatMap_cons, List.flatMap_nil, List.append_nil, ha]
  repeat' (first | ((with_reducible refine brC (fun _ => ?_) fun _ => ?_) <;> try (exfalso; omega)) | (with_reducible apply pcallE.of; · exact cq) | (with_reducible refine And.intro ?_ ?_; · omega) | simp -dsimp -implicitDefEqProofs (disch := omega) only [VCA, Z1, ↓Q3, Nat.reduceEqDiff, Nat.reduceBEq, Nat.reduceAdd, Nat.reduceSub, Nat.reduceMul, Nat.reduceLT, Nat.reduceLeDiff, ↓reduceIte, reduceCtorEq, Z7, Q6, SOp.rd, SI.rd, SX.rd, rdL, rdO, rdP, Q5, Q4, Q2, Q8, Q7, Z0, implies_true, forall_const, forall_eq, ne_eq, exists_eq_right_right, exists_eq_right, exists_eq_left, exists_eq_left', Q9, Z3, Z8, Z6, Z4, e1, e3, e4, ha, Z5, Z3])
  simp only [List.length_append, List.length_cons, List.length_nil]
  exact ⟨by omega, by omega, _, by omega, k + 1, by omega, rfl, by rw [ts]; simp [attrL], by omega, S⟩
 ·obtain rfl : k = x.attrs.length := by omega
  repeat' (first | ((with_reducible refine brC (fun _ => ?_) fun _ => ?_) <;> try (exfalso; omega)) | (with_reducible refine And.intro ?_ ?_; · omega) | simp -dsimp -implicitDefEqProofs (disch := omega) only [VCA, Z1, ↓Q3, Nat.reduceEqDiff, Nat.reduceBEq, Nat.reduceAdd, Nat.reduceSub, Nat.reduceMul, Nat.reduceLT, Nat.reduceLeDiff, ↓reduceIte, reduceCtorEq, Z7, Q6, SOp.rd, SI.rd, SX.rd, rdL, rdO, rdP, Q5, Q4, Q2, Q8, Q7, Z0, implies_true, forall_const, forall_eq, ne_eq, exists_eq_right_right, exists_eq_right, exists_eq_left, exists_eq_left', Q9, Z3, Z8, Z6, Z4, e1, e3, e4, Z5])
  exact S
theorem deep_up {d : HDoc} (V : DV d) {n : Int} (hn : inD d n) : deepM d n = up d n := by
 unfold deepM
 rw [if_neg]
 have := V.fin n hn
 omega
theorem rows_len {d : HDoc} (V : DV d) (l : List Int) (hl : ∀ m ∈ l, inD d m) : (l.flatMap fun m => rowL d (up d m - 1) m).length <= 20100 * l.length :=
 flat_le l fun m hm => by
  have h1 := line_len (nodeE_sz (V.node m (hl m hm)))
  have h2 := V.deep m (hl m hm)
  unfold rowL
  simp only [List.length_append, List.length_replicate, List.length_cons, List.length_nil]
  omega
theorem repl_snoc (k : Nat) : List.replicate (k + 1) (32 : UInt8) = List.replicate k 32 ++ [32] := by
 rw [List.replicate_succ', ]
def c22_s4 : SCode := (.seq (.seq (.reg [o 5 (.mv (.c (.int .i64 1)))]) (.block 0 (.loop (.seq (.seq (.reg [o 11 (.mv (.t 5)), o 12 (.mv (.t 4)), o 13 (.len (.t 12)), o 14 (.bin .lss (.t 11) (.t 13))]) (.cond (.t 14) .skip (.exit 0))) (.seq (.block 1 (.seq (.seq (.reg [o 6 (.mv (.c (.int .i64 1)))]) (.block 2 (.loop (.seq (.seq (.dreg [(o 17 (.mv (.t 6)), none), (o 18 (.ld 2 true (.t 1)), none), (o 19 (.mv (.t 4)), none), (o 20 (.mv (.t 5)), none), (o 21 (.idxA 1 (.t 19) (.t 20)), none), (o 22 (.ld 1 false (.t 21)), none), (o 23 (.pcall 63 [.t 18, .t 22]), none), (o 24 (.bin .lss (.t 17) (.t 23)), none)]) (.cond (.t 24) .skip (.exit 2))) (.seq (.block 3 (.reg [o 27 (.mv (.t 3)), o 28 (.bin .add (.t 27) (.c (.str [32]))), o 3 (.mv (.t 28))])) (.reg [o 25 (.mv (.t 6)), o 26 (.bin .add (.t 25) (.c (.int .i64 1))), o 6 (.mv (.t 26))])))))) (.dreg [(o 29 (.mv (.t 3)), none), (o 30 (.fldA 0 (.t 1)), none), (o 31 (.ld 1 false (.t 30)), none), (o 32 (.mv (.t 4)), none), (o 33 (.mv (.t 5)), none), (o 34 (.idxA 1 (.t 32) (.t 33)), none), (o 35 (.ld 1 false (.t 34)), none), (o 36 (.idxA 6 (.t 31) (.t 35)), none), (o 37 (.ld 6 true (.t 36)), none), (o 38 (.pcall 68 [.t 37]), none), (o 39 (.bin .add (.t 38) (.c (.str [10]))), none), (o 40 (.bin .add (.t 29) (.t 39)), none), (o 3 (.mv (.t 40)), (some [37, 31, 35]))]))) (.reg [o 15 (.mv (.t 5)), o 16 (.bin .add (.t 15) (.c (.int .i64 1))), o 5 (.mv (.t 16))])))))) (.seq (.reg [o 41 (.mv (.t 3)), o 2 (.mv (.t 41))]) .ret))
def c22 : SFun := ⟨.seq (.reg [o 1 (.boxF 39 2 (.t 0)), o 2 (.mv (.c (.str [])))]) (.seq (.reg [o 3 (.mv (.c (.str [])))]) (.seq (.seq (.reg [o 7 (.fldA 1 (.t 1)), o 8 (.ld 1 false (.t 7))]) (.cond (.t 8) (.reg [o 3 (.mv (.c (.str [126, 10])))]) .skip)) (.seq (.reg [o 9 (.ld 2 true (.t 1)), o 10 (.pcall 67 [.t 9, .c (.int .i64 0)]), o 4 (.mv (.t 10))]) c22_s4))), [.tmp 2]⟩
theorem hc22 : X8 Tryz.prog {pure := [67, 63, 68]} Tryz.f22 = some c22 := by kernel_rfl
theorem refTree_loop (d : HDoc) (V : DV d) (sm : DocSm d) {h : J1} (L : List Int) (Z : List UInt8) (hL : below d 0 = L) (zl : Z.length <= 2) {e : Env} {h1 : J1} (S0 : Sub h h1) (e1 : e 1 = .pin (J4 d)) (e3 : e 3 = .str Z) (e4 : e 4 = sl Z8 L) :
  vc (Pg G) c22_s4 (retK [.tmp 2] fun r h' => r = .str (Z ++ (L.drop 1).flatMap fun m => rowL d (up d m - 1) m) /\ h' = h) e h1 := by
 have hD := fun n (hn : inD d n) => deep_ok (G := G) d sm (fun n hn hp => (V.par_in hn hp).1) n hn
 have bl := below_len V V.zero
 have vl := V.len
 have hin : ∀ m ∈ L, inD d m := fun m hm => below_in V 0 V.zero m (by rw [hL]; exact hm)
 have l1 : 1 <= L.length := by rw [<- hL, below_eq V V.zero]; simp
 rw [hL] at bl
 unfold J4 at hD
 skip
 repeat' (first | ((with_reducible refine brC (fun _ => ?_) fun _ => ?_) <;> try (exfalso; omega)) | (with_reducible refine And.intro ?_ ?_; · omega) | simp -dsimp -implicitDefEqProofs (disch := omega) only [VCA, Z1, ↓Q3, Nat.reduceEqDiff, Nat.reduceBEq, Nat.reduceAdd, Nat.reduceSub, Nat.reduceMul, Nat.reduceLT, Nat.reduceLeDiff, ↓reduceIte, reduceCtorEq, Z7, Q6, SOp.rd, SI.rd, SX.rd, rdL, rdO, rdP, Q5, Q4, Q2, Q8, Q7, Z0, implies_true, forall_const, forall_eq, ne_eq, exists_eq_right_right, exists_eq_right, exists_eq_left, exists_eq_left', Q9, Z3, Z8, Z6, Z4, c22_s4, e1, e3, e4])
 refine LoopVC.intro (fun m e h' => ∃ k : Nat, 1 <= k /\ k <= L.length /\ m = L.length - k /\ e 1 = .pin (J4 d) /\ e 3 = .str (Z ++ ((L.take k).drop 1).flatMap fun m => rowL d (up d m - 1) m) /\ e 4 = sl Z8 L /\ e 5 = Y0 k /\ Sub h h') (L.length - 1)
  (by
   refine ⟨1, by omega, by omega, by omega, by simp [upd, e1], ?_, by simp [upd, e4], by simp [upd], S0⟩
   rw [show (L.take 1).drop 1 = [] from by apply List.drop_of_length_le; rw [List.length_take]; omega]
   simp [upd, e3]) ?_
 rintro m e h' ⟨k, hk0, hk, rfl, e1, e3, e4, e5, S⟩
 have rl := rows_len V ((L.take k).drop 1) fun m hm => hin m (List.mem_of_mem_take (List.mem_of_mem_drop hm))
 rw [List.length_drop, List.length_take] at rl
 generalize hW : (Z ++ ((L.take k).drop 1).flatMap fun m => rowL d (up d m - 1) m) = W at *
 have wl : W.length <= 20100 * k + 2 := by rw [<- hW, List.length_append]; omega
 by_cases hlt : k < L.length
 ·obtain ⟨a, ha⟩ : ∃ a, nth L k = a := ⟨_, rfl⟩
  have hai := hin a (ha ▸ X9 hlt)
  have i0 := hai.1
  have i1 := hai.2
  have e0 : nth d.nodes a.toNat = nd d a := rfl
  have cD := hD a hai
  have hup := V.deep a hai
  rw [deep_up V hai] at cD
  have cL := refLine_ok (G := G) (nd d a) (nodeE_sz (V.node a hai))
  have ll := line_len (nodeE_sz (V.node a hai))
  have hrow : rowL d (up d a - 1) a = List.replicate (up d a - 1) 32 ++ lineM (nd d a) ++ [10] := rfl
  obtain ⟨x, hx⟩ : ∃ x, nd d a = x := ⟨_, rfl⟩
  rw [hx] at cL e0 hrow ll
  unfold Z5 at cL
  have ts : (Z ++ ((L.take (k + 1)).drop 1).flatMap fun m => rowL d (up d m - 1) m) = W ++ rowL d (up d a - 1) a := by
   rw [K7 hlt, List.drop_append_of_le_length (by rw [List.length_take]; omega), List.flatMap_append, <- List.append_assoc, hW, List.flatMap_cons, List.flatMap_nil, List.append_nil, ha]
  repeat' (first | ((with_reducible refine brC (fun _ => ?_) fun _ => ?_) <;> try (exfalso; omega)) | (with_reducible refine And.intro ?_ ?_; · omega) | simp -dsimp -implicitDefEqProofs (disch := omega) only [VCA, Z1, ↓Q3, Nat.reduceEqDiff, Nat.reduceBEq, Nat.reduceAdd, Nat.reduceSub, Nat.reduceMul, Nat.reduceLT, Nat.reduceLeDiff, ↓reduceIte, reduceCtorEq, Z7, Q6, SOp.rd, SI.rd, SX.rd, rdL, rdO, rdP, Q5, Q4, Q2, Q8, Q7, Z0, implies_true, forall_const, forall_eq, ne_eq, exists_eq_right_right, exists_eq_right, exists_eq_left, exists_eq_left', Q9, Z3, Z8, Z6, Z4, e1, e3, e4, e5, J4])
  refine LoopVC.intro (fun m e h' => ∃ j : Nat, 1 <= j /\ j <= max 1 (up d a) /\ m = up d a - j /\ e 1 = .pin (J4 d) /\ e 3 = .str (W ++ List.replicate (j - 1) 32) /\ e 4 = sl Z8 L /\ e 5 = Y0 k /\ e 6 = Y0 j /\ Sub h h') (up d a - 1)
   (by exact ⟨1, by omega, by omega, by omega, by simp [upd, e1, J4], by simp [upd, e3], by simp [upd, e4], by simp [upd, e5], by simp [upd], S⟩) ?_
  rintro m e h' ⟨j, hj0, hj, rfl, e1, e3, e4, e5, e6, S⟩
  by_cases hj2 : j < up d a
  ·repeat' (first | ((with_reducible refine brC (fun _ => ?_) fun _ => ?_) <;> try (exfalso; omega)) | (with_reducible apply pcallE.of; · exact cD) | (with_reducible refine And.intro ?_ ?_; · omega) | simp -dsimp -implicitDefEqProofs (disch := omega) only [VCA, Z1, ↓Q3, Nat.reduceEqDiff, Nat.reduceBEq, Nat.reduceAdd, Nat.reduceSub, Nat.reduceMul, Nat.reduceLT, Nat.reduceLeDiff, ↓reduceIte, reduceCtorEq, Z7, Q6, SOp.rd, SI.rd, SX.rd, rdL, rdO, rdP, Q5, Q4, Q2, Q8, Q7, Z0, implies_true, forall_const, forall_eq, ne_eq, exists_eq_right_right, exists_eq_right, exists_eq_left, exists_eq_left', Q9, Z3, Z8, Z6, Z4, e1, e3, e4, e5, e6, ha, J4])
   have w2 : (W ++ List.replicate (j - 1) 32).length = W.length + (j - 1) := by simp
   refine ⟨by omega, _, by omega, j + 1, by omega, by omega, rfl, ?_, by omega, S⟩
   rw [show j + 1 - 1 = (j - 1) + 1 by omega, repl_snoc, <- List.append_assoc]
  ·obtain rfl : j = max 1 (up d a) := by omega
   repeat' (first | ((with_reducible refine brC (fun _ => ?_) fun _ => ?_) <;> try (exfalso; omega)) | (with_reducible apply pcallE.of; · exact cD) | (with_reducible apply pcallE.of; · exact cL) | (with_reducible refine And.intro ?_ ?_; · omega) | simp -dsimp -implicitDefEqProofs (disch := omega) only [VCA, Z1, ↓Q3, Nat.reduceEqDiff, Nat.reduceBEq, Nat.reduceAdd, Nat.reduceSub, Nat.reduceMul, Nat.reduceLT, Nat.reduceLeDiff, ↓reduceIte, reduceCtorEq, Z7, Q6, SOp.rd, SI.rd, SX.rd, rdL, rdO, rdP, Q5, Q4, Q2, Q8, Q7, Z0, implies_true, forall_const, forall_eq, ne_eq, exists_eq_right_right, exists_eq_right, exists_eq_left, exists_eq_left', Q9, Z3, Z8, Z6, Z4, e1, e3, e4, e5, e6, ha, e0, J4, Z5])
   have w3 : max 1 (up d a) - 1 = up d a - 1 := by omega
   rw [w3]
   refine ⟨by simp only [List.length_append, List.length_replicate, List.length_cons, List.length_nil]; omega, _, by omega, k + 1, by omega, by omega, rfl, ?_, by omega, S⟩
   rw [ts, hrow]
   simp only [List.append_assoc]
 ·obtain rfl : k = L.length := by omega
  repeat' (first | ((with_reducible refine brC (fun _ => ?_) fun _ => ?_) <;> try (exfalso; omega)) | (with_reducible refine And.intro ?_ ?_; · omega) | simp -dsimp -implicitDefEqProofs (disch := omega) only [VCA, Z1, ↓Q3, Nat.reduceEqDiff, Nat.reduceBEq, Nat.reduceAdd, Nat.reduceSub, Nat.reduceMul, Nat.reduceLT, Nat.reduceLeDiff, ↓reduceIte, reduceCtorEq, Z7, Q6, SOp.rd, SI.rd, SX.rd, rdL, rdO, rdP, Q5, Q4, Q2, Q8, Q7, Z0, implies_true, forall_const, forall_eq, ne_eq, exists_eq_right_right, exists_eq_right, exists_eq_left, exists_eq_left', Q9, Z3, Z8, Z6, Z4, e1, e3, e4, e5])
  rw [List.take_length] at hW
  exact hW.symm
theorem refTree_ok (d : HDoc) (V : DV d) (sm : DocSm d) : PCalls (Pg G) 22 [.agg (J4 d)] (.str (treeM d)) := fun h => by
 have hB := below_ok (G := G) d V sm 0 V.zero
 have hlb := lines_below V 0 V.zero 0 (by rw [V.up_top]; rw [V.root]; decide)
 have hS := fun Z zl => @refTree_loop G d V sm h (below d 0) Z rfl zl
 unfold treeM
 rw [hlb]
 unfold J4 at hB hS ⊢
 refine Z9 Tryz.func22 (by kernel_rfl) hc22 (by rw [Tryz.ntmps22]; simp) (by rw [Tryz.ntmps22]; decide) ?_
 cases hq : d.quirks
 ·rw [hq] at hB
  simp -dsimp -implicitDefEqProofs (disch := omega) only [VCA, Z1, ↓Q3, Nat.reduceEqDiff, Nat.reduceBEq, Nat.reduceAdd, Nat.reduceSub, Nat.reduceMul, Nat.reduceLT, Nat.reduceLeDiff, ↓reduceIte, reduceCtorEq, Z7, Q6, SOp.rd, SI.rd, SX.rd, rdL, rdO, rdP, Q5, Q4, Q2, Q8, Q7, Z0, implies_true, forall_const, forall_eq, ne_eq, exists_eq_right_right, exists_eq_right, exists_eq_left, exists_eq_left', Q9, Z3, Z8, Z6, Z4, c22, hq]
  repeat' (first | ((with_reducible refine brC (fun _ => ?_) fun _ => ?_) <;> try (exfalso; omega)) | (with_reducible apply pcallE.of; · exact hB) | (with_reducible refine And.intro ?_ ?_; · omega) | simp -dsimp -implicitDefEqProofs (disch := omega) only [VCA, Z1, ↓Q3, Nat.reduceEqDiff, Nat.reduceBEq, Nat.reduceAdd, Nat.reduceSub, Nat.reduceMul, Nat.reduceLT, Nat.reduceLeDiff, ↓reduceIte, reduceCtorEq, Z7, Q6, SOp.rd, SI.rd, SX.rd, rdL, rdO, rdP, Q5, Q4, Q2, Q8, Q7, Z0, implies_true, forall_const, forall_eq, ne_eq, exists_eq_right_right, exists_eq_right, exists_eq_left, exists_eq_left', Q9, Z3, Z8, Z6, Z4])
  refine hS [] (by simp) (Sub.refl _) ?_ ?_ ?_
  all_goals simp [upd, hq]
 ·rw [hq] at hB
  simp -dsimp -implicitDefEqProofs (disch := omega) only [VCA, Z1, ↓Q3, Nat.reduceEqDiff, Nat.reduceBEq, Nat.reduceAdd, Nat.reduceSub, Nat.reduceMul, Nat.reduceLT, Nat.reduceLeDiff, ↓reduceIte, reduceCtorEq, Z7, Q6, SOp.rd, SI.rd, SX.rd, rdL, rdO, rdP, Q5, Q4, Q2, Q8, Q7, Z0, implies_true, forall_const, forall_eq, ne_eq, exists_eq_right_right, exists_eq_right, exists_eq_left, exists_eq_left', Q9, Z3, Z8, Z6, Z4, c22, hq]
  repeat' (first | ((with_reducible refine brC (fun _ => ?_) fun _ => ?_) <;> try (exfalso; omega)) | (with_reducible apply pcallE.of; · exact hB) | (with_reducible refine And.intro ?_ ?_; · omega) | simp -dsimp -implicitDefEqProofs (disch := omega) only [VCA, Z1, ↓Q3, Nat.reduceEqDiff, Nat.reduceBEq, Nat.reduceAdd, Nat.reduceSub, Nat.reduceMul, Nat.reduceLT, Nat.reduceLeDiff, ↓reduceIte, reduceCtorEq, Z7, Q6, SOp.rd, SI.rd, SX.rd, rdL, rdO, rdP, Q5, Q4, Q2, Q8, Q7, Z0, implies_true, forall_const, forall_eq, ne_eq, exists_eq_right_right, exists_eq_right, exists_eq_left, exists_eq_left', Q9, Z3, Z8, Z6, Z4])
  refine hS [126, 10] (by simp) (Sub.refl _) ?_ ?_ ?_
  all_goals simp [upd, hq]
def c23_s10 : SCode := (.seq (.reg [o 147 (.mv (.t 8)), o 148 (.mv (.t 6)), o 149 (.bin .add (.t 147) (.t 148)), o 150 (.bin .add (.t 149) (.c (.str [60, 47]))), o 151 (.fldA 1 (.t 5)), o 152 (.ld 1 false (.t 151)), o 153 (.bin .add (.t 150) (.t 152)), o 154 (.bin .add (.t 153) (.c (.str [62]))), o 4 (.mv (.t 154))]) .ret)
def c23_s9 : SCode := (.seq (.seq (.reg [o 111 (.fldA 1 (.t 5)), o 112 (.ld 1 false (.t 111)), o 113 (.bin .eql (.t 112) (.c (.str [112, 114, 101]))), o 114 (.mv (.t 113)), ⟨some 115, .fldA 1 (.t 5), some (114, false)⟩, ⟨some 116, .ld 1 false (.t 115), some (114, false)⟩, ⟨some 117, .bin .eql (.t 116) (.c (.str [116, 101, 120, 116, 97, 114, 101, 97])), some (114, false)⟩, o 118 (.pick (.t 114) (.c (.bool true)) (.t 117))]) (.cond (.t 118) (.seq (.reg [o 119 (.fldA 5 (.t 5)), o 120 (.ld 1 false (.t 119)), o 121 (.len (.t 120)), o 122 (.bin .gtr (.t 121) (.c (.int .i64 0)))]) (.cond (.t 122) (.seq (.dreg [(o 123 (.fldA 0 (.t 2)), none), (o 124 (.ld 1 false (.t 123)), none), (o 125 (.fldA 5 (.t 5)), none), (o 126 (.ld 1 false (.t 125)), none), (o 127 (.idxA 1 (.t 126) (.c (.int .i64 0))), none), (o 128 (.ld 1 false (.t 127)), none), (o 129 (.idxA 6 (.t 124) (.t 128)), none), (o 130 (.ld 6 true (.t 129)), none), (o 10 (.new 101 6 [.int .i64 0, .str [], .emp, .str [], .int .i64 0, .emp]), (some [])), (⟨none, .st 6 (.t 10) (.t 130), none⟩, (some [130, 124, 128, 126]))]) (.seq (.reg [o 131 (.fldA 0 (.t 10)), o 132 (.ld 1 false (.t 131)), o 133 (.bin .eql (.t 132) (.c (.int .i64 3))), o 134 (.mv (.t 133)), ⟨some 135, .fldA 3 (.t 10), some (134, true)⟩, ⟨some 136, .ld 1 false (.t 135), some (134, true)⟩, ⟨some 137, .bin .neq (.t 136) (.c (.str [])), some (134, true)⟩, o 138 (.pick (.t 134) (.t 137) (.c (.bool false))), o 139 (.mv (.t 138)), ⟨some 140, .fldA 3 (.t 10), some (139, true)⟩, ⟨some 141, .ld 1 false (.t 140), some (139, true)⟩, ⟨some 142, .idxS (.t 141) (.c (.int .i64 0)), some (139, true)⟩, ⟨some 143, .bin .eql (.t 142) (.c (.int .u8 10)), some (139, true)⟩, o 144 (.pick (.t 139) (.t 143) (.c (.bool false)))]) (.cond (.t 144) (.reg [o 145 (.mv (.t 8)), o 146 (.bin .add (.t 145) (.c (.str [10]))), o 8 (.mv (.t 146))]) .skip))) .skip)) .skip)) c23_s10)
def c23_s8 : SCode := (.seq (.seq (.reg [o 101 (.fldA 1 (.t 5)), o 102 (.ld 1 false (.t 101)), o 103 (.pcall 69 [.t 102]), o 104 (.mv (.t 103)), ⟨some 105, .fldA 5 (.t 5), some (104, true)⟩, ⟨some 106, .ld 1 false (.t 105), some (104, true)⟩, ⟨some 107, .len (.t 106), some (104, true)⟩, ⟨some 108, .bin .eql (.t 107) (.c (.int .i64 0)), some (104, true)⟩, o 109 (.pick (.t 104) (.t 108) (.c (.bool false)))]) (.cond (.t 109) (.seq (.reg [o 110 (.mv (.t 8)), o 4 (.mv (.t 110))]) .ret) .skip)) c23_s9)
def c23_s6 : SCode := (.seq (.seq (.reg [o 9 (.mv (.c (.int .i64 0)))]) (.block 3 (.loop (.seq (.seq (.reg [o 73 (.mv (.t 9)), o 74 (.fldA 2 (.t 5)), o 75 (.ld 1 false (.t 74)), o 76 (.len (.t 75)), o 77 (.bin .lss (.t 73) (.t 76))]) (.cond (.t 77) .skip (.exit 3))) (.seq (.block 4 (.dreg [(o 80 (.mv (.t 8)), none), (o 81 (.fldA 2 (.t 5)), none), (o 82 (.ld 1 false (.t 81)), none), (o 83 (.mv (.t 9)), none), (o 84 (.idxA 2 (.t 82) (.t 83)), none), (o 85 (.fldA 0 (.t 84)), none), (o 86 (.ld 1 false (.t 85)), none), (o 87 (.bin .add (.c (.str [32])) (.t 86)), none), (o 88 (.bin .add (.t 87) (.c (.str [61, 34]))), none), (o 89 (.fldA 2 (.t 5)), none), (o 90 (.ld 1 false (.t 89)), none), (o 91 (.mv (.t 9)), none), (o 92 (.idxA 2 (.t 90) (.t 91)), none), (o 93 (.fldA 1 (.t 92)), none), (o 94 (.ld 1 false (.t 93)), none), (o 95 (.pcall 56 [.t 94, .c (.bool true)]), none), (o 96 (.bin .add (.t 88) (.t 95)), none), (o 97 (.bin .add (.t 96) (.c (.str [34]))), none), (o 98 (.bin .add (.t 80) (.t 97)), none), (o 8 (.mv (.t 98)), (some [86, 82, 94, 90]))])) (.reg [o 78 (.mv (.t 9)), o 79 (.bin .add (.t 78) (.c (.int .i64 1))), o 9 (.mv (.t 79))])))))) (.seq (.reg [o 99 (.mv (.t 8)), o 100 (.bin .add (.t 99) (.c (.str [62]))), o 8 (.mv (.t 100))]) c23_s8))
def c23_s4 : SCode := (.seq (.seq (.reg [o 32 (.fldA 0 (.t 5)), o 33 (.ld 1 false (.t 32))]) (.block 2 (.seq (.reg [o 35 (.bin .eql (.t 33) (.c (.int .i64 1))), o 34 (.mv (.t 35))]) (.cond (.t 34) (.seq (.reg [o 36 (.mv (.t 6)), o 4 (.mv (.t 36))]) .ret) (.seq (.reg [o 38 (.bin .eql (.t 33) (.c (.int .i64 5))), o 37 (.mv (.t 38))]) (.cond (.t 37) (.seq (.reg [o 39 (.fldA 1 (.t 5)), o 40 (.ld 1 false (.t 39)), o 41 (.bin .add (.c (.str [60, 33, 68, 79, 67, 84, 89, 80, 69, 32])) (.t 40)), o 42 (.bin .add (.t 41) (.c (.str [62]))), o 4 (.mv (.t 42))]) .ret) (.seq (.reg [o 44 (.bin .eql (.t 33) (.c (.int .i64 4))), o 43 (.mv (.t 44))]) (.cond (.t 43) (.seq (.reg [o 45 (.fldA 3 (.t 5)), o 46 (.ld 1 false (.t 45)), o 47 (.bin .add (.c (.str [60, 33, 45, 45])) (.t 46)), o 48 (.bin .add (.t 47) (.c (.str [45, 45, 62]))), o 4 (.mv (.t 48))]) .ret) (.seq (.reg [o 50 (.bin .eql (.t 33) (.c (.int .i64 3))), o 49 (.mv (.t 50))]) (.cond (.t 49) (.seq (.seq (.reg [o 51 (.fldA 4 (.t 5)), o 52 (.ld 1 false (.t 51)), o 53 (.bin .geq (.t 52) (.c (.int .i64 0))), o 54 (.mv (.t 53)), ⟨some 55, .fldA 0 (.t 2), some (54, true)⟩, ⟨some 56, .ld 1 false (.t 55), some (54, true)⟩, ⟨some 57, .fldA 4 (.t 5), some (54, true)⟩, ⟨some 58, .ld 1 false (.t 57), some (54, true)⟩, ⟨some 59, .idxA 6 (.t 56) (.t 58), some (54, true)⟩, ⟨some 60, .fldA 1 (.t 59), some (54, true)⟩, ⟨some 61, .ld 1 false (.t 60), some (54, true)⟩, ⟨some 62, .pcall 43 [.t 61], some (54, true)⟩, ⟨some 63, .bin .eql (.t 62) (.c (.int .i64 1)), some (54, true)⟩, o 64 (.pick (.t 54) (.t 63) (.c (.bool false)))]) (.cond (.t 64) (.seq (.reg [o 65 (.fldA 3 (.t 5)), o 66 (.ld 1 false (.t 65)), o 4 (.mv (.t 66))]) .ret) .skip)) (.seq (.reg [o 67 (.fldA 3 (.t 5)), o 68 (.ld 1 false (.t 67)), o 69 (.pcall 56 [.t 68, .c (.bool false)]), o 4 (.mv (.t 69))]) .ret)) .skip)))))))))) (.seq (.reg [o 70 (.fldA 1 (.t 5)), o 71 (.ld 1 false (.t 70)), o 72 (.bin .add (.c (.str [60])) (.t 71)), o 8 (.mv (.t 72))]) c23_s6))
def c23_s3 : SCode := (.seq (.seq (.reg [o 7 (.mv (.c (.int .i64 0)))]) (.block 0 (.loop (.seq (.seq (.reg [o 16 (.mv (.t 7)), o 17 (.fldA 5 (.t 5)), o 18 (.ld 1 false (.t 17)), o 19 (.len (.t 18)), o 20 (.bin .lss (.t 16) (.t 19))]) (.cond (.t 20) .skip (.exit 0))) (.seq (.block 1 (.dreg [(o 23 (.mv (.t 6)), none), (o 24 (.ld 2 true (.t 2)), none), (o 25 (.fldA 5 (.t 5)), none), (o 26 (.ld 1 false (.t 25)), none), (o 27 (.mv (.t 7)), none), (o 28 (.idxA 1 (.t 26) (.t 27)), none), (o 29 (.ld 1 false (.t 28)), none), (o 30 (.pcall 23 [.t 24, .t 29]), none), (o 31 (.bin .add (.t 23) (.t 30)), none), (o 6 (.mv (.t 31)), (some [24, 29, 26]))])) (.reg [o 21 (.mv (.t 7)), o 22 (.bin .add (.t 21) (.c (.int .i64 1))), o 7 (.mv (.t 22))])))))) c23_s4)
def c23 : SFun := ⟨.seq (.reg [o 2 (.boxF 39 2 (.t 0)), o 4 (.mv (.c (.str [])))]) (.seq (.reg [o 11 (.fldA 0 (.t 2)), o 12 (.ld 1 false (.t 11)), o 13 (.mv (.t 1)), o 14 (.idxA 6 (.t 12) (.t 13)), o 15 (.ld 6 true (.t 14)), o 5 (.new 101 6 [.int .i64 0, .str [], .emp, .str [], .int .i64 0, .emp]), ⟨none, .st 6 (.t 5) (.t 15), none⟩]) (.seq (.reg [o 6 (.mv (.c (.str [])))]) c23_s3)), [.tmp 4]⟩
theorem hc23 : X8 Tryz.prog {pure := [23, 43, 56, 69]} Tryz.f23 = some c23 := by kernel_rfl
abbrev Tn : Nat := 101
theorem rh10 (x : HNode) (W I : List UInt8) {h h1 : J1} {r5 : Nat} (S : Sub h h1) (h5 : h1 r5 = some ⟨Tn, 6, [Z5 x]⟩) {e : Env} (e5 : e 5 = .vp r5 0) (e6 : e 6 = .str I) (e8 : e 8 = .str W) (hl : W.length + I.length + x.name.length <= 1000000000) :
  vc (Pg G) c23_s10 (retK [.tmp 4] fun r h' => r = .str (W ++ I ++ [60, 47] ++ x.name ++ [62]) /\ h' = h) e h1 := by
 unfold Z5 at h5
 skip
 repeat' (first | ((with_reducible refine brC (fun _ => ?_) fun _ => ?_) <;> try (exfalso; omega)) | (with_reducible refine And.intro ?_ ?_; · omega) | simp -dsimp -implicitDefEqProofs (disch := omega) only [↓Q0 54, ↓Q1 54, ↓Q0 104, ↓Q1 104, ↓Q0 114, ↓Q1 114, ↓Q0 134, ↓Q1 134, ↓Q0 139, ↓Q1 139, VCA, Z1, ↓Q3, Nat.reduceEqDiff, Nat.reduceBEq, Nat.reduceAdd, Nat.reduceSub, Nat.reduceMul, Nat.reduceLT, Nat.reduceLeDiff, ↓reduceIte, reduceCtorEq, Z7, Q6, SOp.rd, SI.rd, SX.rd, rdL, rdO, rdP, Q5, Q4, Q2, Q8, Q7, Z0, implies_true, forall_const, forall_eq, ne_eq, exists_eq_right_right, exists_eq_right, exists_eq_left, exists_eq_left', Q9, Z3, Z8, Z6, Z4, c23_s10, e5, e6, e8, h5])
 simp only [List.length_append, List.length_cons, List.length_nil]
 exact ⟨by omega, by omega, by omega, S⟩
theorem rh9 (d : HDoc) (V : DV d) (n : Int) (hn : inD d n) {x : HNode} (hx : nd d n = x) (W I : List UInt8) {h h1 : J1} {r5 : Nat} (S : Sub h h1) (h5 : h1 r5 = some ⟨Tn, 6, [Z5 x]⟩) {e : Env} (e2 : e 2 = .pin (J4 d)) (e5 : e 5 = .vp r5 0) (e6 : e 6 = .str I) (e8 : e 8 = .str W) (hl : W.length + I.length + x.name.length <= 999999999) :
  vc (Pg G) c23_s9 (retK [.tmp 4] fun r h' => r = .str (W ++ (if X2 d x = true then [10] else []) ++ I ++ [60, 47] ++ x.name ++ [62]) /\ h' = h) e h1 := by
 have fin : ∀ (b : Bool) (e' : Env) (h2 : J1), X2 d x = b -> e' 5 = .vp r5 0 -> e' 6 = .str I -> e' 8 = .str (W ++ (if b = true then [10] else [])) -> Sub h h2 -> h2 r5 = some ⟨Tn, 6, [Z5 x]⟩ ->
   vc (Pg G) c23_s10 (retK [.tmp 4] fun r h' => r = .str (W ++ (if X2 d x = true then [10] else []) ++ I ++ [60, 47] ++ x.name ++ [62]) /\ h' = h) e' h2 := by
  intro b e' h2 hb q5 q6 q8 S2 g5
  rw [hb]
  exact rh10 x _ I S2 g5 q5 q6 q8 (by
   rw [List.length_append]
   have : (if b = true then [10] else [] : List UInt8).length <= 1 := by split <;> simp
   omega)
 have hL : X2 d x = ((x.name == [112, 114, 101] || x.name == [116, 101, 120, 116, 97, 114, 101, 97]) && (decide (x.kids ≠ []) && ((nd d (nth x.kids 0)).kind == 3 && ((nd d (nth x.kids 0)).text != [] && bt (nd d (nth x.kids 0)).text 0 == 10)))) := rfl
 have g5 := h5
 unfold Z5 at g5
 by_cases c1 : x.name = [112, 114, 101] \/ x.name = [116, 101, 120, 116, 97, 114, 101, 97]
 ·by_cases c2 : 0 < x.kids.length
  ·obtain ⟨k, hk⟩ : ∃ k, nth x.kids 0 = k := ⟨_, rfl⟩
   have hki := (V.kid n hn k (by rw [hx, <- hk]; exact X9 c2)).1
   have k0 := hki.1
   have k1 := hki.2
   have ek : nth d.nodes k.toNat = nd d k := rfl
   have Zk := nodeE_sz (V.node k hki)
   have tl := Zk.text
   rw [hk] at hL
   have c1b : (x.name == [112, 114, 101] || x.name == [116, 101, 120, 116, 97, 114, 101, 97]) = true := by simpa using c1
   have kn : x.kids ≠ [] := fun q => by rw [q] at c2; cases c2
   rw [c1b, decide_eq_true kn] at hL
   obtain ⟨y, hy⟩ : ∃ y, nd d k = y := ⟨_, rfl⟩
   rw [hy] at ek hL Zk tl
   by_cases c3 : y.kind = 3
   ·have b3 : (y.kind == 3) = true := by simpa using c3
    by_cases c5 : y.text = []
    ·have b5 : (y.text != []) = false := by simpa using c5
     have hF : X2 d x = false := by rw [hL, b5]; simp
     skip
     repeat' (first | ((with_reducible refine brC (fun _ => ?_) fun _ => ?_) <;> try (exfalso; omega)) | (with_reducible refine And.intro ?_ ?_; · omega) | simp -dsimp -implicitDefEqProofs (disch := omega) only [↓Q0 54, ↓Q1 54, ↓Q0 104, ↓Q1 104, ↓Q0 114, ↓Q1 114, ↓Q0 134, ↓Q1 134, ↓Q0 139, ↓Q1 139, VCA, Z1, ↓Q3, Nat.reduceEqDiff, Nat.reduceBEq, Nat.reduceAdd, Nat.reduceSub, Nat.reduceMul, Nat.reduceLT, Nat.reduceLeDiff, ↓reduceIte, reduceCtorEq, Z7, Q6, SOp.rd, SI.rd, SX.rd, rdL, rdO, rdP, Q5, Q4, Q2, Q8, Q7, Z0, implies_true, forall_const, forall_eq, ne_eq, exists_eq_right_right, exists_eq_right, exists_eq_left, exists_eq_left', Q9, Z3, Z8, Z6, Z4, c23_s9, e2, e5, e6, e8, g5, hk, ek, Z5, J4, b3, b5])
     all_goals try (exfalso; simp_all; done)
     all_goals try (exfalso; omega)
     all_goals intro r hr
     all_goals have n1 : ¬ r5 = r := fun q => by rw [<- q, g5] at hr; cases hr
     all_goals have n2 : ¬ r = r5 := fun q => n1 q.symm
     all_goals have g5' : upd h1 r (some ⟨Tn, 6, [Z5 y]⟩) r5 = some ⟨Tn, 6, [Z5 x]⟩ := by rw [Y3 _ _ n1]; exact h5
     all_goals have S2 : Sub h (upd h1 r (some ⟨Tn, 6, [Z5 y]⟩)) := S.upd (S.none hr)
     all_goals unfold Z5 at S2
     all_goals repeat' (first | ((with_reducible refine brC (fun _ => ?_) fun _ => ?_) <;> try (exfalso; omega)) | (with_reducible refine And.intro ?_ ?_; · omega) | simp -dsimp -implicitDefEqProofs (disch := omega) only [↓Q0 54, ↓Q1 54, ↓Q0 104, ↓Q1 104, ↓Q0 114, ↓Q1 114, ↓Q0 134, ↓Q1 134, ↓Q0 139, ↓Q1 139, VCA, Z1, ↓Q3, Nat.reduceEqDiff, Nat.reduceBEq, Nat.reduceAdd, Nat.reduceSub, Nat.reduceMul, Nat.reduceLT, Nat.reduceLeDiff, ↓reduceIte, reduceCtorEq, Z7, Q6, SOp.rd, SI.rd, SX.rd, rdL, rdO, rdP, Q5, Q4, Q2, Q8, Q7, Z0, implies_true, forall_const, forall_eq, ne_eq, exists_eq_right_right, exists_eq_right, exists_eq_left, exists_eq_left', Q9, Z3, Z8, Z6, Z4, e2, e5, e6, e8, g5, n1, n2, J5, b3, b5])
     all_goals first
      | (refine fin false _ _ hF ?_ ?_ ?_ S2 g5' <;> first | (simp [upd, e5]; done) | (simp [upd, e6]; done) | (simp [upd, e8]; done))
      | (refine ⟨by omega, fin false _ _ hF ?_ ?_ ?_ S2 g5'⟩ <;> first | (simp [upd, e5]; done) | (simp [upd, e6]; done) | (simp [upd, e8]; done))
      | (exfalso; simp_all; done)
      | (exfalso; omega)
      | trace_state
    ·have b5 : (y.text != []) = true := by simpa using c5
     have t0 : 0 < y.text.length := List.length_pos_iff.2 c5
     obtain ⟨z, hz⟩ : ∃ z, y.text.getD 0 0 = z := ⟨_, rfl⟩
     have hb : bt y.text 0 = z.toNat := by unfold bt; rw [hz]
     cases hz10 : ((z.toNat : Int) == 10) with
     | true =>
      have hF : X2 d x = true := by rw [hL, b3, b5, hb, hz10]; rfl
      skip
      repeat' (first | ((with_reducible refine brC (fun _ => ?_) fun _ => ?_) <;> try (exfalso; omega)) | (with_reducible refine And.intro ?_ ?_; · omega) | simp -dsimp -implicitDefEqProofs (disch := omega) only [↓Q0 54, ↓Q1 54, ↓Q0 104, ↓Q1 104, ↓Q0 114, ↓Q1 114, ↓Q0 134, ↓Q1 134, ↓Q0 139, ↓Q1 139, VCA, Z1, ↓Q3, Nat.reduceEqDiff, Nat.reduceBEq, Nat.reduceAdd, Nat.reduceSub, Nat.reduceMul, Nat.reduceLT, Nat.reduceLeDiff, ↓reduceIte, reduceCtorEq, Z7, Q6, SOp.rd, SI.rd, SX.rd, rdL, rdO, rdP, Q5, Q4, Q2, Q8, Q7, Z0, implies_true, forall_const, forall_eq, ne_eq, exists_eq_right_right, exists_eq_right, exists_eq_left, exists_eq_left', Q9, Z3, Z8, Z6, Z4, c23_s9, e2, e5, e6, e8, g5, hk, ek, Z5, J4, b3, b5, hz, hz10])
      all_goals try (exfalso; simp_all; done)
      all_goals try (exfalso; omega)
      all_goals intro r hr
      all_goals have n1 : ¬ r5 = r := fun q => by rw [<- q, g5] at hr; cases hr
      all_goals have n2 : ¬ r = r5 := fun q => n1 q.symm
      all_goals have g5' : upd h1 r (some ⟨Tn, 6, [Z5 y]⟩) r5 = some ⟨Tn, 6, [Z5 x]⟩ := by rw [Y3 _ _ n1]; exact h5
      all_goals have S2 : Sub h (upd h1 r (some ⟨Tn, 6, [Z5 y]⟩)) := S.upd (S.none hr)
      all_goals unfold Z5 at S2
      all_goals repeat' (first | ((with_reducible refine brC (fun _ => ?_) fun _ => ?_) <;> try (exfalso; omega)) | (with_reducible refine And.intro ?_ ?_; · omega) | simp -dsimp -implicitDefEqProofs (disch := omega) only [↓Q0 54, ↓Q1 54, ↓Q0 104, ↓Q1 104, ↓Q0 114, ↓Q1 114, ↓Q0 134, ↓Q1 134, ↓Q0 139, ↓Q1 139, VCA, Z1, ↓Q3, Nat.reduceEqDiff, Nat.reduceBEq, Nat.reduceAdd, Nat.reduceSub, Nat.reduceMul, Nat.reduceLT, Nat.reduceLeDiff, ↓reduceIte, reduceCtorEq, Z7, Q6, SOp.rd, SI.rd, SX.rd, rdL, rdO, rdP, Q5, Q4, Q2, Q8, Q7, Z0, implies_true, forall_const, forall_eq, ne_eq, exists_eq_right_right, exists_eq_right, exists_eq_left, exists_eq_left', Q9, Z3, Z8, Z6, Z4, e2, e5, e6, e8, g5, n1, n2, J5, b3, b5, hz, hz10])
      all_goals first
       | (refine fin true _ _ hF ?_ ?_ ?_ S2 g5' <;> first | (simp [upd, e5]; done) | (simp [upd, e6]; done) | (simp [upd, e8]; done))
       | (refine ⟨by omega, fin true _ _ hF ?_ ?_ ?_ S2 g5'⟩ <;> first | (simp [upd, e5]; done) | (simp [upd, e6]; done) | (simp [upd, e8]; done))
       | (exfalso; simp_all; done)
       | (exfalso; omega)
       | trace_state
     | false =>
      have hF : X2 d x = false := by rw [hL, b3, b5, hb, hz10]; rfl
      skip
      repeat' (first | ((with_reducible refine brC (fun _ => ?_) fun _ => ?_) <;> try (exfalso; omega)) | (with_reducible refine And.intro ?_ ?_; · omega) | simp -dsimp -implicitDefEqProofs (disch := omega) only [↓Q0 54, ↓Q1 54, ↓Q0 104, ↓Q1 104, ↓Q0 114, ↓Q1 114, ↓Q0 134, ↓Q1 134, ↓Q0 139, ↓Q1 139, VCA, Z1, ↓Q3, Nat.reduceEqDiff, Nat.reduceBEq, Nat.reduceAdd, Nat.reduceSub, Nat.reduceMul, Nat.reduceLT, Nat.reduceLeDiff, ↓reduceIte, reduceCtorEq, Z7, Q6, SOp.rd, SI.rd, SX.rd, rdL, rdO, rdP, Q5, Q4, Q2, Q8, Q7, Z0, implies_true, forall_const, forall_eq, ne_eq, exists_eq_right_right, exists_eq_right, exists_eq_left, exists_eq_left', Q9, Z3, Z8, Z6, Z4, c23_s9, e2, e5, e6, e8, g5, hk, ek, Z5, J4, b3, b5, hz, hz10])
      all_goals try (exfalso; simp_all; done)
      all_goals try (exfalso; omega)
      all_goals intro r hr
      all_goals have n1 : ¬ r5 = r := fun q => by rw [<- q, g5] at hr; cases hr
      all_goals have n2 : ¬ r = r5 := fun q => n1 q.symm
      all_goals have g5' : upd h1 r (some ⟨Tn, 6, [Z5 y]⟩) r5 = some ⟨Tn, 6, [Z5 x]⟩ := by rw [Y3 _ _ n1]; exact h5
      all_goals have S2 : Sub h (upd h1 r (some ⟨Tn, 6, [Z5 y]⟩)) := S.upd (S.none hr)
      all_goals unfold Z5 at S2
      all_goals repeat' (first | ((with_reducible refine brC (fun _ => ?_) fun _ => ?_) <;> try (exfalso; omega)) | (with_reducible refine And.intro ?_ ?_; · omega) | simp -dsimp -implicitDefEqProofs (disch := omega) only [↓Q0 54, ↓Q1 54, ↓Q0 104, ↓Q1 104, ↓Q0 114, ↓Q1 114, ↓Q0 134, ↓Q1 134, ↓Q0 139, ↓Q1 139, VCA, Z1, ↓Q3, Nat.reduceEqDiff, Nat.reduceBEq, Nat.reduceAdd, Nat.reduceSub, Nat.reduceMul, Nat.reduceLT, Nat.reduceLeDiff, ↓reduceIte, reduceCtorEq, Z7, Q6, SOp.rd, SI.rd, SX.rd, rdL, rdO, rdP, Q5, Q4, Q2, Q8, Q7, Z0, implies_true, forall_const, forall_eq, ne_eq, exists_eq_right_right, exists_eq_right, exists_eq_left, exists_eq_left', Q9, Z3, Z8, Z6, Z4, e2, e5, e6, e8, g5, n1, n2, J5, b3, b5, hz, hz10])
      all_goals first
       | (refine fin false _ _ hF ?_ ?_ ?_ S2 g5' <;> first | (simp [upd, e5]; done) | (simp [upd, e6]; done) | (simp [upd, e8]; done))
       | (refine ⟨by omega, fin false _ _ hF ?_ ?_ ?_ S2 g5'⟩ <;> first | (simp [upd, e5]; done) | (simp [upd, e6]; done) | (simp [upd, e8]; done))
       | (exfalso; simp_all; done)
       | (exfalso; omega)
       | trace_state
   ·have b3 : (y.kind == 3) = false := by simpa using c3
    have hF : X2 d x = false := by rw [hL, b3]; rfl
    skip
    repeat' (first | ((with_reducible refine brC (fun _ => ?_) fun _ => ?_) <;> try (exfalso; omega)) | (with_reducible refine And.intro ?_ ?_; · omega) | simp -dsimp -implicitDefEqProofs (disch := omega) only [↓Q0 54, ↓Q1 54, ↓Q0 104, ↓Q1 104, ↓Q0 114, ↓Q1 114, ↓Q0 134, ↓Q1 134, ↓Q0 139, ↓Q1 139, VCA, Z1, ↓Q3, Nat.reduceEqDiff, Nat.reduceBEq, Nat.reduceAdd, Nat.reduceSub, Nat.reduceMul, Nat.reduceLT, Nat.reduceLeDiff, ↓reduceIte, reduceCtorEq, Z7, Q6, SOp.rd, SI.rd, SX.rd, rdL, rdO, rdP, Q5, Q4, Q2, Q8, Q7, Z0, implies_true, forall_const, forall_eq, ne_eq, exists_eq_right_right, exists_eq_right, exists_eq_left, exists_eq_left', Q9, Z3, Z8, Z6, Z4, c23_s9, e2, e5, e6, e8, g5, hk, ek, Z5, J4, b3])
    all_goals try (exfalso; simp_all; done)
    all_goals try (exfalso; omega)
    all_goals intro r hr
    all_goals have n1 : ¬ r5 = r := fun q => by rw [<- q, g5] at hr; cases hr
    all_goals have n2 : ¬ r = r5 := fun q => n1 q.symm
    all_goals have g5' : upd h1 r (some ⟨Tn, 6, [Z5 y]⟩) r5 = some ⟨Tn, 6, [Z5 x]⟩ := by rw [Y3 _ _ n1]; exact h5
    all_goals have S2 : Sub h (upd h1 r (some ⟨Tn, 6, [Z5 y]⟩)) := S.upd (S.none hr)
    all_goals unfold Z5 at S2
    all_goals repeat' (first | ((with_reducible refine brC (fun _ => ?_) fun _ => ?_) <;> try (exfalso; omega)) | (with_reducible refine And.intro ?_ ?_; · omega) | simp -dsimp -implicitDefEqProofs (disch := omega) only [↓Q0 54, ↓Q1 54, ↓Q0 104, ↓Q1 104, ↓Q0 114, ↓Q1 114, ↓Q0 134, ↓Q1 134, ↓Q0 139, ↓Q1 139, VCA, Z1, ↓Q3, Nat.reduceEqDiff, Nat.reduceBEq, Nat.reduceAdd, Nat.reduceSub, Nat.reduceMul, Nat.reduceLT, Nat.reduceLeDiff, ↓reduceIte, reduceCtorEq, Z7, Q6, SOp.rd, SI.rd, SX.rd, rdL, rdO, rdP, Q5, Q4, Q2, Q8, Q7, Z0, implies_true, forall_const, forall_eq, ne_eq, exists_eq_right_right, exists_eq_right, exists_eq_left, exists_eq_left', Q9, Z3, Z8, Z6, Z4, e2, e5, e6, e8, g5, n1, n2, J5, b3])
    all_goals first
     | (refine fin false _ _ hF ?_ ?_ ?_ S2 g5' <;> first | (simp [upd, e5]; done) | (simp [upd, e6]; done) | (simp [upd, e8]; done))
     | (refine ⟨by omega, fin false _ _ hF ?_ ?_ ?_ S2 g5'⟩ <;> first | (simp [upd, e5]; done) | (simp [upd, e6]; done) | (simp [upd, e8]; done))
     | (exfalso; simp_all; done)
     | (exfalso; omega)
     | trace_state
  ·have kn : decide (x.kids ≠ []) = false := decide_eq_false (fun q => q (List.eq_nil_of_length_eq_zero (by omega)))
   have hF : X2 d x = false := by rw [hL, kn]; simp
   skip
   repeat' (first | ((with_reducible refine brC (fun _ => ?_) fun _ => ?_) <;> try (exfalso; omega)) | (with_reducible refine And.intro ?_ ?_; · omega) | simp -dsimp -implicitDefEqProofs (disch := omega) only [↓Q0 54, ↓Q1 54, ↓Q0 104, ↓Q1 104, ↓Q0 114, ↓Q1 114, ↓Q0 134, ↓Q1 134, ↓Q0 139, ↓Q1 139, VCA, Z1, ↓Q3, Nat.reduceEqDiff, Nat.reduceBEq, Nat.reduceAdd, Nat.reduceSub, Nat.reduceMul, Nat.reduceLT, Nat.reduceLeDiff, ↓reduceIte, reduceCtorEq, Z7, Q6, SOp.rd, SI.rd, SX.rd, rdL, rdO, rdP, Q5, Q4, Q2, Q8, Q7, Z0, implies_true, forall_const, forall_eq, ne_eq, exists_eq_right_right, exists_eq_right, exists_eq_left, exists_eq_left', Q9, Z3, Z8, Z6, Z4, c23_s9, e2, e5, e6, e8, g5, Z5, J4])
   all_goals first
    | (refine fin false _ _ hF ?_ ?_ ?_ S h5 <;> first | (simp [upd, e5]; done) | (simp [upd, e6]; done) | (simp [upd, e8]; done))
    | (exfalso; simp_all; done)
    | (exfalso; omega)
    | trace_state
 ·have c1b : (x.name == [112, 114, 101] || x.name == [116, 101, 120, 116, 97, 114, 101, 97]) = false := by simpa using c1
  have hF : X2 d x = false := by rw [hL, c1b]; simp
  skip
  repeat' (first | ((with_reducible refine brC (fun _ => ?_) fun _ => ?_) <;> try (exfalso; omega)) | (with_reducible refine And.intro ?_ ?_; · omega) | simp -dsimp -implicitDefEqProofs (disch := omega) only [↓Q0 54, ↓Q1 54, ↓Q0 104, ↓Q1 104, ↓Q0 114, ↓Q1 114, ↓Q0 134, ↓Q1 134, ↓Q0 139, ↓Q1 139, VCA, Z1, ↓Q3, Nat.reduceEqDiff, Nat.reduceBEq, Nat.reduceAdd, Nat.reduceSub, Nat.reduceMul, Nat.reduceLT, Nat.reduceLeDiff, ↓reduceIte, reduceCtorEq, Z7, Q6, SOp.rd, SI.rd, SX.rd, rdL, rdO, rdP, Q5, Q4, Q2, Q8, Q7, Z0, implies_true, forall_const, forall_eq, ne_eq, exists_eq_right_right, exists_eq_right, exists_eq_left, exists_eq_left', Q9, Z3, Z8, Z6, Z4, c23_s9, e2, e5, e6, e8, g5, Z5, J4])
  all_goals first
   | (refine fin false _ _ hF ?_ ?_ ?_ S h5 <;> first | (simp [upd, e5]; done) | (simp [upd, e6]; done) | (simp [upd, e8]; done))
   | (exfalso; simp_all; done)
   | (exfalso; omega)
   | trace_state
def elH (d : HDoc) (x : HNode) (I : List UInt8) : List UInt8 := if inW x.name voidS = true /\ x.kids = [] then openH x else openH x ++ (if X2 d x = true then [10] else []) ++ I ++ [60, 47] ++ x.name ++ [62]
theorem openH_len {x : HNode} (Z : NodeSz x) : (openH x).length <= 40000 := by
 unfold openH
 have := flat_le (f := attrH) (k := 2500) x.attrs fun a ha => by
  have h1 := Z.each a ha
  have h2 := esc_len true _ a.value (Nat.le_refl _)
  unfold attrH
  simp only [List.length_append, List.length_cons, List.length_nil]
  omega
 have := Z.attrs
 have := Z.name
 simp only [List.length_append, List.length_cons, List.length_nil]
 omega
theorem rh8 (d : HDoc) (V : DV d) (n : Int) (hn : inD d n) {x : HNode} (hx : nd d n = x) (I : List UInt8) {h h1 : J1} {r5 : Nat} (S : Sub h h1) (h5 : h1 r5 = some ⟨Tn, 6, [Z5 x]⟩) {e : Env} (e2 : e 2 = .pin (J4 d)) (e5 : e 5 = .vp r5 0) (e6 : e 6 = .str I) (e8 : e 8 = .str (openH x)) (hl : I.length <= 100000000) :
  vc (Pg G) c23_s8 (retK [.tmp 4] fun r h' => r = .str (elH d x I) /\ h' = h) e h1 := by
 have Z := nodeE_sz (V.node n hn)
 rw [hx] at Z
 have z1 := Z.name
 have ol := openH_len Z
 have cV := void2_ok (G := G) x.name
 have g5 := h5
 unfold Z5 at g5
 unfold elH
 cases hv : inW x.name voidS with
 | true =>
  rw [hv] at cV
  by_cases hk : x.kids = []
  ·have k0 : ((x.kids.length : Int) == 0) = true := by rw [hk]; rfl
   rw [if_pos ⟨rfl, hk⟩]
   skip
   repeat' (first | ((with_reducible refine brC (fun _ => ?_) fun _ => ?_) <;> try (exfalso; omega)) | (with_reducible apply pcallE.of; · exact cV) | (with_reducible refine And.intro ?_ ?_; · omega) | simp -dsimp -implicitDefEqProofs (disch := omega) only [↓Q0 54, ↓Q1 54, ↓Q0 104, ↓Q1 104, ↓Q0 114, ↓Q1 114, ↓Q0 134, ↓Q1 134, ↓Q0 139, ↓Q1 139, VCA, Z1, ↓Q3, Nat.reduceEqDiff, Nat.reduceBEq, Nat.reduceAdd, Nat.reduceSub, Nat.reduceMul, Nat.reduceLT, Nat.reduceLeDiff, ↓reduceIte, reduceCtorEq, Z7, Q6, SOp.rd, SI.rd, SX.rd, rdL, rdO, rdP, Q5, Q4, Q2, Q8, Q7, Z0, implies_true, forall_const, forall_eq, ne_eq, exists_eq_right_right, exists_eq_right, exists_eq_left, exists_eq_left', Q9, Z3, Z8, Z6, Z4, c23_s8, e2, e5, e6, e8, g5, k0, Z5, J4])
   exact S
  ·have k0 : ((x.kids.length : Int) == 0) = false := by
    rw [beq_eq_false_iff_ne]; intro q; exact hk (List.eq_nil_of_length_eq_zero (by omega))
   rw [if_neg (fun q => hk q.2)]
   skip
   repeat' (first | ((with_reducible refine brC (fun _ => ?_) fun _ => ?_) <;> try (exfalso; omega)) | (with_reducible apply pcallE.of; · exact cV) | (with_reducible refine And.intro ?_ ?_; · omega) | simp -dsimp -implicitDefEqProofs (disch := omega) only [↓Q0 54, ↓Q1 54, ↓Q0 104, ↓Q1 104, ↓Q0 114, ↓Q1 114, ↓Q0 134, ↓Q1 134, ↓Q0 139, ↓Q1 139, VCA, Z1, ↓Q3, Nat.reduceEqDiff, Nat.reduceBEq, Nat.reduceAdd, Nat.reduceSub, Nat.reduceMul, Nat.reduceLT, Nat.reduceLeDiff, ↓reduceIte, reduceCtorEq, Z7, Q6, SOp.rd, SI.rd, SX.rd, rdL, rdO, rdP, Q5, Q4, Q2, Q8, Q7, Z0, implies_true, forall_const, forall_eq, ne_eq, exists_eq_right_right, exists_eq_right, exists_eq_left, exists_eq_left', Q9, Z3, Z8, Z6, Z4, c23_s8, e2, e5, e6, e8, g5, k0, Z5, J4])
   exact rh9 d V n hn hx (openH x) I S h5 (by simp [upd, e2]) (by simp [upd, e5]) (by simp [upd, e6]) (by simp [upd, e8]) (by omega)
 | false =>
  rw [hv] at cV
  rw [if_neg (fun q => by cases q.1)]
  skip
  repeat' (first | ((with_reducible refine brC (fun _ => ?_) fun _ => ?_) <;> try (exfalso; omega)) | (with_reducible apply pcallE.of; · exact cV) | (with_reducible refine And.intro ?_ ?_; · omega) | simp -dsimp -implicitDefEqProofs (disch := omega) only [↓Q0 54, ↓Q1 54, ↓Q0 104, ↓Q1 104, ↓Q0 114, ↓Q1 114, ↓Q0 134, ↓Q1 134, ↓Q0 139, ↓Q1 139, VCA, Z1, ↓Q3, Nat.reduceEqDiff, Nat.reduceBEq, Nat.reduceAdd, Nat.reduceSub, Nat.reduceMul, Nat.reduceLT, Nat.reduceLeDiff, ↓reduceIte, reduceCtorEq, Z7, Q6, SOp.rd, SI.rd, SX.rd, rdL, rdO, rdP, Q5, Q4, Q2, Q8, Q7, Z0, implies_true, forall_const, forall_eq, ne_eq, exists_eq_right_right, exists_eq_right, exists_eq_left, exists_eq_left', Q9, Z3, Z8, Z6, Z4, c23_s8, e2, e5, e6, e8, g5, Z5, J4])
  exact rh9 d V n hn hx (openH x) I S h5 (by simp [upd, e2]) (by simp [upd, e5]) (by simp [upd, e6]) (by simp [upd, e8]) (by omega)
theorem rh6 (hG : MaxOK G) (d : HDoc) (V : DV d) (n : Int) (hn : inD d n) {x : HNode} (hx : nd d n = x) (I : List UInt8) {h h1 : J1} {r5 : Nat} (S : Sub h h1) (h5 : h1 r5 = some ⟨Tn, 6, [Z5 x]⟩) {e : Env} (e2 : e 2 = .pin (J4 d)) (e5 : e 5 = .vp r5 0) (e6 : e 6 = .str I) (e8 : e 8 = .str (60 :: x.name)) (hl : I.length <= 100000000) :
  vc (Pg G) c23_s6 (retK [.tmp 4] fun r h' => r = .str (elH d x I) /\ h' = h) e h1 := by
 have Z := nodeE_sz (V.node n hn)
 rw [hx] at Z
 have z1 := Z.name
 have z3 := Z.attrs
 have g5 := h5
 unfold Z5 at g5
 have fl := fun (k : Nat) => flat_le (f := attrH) (k := 2500) (x.attrs.take k) fun a ha => by
  have h1 := Z.each a (List.mem_of_mem_take ha)
  have h2 := esc_len true _ a.value (Nat.le_refl _)
  unfold attrH
  simp only [List.length_append, List.length_cons, List.length_nil]; omega
 skip
 repeat' (first | ((with_reducible refine brC (fun _ => ?_) fun _ => ?_) <;> try (exfalso; omega)) | (with_reducible refine And.intro ?_ ?_; · omega) | simp -dsimp -implicitDefEqProofs (disch := omega) only [↓Q0 54, ↓Q1 54, ↓Q0 104, ↓Q1 104, ↓Q0 114, ↓Q1 114, ↓Q0 134, ↓Q1 134, ↓Q0 139, ↓Q1 139, VCA, Z1, ↓Q3, Nat.reduceEqDiff, Nat.reduceBEq, Nat.reduceAdd, Nat.reduceSub, Nat.reduceMul, Nat.reduceLT, Nat.reduceLeDiff, ↓reduceIte, reduceCtorEq, Z7, Q6, SOp.rd, SI.rd, SX.rd, rdL, rdO, rdP, Q5, Q4, Q2, Q8, Q7, Z0, implies_true, forall_const, forall_eq, ne_eq, exists_eq_right_right, exists_eq_right, exists_eq_left, exists_eq_left', Q9, Z3, Z8, Z6, Z4, c23_s6])
 refine LoopVC.intro (fun m e h' => ∃ k : Nat, k <= x.attrs.length /\ m = x.attrs.length - k /\ h' = h1 /\ e 2 = .pin (J4 d) /\ e 5 = .vp r5 0 /\ e 6 = .str I /\ e 8 = .str (60 :: x.name ++ (x.attrs.take k).flatMap attrH) /\ e 9 = Y0 k) x.attrs.length
  (by exact ⟨0, by omega, by omega, rfl, by simp [upd, e2], by simp [upd, e5], by simp [upd, e6], by simp [upd, e8], by simp [upd]⟩) ?_
 rintro m e h' ⟨k, hk, rfl, rfl, e2, e5, e6, e8, e9⟩
 have fk := fl k
 rw [List.length_take] at fk
 by_cases hlt : k < x.attrs.length
 ·obtain ⟨a, ha⟩ : ∃ a, nth x.attrs k = a := ⟨_, rfl⟩
  have he := Z.each a (ha ▸ X9 hlt)
  have cq := refEscape_ok (G := G) a.value true (by omega)
  have ql := esc_len true _ a.value (Nat.le_refl _)
  have ts : (x.attrs.take (k + 1)).flatMap attrH = (x.attrs.take k).flatMap attrH ++ attrH a := by
   rw [K7 hlt, List.flatMap_append, List.flatMap_cons, List.flatMap_nil, List.append_nil, ha]
  repeat' (first | ((with_reducible refine brC (fun _ => ?_) fun _ => ?_) <;> try (exfalso; omega)) | (with_reducible apply pcallE.of; · exact cq) | (with_reducible refine And.intro ?_ ?_; · omega) | simp -dsimp -implicitDefEqProofs (disch := omega) only [↓Q0 54, ↓Q1 54, ↓Q0 104, ↓Q1 104, ↓Q0 114, ↓Q1 114, ↓Q0 134, ↓Q1 134, ↓Q0 139, ↓Q1 139, VCA, Z1, ↓Q3, Nat.reduceEqDiff, Nat.reduceBEq, Nat.reduceAdd, Nat.reduceSub, Nat.reduceMul, Nat.reduceLT, Nat.reduceLeDiff, ↓reduceIte, reduceCtorEq, Z7, Q6, SOp.rd, SI.rd, SX.rd, rdL, rdO, rdP, Q5, Q4, Q2, Q8, Q7, Z0, implies_true, forall_const, forall_eq, ne_eq, exists_eq_right_right, exists_eq_right, exists_eq_left, exists_eq_left', Q9, Z3, Z8, Z6, Z4, e2, e5, e6, e8, e9, g5, ha, Z3])
  simp only [List.length_append, List.length_cons, List.length_nil]
  exact ⟨by omega, by omega, by omega, _, by omega, k + 1, by omega, rfl, by rw [ts]; simp [attrH], by omega⟩
 ·obtain rfl : k = x.attrs.length := by omega
  rw [List.take_length] at e8 fk
  have eo : 60 :: x.name ++ x.attrs.flatMap attrH ++ [62] = openH x := by unfold openH; simp
  simp only [List.cons_append] at eo
  repeat' (first | ((with_reducible refine brC (fun _ => ?_) fun _ => ?_) <;> try (exfalso; omega)) | (with_reducible refine And.intro ?_ ?_; · omega) | simp -dsimp -implicitDefEqProofs (disch := omega) only [↓Q0 54, ↓Q1 54, ↓Q0 104, ↓Q1 104, ↓Q0 114, ↓Q1 114, ↓Q0 134, ↓Q1 134, ↓Q0 139, ↓Q1 139, VCA, Z1, ↓Q3, Nat.reduceEqDiff, Nat.reduceBEq, Nat.reduceAdd, Nat.reduceSub, Nat.reduceMul, Nat.reduceLT, Nat.reduceLeDiff, ↓reduceIte, reduceCtorEq, Z7, Q6, SOp.rd, SI.rd, SX.rd, rdL, rdO, rdP, Q5, Q4, Q2, Q8, Q7, Z0, implies_true, forall_const, forall_eq, ne_eq, exists_eq_right_right, exists_eq_right, exists_eq_left, exists_eq_left', Q9, Z3, Z8, Z6, Z4, e2, e5, e6, e8, e9, g5, eo])
  refine ⟨?_, rh8 d V n hn hx I S h5 (by simp [upd, e2]) (by simp [upd, e5]) (by simp [upd, e6]) (by simp [upd, e8]) hl⟩
  rw [List.length_append]
  omega
theorem rh4 (hG : MaxOK G) (d : HDoc) (V : DV d) (n : Int) (hn : inD d n) {x : HNode} (hx : nd d n = x) (I : List UInt8) {h h1 : J1} {r5 : Nat} (S : Sub h h1) (h5 : h1 r5 = some ⟨Tn, 6, [Z5 x]⟩) {e : Env} (e2 : e 2 = .pin (J4 d)) (e5 : e 5 = .vp r5 0) (e6 : e 6 = .str I) (hl : I.length <= 100000000) :
  vc (Pg G) c23_s4 (retK [.tmp 4] fun r h' => r = .str (htG d x I) /\ h' = h) e h1 := by
 have Z := nodeE_sz (V.node n hn)
 rw [hx] at Z
 have z1 := Z.name
 have z2 := Z.text
 have zk := Z.kind
 have g5 := h5
 unfold Z5 at g5
 have hpar : 0 <= x.parent -> inD d x.parent := fun hp => by rw [<- hx] at hp ⊢; exact (V.par_in hn hp).1
 have hR := refRaw_ok (G := G) (nd d x.parent).name
 have hE := refEscape_ok (G := G) x.text false (by omega)
 unfold htG
 by_cases h1' : x.kind = 1
 ·have b1 : (x.kind == 1) = true := by simpa using h1'
  rw [if_pos h1']
  skip
  repeat' (first | ((with_reducible refine brC (fun _ => ?_) fun _ => ?_) <;> try (exfalso; omega)) | (with_reducible refine And.intro ?_ ?_; · omega) | simp -dsimp -implicitDefEqProofs (disch := omega) only [↓Q0 54, ↓Q1 54, ↓Q0 104, ↓Q1 104, ↓Q0 114, ↓Q1 114, ↓Q0 134, ↓Q1 134, ↓Q0 139, ↓Q1 139, VCA, Z1, ↓Q3, Nat.reduceEqDiff, Nat.reduceBEq, Nat.reduceAdd, Nat.reduceSub, Nat.reduceMul, Nat.reduceLT, Nat.reduceLeDiff, ↓reduceIte, reduceCtorEq, Z7, Q6, SOp.rd, SI.rd, SX.rd, rdL, rdO, rdP, Q5, Q4, Q2, Q8, Q7, Z0, implies_true, forall_const, forall_eq, ne_eq, exists_eq_right_right, exists_eq_right, exists_eq_left, exists_eq_left', Q9, Z3, Z8, Z6, Z4, c23_s4, e2, e5, e6, g5, b1])
  exact S
 have b1 : (x.kind == 1) = false := by simpa using h1'
 rw [if_neg h1']
 by_cases h5' : x.kind = 5
 ·have b5 : (x.kind == 5) = true := by simpa using h5'
  rw [if_pos h5']
  skip
  repeat' (first | ((with_reducible refine brC (fun _ => ?_) fun _ => ?_) <;> try (exfalso; omega)) | (with_reducible refine And.intro ?_ ?_; · omega) | simp -dsimp -implicitDefEqProofs (disch := omega) only [↓Q0 54, ↓Q1 54, ↓Q0 104, ↓Q1 104, ↓Q0 114, ↓Q1 114, ↓Q0 134, ↓Q1 134, ↓Q0 139, ↓Q1 139, VCA, Z1, ↓Q3, Nat.reduceEqDiff, Nat.reduceBEq, Nat.reduceAdd, Nat.reduceSub, Nat.reduceMul, Nat.reduceLT, Nat.reduceLeDiff, ↓reduceIte, reduceCtorEq, Z7, Q6, SOp.rd, SI.rd, SX.rd, rdL, rdO, rdP, Q5, Q4, Q2, Q8, Q7, Z0, implies_true, forall_const, forall_eq, ne_eq, exists_eq_right_right, exists_eq_right, exists_eq_left, exists_eq_left', Q9, Z3, Z8, Z6, Z4, c23_s4, e2, e5, e6, g5, b1, b5])
  all_goals first | exact S | exact ⟨by omega, S⟩ | exact ⟨by omega, by omega, S⟩ | trace_state
 have b5 : (x.kind == 5) = false := by simpa using h5'
 rw [if_neg h5']
 by_cases h4' : x.kind = 4
 ·have b4 : (x.kind == 4) = true := by simpa using h4'
  rw [if_pos h4']
  skip
  repeat' (first | ((with_reducible refine brC (fun _ => ?_) fun _ => ?_) <;> try (exfalso; omega)) | (with_reducible refine And.intro ?_ ?_; · omega) | simp -dsimp -implicitDefEqProofs (disch := omega) only [↓Q0 54, ↓Q1 54, ↓Q0 104, ↓Q1 104, ↓Q0 114, ↓Q1 114, ↓Q0 134, ↓Q1 134, ↓Q0 139, ↓Q1 139, VCA, Z1, ↓Q3, Nat.reduceEqDiff, Nat.reduceBEq, Nat.reduceAdd, Nat.reduceSub, Nat.reduceMul, Nat.reduceLT, Nat.reduceLeDiff, ↓reduceIte, reduceCtorEq, Z7, Q6, SOp.rd, SI.rd, SX.rd, rdL, rdO, rdP, Q5, Q4, Q2, Q8, Q7, Z0, implies_true, forall_const, forall_eq, ne_eq, exists_eq_right_right, exists_eq_right, exists_eq_left, exists_eq_left', Q9, Z3, Z8, Z6, Z4, c23_s4, e2, e5, e6, g5, b1, b5, b4])
  all_goals first | exact S | exact ⟨by omega, S⟩ | exact ⟨by omega, by omega, S⟩ | trace_state
 have b4 : (x.kind == 4) = false := by simpa using h4'
 rw [if_neg h4']
 by_cases h3' : x.kind = 3
 ·have b3 : (x.kind == 3) = true := by simpa using h3'
  rw [if_pos h3']
  by_cases hp : 0 <= x.parent
  ·have i0 := (hpar hp).1
   have i1 := (hpar hp).2
   have ep : nth d.nodes x.parent.toNat = nd d x.parent := rfl
   have bp : decide (0 <= x.parent) = true := decide_eq_true hp
   by_cases hr : rawM (nd d x.parent).name = 1
   ·have br : (rawM (nd d x.parent).name == 1) = true := by simpa using hr
    rw [if_pos ⟨hp, hr⟩]
    skip
    repeat' (first | ((with_reducible refine brC (fun _ => ?_) fun _ => ?_) <;> try (exfalso; omega)) | (with_reducible apply pcallE.of; · exact hR) | (with_reducible refine And.intro ?_ ?_; · omega) | simp -dsimp -implicitDefEqProofs (disch := omega) only [↓Q0 54, ↓Q1 54, ↓Q0 104, ↓Q1 104, ↓Q0 114, ↓Q1 114, ↓Q0 134, ↓Q1 134, ↓Q0 139, ↓Q1 139, VCA, Z1, ↓Q3, Nat.reduceEqDiff, Nat.reduceBEq, Nat.reduceAdd, Nat.reduceSub, Nat.reduceMul, Nat.reduceLT, Nat.reduceLeDiff, ↓reduceIte, reduceCtorEq, Z7, Q6, SOp.rd, SI.rd, SX.rd, rdL, rdO, rdP, Q5, Q4, Q2, Q8, Q7, Z0, implies_true, forall_const, forall_eq, ne_eq, exists_eq_right_right, exists_eq_right, exists_eq_left, exists_eq_left', Q9, Z3, Z8, Z6, Z4, c23_s4, e2, e5, e6, g5, b1, b5, b4, b3, bp, br, ep, J4, Z5])
    all_goals first | exact S | trace_state
   ·have br : (rawM (nd d x.parent).name == 1) = false := by simpa using hr
    rw [if_neg (fun q => hr q.2)]
    skip
    repeat' (first | ((with_reducible refine brC (fun _ => ?_) fun _ => ?_) <;> try (exfalso; omega)) | (with_reducible apply pcallE.of; · exact hR) | (with_reducible apply pcallE.of; · exact hE) | (with_reducible refine And.intro ?_ ?_; · omega) | simp -dsimp -implicitDefEqProofs (disch := omega) only [↓Q0 54, ↓Q1 54, ↓Q0 104, ↓Q1 104, ↓Q0 114, ↓Q1 114, ↓Q0 134, ↓Q1 134, ↓Q0 139, ↓Q1 139, VCA, Z1, ↓Q3, Nat.reduceEqDiff, Nat.reduceBEq, Nat.reduceAdd, Nat.reduceSub, Nat.reduceMul, Nat.reduceLT, Nat.reduceLeDiff, ↓reduceIte, reduceCtorEq, Z7, Q6, SOp.rd, SI.rd, SX.rd, rdL, rdO, rdP, Q5, Q4, Q2, Q8, Q7, Z0, implies_true, forall_const, forall_eq, ne_eq, exists_eq_right_right, exists_eq_right, exists_eq_left, exists_eq_left', Q9, Z3, Z8, Z6, Z4, c23_s4, e2, e5, e6, g5, b1, b5, b4, b3, bp, br, ep, J4, Z5])
    all_goals first | exact S | trace_state
  ·have bp : decide (0 <= x.parent) = false := decide_eq_false hp
   rw [if_neg (fun q => hp q.1)]
   skip
   repeat' (first | ((with_reducible refine brC (fun _ => ?_) fun _ => ?_) <;> try (exfalso; omega)) | (with_reducible apply pcallE.of; · exact hE) | (with_reducible refine And.intro ?_ ?_; · omega) | simp -dsimp -implicitDefEqProofs (disch := omega) only [↓Q0 54, ↓Q1 54, ↓Q0 104, ↓Q1 104, ↓Q0 114, ↓Q1 114, ↓Q0 134, ↓Q1 134, ↓Q0 139, ↓Q1 139, VCA, Z1, ↓Q3, Nat.reduceEqDiff, Nat.reduceBEq, Nat.reduceAdd, Nat.reduceSub, Nat.reduceMul, Nat.reduceLT, Nat.reduceLeDiff, ↓reduceIte, reduceCtorEq, Z7, Q6, SOp.rd, SI.rd, SX.rd, rdL, rdO, rdP, Q5, Q4, Q2, Q8, Q7, Z0, implies_true, forall_const, forall_eq, ne_eq, exists_eq_right_right, exists_eq_right, exists_eq_left, exists_eq_left', Q9, Z3, Z8, Z6, Z4, c23_s4, e2, e5, e6, g5, b1, b5, b4, b3, bp, J4, Z5])
   all_goals first | exact S | trace_state
 have b3 : (x.kind == 3) = false := by simpa using h3'
 rw [if_neg h3']
 have h6 := @rh6 G hG d V n hn x hx I h h1 r5 S h5
 unfold elH at h6
 skip
 repeat' (first | ((with_reducible refine brC (fun _ => ?_) fun _ => ?_) <;> try (exfalso; omega)) | (with_reducible refine And.intro ?_ ?_; · omega) | simp -dsimp -implicitDefEqProofs (disch := omega) only [↓Q0 54, ↓Q1 54, ↓Q0 104, ↓Q1 104, ↓Q0 114, ↓Q1 114, ↓Q0 134, ↓Q1 134, ↓Q0 139, ↓Q1 139, VCA, Z1, ↓Q3, Nat.reduceEqDiff, Nat.reduceBEq, Nat.reduceAdd, Nat.reduceSub, Nat.reduceMul, Nat.reduceLT, Nat.reduceLeDiff, ↓reduceIte, reduceCtorEq, Z7, Q6, SOp.rd, SI.rd, SX.rd, rdL, rdO, rdP, Q5, Q4, Q2, Q8, Q7, Z0, implies_true, forall_const, forall_eq, ne_eq, exists_eq_right_right, exists_eq_right, exists_eq_left, exists_eq_left', Q9, Z3, Z8, Z6, Z4, c23_s4, e2, e5, e6, g5, b1, b5, b4, b3])
 all_goals first
  | exact h6 (by simp [upd, e2]) (by simp [upd, e5]) (by simp [upd, e6]) (by simp [upd]) hl
  | (refine ⟨by omega, h6 (by simp [upd, e2]) (by simp [upd, e5]) (by simp [upd, e6]) (by simp [upd]) hl⟩)
  | trace_state
theorem refHTML_ok (hG : MaxOK G) (d : HDoc) (V : DV d) : ∀ n, inD d n -> PCalls (Pg G) 23 [.agg (J4 d), Y0 n] (.str (K3 d n)) := V.down fun n hn ih h => by
 obtain ⟨x, hx⟩ : ∃ x, nd d n = x := ⟨_, rfl⟩
 have i0 := hn.1
 have i1 := hn.2
 have e0 : nth d.nodes n.toNat = nd d n := rfl
 have he := html_eq V hn
 have hlen := html_len V n hn
 have hbl := below_len V hn
 have vl := V.len
 have h4 := @rh4 G hG d V n hn x hx
 have kl : (nd d n).kids.length <= 200 := by
  have := nodup_len d.nodes.length (nd d n).kids (V.nodup n hn) fun k hk => (V.kid n hn k hk).1
  omega
 rw [hx] at ih e0 he kl
 rw [he]
 have hsum : ∀ k, ((x.kids.take k).flatMap (K3 d)).length <= 100000000 := fun k => by
  have h1 := flat_le2 (f := K3 d) (g := below d) (k := 40000) (x.kids.take k) fun m hm => html_len V m (V.kid n hn m (by rw [hx]; exact List.mem_of_mem_take hm)).1
  have h2 : ((x.kids.take k).flatMap (below d)).length <= (x.kids.flatMap (below d)).length := by
   conv => rhs; rw [<- List.take_append_drop k x.kids, List.flatMap_append, List.length_append]
   omega
  rw [below_eq V hn, hx, List.length_cons] at hbl
  omega
 refine Z9 Tryz.func23 (by kernel_rfl) hc23 (by rw [Tryz.ntmps23]; simp) (by rw [Tryz.ntmps23]; decide) ?_
 simp -dsimp -implicitDefEqProofs (disch := omega) only [↓Q0 54, ↓Q1 54, ↓Q0 104, ↓Q1 104, ↓Q0 114, ↓Q1 114, ↓Q0 134, ↓Q1 134, ↓Q0 139, ↓Q1 139, VCA, Z1, ↓Q3, Nat.reduceEqDiff, Nat.reduceBEq, Nat.reduceAdd, Nat.reduceSub, Nat.reduceMul, Nat.reduceLT, Nat.reduceLeDiff, ↓reduceIte, reduceCtorEq, Z7, Q6, SOp.rd, SI.rd, SX.rd, rdL, rdO, rdP, Q5, Q4, Q2, Q8, Q7, Z0, implies_true, forall_const, forall_eq, ne_eq, exists_eq_right_right, exists_eq_right, exists_eq_left, exists_eq_left', Q9, Z3, Z8, Z6, Z4, c23, J4]
 repeat' (first | ((with_reducible refine brC (fun _ => ?_) fun _ => ?_) <;> try (exfalso; omega)) | (with_reducible refine And.intro ?_ ?_; · omega) | simp -dsimp -implicitDefEqProofs (disch := omega) only [↓Q0 54, ↓Q1 54, ↓Q0 104, ↓Q1 104, ↓Q0 114, ↓Q1 114, ↓Q0 134, ↓Q1 134, ↓Q0 139, ↓Q1 139, VCA, Z1, ↓Q3, Nat.reduceEqDiff, Nat.reduceBEq, Nat.reduceAdd, Nat.reduceSub, Nat.reduceMul, Nat.reduceLT, Nat.reduceLeDiff, ↓reduceIte, reduceCtorEq, Z7, Q6, SOp.rd, SI.rd, SX.rd, rdL, rdO, rdP, Q5, Q4, Q2, Q8, Q7, Z0, implies_true, forall_const, forall_eq, ne_eq, exists_eq_right_right, exists_eq_right, exists_eq_left, exists_eq_left', Q9, Z3, Z8, Z6, Z4, e0, J4, Z5])
 intro r5 hr5
 have g5 : upd h r5 (some ⟨Tn, 6, [Z5 x]⟩) r5 = some ⟨Tn, 6, [Z5 x]⟩ := J5 _ _ _
 have S5 : Sub h (upd h r5 (some ⟨Tn, 6, [Z5 x]⟩)) := (Sub.refl h).upd hr5
 obtain ⟨h1, hh1⟩ : ∃ h1, upd h r5 (some ⟨Tn, 6, [Z5 x]⟩) = h1 := ⟨_, rfl⟩
 rw [hh1] at g5 S5
 have h4' := fun (I : List UInt8) (e : Env) => @h4 I h h1 r5 S5 g5 e
 have hh2 := hh1
 unfold Z5 at hh2 g5
 rw [hh2]
 skip
 repeat' (first | ((with_reducible refine brC (fun _ => ?_) fun _ => ?_) <;> try (exfalso; omega)) | (with_reducible refine And.intro ?_ ?_; · omega) | simp -dsimp -implicitDefEqProofs (disch := omega) only [↓Q0 54, ↓Q1 54, ↓Q0 104, ↓Q1 104, ↓Q0 114, ↓Q1 114, ↓Q0 134, ↓Q1 134, ↓Q0 139, ↓Q1 139, VCA, Z1, ↓Q3, Nat.reduceEqDiff, Nat.reduceBEq, Nat.reduceAdd, Nat.reduceSub, Nat.reduceMul, Nat.reduceLT, Nat.reduceLeDiff, ↓reduceIte, reduceCtorEq, Z7, Q6, SOp.rd, SI.rd, SX.rd, rdL, rdO, rdP, Q5, Q4, Q2, Q8, Q7, Z0, implies_true, forall_const, forall_eq, ne_eq, exists_eq_right_right, exists_eq_right, exists_eq_left, exists_eq_left', Q9, Z3, Z8, Z6, Z4, c23_s3])
 refine LoopVC.intro (fun m e h' => ∃ k : Nat, k <= x.kids.length /\ m = x.kids.length - k /\ h' = h1 /\ e 2 = .pin (J4 d) /\ e 5 = .vp r5 0 /\ e 6 = .str ((x.kids.take k).flatMap (K3 d)) /\ e 7 = Y0 k) x.kids.length
  (by exact ⟨0, by omega, by omega, rfl, by simp [upd, J4], by simp [upd], by simp [upd], by simp [upd]⟩) ?_
 rintro m e h' ⟨k, hk, rfl, rfl, e2, e5, e6, e7⟩
 have fk := hsum k
 by_cases hlt : k < x.kids.length
 ·obtain ⟨a, ha⟩ : ∃ a, nth x.kids k = a := ⟨_, rfl⟩
  have hm : a ∈ x.kids := ha ▸ X9 hlt
  have cq := ih a hm
  have ai := (V.kid n hn a (by rw [hx]; exact hm)).1
  have al := html_len V a ai
  have abl := below_len V ai
  have ts : (x.kids.take (k + 1)).flatMap (K3 d) = (x.kids.take k).flatMap (K3 d) ++ K3 d a := by
   rw [K7 hlt, List.flatMap_append, List.flatMap_cons, List.flatMap_nil, List.append_nil, ha]
  unfold J4 at cq
  repeat' (first | ((with_reducible refine brC (fun _ => ?_) fun _ => ?_) <;> try (exfalso; omega)) | (with_reducible apply pcallE.of; · exact cq) | (with_reducible refine And.intro ?_ ?_; · omega) | simp -dsimp -implicitDefEqProofs (disch := omega) only [↓Q0 54, ↓Q1 54, ↓Q0 104, ↓Q1 104, ↓Q0 114, ↓Q1 114, ↓Q0 134, ↓Q1 134, ↓Q0 139, ↓Q1 139, VCA, Z1, ↓Q3, Nat.reduceEqDiff, Nat.reduceBEq, Nat.reduceAdd, Nat.reduceSub, Nat.reduceMul, Nat.reduceLT, Nat.reduceLeDiff, ↓reduceIte, reduceCtorEq, Z7, Q6, SOp.rd, SI.rd, SX.rd, rdL, rdO, rdP, Q5, Q4, Q2, Q8, Q7, Z0, implies_true, forall_const, forall_eq, ne_eq, exists_eq_right_right, exists_eq_right, exists_eq_left, exists_eq_left', Q9, Z3, Z8, Z6, Z4, e2, e5, e6, e7, g5, ha, J4])
  have w1 : IntKind.i64.wrap ((k : Int) + 1) = k + 1 := wrap_i64 (by omega) (by omega)
  exact ⟨x.kids.length - (k + 1), by omega, k + 1, by omega, rfl, ts.symm, by omega⟩
 ·obtain rfl : k = x.kids.length := by omega
  rw [List.take_length] at e6 fk
  repeat' (first | ((with_reducible refine brC (fun _ => ?_) fun _ => ?_) <;> try (exfalso; omega)) | (with_reducible refine And.intro ?_ ?_; · omega) | simp -dsimp -implicitDefEqProofs (disch := omega) only [↓Q0 54, ↓Q1 54, ↓Q0 104, ↓Q1 104, ↓Q0 114, ↓Q1 114, ↓Q0 134, ↓Q1 134, ↓Q0 139, ↓Q1 139, VCA, Z1, ↓Q3, Nat.reduceEqDiff, Nat.reduceBEq, Nat.reduceAdd, Nat.reduceSub, Nat.reduceMul, Nat.reduceLT, Nat.reduceLeDiff, ↓reduceIte, reduceCtorEq, Z7, Q6, SOp.rd, SI.rd, SX.rd, rdL, rdO, rdP, Q5, Q4, Q2, Q8, Q7, Z0, implies_true, forall_const, forall_eq, ne_eq, exists_eq_right_right, exists_eq_right, exists_eq_left, exists_eq_left', Q9, Z3, Z8, Z6, Z4, e2, e5, e6, e7, g5])
  exact h4' _ _ (by simp [upd, e2]) (by simp [upd, e5]) (by simp [upd, e6]) fk
end Go.Proofs.K
end
