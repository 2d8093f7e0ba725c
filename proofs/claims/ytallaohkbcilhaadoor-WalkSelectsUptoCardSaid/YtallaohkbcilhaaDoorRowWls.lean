/- 'clerestorylaw1.WalkSelects' returns true. Condition: what it reads holds at most 1048576 values and letters; the listed tables are tied to the program's text. -/
import Derived.Test.YtallaohkbcilhaaDoorM4
import Derived.Test.YtallaohkbcilhaaDoorM5
set_option linter.unusedSimpArgs false
set_option linter.unusedVariables false
namespace Go.Proofs.YtallaohkbcilhaaDoor
open Go Go.Sim Go.Proofs Go.Proofs.K Go.ChangeShapes Go.WideShapes Go.ChangeAt Go.RowKit
variable {H : Type} {enc : TypeId × Value → H} {w : World}
namespace walkSelects
set_option maxRecDepth 100000 in
theorem contract (H : Type) (enc : TypeId × Value → H) (W : World) (base : Nat) (args : Array Value) (ds gs : List (DataW H)) (before : List MemPlace) (hsh : W.ShapedOpen Tryd.prog)
    (hval : ∀ (j : Nat) t v, Tryd.f3.params[j]? = some t → args[j]? = some v → Value.okWide Tryd.prog W .any base t v) (hk : Rows.uptoSmall H (ds ++ gs) = true) (hL : laidMetH Tryd.prog Rows.walkSelectsUptoRow.laid W)
    (hW : DataW.Whole enc Tryd.prog Tryd.f3.params.toList Rows.walkSelectsSpec.vars false W args.toList ds gs before) :
    Calls Tryd.prog 3 args W fun e W' => ∃ v, e = .returned v ∧ Rows.walkSelectsSpec.post enc Tryd.prog Tryd.f3 false true false false W args v W' := by
  have hW' := hW
  obtain ⟨p, q, hA0, hV, rfl, hfz, hnd⟩ := hW
  have hA : DataW.TrodAll enc Tryd.prog W 0 (fun _ => true) true Tryd.f3.params.toList args.toList ds p := hA0
  rw [Tryd.params3] at hA hval
  obtain ⟨v0, vs0, d0, ds0, p0, q0, hargs, rfl, rfl, ⟨n0, h0⟩, r0⟩ := trodAll_cons hA
  obtain ⟨v1, vs1, d1, ds1, p1, q1, rfl, rfl, rfl, ⟨n1, h1⟩, r1⟩ := trodAll_cons r0
  obtain ⟨v2, vs2, d2, ds2, p2, q2, rfl, rfl, rfl, ⟨n2, h2⟩, r2⟩ := trodAll_cons r1
  obtain ⟨v3, vs3, d3, ds3, p3, q3, rfl, rfl, rfl, ⟨n3, h3⟩, r3⟩ := trodAll_cons r2
  obtain ⟨rfl, rfl, rfl⟩ := trodAll_nil r3
  obtain rfl : args = #[v0, v1, v2, v3] := by cases args; simp_all
  obtain ⟨rfl, rfl⟩ := trodVars_none hV
  obtain ⟨d, hx0, g0⟩ := rDoc _ _ _ _ _ _ h0
  obtain ⟨n, hx1, g1⟩ := rInt _ _ _ _ _ _ h1
  obtain ⟨k, hx2, g2⟩ := rInt _ _ _ _ _ _ h2
  obtain ⟨no, hx3, g3⟩ := rBool _ _ _ _ _ _ h3
  have hb : Rows.uptoBulkAll ([d0, d1, d2, d3] ++ []) ≤ 1048576 := of_decide_eq_true hk
  simp only [List.append_nil, List.nil_append, Rows.uptoBulkAll] at hb
  try dsimp only at g0
  try dsimp only at g1
  try dsimp only at g2
  try dsimp only at g3
  have b0 : Rows.uptoBulk d0 ≤ 1048576 := by omega
  have b1 : Rows.uptoBulk d1 ≤ 1048576 := by omega
  have b2 : Rows.uptoBulk d2 ≤ 1048576 := by omega
  have b3 : Rows.uptoBulk d3 ≤ 1048576 := by omega
  have k0 : Value.okWide Tryd.prog W .any base 24 v0 := hval 0 24 v0 rfl rfl
  have V0 := arg_agg Tryd.underlying24 k0 hx0
  have k1 : Value.okWide Tryd.prog W .any base 3 v1 := hval 1 3 v1 rfl rfl
  have V1 := arg_one Tryd.underlying3 trivial k1 hx1
  have k2 : Value.okWide Tryd.prog W .any base 3 v2 := hval 2 3 v2 rfl rfl
  have V2 := arg_one Tryd.underlying3 trivial k2 hx2
  have k3 : Value.okWide Tryd.prog W .any base 4 v3 := hval 3 4 v3 rfl rfl
  have V3 := arg_one Tryd.underlying4 trivial k3 hx3
  obtain ⟨m, GR⟩ := GT_rel hsh hL
  refine (PCalls.law (P := Pg (GT m)) (?_ : PCalls (Pg (GT m)) 3 _ _) GR (VAll.cons V0 (VAll.cons V1 (VAll.cons V2 (VAll.cons V3 (VAll.nil))))).rel).mono fun e W' ⟨he, O⟩ => ⟨_, he, ?_⟩
  · exact walkSelects_ok d (docSm_of (by omega) g0) n k no
  · exact law_post O hW' rfl rfl rfl rfl rfl Tryd.underlying4 (by kernel_rfl) (by kernel_rfl) (by kernel_rfl) (by rw [Tryd.params3]; decide +kernel)

theorem laid_met (os : Os) : laidMet Tryd.prog Rows.walkSelectsUptoRow.laid ((laidWorld os).forCall (fun _ _ => 0) ⟨#[], #[.agg #[.slice none 0 0, .bool false], .int .i64 0, .int .i64 0, .bool false], []⟩).memory :=
  laidMet_of_run' 8 (by kernel_rfl) (by kernel_rfl)
theorem reads (os : Os) {H : Type} (enc : TypeId × Value → H) : ∃ places, DataW.whole enc Tryd.prog ((laidWorld os).forCall (fun _ _ => 0) ⟨#[], #[.agg #[.slice none 0 0, .bool false], .int .i64 0, .int .i64 0, .bool false], []⟩).memory Tryd.f3.params.toList Rows.walkSelectsSpec.vars false (#[.agg #[.slice none 0 0, .bool false], .int .i64 0, .int .i64 0, .bool false] : Array Value).toList 8 = some ([.agg [.nil, .lit (.bool false)], .lit (.int .i64 0), .lit (.int .i64 0), .lit (.bool false)], [], places) :=
  ⟨[], by kernel_rfl⟩
set_option maxRecDepth 100000 in
theorem lifted (os : Os) (started : os.Started) (H : Type) (enc : TypeId × Value → H) (F : Stop.Interp) :
    ReturnsInHanded {} Tryd.checked os 3 .any ((Rows.OpenSpec.upto Rows.walkSelectsSpec).preRow enc Tryd.prog Tryd.f3 Rows.walkSelectsUptoRow.domain false Rows.walkSelectsUptoRow.laid) (((Rows.OpenSpec.upto Rows.walkSelectsSpec).at F).post enc Tryd.prog Tryd.f3 false true false false) := by
  obtain ⟨places, hx⟩ := reads os enc
  refine returnsInHanded_of_row (C := Tryd.checked) (s := Rows.OpenSpec.upto Rows.walkSelectsSpec) own started (by kernel_rfl) Tryd.func3
    (witness_row_at (enc := enc) (C := Tryd.checked) false (laidWorld os) #[.agg #[.slice none 0 0, .bool false], .int .i64 0, .int .i64 0, .bool false] rfl (by kernel_rfl) (by kernel_rfl) (by kernel_rfl)
      (OpenSpec.preRow_of_cond 8 hx (by kernel_rfl) (fun k hk => by cases hk; kernel_rfl) (by kernel_rfl) (laid_met os))) ?_
  intro W base args ds gs before hval hW _ hcond _ hL hsh _
  exact contract H enc W base args ds gs before hsh hval (hcond _ rfl) hL hW
theorem said : Rows.WalkSelectsUptoSaid :=
  OpenClaim.holds_of_cond 3 Tryd.f3 rfl rfl rfl rfl rfl rfl rfl ⟨rfl, rfl, rfl, rfl, rfl⟩ rfl rfl rfl rfl rfl (by kernel_rfl) Tryd.func3 (by kernel_rfl)
    (of_decide_eq_true (by kernel_rfl)) (by unfold Func.isWrapper; first | (rw [if_pos (by decide +kernel)]; kernel_rfl) | (rw [if_neg (by decide +kernel)]; exact ⟨rfl, rfl⟩))
    (fun os started H enc _ F => by rw [OpenClaim.pre_eq_preRow]; exact lifted os started H enc F)
theorem plain (f : FuncId) (fn : Func) (hf : Tryd.pinned.checked.prog.funcNamed "clerestory/clerestorylaw1.WalkSelects" = some f) (hfn : Tryd.pinned.checked.prog.funcs[f]? = some fn) :
    false = Tryd.pinned.checked.prog.looks [] ∧ ∀ (j : Nat) t, fn.params[j]? = some t → Tryd.pinned.checked.prog.wantsStandIn t = false := by
  obtain rfl : f = 3 := Option.some.inj ((show Tryd.prog.funcNamed "clerestory/clerestorylaw1.WalkSelects" = some 3 by kernel_rfl).symm.trans hf) |>.symm
  obtain rfl : fn = Tryd.f3 := (Option.some.inj (Tryd.func3.symm.trans hfn)).symm
  refine ⟨by kernel_rfl, fun j t ht => ?_⟩
  rw [Tryd.params3] at ht
  have hm : t ∈ [24, 3, 3, 4] := by simpa using Array.mem_of_getElem? ht
  have ha : ([24, 3, 3, 4] : List TypeId).all (fun t => Tryd.prog.wantsStandIn t == false) = true := by kernel_rfl
  have h1 : Tryd.prog.wantsStandIn t = false := by simpa using List.all_eq_true.1 ha t hm
  exact h1
/-- The law returns true and leaves its arguments as they were, wherever what it reads is of bulk at most 1048576; the listed variables are tied to the program's text. -/
theorem proved : Rows.WalkSelectsUptoCardSaid :=
  Claim7.holds_tied_plain_at .later [] _ _ _ _ said (fun _ h => by cases h) (by kernel_rfl) (fun _ h => by cases h) walkSelectsUpto_row_tie rfl ⟨rfl, rfl⟩ (by kernel_rfl) rfl plain (by kernel_rfl)
#print axioms proved
end walkSelects
end Go.Proofs.YtallaohkbcilhaaDoor
