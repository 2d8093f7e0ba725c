/- 'clerestorylaw1.EntityFinds' returns true. Condition: what it reads holds at most 1048576 values and letters. -/
import Derived.Test.YtlehoolkjkdncaaRow0
import Derived.Test.YtlehoolkjkdncaaEnj
set_option linter.unusedSimpArgs false
set_option linter.unusedVariables false
namespace Go.Proofs.Ytlehoolkjkdncaa
open Go Go.Sim Go.Proofs Go.Proofs.K Go.ChangeShapes Go.WideShapes Go.ChangeAt Go.RowKit
variable {H : Type} {enc : TypeId × Value → H} {w : World}
namespace entityFinds
set_option maxRecDepth 100000 in
theorem contract (H : Type) (enc : TypeId × Value → H) (W : World) (base : Nat) (args : Array Value) (ds gs : List (DataW H)) (before : List MemPlace) (hsh : W.ShapedOpen Try.prog)
    (hval : ∀ (j : Nat) t v, Try.f8.params[j]? = some t → args[j]? = some v → Value.okWide Try.prog W .any base t v) (hk : Rows.uptoSmall H (ds ++ gs) = true)
    (hW : DataW.Whole enc Try.prog Try.f8.params.toList Rows.entityFindsSpec.vars false W args.toList ds gs before) :
    Calls Try.prog 8 args W fun e W' => ∃ v, e = .returned v ∧ Rows.entityFindsSpec.post enc Try.prog Try.f8 false true false false W args v W' := by
  have hW' := hW
  obtain ⟨p, q, hA0, hV, rfl, hfz, hnd⟩ := hW
  have hA : DataW.TrodAll enc Try.prog W 0 (fun _ => true) true Try.f8.params.toList args.toList ds p := hA0
  rw [Try.params8] at hA hval
  obtain ⟨v0, vs0, d0, ds0, p0, q0, hargs, rfl, rfl, ⟨n0, h0⟩, r0⟩ := trodAll_cons hA
  obtain ⟨v1, vs1, d1, ds1, p1, q1, rfl, rfl, rfl, ⟨n1, h1⟩, r1⟩ := trodAll_cons r0
  obtain ⟨rfl, rfl, rfl⟩ := trodAll_nil r1
  obtain rfl : args = #[v0, v1] := by cases args; simp_all
  obtain ⟨rfl, rfl⟩ := trodVars_none hV
  obtain ⟨s, hx0, g0⟩ := rStr _ _ _ _ _ _ h0
  obtain ⟨attr, hx1, g1⟩ := rBool _ _ _ _ _ _ h1
  have hb : Rows.uptoBulkAll ([d0, d1] ++ []) ≤ 1048576 := of_decide_eq_true hk
  simp only [List.append_nil, List.nil_append, Rows.uptoBulkAll] at hb
  try dsimp only at g0
  try dsimp only at g1
  have b0 : Rows.uptoBulk d0 ≤ 1048576 := by omega
  have b1 : Rows.uptoBulk d1 ≤ 1048576 := by omega
  have k0 : Value.okWide Try.prog W .any base 9 v0 := hval 0 9 v0 rfl rfl
  have V0 := arg_one Try.underlying9 trivial k0 hx0
  have k1 : Value.okWide Try.prog W .any base 4 v1 := hval 1 4 v1 rfl rfl
  have V1 := arg_one Try.underlying4 trivial k1 hx1
  refine (PCalls.law (P := Pg G0) (?_ : PCalls (Pg G0) 8 _ _) (GRel.g0 W) (VAll.cons V0 (VAll.cons V1 (VAll.nil))).rel).mono fun e W' ⟨he, O⟩ => ⟨_, he, ?_⟩
  · exact finds_ok s attr (by omega)
  · exact law_post O hW' rfl rfl rfl rfl rfl Try.underlying4 (by kernel_rfl) (by kernel_rfl) (by kernel_rfl) (by rw [Try.params8]; decide +kernel)

set_option maxRecDepth 100000 in
theorem lifted (os : Os) (started : os.Started) (H : Type) (enc : TypeId × Value → H) (F : Stop.Interp) :
    ReturnsInHanded {} Try.checked os 8 .any ((Rows.OpenSpec.upto Rows.entityFindsSpec).pre6 enc Try.prog Try.f8 Rows.entityFindsUptoRow.domain false) (((Rows.OpenSpec.upto Rows.entityFindsSpec).at F).post enc Try.prog Try.f8 false true false false) := by
  refine returns_of_cond_shaped (C := Try.checked) (s := Rows.OpenSpec.upto Rows.entityFindsSpec) (k := Rows.uptoSmall) rfl own started (by kernel_rfl) Try.func8
    (OpenSpec.witness (enc := enc) (C := Try.checked) (s := Rows.OpenSpec.upto Rows.entityFindsSpec) (k := Rows.uptoSmall) rfl false ⟨#[], #[.string ⟨#[]⟩, .bool false], []⟩ 8 (by kernel_rfl) (by kernel_rfl) (by kernel_rfl)
      (x := ([.lit (.string []), .lit (.bool false)], [], [])) (by kernel_rfl) rfl (by kernel_rfl)) ?_
  intro W base args ds gs before hsh hval hW hk _
  exact contract H enc W base args ds gs before hsh hval hk hW

theorem over : Rows.entityFindsUptoRow.holds Try.pinned (Rows.OpenSpec.upto Rows.entityFindsSpec) :=
  OpenClaim.holds_of_cond 8 Try.f8 rfl rfl rfl rfl rfl rfl rfl ⟨rfl, rfl, rfl, rfl, rfl⟩ rfl rfl rfl rfl rfl (by kernel_rfl) Try.func8 (by kernel_rfl)
    (of_decide_eq_true (by kernel_rfl)) (by unfold Func.isWrapper; first | (rw [if_pos (by decide +kernel)]; kernel_rfl) | (rw [if_neg (by decide +kernel)]; exact ⟨rfl, rfl⟩))
    (fun os started H enc _ F => lifted os started H enc F)

/-- The law returns true and leaves its arguments as they were, wherever what it reads is of bulk at most 1048576. -/
theorem proved : Rows.EntityFindsUptoSaid :=
  over
#print axioms proved
end entityFinds
end Go.Proofs.Ytlehoolkjkdncaa
