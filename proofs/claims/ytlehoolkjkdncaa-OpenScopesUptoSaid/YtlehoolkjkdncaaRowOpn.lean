/- 'clerestorylaw1.OpenNames' and 'OpenScopes' return true. Condition: what they read holds at most 1048576 values and letters. -/
import Derived.Test.YtlehoolkjkdncaaRow0
import Derived.Test.YtlehoolkjkdncaaOpn4
import Derived.Shelf.Vars
set_option linter.unusedSimpArgs false
set_option linter.unusedVariables false
namespace Go.Proofs.Ytlehoolkjkdncaa
open Go Go.Sim Go.Proofs Go.Proofs.K Go.ChangeShapes Go.WideShapes Go.ChangeAt Go.RowKit
variable {H : Type} {enc : TypeId × Value → H} {w : World}
noncomputable def GM (m : Int) : Glob := fun b => if b = 0 then .pin [aInt m] else .dead
theorem GM_ok (m : Int) : MaxLenOK (GM m) := ⟨m, if_pos rfl⟩
theorem GM_rel {W : World} (hsh : W.ShapedOpen Try.prog) : ∃ m, GRel (Pg (GM m)).gl (Sim.g0 W) W := by
  obtain ⟨m, hm⟩ := Go.Proofs.cell_of_shapedOpen_int (g := 0) (t := 3) (zero := #[.int .i64 0]) (k := .i64) hsh (by decide +kernel) (by kernel_rfl) rfl (by kernel_rfl) (by kernel_rfl) Try.underlying3
  refine ⟨m, fun b => ?_⟩
  show VRel _ _ _ (if b = 0 then _ else _)
  split
  · rename_i h; subst h; exact VRel.pinInt hm
  · exact .dead _
theorem rStrs : Rdr enc Try.prog w Rows.uptoBulk 48 (fun l : List (List UInt8) => [sl eStr l]) (fun k l => l.length ≤ k ∧ ∀ x ∈ l, x.length ≤ k) :=
  Rdr.slice (bulk H) mStr (sz := 1) (enc := eStr) Try.underlying48 (by kernel_rfl) (by decide) (fun _ => rfl) rStr

namespace openNames
set_option maxRecDepth 100000 in
theorem contract (H : Type) (enc : TypeId × Value → H) (W : World) (base : Nat) (args : Array Value) (ds gs : List (DataW H)) (before : List MemPlace) (hsh : W.ShapedOpen Try.prog)
    (hval : ∀ (j : Nat) t v, Try.f6.params[j]? = some t → args[j]? = some v → Value.okWide Try.prog W .any base t v) (hk : Rows.uptoSmall H (ds ++ gs) = true)
    (hW : DataW.Whole enc Try.prog Try.f6.params.toList Rows.openNamesSpec.vars false W args.toList ds gs before) :
    Calls Try.prog 6 args W fun e W' => ∃ v, e = .returned v ∧ Rows.openNamesSpec.post enc Try.prog Try.f6 false true false false W args v W' := by
  have hW' := hW
  obtain ⟨p, q, hA0, hV, rfl, hfz, hnd⟩ := hW
  have hA : DataW.TrodAll enc Try.prog W 0 (fun _ => true) true Try.f6.params.toList args.toList ds p := hA0
  rw [Try.params6] at hA hval
  obtain ⟨v0, vs0, d0, ds0, p0, q0, hargs, rfl, rfl, ⟨n0, h0⟩, r0⟩ := trodAll_cons hA
  obtain ⟨rfl, rfl, rfl⟩ := trodAll_nil r0
  obtain rfl : args = #[v0] := by cases args; simp_all
  obtain ⟨rfl, rfl⟩ := trodVars_none hV
  obtain ⟨nm, hx0, g0⟩ := rStr _ _ _ _ _ _ h0
  have hb : Rows.uptoBulkAll ([d0] ++ []) ≤ 1048576 := of_decide_eq_true hk
  simp only [List.append_nil, List.nil_append, Rows.uptoBulkAll] at hb
  try dsimp only at g0
  have b0 : Rows.uptoBulk d0 ≤ 1048576 := by omega
  have k0 : Value.okWide Try.prog W .any base 9 v0 := hval 0 9 v0 rfl rfl
  have V0 := arg_one Try.underlying9 trivial k0 hx0
  obtain ⟨m, GR⟩ := GM_rel hsh
  refine (PCalls.law (P := Pg (GM m)) (?_ : PCalls (Pg (GM m)) 6 _ _) GR (VAll.cons V0 (VAll.nil)).rel).mono fun e W' ⟨he, O⟩ => ⟨_, he, ?_⟩
  · exact names_ok (GM_ok m) nm
  · exact law_post O hW' rfl rfl rfl rfl rfl Try.underlying4 (by kernel_rfl) (by kernel_rfl) (by kernel_rfl) (by rw [Try.params6]; decide +kernel)

set_option maxRecDepth 100000 in
theorem lifted (os : Os) (started : os.Started) (H : Type) (enc : TypeId × Value → H) (F : Stop.Interp) :
    ReturnsInHanded {} Try.checked os 6 .any ((Rows.OpenSpec.upto Rows.openNamesSpec).pre6 enc Try.prog Try.f6 Rows.openNamesUptoRow.domain false) (((Rows.OpenSpec.upto Rows.openNamesSpec).at F).post enc Try.prog Try.f6 false true false false) := by
  refine returns_of_cond_shaped (C := Try.checked) (s := Rows.OpenSpec.upto Rows.openNamesSpec) (k := Rows.uptoSmall) rfl own started (by kernel_rfl) Try.func6
    (OpenSpec.witness (enc := enc) (C := Try.checked) (s := Rows.OpenSpec.upto Rows.openNamesSpec) (k := Rows.uptoSmall) rfl false ⟨#[], #[.string ⟨#[]⟩], []⟩ 8 (by kernel_rfl) (by kernel_rfl) (by kernel_rfl)
      (x := ([.lit (.string [])], [], [])) (by kernel_rfl) rfl (by kernel_rfl)) ?_
  intro W base args ds gs before hsh hval hW hk _
  exact contract H enc W base args ds gs before hsh hval hk hW

theorem over : Rows.openNamesUptoRow.holds Try.pinned (Rows.OpenSpec.upto Rows.openNamesSpec) :=
  OpenClaim.holds_of_cond 6 Try.f6 rfl rfl rfl rfl rfl rfl rfl ⟨rfl, rfl, rfl, rfl, rfl⟩ rfl rfl rfl rfl rfl (by kernel_rfl) Try.func6 (by kernel_rfl)
    (of_decide_eq_true (by kernel_rfl)) (by unfold Func.isWrapper; first | (rw [if_pos (by decide +kernel)]; kernel_rfl) | (rw [if_neg (by decide +kernel)]; exact ⟨rfl, rfl⟩))
    (fun os started H enc _ F => lifted os started H enc F)

/-- The law returns true and leaves its arguments as they were, wherever what it reads is of bulk at most 1048576. -/
theorem proved : Rows.OpenNamesUptoSaid :=
  over
#print axioms proved
end openNames
namespace openScopes
set_option maxRecDepth 100000 in
theorem contract (H : Type) (enc : TypeId × Value → H) (W : World) (base : Nat) (args : Array Value) (ds gs : List (DataW H)) (before : List MemPlace) (hsh : W.ShapedOpen Try.prog)
    (hval : ∀ (j : Nat) t v, Try.f7.params[j]? = some t → args[j]? = some v → Value.okWide Try.prog W .any base t v) (hk : Rows.uptoSmall H (ds ++ gs) = true)
    (hW : DataW.Whole enc Try.prog Try.f7.params.toList Rows.openScopesSpec.vars false W args.toList ds gs before) :
    Calls Try.prog 7 args W fun e W' => ∃ v, e = .returned v ∧ Rows.openScopesSpec.post enc Try.prog Try.f7 false true false false W args v W' := by
  have hW' := hW
  obtain ⟨p, q, hA0, hV, rfl, hfz, hnd⟩ := hW
  have hA : DataW.TrodAll enc Try.prog W 0 (fun _ => true) true Try.f7.params.toList args.toList ds p := hA0
  rw [Try.params7] at hA hval
  obtain ⟨v0, vs0, d0, ds0, p0, q0, hargs, rfl, rfl, ⟨n0, h0⟩, r0⟩ := trodAll_cons hA
  obtain ⟨v1, vs1, d1, ds1, p1, q1, rfl, rfl, rfl, ⟨n1, h1⟩, r1⟩ := trodAll_cons r0
  obtain ⟨v2, vs2, d2, ds2, p2, q2, rfl, rfl, rfl, ⟨n2, h2⟩, r2⟩ := trodAll_cons r1
  obtain ⟨rfl, rfl, rfl⟩ := trodAll_nil r2
  obtain rfl : args = #[v0, v1, v2] := by cases args; simp_all
  obtain ⟨rfl, rfl⟩ := trodVars_none hV
  obtain ⟨l, hx0, g0⟩ := rStrs _ _ _ _ _ _ h0
  obtain ⟨nm, hx1, g1⟩ := rStr _ _ _ _ _ _ h1
  obtain ⟨sc, hx2, g2⟩ := rInt _ _ _ _ _ _ h2
  have hb : Rows.uptoBulkAll ([d0, d1, d2] ++ []) ≤ 1048576 := of_decide_eq_true hk
  simp only [List.append_nil, List.nil_append, Rows.uptoBulkAll] at hb
  try dsimp only at g0
  try dsimp only at g1
  try dsimp only at g2
  have b0 : Rows.uptoBulk d0 ≤ 1048576 := by omega
  have b1 : Rows.uptoBulk d1 ≤ 1048576 := by omega
  have b2 : Rows.uptoBulk d2 ≤ 1048576 := by omega
  have k0 : Value.okWide Try.prog W .any base 48 v0 := hval 0 48 v0 rfl rfl
  have V0 := arg_one Try.underlying48 trivial k0 hx0
  have k1 : Value.okWide Try.prog W .any base 9 v1 := hval 1 9 v1 rfl rfl
  have V1 := arg_one Try.underlying9 trivial k1 hx1
  have k2 : Value.okWide Try.prog W .any base 3 v2 := hval 2 3 v2 rfl rfl
  have V2 := arg_one Try.underlying3 trivial k2 hx2
  obtain ⟨m, GR⟩ := GM_rel hsh
  refine (PCalls.law (P := Pg (GM m)) (?_ : PCalls (Pg (GM m)) 7 _ _) GR (VAll.cons V0 (VAll.cons V1 (VAll.cons V2 (VAll.nil)))).rel).mono fun e W' ⟨he, O⟩ => ⟨_, he, ?_⟩
  · exact scopes_ok (GM_ok m) l nm sc fun x hx => by have := g0.2 x hx; omega
  · exact law_post O hW' rfl rfl rfl rfl rfl Try.underlying4 (by kernel_rfl) (by kernel_rfl) (by kernel_rfl) (by rw [Try.params7]; decide +kernel)

set_option maxRecDepth 100000 in
theorem lifted (os : Os) (started : os.Started) (H : Type) (enc : TypeId × Value → H) (F : Stop.Interp) :
    ReturnsInHanded {} Try.checked os 7 .any ((Rows.OpenSpec.upto Rows.openScopesSpec).pre6 enc Try.prog Try.f7 Rows.openScopesUptoRow.domain false) (((Rows.OpenSpec.upto Rows.openScopesSpec).at F).post enc Try.prog Try.f7 false true false false) := by
  refine returns_of_cond_shaped (C := Try.checked) (s := Rows.OpenSpec.upto Rows.openScopesSpec) (k := Rows.uptoSmall) rfl own started (by kernel_rfl) Try.func7
    (OpenSpec.witness (enc := enc) (C := Try.checked) (s := Rows.OpenSpec.upto Rows.openScopesSpec) (k := Rows.uptoSmall) rfl false ⟨#[], #[.slice none 0 0, .string ⟨#[]⟩, .int .i64 0], []⟩ 8 (by kernel_rfl) (by kernel_rfl) (by kernel_rfl)
      (x := ([.nil, .lit (.string []), .lit (.int .i64 0)], [], [])) (by kernel_rfl) rfl (by kernel_rfl)) ?_
  intro W base args ds gs before hsh hval hW hk _
  exact contract H enc W base args ds gs before hsh hval hk hW

theorem over : Rows.openScopesUptoRow.holds Try.pinned (Rows.OpenSpec.upto Rows.openScopesSpec) :=
  OpenClaim.holds_of_cond 7 Try.f7 rfl rfl rfl rfl rfl rfl rfl ⟨rfl, rfl, rfl, rfl, rfl⟩ rfl rfl rfl rfl rfl (by kernel_rfl) Try.func7 (by kernel_rfl)
    (of_decide_eq_true (by kernel_rfl)) (by unfold Func.isWrapper; first | (rw [if_pos (by decide +kernel)]; kernel_rfl) | (rw [if_neg (by decide +kernel)]; exact ⟨rfl, rfl⟩))
    (fun os started H enc _ F => lifted os started H enc F)

/-- The law returns true and leaves its arguments as they were, wherever what it reads is of bulk at most 1048576. -/
theorem proved : Rows.OpenScopesUptoSaid :=
  over
#print axioms proved
end openScopes
end Go.Proofs.Ytlehoolkjkdncaa
