/- 'clerestorylaw1.ActiveTurns' and 'ActiveAsks' return true. Condition: what they read holds at most 1048576 values and letters. -/
import Derived.Test.YtlehoolkjkdncaaRow0
import Derived.Test.YtlehoolkjkdncaaAct7
set_option linter.unusedSimpArgs false
set_option linter.unusedVariables false
namespace Go.Proofs.Ytlehoolkjkdncaa
open Go Go.Sim Go.Proofs Go.Proofs.K Go.ChangeShapes Go.WideShapes Go.ChangeAt Go.RowKit
variable {H : Type} {enc : TypeId × Value → H} {w : World}
theorem rAttr : Rdr enc Try.prog w Rows.uptoBulk 99 eAttr (fun _ _ => True) := by
  have hB := bulk H
  have r := Rdr.struct (eh := enc) (w := w) hB Try.underlying99 (by kernel_rfl) (.cons (sz := 1) rfl (by kernel_rfl) mStr rStr (.cons (sz := 1) rfl (by kernel_rfl) mStr rStr (.nil _)))
  exact r.map (fun p => ⟨p.1, p.2.1⟩) (fun _ => rfl) (fun _ _ _ => trivial)
def goodI (k : Nat) (x : HItem) : Prop := x.attrs.length ≤ k
theorem rItem : Rdr enc Try.prog w Rows.uptoBulk 25 eItem goodI := by
  have hB := bulk H
  have ra := Rdr.slice (eh := enc) (w := w) hB (fun _ _ _ _ h => h) (sz := 2) (enc := eAttr) Try.underlying23 (by kernel_rfl) (by decide) (fun _ => rfl) (rAttr (H := H))
  have r := Rdr.struct (eh := enc) (w := w) hB Try.underlying25 (by kernel_rfl) (.cons (sz := 1) rfl (by kernel_rfl) mInt rInt (.cons (sz := 1) rfl (by kernel_rfl) mStr rStr
    (.cons (sz := 1) rfl (by kernel_rfl) (fun _ _ _ h1 h2 => ⟨Nat.le_trans h2.1 h1, h2.2⟩) ra (.nil _))))
  exact r.map (fun p => ⟨p.1, p.2.1, p.2.2.1⟩) (fun _ => rfl) (fun _ _ h => h.2.2.1.1)
theorem rItems : Rdr enc Try.prog w Rows.uptoBulk 22 (fun l : List HItem => [sl eItem l]) (fun k l => l.length ≤ k ∧ ∀ x ∈ l, goodI k x) :=
  Rdr.slice (bulk H) (fun _ _ _ h1 h2 => Nat.le_trans h2 h1) (sz := 3) (enc := eItem) Try.underlying22 (by kernel_rfl) (by decide) (fun _ => rfl) rItem

namespace activeTurns
set_option maxRecDepth 100000 in
theorem contract (H : Type) (enc : TypeId × Value → H) (W : World) (base : Nat) (args : Array Value) (ds gs : List (DataW H)) (before : List MemPlace)
    (hval : ∀ (j : Nat) t v, Try.f3.params[j]? = some t → args[j]? = some v → Value.okWide Try.prog W .any base t v) (hk : Rows.uptoSmall H (ds ++ gs) = true)
    (hW : DataW.Whole enc Try.prog Try.f3.params.toList Rows.activeTurnsSpec.vars false W args.toList ds gs before) :
    Calls Try.prog 3 args W fun e W' => ∃ v, e = .returned v ∧ Rows.activeTurnsSpec.post enc Try.prog Try.f3 false true false false W args v W' := by
  have hW' := hW
  obtain ⟨p, q, hA0, hV, rfl, hfz, hnd⟩ := hW
  have hA : DataW.TrodAll enc Try.prog W 0 (fun _ => true) true Try.f3.params.toList args.toList ds p := hA0
  rw [Try.params3] at hA hval
  obtain ⟨v0, vs0, d0, ds0, p0, q0, hargs, rfl, rfl, ⟨n0, h0⟩, r0⟩ := trodAll_cons hA
  obtain ⟨v1, vs1, d1, ds1, p1, q1, rfl, rfl, rfl, ⟨n1, h1⟩, r1⟩ := trodAll_cons r0
  obtain ⟨rfl, rfl, rfl⟩ := trodAll_nil r1
  obtain rfl : args = #[v0, v1] := by cases args; simp_all
  obtain ⟨rfl, rfl⟩ := trodVars_none hV
  obtain ⟨l, hx0, g0⟩ := rItems _ _ _ _ _ _ h0
  obtain ⟨x, hx1, g1⟩ := rItem _ _ _ _ _ _ h1
  have hb : Rows.uptoBulkAll ([d0, d1] ++ []) ≤ 1048576 := of_decide_eq_true hk
  simp only [List.append_nil, List.nil_append, Rows.uptoBulkAll] at hb
  try dsimp only at g0
  try dsimp only at g1
  have b0 : Rows.uptoBulk d0 ≤ 1048576 := by omega
  have b1 : Rows.uptoBulk d1 ≤ 1048576 := by omega
  have k0 : Value.okWide Try.prog W .any base 22 v0 := hval 0 22 v0 rfl rfl
  have V0 := arg_one Try.underlying22 trivial k0 hx0
  have k1 : Value.okWide Try.prog W .any base 25 v1 := hval 1 25 v1 rfl rfl
  have V1 := arg_agg Try.underlying25 k1 hx1
  refine (PCalls.law (?_ : PCalls Try.prog 3 _ _) (VAll.cons V0 (VAll.cons V1 (VAll.nil))).rel).mono fun e W' ⟨he, O⟩ => ⟨_, he, ?_⟩
  · refine turns_ok l x (fun y hy => ?_) ?_
    · have := g0.2 y hy; unfold goodI at this; omega
    · unfold goodI at g1; omega
  · exact law_post O hW' rfl rfl rfl rfl rfl Try.underlying4 (by kernel_rfl) (by kernel_rfl) (by kernel_rfl) (by rw [Try.params3]; decide +kernel)

set_option maxRecDepth 100000 in
theorem lifted (os : Os) (started : os.Started) (H : Type) (enc : TypeId × Value → H) (F : Stop.Interp) :
    ReturnsInHanded {} Try.checked os 3 .any ((Rows.OpenSpec.upto Rows.activeTurnsSpec).pre6 enc Try.prog Try.f3 Rows.activeTurnsUptoRow.domain false) (((Rows.OpenSpec.upto Rows.activeTurnsSpec).at F).post enc Try.prog Try.f3 false true false false) := by
  refine returnsInHanded_of_cond (C := Try.checked) (s := Rows.OpenSpec.upto Rows.activeTurnsSpec) (k := Rows.uptoSmall) rfl own started (by kernel_rfl) Try.func3
    (OpenSpec.witness (enc := enc) (C := Try.checked) (s := Rows.OpenSpec.upto Rows.activeTurnsSpec) (k := Rows.uptoSmall) rfl false ⟨#[], #[.slice none 0 0, .agg #[.int .i64 0, .string ⟨#[]⟩, .slice none 0 0]], []⟩ 8 (by kernel_rfl) (by kernel_rfl) (by kernel_rfl)
      (x := ([.nil, .agg [.lit (.int .i64 0), .lit (.string []), .nil]], [], [])) (by kernel_rfl) rfl (by kernel_rfl)) ?_
  intro W base args ds gs before hval hW _ hk _
  exact contract H enc W base args ds gs before hval hk hW

theorem over : Rows.activeTurnsUptoRow.holds Try.pinned (Rows.OpenSpec.upto Rows.activeTurnsSpec) :=
  OpenClaim.holds_of_cond 3 Try.f3 rfl rfl rfl rfl rfl rfl rfl ⟨rfl, rfl, rfl, rfl, rfl⟩ rfl rfl rfl rfl rfl (by kernel_rfl) Try.func3 (by kernel_rfl)
    (of_decide_eq_true (by kernel_rfl)) (by unfold Func.isWrapper; first | (rw [if_pos (by decide +kernel)]; kernel_rfl) | (rw [if_neg (by decide +kernel)]; exact ⟨rfl, rfl⟩))
    (fun os started H enc _ F => lifted os started H enc F)

/-- The law returns true and leaves its arguments as they were, wherever what it reads is of bulk at most 1048576. -/
theorem proved : Rows.ActiveTurnsUptoSaid :=
  over
#print axioms proved
end activeTurns
namespace activeAsks
set_option maxRecDepth 100000 in
theorem contract (H : Type) (enc : TypeId × Value → H) (W : World) (base : Nat) (args : Array Value) (ds gs : List (DataW H)) (before : List MemPlace)
    (hval : ∀ (j : Nat) t v, Try.f5.params[j]? = some t → args[j]? = some v → Value.okWide Try.prog W .any base t v) (hk : Rows.uptoSmall H (ds ++ gs) = true)
    (hW : DataW.Whole enc Try.prog Try.f5.params.toList Rows.activeAsksSpec.vars false W args.toList ds gs before) :
    Calls Try.prog 5 args W fun e W' => ∃ v, e = .returned v ∧ Rows.activeAsksSpec.post enc Try.prog Try.f5 false true false false W args v W' := by
  have hW' := hW
  obtain ⟨p, q, hA0, hV, rfl, hfz, hnd⟩ := hW
  have hA : DataW.TrodAll enc Try.prog W 0 (fun _ => true) true Try.f5.params.toList args.toList ds p := hA0
  rw [Try.params5] at hA hval
  obtain ⟨v0, vs0, d0, ds0, p0, q0, hargs, rfl, rfl, ⟨n0, h0⟩, r0⟩ := trodAll_cons hA
  obtain ⟨v1, vs1, d1, ds1, p1, q1, rfl, rfl, rfl, ⟨n1, h1⟩, r1⟩ := trodAll_cons r0
  obtain ⟨v2, vs2, d2, ds2, p2, q2, rfl, rfl, rfl, ⟨n2, h2⟩, r2⟩ := trodAll_cons r1
  obtain ⟨rfl, rfl, rfl⟩ := trodAll_nil r2
  obtain rfl : args = #[v0, v1, v2] := by cases args; simp_all
  obtain ⟨rfl, rfl⟩ := trodVars_none hV
  obtain ⟨l, hx0, g0⟩ := rItems _ _ _ _ _ _ h0
  obtain ⟨nm, hx1, g1⟩ := rStr _ _ _ _ _ _ h1
  obtain ⟨o, hx2, g2⟩ := rInts _ _ _ _ _ _ h2
  have hb : Rows.uptoBulkAll ([d0, d1, d2] ++ []) ≤ 1048576 := of_decide_eq_true hk
  simp only [List.append_nil, List.nil_append, Rows.uptoBulkAll] at hb
  try dsimp only at g0
  try dsimp only at g1
  try dsimp only at g2
  have b0 : Rows.uptoBulk d0 ≤ 1048576 := by omega
  have b1 : Rows.uptoBulk d1 ≤ 1048576 := by omega
  have b2 : Rows.uptoBulk d2 ≤ 1048576 := by omega
  have k0 : Value.okWide Try.prog W .any base 22 v0 := hval 0 22 v0 rfl rfl
  have V0 := arg_one Try.underlying22 trivial k0 hx0
  have k1 : Value.okWide Try.prog W .any base 9 v1 := hval 1 9 v1 rfl rfl
  have V1 := arg_one Try.underlying9 trivial k1 hx1
  have k2 : Value.okWide Try.prog W .any base 39 v2 := hval 2 39 v2 rfl rfl
  have V2 := arg_one Try.underlying39 trivial k2 hx2
  refine (PCalls.law (?_ : PCalls Try.prog 5 _ _) (VAll.cons V0 (VAll.cons V1 (VAll.cons V2 (VAll.nil)))).rel).mono fun e W' ⟨he, O⟩ => ⟨_, he, ?_⟩
  · exact asks_ok l nm o
  · exact law_post O hW' rfl rfl rfl rfl rfl Try.underlying4 (by kernel_rfl) (by kernel_rfl) (by kernel_rfl) (by rw [Try.params5]; decide +kernel)

set_option maxRecDepth 100000 in
theorem lifted (os : Os) (started : os.Started) (H : Type) (enc : TypeId × Value → H) (F : Stop.Interp) :
    ReturnsInHanded {} Try.checked os 5 .any ((Rows.OpenSpec.upto Rows.activeAsksSpec).pre6 enc Try.prog Try.f5 Rows.activeAsksUptoRow.domain false) (((Rows.OpenSpec.upto Rows.activeAsksSpec).at F).post enc Try.prog Try.f5 false true false false) := by
  refine returnsInHanded_of_cond (C := Try.checked) (s := Rows.OpenSpec.upto Rows.activeAsksSpec) (k := Rows.uptoSmall) rfl own started (by kernel_rfl) Try.func5
    (OpenSpec.witness (enc := enc) (C := Try.checked) (s := Rows.OpenSpec.upto Rows.activeAsksSpec) (k := Rows.uptoSmall) rfl false ⟨#[], #[.slice none 0 0, .string ⟨#[]⟩, .slice none 0 0], []⟩ 8 (by kernel_rfl) (by kernel_rfl) (by kernel_rfl)
      (x := ([.nil, .lit (.string []), .nil], [], [])) (by kernel_rfl) rfl (by kernel_rfl)) ?_
  intro W base args ds gs before hval hW _ hk _
  exact contract H enc W base args ds gs before hval hk hW

theorem over : Rows.activeAsksUptoRow.holds Try.pinned (Rows.OpenSpec.upto Rows.activeAsksSpec) :=
  OpenClaim.holds_of_cond 5 Try.f5 rfl rfl rfl rfl rfl rfl rfl ⟨rfl, rfl, rfl, rfl, rfl⟩ rfl rfl rfl rfl rfl (by kernel_rfl) Try.func5 (by kernel_rfl)
    (of_decide_eq_true (by kernel_rfl)) (by unfold Func.isWrapper; first | (rw [if_pos (by decide +kernel)]; kernel_rfl) | (rw [if_neg (by decide +kernel)]; exact ⟨rfl, rfl⟩))
    (fun os started H enc _ F => lifted os started H enc F)

/-- The law returns true and leaves its arguments as they were, wherever what it reads is of bulk at most 1048576. -/
theorem proved : Rows.ActiveAsksUptoSaid :=
  over
#print axioms proved
end activeAsks
end Go.Proofs.Ytlehoolkjkdncaa
