/- 'clerestorylaw1.IndexTurns' returns true. Condition: what it reads holds at most 1048576 values and letters; the listed tables are tied to the program's text. -/
import Derived.Test.YtcfjnldjkaglbaaGreatDoorM4
import Derived.Test.YtcfjnldjkaglbaaGreatDoorM5
import Derived.Test.YtcfjnldjkaglbaaGreatDoorM8
set_option linter.unusedSimpArgs false
set_option linter.unusedVariables false
namespace Go.Proofs.YtcfjnldjkaglbaaGreatDoor
open Go Go.Sim Go.Proofs Go.Proofs.K Go.ChangeShapes Go.WideShapes Go.ChangeAt Go.RowKit
variable {H : Type} {enc : TypeId × Value → H} {w : World}
theorem mRs : Mono goodRs := fun _ _ _ h1 h2 => ⟨Nat.le_trans h2.1 h1, fun e he => mR _ _ _ h1 (h2.2 e he)⟩
def goodIx (k : Nat) (x : HIdx) : Prop := goodRs k x.ids ∧ goodRs k x.classes ∧ goodRs k x.tags ∧ goodRs k x.names
theorem rIndex : Rdr enc Tryz.prog w Rows.uptoBulk 27 QQ goodIx := by
  have hB := bulk H
  have r := Rdr.struct (eh := enc) (w := w) hB Tryz.underlying27 (by kernel_rfl) (.cons (sz := 1) rfl (by kernel_rfl) mRs rRefs (.cons (sz := 1) rfl (by kernel_rfl) mRs rRefs (.cons (sz := 1) rfl (by kernel_rfl) mRs rRefs (.cons (sz := 1) rfl (by kernel_rfl) mRs rRefs (.nil _)))))
  exact r.map (fun p => (⟨p.1, p.2.1, p.2.2.1, p.2.2.2.1⟩ : HIdx)) (fun _ => rfl) (fun _ _ h => ⟨h.1, h.2.1, h.2.2.1, h.2.2.2.1⟩)
theorem refsSm_of {k : Nat} {l : List HRef} (hk : k ≤ 1073741824) (g : goodRs k l) : RefsSm l := ⟨Nat.le_trans g.1 hk, fun x hx => ⟨Nat.le_trans (g.2 x hx).1 hk, Nat.le_trans (g.2 x hx).2 hk⟩⟩
theorem idxSm_of {k : Nat} {x : HIdx} (hk : k ≤ 1073741824) (g : goodIx k x) : IdxSm x := ⟨refsSm_of hk g.1, refsSm_of hk g.2.1, refsSm_of hk g.2.2.1, refsSm_of hk g.2.2.2⟩
namespace indexTurns
set_option maxRecDepth 100000 in
theorem contract (H : Type) (enc : TypeId × Value → H) (W : World) (base : Nat) (args : Array Value) (ds gs : List (DataW H)) (before : List MemPlace) (hsh : W.ShapedOpen Tryz.prog)
    (hval : ∀ (j : Nat) t v, Tryz.f3.params[j]? = some t → args[j]? = some v → Value.okWide Tryz.prog W .any base t v) (hk : Rows.uptoSmall H (ds ++ gs) = true) (hL : laidMetH Tryz.prog Rows.indexTurnsUptoRow.laid W)
    (hW : DataW.Whole enc Tryz.prog Tryz.f3.params.toList Rows.indexTurnsSpec.vars false W args.toList ds gs before) :
    Calls Tryz.prog 3 args W fun e W' => ∃ v, e = .returned v ∧ Rows.indexTurnsSpec.post enc Tryz.prog Tryz.f3 false true false false W args v W' := by
  have hW' := hW
  obtain ⟨p, q, hA0, hV, rfl, hfz, hnd⟩ := hW
  have hA : DataW.TrodAll enc Tryz.prog W 0 (fun _ => true) true Tryz.f3.params.toList args.toList ds p := hA0
  rw [Tryz.params3] at hA hval
  obtain ⟨v0, vs0, d0, ds0, p0, q0, hargs, rfl, rfl, ⟨n0, h0⟩, r0⟩ := trodAll_cons hA
  obtain ⟨v1, vs1, d1, ds1, p1, q1, rfl, rfl, rfl, ⟨n1, h1⟩, r1⟩ := trodAll_cons r0
  obtain ⟨v2, vs2, d2, ds2, p2, q2, rfl, rfl, rfl, ⟨n2, h2⟩, r2⟩ := trodAll_cons r1
  obtain ⟨v3, vs3, d3, ds3, p3, q3, rfl, rfl, rfl, ⟨n3, h3⟩, r3⟩ := trodAll_cons r2
  obtain ⟨rfl, rfl, rfl⟩ := trodAll_nil r3
  obtain rfl : args = #[v0, v1, v2, v3] := by cases args; simp_all
  obtain ⟨rfl, rfl⟩ := trodVars_none hV
  obtain ⟨d, hx0, g0⟩ := rDoc _ _ _ _ _ _ h0
  obtain ⟨x, hx1, g1⟩ := rIndex _ _ _ _ _ _ h1
  obtain ⟨own, hx2, g2⟩ := rBool _ _ _ _ _ _ h2
  obtain ⟨e, hx3, g3⟩ := rEdit _ _ _ _ _ _ h3
  have hb : Rows.uptoBulkAll ([d0, d1, d2, d3] ++ []) ≤ 1048576 := of_decide_eq_true hk
  simp only [List.append_nil, List.nil_append, Rows.uptoBulkAll] at hb
  try dsimp only at g0
  try dsimp only at g1
  try dsimp only at g2
  try dsimp only at g3
  have b0 : Rows.uptoBulk d0 ≤ 1048576 := by omega
  have b1 : Rows.uptoBulk d1 ≤ 1048576 := by omega
  have b2 : Rows.uptoBulk d2 ≤ 1048576 := by omega
  have b3 : Rows.uptoBulk d3 ≤ 1048576 := by omega
  have k0 : Value.okWide Tryz.prog W .any base 24 v0 := hval 0 24 v0 rfl rfl
  have V0 := arg_agg Tryz.underlying24 k0 hx0
  have k1 : Value.okWide Tryz.prog W .any base 27 v1 := hval 1 27 v1 rfl rfl
  have V1 := arg_agg Tryz.underlying27 k1 hx1
  have k2 : Value.okWide Tryz.prog W .any base 4 v2 := hval 2 4 v2 rfl rfl
  have V2 := arg_one Tryz.underlying4 trivial k2 hx2
  have k3 : Value.okWide Tryz.prog W .any base 33 v3 := hval 3 33 v3 rfl rfl
  have V3 := arg_agg Tryz.underlying33 k3 hx3
  obtain ⟨m, GR⟩ := GT_rel hsh hL
  refine (PCalls.law (P := Pg (GT m)) (?_ : PCalls (Pg (GT m)) 3 _ _) GR (VAll.cons V0 (VAll.cons V1 (VAll.cons V2 (VAll.cons V3 (VAll.nil))))).rel).mono fun e W' ⟨he, O⟩ => ⟨_, he, ?_⟩
  · exact indexTurns_ok d (docSm_of (by omega) g0) x (idxSm_of (by omega) g1) own e (editSm_of (by omega) g3)
  · exact law_post O hW' rfl rfl rfl rfl rfl Tryz.underlying4 (by kernel_rfl) (by kernel_rfl) (by kernel_rfl) (by rw [Tryz.params3]; decide +kernel)

theorem laid_met (os : Os) : laidMet Tryz.prog Rows.indexTurnsUptoRow.laid ((laidWorld os).forCall (fun _ _ => 0) ⟨#[], #[.agg #[.slice none 0 0, .bool false], .agg #[.slice none 0 0, .slice none 0 0, .slice none 0 0, .slice none 0 0], .bool false, .agg #[.int .i64 0, .int .i64 0, .int .i64 0, .int .i64 0, .string ⟨#[]⟩, .string ⟨#[]⟩, .int .i64 0, .string ⟨#[]⟩, .slice none 0 0, .string ⟨#[]⟩, .int .i64 0, .slice none 0 0]], []⟩).memory :=
  laidMet_of_run' 8 (by kernel_rfl) (by kernel_rfl)
theorem reads (os : Os) {H : Type} (enc : TypeId × Value → H) : ∃ places, DataW.whole enc Tryz.prog ((laidWorld os).forCall (fun _ _ => 0) ⟨#[], #[.agg #[.slice none 0 0, .bool false], .agg #[.slice none 0 0, .slice none 0 0, .slice none 0 0, .slice none 0 0], .bool false, .agg #[.int .i64 0, .int .i64 0, .int .i64 0, .int .i64 0, .string ⟨#[]⟩, .string ⟨#[]⟩, .int .i64 0, .string ⟨#[]⟩, .slice none 0 0, .string ⟨#[]⟩, .int .i64 0, .slice none 0 0]], []⟩).memory Tryz.f3.params.toList Rows.indexTurnsSpec.vars false (#[.agg #[.slice none 0 0, .bool false], .agg #[.slice none 0 0, .slice none 0 0, .slice none 0 0, .slice none 0 0], .bool false, .agg #[.int .i64 0, .int .i64 0, .int .i64 0, .int .i64 0, .string ⟨#[]⟩, .string ⟨#[]⟩, .int .i64 0, .string ⟨#[]⟩, .slice none 0 0, .string ⟨#[]⟩, .int .i64 0, .slice none 0 0]] : Array Value).toList 8 = some ([.agg [.nil, .lit (.bool false)], .agg [.nil, .nil, .nil, .nil], .lit (.bool false), .agg [.lit (.int .i64 0), .lit (.int .i64 0), .lit (.int .i64 0), .lit (.int .i64 0), .lit (.string []), .lit (.string []), .agg [.lit (.int .i64 0), .lit (.string []), .nil, .lit (.string []), .lit (.int .i64 0), .nil]]], [], places) :=
  ⟨[], by kernel_rfl⟩
set_option maxRecDepth 100000 in
theorem lifted (os : Os) (started : os.Started) (H : Type) (enc : TypeId × Value → H) (F : Stop.Interp) :
    ReturnsInHanded {} Tryz.checked os 3 .any ((Rows.OpenSpec.upto Rows.indexTurnsSpec).preRow enc Tryz.prog Tryz.f3 Rows.indexTurnsUptoRow.domain false Rows.indexTurnsUptoRow.laid) (((Rows.OpenSpec.upto Rows.indexTurnsSpec).at F).post enc Tryz.prog Tryz.f3 false true false false) := by
  obtain ⟨places, hx⟩ := reads os enc
  refine returnsInHanded_of_row (C := Tryz.checked) (s := Rows.OpenSpec.upto Rows.indexTurnsSpec) own started (by kernel_rfl) Tryz.func3
    (witness_row_at (enc := enc) (C := Tryz.checked) false (laidWorld os) #[.agg #[.slice none 0 0, .bool false], .agg #[.slice none 0 0, .slice none 0 0, .slice none 0 0, .slice none 0 0], .bool false, .agg #[.int .i64 0, .int .i64 0, .int .i64 0, .int .i64 0, .string ⟨#[]⟩, .string ⟨#[]⟩, .int .i64 0, .string ⟨#[]⟩, .slice none 0 0, .string ⟨#[]⟩, .int .i64 0, .slice none 0 0]] rfl (by kernel_rfl) (by kernel_rfl) (by kernel_rfl)
      (OpenSpec.preRow_of_cond 8 hx (by kernel_rfl) (fun k hk => by cases hk; kernel_rfl) (by kernel_rfl) (laid_met os))) ?_
  intro W base args ds gs before hval hW _ hcond _ hL hsh _
  exact contract H enc W base args ds gs before hsh hval (hcond _ rfl) hL hW
theorem said : Rows.IndexTurnsUptoSaid :=
  OpenClaim.holds_of_cond 3 Tryz.f3 rfl rfl rfl rfl rfl rfl rfl ⟨rfl, rfl, rfl, rfl, rfl⟩ rfl rfl rfl rfl rfl (by kernel_rfl) Tryz.func3 (by kernel_rfl)
    (of_decide_eq_true (by kernel_rfl)) (by unfold Func.isWrapper; first | (rw [if_pos (by decide +kernel)]; kernel_rfl) | (rw [if_neg (by decide +kernel)]; exact ⟨rfl, rfl⟩))
    (fun os started H enc _ F => by rw [OpenClaim.pre_eq_preRow]; exact lifted os started H enc F)
theorem plain (f : FuncId) (fn : Func) (hf : Tryz.pinned.checked.prog.funcNamed "clerestory/clerestorylaw1.IndexTurns" = some f) (hfn : Tryz.pinned.checked.prog.funcs[f]? = some fn) :
    false = Tryz.pinned.checked.prog.looks [] ∧ ∀ (j : Nat) t, fn.params[j]? = some t → Tryz.pinned.checked.prog.wantsStandIn t = false := by
  obtain rfl : f = 3 := Option.some.inj ((show Tryz.prog.funcNamed "clerestory/clerestorylaw1.IndexTurns" = some 3 by kernel_rfl).symm.trans hf) |>.symm
  obtain rfl : fn = Tryz.f3 := (Option.some.inj (Tryz.func3.symm.trans hfn)).symm
  refine ⟨by kernel_rfl, fun j t ht => ?_⟩
  rw [Tryz.params3] at ht
  have hm : t ∈ [24, 27, 4, 33] := by simpa using Array.mem_of_getElem? ht
  have ha : ([24, 27, 4, 33] : List TypeId).all (fun t => Tryz.prog.wantsStandIn t == false) = true := by kernel_rfl
  have h1 : Tryz.prog.wantsStandIn t = false := by simpa using List.all_eq_true.1 ha t hm
  exact h1
/-- The law returns true and leaves its arguments as they were, wherever what it reads is of bulk at most 1048576; the listed variables are tied to the program's text. -/
theorem proved : Rows.IndexTurnsUptoCardSaid :=
  Claim7.holds_tied_plain_at .later [] _ _ _ _ said (fun _ h => by cases h) (by kernel_rfl) (fun _ h => by cases h) indexTurnsUpto_row_tie rfl ⟨rfl, rfl⟩ (by kernel_rfl) rfl plain (by kernel_rfl)
#print axioms proved
end indexTurns
end Go.Proofs.YtcfjnldjkaglbaaGreatDoor
