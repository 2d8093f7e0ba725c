/- 'clerestorylaw1.TokenShows' returns true. Condition: what it reads holds at most 1048576 values and letters; the listed tables are tied to the program's text. -/
import Derived.Test.YtbgdedopafgbeaaGreatDoorM5
import Derived.Test.YtbgdedopafgbeaaGreatDoorM8
set_option linter.unusedSimpArgs false
set_option linter.unusedVariables false
namespace Go.Proofs.YtbgdedopafgbeaaGreatDoor
open Go Go.Sim Go.Proofs Go.Proofs.K Go.ChangeShapes Go.WideShapes Go.ChangeAt Go.RowKit
variable {H : Type} {enc : TypeId × Value → H} {w : World}
def goodAt (k : Nat) (x : HAttr) : Prop := x.name.length ≤ k ∧ x.value.length ≤ k
theorem mAt : Mono goodAt := fun _ _ _ h1 h2 => ⟨Nat.le_trans h2.1 h1, Nat.le_trans h2.2 h1⟩
theorem rAt : Rdr enc Tryz.prog w Rows.uptoBulk 45 Z6 goodAt := by
  have hB := bulk H
  have r := Rdr.struct (eh := enc) (w := w) hB Tryz.underlying45 (by kernel_rfl) (.cons (sz := 1) rfl (by kernel_rfl) mStr rStr (.cons (sz := 1) rfl (by kernel_rfl) mStr rStr (.nil _)))
  exact r.map (fun p => ⟨p.1, p.2.1⟩) (fun _ => rfl) (fun _ _ h => ⟨h.1, h.2.1⟩)
def goodTk (k : Nat) (x : HTok) : Prop := x.name.length ≤ k ∧ (x.attrs.length ≤ k ∧ ∀ a ∈ x.attrs, goodAt k a) ∧ x.text.length ≤ k
theorem mTk : Mono goodTk := fun _ _ _ h1 h2 => ⟨Nat.le_trans h2.1 h1, ⟨Nat.le_trans h2.2.1.1 h1, fun a ha => mAt _ _ _ h1 (h2.2.1.2 a ha)⟩, Nat.le_trans h2.2.2 h1⟩
theorem rTk : Rdr enc Tryz.prog w Rows.uptoBulk 43 J6 goodTk := by
  have hB := bulk H
  have ra := Rdr.slice (eh := enc) (w := w) hB mAt (sz := 2) (enc := Z6) Tryz.underlying41 (by kernel_rfl) (by decide) (fun _ => rfl) (rAt (H := H))
  have r := Rdr.struct (eh := enc) (w := w) hB Tryz.underlying43 (by kernel_rfl) (.cons (sz := 1) rfl (by kernel_rfl) mInt rInt (.cons (sz := 1) rfl (by kernel_rfl) mStr rStr
    (.cons (sz := 1) rfl (by kernel_rfl) (fun _ _ _ h1 h2 => ⟨Nat.le_trans h2.1 h1, fun a ha => mAt _ _ _ h1 (h2.2 a ha)⟩) ra (.cons (sz := 1) rfl (by kernel_rfl) mStr rStr (.cons (sz := 1) rfl (by kernel_rfl) (fun _ _ _ _ _ => trivial) rBool
    (.cons (sz := 1) rfl (by kernel_rfl) mInt rInt (.cons (sz := 1) rfl (by kernel_rfl) mInt rInt (.nil _))))))))
  exact r.map (fun p => (⟨p.1, p.2.1, p.2.2.1, p.2.2.2.1, p.2.2.2.2.1, p.2.2.2.2.2.1, p.2.2.2.2.2.2.1⟩ : HTok)) (fun _ => rfl) (fun _ _ h => ⟨h.2.1, h.2.2.1, h.2.2.2.1⟩)
theorem tokSm_of {k : Nat} {t : HTok} (hk : k ≤ 1500000) (g : goodTk k t) : TokSm t :=
  ⟨Nat.le_trans g.1 hk, Nat.le_trans g.2.2 hk, Nat.le_trans g.2.1.1 hk, fun a ha => ⟨Nat.le_trans (g.2.1.2 a ha).1 hk, Nat.le_trans (g.2.1.2 a ha).2 hk⟩⟩
def goodTks (k : Nat) (l : List HTok) : Prop := l.length ≤ k ∧ ∀ e ∈ l, goodTk k e
theorem rTks : Rdr enc Tryz.prog w Rows.uptoBulk 22 (fun l => [sl J6 l]) goodTks :=
  Rdr.slice (eh := enc) (w := w) (bulk H) mTk (sz := 7) (enc := J6) Tryz.underlying22 (by kernel_rfl) (by decide) (fun _ => rfl) (rTk (H := H))
namespace tokenShows
set_option maxRecDepth 100000 in
theorem contract (H : Type) (enc : TypeId × Value → H) (W : World) (base : Nat) (args : Array Value) (ds gs : List (DataW H)) (before : List MemPlace) (hsh : W.ShapedOpen Tryz.prog)
    (hval : ∀ (j : Nat) t v, Tryz.f4.params[j]? = some t → args[j]? = some v → Value.okWide Tryz.prog W .any base t v) (hk : Rows.uptoSmall H (ds ++ gs) = true) (hL : laidMetH Tryz.prog Rows.tokenShowsUptoRow.laid W)
    (hW : DataW.Whole enc Tryz.prog Tryz.f4.params.toList Rows.tokenShowsSpec.vars false W args.toList ds gs before) :
    Calls Tryz.prog 4 args W fun e W' => ∃ v, e = .returned v ∧ Rows.tokenShowsSpec.post enc Tryz.prog Tryz.f4 false true false false W args v W' := by
  have hW' := hW
  obtain ⟨p, q, hA0, hV, rfl, hfz, hnd⟩ := hW
  have hA : DataW.TrodAll enc Tryz.prog W 0 (fun _ => true) true Tryz.f4.params.toList args.toList ds p := hA0
  rw [Tryz.params4] at hA hval
  obtain ⟨v0, vs0, d0, ds0, p0, q0, hargs, rfl, rfl, ⟨n0, h0⟩, r0⟩ := trodAll_cons hA
  obtain ⟨rfl, rfl, rfl⟩ := trodAll_nil r0
  obtain rfl : args = #[v0] := by cases args; simp_all
  obtain ⟨rfl, rfl⟩ := trodVars_none hV
  obtain ⟨l, hx0, g0⟩ := rTks _ _ _ _ _ _ h0
  have hb : Rows.uptoBulkAll ([d0] ++ []) ≤ 1048576 := of_decide_eq_true hk
  simp only [List.append_nil, List.nil_append, Rows.uptoBulkAll] at hb
  try dsimp only at g0
  have b0 : Rows.uptoBulk d0 ≤ 1048576 := by omega
  have k0 : Value.okWide Tryz.prog W .any base 22 v0 := hval 0 22 v0 rfl rfl
  have V0 := arg_one Tryz.underlying22 trivial k0 hx0
  obtain ⟨m, GR⟩ := GT5_rel hsh hL
  refine (PCalls.law (P := Pg (GT5 m)) (?_ : PCalls (Pg (GT5 m)) 4 _ _) GR (VAll.cons V0 (VAll.nil)).rel).mono fun e W' ⟨he, O⟩ => ⟨_, he, ?_⟩
  · exact tokenShows_ok (GT5_max m) (GT5_case m) l (by have := g0.1; omega) (fun t ht => tokSm_of (by omega) (g0.2 t ht))
  · exact law_post O hW' rfl rfl rfl rfl rfl Tryz.underlying4 (by kernel_rfl) (by kernel_rfl) (by kernel_rfl) (by rw [Tryz.params4]; decide +kernel)

theorem laid_met (os : Os) : laidMet Tryz.prog Rows.tokenShowsUptoRow.laid ((laidWorld5 os).forCall (fun _ _ => 0) ⟨#[], #[.slice none 0 0], []⟩).memory :=
  laid5_met os _
theorem reads (os : Os) {H : Type} (enc : TypeId × Value → H) : ∃ places, DataW.whole enc Tryz.prog ((laidWorld5 os).forCall (fun _ _ => 0) ⟨#[], #[.slice none 0 0], []⟩).memory Tryz.f4.params.toList Rows.tokenShowsSpec.vars false (#[.slice none 0 0] : Array Value).toList 8 = some ([.nil], [], places) :=
  ⟨[], by kernel_rfl⟩
set_option maxRecDepth 100000 in
theorem lifted (os : Os) (started : os.Started) (H : Type) (enc : TypeId × Value → H) (F : Stop.Interp) :
    ReturnsInHanded {} Tryz.checked os 4 .any ((Rows.OpenSpec.upto Rows.tokenShowsSpec).preRow enc Tryz.prog Tryz.f4 Rows.tokenShowsUptoRow.domain false Rows.tokenShowsUptoRow.laid) (((Rows.OpenSpec.upto Rows.tokenShowsSpec).at F).post enc Tryz.prog Tryz.f4 false true false false) := by
  obtain ⟨places, hx⟩ := reads os enc
  refine returnsInHanded_of_row (C := Tryz.checked) (s := Rows.OpenSpec.upto Rows.tokenShowsSpec) own started (by kernel_rfl) Tryz.func4
    (witness_row_atRef (enc := enc) (C := Tryz.checked) false (laidWorld5 os) #[.slice none 0 0] rfl (by kernel_rfl) (by kernel_rfl) (by kernel_rfl)
      (OpenSpec.preRow_of_cond 8 hx (by kernel_rfl) (fun k hk => by cases hk; kernel_rfl) (by kernel_rfl) (laid_met os))) ?_
  intro W base args ds gs before hval hW _ hcond _ hL hsh _
  exact contract H enc W base args ds gs before hsh hval (hcond _ rfl) hL hW
theorem said : Rows.TokenShowsUptoSaid :=
  OpenClaim.holds_of_cond 4 Tryz.f4 rfl rfl rfl rfl rfl rfl rfl ⟨rfl, rfl, rfl, rfl, rfl⟩ rfl rfl rfl rfl rfl (by kernel_rfl) Tryz.func4 (by kernel_rfl)
    (of_decide_eq_true (by kernel_rfl)) (by unfold Func.isWrapper; first | (rw [if_pos (by decide +kernel)]; kernel_rfl) | (rw [if_neg (by decide +kernel)]; exact ⟨rfl, rfl⟩))
    (fun os started H enc _ F => by rw [OpenClaim.pre_eq_preRow]; exact lifted os started H enc F)
theorem plain (f : FuncId) (fn : Func) (hf : Tryz.pinned.checked.prog.funcNamed "clerestory/clerestorylaw1.TokenShows" = some f) (hfn : Tryz.pinned.checked.prog.funcs[f]? = some fn) :
    false = Tryz.pinned.checked.prog.looks [] ∧ ∀ (j : Nat) t, fn.params[j]? = some t → Tryz.pinned.checked.prog.wantsStandIn t = false := by
  obtain rfl : f = 4 := Option.some.inj ((show Tryz.prog.funcNamed "clerestory/clerestorylaw1.TokenShows" = some 4 by kernel_rfl).symm.trans hf) |>.symm
  obtain rfl : fn = Tryz.f4 := (Option.some.inj (Tryz.func4.symm.trans hfn)).symm
  refine ⟨by kernel_rfl, fun j t ht => ?_⟩
  rw [Tryz.params4] at ht
  have hm : t ∈ [22] := by simpa using Array.mem_of_getElem? ht
  have ha : ([22] : List TypeId).all (fun t => Tryz.prog.wantsStandIn t == false) = true := by kernel_rfl
  have h1 : Tryz.prog.wantsStandIn t = false := by simpa using List.all_eq_true.1 ha t hm
  exact h1
/-- The law returns true and leaves its arguments as they were, wherever what it reads is of bulk at most 1048576; the listed variables are tied to the program's text. -/
theorem proved : Rows.TokenShowsUptoCardSaid :=
  Claim7.holds_tied_plain_at .later [] _ _ _ _ said (fun _ h => by cases h) (by kernel_rfl) (fun _ h => by cases h) tokenShowsUpto_row_tie rfl ⟨rfl, rfl⟩ (by kernel_rfl) rfl plain (by kernel_rfl)
#print axioms proved
end tokenShows
end Go.Proofs.YtbgdedopafgbeaaGreatDoor
