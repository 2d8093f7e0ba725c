/- Texts of this claim, one behind the other. -/
import Derived.Test.YtoolkpnnllfhgaaGreatDoorM5
import Derived.Test.YtoolkpnnllfhgaaGreatDoorM3
import Derived.Test.YtoolkpnnllfhgaaGreatDoorM4
section
/- Edits: the reference's Edited: its end, its begin. -/
set_option linter.unusedSimpArgs false
set_option linter.unusedVariables false
namespace Go.Proofs.K
open Go Go.Sim Go.Proofs
variable {G : Glob}
theorem DocSm.setN {d : HDoc} {x : HNode} {n : Int} (sm : DocSm d) (hx : NodeSm x) : DocSm (setN d n x) := ⟨by rw [setN_len]; exact sm.len, fun y hy => by
  rcases List.mem_or_eq_of_mem_set hy with h | h
  · exact sm.each y h
  · exact h ▸ hx⟩
theorem edit_sm {d : HDoc} (V : DV d) (sm : DocSm d) {e : HEdit} (he : EditSm e) (h0 : errR d e = 0) : DocSm (editD d e) := by
  have kl : ∀ n, (nd d n).kids.length ≤ 1073741823 := fun n => by
    by_cases hn : inD d n
    · have := nodup_len d.nodes.length (nd d n).kids (V.nodup n hn) (fun k hk => (V.kid n hn k hk).1)
      have := V.len
      omega
    · have : (nd d n).kids = [] ∨ inD d n.toNat := by
        by_cases h : n.toNat < d.nodes.length
        · exact .inr (inD_nat.2 h)
        · left; unfold nd; rw [nth_def h]; rfl
      rcases this with h | h
      · rw [h]; decide
      · have h2 := nodup_len d.nodes.length (nd d n.toNat).kids (V.nodup _ h) (fun k hk => (V.kid _ h k hk).1)
        have : nd d (n.toNat : Int) = nd d n := by unfold nd; rw [Int.toNat_natCast]
        rw [this] at h2
        have := V.len
        omega
  have ns := fun n => sm.nd n
  unfold editD
  split
  · rename_i h1
    have ha : inD d e.at' := by
      apply Classical.byContradiction; intro ha
      rw [errR_in (by omega) (by omega) (by omega) (.inl ha)] at h0; omega
    have al := ((attrsE_iff _).1 ((nodeE_iff _).1 (V.node _ ha)).2.2.2.1).1
    refine sm.setN ⟨(ns _).name, ?_, ?_, (ns _).text, (ns _).kids⟩
    · unfold setAttr; split
      · rw [List.length_set]; omega
      · rw [List.length_append, List.length_singleton]; omega
    · intro a ha
      have : a ∈ (nd d e.at').attrs ∨ a = ⟨e.name, e.value⟩ := by
        unfold setAttr at ha; split at ha
        · exact List.mem_or_eq_of_mem_set ha
        · rcases List.mem_append.1 ha with h | h
          · exact .inl h
          · exact .inr (by simpa using h)
      rcases this with h | h
      · exact (ns _).each a h
      · subst h; exact ⟨he.name, he.value⟩
  split
  · refine sm.setN ⟨(ns _).name, ?_, ?_, (ns _).text, (ns _).kids⟩
    · have := (ns e.at').attrs
      unfold dropAttr; rw [List.length_append, List.length_take, List.length_drop]; omega
    · intro a ha
      refine (ns e.at').each a ?_
      unfold dropAttr at ha
      rcases List.mem_append.1 ha with h | h
      · exact List.mem_of_mem_take h
      · exact List.mem_of_mem_drop h
  split
  · exact sm.setN ⟨(ns _).name, (ns _).attrs, (ns _).each, he.value, (ns _).kids⟩
  split
  · refine ⟨by rw [addN_len]; have := V.len; omega, fun y hy => ?_⟩
    rcases List.mem_append.1 hy with h | h
    · exact sm.each y h
    · have : y = madeM e.node := by simpa using h
      subst this
      exact ⟨he.node.name, he.node.attrs, he.node.each, he.node.text, Nat.zero_le _⟩
  split
  · unfold hung
    refine DocSm.setN (DocSm.setN sm ⟨(ns e.at').name, (ns e.at').attrs, (ns e.at').each, (ns e.at').text, ?_⟩) ⟨(ns e.to).name, (ns e.to).attrs, (ns e.to).each, (ns e.to).text, (ns e.to).kids⟩
    have := kl e.at'
    show (List.take _ _ ++ _ :: List.drop _ _).length ≤ _
    rw [List.length_append, List.length_cons, List.length_take, List.length_drop]; omega
  · unfold cutN
    refine DocSm.setN (DocSm.setN sm ⟨(ns (nd d e.at').parent).name, (ns (nd d e.at').parent).attrs, (ns (nd d e.at').parent).each, (ns (nd d e.at').parent).text, ?_⟩) ⟨(ns e.at').name, (ns e.at').attrs, (ns e.at').each, (ns e.at').text, (ns e.at').kids⟩
    show (List.take _ _ ++ List.drop _ _).length ≤ _
    have := kl (nd d e.at').parent
    rw [List.length_append, List.length_take, List.length_drop]; omega
/-- what is refused, and what becomes of a document: by its own check -/
theorem apply_by {d : HDoc} (V : DV d) {e : HEdit} (h0 : errR d e = 0) : (docE (editD d e) ≠ 0 → applyE d e = 2) ∧ (docE (editD d e) = 0 → applyE d e = 0) := by
  have hd := (docE_iff d).2 V
  have aE : applyE d e = editE d e := by unfold applyE; rw [if_neg (by simpa using hd)]
  have h1 := edit_DV V e h0
  rw [← docE_iff] at h1
  rw [aE]
  refine ⟨fun h => ?_, fun h => h1.1 h⟩
  rcases (editE_errR V e).2 h0 with h2 | h2
  · exact absurd (h1.2 h2) h
  · exact h2
theorem apply_err {d : HDoc} (V : DV d) {e : HEdit} (h0 : errR d e ≠ 0) : applyE d e = errR d e := by
  have hd := (docE_iff d).2 V
  unfold applyE; rw [if_neg (by simpa using hd)]
  exact (editE_errR V e).1 h0
theorem Fresh.vw {α : Type} [Inhabited α] {enc : α → List AVal} {h h' : Heap} {ty sz : Nat} [LenE enc sz] {l : List α} {a : AVal} (F : Fresh h h' ty sz (l.map enc) a) : Vw (newH h h') a (sl enc l) :=
  (F.own.keep fun r o hr ho => by rw [newH_none (F.new r hr)]; exact ho).vw
def Vz (a b : AVal) : Prop := ∀ h, Vw h a b
theorem Vz.refl (a : AVal) : Vz a a := fun h => .refl a
theorem Vz.emp : Vz .emp (.slc []) := fun h => .emp
theorem F2.imp' {α : Type} {R S : α → α → Prop} (hi : ∀ a b, R a b → S a b) {l m : List α} (h : F2 R l m) : F2 S l m := by
  induction h with
  | nil => exact .nil
  | cons h _ ih => exact .cons (hi _ _ h) ih
theorem F2.app {α : Type} {R : α → α → Prop} {l m l2 m2 : List α} (h : F2 R l m) (h2 : F2 R l2 m2) : F2 R (l ++ l2) (m ++ m2) := by
  induction h with
  | nil => exact h2
  | cons h _ ih => exact .cons h ih
theorem OwnS.vwk {α : Type} [Inhabited α] {enc : α → List AVal} {h : Heap} {ty sz : Nat} [LenE enc sz] {l : List α} {cells : List (List AVal)} {a : AVal} (O : OwnS h ty sz cells a) (M : Mut a) (hc : F2 (F2 Vz) cells (l.map enc)) : Vw h a (sl enc l) := by
  rcases O.live M with ⟨h1, h2⟩ | ⟨r, es, ha, hr, h1, h2⟩
  · subst h1
    have : l = [] := by
      have := hc.len
      rw [List.length_map] at this
      exact List.eq_nil_of_length_eq_zero this.symm
    subst this; subst h2; exact .emp
  · subst ha
    refine Vw.osl0 hr hc.len.symm h1 (fun f hf => by obtain ⟨x, _, rfl⟩ := List.mem_map.1 hf; exact LenE.len x) ?_
    show F2 _ (es.take _) _
    rw [h2]
    exact F2.imp' (fun _ _ hb => F2.imp' (fun _ _ hw => hw h) hb) hc
theorem Fresh.vwk {α : Type} [Inhabited α] {enc : α → List AVal} {h h' : Heap} {ty sz : Nat} [LenE enc sz] {l : List α} {cells : List (List AVal)} {a : AVal} (F : Fresh h h' ty sz cells a) (hc : F2 (F2 Vz) cells (l.map enc)) : Vw (newH h h') a (sl enc l) :=
  OwnS.vwk (F.own.keep fun r o hr ho => by rw [newH_none (F.new r hr)]; exact ho) F.live hc
theorem wks_refl (l : List (List AVal)) : F2 (F2 Vz) l l := F2.refl (fun a => F2.refl (fun x => .refl x) a) l
/-- what Edited answers -/
def edR (d : HDoc) (e : HEdit) : AVal := .tup [.agg (eDoc (applyD d e)), aInt (applyN d e), aInt (applyE d e)]
def EdK (d : HDoc) (e : HEdit) (h : Heap) (a : AVal) (h' : Heap) : Prop := Sub h h' ∧ VwT (newH h h') a (edR d e)
def c26_s6 : SCode := (.seq (.seq (.reg [⟨(some 199), (.ld 2 true (.t 8)), none⟩, ⟨(some 200), (.call (.c (.fn 48 [] [])) [(.t 199)]), none⟩, ⟨(some 201), (.bin .neq (.t 200) (.c (.int .i64 (0)))), none⟩]) (.cond (.t 201) (.seq (.reg [⟨(some 202), (.bld [.emp, (.bool false)] []), none⟩, ⟨none, (.st 2 (.t 4) (.t 202)), none⟩, ⟨(some 5), (.mv (.c (.int .i64 (0)))), none⟩, ⟨(some 6), (.mv (.c (.int .i64 (2)))), none⟩]) .ret) .skip)) (.seq (.reg [⟨(some 203), (.ld 2 true (.t 8)), none⟩, ⟨(some 204), (.mv (.t 9)), none⟩, ⟨none, (.st 2 (.t 4) (.t 203)), none⟩, ⟨(some 5), (.mv (.t 204)), none⟩, ⟨(some 6), (.mv (.c (.int .i64 (0)))), none⟩]) .ret))
def c26_s5 : SCode := (.seq (.seq (.reg [⟨(some 26), (.fldA 0 (.t 3)), none⟩, ⟨(some 27), (.ld 1 false (.t 26)), none⟩, ⟨(some 28), (.bin .eql (.t 27) (.c (.int .i64 (4)))), none⟩]) (.cond (.t 28) (.seq (.reg [⟨(some 29), (.fldA 0 (.t 8)), none⟩, ⟨(some 30), (.ld 1 false (.t 29)), none⟩, ⟨(some 31), (.len (.t 30)), none⟩, ⟨(some 9), (.mv (.t 31)), none⟩]) (.dreg [(⟨(some 32), (.fldA 0 (.t 8)), none⟩, none), (⟨(some 33), (.ld 1 false (.t 32)), none⟩, none), (⟨(some 34), (.fldA 6 (.t 3)), none⟩, none), (⟨(some 35), (.fldA 0 (.t 34)), none⟩, none), (⟨(some 36), (.ld 1 false (.t 35)), none⟩, none), (⟨(some 37), (.fldA 6 (.t 3)), none⟩, none), (⟨(some 38), (.fldA 1 (.t 37)), none⟩, none), (⟨(some 39), (.ld 1 false (.t 38)), none⟩, none), (⟨(some 40), (.bldF 96 2 []), none⟩, none), (⟨(some 41), (.fldA 6 (.t 3)), none⟩, none), (⟨(some 42), (.fldA 2 (.t 41)), none⟩, none), (⟨(some 43), (.ld 1 false (.t 42)), none⟩, none), (⟨(some 45), (.fldA 6 (.t 3)), none⟩, none), (⟨(some 46), (.fldA 3 (.t 45)), none⟩, none), (⟨(some 47), (.ld 1 false (.t 46)), none⟩, none), (⟨(some 44), (.appF 96 2 32 (.t 40) (.t 43)), none⟩, (some [43])), (⟨(some 48), (.bld [(.int .i64 (0)), (.str []), .emp, (.str []), (.int .i64 (0)), .emp] [(0, (1, (.t 36))), (1, (1, (.t 39))), (2, (1, (.t 44))), (3, (1, (.t 47))), (4, (1, (.c (.int .i64 (-1)))))]), none⟩, none), (⟨(some 49), (.bldF 40 6 [(.t 48)]), none⟩, none), (⟨(some 50), (.app 40 6 96 (.t 33) (.t 49)), none⟩, (some [33, 36, 39, 47, 43])), (⟨(some 51), (.fldA 0 (.t 8)), none⟩, none), (⟨none, (.st 1 (.t 51) (.t 50)), none⟩, (some [33, 36, 39, 47, 43]))])) (.seq (.reg [⟨(some 52), (.fldA 0 (.t 8)), none⟩, ⟨(some 53), (.ld 1 false (.t 52)), none⟩, ⟨(some 54), (.fldA 1 (.t 3)), none⟩, ⟨(some 55), (.ld 1 false (.t 54)), none⟩, ⟨(some 56), (.idxA 6 (.t 53) (.t 55)), none⟩, ⟨(some 57), (.ld 6 true (.t 56)), none⟩, ⟨(some 10), (.new 40 6 [(.int .i64 (0)), (.str []), .emp, (.str []), (.int .i64 (0)), .emp]), none⟩, ⟨none, (.st 6 (.t 10) (.t 57)), none⟩]) (.seq (.reg [⟨(some 11), (.mv (.c .emp)), none⟩]) (.seq (.reg [⟨(some 12), (.mv (.c (.bool false))), none⟩]) (.seq (.seq (.reg [⟨(some 13), (.mv (.c (.int .i64 (0)))), none⟩]) (.block 0 (.loop (.seq (.seq (.reg [⟨(some 58), (.mv (.t 13)), none⟩, ⟨(some 59), (.fldA 2 (.t 10)), none⟩, ⟨(some 60), (.ld 1 false (.t 59)), none⟩, ⟨(some 61), (.len (.t 60)), none⟩, ⟨(some 62), (.bin .lss (.t 58) (.t 61)), none⟩]) (.cond (.t 62) .skip (.exit 0))) (.seq (.block 1 (.seq (.reg [⟨(some 65), (.fldA 2 (.t 10)), none⟩, ⟨(some 66), (.ld 1 false (.t 65)), none⟩, ⟨(some 67), (.mv (.t 13)), none⟩, ⟨(some 68), (.idxA 2 (.t 66) (.t 67)), none⟩, ⟨(some 69), (.ld 2 true (.t 68)), none⟩, ⟨(some 14), (.new 96 2 [(.str []), (.str [])]), none⟩, ⟨none, (.st 2 (.t 14) (.t 69)), none⟩]) (.seq (.seq (.reg [⟨(some 70), (.fldA 0 (.t 14)), none⟩, ⟨(some 71), (.ld 1 false (.t 70)), none⟩, ⟨(some 72), (.fldA 4 (.t 3)), none⟩, ⟨(some 73), (.ld 1 false (.t 72)), none⟩, ⟨(some 74), (.bin .eql (.t 71) (.t 73)), none⟩, ⟨(some 75), (.mv (.t 74)), none⟩, ⟨(some 76), (.fldA 0 (.t 3)), (some (75, true))⟩, ⟨(some 77), (.ld 1 false (.t 76)), (some (75, true))⟩, ⟨(some 78), (.bin .eql (.t 77) (.c (.int .i64 (1)))), (some (75, true))⟩, ⟨(some 79), (.pick (.t 75) (.t 78) (.c (.bool false))), none⟩]) (.cond (.t 79) (.seq (.reg [⟨(some 80), (.fldA 5 (.t 3)), none⟩, ⟨(some 81), (.ld 1 false (.t 80)), none⟩, ⟨(some 82), (.fldA 1 (.t 14)), none⟩, ⟨none, (.st 1 (.t 82) (.t 81)), none⟩]) (.reg [⟨(some 12), (.mv (.c (.bool true))), none⟩])) .skip)) (.seq (.reg [⟨(some 83), (.fldA 0 (.t 14)), none⟩, ⟨(some 84), (.ld 1 false (.t 83)), none⟩, ⟨(some 85), (.fldA 4 (.t 3)), none⟩, ⟨(some 86), (.ld 1 false (.t 85)), none⟩, ⟨(some 87), (.bin .neq (.t 84) (.t 86)), none⟩, ⟨(some 88), (.mv (.t 87)), none⟩, ⟨(some 89), (.fldA 0 (.t 3)), (some (88, false))⟩, ⟨(some 90), (.ld 1 false (.t 89)), (some (88, false))⟩, ⟨(some 91), (.bin .neq (.t 90) (.c (.int .i64 (2)))), (some (88, false))⟩, ⟨(some 92), (.pick (.t 88) (.c (.bool true)) (.t 91)), none⟩]) (.cond (.t 92) (.reg [⟨(some 93), (.mv (.t 11)), none⟩, ⟨(some 94), (.ld 2 true (.t 14)), none⟩, ⟨(some 95), (.bldF 96 2 [(.t 94)]), none⟩, ⟨(some 96), (.app 96 2 32 (.t 93) (.t 95)), none⟩, ⟨(some 11), (.mv (.t 96)), none⟩]) .skip))))) (.reg [⟨(some 63), (.mv (.t 13)), none⟩, ⟨(some 64), (.bin .add (.t 63) (.c (.int .i64 (1)))), none⟩, ⟨(some 13), (.mv (.t 64)), none⟩])))))) (.seq (.seq (.reg [⟨(some 97), (.fldA 0 (.t 3)), none⟩, ⟨(some 98), (.ld 1 false (.t 97)), none⟩, ⟨(some 99), (.bin .eql (.t 98) (.c (.int .i64 (1)))), none⟩, ⟨(some 100), (.mv (.t 99)), none⟩, ⟨(some 101), (.mv (.t 12)), (some (100, true))⟩, ⟨(some 102), (.un .not (.t 101)), (some (100, true))⟩, ⟨(some 103), (.pick (.t 100) (.t 102) (.c (.bool false))), none⟩]) (.cond (.t 103) (.reg [⟨(some 104), (.mv (.t 11)), none⟩, ⟨(some 105), (.fldA 4 (.t 3)), none⟩, ⟨(some 106), (.ld 1 false (.t 105)), none⟩, ⟨(some 107), (.fldA 5 (.t 3)), none⟩, ⟨(some 108), (.ld 1 false (.t 107)), none⟩, ⟨(some 109), (.bld [(.str []), (.str [])] [(0, (1, (.t 106))), (1, (1, (.t 108)))]), none⟩, ⟨(some 110), (.bldF 96 2 [(.t 109)]), none⟩, ⟨(some 111), (.app 96 2 32 (.t 104) (.t 110)), none⟩, ⟨(some 11), (.mv (.t 111)), none⟩]) .skip)) (.seq (.seq (.reg [⟨(some 112), (.fldA 0 (.t 3)), none⟩, ⟨(some 113), (.ld 1 false (.t 112)), none⟩, ⟨(some 114), (.bin .eql (.t 113) (.c (.int .i64 (1)))), none⟩, ⟨(some 115), (.mv (.t 114)), none⟩, ⟨(some 116), (.fldA 0 (.t 3)), (some (115, false))⟩, ⟨(some 117), (.ld 1 false (.t 116)), (some (115, false))⟩, ⟨(some 118), (.bin .eql (.t 117) (.c (.int .i64 (2)))), (some (115, false))⟩, ⟨(some 119), (.pick (.t 115) (.c (.bool true)) (.t 118)), none⟩]) (.cond (.t 119) (.reg [⟨(some 120), (.frz (.t 11)), none⟩, ⟨(some 121), (.fldA 2 (.t 10)), none⟩, ⟨none, (.st 1 (.t 121) (.t 120)), none⟩]) .skip)) (.seq (.seq (.reg [⟨(some 122), (.fldA 0 (.t 3)), none⟩, ⟨(some 123), (.ld 1 false (.t 122)), none⟩, ⟨(some 124), (.bin .eql (.t 123) (.c (.int .i64 (3)))), none⟩]) (.cond (.t 124) (.reg [⟨(some 125), (.fldA 5 (.t 3)), none⟩, ⟨(some 126), (.ld 1 false (.t 125)), none⟩, ⟨(some 127), (.fldA 3 (.t 10)), none⟩, ⟨none, (.st 1 (.t 127) (.t 126)), none⟩]) .skip)) (.seq (.seq (.reg [⟨(some 128), (.fldA 0 (.t 3)), none⟩, ⟨(some 129), (.ld 1 false (.t 128)), none⟩, ⟨(some 130), (.bin .eql (.t 129) (.c (.int .i64 (5)))), none⟩]) (.cond (.t 130) (.seq (.reg [⟨(some 131), (.fldA 5 (.t 10)), none⟩, ⟨(some 132), (.ld 1 false (.t 131)), none⟩, ⟨(some 133), (.len (.t 132)), none⟩, ⟨(some 15), (.mv (.t 133)), none⟩]) (.seq (.seq (.reg [⟨(some 134), (.fldA 3 (.t 3)), none⟩, ⟨(some 135), (.ld 1 false (.t 134)), none⟩, ⟨(some 136), (.bin .neq (.t 135) (.c (.int .i64 (-1)))), none⟩]) (.cond (.t 136) (.reg [⟨(some 137), (.fldA 5 (.t 10)), none⟩, ⟨(some 138), (.ld 1 false (.t 137)), none⟩, ⟨(some 139), (.fldA 3 (.t 3)), none⟩, ⟨(some 140), (.ld 1 false (.t 139)), none⟩, ⟨(some 141), (.pcall 60 [(.t 138), (.t 140)]), none⟩, ⟨(some 15), (.mv (.t 141)), none⟩]) .skip)) (.seq (.dreg [(⟨(some 142), (.bldF 3 1 []), none⟩, none), (⟨(some 143), (.fldA 5 (.t 10)), none⟩, none), (⟨(some 144), (.ld 1 false (.t 143)), none⟩, none), (⟨(some 145), (.mv (.t 15)), none⟩, none), (⟨(some 146), (.slA 1 (.t 144) none (some (.t 145))), none⟩, none), (⟨(some 148), (.fldA 2 (.t 3)), none⟩, none), (⟨(some 149), (.ld 1 false (.t 148)), none⟩, none), (⟨(some 150), (.bldF 3 1 [(.t 149)]), none⟩, none), (⟨(some 152), (.fldA 5 (.t 10)), none⟩, none), (⟨(some 153), (.ld 1 false (.t 152)), none⟩, none), (⟨(some 154), (.mv (.t 15)), none⟩, none), (⟨(some 155), (.slA 1 (.t 153) (some (.t 154)) none), none⟩, none), (⟨(some 147), (.app 3 1 8 (.t 142) (.t 146)), none⟩, (some [144])), (⟨(some 151), (.app 3 1 8 (.t 147) (.t 150)), none⟩, (some [149, 144])), (⟨(some 156), (.appF 3 1 8 (.t 151) (.t 155)), none⟩, (some [153, 149, 144])), (⟨(some 157), (.fldA 5 (.t 10)), none⟩, none), (⟨none, (.st 1 (.t 157) (.t 156)), none⟩, (some [153, 149, 144]))]) (.reg [⟨(some 158), (.fldA 0 (.t 8)), none⟩, ⟨(some 159), (.ld 1 false (.t 158)), none⟩, ⟨(some 160), (.fldA 2 (.t 3)), none⟩, ⟨(some 161), (.ld 1 false (.t 160)), none⟩, ⟨(some 162), (.fldA 1 (.t 3)), none⟩, ⟨(some 163), (.ld 1 false (.t 162)), none⟩, ⟨(some 164), (.idxA 6 (.t 159) (.t 161)), none⟩, ⟨(some 165), (.fldA 4 (.t 164)), none⟩, ⟨none, (.st 1 (.t 165) (.t 163)), none⟩])))) .skip)) (.seq (.seq (.reg [⟨(some 166), (.fldA 0 (.t 3)), none⟩, ⟨(some 167), (.ld 1 false (.t 166)), none⟩, ⟨(some 168), (.bin .eql (.t 167) (.c (.int .i64 (6)))), none⟩]) (.cond (.t 168) (.seq (.reg [⟨(some 169), (.fldA 4 (.t 10)), none⟩, ⟨(some 170), (.ld 1 false (.t 169)), none⟩, ⟨(some 16), (.mv (.t 170)), none⟩]) (.seq (.dreg [(⟨(some 171), (.fldA 0 (.t 8)), none⟩, none), (⟨(some 172), (.ld 1 false (.t 171)), none⟩, none), (⟨(some 173), (.mv (.t 16)), none⟩, none), (⟨(some 174), (.fldA 0 (.t 8)), none⟩, none), (⟨(some 175), (.ld 1 false (.t 174)), none⟩, none), (⟨(some 176), (.mv (.t 16)), none⟩, none), (⟨(some 177), (.idxA 6 (.t 175) (.t 176)), none⟩, none), (⟨(some 178), (.fldA 5 (.t 177)), none⟩, none), (⟨(some 179), (.ld 1 false (.t 178)), none⟩, none), (⟨(some 180), (.fldA 0 (.t 8)), none⟩, none), (⟨(some 181), (.ld 1 false (.t 180)), none⟩, none), (⟨(some 182), (.mv (.t 16)), none⟩, none), (⟨(some 183), (.idxA 6 (.t 181) (.t 182)), none⟩, none), (⟨(some 184), (.fldA 5 (.t 183)), none⟩, none), (⟨(some 185), (.ld 1 false (.t 184)), none⟩, none), (⟨(some 186), (.fldA 1 (.t 3)), none⟩, none), (⟨(some 187), (.ld 1 false (.t 186)), none⟩, none), (⟨(some 188), (.pcall 60 [(.t 185), (.t 187)]), none⟩, none), (⟨(some 189), (.pcall 61 [(.t 179), (.t 188)]), none⟩, none), (⟨(some 190), (.idxA 6 (.t 172) (.t 173)), none⟩, none), (⟨(some 191), (.fldA 5 (.t 190)), none⟩, none), (⟨none, (.st 1 (.t 191) (.t 189)), none⟩, (some [172, 179, 175, 185, 187, 181]))]) (.reg [⟨(some 192), (.fldA 4 (.t 10)), none⟩, ⟨none, (.st 1 (.t 192) (.c (.int .i64 (-1)))), none⟩]))) .skip)) (.reg [⟨(some 193), (.fldA 0 (.t 8)), none⟩, ⟨(some 194), (.ld 1 false (.t 193)), none⟩, ⟨(some 195), (.fldA 1 (.t 3)), none⟩, ⟨(some 196), (.ld 1 false (.t 195)), none⟩, ⟨(some 197), (.ld 6 true (.t 10)), none⟩, ⟨(some 198), (.idxA 6 (.t 194) (.t 196)), none⟩, ⟨none, (.st 6 (.t 198) (.t 197)), none⟩])))))))))))) c26_s6)
def c26 : SFun := ⟨(.seq (.reg [⟨(some 2), (.boxF 24 2 (.t 0)), none⟩, ⟨(some 3), (.boxF 42 12 (.t 1)), none⟩, ⟨(some 4), (.new 24 2 [.emp, (.bool false)]), none⟩, ⟨(some 5), (.mv (.c (.int .i64 (0)))), none⟩, ⟨(some 6), (.mv (.c (.int .i64 (0)))), none⟩]) (.seq (.reg [⟨(some 17), (.ld 2 true (.t 2)), none⟩, ⟨(some 18), (.ld 12 true (.t 3)), none⟩, ⟨(some 19), (.pcall 58 [(.t 17), (.t 18)]), none⟩, ⟨(some 7), (.mv (.t 19)), none⟩]) (.seq (.seq (.reg [⟨(some 20), (.mv (.t 7)), none⟩, ⟨(some 21), (.bin .neq (.t 20) (.c (.int .i64 (0)))), none⟩]) (.cond (.t 21) (.seq (.reg [⟨(some 22), (.bld [.emp, (.bool false)] []), none⟩, ⟨(some 23), (.mv (.t 7)), none⟩, ⟨none, (.st 2 (.t 4) (.t 22)), none⟩, ⟨(some 5), (.mv (.c (.int .i64 (0)))), none⟩, ⟨(some 6), (.mv (.t 23)), none⟩]) .ret) .skip)) (.seq (.reg [⟨(some 24), (.ld 2 true (.t 2)), none⟩, ⟨(some 25), (.call (.c (.fn 59 [] [])) [(.t 24)]), none⟩, ⟨(some 8), (.new 24 2 [.emp, (.bool false)]), none⟩, ⟨none, (.st 2 (.t 8) (.t 25)), none⟩]) (.seq (.reg [⟨(some 9), (.mv (.c (.int .i64 (0)))), none⟩]) c26_s5))))), [(.cell 4 2 true), (.tmp 5), (.tmp 6)]⟩
theorem hc26 : toSF Tryz.prog {pure := [58, 60, 61], how := [(44, 8), (120, 8), (156, 8)]} Tryz.f26 = some c26 := by kernel_rfl
theorem hn26 : (Tryz.f26.name == "runtime.NumGoroutine") = false := by kernel_rfl
theorem edited_end {d : HDoc} (V : DV d) (sm : DocSm d) {e : HEdit} (he : EditSm e) (h0 : errR d e = 0) {h h2 : Heap} {b : AVal} {cells : List (List AVal)} {E : Env} {r4 r8 : Nat}
    (S : Sub h h2) (F : Fresh h h2 40 6 cells b) (hc : F2 (F2 Vz) cells ((editD d e).nodes.map eNode)) (h4 : h r4 = none) (g4 : h2 r4 = some ⟨.t 24, 2, [[.emp, .bool false]]⟩) (g8 : h2 r8 = some ⟨.t 24, 2, [[b, .bool d.quirks]]⟩) (n4 : rootOf b ≠ some r4)
    (e4 : E 4 = .vp r4 0) (e8 : E 8 = .vp r8 0) (e9 : E 9 = aInt (editN d e)) :
    vc (Pg G) c26_s6 (retK [.cell 4 2 true, .tmp 5, .tmp 6] (EdK d e h)) E h2 := by
  have sE := edit_sm V sm he h0
  have hD := docErr_ok (G := G) (editD d e) sE
  have hq : (editD d e).quirks = d.quirks := by unfold editD; (repeat' split) <;> rfl
  obtain ⟨a1, a2⟩ := apply_by V h0
  have hB := DCalls.bor hD (h := h2) (args := [.agg [b, .bool d.quirks]]) (.int _ _) (.cons (Vw.agg' (.cons (F.own.vwk F.live hc) (.cons (by rw [hq]; exact .refl _) .nil))) .nil)
  unfold c26_s6
  skip
  simp -dsimp -implicitDefEqProofs (disch := omega) only [VCA, Nat.reduceEqDiff, Nat.reduceAdd, Nat.reduceLT, ↓reduceIte, exists_eq_left', e8, g8]
  refine DCalls.of hB ?_
  rintro _ h3 ⟨rfl, rfl⟩
  simp -dsimp -implicitDefEqProofs (disch := omega) only [VCA, ↓reduceIte]
  refine Br.ne (fun h1 => ?_) (fun h1 => ?_)
  · have aE := a1 h1
    have aD : applyD d e = noDoc := by unfold applyD; rw [aE]; rfl
    have aN : applyN d e = 0 := by unfold applyN; rw [aE]; rfl
    simp -dsimp -implicitDefEqProofs (disch := omega) only [VCA, Nat.reduceEqDiff, Nat.reduceAdd, Nat.reduceLT, ↓reduceIte, fillA, okFill, setAt, exists_eq_left', e4, g4]
    refine ⟨_, Sub.refl _, S.upd h4, ?_⟩
    unfold edR
    rw [aD, aN, aE]
    exact .tup' (.cons (vw_noDoc _) (.cons (.refl _) (.cons (.refl _) .nil)))
  · have aE := a2 h1
    have aD : applyD d e = editD d e := by unfold applyD; rw [if_pos aE]
    have aN : applyN d e = editN d e := by unfold applyN; rw [if_pos aE]
    simp -dsimp -implicitDefEqProofs (disch := omega) only [VCA, Nat.reduceEqDiff, Nat.reduceAdd, Nat.reduceLT, ↓reduceIte, setAt, exists_eq_left', e4, e8, e9, g4, g8]
    refine ⟨_, Sub.refl _, S.upd h4, ?_⟩
    unfold edR
    rw [aD, aN, aE]
    have F2 := F.keep (h2 := upd h3 r4 (some ⟨.t 24, 2, [[b, .bool d.quirks]]⟩)) fun r o hr ho => by rw [upd_ne _ _ (fun e => n4 (by rw [hr, e]))]; exact ho
    exact .tup' (.cons (Vw.agg' (.cons (F2.vwk hc) (.cons (by rw [hq]; exact .refl _) .nil))) (.cons (.refl _) (.cons (.refl _) .nil)))
/-- .. of a new node -/
theorem edited_make {d : HDoc} (V : DV d) (sm : DocSm d) {e : HEdit} (he : EditSm e) (h0 : errR d e = 0) (c4 : e.do' = 4) {h h2 : Heap} {b : AVal} {E : Env} {r4 r8 : Nat}
    (S : Sub h h2) (F : Fresh h h2 40 6 (d.nodes.map eNode) b) (h4 : h r4 = none) (h8 : h r8 = none) (g4 : h2 r4 = some ⟨.t 24, 2, [[.emp, .bool false]]⟩) (g8 : h2 r8 = some ⟨.t 24, 2, [[b, .bool d.quirks]]⟩) (n4 : rootOf b ≠ some r4) (n8 : rootOf b ≠ some r8) (n48 : r4 ≠ r8)
    (e3 : E 3 = .pin (eEdit e)) (e4 : E 4 = .vp r4 0) (e8 : E 8 = .vp r8 0) :
    vc (Pg G) c26_s5 (retK [.cell 4 2 true, .tmp 5, .tmp 6] (EdK d e h)) E h2 := by
  have hl := F.own.len
  have vl := V.len
  have sa := he.node.attrs
  unfold c26_s5
  skip
  have hl1 := hl.1
  have hl2 := hl.2
  rw [List.length_map] at hl1
  simp -dsimp -implicitDefEqProofs (disch := omega) only [VCA, Nat.reduceAdd, Nat.reduceLeDiff, ↓reduceIte, e3, eEdit, c4]
  refine Br.eq (fun _ => ?_) (fun h1 => absurd rfl h1)
  simp -dsimp -implicitDefEqProofs (disch := omega) only [VCA, Nat.reduceEqDiff, Nat.reduceBEq, Nat.reduceAdd, Nat.reduceLT, Nat.reduceLeDiff, ↓reduceIte, rsOf, rootsOf, SOp.rd, SI.rd, SX.rd, okParts, fillA, okFill, forall_eq, exists_eq_left, exists_eq_left', rootL, e3, e8, g8, eEdit, c4, hl1, hl2]
  refine ⟨by omega, by omega, ?_⟩
  refine F.own.app F.live (by rw [List.length_map, List.length_singleton]; omega) (by rw [List.length_map, List.length_singleton]; omega) fun r' h3 q1 q2 q3 => ?_
  have k8 := q3 _ _ g8 n8
  have k4 := q3 _ _ g4 n4
  simp -dsimp -implicitDefEqProofs (disch := omega) only [VCA, Nat.reduceEqDiff, Nat.reduceBEq, Nat.reduceAdd, Nat.reduceLT, Nat.reduceLeDiff, ↓reduceIte, rsOf, rootsOf, SOp.rd, SI.rd, SX.rd, setAt, exists_eq_left', rootL, e8, k8]
  have hr' : h r' = none := by
    rcases q2 with e | e
    · exact F.new _ e
    · exact S.none e
  have m4 : r' ≠ r4 := fun e => by
    rcases q2 with e' | e'
    · exact n4 (by rw [e', e])
    · rw [e, g4] at e'; cases e'
  have m8 : r' ≠ r8 := fun e => by
    rcases q2 with e' | e'
    · exact n8 (by rw [e', e])
    · rw [e, g8] at e'; cases e'
  have eD : editD d e = addN d (madeM e.node) := by unfold editD; rw [if_neg (by omega), if_neg (by omega), if_neg (by omega), if_pos c4]
  have eN : editN d e = d.nodes.length := by unfold editN; rw [if_pos c4]
  refine edited_end V sm he h0 (cells := d.nodes.map eNode ++ [[.int .i64 e.node.kind, .str e.node.name, .slc (e.node.attrs.map eAttr), .str e.node.text, .int .i64 (-1), .emp]]) (b := .osl r' 6 0 (d.nodes.length + 1)) (r4 := r4) (r8 := r8) (Sub.upd (fun t o ht => ?_) h8) ⟨.inr ⟨r', hr', (upd_ne _ _ m8).trans q1, ?_⟩⟩ ?_ h4 (by rw [upd_ne _ _ n48]; exact k4) (upd_same _ _ _) (fun e => m4 (by cases e; rfl)) e4 e8 ?_
  · refine q3 t o (S _ _ ht) (fun e => ?_)
    rw [F.new t e] at ht; cases ht
  · rw [List.length_append, List.length_map]; rfl
  · rw [eD]
    show F2 (F2 Vz) _ ((d.nodes ++ [madeM e.node]).map eNode)
    rw [List.map_append]
    exact F2.app (wks_refl _) (.cons (.cons (.refl _) (.cons (.refl _) (.cons (.refl _) (.cons (.refl _) (.cons (.refl _) (.cons .emp .nil)))))) .nil)
  · rw [eN]; rfl
end Go.Proofs.K
end
section
/- Edits: the reference's Edited: what is done to a node. -/
set_option linter.unusedSimpArgs false
set_option linter.unusedVariables false
namespace Go.Proofs.K
open Go Go.Sim Go.Proofs
variable {G : Glob}
theorem wks_eq {l m : List (List AVal)} (h : l = m) : F2 (F2 Vz) l m := h ▸ wks_refl l
theorem errR_at {d : HDoc} {e : HEdit} (h0 : errR d e = 0) (h4 : e.do' ≠ 4) : 1 ≤ e.do' ∧ e.do' ≤ 6 ∧ inD d e.at' ∧ (e.do' = 5 → inD d e.to) := by
  have h16 : 1 ≤ e.do' ∧ e.do' ≤ 6 := by
    apply Classical.byContradiction; intro h
    unfold errR at h0; rw [if_pos h] at h0; omega
  refine ⟨h16.1, h16.2, ?_, fun h5 => ?_⟩
  · apply Classical.byContradiction; intro h
    rw [errR_in h16.1 h16.2 h4 (.inl h)] at h0; omega
  · apply Classical.byContradiction; intro h
    rw [errR_in h16.1 h16.2 h4 (.inr ⟨h5, h⟩)] at h0; omega
/-- what becomes of an attribute -/
def stepA (e : HEdit) (a : HAttr) : List HAttr := if a.name ≠ e.name ∨ e.do' ≠ 2 then [if a.name = e.name ∧ e.do' = 1 then ⟨a.name, e.value⟩ else a] else []
def setA (e : HEdit) (l : List HAttr) : Bool := decide (e.do' = 1) && l.any fun a => a.name == e.name
theorem stepA_len (e : HEdit) (l : List HAttr) : (l.flatMap (stepA e)).length ≤ l.length := by
  induction l with
  | nil => simp
  | cons a l ih =>
    rw [List.flatMap_cons, List.length_append, List.length_cons]
    have : (stepA e a).length ≤ 1 := by unfold stepA; split <;> simp
    omega
theorem errR_5z {d : HDoc} {e : HEdit} (h : e.do' = 5) (ha : inD d e.at') (ht : inD d e.to) (h0 : errR d e = 0) : e.to ∉ chain d e.at' ∧ ¬ (e.before ≠ -1 ∧ idxM (· == e.before) (nd d e.at').kids < 0) := by
  rw [errR_5 h ha ht] at h0
  split at h0
  · omega
  split at h0
  · omega
  split at h0
  · omega
  rename_i h3
  split at h0
  · omega
  rename_i h4
  exact ⟨by simpa using h4, h3⟩
theorem edited_else {d : HDoc} (V : DV d) (sm : DocSm d) {e : HEdit} (he : EditSm e) (h0 : errR d e = 0) (c4 : e.do' ≠ 4) {h h2 : Heap} {b : AVal} {E : Env} {r4 r8 : Nat}
    (S : Sub h h2) (F : Fresh h h2 40 6 (d.nodes.map eNode) b) (h4 : h r4 = none) (h8 : h r8 = none) (g4 : h2 r4 = some ⟨.t 24, 2, [[.emp, .bool false]]⟩) (g8 : h2 r8 = some ⟨.t 24, 2, [[b, .bool d.quirks]]⟩) (n4 : rootOf b ≠ some r4) (n8 : rootOf b ≠ some r8) (n48 : r4 ≠ r8)
    (e3 : E 3 = .pin (eEdit e)) (e4 : E 4 = .vp r4 0) (e8 : E 8 = .vp r8 0) (e9 : E 9 = aInt 0) :
    vc (Pg G) c26_s5 (retK [.cell 4 2 true, .tmp 5, .tmp 6] (EdK d e h)) E h2 := by
  have vl := V.len
  obtain ⟨d1, d6, ha, hto⟩ := errR_at h0 c4
  have a0 := ha.1
  have a1 := ha.2
  have ea : nth d.nodes e.at'.toNat = nd d e.at' := rfl
  obtain ⟨rN, hN0, gN, rfl⟩ := F.acc.pos (by rw [List.length_map]; exact V.pos)
  rw [List.length_map] at *
  have nN4 : rN ≠ r4 := fun e => n4 (by rw [e]; rfl)
  have nN8 : rN ≠ r8 := fun e => n8 (by rw [e]; rfl)
  unfold c26_s5
  skip
  simp -dsimp -implicitDefEqProofs (disch := omega) only [VCA, Nat.reduceAdd, Nat.reduceLeDiff, ↓reduceIte, e3, eEdit]
  refine Br.eq (fun h1 => absurd h1 c4) (fun _ => ?_)
  simp -dsimp -implicitDefEqProofs (disch := omega) only [VCA, Nat.reduceEqDiff, Nat.reduceAdd, Nat.reduceLT, Nat.reduceLeDiff, ↓reduceIte, setAt, exists_eq_left', e3, e8, g8, gN, eEdit, eNode, ea]
  refine ⟨by omega, by omega, fun r10 hr10 => ?_⟩
  have n10 : ∀ t o, h2 t = some o → ¬ t = r10 := fun t o ht e => by rw [e, hr10] at ht; cases ht
  have n410 := n10 _ _ g4
  have n810 := n10 _ _ g8
  have nN10 := n10 _ _ gN
  have al := ((attrsE_iff _).1 ((nodeE_iff _).1 (V.node _ ha)).2.2.2.1).1
  have anod := ((attrsE_iff _).1 ((nodeE_iff _).1 (V.node _ ha)).2.2.2.1).2.2
  have Sb : Sub h2 (upd h2 r10 (some ⟨.t 40, 6, [eNode (nd d e.at')]⟩)) := (Sub.refl h2).upd hr10
  have gb := upd_same h2 r10 (some ⟨.t 40, 6, [eNode (nd d e.at')]⟩)
  show LoopVC _ _ _ (upd h2 r10 (some ⟨.t 40, 6, [eNode (nd d e.at')]⟩))
  generalize upd h2 r10 (some ⟨.t 40, 6, [eNode (nd d e.at')]⟩) = hb at *
  refine LoopVC.intro (fun m E h' => ∃ k : Nat, k ≤ (nd d e.at').attrs.length ∧ m = (nd d e.at').attrs.length - k ∧ E 3 = .pin (eEdit e) ∧ E 4 = .vp r4 0 ∧ E 8 = .vp r8 0 ∧ E 9 = aInt 0 ∧ E 10 = .vp r10 0 ∧ E 12 = .bool (setA e ((nd d e.at').attrs.take k)) ∧ E 13 = aInt k ∧
    Acc hb 96 2 ((((nd d e.at').attrs.take k).flatMap (stepA e)).map eAttr) (E 11) h' ∧ Sub hb h') (nd d e.at').attrs.length
    ⟨0, by omega, by omega, e3, e4, e8, e9, rfl, by (show AVal.bool false = _); simp [setA], rfl, .inl ⟨rfl, rfl⟩, Sub.refl _⟩ ?_
  clear e3 e4 e8 e9
  rintro m E h' ⟨k, hk, rfl, e3, e4, e8, e9, e10, e12, e13, A, S'⟩
  have g10 := S' _ _ gb
  unfold eNode at g10
  simp -dsimp -implicitDefEqProofs (disch := omega) only [VCA, Nat.reduceEqDiff, Nat.reduceAdd, Nat.reduceLT, Nat.reduceLeDiff, ↓reduceIte, exists_eq_left', e10, e13, g10, eEdit]
  refine Br.dec (fun hlt => ?_) (fun hge => ?_)
  · have hk' : k < (nd d e.at').attrs.length := by omega
    have tk : ((nd d e.at').attrs.take (k + 1)).flatMap (stepA e) = ((nd d e.at').attrs.take k).flatMap (stepA e) ++ stepA e (nth (nd d e.at').attrs k) := by rw [take_snoc hk', List.flatMap_append]; simp
    have ts : setA e ((nd d e.at').attrs.take (k + 1)) = (setA e ((nd d e.at').attrs.take k) || (decide (e.do' = 1) && ((nth (nd d e.at').attrs k).name == e.name))) := by unfold setA; rw [take_snoc hk', List.any_append]; cases decide (e.do' = 1) <;> simp
    have tl := stepA_len e ((nd d e.at').attrs.take k)
    rw [List.length_take] at tl
    have tm : ((((nd d e.at').attrs.take k).flatMap (stepA e)).map eAttr).length ≤ 12 := by rw [List.length_map]; omega
    obtain ⟨x, hx⟩ : ∃ x, nth (nd d e.at').attrs k = x := ⟨_, rfl⟩
    rw [hx] at tk ts
    have A14 : ∀ r y, h' r = none → Acc hb 96 2 ((((nd d e.at').attrs.take k).flatMap (stepA e)).map eAttr) (E 11) (upd h' r (some y)) := fun r y hr => by
      rcases A with q | ⟨r', q0, q1, q2⟩
      · exact .inl q
      · exact .inr ⟨r', q0, by rw [upd_ne _ _ (fun e => by rw [e, hr] at q1; cases q1)]; exact q1, q2⟩
    obtain ⟨sx, tk0⟩ : ∃ sx, stepA e x = sx := ⟨_, rfl⟩
    rw [tk0] at tk
    have nx : (x.name == e.name) = true ↔ x.name = e.name := by simp
    cases bn : (x.name == e.name)
    · by_cases c1 : e.do' = 1
      · have b1 : (e.do' == 1) = true := by simp; omega
        have b2 : (e.do' == 2) = false := by simp; omega
        have b2' : (e.do' != 2) = true := by simp; omega
        have bn' : (x.name != e.name) = true := by simp [bne, bn]
        simp -dsimp -implicitDefEqProofs (disch := omega) only [VCA, Nat.reduceEqDiff, Nat.reduceAdd, Nat.reduceLT, Nat.reduceLeDiff, ↓reduceIte, okParts, setAt, forall_eq, exists_eq_left, exists_eq_left', e3, e10, e13, g10, eEdit, eAttr, hx, bn, bn']
        refine ⟨by omega, fun r14 hr14 => ?_⟩
        refine (A14 _ _ hr14).app (S'.upd (S'.none hr14)) (by rw [List.length_singleton]; omega) (by rw [List.length_singleton]; omega) (fun a' h3 A' S3 => ?_)
        rw [show stepA e x = [x] from by unfold stepA; rw [if_pos (.inl (fun h => by rw [nx.2 h] at bn; cases bn)), if_neg (fun h => by rw [nx.2 h.1] at bn; cases bn)]] at tk0
        simp -dsimp -implicitDefEqProofs (disch := omega) only [VCA, Nat.reduceEqDiff, ↓reduceIte, e3, e4, e8, e9, e10, e12, e13, eEdit]
        refine ⟨_, by omega, k + 1, by omega, rfl, by rw [ts, bn]; simp, by omega, ?_, S3⟩
        rw [tk, ← tk0, List.map_append]
        exact A'
      · by_cases c2 : e.do' = 2
        · have b1 : (e.do' == 1) = false := by simp; omega
          have b2 : (e.do' == 2) = true := by simp; omega
          have b2' : (e.do' != 2) = false := by simp; omega
          have bn' : (x.name != e.name) = true := by simp [bne, bn]
          simp -dsimp -implicitDefEqProofs (disch := omega) only [VCA, Nat.reduceEqDiff, Nat.reduceAdd, Nat.reduceLT, Nat.reduceLeDiff, ↓reduceIte, okParts, setAt, forall_eq, exists_eq_left, exists_eq_left', e3, e10, e13, g10, eEdit, eAttr, hx, bn, bn']
          refine ⟨by omega, fun r14 hr14 => ?_⟩
          refine (A14 _ _ hr14).app (S'.upd (S'.none hr14)) (by rw [List.length_singleton]; omega) (by rw [List.length_singleton]; omega) (fun a' h3 A' S3 => ?_)
          rw [show stepA e x = [x] from by unfold stepA; rw [if_pos (.inl (fun h => by rw [nx.2 h] at bn; cases bn)), if_neg (fun h => by rw [nx.2 h.1] at bn; cases bn)]] at tk0
          simp -dsimp -implicitDefEqProofs (disch := omega) only [VCA, Nat.reduceEqDiff, ↓reduceIte, e3, e4, e8, e9, e10, e12, e13, eEdit]
          refine ⟨_, by omega, k + 1, by omega, rfl, by rw [ts, bn]; simp, by omega, ?_, S3⟩
          rw [tk, ← tk0, List.map_append]
          exact A'
        · have b1 : (e.do' == 1) = false := by simp; omega
          have b2 : (e.do' == 2) = false := by simp; omega
          have b2' : (e.do' != 2) = true := by simp; omega
          have bn' : (x.name != e.name) = true := by simp [bne, bn]
          simp -dsimp -implicitDefEqProofs (disch := omega) only [VCA, Nat.reduceEqDiff, Nat.reduceAdd, Nat.reduceLT, Nat.reduceLeDiff, ↓reduceIte, okParts, setAt, forall_eq, exists_eq_left, exists_eq_left', e3, e10, e13, g10, eEdit, eAttr, hx, bn, bn']
          refine ⟨by omega, fun r14 hr14 => ?_⟩
          refine (A14 _ _ hr14).app (S'.upd (S'.none hr14)) (by rw [List.length_singleton]; omega) (by rw [List.length_singleton]; omega) (fun a' h3 A' S3 => ?_)
          rw [show stepA e x = [x] from by unfold stepA; rw [if_pos (.inr c2), if_neg (fun h => c1 h.2)]] at tk0
          simp -dsimp -implicitDefEqProofs (disch := omega) only [VCA, Nat.reduceEqDiff, ↓reduceIte, e3, e4, e8, e9, e10, e12, e13, eEdit]
          refine ⟨_, by omega, k + 1, by omega, rfl, by rw [ts, bn]; simp, by omega, ?_, S3⟩
          rw [tk, ← tk0, List.map_append]
          exact A'
    · by_cases c1 : e.do' = 1
      · have b1 : (e.do' == 1) = true := by simp; omega
        have b2 : (e.do' == 2) = false := by simp; omega
        have b2' : (e.do' != 2) = true := by simp; omega
        have bn' : (x.name != e.name) = false := by simp [bne, bn]
        simp -dsimp -implicitDefEqProofs (disch := omega) only [VCA, Nat.reduceEqDiff, Nat.reduceAdd, Nat.reduceLT, Nat.reduceLeDiff, ↓reduceIte, okParts, setAt, forall_eq, exists_eq_left, exists_eq_left', e3, e10, e13, g10, eEdit, eAttr, hx, bn, bn', b1, b2']
        refine ⟨by omega, fun r14 hr14 => ?_⟩
        refine (A14 _ _ hr14).app (S'.upd (S'.none hr14)) (by rw [List.length_singleton]; omega) (by rw [List.length_singleton]; omega) (fun a' h3 A' S3 => ?_)
        rw [show stepA e x = [⟨x.name, e.value⟩] from by unfold stepA; rw [if_pos (.inr (by omega)), if_pos ⟨nx.1 bn, c1⟩]] at tk0
        simp -dsimp -implicitDefEqProofs (disch := omega) only [VCA, Nat.reduceEqDiff, ↓reduceIte, e3, e4, e8, e9, e10, e13, eEdit]
        refine ⟨_, by omega, k + 1, by omega, rfl, by rw [ts, bn]; simp [c1], by omega, ?_, S3⟩
        rw [tk, ← tk0, List.map_append]
        exact A'
      · by_cases c2 : e.do' = 2
        · have b1 : (e.do' == 1) = false := by simp; omega
          have b2 : (e.do' == 2) = true := by simp; omega
          have b2' : (e.do' != 2) = false := by simp; omega
          have bn' : (x.name != e.name) = false := by simp [bne, bn]
          rw [show stepA e x = [] from by unfold stepA; rw [if_neg (fun h => h.elim (fun h => h (nx.1 bn)) (fun h => h c2))]] at tk0
          simp -dsimp -implicitDefEqProofs (disch := omega) only [VCA, Nat.reduceEqDiff, Nat.reduceAdd, Nat.reduceLT, Nat.reduceLeDiff, ↓reduceIte, setAt, exists_eq_left', e3, e4, e8, e9, e10, e12, e13, g10, eEdit, eAttr, hx, bn, bn', b1, b2']
          refine ⟨by omega, fun r14 hr14 => ?_⟩
          refine ⟨_, by omega, k + 1, by omega, rfl, by rw [ts]; simp [c1], by omega, ?_, S'.upd (S'.none hr14)⟩
          rw [tk, ← tk0, List.append_nil]
          exact A14 _ _ hr14
        · have b1 : (e.do' == 1) = false := by simp; omega
          have b2 : (e.do' == 2) = false := by simp; omega
          have b2' : (e.do' != 2) = true := by simp; omega
          have bn' : (x.name != e.name) = false := by simp [bne, bn]
          simp -dsimp -implicitDefEqProofs (disch := omega) only [VCA, Nat.reduceEqDiff, Nat.reduceAdd, Nat.reduceLT, Nat.reduceLeDiff, ↓reduceIte, okParts, setAt, forall_eq, exists_eq_left, exists_eq_left', e3, e10, e13, g10, eEdit, eAttr, hx, bn, bn', b1, b2']
          refine ⟨by omega, fun r14 hr14 => ?_⟩
          refine (A14 _ _ hr14).app (S'.upd (S'.none hr14)) (by rw [List.length_singleton]; omega) (by rw [List.length_singleton]; omega) (fun a' h3 A' S3 => ?_)
          rw [show stepA e x = [x] from by unfold stepA; rw [if_pos (.inr c2), if_neg (fun h => c1 h.2)]] at tk0
          simp -dsimp -implicitDefEqProofs (disch := omega) only [VCA, Nat.reduceEqDiff, ↓reduceIte, e3, e4, e8, e9, e10, e12, e13, eEdit]
          refine ⟨_, by omega, k + 1, by omega, rfl, by rw [ts]; simp [c1], by omega, ?_, S3⟩
          rw [tk, ← tk0, List.map_append]
          exact A'
  · obtain rfl : k = (nd d e.at').attrs.length := by omega
    rw [List.take_length] at A e12
    have eN0 : editN d e = 0 := by unfold editN; rw [if_neg c4]
    have qq : ∀ x' : HNode, eNode x' = [aInt x'.kind, .str x'.name, sl eAttr x'.attrs, .str x'.text, aInt x'.parent, sl eInt x'.kids] := fun _ => rfl
    have gbN := Sb _ _ gN
    have gb4 := Sb _ _ g4
    have gb8 := Sb _ _ g8
    have fin : ∀ (h5 : Heap) (E5 : Env) (cells' : List (List AVal)), h5 rN = some ⟨.t 40, 6, cells'⟩ → cells'.length = d.nodes.length → (∀ t o, hb t = some o → t ≠ rN → t ≠ r10 → h5 t = some o) → F2 (F2 Vz) cells' ((editD d e).nodes.map eNode) → E5 4 = .vp r4 0 → E5 8 = .vp r8 0 → E5 9 = aInt 0 →
        vc (Pg G) c26_s6 (retK [.cell 4 2 true, .tmp 5, .tmp 6] (EdK d e h)) E5 h5 := fun h5 E5 cells' q1 q2 q3 q4 q5 q6 q7 => by
      refine edited_end V sm he h0 (cells := cells') (b := .osl rN 6 0 d.nodes.length) (r4 := r4) (r8 := r8) (fun t o ht => ?_) ⟨.inr ⟨rN, hN0, q1, by rw [q2]⟩⟩ q4 h4 (q3 _ _ gb4 (fun e => nN4 e.symm) n410) (q3 _ _ gb8 (fun e => nN8 e.symm) n810) (fun e => nN4 (by cases e; rfl)) q5 q6 (by rw [eN0]; exact q7)
      exact q3 t o (Sb _ _ (S _ _ ht)) (fun e => by rw [e, hN0] at ht; cases ht) (n10 _ _ (S _ _ ht))
    have hN' := S' _ _ gbN
    have h4' := S' _ _ gb4
    have h8' := S' _ _ gb8
    have lenN : (d.nodes.map eNode).length = d.nodes.length := by rw [List.length_map]
    have b4 : (e.do' == 4) = false := by simp [c4]
    have m810 : ¬ r10 = r8 := fun h => n810 (Eq.symm h)
    have m410 : ¬ r10 = r4 := fun h => n410 (Eq.symm h)
    have mN10 : ¬ r10 = rN := fun h => nN10 (Eq.symm h)
    have nN8' : ¬ rN = r8 := nN8
    have nN4' : ¬ rN = r4 := nN4
    have mN8 : ¬ r8 = rN := fun h => nN8 h.symm
    have mN4 : ¬ r4 = rN := fun h => nN4 h.symm
    have gat : (d.nodes.map eNode).getD e.at'.toNat [] = [aInt (nd d e.at').kind, .str (nd d e.at').name, sl eAttr (nd d e.at').attrs, .str (nd d e.at').text, aInt (nd d e.at').parent, sl eInt (nd d e.at').kids] := getD_map_enc (by omega)
    by_cases c3 : e.do' = 3
    · have b1 : (e.do' == 1) = false := by simp; omega
      have b2 : (e.do' == 2) = false := by simp; omega
      have b3 : (e.do' == 3) = true := by simp; omega
      have b5 : (e.do' == 5) = false := by simp; omega
      have b6 : (e.do' == 6) = false := by simp; omega
      simp -dsimp -implicitDefEqProofs (disch := omega) only [VCA, Nat.reduceEqDiff, Nat.reduceAdd, Nat.reduceLT, Nat.reduceLeDiff, ↓reduceIte, setAt, exists_eq_left', e3, e8, e10, g10, hN', h8', eEdit, b1, b2, b3, b5, b6, lenN, gat, n810, nN10]
      have eD : editD d e = setN d e.at' { nd d e.at' with text := e.value } := by unfold editD; rw [if_neg (by omega), if_neg (by omega), if_pos c3]
      refine ⟨by omega, by omega, fin _ _ _ (upd_same _ _ _) (by rw [List.length_set]; exact lenN) (fun t o ht h1 h2 => by rw [upd_ne _ _ h1, upd_ne _ _ h2]; exact S' _ _ ht) ?_ e4 e8 e9⟩
      rw [eD]
      show F2 (F2 Vz) _ ((d.nodes.set _ _).map eNode)
      rw [List.map_set]
      exact wks_refl _
    by_cases c6 : e.do' = 6
    · have b1 : (e.do' == 1) = false := by simp; omega
      have b2 : (e.do' == 2) = false := by simp; omega
      have b3 : (e.do' == 3) = false := by simp; omega
      have b5 : (e.do' == 5) = false := by simp; omega
      have b6 : (e.do' == 6) = true := by simp; omega
      have hE := h0
      rw [errR_6 c6 ha] at hE
      have hz : ¬ e.at' = 0 := fun h => by rw [if_pos h] at hE; omega
      rw [if_neg hz] at hE
      have hp : 0 ≤ (nd d e.at').parent := by
        apply Classical.byContradiction; intro h
        rw [if_pos (by omega)] at hE; omega
      have pin := (V.par_in ha hp).1
      have p1 := pin.2
      have gp : (d.nodes.map eNode).getD (nd d e.at').parent.toNat [] = [aInt (nd d (nd d e.at').parent).kind, .str (nd d (nd d e.at').parent).name, sl eAttr (nd d (nd d e.at').parent).attrs, .str (nd d (nd d e.at').parent).text, aInt (nd d (nd d e.at').parent).parent, sl eInt (nd d (nd d e.at').parent).kids] := getD_map_enc (by omega)
      have hi := idx_at (V.par_in ha hp).2
      have hk0 := (idx_mem (nd d (nd d e.at').parent).kids e.at').2 (V.par_in ha hp).2
      have hPl := placeIn_ok (G := G) (nd d (nd d e.at').parent).kids e.at' (sm.nd _).kids
      have eD : editD d e = cutN d e.at' (idxM (· == e.at') (nd d (nd d e.at').parent).kids).toNat := by unfold editD; rw [if_neg (by omega), if_neg (by omega), if_neg (by omega), if_neg (by omega), if_neg (by omega)]
      obtain ⟨i, hii⟩ : ∃ i : Nat, idxM (· == e.at') (nd d (nd d e.at').parent).kids = i := ⟨(idxM (· == e.at') (nd d (nd d e.at').parent).kids).toNat, by omega⟩
      rw [hii] at hPl eD hi
      rw [Int.toNat_natCast] at eD hi
      have hne : (nd d e.at').parent.toNat ≠ e.at'.toNat := fun h => by
        have := V.up_par ha hp
        have e2 : (nd d e.at').parent = e.at' := by omega
        rw [e2] at this; omega
      have gs : ∀ row : List AVal, ((d.nodes.map eNode).set (nd d e.at').parent.toNat row).getD e.at'.toNat [] = [aInt (nd d e.at').kind, .str (nd d e.at').name, sl eAttr (nd d e.at').attrs, .str (nd d e.at').text, aInt (nd d e.at').parent, sl eInt (nd d e.at').kids] := fun row => by
        rw [List.getD_eq_getElem?_getD, List.getElem?_set_ne hne, ← List.getD_eq_getElem?_getD]; exact gat
      have hW := without_ok (G := G) (nd d (nd d e.at').parent).kids i hi.1 (sm.nd _).kids
      simp -dsimp -implicitDefEqProofs (disch := omega) only [VCA, Nat.reduceEqDiff, Nat.reduceAdd, Nat.reduceLT, Nat.reduceLeDiff, ↓reduceIte, rsOf, rootsOf, exists_eq_left', rootL, e3, e8, e10, g10, hN', h8', eEdit, b1, b2, b3, b5, b6, lenN, gp]
      repeat' (first | ((with_reducible refine Br.dec (fun _ => ?_) (fun _ => ?_)) <;> try (exfalso; omega)) | ((with_reducible refine Br.eq (fun _ => ?_) (fun _ => ?_)) <;> try (exfalso; omega)) | ((with_reducible refine Br.ne (fun _ => ?_) (fun _ => ?_)) <;> try (exfalso; omega)) | ((with_reducible refine brNdec (fun _ => ?_) (fun _ => ?_)) <;> try (exfalso; omega)) | ((with_reducible refine brNeq (fun _ => ?_) (fun _ => ?_)) <;> try (exfalso; omega)) | with_reducible refine Br.intro (fun _ => ?_) (fun _ => ?_) | (with_reducible apply pcallE.of; · exact hPl) | (with_reducible apply pcallE.of; · exact hW) | (with_reducible refine And.intro ?_ ?_; · omega) | simp -dsimp -implicitDefEqProofs (disch := omega) only [VCA, Nat.reduceEqDiff, Nat.reduceBEq, Nat.reduceAdd, Nat.reduceLT, Nat.reduceLeDiff, ↓reduceIte, rsOf, rootsOf, SOp.rd, SI.rd, SX.rd, setAt, implies_true, exists_eq_left', rootL, e3, e8, e10, g10, hN', h8', eEdit, lenN, gp, gs, List.length_set, n810, nN10, mN10, mN8])
      refine fin _ _ _ (upd_same _ _ _) (by rw [List.length_set, List.length_set]; exact lenN) (fun t o ht h1 h2 => by rw [upd_ne _ _ h1, upd_ne _ _ h2, upd_ne _ _ h1]; exact S' _ _ ht) ?_ e4 e8 e9
      rw [eD]
      show F2 (F2 Vz) _ (((d.nodes.set _ _).set _ _).map eNode)
      rw [List.map_set, List.map_set]
      exact wks_refl _
    by_cases c5 : e.do' = 5
    · have b1 : (e.do' == 1) = false := by simp; omega
      have b2 : (e.do' == 2) = false := by simp; omega
      have b3 : (e.do' == 3) = false := by simp; omega
      have b5 : (e.do' == 5) = true := by simp; omega
      have b6 : (e.do' == 6) = false := by simp; omega
      have ht := hto c5
      have t0 := ht.1
      have t1 := ht.2
      obtain ⟨hc, hbe⟩ := errR_5z c5 ha ht h0
      have gt : (d.nodes.map eNode).getD e.to.toNat [] = [aInt (nd d e.to).kind, .str (nd d e.to).name, sl eAttr (nd d e.to).attrs, .str (nd d e.to).text, aInt (nd d e.to).parent, sl eInt (nd d e.to).kids] := getD_map_enc (by omega)
      have hne : e.to.toNat ≠ e.at'.toNat := fun h => hc (by rw [show e.to = e.at' by omega]; exact chain_self d _)
      have gs : ∀ row : List AVal, ((d.nodes.map eNode).set e.to.toNat row).getD e.at'.toNat [] = [aInt (nd d e.at').kind, .str (nd d e.at').name, sl eAttr (nd d e.at').attrs, .str (nd d e.at').text, aInt (nd d e.at').parent, sl eInt (nd d e.at').kids] := fun row => by
        rw [List.getD_eq_getElem?_getD, List.getElem?_set_ne hne, ← List.getD_eq_getElem?_getD]; exact gat
      have eD : editD d e = hung d e.at' e.to (insAt d e) := by unfold editD; rw [if_neg (by omega), if_neg (by omega), if_neg (by omega), if_neg (by omega), if_pos c5]
      have hPl := placeIn_ok (G := G) (nd d e.at').kids e.before (sm.nd _).kids
      have kl := nodup_len d.nodes.length (nd d e.at').kids (V.nodup _ ha) (fun k hk => (V.kid _ ha k hk).1)
      cases bb : (e.before != -1)
      · simp -dsimp -implicitDefEqProofs (disch := omega) only [VCA, Nat.reduceEqDiff, Nat.reduceBEq, Nat.reduceAdd, Nat.reduceLT, Nat.reduceLeDiff, ↓reduceIte, rsOf, rootsOf, SOp.rd, SI.rd, SX.rd, okParts, setAt, forall_const, forall_eq, exists_eq_left, exists_eq_left', rootL, e3, e8, e10, g10, eEdit, b1, b2, b3, b5, bb, n810]
        refine ⟨by omega, by omega, by omega, by omega, fun r hr => ?_⟩
        have nr : ¬ r10 = r := fun e => by rw [← e, g10] at hr; cases hr
        have dd := fun x => del_upd (h := h') (r := r) (o := x) hr
        simp -dsimp -implicitDefEqProofs (disch := omega) only [VCA, Nat.reduceLeDiff, ↓reduceIte, g10, nr, dd, List.drop_length, List.length_append]
        refine ⟨by omega, by omega, fun r' hr' => ?_⟩
        have nr' : ¬ r10 = r' := fun e => by rw [← e, g10] at hr'; cases hr'
        have dd' := fun x => del_upd (h := h') (r := r') (o := x) hr'
        simp -dsimp -implicitDefEqProofs (disch := omega) only [VCA, Nat.reduceEqDiff, Nat.reduceAdd, Nat.reduceLT, Nat.reduceLeDiff, ↓reduceIte, setAt, exists_eq_left', e3, e8, e10, g10, hN', h8', eEdit, b6, lenN, gt, gs, List.length_set, n810, nN10, mN10, mN8, nr', dd, dd', List.drop_length]
        have eI : insAt d e = (nd d e.at').kids.length := by unfold insAt; rw [if_pos (by simpa using bb)]
        refine ⟨by omega, by omega, by omega, by omega, by omega, by omega, fin _ _ _ (upd_same _ _ _) (by rw [List.length_set, List.length_set]; exact lenN) (fun t o ht h1 h2 => by rw [upd_ne _ _ h1, upd_ne _ _ h2]; exact S' _ _ ht) (wks_eq ?_) e4 e8 e9⟩
        rw [eD, eI]
        show _ = ((d.nodes.set _ _).set _ _).map eNode
        rw [List.map_set, List.map_set, List.set_comm _ _ hne.symm]
        refine congrArg (List.set _ _) ?_
        rw [qq]
        simp only [List.take_length, List.drop_length, sl, List.map_append, List.map_cons, List.map_nil]
        rw [List.take_of_length_le (i := (nd d e.at').kids.length + 1) (by simp)]
        rfl
      · have hi := idxM_leK (nd d e.at').kids e.before
        have bb' : e.before ≠ -1 := by simpa using bb
        obtain ⟨i, hii⟩ : ∃ i : Nat, idxM (· == e.before) (nd d e.at').kids = i := ⟨(idxM (· == e.before) (nd d e.at').kids).toNat, by omega⟩
        rw [hii] at hPl hi
        have lt : ((nd d e.at').kids.take i).length = i := by rw [List.length_take]; omega
        have ld : ((nd d e.at').kids.drop i).length = (nd d e.at').kids.length - i := List.length_drop
        simp -dsimp -implicitDefEqProofs (disch := omega) only [VCA, Nat.reduceEqDiff, Nat.reduceAdd, Nat.reduceLT, Nat.reduceLeDiff, ↓reduceIte, exists_eq_left', e3, e10, g10, eEdit, b1, b2, b3, b5, bb]
        refine pcallE.of (hPl) ?_; simp -dsimp -implicitDefEqProofs (disch := omega) only [VCA, Nat.reduceEqDiff, Nat.reduceBEq, Nat.reduceAdd, Nat.reduceLT, Nat.reduceLeDiff, ↓reduceIte, rsOf, rootsOf, SOp.rd, SI.rd, SX.rd, okParts, setAt, forall_const, forall_eq, exists_eq_left, exists_eq_left', rootL, e3, e8, e10, g10, eEdit, n810]
        simp -dsimp -implicitDefEqProofs (disch := omega) only [lt, ld]
        refine ⟨by omega, by omega, by omega, by omega, fun r hr => ?_⟩
        have nr : ¬ r10 = r := fun e => by rw [← e, g10] at hr; cases hr
        have dd := fun x => del_upd (h := h') (r := r) (o := x) hr
        simp -dsimp -implicitDefEqProofs (disch := omega) only [VCA, ↓reduceIte, g10, nr, dd, lt, List.length_append]
        refine ⟨by omega, by omega, fun r' hr' => ?_⟩
        have nr' : ¬ r10 = r' := fun e => by rw [← e, g10] at hr'; cases hr'
        have dd' := fun x => del_upd (h := h') (r := r') (o := x) hr'
        simp -dsimp -implicitDefEqProofs (disch := omega) only [VCA, Nat.reduceEqDiff, Nat.reduceAdd, Nat.reduceLT, Nat.reduceLeDiff, ↓reduceIte, setAt, exists_eq_left', e3, e8, e10, g10, hN', h8', eEdit, b6, lenN, gt, gs, List.length_set, n810, nN10, mN10, mN8, nr', dd, dd', lt]
        have eI : insAt d e = i := by unfold insAt; rw [if_neg bb', hii]; rfl
        refine ⟨by omega, by omega, by omega, by omega, by omega, by omega, fin _ _ _ (upd_same _ _ _) (by rw [List.length_set, List.length_set]; exact lenN) (fun t o ht h1 h2 => by rw [upd_ne _ _ h1, upd_ne _ _ h2]; exact S' _ _ ht) (wks_eq ?_) e4 e8 e9⟩
        rw [eD, eI]
        show _ = ((d.nodes.set _ _).set _ _).map eNode
        rw [List.map_set, List.map_set, List.set_comm _ _ hne.symm]
        refine congrArg (List.set _ _) ?_
        rw [qq]
        simp only [sl, List.map_append, List.map_cons]
        rw [List.take_of_length_le (i := i + 1) (by simp; omega), List.append_assoc]
        rfl
    have tS := stepA_len e (nd d e.at').attrs
    by_cases c2 : e.do' = 2
    · have b1 : (e.do' == 1) = false := by simp; omega
      have b2 : (e.do' == 2) = true := by simp; omega
      have b3 : (e.do' == 3) = false := by simp; omega
      have b5 : (e.do' == 5) = false := by simp; omega
      have b6 : (e.do' == 6) = false := by simp; omega
      have hat : 0 ≤ attrAt (nd d e.at').attrs e.name := by
        have hE := h0
        rw [errR_2 c2 ha] at hE
        split at hE
        · omega
        split at hE
        · omega
        · rename_i q; exact Classical.not_not.1 q
      have eL : (nd d e.at').attrs.flatMap (stepA e) = dropAttr (nd d e.at').attrs e.name := by
        rw [dropAttr_filter anod hat]
        generalize (nd d e.at').attrs = l
        induction l with
        | nil => rfl
        | cons a l ih =>
          rw [List.flatMap_cons, List.filter_cons, ih]
          unfold stepA
          by_cases q : a.name = e.name
          · rw [if_neg (by simp [q, c2])]; simp [q]
          · rw [if_pos (.inl q), if_neg (fun h => q h.1)]; simp [q]
      have eD : editD d e = setN d e.at' { nd d e.at' with attrs := dropAttr (nd d e.at').attrs e.name } := by unfold editD; rw [if_neg (by omega), if_pos c2]
      rw [eL] at A tS
      rcases A with ⟨q0, q1⟩ | ⟨rA, q0, q1, q2⟩
      · simp -dsimp -implicitDefEqProofs (disch := omega) only [VCA, Nat.reduceEqDiff, Nat.reduceAdd, Nat.reduceLT, Nat.reduceLeDiff, ↓reduceIte, setAt, exists_eq_left', e3, e8, e10, g10, hN', h8', eEdit, b1, b2, b3, b5, b6, lenN, gat, n810, nN10, q1]
        refine ⟨by omega, by omega, fin _ _ _ (upd_same _ _ _) (by rw [List.length_set]; exact lenN) (fun t o ht h1 h2 => by rw [upd_ne _ _ h1, upd_ne _ _ h2]; exact S' _ _ ht) (wks_eq ?_) e4 e8 e9⟩
        rw [eD]
        show _ = (d.nodes.set _ _).map eNode
        rw [List.map_set]
        refine congrArg (List.set _ _) ?_
        rw [qq]
        have : dropAttr (nd d e.at').attrs e.name = [] := by simpa using q0
        simp only [this]
        rfl
      · have SD := S'.del q0
        have dA10 := SD _ _ gb
        have dA8 := SD _ _ gb8
        have dAN := SD _ _ gbN
        unfold eNode at dA10
        simp -dsimp -implicitDefEqProofs (disch := omega) only [VCA, Nat.reduceEqDiff, Nat.reduceAdd, Nat.reduceLT, Nat.reduceLeDiff, ↓reduceIte, setAt, exists_eq_left', e3, e8, e10, eEdit, b1, b2, b3, b5, b6, lenN, gat, n810, nN10, q1, q2, dA10, dA8, dAN]
        refine ⟨by omega, by omega, fin _ _ _ (upd_same _ _ _) (by rw [List.length_set]; exact lenN) (fun t o ht h1 h2 => by rw [upd_ne _ _ h1, upd_ne _ _ h2]; exact SD _ _ ht) (wks_eq ?_) e4 e8 e9⟩
        rw [eD]
        show _ = (d.nodes.set _ _).map eNode
        rw [List.map_set]
        refine congrArg (List.set _ _) ?_
        rw [qq]
        rw [List.take_of_length_le (by rw [List.length_map]; exact Nat.le_refl _)]
        rfl
    have c1 : e.do' = 1 := by omega
    have b1 : (e.do' == 1) = true := by simp; omega
    have b2 : (e.do' == 2) = false := by simp; omega
    have b3 : (e.do' == 3) = false := by simp; omega
    have b5 : (e.do' == 5) = false := by simp; omega
    have b6 : (e.do' == 6) = false := by simp; omega
    have hsA : setA e (nd d e.at').attrs = decide (0 ≤ attrAt (nd d e.at').attrs e.name) := by
      unfold setA attrAt
      rw [idxM_any, c1]; simp
    have eL := setAttr_map (l := (nd d e.at').attrs) (name := e.name) (value := e.value) anod
    have eM : ((nd d e.at').attrs.map fun a => if a.name = e.name then (⟨a.name, e.value⟩ : HAttr) else a) = (nd d e.at').attrs.flatMap (stepA e) := by
      generalize (nd d e.at').attrs = l
      induction l with
      | nil => rfl
      | cons a l ih =>
        rw [List.flatMap_cons, List.map_cons, ih]
        unfold stepA
        by_cases q : a.name = e.name
        · rw [if_pos q, if_pos (.inr (by omega)), if_pos ⟨q, c1⟩]; rfl
        · rw [if_neg q, if_pos (.inl q), if_neg (fun h => q h.1)]; rfl
    rw [eM] at eL
    have eD : editD d e = setN d e.at' { nd d e.at' with attrs := setAttr (nd d e.at').attrs e.name e.value } := by unfold editD; rw [if_pos c1]
    by_cases hat : 0 ≤ attrAt (nd d e.at').attrs e.name
    · rw [if_pos hat, List.append_nil] at eL
      rw [hsA, decide_eq_true hat] at e12
      rw [← eL] at A tS
      clear eL
      rcases A with ⟨q0, q1⟩ | ⟨rA, q0, q1, q2⟩
      · simp -dsimp -implicitDefEqProofs (disch := omega) only [VCA, Nat.reduceEqDiff, Nat.reduceAdd, Nat.reduceLT, Nat.reduceLeDiff, ↓reduceIte, setAt, exists_eq_left', e3, e8, e10, e12, g10, hN', h8', eEdit, b1, b3, b5, b6, lenN, gat, n810, nN10, q1]
        refine ⟨by omega, by omega, fin _ _ _ (upd_same _ _ _) (by rw [List.length_set]; exact lenN) (fun t o ht h1 h2 => by rw [upd_ne _ _ h1, upd_ne _ _ h2]; exact S' _ _ ht) (wks_eq ?_) e4 e8 e9⟩
        rw [eD]
        show _ = (d.nodes.set _ _).map eNode
        rw [List.map_set]
        refine congrArg (List.set _ _) ?_
        rw [qq]
        have : setAttr (nd d e.at').attrs e.name e.value = [] := by simpa using q0
        simp only [this]
        rfl
      · have SD := S'.del q0
        have dA10 := SD _ _ gb
        have dA8 := SD _ _ gb8
        have dAN := SD _ _ gbN
        unfold eNode at dA10
        simp -dsimp -implicitDefEqProofs (disch := omega) only [VCA, Nat.reduceEqDiff, Nat.reduceAdd, Nat.reduceLT, Nat.reduceLeDiff, ↓reduceIte, setAt, exists_eq_left', e3, e8, e10, e12, eEdit, b1, b3, b5, b6, lenN, gat, n810, nN10, q1, q2, dA10, dA8, dAN]
        refine ⟨by omega, by omega, fin _ _ _ (upd_same _ _ _) (by rw [List.length_set]; exact lenN) (fun t o ht h1 h2 => by rw [upd_ne _ _ h1, upd_ne _ _ h2]; exact SD _ _ ht) (wks_eq ?_) e4 e8 e9⟩
        rw [eD]
        show _ = (d.nodes.set _ _).map eNode
        rw [List.map_set]
        refine congrArg (List.set _ _) ?_
        rw [qq]
        rw [List.take_of_length_le (by rw [List.length_map]; exact Nat.le_refl _)]
        rfl
    · rw [if_neg hat] at eL
      rw [hsA, decide_eq_false hat] at e12
      simp -dsimp -implicitDefEqProofs (disch := omega) only [VCA, Nat.reduceEqDiff, Nat.reduceAdd, Nat.reduceLeDiff, ↓reduceIte, okParts, fillA, okFill, forall_eq, exists_eq_left, e3, e12, eEdit, b1]
      have tL : (((nd d e.at').attrs.flatMap (stepA e)).map eAttr).length ≤ 12 := by rw [List.length_map]; omega
      refine A.app S' (by rw [List.length_singleton]; omega) (by rw [List.length_singleton]; omega) (fun a' h3 A' S3 => ?_)
      have eT : ((nd d e.at').attrs.flatMap (stepA e)).map eAttr ++ [[.str e.name, .str e.value]] = (setAttr (nd d e.at').attrs e.name e.value).map eAttr := by rw [eL, List.map_append]; rfl
      rw [eT] at A'
      clear eL eT A
      have hN3 := S3 _ _ gbN
      have h43 := S3 _ _ gb4
      have h83 := S3 _ _ gb8
      have k10 := S3 _ _ gb
      unfold eNode at k10
      rcases A' with ⟨q0, q1⟩ | ⟨rA, q0, q1, q2⟩
      · simp -dsimp -implicitDefEqProofs (disch := omega) only [VCA, Nat.reduceEqDiff, Nat.reduceAdd, Nat.reduceLT, Nat.reduceLeDiff, ↓reduceIte, setAt, exists_eq_left', e3, e8, e10, k10, hN3, h83, eEdit, b1, b3, b5, b6, lenN, gat, n810, nN10, q1]
        refine ⟨by omega, by omega, fin _ _ _ (upd_same _ _ _) (by rw [List.length_set]; exact lenN) (fun t o ht h1 h2 => by rw [upd_ne _ _ h1, upd_ne _ _ h2]; exact S3 _ _ ht) (wks_eq ?_) e4 e8 e9⟩
        rw [eD]
        show _ = (d.nodes.set _ _).map eNode
        rw [List.map_set]
        refine congrArg (List.set _ _) ?_
        rw [qq]
        have : setAttr (nd d e.at').attrs e.name e.value = [] := by simpa using q0
        simp only [this]
        rfl
      · have SD := S3.del q0
        have dA10 := SD _ _ gb
        have dA8 := SD _ _ gb8
        have dAN := SD _ _ gbN
        unfold eNode at dA10
        simp -dsimp -implicitDefEqProofs (disch := omega) only [VCA, Nat.reduceEqDiff, Nat.reduceAdd, Nat.reduceLT, Nat.reduceLeDiff, ↓reduceIte, setAt, exists_eq_left', e3, e8, e10, eEdit, b1, b3, b5, b6, lenN, gat, n810, nN10, q1, q2, dA10, dA8, dAN]
        refine ⟨by omega, by omega, fin _ _ _ (upd_same _ _ _) (by rw [List.length_set]; exact lenN) (fun t o ht h1 h2 => by rw [upd_ne _ _ h1, upd_ne _ _ h2]; exact SD _ _ ht) (wks_eq ?_) e4 e8 e9⟩
        rw [eD]
        show _ = (d.nodes.set _ _).map eNode
        rw [List.map_set]
        refine congrArg (List.set _ _) ?_
        rw [qq]
        rw [List.take_of_length_le (by rw [List.length_map]; exact Nat.le_refl _)]
        rfl
end Go.Proofs.K
end
section
/- Edits: the reference's Edited. -/
set_option linter.unusedSimpArgs false
set_option linter.unusedVariables false
namespace Go.Proofs.K
open Go Go.Sim Go.Proofs
variable {G : Glob}
theorem edited_ok (d : HDoc) (V : DV d) (sm : DocSm d) (e : HEdit) (he : EditSm e) : PCalls (Pg G) 26 [.agg (eDoc d), .agg (eEdit e)] (edR d e) := PCalls.outV fun h => by
  have hE := editErr_ok (G := G) d V sm e he
  unfold eEdit eDoc at hE
  have hCp := copyDoc_ok (G := G) d sm
  unfold eDoc at hCp
  show DCalls _ _ _ h (EdK d e h)
  refine dcalls_of_vc Tryz.func26 hn26 hc26 (by rw [Tryz.ntmps26]; simp) (by rw [Tryz.ntmps26]; decide) ?_
  simp -dsimp -implicitDefEqProofs (disch := omega) only [VCA, Nat.reduceEqDiff, Nat.reduceAdd, ↓reduceIte, eDoc, c26, eEdit]
  intro r4 hr4
  refine pcallE.of (hE) ?_; simp -dsimp -implicitDefEqProofs (disch := omega) only [VCA, ↓reduceIte]
  refine Br.ne (fun h0 => ?_) (fun h0 => ?_)
  · have aE := apply_err V h0
    have aD : applyD d e = noDoc := by unfold applyD; rw [aE, if_neg h0]
    have aN : applyN d e = 0 := by unfold applyN; rw [aE, if_neg h0]
    simp -dsimp -implicitDefEqProofs (disch := omega) only [VCA, Nat.reduceEqDiff, Nat.reduceAdd, Nat.reduceLT, ↓reduceIte, fillA, okFill, setAt, exists_eq_left']
    refine ⟨_, Sub.refl _, (Sub.refl h).upd hr4, ?_⟩
    unfold edR
    rw [aD, aN, aE]
    exact .tup' (.cons (vw_noDoc _) (.cons (.refl _) (.cons (.refl _) .nil)))
  · simp -dsimp -implicitDefEqProofs (disch := omega) only [VCA, Nat.reduceEqDiff, Nat.reduceAdd, ↓reduceIte]
    refine DCalls.of (hCp _) ?_
    rintro a h2 ⟨b, rfl, F, S⟩
    have S4 : ∀ x, Sub h (upd h r4 (some x)) := fun x => (Sub.refl h).upd hr4
    have n4 : rootOf b ≠ some r4 := fun e => by have := F.new _ e; rw [upd_same] at this; cases this
    have F' : Fresh h h2 40 6 (d.nodes.map eNode) b := ⟨F.acc.mono (S4 _)⟩
    have g4 := S _ _ (upd_same _ _ _)
    simp -dsimp -implicitDefEqProofs (disch := omega) only [VCA, Nat.reduceEqDiff, Nat.reduceAdd, Nat.reduceLT, ↓reduceIte, setAt, exists_eq_left']
    intro r8 hr8
    have n8 : rootOf b ≠ some r8 := fun e => by
      obtain ⟨o, ho⟩ := F.own.root e
      rw [ho] at hr8; cases hr8
    have n48 : r4 ≠ r8 := fun e => by rw [← e, g4] at hr8; cases hr8
    have Sh : Sub h h2 := (S4 _).trans S
    have h8 : h r8 = none := Sh.none hr8
    have F2 : ∀ y, Fresh h (upd h2 r8 (some y)) 40 6 (d.nodes.map eNode) b := fun y => F'.keep fun r o hr ho => by rw [upd_ne _ _ (fun e => n8 (by rw [hr, e]))]; exact ho
    by_cases c4 : e.do' = 4
    · exact edited_make V sm he h0 c4 (Sh.upd h8) (F2 _) hr4 h8 (by rw [upd_ne _ _ n48]; exact g4) (upd_same _ _ _) n4 n8 n48 rfl rfl rfl
    · exact edited_else V sm he h0 c4 (Sh.upd h8) (F2 _) hr4 h8 (by rw [upd_ne _ _ n48]; exact g4) (upd_same _ _ _) n4 n8 n48 rfl rfl rfl rfl
end Go.Proofs.K
end
section
/- Edits one after another: dom.All. -/
set_option linter.unusedSimpArgs false
set_option linter.unusedVariables false
namespace Go.Proofs.K
open Go Go.Sim Go.Proofs
variable {G : Glob}
end Go.Proofs.K
end
section
/- Ways through a tree: the reference's WalkStep; Common; what must be in any case. -/
set_option linter.unusedSimpArgs false
set_option linter.unusedVariables false
namespace Go.Proofs.K
open Go Go.Sim Go.Proofs
variable {G : Glob}
section
variable {d : HDoc} {n : Int} {A B : List Int}
end
/-! ## the common node -/
/-- a result's weaker reading -/
theorem DCalls.res {P : PG} {f : Nat} {args : List AVal} {h : Heap} {K K' : AVal → Heap → Prop} (hd : DCalls P f args h K) (hk : ∀ a h', K a h' → ∃ b, Wk a b ∧ K' b h') : DCalls P f args h K' :=
  ⟨hd.1, fun g w vs H GR V => (hd.2 g w vs H GR V).mono fun e w' ⟨v', a, h', g', he, k0, H', Va, S⟩ => by
    obtain ⟨b, hb, k1⟩ := hk a h' k0
    exact ⟨v', b, h', g', he, k1, H', hb.rel Va, S⟩⟩
def oneD : HDoc := ⟨[⟨1, [], [], [], -1, [1]⟩, ⟨2, [112], [⟨[97], [34]⟩], [], 0, [2]⟩, ⟨3, [], [], [60, 10], 1, []⟩], false⟩
theorem oneD_sm : DocSm oneD := ⟨by decide, by
  intro x hx
  have : x = ⟨1, [], [], [], -1, [1]⟩ ∨ x = ⟨2, [112], [⟨[97], [34]⟩], [], 0, [2]⟩ ∨ x = ⟨3, [], [], [60, 10], 1, []⟩ := by simpa [oneD] using hx
  rcases this with rfl | rfl | rfl <;> exact ⟨by decide, by decide, by decide, by decide, by decide⟩⟩
def c42 : SFun := ⟨(.seq (.reg [⟨(some 0), (.new 24 2 [.emp, (.bool false)]), none⟩]) (.seq (.reg [⟨(some 1), (.bldF 3 1 [(.c (.int .i64 (1)))]), none⟩, ⟨(some 2), (.bld [(.int .i64 (0)), (.str []), .emp, (.str []), (.int .i64 (0)), .emp] [(0, (1, (.c (.int .i64 (1))))), (4, (1, (.c (.int .i64 (-1))))), (5, (1, (.t 1)))]), none⟩, ⟨(some 3), (.bld [(.str []), (.str [])] [(0, (1, (.c (.str [97])))), (1, (1, (.c (.str [34]))))]), none⟩, ⟨(some 4), (.bldF 96 2 [(.t 3)]), none⟩, ⟨(some 5), (.bldF 3 1 [(.c (.int .i64 (2)))]), none⟩, ⟨(some 6), (.bld [(.int .i64 (0)), (.str []), .emp, (.str []), (.int .i64 (0)), .emp] [(0, (1, (.c (.int .i64 (2))))), (1, (1, (.c (.str [112])))), (2, (1, (.t 4))), (5, (1, (.t 5)))]), none⟩, ⟨(some 7), (.bld [(.int .i64 (0)), (.str []), .emp, (.str []), (.int .i64 (0)), .emp] [(0, (1, (.c (.int .i64 (3))))), (3, (1, (.c (.str [60, 10])))), (4, (1, (.c (.int .i64 (1)))))]), none⟩, ⟨(some 8), (.bldF 40 6 [(.t 2), (.t 6), (.t 7)]), none⟩, ⟨(some 9), (.bld [.emp, (.bool false)] [(0, (1, (.t 8)))]), none⟩, ⟨none, (.st 2 (.t 0) (.t 9)), none⟩]) .ret)), [(.cell 0 2 true)]⟩
theorem hc42 : toSF Tryz.prog {} Tryz.f42 = some c42 := by kernel_rfl
theorem hn42 : (Tryz.f42.name == "runtime.NumGoroutine") = false := by kernel_rfl
theorem oneP_ok : PCalls (Pg G) 42 [] (.agg (eDoc oneD)) := fun h => by
  refine DCalls.res (K := fun a h' => a = .agg [.slc [[.int .i64 1, .str [], .emp, .str [], .int .i64 (-1), .slc [[.int .i64 1]]], [.int .i64 2, .str [112], .slc [[.str [97], .str [34]]], .str [], .int .i64 0, .slc [[.int .i64 2]]], [.int .i64 3, .str [], .emp, .str [60, 10], .int .i64 1, .emp]], .bool false] ∧ h' = h) ?_ ?_
  · refine dcalls_of_vc Tryz.func42 hn42 hc42 (by rw [Tryz.ntmps42]; simp) (by rw [Tryz.ntmps42]; decide) ?_
    simp -dsimp -implicitDefEqProofs (disch := omega) only [VCA, Nat.reduceEqDiff, Nat.reduceAdd, Nat.reduceLT, Nat.reduceLeDiff, ↓reduceIte, reduceCtorEq, okParts, fillA, okFill, setAt, exists_eq_right_right, exists_eq_left', c42]
    intro r hr
    exact (Sub.refl _).upd hr
  · rintro a h' ⟨rfl, rfl⟩
    exact ⟨_, Wk.agg' (.cons (Wk.slc' (.cons (.cons (.refl _) (.cons (.refl _) (.cons .emp (.cons (.refl _) (.cons (.refl _) (.cons (.refl _) .nil)))))) (.cons (.cons (.refl _) (.cons (.refl _) (.cons (.refl _) (.cons (.refl _) (.cons (.refl _) (.cons (.refl _) .nil)))))) (.cons (.cons (.refl _) (.cons (.refl _) (.cons .emp (.cons (.refl _) (.cons (.refl _) (.cons .emp .nil)))))) .nil)))) (.cons (.refl _) .nil)), rfl, rfl⟩
end Go.Proofs.K
end
section
/- Ways through a tree: the law of Step. -/
set_option linter.unusedSimpArgs false
set_option linter.unusedVariables false
namespace Go.Proofs.K
open Go Go.Sim Go.Proofs
variable {G : Glob}
theorem eDoc_drop (d : HDoc) : (eDoc d).drop 2 = [] := rfl
end Go.Proofs.K
end
section
/- Ways through a tree: pairs of nodes, plain law. -/
set_option linter.unusedSimpArgs false
set_option linter.unusedVariables false
namespace Go.Proofs.K
open Go Go.Sim Go.Proofs
section
variable {d : HDoc}
def path (d : HDoc) (n : Int) : List Int := (chain d n).reverse
theorem path_len (V : DV d) {n : Int} (hn : inD d n) : (path d n).length = up d n + 1 := by unfold path; rw [List.length_reverse, chain_len V n hn]
theorem path_up (V : DV d) {n : Int} (hn : inD d n) (hp : 0 ≤ (nd d n).parent) : path d n = path d (nd d n).parent ++ [n] := by unfold path; rw [chain_up V hn hp, List.reverse_cons]
theorem path_top (V : DV d) {n : Int} (hp : ¬ 0 ≤ (nd d n).parent) : path d n = [n] := by unfold path; rw [chain_top V hp]; rfl
theorem nth_snoc_lt {l : List Int} {x : Int} {j : Nat} (h : j < l.length) : nth (l ++ [x]) j = nth l j := by
  unfold nth; rw [List.getD_eq_getElem?_getD, List.getElem?_append_left h, ← List.getD_eq_getElem?_getD]
theorem nth_snoc_eq {l : List Int} {x : Int} : nth (l ++ [x]) l.length = x := by simp [nth, List.getD_eq_getElem?_getD]
theorem path_at (V : DV d) : ∀ n, inD d n → ∀ j, j ≤ up d n → nth (path d n) j ∈ chain d n ∧ up d (nth (path d n) j) = j := V.rise fun n hn ih j hj => by
  by_cases hp : 0 ≤ (nd d n).parent
  · have hu := V.up_par hn hp
    have hl := path_len V (V.par_in hn hp).1
    rw [path_up V hn hp]
    by_cases h1 : j = up d n
    · have : j = (path d (nd d n).parent).length := by omega
      rw [this, nth_snoc_eq]; exact ⟨chain_self _ _, by omega⟩
    · obtain ⟨h2, h3⟩ := ih hp j (by omega)
      rw [nth_snoc_lt (by omega)]
      exact ⟨by rw [chain_up V hn hp]; exact List.mem_cons_of_mem _ h2, h3⟩
  · have hu := V.up_top hp
    obtain rfl : j = 0 := by omega
    rw [path_top V hp]; exact ⟨chain_self _ _, hu⟩
/-- where the ways down to two nodes part -/
structure Part (d : HDoc) (a b : Int) (i : Nat) : Prop where
  pos : 1 ≤ i
  la : i ≤ (path d a).length
  lb : i ≤ (path d b).length
  eq : ∀ j, j < i → nth (path d a) j = nth (path d b) j
  ne : ¬ (i < (path d a).length ∧ i < (path d b).length ∧ nth (path d a) i = nth (path d b) i)
variable {a b : Int} {i : Nat}
theorem Part.node (V : DV d) (ha : inD d a) (hb : inD d b) (p : Part d a b i) : nth (path d a) (i - 1) ∈ chain d a ∧ nth (path d a) (i - 1) ∈ chain d b ∧ up d (nth (path d a) (i - 1)) = i - 1 := by
  have h1 := path_at V a ha (i - 1) (by have := p.la; rw [path_len V ha] at this; omega)
  have h2 := path_at V b hb (i - 1) (by have := p.lb; rw [path_len V hb] at this; omega)
  exact ⟨h1.1, by rw [p.eq _ (by have := p.pos; omega)]; exact h2.1, h1.2⟩
end
end Go.Proofs.K
end
section
/- Ways through a tree: Before, Within, Common, Place. -/
set_option linter.unusedSimpArgs false
set_option linter.unusedVariables false
namespace Go.Proofs.K
open Go Go.Sim Go.Proofs
variable {G : Glob}
end Go.Proofs.K
end
section
/- Ways through a tree: the law of pairs. -/
set_option linter.unusedSimpArgs false
set_option linter.unusedVariables false
namespace Go.Proofs.K
open Go Go.Sim Go.Proofs
variable {G : Glob}
end Go.Proofs.K
end
section
/- Ranges: paths of points, their order. -/
set_option linter.unusedSimpArgs false
set_option linter.unusedVariables false
namespace Go.Proofs.K
open Go Go.Sim Go.Proofs
variable {G : Glob}
structure HPoint where
  node : Int
  at' : Int
deriving DecidableEq, Inhabited
def eP (p : HPoint) : List AVal := [aInt p.node, aInt p.at']
instance : LenE eP 2 := ⟨fun _ => rfl⟩
structure HSpan where
  a : HPoint
  b : HPoint
deriving DecidableEq, Inhabited
def eS (s : HSpan) : List AVal := [aInt s.a.node, aInt s.a.at', aInt s.b.node, aInt s.b.at']
instance : LenE eS 4 := ⟨fun _ => rfl⟩
end Go.Proofs.K
end
section
/- Ranges: points, spans: contracts. -/
set_option linter.unusedSimpArgs false
set_option linter.unusedVariables false
namespace Go.Proofs.K
open Go Go.Sim Go.Proofs
variable {G : Glob}
/-- the way down to a node, from below: which kid each one is -/
def rkey (d : HDoc) (n : Int) : List Int := ((chain d n).filter (fun m => decide (0 < m))).map fun m => 2 * idxM (· == m) (nd d (nd d m).parent).kids + 1
def key (d : HDoc) (p : HPoint) : List Int := (2 * p.at' :: rkey d p.node).reverse
section
variable {d : HDoc}
end
end Go.Proofs.K
end
section
/- Ranges: the order of points, plain law. -/
set_option linter.unusedSimpArgs false
set_option linter.unusedVariables false
namespace Go.Proofs.K
open Go Go.Sim Go.Proofs
/-! ## lists by their order -/
/-! ## all points of a tree, in their order -/
def textM (x : HNode) : List UInt8 := if x.kind = 5 then [] else x.text
def mkF : Nat → HDoc → Int → List HPoint
  | 0, _, n => [⟨n, 0⟩]
  | f + 1, d, n => ⟨n, 0⟩ :: ((List.range (nd d n).kids.length).flatMap (fun i => mkF f d (nth (nd d n).kids i) ++ [⟨n, (i : Int) + 1⟩]) ++ (List.range (textM (nd d n)).length).map fun i => ⟨n, (i : Int) + 1⟩)
def marks (d : HDoc) (n : Int) : List HPoint := mkF (41 - up d n) d n
section
variable {d : HDoc}
def markM (d : HDoc) (p : HPoint) : Int := idxM (· == p) (marks d 0)
end
end Go.Proofs.K
end
section
/- Ranges: order, points, span, Check, Less; the reference's errors. -/
set_option linter.unusedSimpArgs false
set_option linter.unusedVariables false
namespace Go.Proofs.K
open Go Go.Sim Go.Proofs
variable {G : Glob}
end Go.Proofs.K
end
section
/- Ranges: the reference's marks, SpanErr. -/
set_option linter.unusedSimpArgs false
set_option linter.unusedVariables false
namespace Go.Proofs.K
open Go Go.Sim Go.Proofs
variable {G : Glob}
end Go.Proofs.K
end
section
/- Ranges: the tree's order, as a list. -/
set_option linter.unusedSimpArgs false
set_option linter.unusedVariables false
namespace Go.Proofs.K
open Go Go.Sim Go.Proofs
variable {G : Glob}
end Go.Proofs.K
end
section
/- Documents: what must be in any case; the law of checks. -/
set_option linter.unusedSimpArgs false
set_option linter.unusedVariables false
namespace Go.Proofs.K
open Go Go.Sim Go.Proofs
variable {G : Glob}
/-- an edit as it is written: no lists -/
theorem edit_wk (e : HEdit) (h1 : e.node.attrs = []) (h2 : e.node.kids = []) : Wk (.agg (eE0 e)) (.agg (eEdit e)) := Wk.agg' (by
  unfold eE0 eEdit
  rw [h1, h2]
  exact .cons (.refl _) (.cons (.refl _) (.cons (.refl _) (.cons (.refl _) (.cons (.refl _) (.cons (.refl _) (.cons (.refl _) (.cons (.refl _) (.cons .emp (.cons (.refl _) (.cons (.refl _) (.cons .emp .nil))))))))))))
end Go.Proofs.K
end
section
/- Edits: the law of DomEdits. -/
set_option linter.unusedSimpArgs false
set_option linter.unusedVariables false
namespace Go.Proofs.K
open Go Go.Sim Go.Proofs
variable {G : Glob}
theorem eEdit_len (e : HEdit) : (eEdit e).length = 12 := rfl
theorem eEdit_take (e : HEdit) : (eEdit e).take 12 = eEdit e := rfl
end Go.Proofs.K
end
section
/- Edits one after another: the reference; the law of DomAll. -/
set_option linter.unusedSimpArgs false
set_option linter.unusedVariables false
namespace Go.Proofs.K
open Go Go.Sim Go.Proofs
variable {G : Glob}
end Go.Proofs.K
end
section
/- Ranges: text: contracts. -/
set_option linter.unusedSimpArgs false
set_option linter.unusedVariables false
namespace Go.Proofs.K
open Go Go.Sim Go.Proofs
variable {G : Glob}
end Go.Proofs.K
end
section
/- Ranges: text, plain law: node by node, or mark by mark. -/
set_option linter.unusedSimpArgs false
set_option linter.unusedVariables false
namespace Go.Proofs.K
open Go Go.Sim Go.Proofs
section
variable {d : HDoc}
end
end Go.Proofs.K
end
section
/- Ranges: text, mark by mark: plain law. -/
set_option linter.unusedSimpArgs false
set_option linter.unusedVariables false
namespace Go.Proofs.K
open Go Go.Sim Go.Proofs
section
variable {d : HDoc}
end
end Go.Proofs.K
end
section
/- Ranges: the reference's text; short documents. -/
set_option linter.unusedSimpArgs false
set_option linter.unusedVariables false
namespace Go.Proofs.K
open Go Go.Sim Go.Proofs
variable {G : Glob}
end Go.Proofs.K
end
section
/- Ranges: short documents; what is cut. -/
set_option linter.unusedSimpArgs false
set_option linter.unusedVariables false
namespace Go.Proofs.K
open Go Go.Sim Go.Proofs
variable {G : Glob}
end Go.Proofs.K
end
section
/- Ranges: what is cut: contracts. -/
set_option linter.unusedSimpArgs false
set_option linter.unusedVariables false
namespace Go.Proofs.K
open Go Go.Sim Go.Proofs
variable {G : Glob}
/-! ## the cut -/
def zE (do' at' : Int) (v : List UInt8) : HEdit := ⟨do', at', 0, 0, [], v, ⟨0, [], [], [], 0, []⟩⟩
section
variable {d : HDoc}
end
end Go.Proofs.K
end
section
/- Ranges: Cut; what must be in any case; the law of points. -/
set_option linter.unusedSimpArgs false
set_option linter.unusedVariables false
namespace Go.Proofs.K
open Go Go.Sim Go.Proofs
variable {G : Glob}
/-! ## what must be in any case -/
/-! ## the law of points -/
end Go.Proofs.K
end
section
/- Ranges: what is cut: plain law. -/
set_option linter.unusedSimpArgs false
set_option linter.unusedVariables false
namespace Go.Proofs.K
open Go Go.Sim Go.Proofs
section
variable {d : HDoc}
/-- lies a node between the two points? -/
def liesM (d : HDoc) (s : HSpan) (n : Int) : Prop :=
  0 ≤ (nd d n).parent ∧ n ∉ chain d s.a.node ∧ n ∉ chain d s.b.node ∧ markM d s.a ≤ markM d ⟨(nd d n).parent, idxM (· == n) (nd d (nd d n).parent).kids⟩ ∧ markM d ⟨(nd d n).parent, idxM (· == n) (nd d (nd d n).parent).kids + 1⟩ ≤ markM d s.b
instance (d : HDoc) (s : HSpan) (n : Int) : Decidable (liesM d s n) := by unfold liesM; infer_instance
end
end Go.Proofs.K
end
section
/- Ranges: the reference's cut; the law of cuts. -/
set_option linter.unusedSimpArgs false
set_option linter.unusedVariables false
namespace Go.Proofs.K
open Go Go.Sim Go.Proofs
variable {G : Glob}
end Go.Proofs.K
end
section
/- Lists of edits: are they one? The law of cuts. -/
set_option linter.unusedSimpArgs false
set_option linter.unusedVariables false
namespace Go.Proofs.K
open Go Go.Sim Go.Proofs
variable {G : Glob}
/-- edits without a node -/
def noNode (e : HEdit) : Prop := e.node = ⟨0, [], [], [], 0, []⟩
theorem noNode.sm {e : HEdit} (h : noNode e) : NodeSm e.node := by unfold noNode at h; rw [h]; exact ⟨by simp, by simp, (fun a ha => by cases ha), by simp, by simp⟩
end Go.Proofs.K
end
section
/- Steps: what was edited (plain). -/
set_option linter.unusedSimpArgs false
set_option linter.unusedVariables false
namespace Go.Proofs.K
open Go Go.Sim Go.Proofs
structure HStep where
  edit : HEdit
  had : Bool
  was : List UInt8
  parent : Int
  place : Int
deriving DecidableEq, Inhabited
def eStep (s : HStep) : List AVal := [aInt s.edit.do', aInt s.edit.at', aInt s.edit.to, aInt s.edit.before, .str s.edit.name, .str s.edit.value, aInt s.edit.node.kind, .str s.edit.node.name, sl eAttr s.edit.node.attrs, .str s.edit.node.text, aInt s.edit.node.parent, sl eInt s.edit.node.kids, .bool s.had, .str s.was, aInt s.parent, aInt s.place]
instance : LenE eStep 16 := ⟨fun _ => rfl⟩
structure StepSm (s : HStep) : Prop where
  edit : EditSm s.edit
  was : s.was.length ≤ 1073741824
end Go.Proofs.K
end
section
/- Edits that do not meet: what is touched; what is folded (plain). -/
set_option linter.unusedSimpArgs false
set_option linter.unusedVariables false
namespace Go.Proofs.K
open Go Go.Sim Go.Proofs
/-- the root above a node -/
def topM (d : HDoc) (n : Int) : Int := (chain d n).getLastD (-1)
theorem top_up {d : HDoc} (V : DV d) {n : Int} (hn : inD d n) (hp : 0 ≤ (nd d n).parent) : topM d n = topM d (nd d n).parent := by
  unfold topM
  rw [chain_up V hn hp]
  have : chain d (nd d n).parent ≠ [] := List.ne_nil_of_mem (chain_self d _)
  cases h : chain d (nd d n).parent with
  | nil => exact absurd h this
  | cons x r => simp
theorem top_top {d : HDoc} (V : DV d) {n : Int} (hp : ¬ 0 ≤ (nd d n).parent) : topM d n = n := by
  unfold topM; rw [chain_top V hp]; rfl
theorem top_is {d : HDoc} (V : DV d) : ∀ n, inD d n → ∀ t, (t ∈ chain d n ∧ ¬ 0 ≤ (nd d t).parent) ↔ t = topM d n := V.rise fun n hn ih t => by
  by_cases hp : 0 ≤ (nd d n).parent
  · rw [top_up V hn hp, ← ih hp t, chain_up V hn hp, List.mem_cons]
    constructor
    · rintro ⟨rfl | h, h2⟩
      · exact absurd hp h2
      · exact ⟨h, h2⟩
    · rintro ⟨h, h2⟩; exact ⟨.inr h, h2⟩
  · rw [top_top V hp, chain_top V hp, List.mem_singleton]
    exact ⟨fun h => h.1, fun h => ⟨h, by rw [h]; exact hp⟩⟩
theorem top_in {d : HDoc} (V : DV d) {n : Int} (hn : inD d n) : inD d (topM d n) := chain_in V n hn _ ((top_is V n hn _).2 rfl).1
/-- the nodes that an edit touches, as they come -/
def rawL (d : HDoc) (e : HEdit) : List Int :=
  if e.do' = 4 then [(d.nodes.length : Int)]
  else if e.do' = 5 then (if 0 < topM d e.at' then [e.at', e.to, topM d e.at'] else [e.at', e.to])
  else if e.do' = 6 then [e.at', (nd d e.at').parent]
  else [e.at']
def touchL (d : HDoc) (e : HEdit) : List Int := onceL (rawL d e)
/-- does it touch a node? -/
def touchP (d : HDoc) (e : HEdit) (n : Int) : Prop :=
  if e.do' = 4 then n = d.nodes.length
  else n = e.at' ∨ (if e.do' = 6 then n = (nd d e.at').parent else if e.do' = 5 then n = e.to ∨ (0 < n ∧ inD d n ∧ (nd d n).parent < 0 ∧ n ∈ chain d e.at') else False)
instance (d : HDoc) (e : HEdit) (n : Int) : Decidable (touchP d e n) := by unfold touchP inD; infer_instance
theorem touchP_iff {d : HDoc} (V : DV d) {e : HEdit} (h0 : errR d e = 0) (n : Int) : touchP d e n ↔ n ∈ rawL d e := by
  unfold touchP rawL
  by_cases h4 : e.do' = 4
  · rw [if_pos h4, if_pos h4]; simp
  · rw [if_neg h4, if_neg h4]
    obtain ⟨_, _, ha, hto⟩ := errR_at h0 h4
    by_cases h5 : e.do' = 5
    · rw [if_pos h5, if_neg (by omega), if_pos h5]
      have key : (0 < n ∧ inD d n ∧ (nd d n).parent < 0 ∧ n ∈ chain d e.at') ↔ (0 < topM d e.at' ∧ n = topM d e.at') := by
        constructor
        · rintro ⟨q1, q2, q3, q4⟩
          have := (top_is V e.at' ha n).1 ⟨q4, by omega⟩
          exact ⟨by rw [← this]; exact q1, this⟩
        · rintro ⟨q1, rfl⟩
          have := (top_is V e.at' ha _).2 rfl
          exact ⟨q1, top_in V ha, by omega, this.1⟩
      rw [key]
      split
      · rename_i q; simp [q]
      · rename_i q; simp [q]
    · rw [if_neg h5]
      by_cases h6 : e.do' = 6
      · rw [if_pos h6, if_neg h5, if_pos h6]; simp only [List.mem_cons, List.mem_nil_iff, or_false]
      · rw [if_neg h6]; simp [h5, h6]
theorem raw_bd {d : HDoc} (V : DV d) {e : HEdit} (h0 : errR d e = 0) : ∀ n ∈ rawL d e, 0 ≤ n ∧ n ≤ d.nodes.length := fun n hn => by
  unfold rawL at hn
  by_cases h4 : e.do' = 4
  · rw [if_pos h4] at hn; simp at hn; omega
  rw [if_neg h4] at hn
  obtain ⟨_, _, ha, hto⟩ := errR_at h0 h4
  have a0 := ha.1; have a1 := ha.2
  by_cases h5 : e.do' = 5
  · rw [if_pos h5] at hn
    have t0 := (hto h5).1; have t1 := (hto h5).2
    have tp := top_in V ha
    have p0 := tp.1; have p1 := tp.2
    split at hn
    · simp at hn; rcases hn with rfl | rfl | rfl <;> omega
    · simp at hn; rcases hn with rfl | rfl <;> omega
  rw [if_neg h5] at hn
  by_cases h6 : e.do' = 6
  · rw [if_pos h6] at hn
    have hE := h0
    rw [errR_6 h6 ha] at hE
    have hz : ¬ e.at' = 0 := fun h => by rw [if_pos h] at hE; omega
    rw [if_neg hz] at hE
    have hp : 0 ≤ (nd d e.at').parent := by
      apply Classical.byContradiction; intro h
      rw [if_pos (by omega)] at hE; omega
    have pin := (V.par_in ha hp).1
    have p0 := pin.1; have p1 := pin.2
    simp at hn; rcases hn with rfl | rfl <;> omega
  rw [if_neg h6] at hn
  simp at hn; subst hn; omega
/-- as the document says it: node by node -/
theorem touch_is {d : HDoc} (V : DV d) {e : HEdit} (h0 : errR d e = 0) : (((List.range (d.nodes.length + 1)).filter fun n : Nat => decide (touchP d e n)).map fun n : Nat => (n : Int)) = touchL d e := by
  refine (onceL_eq (range_rising _ _) fun x => ?_).symm
  rw [← touchP_iff V h0]
  simp only [List.mem_map, List.mem_filter, List.mem_range, decide_eq_true_eq]
  constructor
  · intro h
    have := raw_bd V h0 x ((touchP_iff V h0 x).1 h)
    exact ⟨x.toNat, ⟨by omega, by rw [Int.toNat_of_nonneg this.1]; exact h⟩, Int.toNat_of_nonneg this.1⟩
  · rintro ⟨n, ⟨_, h⟩, rfl⟩; exact h
/-! ## folding -/
end Go.Proofs.K
end
section
/- Numbers in order: slices.Sort, slices.Compact at a list of one's own. -/
set_option linter.unusedSimpArgs false
set_option linter.unusedVariables false
namespace Go.Proofs.K
open Go Go.Sim Go.Proofs Go.Shelf
variable {G : Glob}
/-- a block of the call's own written over; the root stays -/
theorem put_same {h : Heap} {g : Ghost} {w w' : World} (H : HRel h g w) {r : Nat} {es : List (List AVal)} {l : List Int} (hr : h r = some ⟨.t 3, 1, es⟩) (hc : g.cap r ≠ 0) {cur cur' : Array Value} (hcur : w.heap[g.eta r]? = some (.cells cur 3 (0, 0)))
    (hb : w'.heap[g.eta r]? = some (.cells cur' 3 (0, 0))) (hs : ∀ b, b ≠ g.eta r → b < w.heap.size → w'.heap[b]? = w.heap[b]?) (hz : w.heap.size ≤ w'.heap.size) (h1 : w'.os = w.os) (h2 : w'.tape = w.tape) (h3 : w'.output = w.output)
    (hsz : cur'.size = cur.size) (hle : l.length ≤ g.cap r) (I : IntsAt cur' (g.bo r) l) : GS g w g w' ∧ HRel (upd h r (some ⟨.t 3, 1, l.map eInt⟩)) g w' := by
  obtain ⟨S1, H1⟩ := root_write H hr hcur hc cur' hsz (es' := l.map eInt) (fun e he => by obtain ⟨x, _, rfl⟩ := List.mem_map.1 he; rfl) (by simpa using hle) (fun i j e x he hx => I.cells g w i j e x he hx)
  obtain ⟨S2, H2⟩ := H1.ext (w' := w') (fun b hb' => by
    by_cases e : b = g.eta r
    · subst e; rw [hb]; exact (setRow_heap w _ cur cur' _ _ hcur).symm
    · rw [hs b e (by rw [size_setRow] at hb'; exact hb')]; exact (setRow_other w _ _ _ e).symm) h1 h2 h3 (by rw [size_setRow]; exact hz)
  exact ⟨S1.trans S2, H2⟩
theorem holds_ints {cur : Array Value} {w : World} {b bo : Nat} {l : List Int} (hb : w.heap[b]? = some (.cells cur 3 (0, 0))) (I : IntsAt cur bo l) : Go.Sort.Holds (Value.int .i64) w b bo l.toArray := fun j hj => by
  have hj : j < l.length := by simpa using hj
  have e : l.toArray[j]! = nth l j := by
    rw [getElem!_pos l.toArray j (by simpa using hj)]
    unfold nth; rw [List.getD_eq_getElem?_getD, List.getElem?_eq_getElem hj]; simp
  refine ⟨?_, by simp [World.frozen?, hb]⟩
  rw [cell_of_row w _ _ cur _ _ hb, I j hj, e]
theorem put_ints {cur : Array Value} {bo : Nat} {l : List Int} (hl : bo + l.length ≤ cur.size) : IntsAt (Go.Sort.putCells (Value.int .i64) bo l.toArray cur) bo l := fun k hk => by
  unfold Go.Sort.putCells
  rw [Array.getElem?_mapIdx, Array.getElem?_eq_getElem (by omega)]
  have e : l.toArray[k]! = nth l k := by
    rw [getElem!_pos l.toArray k (by simpa using hk)]
    unfold nth; rw [List.getD_eq_getElem?_getD, List.getElem?_eq_getElem hk]; simp
  simp only [Option.map_some, Nat.le_add_right, List.size_toArray, Nat.add_lt_add_left hk, and_self, if_true, Nat.add_sub_cancel_left, e]
theorem put_row {w : World} {b bo : Nat} {l : List Int} {cur : Array Value} (hb : w.heap[b]? = some (.cells cur 3 (0, 0))) :
    (Go.Sort.putRow (Value.int .i64) w b bo l.toArray).heap[b]? = some (.cells (Go.Sort.putCells (Value.int .i64) bo l.toArray cur) 3 (0, 0)) ∧ (∀ k, k ≠ b → (Go.Sort.putRow (Value.int .i64) w b bo l.toArray).heap[k]? = w.heap[k]?) := by
  refine ⟨?_, fun k hk => ?_⟩
  · unfold Go.Sort.putRow Go.Sort.mapBlock
    rw [Array.getElem?_modify, if_pos rfl, hb]; rfl
  · unfold Go.Sort.putRow Go.Sort.mapBlock
    rw [Array.getElem?_modify, if_neg (fun h => hk h.symm)]
theorem vrel_one {g : Ghost} {w : World} {vs : Array Value} {a : AVal} (V : VRelL g w vs [a]) : ∃ u, vs = #[u] ∧ VRel g w u a := by
  obtain ⟨hs, hv⟩ := V
  obtain ⟨l⟩ := vs
  match l, hs with
  | [u], _ => exact ⟨u, rfl, hv 0 u a rfl rfl⟩
/-- a list of one's own, put in order -/
theorem sortI_ok {h : Heap} {r : Nat} {l : List Int} (hr : h r = some ⟨.t 3, 1, l.map eInt⟩) (hl : l.length ≤ 100000) :
    DCalls (Pg G) 73 [.osl r 1 0 l.length] h fun a h' => a = .tup [] ∧ h' = upd h r (some ⟨.t 3, 1, (sortL l).map eInt⟩) := by
  refine ⟨⟨_, Tryz.func73, by kernel_rfl, by kernel_rfl⟩, fun g w vs H GR V => ?_⟩
  obtain ⟨va, rfl, ha⟩ := vrel_one V
  obtain ⟨hrl, hsz, hc⟩ := ha.osl_inv
  have nil : l = [] → upd h r (some ⟨.t 3, 1, (sortL l).map eInt⟩) = h := fun e => by
    subst e; rw [show (sortL ([] : List Int)).map eInt = ([] : List Int).map eInt from by simp [sortL], ← hr]
    funext t; unfold upd; split
    · rename_i q; rw [q]
    · rfl
  have empty : l = [] → ∀ (p : Option Addr) (cap : Nat), va = .slice p 0 cap → Calls Tryz.prog 73 #[va] w fun e w' => ∃ v a h' g', e = .returned v ∧ (a = .tup [] ∧ h' = upd h r (some ⟨.t 3, 1, (sortL l).map eInt⟩)) ∧ HRel h' g' w' ∧ VRel g' w' v a ∧ GS g w g' w' := by
    intro he p cap hva
    rw [hva]
    refine (Tryz.slices_Sort_int_none p cap w).mono fun e w' ⟨he', hw⟩ => ?_
    subst hw
    exact ⟨_, .tup [], h, g, he', ⟨rfl, (nil he).symm⟩, H, .tup #[] [] rfl (by simp), GS.refl _ _⟩
  rcases hc with ⟨hA, h0, h1, h2⟩ | ⟨capv, off, hva, hnc, hm, hic, hoff⟩
  · exact empty (List.eq_nil_of_length_eq_zero h1) _ _ (by rw [hA])
  · by_cases hl0 : l.length = 0
    · exact empty (List.eq_nil_of_length_eq_zero hl0) _ _ (by rw [hva, hl0])
    · have hle2 := (H.obj r _ hr).le
      rw [List.length_map] at hle2
      have hcr : g.cap r ≠ 0 := by omega
      obtain ⟨cur, hcur, hsz2, I⟩ := ints_block H hr (l := l) (by simp) (by rw [← List.length_map (f := eInt), List.take_length]) hcr
      have hof : off = g.bo r := by have := hoff (by omega); omega
      subst hof
      rw [hva]
      have hlt : g.eta r < w.heap.size := (Array.getElem?_eq_some_iff.1 hcur).1
      refine (Tryz.slices_Sort_int (g.eta r) (g.bo r) capv l w (holds_ints hcur I) hlt (by omega)).mono fun e w' ⟨he, n, os, hw⟩ => ?_
      obtain ⟨b1, b2⟩ := put_row (w := Go.Sort.ahead w n) (b := g.eta r) (bo := g.bo r) (l := sortL l) (cur := cur) hcur
      have sl := sortL_len l
      have hz : (Go.Sort.putRow (Value.int .i64) (Go.Sort.ahead w n) (g.eta r) (g.bo r) (sortL l).toArray).heap.size = w.heap.size := by rw [Go.Sort.size_putRow]; rfl
      have hg : ∀ b, b < w.heap.size → w'.heap[b]? = (Go.Sort.putRow (Value.int .i64) (Go.Sort.ahead w n) (g.eta r) (g.bo r) (sortL l).toArray).heap[b]? := fun b hb => by
        rw [hw]
        show (_ ++ _)[b]? = _
        exact Array.getElem?_append_left (by rw [← hz] at hb; exact hb)
      obtain ⟨S, H'⟩ := put_same (w' := w') (l := sortL l) H hr hcr hcur ((hg _ hlt).trans b1) (fun b hb hb2 => (hg b hb2).trans (b2 b hb)) (by
        rw [hw]; unfold Go.Sort.grow; rw [Array.size_append]; exact Nat.le_trans (Nat.le_of_eq hz.symm) (Nat.le_add_right _ _)) (by rw [hw]; rfl) (by rw [hw]; rfl) (by rw [hw]; rfl) (by unfold Go.Sort.putCells; simp) (by omega) (put_ints (by omega))
      exact ⟨_, .tup [], _, g, he, ⟨rfl, rfl⟩, H', .tup #[] [] rfl (by simp), S⟩
/-- each but once, of a list that is in order -/
theorem compactI_ok {h : Heap} {r : Nat} {l : List Int} (hr : h r = some ⟨.t 3, 1, l.map eInt⟩) (hl : l.length ≤ 100000) :
    DCalls (Pg G) 74 [.osl r 1 0 l.length] h fun a h' => ∃ es, a = .osl r 1 0 (Lib.compact l).length ∧ h' = upd h r (some ⟨.t 3, 1, es⟩) ∧ (Lib.compact l).length ≤ es.length ∧ es.take (Lib.compact l).length = (Lib.compact l).map eInt := by
  refine ⟨⟨_, Tryz.func74, by kernel_rfl, by kernel_rfl⟩, fun g w vs H GR V => ?_⟩
  obtain ⟨va, rfl, ha⟩ := vrel_one V
  have ha0 := ha
  obtain ⟨hrl, hsz, hc⟩ := ha.osl_inv
  have empty : l = [] → ∀ (p : Option Addr) (cap : Nat), va = .slice p 0 cap → Calls Tryz.prog 74 #[va] w fun e w' => ∃ v a h' g', e = .returned v ∧ (∃ es, a = .osl r 1 0 (Lib.compact l).length ∧ h' = upd h r (some ⟨.t 3, 1, es⟩) ∧ (Lib.compact l).length ≤ es.length ∧ es.take (Lib.compact l).length = (Lib.compact l).map eInt) ∧ HRel h' g' w' ∧ VRel g' w' v a ∧ GS g w g' w' := by
    intro he p cap hva
    rw [hva] at ha0 ⊢
    refine (Tryz.slices_Compact_int_empty p cap w).mono fun e w' ⟨he', hw⟩ => ?_
    subst hw
    subst he
    have c0 : Lib.compact ([] : List Int) = [] := by simp [Lib.compact, Lib.compactUpTo]
    refine ⟨_, .osl r 1 0 0, h, g, he', ⟨[], by rw [c0]; rfl, ?_, by rw [c0]; simp, by rw [c0]; rfl⟩, H, ha0, GS.refl _ _⟩
    funext t; unfold upd; split
    · rename_i q; rw [q, hr]; rfl
    · rfl
  rcases hc with ⟨hA, h0, h1, h2⟩ | ⟨capv, off, hva, hnc, hm, hic, hoff⟩
  · exact empty (List.eq_nil_of_length_eq_zero h1) _ _ (by rw [hA])
  · by_cases hl0 : l.length = 0
    · exact empty (List.eq_nil_of_length_eq_zero hl0) _ _ (by rw [hva, hl0])
    · have hle2 := (H.obj r _ hr).le
      rw [List.length_map] at hle2
      have hcr : g.cap r ≠ 0 := by omega
      obtain ⟨cur, hcur, hsz2, I⟩ := ints_block H hr (l := l) (by simp) (by rw [← List.length_map (f := eInt), List.take_length]) hcr
      have hof : off = g.bo r := by have := hoff (by omega); omega
      subst hof
      rw [hva]
      have hlt : g.eta r < w.heap.size := (Array.getElem?_eq_some_iff.1 hcur).1
      have cl := Lib.compact_length_le l
      refine (Tryz.slices_Compact_int (g.eta r) (g.bo r) capv l w (holds_ints hcur I) (by omega) (by omega)).mono fun e w' ⟨he, q, hw⟩ => ?_
      generalize hL : Lib.compact l ++ List.replicate (l.length - (Lib.compact l).length) 0 = L at hw
      have sl : L.length = l.length := by rw [← hL, List.length_append, List.length_replicate]; omega
      obtain ⟨b1, b2⟩ := put_row (w := Go.Sort.ahead w q) (b := g.eta r) (bo := g.bo r) (l := L) (cur := cur) hcur
      have hz : (Go.Sort.putRow (Value.int .i64) (Go.Sort.ahead w q) (g.eta r) (g.bo r) L.toArray).heap.size = w.heap.size := by rw [Go.Sort.size_putRow]; rfl
      obtain ⟨S, H'⟩ := put_same (w' := w') (l := L) H hr hcr hcur (by rw [hw]; exact b1) (fun b hb hb2 => by rw [hw]; exact b2 b hb) (by rw [hw, hz]; exact Nat.le_refl _) (by rw [hw]; rfl) (by rw [hw]; rfl) (by rw [hw]; rfl) (by unfold Go.Sort.putCells; simp) (by omega) (put_ints (by omega))
      refine ⟨_, .osl r 1 0 (Lib.compact l).length, _, g, he, ⟨_, rfl, rfl, by rw [List.length_map]; omega, ?_⟩, H', ?_, S⟩
      · rw [← List.map_take, ← hL, List.take_left]
      · exact VRel.osl r 1 0 _ capv _ hrl hsz (by omega) hm (by omega) (fun _ => by omega)
end Go.Proofs.K
end
section
/- Steps: which nodes they touch (plain). -/
set_option linter.unusedSimpArgs false
set_option linter.unusedVariables false
namespace Go.Proofs.K
open Go Go.Sim Go.Proofs
end Go.Proofs.K
end
section
/- Steps: places, names (plain). -/
set_option linter.unusedSimpArgs false
set_option linter.unusedVariables false
namespace Go.Proofs.K
open Go Go.Sim Go.Proofs
end Go.Proofs.K
end
section
/- Ranges after an edit: what a point becomes (plain). -/
set_option linter.unusedSimpArgs false
set_option linter.unusedVariables false
namespace Go.Proofs.K
open Go Go.Sim Go.Proofs
end Go.Proofs.K
end
section
/- Steps: what the program notes. -/
set_option linter.unusedSimpArgs false
set_option linter.unusedVariables false
namespace Go.Proofs.K
open Go Go.Sim Go.Proofs
variable {G : Glob}
end Go.Proofs.K
end
section
/- Ranges after an edit: what the program says. -/
set_option linter.unusedSimpArgs false
set_option linter.unusedVariables false
namespace Go.Proofs.K
open Go Go.Sim Go.Proofs
variable {G : Glob}
theorem bI_t {a b : Int} (h : a = b) : (a == b) = true := by simpa using h
theorem bI_f {a b : Int} (h : ¬ a = b) : (a == b) = false := by simpa using h
theorem bN_t {a b : Int} (h : ¬ a = b) : (a != b) = true := by simpa using h
theorem bN_f {a b : Int} (h : a = b) : (a != b) = false := by simp [h]
end Go.Proofs.K
end
section
/- Steps: one step noted. -/
set_option linter.unusedSimpArgs false
set_option linter.unusedVariables false
namespace Go.Proofs.K
open Go Go.Sim Go.Proofs
variable {G : Glob}
theorem applyE_errR {d : HDoc} (V : DV d) {e : HEdit} (h : applyE d e = 0) : errR d e = 0 := by
  apply Classical.byContradiction; intro h1
  rw [apply_err V h1] at h; exact h1 h
end Go.Proofs.K
end
section
/- Steps: lists of them compared; the reference's step. -/
set_option linter.unusedSimpArgs false
set_option linter.unusedVariables false
namespace Go.Proofs.K
open Go Go.Sim Go.Proofs
variable {G : Glob}
end Go.Proofs.K
end
section
/- Steps: the reference's step. -/
set_option linter.unusedSimpArgs false
set_option linter.unusedVariables false
namespace Go.Proofs.K
open Go Go.Sim Go.Proofs
variable {G : Glob}
end Go.Proofs.K
end
section
/- Steps: Do. -/
set_option linter.unusedSimpArgs false
set_option linter.unusedVariables false
namespace Go.Proofs.K
open Go Go.Sim Go.Proofs
variable {G : Glob}
theorem _root_.Go.Sim.Acc.re {h1 h2 h1' h2' : Heap} {ty : TypeId} {sz : Nat} {cells : List (List AVal)} {a : AVal} (A : Acc h1 ty sz cells a h2) (hd : ∀ r o, h1 r = none → h2 r = some o → h1' r = none ∧ h2' r = some o) : Acc h1' ty sz cells a h2' := by
  rcases A with h | ⟨r, h0, h1, h2⟩
  · exact .inl h
  · exact .inr ⟨r, (hd r _ h0 h1).1, (hd r _ h0 h1).2, h2⟩
theorem _root_.Go.Sim.Acc.vw {h h' : Heap} {ty : TypeId} {sz : Nat} {cells : List (List AVal)} {a : AVal} (A : Acc h ty sz cells a h') (hl : ∀ f ∈ cells, f.length = sz) : Vw (newH h h') a (.slc cells) := by
  rcases A with ⟨rfl, rfl⟩ | ⟨r, h0, h1, rfl⟩
  · exact .emp
  · exact Vw.osl0 (by rw [newH_none h0]; exact h1) rfl (Nat.le_refl _) hl (by rw [List.take_length]; exact F2.refl (F2.refl .refl) _)
theorem _root_.Go.Sim.Acc.appW {h h' : Heap} {ty : TypeId} {sz b : Nat} {cells es2 : List (List AVal)} {a : AVal} {K : AVal → Heap → Prop} (A : Acc h ty sz cells a h') (S : Sub h h')
    (h1 : (cells.length + es2.length) * b ≤ 140737488355328) (h2 : cells.length + es2.length ≤ 140737488355328)
    (hk : ∀ a' h'', Acc h ty sz (cells ++ es2) a' h'' → Sub h h'' → (∀ r o, h' r = some o → rootOf a ≠ some r → h'' r = some o ∧ rootOf a' ≠ some r) → K a' h'') : Hd (appE ty sz b a es2 h') K .mk := by
  rcases A with ⟨rfl, rfl⟩ | ⟨r, h0, hr, rfl⟩
  · refine ⟨by simpa using h1, by simpa using h2, fun r hr => hk _ _ ?_ (S.upd (S.none hr)) fun x o hx _ => ?_⟩
    · exact .inr ⟨r, S.none hr, by simp, rfl⟩
    · have : x ≠ r := fun e => by rw [e, hr] at hx; cases hx
      exact ⟨by rw [upd_ne _ _ this]; exact hx, fun e => this (by cases e; rfl)⟩
  · refine ⟨rfl, _, hr, rfl, by simp, h1, h2, fun r' hr' => hk _ _ ?_ ?_ fun x o hx hn => ?_⟩
    · have hn : h r' = none := (S.del h0).none hr'
      refine .inr ⟨r', hn, by simp, by simp⟩
    · exact (S.del h0).upd ((S.del h0).none hr')
    · have hxr : x ≠ r := fun e => hn (by rw [e]; rfl)
      have hd : del h' r x = some o := by unfold del; rw [if_neg hxr]; exact hx
      have : x ≠ r' := fun e => by rw [e, hr'] at hd; cases hd
      exact ⟨by rw [upd_ne _ _ this]; exact hd, fun e => this (by cases e; rfl)⟩
end Go.Proofs.K
end
section
/- Steps: the nodes they touch. -/
set_option linter.unusedSimpArgs false
set_option linter.unusedVariables false
namespace Go.Proofs.K
open Go Go.Sim Go.Proofs Go.Shelf
variable {G : Glob}
end Go.Proofs.K
end
section
/- Edits apart: what an edit touches, as the program says it. -/
set_option linter.unusedSimpArgs false
set_option linter.unusedVariables false
namespace Go.Proofs.K
open Go Go.Sim Go.Proofs
variable {G : Glob}
def c105 : SFun := ⟨(.seq (.reg [⟨(some 2), (.boxF 24 2 (.t 0)), none⟩, ⟨(some 4), (.mv (.c (.int .i64 (0)))), none⟩]) (.seq (.block 0 (.loop (.seq (.seq (.reg [⟨(some 5), (.fldA 0 (.t 2)), none⟩, ⟨(some 6), (.ld 1 false (.t 5)), none⟩, ⟨(some 7), (.mv (.t 1)), none⟩, ⟨(some 8), (.idxA 6 (.t 6) (.t 7)), none⟩, ⟨(some 9), (.fldA 4 (.t 8)), none⟩, ⟨(some 10), (.ld 1 false (.t 9)), none⟩, ⟨(some 11), (.bin .geq (.t 10) (.c (.int .i64 (0)))), none⟩]) (.cond (.t 11) .skip (.exit 0))) (.block 1 (.reg [⟨(some 12), (.fldA 0 (.t 2)), none⟩, ⟨(some 13), (.ld 1 false (.t 12)), none⟩, ⟨(some 14), (.mv (.t 1)), none⟩, ⟨(some 15), (.idxA 6 (.t 13) (.t 14)), none⟩, ⟨(some 16), (.fldA 4 (.t 15)), none⟩, ⟨(some 17), (.ld 1 false (.t 16)), none⟩, ⟨(some 1), (.mv (.t 17)), none⟩]))))) (.seq (.reg [⟨(some 18), (.mv (.t 1)), none⟩, ⟨(some 4), (.mv (.t 18)), none⟩]) .ret))), [(.tmp 4)]⟩
theorem hc105 : toSF Tryz.prog {} Tryz.f105 = some c105 := by kernel_rfl
theorem hn105 : (Tryz.f105.name == "runtime.NumGoroutine") = false := by kernel_rfl
theorem aroot_ok (d : HDoc) (V : DV d) (n : Int) (hn : inD d n) : PCalls (Pg G) 105 [.agg (eDoc d), aInt n] (aInt (topM d n)) := fun h => by
  have vl := V.len
  refine dcalls_of_vc Tryz.func105 hn105 hc105 (by rw [Tryz.ntmps105]; simp) (by rw [Tryz.ntmps105]; decide) ?_
  simp -dsimp -implicitDefEqProofs (disch := omega) only [VCA, Nat.reduceAdd, c105, eDoc]
  refine LoopVC.intro (fun m E h' => ∃ k : Int, inD d k ∧ m = up d k ∧ E 2 = .pin (eDoc d) ∧ E 1 = aInt k ∧ topM d k = topM d n ∧ h' = h) (up d n) ⟨n, hn, rfl, rfl, rfl, rfl, rfl⟩ ?_
  rintro m E h' ⟨k, hk, rfl, E2, E1, hT, rfl⟩
  have k0 := hk.1
  have k1 := hk.2
  have e0 : nth d.nodes k.toNat = nd d k := rfl
  by_cases hp : 0 ≤ (nd d k).parent
  · have hP := (V.par_in hk hp).1
    have hu := V.up_par hk hp
    rw [top_up V hk hp] at hT
    repeat' (first | ((with_reducible refine Br.dec (fun _ => ?_) (fun _ => ?_)) <;> try (exfalso; omega)) | ((with_reducible refine Br.eq (fun _ => ?_) (fun _ => ?_)) <;> try (exfalso; omega)) | ((with_reducible refine Br.ne (fun _ => ?_) (fun _ => ?_)) <;> try (exfalso; omega)) | ((with_reducible refine brNdec (fun _ => ?_) (fun _ => ?_)) <;> try (exfalso; omega)) | ((with_reducible refine brNeq (fun _ => ?_) (fun _ => ?_)) <;> try (exfalso; omega)) | with_reducible refine Br.intro (fun _ => ?_) (fun _ => ?_) | (with_reducible refine And.intro ?_ ?_; · omega) | simp -dsimp -implicitDefEqProofs (disch := omega) only [VCA, Nat.reduceEqDiff, Nat.reduceAdd, Nat.reduceLeDiff, ↓reduceIte, E2, E1, eDoc, eNode, e0])
    all_goals first
      | (exfalso; omega)
      | exact ⟨_, by omega, _, hP, rfl, rfl, hT⟩
      | trace_state
  · rw [top_top V hp] at hT
    repeat' (first | ((with_reducible refine Br.dec (fun _ => ?_) (fun _ => ?_)) <;> try (exfalso; omega)) | ((with_reducible refine Br.eq (fun _ => ?_) (fun _ => ?_)) <;> try (exfalso; omega)) | ((with_reducible refine Br.ne (fun _ => ?_) (fun _ => ?_)) <;> try (exfalso; omega)) | ((with_reducible refine brNdec (fun _ => ?_) (fun _ => ?_)) <;> try (exfalso; omega)) | ((with_reducible refine brNeq (fun _ => ?_) (fun _ => ?_)) <;> try (exfalso; omega)) | with_reducible refine Br.intro (fun _ => ?_) (fun _ => ?_) | (with_reducible refine And.intro ?_ ?_; · omega) | simp -dsimp -implicitDefEqProofs (disch := omega) only [VCA, Nat.reduceEqDiff, Nat.reduceAdd, Nat.reduceLeDiff, ↓reduceIte, exists_eq_right_right, E2, E1, eDoc, eNode, e0])
    all_goals first
      | (exfalso; omega)
      | (rw [hT]; exact Sub.refl _)
      | (rw [hT]; exact ⟨Sub.refl _, rfl⟩)
      | exact ⟨Sub.refl _, by rw [hT]⟩
      | trace_state
/-- a list of the call's own, in order, each once: as data -/
theorem once_out {h H : Heap} {r : Nat} {es : List (List AVal)} {l : List Int} (h0 : h r = none) (hr : H r = some ⟨.t 3, 1, es⟩) (hle : l.length ≤ es.length) (ht : es.take l.length = l.map eInt) : VwT (newH h H) (.osl r 1 0 l.length) (sl eInt l) :=
  .one _ _ (Vw.osl0 (o := ⟨3, 1, es⟩) (by rw [newH_none h0]; exact hr) (by rw [List.length_map]) hle (fun f hf => by obtain ⟨x, _, rfl⟩ := List.mem_map.1 hf; rfl) (by
    show F2 (F2 (Vw _)) (es.take l.length) (l.map eInt)
    rw [ht]; exact F2.refl (F2.refl .refl) _))
def c65_s3 : SCode := (.seq (.reg [⟨(some 47), (.mv (.t 5)), none⟩, ⟨(some 48), (.call (.c (.fn 73 [] [])) [(.t 47)]), none⟩]) (.seq (.reg [⟨(some 49), (.mv (.t 5)), none⟩, ⟨(some 50), (.call (.c (.fn 74 [] [])) [(.t 49)]), none⟩, ⟨(some 4), (.mv (.t 50)), none⟩]) .ret))
def c65 : SFun := ⟨(.seq (.reg [⟨(some 2), (.boxF 24 2 (.t 0)), none⟩, ⟨(some 3), (.boxF 42 12 (.t 1)), none⟩, ⟨(some 4), (.mv (.c .emp)), none⟩]) (.seq (.reg [⟨(some 7), (.fldA 1 (.t 3)), none⟩, ⟨(some 8), (.ld 1 false (.t 7)), none⟩, ⟨(some 9), (.bldR 3 1 [(.t 8)]), none⟩, ⟨(some 5), (.mv (.t 9)), none⟩]) (.seq (.seq (.reg [⟨(some 10), (.fldA 0 (.t 3)), none⟩, ⟨(some 11), (.ld 1 false (.t 10)), none⟩]) (.block 0 (.seq (.reg [⟨(some 13), (.bin .eql (.t 11) (.c (.int .i64 (4)))), none⟩, ⟨(some 12), (.mv (.t 13)), none⟩]) (.cond (.t 12) (.reg [⟨(some 14), (.fldA 0 (.t 2)), none⟩, ⟨(some 15), (.ld 1 false (.t 14)), none⟩, ⟨(some 16), (.len (.t 15)), none⟩, ⟨(some 17), (.bldR 3 1 [(.t 16)]), none⟩, ⟨(some 5), (.mv (.t 17)), none⟩]) (.seq (.reg [⟨(some 19), (.bin .eql (.t 11) (.c (.int .i64 (5)))), none⟩, ⟨(some 18), (.mv (.t 19)), none⟩]) (.cond (.t 18) (.seq (.reg [⟨(some 20), (.mv (.t 5)), none⟩, ⟨(some 21), (.fldA 2 (.t 3)), none⟩, ⟨(some 22), (.ld 1 false (.t 21)), none⟩, ⟨(some 23), (.bldF 3 1 [(.t 22)]), none⟩, ⟨(some 24), (.app 3 1 8 (.t 20) (.t 23)), none⟩, ⟨(some 5), (.mv (.t 24)), none⟩]) (.seq (.reg [⟨(some 25), (.ld 2 true (.t 2)), none⟩, ⟨(some 26), (.fldA 1 (.t 3)), none⟩, ⟨(some 27), (.ld 1 false (.t 26)), none⟩, ⟨(some 28), (.pcall 105 [(.t 25), (.t 27)]), none⟩, ⟨(some 6), (.mv (.t 28)), none⟩]) (.seq (.reg [⟨(some 29), (.mv (.t 6)), none⟩, ⟨(some 30), (.bin .gtr (.t 29) (.c (.int .i64 (0)))), none⟩]) (.cond (.t 30) (.reg [⟨(some 31), (.mv (.t 5)), none⟩, ⟨(some 32), (.mv (.t 6)), none⟩, ⟨(some 33), (.bldF 3 1 [(.t 32)]), none⟩, ⟨(some 34), (.app 3 1 8 (.t 31) (.t 33)), none⟩, ⟨(some 5), (.mv (.t 34)), none⟩]) .skip)))) (.seq (.reg [⟨(some 36), (.bin .eql (.t 11) (.c (.int .i64 (6)))), none⟩, ⟨(some 35), (.mv (.t 36)), none⟩]) (.cond (.t 35) (.reg [⟨(some 37), (.mv (.t 5)), none⟩, ⟨(some 38), (.fldA 0 (.t 2)), none⟩, ⟨(some 39), (.ld 1 false (.t 38)), none⟩, ⟨(some 40), (.fldA 1 (.t 3)), none⟩, ⟨(some 41), (.ld 1 false (.t 40)), none⟩, ⟨(some 42), (.idxA 6 (.t 39) (.t 41)), none⟩, ⟨(some 43), (.fldA 4 (.t 42)), none⟩, ⟨(some 44), (.ld 1 false (.t 43)), none⟩, ⟨(some 45), (.bldF 3 1 [(.t 44)]), none⟩, ⟨(some 46), (.app 3 1 8 (.t 37) (.t 45)), none⟩, ⟨(some 5), (.mv (.t 46)), none⟩]) .skip)))))))) c65_s3))), [(.tmp 4)]⟩
theorem hc65 : toSF Tryz.prog {pure := [105], how := [(9, 2), (17, 2)]} Tryz.f65 = some c65 := by kernel_rfl
theorem hn65 : (Tryz.f65.name == "runtime.NumGoroutine") = false := by kernel_rfl
set_option maxHeartbeats 1000000 in
set_option maxRecDepth 10000 in
theorem atouched_end {h H : Heap} {E : Env} {r : Nat} {l : List Int} (h0 : h r = none) (S : Sub h H) (hl : l.length ≤ 100000) (hr : H r = some ⟨.t 3, 1, l.map eInt⟩) (E5 : E 5 = .osl r 1 0 l.length) :
    vc (Pg G) c65_s3 (retK [.tmp 4] fun a h' => Sub h h' ∧ VwT (newH h h') a (sl eInt (onceL l))) E H := by
  have hS := sortI_ok (G := G) (h := H) (r := r) (l := l) hr hl
  have hC := compactI_ok (G := G) (h := upd H r (some ⟨.t 3, 1, (sortL l).map eInt⟩)) (upd_same _ _ _) (by rw [sortL_len]; exact hl)
  rw [sortL_len] at hC
  rw [show Lib.compact (sortL l) = onceL l from rfl] at hC
  unfold c65_s3
  skip
  simp -dsimp -implicitDefEqProofs (disch := omega) only [VCA, ↓reduceIte, E5]
  repeat' (first | ((with_reducible refine Br.dec (fun _ => ?_) (fun _ => ?_)) <;> try (exfalso; omega)) | ((with_reducible refine Br.eq (fun _ => ?_) (fun _ => ?_)) <;> try (exfalso; omega)) | ((with_reducible refine Br.ne (fun _ => ?_) (fun _ => ?_)) <;> try (exfalso; omega)) | ((with_reducible refine brNdec (fun _ => ?_) (fun _ => ?_)) <;> try (exfalso; omega)) | ((with_reducible refine brNeq (fun _ => ?_) (fun _ => ?_)) <;> try (exfalso; omega)) | with_reducible refine Br.intro (fun _ => ?_) (fun _ => ?_) | ((refine DCalls.of hS ?_; rintro _ _ ⟨rfl, rfl⟩)) | ((refine DCalls.of hC ?_; rintro _ _ ⟨es, rfl, rfl, e1, e2⟩)) | (with_reducible refine And.intro ?_ ?_; · omega) | simp -dsimp -implicitDefEqProofs (disch := omega) only [VCA, Nat.reduceEqDiff, ↓reduceIte, E5])
  exact ⟨_, Sub.refl _, S.upd h0, once_out h0 (upd_same _ _ _) e1 e2⟩
set_option maxHeartbeats 1000000 in
set_option maxRecDepth 10000 in
theorem atouched_ok (d : HDoc) (V : DV d) (e : HEdit) (h0 : errR d e = 0) : PCalls (Pg G) 65 [.agg (eDoc d), .agg (eEdit e)] (sl eInt (touchL d e)) := PCalls.outV fun h => by
  have vl := V.len
  unfold touchL
  refine dcalls_of_vc Tryz.func65 hn65 hc65 (by rw [Tryz.ntmps65]; simp) (by rw [Tryz.ntmps65]; decide) ?_
  by_cases h4 : e.do' = 4
  · have hr4 : rawL d e = [(d.nodes.length : Int)] := by unfold rawL; rw [if_pos h4]
    rw [hr4]
    have b4 := bI_t h4
    simp -dsimp -implicitDefEqProofs (disch := omega) only [VCA, ↓upd_none, Nat.reduceEqDiff, Nat.reduceAdd, Nat.reduceLeDiff, ↓reduceIte, okParts, ne_eq, lit_eq, c65, eDoc, eEdit, b4]
    intro r9 hr9 r17 hr17
    exact atouched_end (l := [(d.nodes.length : Int)]) hr17.2 (((Sub.refl h).upd hr9).upd hr17.2) (by simp) (upd_same _ _ _) rfl
  have b4 := bI_f h4
  obtain ⟨do1, do6, hA, hT⟩ := errR_at h0 (by omega)
  have hA0 := hA.1
  have hA1 := hA.2
  have e0 : nth d.nodes e.at'.toNat = nd d e.at' := rfl
  by_cases h5 : e.do' = 5
  · have b5 := bI_t h5
    have hR := aroot_ok (G := G) d V e.at' hA
    unfold eDoc at hR
    by_cases ht : 0 < topM d e.at'
    · have hr5 : rawL d e = [e.at', e.to, topM d e.at'] := by unfold rawL; rw [if_neg h4, if_pos h5, if_pos ht]
      rw [hr5]
      simp -dsimp -implicitDefEqProofs (disch := omega) only [VCA, Nat.reduceEqDiff, Nat.reduceAdd, Nat.reduceMul, Nat.reduceLeDiff, ↓reduceIte, okParts, forall_eq, exists_eq_left, exists_eq_left', lit_eq, c65, eDoc, eEdit, b4, b5]
      intro r9 hr9
      repeat' (first | ((with_reducible refine Br.dec (fun _ => ?_) (fun _ => ?_)) <;> try (exfalso; omega)) | ((with_reducible refine Br.eq (fun _ => ?_) (fun _ => ?_)) <;> try (exfalso; omega)) | ((with_reducible refine Br.ne (fun _ => ?_) (fun _ => ?_)) <;> try (exfalso; omega)) | ((with_reducible refine brNdec (fun _ => ?_) (fun _ => ?_)) <;> try (exfalso; omega)) | ((with_reducible refine brNeq (fun _ => ?_) (fun _ => ?_)) <;> try (exfalso; omega)) | with_reducible refine Br.intro (fun _ => ?_) (fun _ => ?_) | (with_reducible refine And.intro ?_ ?_; · omega) | simp -dsimp -implicitDefEqProofs (disch := omega) only [VCA, pg_gl, ↓upd_none, Nat.reduceEqDiff, Nat.reduceBEq, Nat.reduceAdd, Nat.reduceSub, Nat.reduceMul, Nat.reduceLT, Nat.reduceLeDiff, ↓reduceIte, reduceCtorEq, rsOf, rootsOf, SOp.rd, SI.rd, SX.rd, rdL, rdO, rdP, okParts, eqCells, okEqCells, fillA, okFill, setAt, implies_true, forall_const, forall_eq, ne_eq, exists_eq_right_right, exists_eq_right, exists_eq_left, exists_eq_left', rootL, eInt, eBool, lit_eq, eDoc, eEdit, upd_same])
      intro r1 hr1
      rw [del_upd0 hr9] at hr1 ⊢
      repeat' (first | ((with_reducible refine Br.dec (fun _ => ?_) (fun _ => ?_)) <;> try (exfalso; omega)) | ((with_reducible refine Br.eq (fun _ => ?_) (fun _ => ?_)) <;> try (exfalso; omega)) | ((with_reducible refine Br.ne (fun _ => ?_) (fun _ => ?_)) <;> try (exfalso; omega)) | ((with_reducible refine brNdec (fun _ => ?_) (fun _ => ?_)) <;> try (exfalso; omega)) | ((with_reducible refine brNeq (fun _ => ?_) (fun _ => ?_)) <;> try (exfalso; omega)) | with_reducible refine Br.intro (fun _ => ?_) (fun _ => ?_) | (with_reducible apply pcallE.of; · exact hR) | (with_reducible refine And.intro ?_ ?_; · omega) | simp -dsimp -implicitDefEqProofs (disch := omega) only [VCA, Nat.reduceEqDiff, Nat.reduceAdd, Nat.reduceMul, Nat.reduceLeDiff, ↓reduceIte, okParts, forall_eq, exists_eq_left, exists_eq_left'])
      all_goals try (exfalso; omega)
      intro r2 hr2
      rw [del_upd0 hr1] at hr2 ⊢
      exact atouched_end (l := [e.at', e.to, topM d e.at']) hr2 ((Sub.refl h).upd hr2) (by simp) (upd_same _ _ _) rfl
    · have hr5 : rawL d e = [e.at', e.to] := by unfold rawL; rw [if_neg h4, if_pos h5, if_neg ht]
      rw [hr5]
      simp -dsimp -implicitDefEqProofs (disch := omega) only [VCA, Nat.reduceEqDiff, Nat.reduceAdd, Nat.reduceMul, Nat.reduceLeDiff, ↓reduceIte, okParts, forall_eq, exists_eq_left, exists_eq_left', lit_eq, c65, eDoc, eEdit, b4, b5]
      intro r9 hr9
      repeat' (first | ((with_reducible refine Br.dec (fun _ => ?_) (fun _ => ?_)) <;> try (exfalso; omega)) | ((with_reducible refine Br.eq (fun _ => ?_) (fun _ => ?_)) <;> try (exfalso; omega)) | ((with_reducible refine Br.ne (fun _ => ?_) (fun _ => ?_)) <;> try (exfalso; omega)) | ((with_reducible refine brNdec (fun _ => ?_) (fun _ => ?_)) <;> try (exfalso; omega)) | ((with_reducible refine brNeq (fun _ => ?_) (fun _ => ?_)) <;> try (exfalso; omega)) | with_reducible refine Br.intro (fun _ => ?_) (fun _ => ?_) | (with_reducible refine And.intro ?_ ?_; · omega) | simp -dsimp -implicitDefEqProofs (disch := omega) only [VCA, pg_gl, ↓upd_none, Nat.reduceEqDiff, Nat.reduceBEq, Nat.reduceAdd, Nat.reduceSub, Nat.reduceMul, Nat.reduceLT, Nat.reduceLeDiff, ↓reduceIte, reduceCtorEq, rsOf, rootsOf, SOp.rd, SI.rd, SX.rd, rdL, rdO, rdP, okParts, eqCells, okEqCells, fillA, okFill, setAt, implies_true, forall_const, forall_eq, ne_eq, exists_eq_right_right, exists_eq_right, exists_eq_left, exists_eq_left', rootL, eInt, eBool, lit_eq, eDoc, eEdit, upd_same])
      intro r1 hr1
      rw [del_upd0 hr9] at hr1 ⊢
      repeat' (first | ((with_reducible refine Br.dec (fun _ => ?_) (fun _ => ?_)) <;> try (exfalso; omega)) | ((with_reducible refine Br.eq (fun _ => ?_) (fun _ => ?_)) <;> try (exfalso; omega)) | ((with_reducible refine Br.ne (fun _ => ?_) (fun _ => ?_)) <;> try (exfalso; omega)) | ((with_reducible refine brNdec (fun _ => ?_) (fun _ => ?_)) <;> try (exfalso; omega)) | ((with_reducible refine brNeq (fun _ => ?_) (fun _ => ?_)) <;> try (exfalso; omega)) | with_reducible refine Br.intro (fun _ => ?_) (fun _ => ?_) | (with_reducible apply pcallE.of; · exact hR) | (with_reducible refine And.intro ?_ ?_; · omega) | simp -dsimp -implicitDefEqProofs (disch := omega) only [VCA, Nat.reduceAdd, ↓reduceIte])
      all_goals try (exfalso; omega)
      exact atouched_end (l := [e.at', e.to]) hr1 ((Sub.refl h).upd hr1) (by simp) (upd_same _ _ _) rfl
  have b5 := bI_f h5
  by_cases h6 : e.do' = 6
  · have b6 := bI_t h6
    have hr6 : rawL d e = [e.at', (nd d e.at').parent] := by unfold rawL; rw [if_neg h4, if_neg h5, if_pos h6]
    rw [hr6]
    simp -dsimp -implicitDefEqProofs (disch := omega) only [VCA, Nat.reduceEqDiff, Nat.reduceAdd, Nat.reduceMul, Nat.reduceLeDiff, ↓reduceIte, okParts, forall_eq, exists_eq_left, exists_eq_left', lit_eq, c65, eDoc, eEdit, eNode, b4, b5, b6, e0]
    intro r9 hr9
    repeat' (first | ((with_reducible refine Br.dec (fun _ => ?_) (fun _ => ?_)) <;> try (exfalso; omega)) | ((with_reducible refine Br.eq (fun _ => ?_) (fun _ => ?_)) <;> try (exfalso; omega)) | ((with_reducible refine Br.ne (fun _ => ?_) (fun _ => ?_)) <;> try (exfalso; omega)) | ((with_reducible refine brNdec (fun _ => ?_) (fun _ => ?_)) <;> try (exfalso; omega)) | ((with_reducible refine brNeq (fun _ => ?_) (fun _ => ?_)) <;> try (exfalso; omega)) | with_reducible refine Br.intro (fun _ => ?_) (fun _ => ?_) | (with_reducible refine And.intro ?_ ?_; · omega) | simp -dsimp -implicitDefEqProofs (disch := omega) only [VCA, pg_gl, ↓upd_none, Nat.reduceEqDiff, Nat.reduceBEq, Nat.reduceAdd, Nat.reduceSub, Nat.reduceMul, Nat.reduceLT, Nat.reduceLeDiff, ↓reduceIte, reduceCtorEq, rsOf, rootsOf, SOp.rd, SI.rd, SX.rd, rdL, rdO, rdP, okParts, eqCells, okEqCells, fillA, okFill, setAt, implies_true, forall_const, forall_eq, ne_eq, exists_eq_right_right, exists_eq_right, exists_eq_left, exists_eq_left', rootL, eInt, eBool, lit_eq, eDoc, eEdit, eNode, e0, upd_same])
    intro r1 hr1
    rw [del_upd0 hr9] at hr1 ⊢
    exact atouched_end (l := [e.at', (nd d e.at').parent]) hr1 ((Sub.refl h).upd hr1) (by simp) (upd_same _ _ _) rfl
  · have b6 := bI_f h6
    have hr6 : rawL d e = [e.at'] := by unfold rawL; rw [if_neg h4, if_neg h5, if_neg h6]
    rw [hr6]
    simp -dsimp -implicitDefEqProofs (disch := omega) only [VCA, Nat.reduceEqDiff, Nat.reduceAdd, Nat.reduceLeDiff, ↓reduceIte, okParts, lit_eq, c65, eDoc, eEdit, b4, b5, b6]
    intro r9 hr9
    exact atouched_end (l := [e.at']) hr9 ((Sub.refl h).upd hr9) (by simp) (upd_same _ _ _) rfl
end Go.Proofs.K
end
section
/- Edits apart: Touch, Clash. -/
set_option linter.unusedSimpArgs false
set_option linter.unusedVariables false
namespace Go.Proofs.K
open Go Go.Sim Go.Proofs
variable {G : Glob}
def c29 : SFun := ⟨(.seq (.reg [⟨(some 2), (.boxF 24 2 (.t 0)), none⟩, ⟨(some 3), (.boxF 42 12 (.t 1)), none⟩, ⟨(some 4), (.mv (.c .emp)), none⟩, ⟨(some 5), (.mv (.c (.int .i64 (0)))), none⟩]) (.seq (.seq (.reg [⟨(some 10), (.ld 2 true (.t 2)), none⟩, ⟨(some 11), (.ld 12 true (.t 3)), none⟩, ⟨(some 12), (.pcall 39 [(.t 10), (.t 11)]), none⟩, ⟨(some 9), (.mv (.t 12)), none⟩, ⟨(some 13), (.ext (.t 9) 0), none⟩, ⟨(some 14), (.ext (.t 9) 1), none⟩, ⟨(some 15), (.ext (.t 9) 2), none⟩, ⟨(some 6), (.new 24 2 [.emp, (.bool false)]), none⟩, ⟨none, (.st 2 (.t 6) (.t 13)), none⟩, ⟨(some 7), (.mv (.t 14)), none⟩, ⟨(some 8), (.mv (.t 15)), none⟩]) (.seq (.reg [⟨(some 16), (.mv (.t 8)), none⟩, ⟨(some 17), (.bin .neq (.t 16) (.c (.int .i64 (0)))), none⟩]) (.cond (.t 17) (.seq (.reg [⟨(some 18), (.mv (.t 8)), none⟩, ⟨(some 4), (.mv (.c .emp)), none⟩, ⟨(some 5), (.mv (.t 18)), none⟩]) .ret) .skip))) (.seq (.reg [⟨(some 19), (.ld 2 true (.t 2)), none⟩, ⟨(some 20), (.ld 12 true (.t 3)), none⟩, ⟨(some 21), (.pcall 65 [(.t 19), (.t 20)]), none⟩, ⟨(some 4), (.mv (.t 21)), none⟩, ⟨(some 5), (.mv (.c (.int .i64 (0)))), none⟩]) .ret))), [(.tmp 4), (.tmp 5)]⟩
theorem hc29 : toSF Tryz.prog {pure := [39, 65]} Tryz.f29 = some c29 := by kernel_rfl
theorem hn29 : (Tryz.f29.name == "runtime.NumGoroutine") = false := by kernel_rfl
theorem atouch_ok (d : HDoc) (sm : DocSm d) (e : HEdit) (he : EditSm e) : PCalls (Pg G) 29 [.agg (eDoc d), .agg (eEdit e)] (.tup [if applyE d e = 0 then sl eInt (touchL d e) else .emp, aInt (applyE d e)]) := fun h => by
  have hA := apply_ok (G := G) d sm e he
  by_cases h1 : applyE d e = 0
  · have V : DV d := by
      apply docE_DV
      apply Classical.byContradiction; intro hn
      unfold applyE at h1; rw [if_pos hn] at h1; exact hn h1
    have hT := atouched_ok (G := G) d V e (applyE_errR V h1)
    rw [if_pos h1]
    rw [h1] at hA ⊢
    refine dcalls_of_vc Tryz.func29 hn29 hc29 (by rw [Tryz.ntmps29]; simp) (by rw [Tryz.ntmps29]; decide) ?_
    simp -dsimp -implicitDefEqProofs (disch := omega) only [VCA, Nat.reduceEqDiff, ↓reduceIte, c29, eDoc_len, eDoc_take, eEdit_len, eEdit_take]
    repeat' (first | ((with_reducible refine Br.dec (fun _ => ?_) (fun _ => ?_)) <;> try (exfalso; omega)) | ((with_reducible refine Br.eq (fun _ => ?_) (fun _ => ?_)) <;> try (exfalso; omega)) | ((with_reducible refine Br.ne (fun _ => ?_) (fun _ => ?_)) <;> try (exfalso; omega)) | ((with_reducible refine brNdec (fun _ => ?_) (fun _ => ?_)) <;> try (exfalso; omega)) | ((with_reducible refine brNeq (fun _ => ?_) (fun _ => ?_)) <;> try (exfalso; omega)) | with_reducible refine Br.intro (fun _ => ?_) (fun _ => ?_) | (with_reducible apply pcallE.of; · exact hA) | (with_reducible refine And.intro ?_ ?_; · omega) | simp -dsimp -implicitDefEqProofs (disch := omega) only [VCA, Nat.reduceEqDiff, Nat.reduceAdd, Nat.reduceLT, ↓reduceIte, setAt, exists_eq_left', eDoc_len])
    intro r6 hr6
    repeat' (first | ((with_reducible refine Br.dec (fun _ => ?_) (fun _ => ?_)) <;> try (exfalso; omega)) | ((with_reducible refine Br.eq (fun _ => ?_) (fun _ => ?_)) <;> try (exfalso; omega)) | ((with_reducible refine Br.ne (fun _ => ?_) (fun _ => ?_)) <;> try (exfalso; omega)) | ((with_reducible refine brNdec (fun _ => ?_) (fun _ => ?_)) <;> try (exfalso; omega)) | ((with_reducible refine brNeq (fun _ => ?_) (fun _ => ?_)) <;> try (exfalso; omega)) | with_reducible refine Br.intro (fun _ => ?_) (fun _ => ?_) | (with_reducible apply pcallE.of; · exact hT) | (with_reducible refine And.intro ?_ ?_; · omega) | simp -dsimp -implicitDefEqProofs (disch := omega) only [VCA, Nat.reduceEqDiff, ↓reduceIte, exists_eq_right, eDoc_len, eDoc_take, eEdit_len, eEdit_take])
    all_goals first | exact (Sub.refl h).upd hr6 | exact ⟨(Sub.refl h).upd hr6, rfl⟩ | trace_state
  · rw [if_neg h1]
    have b1 : (applyE d e != 0) = true := bN_t h1
    refine dcalls_of_vc Tryz.func29 hn29 hc29 (by rw [Tryz.ntmps29]; simp) (by rw [Tryz.ntmps29]; decide) ?_
    simp -dsimp -implicitDefEqProofs (disch := omega) only [VCA, Nat.reduceEqDiff, ↓reduceIte, c29, eDoc_len, eDoc_take, eEdit_len, eEdit_take]
    repeat' (first | ((with_reducible refine Br.dec (fun _ => ?_) (fun _ => ?_)) <;> try (exfalso; omega)) | ((with_reducible refine Br.eq (fun _ => ?_) (fun _ => ?_)) <;> try (exfalso; omega)) | ((with_reducible refine Br.ne (fun _ => ?_) (fun _ => ?_)) <;> try (exfalso; omega)) | ((with_reducible refine brNdec (fun _ => ?_) (fun _ => ?_)) <;> try (exfalso; omega)) | ((with_reducible refine brNeq (fun _ => ?_) (fun _ => ?_)) <;> try (exfalso; omega)) | with_reducible refine Br.intro (fun _ => ?_) (fun _ => ?_) | (with_reducible apply pcallE.of; · exact hA) | (with_reducible refine And.intro ?_ ?_; · omega) | simp -dsimp -implicitDefEqProofs (disch := omega) only [VCA, Nat.reduceEqDiff, Nat.reduceAdd, Nat.reduceLT, ↓reduceIte, setAt, exists_eq_left', eDoc_len])
    intro r6 hr6
    repeat' (first | ((with_reducible refine Br.dec (fun _ => ?_) (fun _ => ?_)) <;> try (exfalso; omega)) | ((with_reducible refine Br.eq (fun _ => ?_) (fun _ => ?_)) <;> try (exfalso; omega)) | ((with_reducible refine Br.ne (fun _ => ?_) (fun _ => ?_)) <;> try (exfalso; omega)) | ((with_reducible refine brNdec (fun _ => ?_) (fun _ => ?_)) <;> try (exfalso; omega)) | ((with_reducible refine brNeq (fun _ => ?_) (fun _ => ?_)) <;> try (exfalso; omega)) | with_reducible refine Br.intro (fun _ => ?_) (fun _ => ?_) | (with_reducible refine And.intro ?_ ?_; · omega) | simp -dsimp -implicitDefEqProofs (disch := omega) only [VCA, Nat.reduceEqDiff, ↓reduceIte, exists_eq_right, b1])
    all_goals first | exact (Sub.refl h).upd hr6 | exact ⟨(Sub.refl h).upd hr6, rfl⟩ | trace_state
end Go.Proofs.K
end
section
/- Edits apart: Clash. -/
set_option linter.unusedSimpArgs false
set_option linter.unusedVariables false
namespace Go.Proofs.K
open Go Go.Sim Go.Proofs
variable {G : Glob}
def c106 : SFun := ⟨(.seq (.reg [⟨(some 4), (.mv (.c (.int .i64 (0)))), none⟩]) (.seq (.seq (.reg [⟨(some 6), (.mv (.t 0)), none⟩, ⟨(some 7), (.len (.t 6)), none⟩, ⟨(some 8), (.mv (.c (.int .i64 (0)))), none⟩]) (.block 0 (.loop (.seq (.reg [⟨(some 9), (.bin .lss (.t 8) (.t 7)), none⟩]) (.seq (.cond (.t 9) .skip (.exit 0)) (.seq (.block 1 (.seq (.reg [⟨(some 10), (.mv (.t 8)), none⟩, ⟨(some 5), (.mv (.t 10)), none⟩]) (.seq (.reg [⟨(some 11), (.mv (.t 1)), none⟩, ⟨(some 12), (.mv (.t 0)), none⟩, ⟨(some 13), (.mv (.t 5)), none⟩, ⟨(some 14), (.idxA 1 (.t 12) (.t 13)), none⟩, ⟨(some 15), (.ld 1 false (.t 14)), none⟩, ⟨(some 16), (.call (.t 11) [(.t 15)]), none⟩]) (.cond (.t 16) (.seq (.reg [⟨(some 17), (.mv (.t 5)), none⟩, ⟨(some 4), (.mv (.t 17)), none⟩]) .ret) .skip)))) (.reg [⟨(some 18), (.bin .add (.t 8) (.c (.int .i64 (1)))), none⟩, ⟨(some 8), (.mv (.t 18)), none⟩]))))))) (.seq (.reg [⟨(some 4), (.mv (.c (.int .i64 (-1)))), none⟩]) .ret))), [(.tmp 4)]⟩
theorem hc106 : toSF Tryz.prog {} Tryz.f106 = some c106 := by kernel_rfl
theorem hn106 : (Tryz.f106.name == "runtime.NumGoroutine") = false := by kernel_rfl
theorem indexFI_ok {h : Heap} (l : List Int) (f : Nat) (a b : List AVal) (p : Int → Bool) (hl : l.length ≤ 1073741824)
    (hp : ∀ x, DCalls (Pg G) f (a ++ ([aInt x] ++ b)) h fun r h' => r = .bool (p x) ∧ h' = h) : DCalls (Pg G) 106 [sl eInt l, .fn f a b] h fun r h' => r = aInt (idxM p l) ∧ h' = h := by
  refine dcalls_of_vc Tryz.func106 hn106 hc106 (by rw [Tryz.ntmps106]; simp) (by rw [Tryz.ntmps106]; decide) ?_
  simp -dsimp -implicitDefEqProofs (disch := omega) only [VCA, ↓reduceIte, reduceCtorEq, c106]
  refine LoopVC.intro (fun m e h' => ∃ k : Nat, k ≤ l.length ∧ m = l.length - k ∧ e 0 = sl eInt l ∧ e 1 = .fn f a b ∧ e 7 = aInt l.length ∧ e 8 = aInt k ∧ h' = h ∧ ∀ j, j < k → p (nth l j) = false) _ ⟨0, by omega, rfl, rfl, rfl, rfl, rfl, rfl, by omega⟩ ?_
  rintro m e h' ⟨k, hk, rfl, he0, he1, he7, he8, rfl, hj⟩
  simp -dsimp -implicitDefEqProofs (disch := omega) only [VCA, ↓reduceIte, he7, he8]
  refine Br.dec (fun hlt => ?_) (fun hge => ?_)
  · simp -dsimp -implicitDefEqProofs (disch := omega) only [VCA, Nat.reduceEqDiff, ↓reduceIte, reduceCtorEq, eInt, he0, he1, he8, eInt]
    refine ⟨by omega, DCalls.of (hp (nth l k)) ?_⟩
    rintro r h' ⟨rfl, rfl⟩
    simp -dsimp -implicitDefEqProofs (disch := omega) only [VCA, ↓reduceIte]
    refine Br.intro (fun ht => ?_) (fun hf => ?_)
    · simp -dsimp -implicitDefEqProofs (disch := omega) only [VCA, Nat.reduceEqDiff, ↓reduceIte, exists_eq_right_right]
      rw [idxM_some (by omega) hj ht]; exact ⟨Sub.refl _, rfl⟩
    · simp -dsimp -implicitDefEqProofs (disch := omega) only [VCA, Nat.reduceEqDiff, ↓reduceIte, reduceCtorEq, he0, he1, he7, he8]
      refine ⟨_, ?_, k + 1, by omega, rfl, by omega, fun j hj' => ?_⟩
      · omega
      · by_cases h1 : j = k
        · subst h1; exact hf
        · exact hj j (by omega)
  · simp -dsimp -implicitDefEqProofs (disch := omega) only [VCA, ↓reduceIte, exists_eq_right_right]
    rw [idxM_none (fun j hj' => hj j (by omega))]; exact ⟨Sub.refl _, rfl⟩
def c66 : SFun := ⟨(.seq (.reg [⟨(some 4), (.mv (.c (.bool false))), none⟩]) (.seq (.reg [⟨(some 5), (.mv (.t 0)), none⟩, ⟨(some 6), (.mv (.t 1)), none⟩, ⟨(some 7), (.call (.c (.fn 106 [] [])) [(.t 5), (.t 6)]), none⟩, ⟨(some 8), (.bin .geq (.t 7) (.c (.int .i64 (0)))), none⟩, ⟨(some 4), (.mv (.t 8)), none⟩]) .ret)), [(.tmp 4)]⟩
theorem hc66 : toSF Tryz.prog {} Tryz.f66 = some c66 := by kernel_rfl
theorem hn66 : (Tryz.f66.name == "runtime.NumGoroutine") = false := by kernel_rfl
theorem containsFI_ok {h : Heap} (l : List Int) (f : Nat) (a b : List AVal) (p : Int → Bool) (hl : l.length ≤ 1073741824)
    (hp : ∀ x, DCalls (Pg G) f (a ++ ([aInt x] ++ b)) h fun r h' => r = .bool (p x) ∧ h' = h) : DCalls (Pg G) 66 [sl eInt l, .fn f a b] h fun r h' => r = .bool (l.any p) ∧ h' = h := by
  refine dcalls_of_vc Tryz.func66 hn66 hc66 (by rw [Tryz.ntmps66]; simp) (by rw [Tryz.ntmps66]; decide) ?_
  simp -dsimp -implicitDefEqProofs (disch := omega) only [VCA, Nat.reduceEqDiff, ↓reduceIte, reduceCtorEq, c66]
  refine DCalls.of (indexFI_ok l f a b p hl hp) ?_
  rintro r h' ⟨rfl, rfl⟩
  simp -dsimp -implicitDefEqProofs (disch := omega) only [VCA, ↓reduceIte, exists_eq_right_right]
  exact ⟨Sub.refl _, idxM_any p l⟩
def c67 : SFun := ⟨(.seq (.reg [⟨(some 3), (.mv (.c (.bool false))), none⟩]) (.seq (.reg [⟨(some 4), (.ld 1 false (.t 1)), none⟩, ⟨(some 5), (.mv (.t 0)), none⟩, ⟨(some 6), (.pcall 68 [(.t 4), (.t 5)]), none⟩, ⟨(some 3), (.mv (.t 6)), none⟩]) .ret)), [(.tmp 3)]⟩
theorem hc67 : toSF Tryz.prog {pure := [68]} Tryz.f67 = some c67 := by kernel_rfl
theorem hn67 : (Tryz.f67.name == "runtime.NumGoroutine") = false := by kernel_rfl
theorem clash1_ok {h : Heap} {r : Nat} {T : OTy} (b : List Int) (hb : b.length ≤ 1073741824) (hr : h r = some ⟨T, 1, [[sl eInt b]]⟩) (n : Int) : DCalls (Pg G) 67 [aInt n, .vp r 0] h fun a h' => a = .bool (b.any (· == n)) ∧ h' = h := by
  have hC := hasI_ok (G := G) b n hb
  refine dcalls_of_vc Tryz.func67 hn67 hc67 (by rw [Tryz.ntmps67]; simp) (by rw [Tryz.ntmps67]; decide) ?_
  simp -dsimp -implicitDefEqProofs (disch := omega) only [VCA, Nat.reduceEqDiff, Nat.reduceLT, ↓reduceIte, reduceCtorEq, exists_eq_left', c67, hr]
  repeat' (first | ((with_reducible refine Br.dec (fun _ => ?_) (fun _ => ?_)) <;> try (exfalso; omega)) | ((with_reducible refine Br.eq (fun _ => ?_) (fun _ => ?_)) <;> try (exfalso; omega)) | ((with_reducible refine Br.ne (fun _ => ?_) (fun _ => ?_)) <;> try (exfalso; omega)) | ((with_reducible refine brNdec (fun _ => ?_) (fun _ => ?_)) <;> try (exfalso; omega)) | ((with_reducible refine brNeq (fun _ => ?_) (fun _ => ?_)) <;> try (exfalso; omega)) | with_reducible refine Br.intro (fun _ => ?_) (fun _ => ?_) | (with_reducible apply pcallE.of; · exact hC) | (with_reducible refine And.intro ?_ ?_; · omega) | simp -dsimp -implicitDefEqProofs (disch := omega) only [VCA, ↓reduceIte, exists_eq_right])
  all_goals first | exact Sub.refl _ | exact ⟨Sub.refl _, rfl⟩ | trace_state
def clashE (d : HDoc) (e f : HEdit) : Int := if applyE d e ≠ 0 then applyE d e else applyE d f
def clashB (d : HDoc) (e f : HEdit) : Bool := if clashE d e f = 0 then (touchL d e).any (fun x => (touchL d f).any (· == x)) else false
theorem touchL_len {d : HDoc} {e : HEdit} : (touchL d e).length ≤ 3 := by
  have h := (onceL_spec (rawL d e)).2.2
  have : (rawL d e).length ≤ 3 := by unfold rawL; (repeat' split) <;> simp
  unfold touchL; omega
def c30 : SFun := ⟨(.seq (.reg [⟨(some 3), (.boxF 24 2 (.t 0)), none⟩, ⟨(some 4), (.boxF 42 12 (.t 1)), none⟩, ⟨(some 5), (.boxF 42 12 (.t 2)), none⟩, ⟨(some 6), (.mv (.c (.bool false))), none⟩, ⟨(some 7), (.mv (.c (.int .i64 (0)))), none⟩]) (.seq (.reg [⟨(some 12), (.ld 2 true (.t 3)), none⟩, ⟨(some 13), (.ld 12 true (.t 4)), none⟩, ⟨(some 14), (.pcall 29 [(.t 12), (.t 13)]), none⟩, ⟨(some 11), (.mv (.t 14)), none⟩, ⟨(some 15), (.ext (.t 11) 0), none⟩, ⟨(some 16), (.ext (.t 11) 1), none⟩, ⟨(some 8), (.mv (.t 15)), none⟩, ⟨(some 9), (.mv (.t 16)), none⟩]) (.seq (.seq (.reg [⟨(some 17), (.mv (.t 9)), none⟩, ⟨(some 18), (.bin .neq (.t 17) (.c (.int .i64 (0)))), none⟩]) (.cond (.t 18) (.seq (.reg [⟨(some 19), (.mv (.t 9)), none⟩, ⟨(some 6), (.mv (.c (.bool false))), none⟩, ⟨(some 7), (.mv (.t 19)), none⟩]) .ret) .skip)) (.seq (.reg [⟨(some 21), (.ld 2 true (.t 3)), none⟩, ⟨(some 22), (.ld 12 true (.t 5)), none⟩, ⟨(some 23), (.pcall 29 [(.t 21), (.t 22)]), none⟩, ⟨(some 20), (.mv (.t 23)), none⟩, ⟨(some 24), (.ext (.t 20) 0), none⟩, ⟨(some 25), (.ext (.t 20) 1), none⟩, ⟨(some 10), (.new 38 1 [.emp]), none⟩, ⟨none, (.st 1 (.t 10) (.t 24)), none⟩, ⟨(some 9), (.mv (.t 25)), none⟩]) (.seq (.seq (.reg [⟨(some 26), (.mv (.t 9)), none⟩, ⟨(some 27), (.bin .neq (.t 26) (.c (.int .i64 (0)))), none⟩]) (.cond (.t 27) (.seq (.reg [⟨(some 28), (.mv (.t 9)), none⟩, ⟨(some 6), (.mv (.c (.bool false))), none⟩, ⟨(some 7), (.mv (.t 28)), none⟩]) .ret) .skip)) (.seq (.reg [⟨(some 29), (.mv (.t 8)), none⟩, ⟨(some 30), (.mkf 67 [] [(.t 10)]), none⟩, ⟨(some 31), (.call (.c (.fn 66 [] [])) [(.t 29), (.t 30)]), none⟩, ⟨(some 6), (.mv (.t 31)), none⟩, ⟨(some 7), (.mv (.c (.int .i64 (0)))), none⟩]) .ret)))))), [(.tmp 6), (.tmp 7)]⟩
theorem hc30 : toSF Tryz.prog {pure := [29]} Tryz.f30 = some c30 := by kernel_rfl
theorem hn30 : (Tryz.f30.name == "runtime.NumGoroutine") = false := by kernel_rfl
set_option maxRecDepth 10000 in
theorem aclash_ok (d : HDoc) (sm : DocSm d) (e f : HEdit) (he : EditSm e) (hf : EditSm f) : PCalls (Pg G) 30 [.agg (eDoc d), .agg (eEdit e), .agg (eEdit f)] (.tup [.bool (clashB d e f), aInt (clashE d e f)]) := fun h => by
  have h1 := atouch_ok (G := G) d sm e he
  have h2 := atouch_ok (G := G) d sm f hf
  have l1 := touchL_len (d := d) (e := e)
  have l2 := touchL_len (d := d) (e := f)
  by_cases c1 : applyE d e = 0
  · rw [if_pos c1, c1] at h1
    have cE : clashE d e f = applyE d f := by unfold clashE; rw [if_neg (by simpa using c1)]
    by_cases c2 : applyE d f = 0
    · rw [if_pos c2, c2] at h2
      have cB : clashB d e f = (touchL d e).any (fun x => (touchL d f).any (· == x)) := by unfold clashB; rw [cE, if_pos c2]
      rw [cB, cE, c2]
      have hK : ∀ (r : Nat) (T : OTy) (H : Heap), H r = some ⟨T, 1, [[sl eInt (touchL d f)]]⟩ → _ := fun r T H hr => containsFI_ok (G := G) (h := H) (touchL d e) 67 [] [.vp r 0] (fun x => (touchL d f).any (· == x)) (by omega) (fun x => clash1_ok (touchL d f) (by omega) hr x)
      generalize touchL d e = A at *
      generalize touchL d f = B at *
      refine dcalls_of_vc Tryz.func30 hn30 hc30 (by rw [Tryz.ntmps30]; simp) (by rw [Tryz.ntmps30]; decide) ?_
      simp -dsimp -implicitDefEqProofs (disch := omega) only [VCA, Nat.reduceEqDiff, ↓reduceIte, c30, eDoc_len, eDoc_take, eEdit_len, eEdit_take]
      repeat' (first | ((with_reducible refine Br.dec (fun _ => ?_) (fun _ => ?_)) <;> try (exfalso; omega)) | ((with_reducible refine Br.eq (fun _ => ?_) (fun _ => ?_)) <;> try (exfalso; omega)) | ((with_reducible refine Br.ne (fun _ => ?_) (fun _ => ?_)) <;> try (exfalso; omega)) | ((with_reducible refine brNdec (fun _ => ?_) (fun _ => ?_)) <;> try (exfalso; omega)) | ((with_reducible refine brNeq (fun _ => ?_) (fun _ => ?_)) <;> try (exfalso; omega)) | with_reducible refine Br.intro (fun _ => ?_) (fun _ => ?_) | (with_reducible apply pcallE.of; · exact h1) | (with_reducible apply pcallE.of; · exact h2) | (with_reducible refine And.intro ?_ ?_; · omega) | simp -dsimp -implicitDefEqProofs (disch := omega) only [VCA, Nat.reduceEqDiff, Nat.reduceAdd, Nat.reduceLT, ↓reduceIte, setAt, exists_eq_left', eDoc_len, eDoc_take, eEdit_len, eEdit_take])
      intro r10 hr10
      repeat' (first | ((with_reducible refine Br.dec (fun _ => ?_) (fun _ => ?_)) <;> try (exfalso; omega)) | ((with_reducible refine Br.eq (fun _ => ?_) (fun _ => ?_)) <;> try (exfalso; omega)) | ((with_reducible refine Br.ne (fun _ => ?_) (fun _ => ?_)) <;> try (exfalso; omega)) | ((with_reducible refine brNdec (fun _ => ?_) (fun _ => ?_)) <;> try (exfalso; omega)) | ((with_reducible refine brNeq (fun _ => ?_) (fun _ => ?_)) <;> try (exfalso; omega)) | with_reducible refine Br.intro (fun _ => ?_) (fun _ => ?_) | ((refine DCalls.of (hK r10 _ _ (upd_same _ _ _)) ?_; rintro _ _ ⟨rfl, rfl⟩)) | (with_reducible refine And.intro ?_ ?_; · omega) | simp -dsimp -implicitDefEqProofs (disch := omega) only [VCA, Nat.reduceEqDiff, ↓reduceIte, exists_eq_right])
      all_goals first | exact (Sub.refl h).upd hr10 | exact ⟨(Sub.refl h).upd hr10, rfl⟩ | trace_state
    · rw [if_neg c2] at h2
      have b2 : (applyE d f != 0) = true := bN_t c2
      have cB : clashB d e f = false := by unfold clashB; rw [cE, if_neg c2]
      rw [cB, cE]
      refine dcalls_of_vc Tryz.func30 hn30 hc30 (by rw [Tryz.ntmps30]; simp) (by rw [Tryz.ntmps30]; decide) ?_
      simp -dsimp -implicitDefEqProofs (disch := omega) only [VCA, Nat.reduceEqDiff, ↓reduceIte, c30, eDoc_len, eDoc_take, eEdit_len, eEdit_take]
      repeat' (first | ((with_reducible refine Br.dec (fun _ => ?_) (fun _ => ?_)) <;> try (exfalso; omega)) | ((with_reducible refine Br.eq (fun _ => ?_) (fun _ => ?_)) <;> try (exfalso; omega)) | ((with_reducible refine Br.ne (fun _ => ?_) (fun _ => ?_)) <;> try (exfalso; omega)) | ((with_reducible refine brNdec (fun _ => ?_) (fun _ => ?_)) <;> try (exfalso; omega)) | ((with_reducible refine brNeq (fun _ => ?_) (fun _ => ?_)) <;> try (exfalso; omega)) | with_reducible refine Br.intro (fun _ => ?_) (fun _ => ?_) | (with_reducible apply pcallE.of; · exact h1) | (with_reducible apply pcallE.of; · exact h2) | (with_reducible refine And.intro ?_ ?_; · omega) | simp -dsimp -implicitDefEqProofs (disch := omega) only [VCA, Nat.reduceEqDiff, Nat.reduceAdd, Nat.reduceLT, ↓reduceIte, setAt, exists_eq_left', eDoc_len, eDoc_take, eEdit_len, eEdit_take])
      intro r10 hr10
      repeat' (first | ((with_reducible refine Br.dec (fun _ => ?_) (fun _ => ?_)) <;> try (exfalso; omega)) | ((with_reducible refine Br.eq (fun _ => ?_) (fun _ => ?_)) <;> try (exfalso; omega)) | ((with_reducible refine Br.ne (fun _ => ?_) (fun _ => ?_)) <;> try (exfalso; omega)) | ((with_reducible refine brNdec (fun _ => ?_) (fun _ => ?_)) <;> try (exfalso; omega)) | ((with_reducible refine brNeq (fun _ => ?_) (fun _ => ?_)) <;> try (exfalso; omega)) | with_reducible refine Br.intro (fun _ => ?_) (fun _ => ?_) | (with_reducible refine And.intro ?_ ?_; · omega) | simp -dsimp -implicitDefEqProofs (disch := omega) only [VCA, Nat.reduceEqDiff, ↓reduceIte, exists_eq_right, b2])
      all_goals first | exact (Sub.refl h).upd hr10 | exact ⟨(Sub.refl h).upd hr10, rfl⟩ | trace_state
  · rw [if_neg c1] at h1
    have b1 : (applyE d e != 0) = true := bN_t c1
    have cE : clashE d e f = applyE d e := by unfold clashE; rw [if_pos c1]
    have cB : clashB d e f = false := by unfold clashB; rw [cE, if_neg c1]
    rw [cB, cE]
    refine dcalls_of_vc Tryz.func30 hn30 hc30 (by rw [Tryz.ntmps30]; simp) (by rw [Tryz.ntmps30]; decide) ?_
    simp -dsimp -implicitDefEqProofs (disch := omega) only [VCA, Nat.reduceEqDiff, ↓reduceIte, c30, eDoc_len, eDoc_take, eEdit_len, eEdit_take]
    repeat' (first | ((with_reducible refine Br.dec (fun _ => ?_) (fun _ => ?_)) <;> try (exfalso; omega)) | ((with_reducible refine Br.eq (fun _ => ?_) (fun _ => ?_)) <;> try (exfalso; omega)) | ((with_reducible refine Br.ne (fun _ => ?_) (fun _ => ?_)) <;> try (exfalso; omega)) | ((with_reducible refine brNdec (fun _ => ?_) (fun _ => ?_)) <;> try (exfalso; omega)) | ((with_reducible refine brNeq (fun _ => ?_) (fun _ => ?_)) <;> try (exfalso; omega)) | with_reducible refine Br.intro (fun _ => ?_) (fun _ => ?_) | (with_reducible apply pcallE.of; · exact h1) | (with_reducible refine And.intro ?_ ?_; · omega) | simp -dsimp -implicitDefEqProofs (disch := omega) only [VCA, Nat.reduceEqDiff, Nat.reduceAdd, Nat.reduceLT, ↓reduceIte, exists_eq_right, b1])
    all_goals first | exact Sub.refl h | exact ⟨Sub.refl h, rfl⟩ | trace_state
end Go.Proofs.K
end
section
/- Edits apart: the reference. -/
set_option linter.unusedSimpArgs false
set_option linter.unusedVariables false
namespace Go.Proofs.K
open Go Go.Sim Go.Proofs
variable {G : Glob}
def c31 : SFun := ⟨(.seq (.reg [⟨(some 2), (.boxF 24 2 (.t 0)), none⟩, ⟨(some 3), (.boxF 42 12 (.t 1)), none⟩, ⟨(some 4), (.mv (.c (.int .i64 (0)))), none⟩]) (.seq (.reg [⟨(some 6), (.ld 2 true (.t 2)), none⟩, ⟨(some 7), (.pcall 48 [(.t 6)]), none⟩, ⟨(some 5), (.mv (.t 7)), none⟩]) (.seq (.seq (.reg [⟨(some 8), (.mv (.t 5)), none⟩, ⟨(some 9), (.bin .eql (.t 8) (.c (.int .i64 (0)))), none⟩]) (.cond (.t 9) (.reg [⟨(some 11), (.ld 2 true (.t 2)), none⟩, ⟨(some 12), (.ld 12 true (.t 3)), none⟩, ⟨(some 13), (.pcall 26 [(.t 11), (.t 12)]), none⟩, ⟨(some 10), (.mv (.t 13)), none⟩, ⟨(some 14), (.ext (.t 10) 0), none⟩, ⟨(some 15), (.ext (.t 10) 1), none⟩, ⟨(some 16), (.ext (.t 10) 2), none⟩, ⟨(some 5), (.mv (.t 16)), none⟩]) .skip)) (.seq (.reg [⟨(some 17), (.mv (.t 5)), none⟩, ⟨(some 4), (.mv (.t 17)), none⟩]) .ret)))), [(.tmp 4)]⟩
theorem hc31 : toSF Tryz.prog {pure := [48, 26]} Tryz.f31 = some c31 := by kernel_rfl
theorem hn31 : (Tryz.f31.name == "runtime.NumGoroutine") = false := by kernel_rfl
theorem apartErr_ok (d : HDoc) (sm : DocSm d) (e : HEdit) (he : EditSm e) : PCalls (Pg G) 31 [.agg (eDoc d), .agg (eEdit e)] (aInt (applyE d e)) := fun h => by
  have hD := docErr_ok (G := G) d sm
  by_cases h0 : docE d = 0
  · have hE := edited_ok (G := G) d (docE_DV h0) sm e he
    unfold edR at hE
    rw [h0] at hD
    refine dcalls_of_vc Tryz.func31 hn31 hc31 (by rw [Tryz.ntmps31]; simp) (by rw [Tryz.ntmps31]; decide) ?_
    simp -dsimp -implicitDefEqProofs (disch := omega) only [VCA, Nat.reduceEqDiff, ↓reduceIte, c31, eDoc_len, eDoc_take, eEdit_len]
    repeat' (first | ((with_reducible refine Br.dec (fun _ => ?_) (fun _ => ?_)) <;> try (exfalso; omega)) | ((with_reducible refine Br.eq (fun _ => ?_) (fun _ => ?_)) <;> try (exfalso; omega)) | ((with_reducible refine Br.ne (fun _ => ?_) (fun _ => ?_)) <;> try (exfalso; omega)) | ((with_reducible refine brNdec (fun _ => ?_) (fun _ => ?_)) <;> try (exfalso; omega)) | ((with_reducible refine brNeq (fun _ => ?_) (fun _ => ?_)) <;> try (exfalso; omega)) | with_reducible refine Br.intro (fun _ => ?_) (fun _ => ?_) | (with_reducible apply pcallE.of; · exact hD) | (with_reducible apply pcallE.of; · exact hE) | (with_reducible refine And.intro ?_ ?_; · omega) | simp -dsimp -implicitDefEqProofs (disch := omega) only [VCA, Nat.reduceEqDiff, Nat.reduceAdd, Nat.reduceLT, ↓reduceIte, exists_eq_right, eDoc_len, eDoc_take, eEdit_len, eEdit_take])
    all_goals first | exact Sub.refl h | exact ⟨Sub.refl h, rfl⟩ | trace_state
  · have aE : applyE d e = docE d := by unfold applyE; rw [if_pos h0]
    rw [aE]
    have b0 : (docE d == 0) = false := by simpa using h0
    refine dcalls_of_vc Tryz.func31 hn31 hc31 (by rw [Tryz.ntmps31]; simp) (by rw [Tryz.ntmps31]; decide) ?_
    simp -dsimp -implicitDefEqProofs (disch := omega) only [VCA, Nat.reduceEqDiff, ↓reduceIte, c31, eDoc_len, eDoc_take, eEdit_len]
    repeat' (first | ((with_reducible refine Br.dec (fun _ => ?_) (fun _ => ?_)) <;> try (exfalso; omega)) | ((with_reducible refine Br.eq (fun _ => ?_) (fun _ => ?_)) <;> try (exfalso; omega)) | ((with_reducible refine Br.ne (fun _ => ?_) (fun _ => ?_)) <;> try (exfalso; omega)) | ((with_reducible refine brNdec (fun _ => ?_) (fun _ => ?_)) <;> try (exfalso; omega)) | ((with_reducible refine brNeq (fun _ => ?_) (fun _ => ?_)) <;> try (exfalso; omega)) | with_reducible refine Br.intro (fun _ => ?_) (fun _ => ?_) | (with_reducible apply pcallE.of; · exact hD) | (with_reducible refine And.intro ?_ ?_; · omega) | simp -dsimp -implicitDefEqProofs (disch := omega) only [VCA, Nat.reduceEqDiff, ↓reduceIte, exists_eq_right, b0])
    all_goals first | exact Sub.refl h | exact ⟨Sub.refl h, rfl⟩ | trace_state
def c32 : SFun := ⟨(.seq (.reg [⟨(some 3), (.boxF 24 2 (.t 0)), none⟩, ⟨(some 4), (.boxF 42 12 (.t 1)), none⟩, ⟨(some 6), (.mv (.c (.bool false))), none⟩]) (.seq (.seq (.reg [⟨(some 7), (.fldA 0 (.t 4)), none⟩, ⟨(some 8), (.ld 1 false (.t 7)), none⟩, ⟨(some 9), (.bin .eql (.t 8) (.c (.int .i64 (4)))), none⟩]) (.cond (.t 9) (.seq (.reg [⟨(some 10), (.mv (.t 2)), none⟩, ⟨(some 11), (.fldA 0 (.t 3)), none⟩, ⟨(some 12), (.ld 1 false (.t 11)), none⟩, ⟨(some 13), (.len (.t 12)), none⟩, ⟨(some 14), (.bin .eql (.t 10) (.t 13)), none⟩, ⟨(some 6), (.mv (.t 14)), none⟩]) .ret) .skip)) (.seq (.seq (.reg [⟨(some 15), (.mv (.t 2)), none⟩, ⟨(some 16), (.fldA 1 (.t 4)), none⟩, ⟨(some 17), (.ld 1 false (.t 16)), none⟩, ⟨(some 18), (.bin .eql (.t 15) (.t 17)), none⟩]) (.cond (.t 18) (.seq (.reg [⟨(some 6), (.mv (.c (.bool true))), none⟩]) .ret) .skip)) (.seq (.seq (.reg [⟨(some 19), (.fldA 0 (.t 4)), none⟩, ⟨(some 20), (.ld 1 false (.t 19)), none⟩, ⟨(some 21), (.bin .eql (.t 20) (.c (.int .i64 (6)))), none⟩]) (.cond (.t 21) (.seq (.reg [⟨(some 22), (.mv (.t 2)), none⟩, ⟨(some 23), (.fldA 0 (.t 3)), none⟩, ⟨(some 24), (.ld 1 false (.t 23)), none⟩, ⟨(some 25), (.fldA 1 (.t 4)), none⟩, ⟨(some 26), (.ld 1 false (.t 25)), none⟩, ⟨(some 27), (.idxA 6 (.t 24) (.t 26)), none⟩, ⟨(some 28), (.fldA 4 (.t 27)), none⟩, ⟨(some 29), (.ld 1 false (.t 28)), none⟩, ⟨(some 30), (.bin .eql (.t 22) (.t 29)), none⟩, ⟨(some 6), (.mv (.t 30)), none⟩]) .ret) .skip)) (.seq (.seq (.reg [⟨(some 31), (.fldA 0 (.t 4)), none⟩, ⟨(some 32), (.ld 1 false (.t 31)), none⟩, ⟨(some 33), (.bin .neq (.t 32) (.c (.int .i64 (5)))), none⟩]) (.cond (.t 33) (.seq (.reg [⟨(some 6), (.mv (.c (.bool false))), none⟩]) .ret) .skip)) (.seq (.reg [⟨(some 34), (.mv (.t 2)), none⟩, ⟨(some 35), (.fldA 2 (.t 4)), none⟩, ⟨(some 36), (.ld 1 false (.t 35)), none⟩, ⟨(some 37), (.bin .eql (.t 34) (.t 36)), none⟩, ⟨(some 38), (.mv (.t 37)), none⟩, ⟨(some 39), (.mv (.t 2)), (some (38, false))⟩, ⟨(some 40), (.bin .gtr (.t 39) (.c (.int .i64 (0)))), (some (38, false))⟩, ⟨(some 41), (.mv (.t 40)), (some (38, false))⟩, ⟨(some 42), (.mv (.t 2)), (some (41, true))⟩, ⟨(some 43), (.fldA 0 (.t 3)), (some (41, true))⟩, ⟨(some 44), (.ld 1 false (.t 43)), (some (41, true))⟩, ⟨(some 45), (.len (.t 44)), (some (41, true))⟩, ⟨(some 46), (.bin .lss (.t 42) (.t 45)), (some (41, true))⟩, ⟨(some 47), (.pick (.t 41) (.t 46) (.c (.bool false))), (some (38, false))⟩, ⟨(some 48), (.mv (.t 47)), (some (38, false))⟩, ⟨(some 49), (.fldA 0 (.t 3)), (some (48, true))⟩, ⟨(some 50), (.ld 1 false (.t 49)), (some (48, true))⟩, ⟨(some 51), (.mv (.t 2)), (some (48, true))⟩, ⟨(some 52), (.idxA 6 (.t 50) (.t 51)), (some (48, true))⟩, ⟨(some 53), (.fldA 4 (.t 52)), (some (48, true))⟩, ⟨(some 54), (.ld 1 false (.t 53)), (some (48, true))⟩, ⟨(some 55), (.bin .lss (.t 54) (.c (.int .i64 (0)))), (some (48, true))⟩, ⟨(some 56), (.pick (.t 48) (.t 55) (.c (.bool false))), (some (38, false))⟩, ⟨(some 57), (.mv (.t 56)), (some (38, false))⟩, ⟨(some 58), (.ld 2 true (.t 3)), (some (57, true))⟩, ⟨(some 59), (.fldA 1 (.t 4)), (some (57, true))⟩, ⟨(some 60), (.ld 1 false (.t 59)), (some (57, true))⟩, ⟨(some 61), (.mv (.t 2)), (some (57, true))⟩, ⟨(some 62), (.pcall 62 [(.t 58), (.t 60), (.t 61)]), (some (57, true))⟩, ⟨(some 63), (.pick (.t 57) (.t 62) (.c (.bool false))), (some (38, false))⟩, ⟨(some 64), (.pick (.t 38) (.c (.bool true)) (.t 63)), none⟩, ⟨(some 6), (.mv (.t 64)), none⟩]) .ret)))))), [(.tmp 6)]⟩
theorem hc32 : toSF Tryz.prog {pure := [62]} Tryz.f32 = some c32 := by kernel_rfl
theorem hn32 : (Tryz.f32.name == "runtime.NumGoroutine") = false := by kernel_rfl
set_option maxHeartbeats 1000000 in
set_option maxRecDepth 10000 in
theorem touches_ok (d : HDoc) (V : DV d) (e : HEdit) (h0 : errR d e = 0) (n : Int) (hn : 0 ≤ n) : PCalls (Pg G) 32 [.agg (eDoc d), .agg (eEdit e), aInt n] (.bool (decide (touchP d e n))) := fun h => by
  have vl := V.len
  refine dcalls_of_vc Tryz.func32 hn32 hc32 (by rw [Tryz.ntmps32]; simp) (by rw [Tryz.ntmps32]; decide) ?_
  by_cases h4 : e.do' = 4
  · have b4 := bI_t h4
    have k : decide (touchP d e n) = (n == (d.nodes.length : Int)) := by rw [Bool.eq_iff_iff, decide_eq_true_eq]; unfold touchP; simp [h4]
    rw [k]
    simp -dsimp -implicitDefEqProofs (disch := omega) only [VCA, Nat.reduceEqDiff, Nat.reduceAdd, Nat.reduceLeDiff, ↓reduceIte, exists_eq_right, c32, eDoc, eEdit, b4]
    all_goals first | exact Sub.refl h | exact ⟨Sub.refl h, rfl⟩ | trace_state
  have b4 := bI_f h4
  obtain ⟨do1, do6, hA, hT⟩ := errR_at h0 (by omega)
  have hA0 := hA.1
  have hA1 := hA.2
  have e0 : nth d.nodes e.at'.toNat = nd d e.at' := rfl
  have e1 : nth d.nodes n.toNat = nd d n := rfl
  by_cases p : n = e.at'
  · have bp := bI_t p
    have k : decide (touchP d e n) = true := decide_eq_true (by unfold touchP; rw [if_neg h4]; exact .inl p)
    rw [k]
    simp -dsimp -implicitDefEqProofs (disch := omega) only [VCA, Nat.reduceEqDiff, Nat.reduceAdd, Nat.reduceLeDiff, ↓reduceIte, exists_eq_right, c32, eDoc, eEdit, b4, bp]
    all_goals first | exact Sub.refl h | exact ⟨Sub.refl h, rfl⟩ | trace_state
  have bp := bI_f p
  by_cases h6 : e.do' = 6
  · have b6 := bI_t h6
    have k : decide (touchP d e n) = (n == (nd d e.at').parent) := by rw [Bool.eq_iff_iff, decide_eq_true_eq]; unfold touchP; simp [h6, p]
    rw [k]
    simp -dsimp -implicitDefEqProofs (disch := omega) only [VCA, Nat.reduceEqDiff, Nat.reduceAdd, Nat.reduceLeDiff, ↓reduceIte, exists_eq_right, c32, eDoc, eEdit, eNode, e0, b4, bp, b6]
    repeat' (first | ((with_reducible refine Br.dec (fun _ => ?_) (fun _ => ?_)) <;> try (exfalso; omega)) | ((with_reducible refine Br.eq (fun _ => ?_) (fun _ => ?_)) <;> try (exfalso; omega)) | ((with_reducible refine Br.ne (fun _ => ?_) (fun _ => ?_)) <;> try (exfalso; omega)) | ((with_reducible refine brNdec (fun _ => ?_) (fun _ => ?_)) <;> try (exfalso; omega)) | ((with_reducible refine brNeq (fun _ => ?_) (fun _ => ?_)) <;> try (exfalso; omega)) | with_reducible refine Br.intro (fun _ => ?_) (fun _ => ?_) | (with_reducible refine And.intro ?_ ?_; · omega) | simp -dsimp -implicitDefEqProofs (disch := omega) only [↓vcOps_sp 38, ↓vcD_sp 38, ↓vcOps_sp 41, ↓vcD_sp 41, ↓vcOps_sp 48, ↓vcD_sp 48, ↓vcOps_sp 57, ↓vcD_sp 57, VCA, pg_gl, ↓upd_none, Nat.reduceEqDiff, Nat.reduceBEq, Nat.reduceAdd, Nat.reduceSub, Nat.reduceMul, Nat.reduceLT, Nat.reduceLeDiff, ↓reduceIte, reduceCtorEq, rsOf, rootsOf, SOp.rd, SI.rd, SX.rd, rdL, rdO, rdP, okParts, eqCells, okEqCells, fillA, okFill, setAt, implies_true, forall_const, forall_eq, ne_eq, exists_eq_right_right, exists_eq_right, exists_eq_left, exists_eq_left', rootL, eInt, eBool, lit_eq, eDoc, eEdit, eNode, e0, b4, bp, b6])
    all_goals first | exact Sub.refl h | exact ⟨Sub.refl h, rfl⟩ | trace_state
  have b6 := bI_f h6
  by_cases h5 : e.do' = 5
  · have b5 := bN_f h5
    have hU := under_ok (G := G) d V e.at' n hA hn
    unfold eDoc at hU
    have k : decide (touchP d e n) = (n == e.to || (decide (0 < n) && (decide (n < (d.nodes.length : Int)) && (decide ((nd d n).parent < 0) && decide (n ∈ chain d e.at'))))) := by
      rw [Bool.eq_iff_iff, decide_eq_true_eq]; unfold touchP; simp [h5, p, inD, hn]
    rw [k]
    simp -dsimp -implicitDefEqProofs (disch := omega) only [↓vcOps_sp 38, VCA, Nat.reduceEqDiff, Nat.reduceAdd, Nat.reduceLeDiff, ↓reduceIte, c32, eDoc, eEdit, b4, bp, b6, b5]
    repeat' (first | ((with_reducible refine Br.dec (fun _ => ?_) (fun _ => ?_)) <;> try (exfalso; omega)) | ((with_reducible refine Br.eq (fun _ => ?_) (fun _ => ?_)) <;> try (exfalso; omega)) | ((with_reducible refine Br.ne (fun _ => ?_) (fun _ => ?_)) <;> try (exfalso; omega)) | ((with_reducible refine brNdec (fun _ => ?_) (fun _ => ?_)) <;> try (exfalso; omega)) | ((with_reducible refine brNeq (fun _ => ?_) (fun _ => ?_)) <;> try (exfalso; omega)) | with_reducible refine Br.intro (fun _ => ?_) (fun _ => ?_) | (with_reducible apply pcallE.of; · exact hU) | (with_reducible refine And.intro ?_ ?_; · omega) | simp -dsimp -implicitDefEqProofs (disch := omega) only [↓vcOps_sp 41, ↓vcOps_sp 48, ↓vcOps_sp 57, VCA, Nat.reduceEqDiff, Nat.reduceAdd, Nat.reduceLeDiff, ↓reduceIte, exists_eq_right_right, eNode, e1])
    all_goals first
      | (exfalso; omega)
      | (refine ⟨Sub.refl h, ?_⟩; simp_all; done)
      | (refine ⟨Sub.refl h, ?_⟩; symm; rw [Bool.eq_false_iff]; intro q; simp only [Bool.or_eq_true, Bool.and_eq_true, decide_eq_true_eq, beq_iff_eq] at q; rcases q with q | ⟨q1, q2, q3, q4⟩ <;> first | contradiction | omega)
      | exact Sub.refl h
      | trace_state
  · have b5 := bN_t h5
    have k : decide (touchP d e n) = false := decide_eq_false (by unfold touchP; rw [if_neg h4, if_neg h6, if_neg h5]; simp [p])
    rw [k]
    simp -dsimp -implicitDefEqProofs (disch := omega) only [VCA, Nat.reduceEqDiff, Nat.reduceAdd, Nat.reduceLeDiff, ↓reduceIte, exists_eq_right, c32, eDoc, eEdit, b4, bp, b6, b5]
    all_goals first | exact Sub.refl h | exact ⟨Sub.refl h, rfl⟩ | trace_state
end Go.Proofs.K
end
section
/- Steps: the reference's Do. -/
set_option linter.unusedSimpArgs false
set_option linter.unusedVariables false
namespace Go.Proofs.K
open Go Go.Sim Go.Proofs
variable {G : Glob}
end Go.Proofs.K
end
section
/- Steps undone (plain). -/
set_option linter.unusedSimpArgs false
set_option linter.unusedVariables false
namespace Go.Proofs.K
open Go Go.Sim Go.Proofs
/-- does a step fit? -/
def fitM (d : HDoc) (s : HStep) : Prop :=
  if s.edit.do' = 1 then inD d s.edit.at' ∧ 0 ≤ attrAt (nd d s.edit.at').attrs s.edit.name ∧ (s.had = true ∨ attrAt (nd d s.edit.at').attrs s.edit.name = ((nd d s.edit.at').attrs.length : Int) - 1)
  else if s.edit.do' = 2 then inD d s.edit.at' ∧ (nd d s.edit.at').kind = 2 ∧ 0 ≤ s.place ∧ s.place ≤ (nd d s.edit.at').attrs.length ∧ ¬ 0 ≤ attrAt (nd d s.edit.at').attrs s.edit.name
  else if s.edit.do' = 3 then inD d s.edit.at' ∧ ((nd d s.edit.at').kind = 3 ∨ (nd d s.edit.at').kind = 4)
  else if s.edit.do' = 4 then s.place = (d.nodes.length : Int) - 1 ∧ 2 ≤ d.nodes.length ∧ (nd d ((d.nodes.length : Int) - 1)).parent = -1 ∧ (nd d ((d.nodes.length : Int) - 1)).kids = []
  else if s.edit.do' = 5 then inD d s.edit.at' ∧ inD d s.edit.to ∧ 0 ≤ s.place ∧ s.place < (nd d s.edit.at').kids.length ∧ nth (nd d s.edit.at').kids s.place.toNat = s.edit.to
  else if s.edit.do' = 6 then inD d s.parent ∧ inD d s.edit.at' ∧ s.edit.at' ≠ 0 ∧ (nd d s.edit.at').parent = -1 ∧ 0 ≤ s.place ∧ s.place ≤ (nd d s.parent).kids.length
  else False
instance (d : HDoc) (s : HStep) : Decidable (fitM d s) := by unfold fitM inD; infer_instance
/-- what undoing leaves as it is: small lists, no name twice -/
structure USm (k : Nat) (d : HDoc) : Prop where
  len : d.nodes.length ≤ 200
  sm : DocSm d
  kids : ∀ n, (nd d n).kids.length ≤ 300 + k
  attrs : ∀ n, (nd d n).attrs.length ≤ 300 + k
  names : ∀ n, ((nd d n).attrs.map (·.name)).Nodup
theorem nd_setN_any {d : HDoc} {n m : Int} {x : HNode} : nd (setN d n x) m = x ∨ nd (setN d n x) m = nd d m := by
  unfold nd setN nth
  simp only [List.getD_eq_getElem?_getD, List.getElem?_set]
  split
  · split
    · exact .inl rfl
    · rename_i h1 h2
      right
      rw [List.getElem?_eq_none (by omega)]
  · exact .inr rfl
theorem USm.set {k : Nat} {d : HDoc} (U : USm k d) {n : Int} {x : HNode} (hx : NodeSm x) (h1 : x.kids.length ≤ 300 + (k + 1)) (h2 : x.attrs.length ≤ 300 + (k + 1)) (h3 : (x.attrs.map (·.name)).Nodup) : USm (k + 1) (setN d n x) := by
  refine ⟨by rw [setN_len]; exact U.len, U.sm.setN hx, fun m => ?_, fun m => ?_, fun m => ?_⟩
  · rcases nd_setN_any (d := d) (n := n) (m := m) (x := x) with h | h <;> rw [h]
    · exact h1
    · have := U.kids m; omega
  · rcases nd_setN_any (d := d) (n := n) (m := m) (x := x) with h | h <;> rw [h]
    · exact h2
    · have := U.attrs m; omega
  · rcases nd_setN_any (d := d) (n := n) (m := m) (x := x) with h | h <;> rw [h]
    · exact h3
    · exact U.names m
end Go.Proofs.K
end
section
/- Steps undone: the undoer's document. -/
set_option linter.unusedSimpArgs false
set_option linter.unusedVariables false
namespace Go.Proofs.K
open Go Go.Sim Go.Proofs
variable {G : Glob}
/-- an undoer: a document of its own, of which the first n nodes are there -/
structure Un (h0 h : Heap) (re rN : Nat) (d : HDoc) (n : Nat) (sl : Nat → AVal) : Prop where
  dw : Dw [re] h0 h rN d sl
  un : h re = some ⟨.t 79, 2, [[.osl rN 6 0 n, .bool d.quirks]]⟩
  new : h0 re = none
  live : ∀ k, k < 2 * d.nodes.length → Mut (sl k)
  le : n ≤ d.nodes.length
section
variable {h0 h : Heap} {re rN : Nat} {d : HDoc} {n : Nat} {sl : Nat → AVal}
theorem Un.ne (E : Un h0 h re rN d n sl) : re ≠ rN := fun e => E.dw.new.2 (by simp [e])
/-- a node's row changed -/
theorem Un.put (E : Un h0 h re rN d n sl) {h2 : Heap} {sl' : Nat → AVal} {i : Nat} (hi : i < d.nodes.length) {x' : HNode}
    (hs : ∀ j, j ≠ 2 * i → j ≠ 2 * i + 1 → sl' j = sl j)
    (hN : h2 rN = some ⟨.t 40, 6, (rowsA d sl).set i (rowA x' (sl' (2 * i)) (sl' (2 * i + 1)))⟩)
    (hk : ∀ r o, h r = some o → r ≠ rN → rootOf (sl (2 * i)) ≠ some r → rootOf (sl (2 * i + 1)) ≠ some r → h2 r = some o)
    (hA : OwnS h2 96 2 (x'.attrs.map eAttr) (sl' (2 * i))) (hK : OwnS h2 3 1 (x'.kids.map eInt) (sl' (2 * i + 1)))
    (hf : ∀ r, rootOf (sl' (2 * i)) = some r ∨ rootOf (sl' (2 * i + 1)) = some r → rootOf (sl (2 * i)) = some r ∨ rootOf (sl (2 * i + 1)) = some r ∨ h r = none)
    (hd : ∀ r, rootOf (sl' (2 * i)) = some r → rootOf (sl' (2 * i + 1)) ≠ some r)
    (hm : Mut (sl' (2 * i)) ∧ Mut (sl' (2 * i + 1))) : Un h0 h2 re rN ⟨d.nodes.set i x', d.quirks⟩ n sl' := by
  have hl : (d.nodes.set i x').length = d.nodes.length := by simp
  refine ⟨E.dw.put hi hs hN hk hA hK hf hd, ?_, E.new, fun k hk' => ?_, by rw [hl]; exact E.le⟩
  · show h2 re = some ⟨_, 2, [[.osl rN 6 0 n, _]]⟩
    refine hk re _ E.un E.ne (fun h => (E.dw.fresh _ (by omega) re h).2.2 (by simp)) (fun h => (E.dw.fresh _ (by omega) re h).2.2 (by simp))
  · simp only [hl] at hk'
    by_cases e1 : k = 2 * i
    · rw [e1]; exact hm.1
    · by_cases e2 : k = 2 * i + 1
      · rw [e2]; exact hm.2
      · rw [hs k e1 e2]; exact E.live k hk'
/-- .. but for its lists -/
theorem Un.cells (E : Un h0 h re rN d n sl) {i : Nat} (hi : i < d.nodes.length) {x' : HNode} (hA : x'.attrs = (nth d.nodes i).attrs) (hK : x'.kids = (nth d.nodes i).kids) :
    Un h0 (upd h rN (some ⟨.t 40, 6, (rowsA d sl).set i (rowA x' (sl (2 * i)) (sl (2 * i + 1)))⟩)) re rN ⟨d.nodes.set i x', d.quirks⟩ n sl := by
  obtain ⟨g1, g2⟩ := E.dw.own i hi
  have k1 : ∀ k, k < 2 * d.nodes.length → ∀ r, rootOf (sl k) = some r → r ≠ rN := fun k hk r hr => (E.dw.fresh k hk r hr).2.1
  refine E.put hi (fun _ _ _ => rfl) (upd_same _ _ _) (fun r o ho hne _ _ => by rw [upd_ne _ _ hne]; exact ho) ?_ ?_ (fun r hr => by rcases hr with h | h; exact .inl h; exact .inr (.inl h)) (fun r hr => E.dw.sep _ _ (by omega) (by omega) (by omega) r hr) ⟨E.live _ (by omega), E.live _ (by omega)⟩
  · rw [hA]; exact g1.keep fun r o hr ho => by rw [upd_ne _ _ (k1 _ (by omega) r hr)]; exact ho
  · rw [hK]; exact g2.keep fun r o hr ho => by rw [upd_ne _ _ (k1 _ (by omega) r hr)]; exact ho
end

/-- the first n nodes -/
def headD (d : HDoc) (n : Nat) : HDoc := ⟨d.nodes.take n, d.quirks⟩
theorem headD_len {d : HDoc} {n : Nat} (h : n ≤ d.nodes.length) : (headD d n).nodes.length = n := by unfold headD; rw [List.length_take]; omega
theorem nth_take' {α : Type} [Inhabited α] {l : List α} {i n : Nat} (h : i < n) : nth (l.take n) i = nth l i := by
  unfold nth; rw [List.getD_eq_getElem?_getD, List.getD_eq_getElem?_getD, List.getElem?_take, if_pos h]
end Go.Proofs.K
end
section
/- Steps undone: All of nothing gives a document of one's own; the list backward. -/
set_option linter.unusedSimpArgs false
set_option linter.unusedVariables false
namespace Go.Proofs.K
open Go Go.Sim Go.Proofs
variable {G : Glob}
end Go.Proofs.K
end
section
/- Steps undone: a list of steps backward. -/
set_option linter.unusedSimpArgs false
set_option linter.unusedVariables false
namespace Go.Proofs.K
open Go Go.Sim Go.Proofs
variable {G : Glob}
end Go.Proofs.K
end
section
/- Steps undone: Undo. -/
set_option linter.unusedSimpArgs false
set_option linter.unusedVariables false
namespace Go.Proofs.K
open Go Go.Sim Go.Proofs
variable {G : Glob}
/-- the first nodes, lent to a reader -/
theorem Dw.vwH {X : List Nat} {h0 h : Heap} {rN : Nat} {d : HDoc} {n : Nat} {sl' : Nat → AVal} (E : Dw X h0 h rN d sl') (le : n ≤ d.nodes.length) : Vw h (.osl rN 6 0 n) (sl eNode (headD d n).nodes) := by
  have key : ∀ (i : Nat), i < d.nodes.length → F2 (Vw h) (rowA (nth d.nodes i) (sl' (2 * i)) (sl' (2 * i + 1))) (eNode (nth d.nodes i)) := fun i hi => by
    obtain ⟨g1, g2⟩ := E.own i hi
    exact .cons (.refl _) (.cons (.refl _) (.cons g1.vw (.cons (.refl _) (.cons (.refl _) (.cons g2.vw .nil)))))
  have e1 : (rowsA d sl').take n = (List.range n).map fun i => rowA (nth d.nodes i) (sl' (2 * i)) (sl' (2 * i + 1)) := by unfold rowsA; rw [← List.map_take, List.take_range, Nat.min_eq_left le]
  have e2 : (headD d n).nodes.map eNode = (List.range n).map fun i => eNode (nth d.nodes i) := by
    apply List.ext_getElem?
    intro j
    have hl := headD_len le
    by_cases hj : j < n
    · rw [List.getElem?_map, List.getElem?_map, List.getElem?_range hj, nth_some (by omega), Option.map_some, Option.map_some]
      show some (eNode (nth (d.nodes.take n) j)) = _
      rw [nth_take' hj]
    · rw [List.getElem?_eq_none (by simp; omega), List.getElem?_eq_none (by simp; omega)]
  have gen : ∀ l : List Nat, (∀ i ∈ l, i < d.nodes.length) → F2 (F2 (Vw h)) (l.map fun i => rowA (nth d.nodes i) (sl' (2 * i)) (sl' (2 * i + 1))) (l.map fun i => eNode (nth d.nodes i)) := fun l => by
    induction l with
    | nil => intro _; exact .nil
    | cons i l ih => intro hl; exact .cons (key i (hl i List.mem_cons_self)) (ih fun j hj => hl j (List.mem_cons_of_mem _ hj))
  refine Vw.osl0 E.nodes (by rw [List.length_map, headD_len le]) (by rw [rowsA_len]; exact le) (fun f hf => by obtain ⟨x, _, rfl⟩ := List.mem_map.1 hf; rfl) ?_
  show F2 (F2 (Vw h)) ((rowsA d sl').take n) ((headD d n).nodes.map eNode)
  rw [e1, e2]
  exact gen _ fun i hi => by have := List.mem_range.1 hi; omega
end Go.Proofs.K
end
section
/- Steps: what must be in any case; the law of Do. -/
set_option linter.unusedSimpArgs false
set_option linter.unusedVariables false
namespace Go.Proofs.K
open Go Go.Sim Go.Proofs
variable {G : Glob}
end Go.Proofs.K
end
section
/- Edits apart: what must be in any case; the law of Touch and Clash. -/
set_option linter.unusedSimpArgs false
set_option linter.unusedVariables false
namespace Go.Proofs.K
open Go Go.Sim Go.Proofs
variable {G : Glob}
def apE : HEdit := ⟨1, 1, 0, 0, [98], [], ⟨0, [], [], [], 0, []⟩⟩
theorem apart_t : touchL oneD (zE 6 2 []) = [1, 2] ∧ touchL oneD (zE 3 2 []) = [2] ∧ touchL oneD apE = [1] := by
  have r1 : rawL oneD (zE 6 2 []) = [2, 1] := by decide +kernel
  have r2 : rawL oneD (zE 3 2 []) = [2] := by decide +kernel
  have r3 : rawL oneD apE = [1] := by decide +kernel
  refine ⟨?_, ?_, ?_⟩
  · unfold touchL; rw [r1]; exact onceL_eq (by decide) (fun x => by simp [or_comm])
  · unfold touchL; rw [r2]; exact onceL_eq (by decide) (fun x => by simp)
  · unfold touchL; rw [r3]; exact onceL_eq (by decide) (fun x => by simp)
theorem apart_is : applyE oneD (zE 6 2 []) = 0 ∧ touchL oneD (zE 6 2 []) = [1, 2] ∧ clashB oneD (zE 3 2 []) apE = false ∧ clashE oneD (zE 3 2 []) apE = 0 := by
  obtain ⟨t1, t2, t3⟩ := apart_t
  refine ⟨by decide +kernel, t1, ?_, by decide +kernel⟩
  unfold clashB
  rw [t2, t3]
  split <;> simp
theorem apE_sm : EditSm (zE 6 2 []) ∧ EditSm (zE 3 2 []) ∧ EditSm apE := ⟨⟨by decide, by decide, by decide, by decide, (fun a ha => by cases ha), by decide, by decide⟩, ⟨by decide, by decide, by decide, by decide, (fun a ha => by cases ha), by decide, by decide⟩, ⟨by decide, by decide, by decide, by decide, (fun a ha => by cases ha), by decide, by decide⟩⟩
def c33 : SFun := ⟨(.seq (.reg [⟨(some 0), (.mv (.c (.bool false))), none⟩]) (.seq (.reg [⟨(some 6), (.pcall 42 []), none⟩, ⟨(some 7), (.bld [(.int .i64 (0)), (.int .i64 (0)), (.int .i64 (0)), (.int .i64 (0)), (.str []), (.str []), (.int .i64 (0)), (.str []), .emp, (.str []), (.int .i64 (0)), .emp] [(0, (1, (.c (.int .i64 (6))))), (1, (1, (.c (.int .i64 (2)))))]), none⟩, ⟨(some 8), (.pcall 29 [(.t 6), (.t 7)]), none⟩, ⟨(some 5), (.mv (.t 8)), none⟩, ⟨(some 9), (.ext (.t 5) 0), none⟩, ⟨(some 10), (.ext (.t 5) 1), none⟩, ⟨(some 1), (.mv (.t 9)), none⟩, ⟨(some 2), (.mv (.t 10)), none⟩]) (.seq (.reg [⟨(some 12), (.pcall 42 []), none⟩, ⟨(some 13), (.bld [(.int .i64 (0)), (.int .i64 (0)), (.int .i64 (0)), (.int .i64 (0)), (.str []), (.str []), (.int .i64 (0)), (.str []), .emp, (.str []), (.int .i64 (0)), .emp] [(0, (1, (.c (.int .i64 (3))))), (1, (1, (.c (.int .i64 (2)))))]), none⟩, ⟨(some 14), (.bld [(.int .i64 (0)), (.int .i64 (0)), (.int .i64 (0)), (.int .i64 (0)), (.str []), (.str []), (.int .i64 (0)), (.str []), .emp, (.str []), (.int .i64 (0)), .emp] [(0, (1, (.c (.int .i64 (1))))), (1, (1, (.c (.int .i64 (1))))), (4, (1, (.c (.str [98]))))]), none⟩, ⟨(some 15), (.pcall 30 [(.t 12), (.t 13), (.t 14)]), none⟩, ⟨(some 11), (.mv (.t 15)), none⟩, ⟨(some 16), (.ext (.t 11) 0), none⟩, ⟨(some 17), (.ext (.t 11) 1), none⟩, ⟨(some 3), (.mv (.t 16)), none⟩, ⟨(some 4), (.mv (.t 17)), none⟩]) (.seq (.reg [⟨(some 18), (.mv (.t 2)), none⟩, ⟨(some 19), (.bin .eql (.t 18) (.c (.int .i64 (0)))), none⟩, ⟨(some 20), (.mv (.t 19)), none⟩, ⟨(some 21), (.mv (.t 1)), (some (20, true))⟩, ⟨(some 22), (.bldF 3 1 [(.c (.int .i64 (1))), (.c (.int .i64 (2)))]), (some (20, true))⟩, ⟨(some 23), (.pcall 34 [(.t 21), (.t 22)]), (some (20, true))⟩, ⟨(some 24), (.pick (.t 20) (.t 23) (.c (.bool false))), none⟩, ⟨(some 25), (.mv (.t 24)), none⟩, ⟨(some 26), (.mv (.t 3)), (some (25, true))⟩, ⟨(some 27), (.un .not (.t 26)), (some (25, true))⟩, ⟨(some 28), (.pick (.t 25) (.t 27) (.c (.bool false))), none⟩, ⟨(some 29), (.mv (.t 28)), none⟩, ⟨(some 30), (.mv (.t 4)), (some (29, true))⟩, ⟨(some 31), (.bin .eql (.t 30) (.c (.int .i64 (0)))), (some (29, true))⟩, ⟨(some 32), (.pick (.t 29) (.t 31) (.c (.bool false))), none⟩, ⟨(some 0), (.mv (.t 32)), none⟩]) .ret)))), [(.tmp 0)]⟩
theorem hc33 : toSF Tryz.prog {pure := [42, 29, 30, 34]} Tryz.f33 = some c33 := by kernel_rfl
theorem hn33 : (Tryz.f33.name == "runtime.NumGoroutine") = false := by kernel_rfl
set_option maxRecDepth 10000 in
theorem apartBegun_ok : PCalls (Pg G) 33 [] (.bool true) := fun h => by
  obtain ⟨b1, b2, b3, b4⟩ := apart_is
  obtain ⟨s1, s2, s3⟩ := apE_sm
  have hO := oneP_ok (G := G)
  have h1 : PCalls (Pg G) 29 [.agg (eDoc oneD), .agg [.int .i64 6, .int .i64 2, .int .i64 0, .int .i64 0, .str [], .str [], .int .i64 0, .str [], .emp, .str [], .int .i64 0, .emp]] (.tup [sl eInt [1, 2], aInt 0]) := by
    have h := (atouch_ok (G := G) oneD oneD_sm (zE 6 2 []) s1).wk (args := [.agg (eDoc oneD), .agg (eE0 (zE 6 2 []))]) (.cons (.refl _) (.cons (edit_wk _ rfl rfl) .nil))
    rw [if_pos b1, b1, b2] at h
    exact h
  have h2 : PCalls (Pg G) 30 [.agg (eDoc oneD), .agg [.int .i64 3, .int .i64 2, .int .i64 0, .int .i64 0, .str [], .str [], .int .i64 0, .str [], .emp, .str [], .int .i64 0, .emp], .agg [.int .i64 1, .int .i64 1, .int .i64 0, .int .i64 0, .str [98], .str [], .int .i64 0, .str [], .emp, .str [], .int .i64 0, .emp]] (.tup [.bool false, aInt 0]) := by
    have h := (aclash_ok (G := G) oneD oneD_sm (zE 3 2 []) apE s2 s3).wk (args := [.agg (eDoc oneD), .agg (eE0 (zE 3 2 [])), .agg (eE0 apE)]) (.cons (.refl _) (.cons (edit_wk _ rfl rfl) (.cons (edit_wk _ rfl rfl) .nil)))
    rw [b3, b4] at h
    exact h
  have h3 : PCalls (Pg G) 34 [sl eInt [1, 2], .slc [[.int .i64 1], [.int .i64 2]]] (.bool true) := sameN_ok (G := G) [1, 2] [1, 2] (by simp) (by simp)
  refine dcalls_of_vc Tryz.func33 hn33 hc33 (by rw [Tryz.ntmps33]; simp) (by rw [Tryz.ntmps33]; decide) ?_
  simp -dsimp -implicitDefEqProofs (disch := omega) only [VCA, c33]
  repeat' (first | ((with_reducible refine Br.dec (fun _ => ?_) (fun _ => ?_)) <;> try (exfalso; omega)) | ((with_reducible refine Br.eq (fun _ => ?_) (fun _ => ?_)) <;> try (exfalso; omega)) | ((with_reducible refine Br.ne (fun _ => ?_) (fun _ => ?_)) <;> try (exfalso; omega)) | ((with_reducible refine brNdec (fun _ => ?_) (fun _ => ?_)) <;> try (exfalso; omega)) | ((with_reducible refine brNeq (fun _ => ?_) (fun _ => ?_)) <;> try (exfalso; omega)) | with_reducible refine Br.intro (fun _ => ?_) (fun _ => ?_) | (with_reducible apply pcallE.of; · exact hO) | (with_reducible apply pcallE.of; · exact h1) | (with_reducible apply pcallE.of; · exact h2) | (with_reducible apply pcallE.of; · exact h3) | (with_reducible refine And.intro ?_ ?_; · omega) | simp -dsimp -implicitDefEqProofs (disch := omega) only [↓vcOps_sp 20, ↓vcOps_sp 25, ↓vcOps_sp 29, VCA, Nat.reduceEqDiff, Nat.reduceAdd, Nat.reduceLT, Nat.reduceLeDiff, ↓reduceIte, okParts, fillA, okFill, exists_eq_right_right])
  all_goals first | exact Sub.refl h | exact ⟨Sub.refl h, rfl⟩ | (exfalso; rename_i q; exact q rfl) | trace_state
theorem _root_.Go.Sim.Acc.vwH {h h' : Heap} {ty : TypeId} {sz : Nat} {cells : List (List AVal)} {a : AVal} (A : Acc h ty sz cells a h') (hl : ∀ f ∈ cells, f.length = sz) : Vw h' a (.slc cells) := by
  rcases A with ⟨rfl, rfl⟩ | ⟨r, h0, h1, rfl⟩
  · exact .emp
  · exact Vw.osl0 h1 rfl (Nat.le_refl _) hl (by rw [List.take_length]; exact F2.refl (F2.refl .refl) _)
def wantM (d : HDoc) (e : HEdit) (k : Nat) : List Int := ((List.range k).filter fun n : Nat => decide (touchP d e n)).map fun n : Nat => (n : Int)
def bothM (d : HDoc) (e f : HEdit) (k : Nat) : Bool := decide (applyE d f = 0) && (List.range k).any fun n : Nat => decide (touchP d e n) && decide (touchP d f n)
theorem wantM_succ (d : HDoc) (e : HEdit) (k : Nat) : wantM d e (k + 1) = if touchP d e k then wantM d e k ++ [(k : Int)] else wantM d e k := by
  unfold wantM
  rw [List.range_succ, List.filter_append, List.map_append]
  by_cases h : touchP d e k
  · rw [if_pos h]; simp [h]
  · rw [if_neg h]; simp [h]
theorem bothM_succ (d : HDoc) (e f : HEdit) (k : Nat) : bothM d e f (k + 1) = (bothM d e f k || (decide (applyE d f = 0) && (decide (touchP d e k) && decide (touchP d f k)))) := by
  unfold bothM
  rw [List.range_succ, List.any_append]
  simp only [List.any_cons, List.any_nil, Bool.or_false]
  cases decide (applyE d f = 0) <;> simp
theorem bothM_end {d : HDoc} (V : DV d) {e f : HEdit} (he : applyE d e = 0) : bothM d e f (d.nodes.length + 1) = clashB d e f := by
  have h1 := applyE_errR V he
  have cE : clashE d e f = applyE d f := by unfold clashE; rw [if_neg (by simpa using he)]
  unfold clashB bothM
  rw [cE]
  by_cases hf : applyE d f = 0
  · have h2 := applyE_errR V hf
    rw [if_pos hf, decide_eq_true hf, Bool.true_and, ← touch_is V h1]
    rw [Bool.eq_iff_iff, List.any_eq_true, List.any_eq_true]
    constructor
    · rintro ⟨n, hn, q⟩
      simp only [Bool.and_eq_true, decide_eq_true_eq] at q
      refine ⟨n, List.mem_map.2 ⟨n, List.mem_filter.2 ⟨hn, by simpa using q.1⟩, rfl⟩, ?_⟩
      rw [List.any_eq_true]
      refine ⟨n, ?_, by simp⟩
      unfold touchL
      exact ((onceL_spec _).2.1 _).2 ((touchP_iff V h2 _).1 q.2)
    · rintro ⟨x, hx, q⟩
      obtain ⟨n, hn, rfl⟩ := List.mem_map.1 hx
      obtain ⟨q1, q2⟩ := List.mem_filter.1 hn
      refine ⟨n, q1, ?_⟩
      rw [List.any_eq_true] at q
      obtain ⟨y, hy, hyx⟩ := q
      have : y = (n : Int) := by simpa using hyx
      subst this
      unfold touchL at hy
      have := (touchP_iff V h2 _).2 (((onceL_spec _).2.1 _).1 hy)
      simp only [Bool.and_eq_true, decide_eq_true_eq]
      exact ⟨by simpa using q2, this⟩
  · rw [if_neg hf, decide_eq_false hf]; rfl
end Go.Proofs.K
end
section
/- Edits apart: the law of Touch and Clash. -/
set_option linter.unusedSimpArgs false
set_option linter.unusedVariables false
namespace Go.Proofs.K
open Go Go.Sim Go.Proofs
variable {G : Glob}
def c7 : SFun := ⟨(.seq (.reg [⟨(some 3), (.box 24 2 (.t 0)), none⟩, ⟨(some 4), (.boxF 42 12 (.t 1)), none⟩, ⟨(some 5), (.boxF 42 12 (.t 2)), none⟩, ⟨(some 6), (.mv (.c (.bool false))), none⟩]) (.seq (.reg [⟨(some 16), (.ld 2 true (.t 3)), none⟩, ⟨(some 17), (.pcall 10 [(.t 16), (.c (.int .i64 (50)))]), none⟩, ⟨none, (.st 2 (.t 3) (.t 17)), none⟩]) (.seq (.reg [⟨(some 19), (.ld 2 true (.t 3)), none⟩, ⟨(some 20), (.ld 12 true (.t 4)), none⟩, ⟨(some 21), (.pcall 29 [(.t 19), (.t 20)]), none⟩, ⟨(some 18), (.mv (.t 21)), none⟩, ⟨(some 22), (.ext (.t 18) 0), none⟩, ⟨(some 23), (.ext (.t 18) 1), none⟩, ⟨(some 7), (.mv (.t 22)), none⟩, ⟨(some 8), (.mv (.t 23)), none⟩]) (.seq (.reg [⟨(some 25), (.ld 2 true (.t 3)), none⟩, ⟨(some 26), (.ld 12 true (.t 4)), none⟩, ⟨(some 27), (.ld 12 true (.t 5)), none⟩, ⟨(some 28), (.pcall 30 [(.t 25), (.t 26), (.t 27)]), none⟩, ⟨(some 24), (.mv (.t 28)), none⟩, ⟨(some 29), (.ext (.t 24) 0), none⟩, ⟨(some 30), (.ext (.t 24) 1), none⟩, ⟨(some 9), (.mv (.t 29)), none⟩, ⟨(some 10), (.mv (.t 30)), none⟩]) (.seq (.reg [⟨(some 31), (.ld 2 true (.t 3)), none⟩, ⟨(some 32), (.ld 12 true (.t 4)), none⟩, ⟨(some 33), (.pcall 31 [(.t 31), (.t 32)]), none⟩, ⟨(some 11), (.mv (.t 33)), none⟩]) (.seq (.reg [⟨(some 34), (.mv (.t 11)), none⟩, ⟨(some 12), (.mv (.t 34)), none⟩, ⟨(some 13), (.mv (.c (.bool false))), none⟩]) (.seq (.reg [⟨(some 14), (.mv (.c .emp)), none⟩]) (.seq (.seq (.reg [⟨(some 35), (.mv (.t 11)), none⟩, ⟨(some 36), (.bin .eql (.t 35) (.c (.int .i64 (0)))), none⟩]) (.cond (.t 36) (.seq (.reg [⟨(some 37), (.ld 2 true (.t 3)), none⟩, ⟨(some 38), (.ld 12 true (.t 5)), none⟩, ⟨(some 39), (.pcall 31 [(.t 37), (.t 38)]), none⟩, ⟨(some 12), (.mv (.t 39)), none⟩]) (.seq (.reg [⟨(some 15), (.mv (.c (.int .i64 (0)))), none⟩]) (.block 0 (.loop (.seq (.seq (.reg [⟨(some 40), (.mv (.t 15)), none⟩, ⟨(some 41), (.fldA 0 (.t 3)), none⟩, ⟨(some 42), (.ld 1 false (.t 41)), none⟩, ⟨(some 43), (.len (.t 42)), none⟩, ⟨(some 44), (.bin .leq (.t 40) (.t 43)), none⟩]) (.cond (.t 44) .skip (.exit 0))) (.seq (.block 1 (.seq (.reg [⟨(some 47), (.ld 2 true (.t 3)), none⟩, ⟨(some 48), (.ld 12 true (.t 4)), none⟩, ⟨(some 49), (.mv (.t 15)), none⟩, ⟨(some 50), (.pcall 32 [(.t 47), (.t 48), (.t 49)]), none⟩]) (.cond (.t 50) (.seq (.reg [⟨(some 51), (.mv (.t 14)), none⟩, ⟨(some 52), (.mv (.t 15)), none⟩, ⟨(some 53), (.bldF 3 1 [(.t 52)]), none⟩, ⟨(some 54), (.app 3 1 8 (.t 51) (.t 53)), none⟩, ⟨(some 14), (.mv (.t 54)), none⟩]) (.reg [⟨(some 55), (.mv (.t 13)), none⟩, ⟨(some 56), (.mv (.t 55)), none⟩, ⟨(some 57), (.mv (.t 12)), (some (56, false))⟩, ⟨(some 58), (.bin .eql (.t 57) (.c (.int .i64 (0)))), (some (56, false))⟩, ⟨(some 59), (.mv (.t 58)), (some (56, false))⟩, ⟨(some 60), (.ld 2 true (.t 3)), (some (59, true))⟩, ⟨(some 61), (.ld 12 true (.t 5)), (some (59, true))⟩, ⟨(some 62), (.mv (.t 15)), (some (59, true))⟩, ⟨(some 63), (.pcall 32 [(.t 60), (.t 61), (.t 62)]), (some (59, true))⟩, ⟨(some 64), (.pick (.t 59) (.t 63) (.c (.bool false))), (some (56, false))⟩, ⟨(some 65), (.pick (.t 56) (.c (.bool true)) (.t 64)), none⟩, ⟨(some 13), (.mv (.t 65)), none⟩])) .skip))) (.reg [⟨(some 45), (.mv (.t 15)), none⟩, ⟨(some 46), (.bin .add (.t 45) (.c (.int .i64 (1)))), none⟩, ⟨(some 15), (.mv (.t 46)), none⟩]))))))) .skip)) (.seq (.reg [⟨(some 66), (.pcall 33 []), none⟩, ⟨(some 67), (.mv (.t 66)), none⟩, ⟨(some 68), (.mv (.t 7)), (some (67, true))⟩, ⟨(some 69), (.mv (.t 14)), (some (67, true))⟩, ⟨(some 70), (.call (.c (.fn 34 [] [])) [(.t 68), (.t 69)]), (some (67, true))⟩, ⟨(some 71), (.pick (.t 67) (.t 70) (.c (.bool false))), none⟩, ⟨(some 72), (.mv (.t 71)), none⟩, ⟨(some 73), (.mv (.t 8)), (some (72, true))⟩, ⟨(some 74), (.mv (.t 11)), (some (72, true))⟩, ⟨(some 75), (.bin .eql (.t 73) (.t 74)), (some (72, true))⟩, ⟨(some 76), (.pick (.t 72) (.t 75) (.c (.bool false))), none⟩, ⟨(some 77), (.mv (.t 76)), none⟩, ⟨(some 78), (.mv (.t 9)), (some (77, true))⟩, ⟨(some 79), (.mv (.t 13)), (some (77, true))⟩, ⟨(some 80), (.eqb false (.t 78) (.t 79)), (some (77, true))⟩, ⟨(some 81), (.pick (.t 77) (.t 80) (.c (.bool false))), none⟩, ⟨(some 82), (.mv (.t 81)), none⟩, ⟨(some 83), (.mv (.t 10)), (some (82, true))⟩, ⟨(some 84), (.mv (.t 12)), (some (82, true))⟩, ⟨(some 85), (.bin .eql (.t 83) (.t 84)), (some (82, true))⟩, ⟨(some 86), (.pick (.t 82) (.t 85) (.c (.bool false))), none⟩, ⟨(some 6), (.mv (.t 86)), none⟩]) .ret))))))))), [(.tmp 6)]⟩
theorem hc7 : toSF Tryz.prog {pure := [10, 29, 30, 31, 32, 33], how := [(3, 6)]} Tryz.f7 = some c7 := by kernel_rfl
theorem hn7 : (Tryz.f7.name == "runtime.NumGoroutine") = false := by kernel_rfl
set_option maxHeartbeats 2000000 in
set_option maxRecDepth 10000 in
theorem apartTouches_ok (d : HDoc) (sm : DocSm d) (e f : HEdit) (he : EditSm e) (hf : EditSm f) : PCalls (Pg G) 7 [.agg (eDoc d), .agg (eEdit e), .agg (eEdit f)] (.bool true) := fun h => by
  have hF : PCalls (Pg G) 10 [.agg (eDoc d), .int .i64 50] (.agg (eDoc ⟨d.nodes.take 50, d.quirks⟩)) := few_ok (G := G) d 50 sm
  have fs := sm.few 50
  generalize (⟨d.nodes.take 50, d.quirks⟩ : HDoc) = D at *
  have h1 := atouch_ok (G := G) D fs e he
  have h2 := aclash_ok (G := G) D fs e f he hf
  have h3 := apartErr_ok (G := G) D fs e he
  have h4 := apartErr_ok (G := G) D fs f hf
  have hB := apartBegun_ok (G := G)
  have nn : D.nodes.length ≤ 1073741824 := fs.len
  by_cases c1 : applyE D e = 0
  · have V : DV D := by
      apply docE_DV
      apply Classical.byContradiction; intro hn
      unfold applyE at c1; rw [if_pos hn] at c1; exact hn c1
    have r1 := applyE_errR V c1
    have cE : clashE D e f = applyE D f := by unfold clashE; rw [if_neg (by simpa using c1)]
    rw [if_pos c1, c1] at h1
    rw [c1] at h3
    rw [cE] at h2
    have l1 := touchL_len (d := D) (e := e)
    refine dcalls_of_vc Tryz.func7 hn7 hc7 (by rw [Tryz.ntmps7]; simp) (by rw [Tryz.ntmps7]; decide) ?_
    simp -dsimp -implicitDefEqProofs (disch := omega) only [VCA, Nat.reduceEqDiff, Nat.reduceLT, ↓reduceIte, exists_eq_left', c7, eDoc_len, eDoc_take, eEdit_len]
    intro r3 hr3
    repeat' (first | ((with_reducible refine Br.dec (fun _ => ?_) (fun _ => ?_)) <;> try (exfalso; omega)) | ((with_reducible refine Br.eq (fun _ => ?_) (fun _ => ?_)) <;> try (exfalso; omega)) | ((with_reducible refine Br.ne (fun _ => ?_) (fun _ => ?_)) <;> try (exfalso; omega)) | ((with_reducible refine brNdec (fun _ => ?_) (fun _ => ?_)) <;> try (exfalso; omega)) | ((with_reducible refine brNeq (fun _ => ?_) (fun _ => ?_)) <;> try (exfalso; omega)) | with_reducible refine Br.intro (fun _ => ?_) (fun _ => ?_) | (with_reducible apply pcallE.of; · exact hF) | (with_reducible apply pcallE.of; · exact h1) | (with_reducible apply pcallE.of; · exact h2) | (with_reducible apply pcallE.of; · exact h3) | (with_reducible apply pcallE.of; · exact h4) | (with_reducible refine And.intro ?_ ?_; · omega) | simp -dsimp -implicitDefEqProofs (disch := omega) only [VCA, Nat.reduceEqDiff, Nat.reduceAdd, Nat.reduceLT, ↓reduceIte, setAt, exists_eq_left', eDoc_len, eDoc_take, eDoc_drop, eEdit_len, eEdit_take])
    have hcB := bothM_end V (f := f) c1
    have hcT : wantM D e (D.nodes.length + 1) = touchL D e := touch_is V r1
    refine LoopVC.intro (fun m E h' => ∃ (k : Nat) (a : AVal), k ≤ D.nodes.length + 1 ∧ m = D.nodes.length + 1 - k ∧ E 3 = .vp r3 0 ∧ E 4 = .pin (eEdit e) ∧ E 5 = .pin (eEdit f) ∧ E 7 = sl eInt (touchL D e) ∧ E 8 = aInt 0 ∧ E 9 = .bool (clashB D e f) ∧ E 10 = aInt (applyE D f) ∧ E 11 = aInt 0 ∧ E 12 = aInt (applyE D f) ∧ E 13 = .bool (bothM D e f k) ∧ E 14 = a ∧ E 15 = aInt k ∧ h' r3 = some ⟨.t 24, 2, [eDoc D]⟩ ∧ Acc h 3 1 ((wantM D e k).map eInt) a h' ∧ Sub h h' ∧ rootOf a ≠ some r3 ∧ (wantM D e k).length ≤ k) _
      ⟨0, .emp, by omega, rfl, rfl, rfl, rfl, rfl, rfl, rfl, rfl, rfl, rfl, ?_, rfl, rfl, upd_same _ _ _, .nil, (Sub.refl h).upd hr3, (fun q => by cases q), Nat.le_refl _⟩ ?_
    · show AVal.bool false = _
      unfold bothM; simp
    rintro m E h' ⟨k, a, hk, rfl, E3, E4, E5, E7, E8, E9, E10, E11, E12, E13, E14, E15, g3, A, S, na, wl⟩
    simp -dsimp -implicitDefEqProofs (disch := omega) only [VCA, Nat.reduceEqDiff, Nat.reduceAdd, Nat.reduceLT, Nat.reduceLeDiff, ↓reduceIte, ne_eq, exists_eq_left', E3, E15, g3, eDoc]
    refine Br.dec (fun hlt => ?_) (fun hge => ?_)
    · have hk' : k ≤ D.nodes.length := by omega
      have hTe := touches_ok (G := G) D V e r1 k (by omega)
      have bs := bothM_succ D e f k
      have ws := wantM_succ D e k
      by_cases T : touchP D e k
      · rw [decide_eq_true T] at hTe bs
        rw [if_pos T] at ws
        have fin : ∀ a' h3, Acc h 3 1 ((wantM D e k).map eInt ++ [[aInt (k : Int)]]) a' h3 → Acc h 3 1 ((wantM D e (k + 1)).map eInt) a' h3 := fun a' h3 q => by rw [ws, List.map_append]; exact q
        have wl2 : (wantM D e (k + 1)).length ≤ k + 1 := by rw [ws, List.length_append]; simp; omega
        by_cases B : bothM D e f k = true
        · rw [B] at E13 bs
          repeat' (first | ((with_reducible refine Br.dec (fun _ => ?_) (fun _ => ?_)) <;> try (exfalso; omega)) | ((with_reducible refine Br.eq (fun _ => ?_) (fun _ => ?_)) <;> try (exfalso; omega)) | ((with_reducible refine Br.ne (fun _ => ?_) (fun _ => ?_)) <;> try (exfalso; omega)) | ((with_reducible refine brNdec (fun _ => ?_) (fun _ => ?_)) <;> try (exfalso; omega)) | ((with_reducible refine brNeq (fun _ => ?_) (fun _ => ?_)) <;> try (exfalso; omega)) | with_reducible refine Br.intro (fun _ => ?_) (fun _ => ?_) | (with_reducible apply pcallE.of; · exact hTe) | ((refine A.appW S (by simp only [List.length_map]; simp; omega) (by simp only [List.length_map]; simp; omega) (fun a' h3 A' S' kp => ?_))) | (with_reducible refine And.intro ?_ ?_; · omega) | simp -dsimp -implicitDefEqProofs (disch := omega) only [↓vcOps_sp 56, ↓vcOps_sp 59, VCA, Nat.reduceEqDiff, Nat.reduceLT, ↓reduceIte, okParts, forall_eq, exists_eq_left, exists_eq_left', E3, E4, E5, E7, E8, E9, E10, E11, E12, E13, E14, E15, g3, eDoc_len, eDoc_take, eEdit_len, eEdit_take])
          obtain ⟨f3, p3⟩ := kp r3 _ g3 na
          repeat' (first | ((with_reducible refine Br.dec (fun _ => ?_) (fun _ => ?_)) <;> try (exfalso; omega)) | ((with_reducible refine Br.eq (fun _ => ?_) (fun _ => ?_)) <;> try (exfalso; omega)) | ((with_reducible refine Br.ne (fun _ => ?_) (fun _ => ?_)) <;> try (exfalso; omega)) | ((with_reducible refine brNdec (fun _ => ?_) (fun _ => ?_)) <;> try (exfalso; omega)) | ((with_reducible refine brNeq (fun _ => ?_) (fun _ => ?_)) <;> try (exfalso; omega)) | with_reducible refine Br.intro (fun _ => ?_) (fun _ => ?_) | (with_reducible refine And.intro ?_ ?_; · omega) | simp -dsimp -implicitDefEqProofs (disch := omega) only [VCA, f3])
          all_goals exact ⟨_, by omega, k + 1, a', by omega, rfl, by rw [bs]; rfl, rfl, by omega, rfl, fin a' h3 A', S', p3, wl2⟩
        · have B' : bothM D e f k = false := by simpa using B
          rw [B'] at E13 bs
          by_cases F0 : applyE D f = 0
          · have r2 := applyE_errR V F0
            have hTf := touches_ok (G := G) D V f r2 k (by omega)
            rw [F0] at E12
            rw [decide_eq_true F0] at bs
            generalize decide (touchP D f k) = tb at *
            repeat' (first | ((with_reducible refine Br.dec (fun _ => ?_) (fun _ => ?_)) <;> try (exfalso; omega)) | ((with_reducible refine Br.eq (fun _ => ?_) (fun _ => ?_)) <;> try (exfalso; omega)) | ((with_reducible refine Br.ne (fun _ => ?_) (fun _ => ?_)) <;> try (exfalso; omega)) | ((with_reducible refine brNdec (fun _ => ?_) (fun _ => ?_)) <;> try (exfalso; omega)) | ((with_reducible refine brNeq (fun _ => ?_) (fun _ => ?_)) <;> try (exfalso; omega)) | with_reducible refine Br.intro (fun _ => ?_) (fun _ => ?_) | (with_reducible apply pcallE.of; · exact hTe) | ((refine A.appW S (by simp only [List.length_map]; simp; omega) (by simp only [List.length_map]; simp; omega) (fun a' h3 A' S' kp => ?_))) | (with_reducible refine And.intro ?_ ?_; · omega) | simp -dsimp -implicitDefEqProofs (disch := omega) only [↓vcOps_sp 56, ↓vcOps_sp 59, VCA, Nat.reduceEqDiff, Nat.reduceLT, ↓reduceIte, okParts, forall_eq, exists_eq_left, exists_eq_left', E3, E4, E5, E12, E13, E14, E15, g3, eDoc_len, eDoc_take, eEdit_len, eEdit_take])
            obtain ⟨f3, p3⟩ := kp r3 _ g3 na
            repeat' (first | ((with_reducible refine Br.dec (fun _ => ?_) (fun _ => ?_)) <;> try (exfalso; omega)) | ((with_reducible refine Br.eq (fun _ => ?_) (fun _ => ?_)) <;> try (exfalso; omega)) | ((with_reducible refine Br.ne (fun _ => ?_) (fun _ => ?_)) <;> try (exfalso; omega)) | ((with_reducible refine brNdec (fun _ => ?_) (fun _ => ?_)) <;> try (exfalso; omega)) | ((with_reducible refine brNeq (fun _ => ?_) (fun _ => ?_)) <;> try (exfalso; omega)) | with_reducible refine Br.intro (fun _ => ?_) (fun _ => ?_) | (with_reducible apply pcallE.of; · exact hTf) | (with_reducible refine And.intro ?_ ?_; · omega) | simp -dsimp -implicitDefEqProofs (disch := omega) only [VCA, Nat.reduceEqDiff, Nat.reduceLT, ↓reduceIte, exists_eq_left', E3, E4, E5, E7, E8, E9, E10, E11, E12, E15, f3, eDoc_len, eDoc_take])
            all_goals first
              | (exfalso; omega)
              | exact ⟨_, by omega, k + 1, a', by omega, rfl, F0.symm, by rw [bs]; simp, rfl, by omega, rfl, fin a' h3 A', S', p3, wl2⟩
              | trace_state
          · have b0 : (applyE D f == 0) = false := by simpa using F0
            rw [decide_eq_false F0] at bs
            repeat' (first | ((with_reducible refine Br.dec (fun _ => ?_) (fun _ => ?_)) <;> try (exfalso; omega)) | ((with_reducible refine Br.eq (fun _ => ?_) (fun _ => ?_)) <;> try (exfalso; omega)) | ((with_reducible refine Br.ne (fun _ => ?_) (fun _ => ?_)) <;> try (exfalso; omega)) | ((with_reducible refine brNdec (fun _ => ?_) (fun _ => ?_)) <;> try (exfalso; omega)) | ((with_reducible refine brNeq (fun _ => ?_) (fun _ => ?_)) <;> try (exfalso; omega)) | with_reducible refine Br.intro (fun _ => ?_) (fun _ => ?_) | (with_reducible apply pcallE.of; · exact hTe) | ((refine A.appW S (by simp only [List.length_map]; simp; omega) (by simp only [List.length_map]; simp; omega) (fun a' h3 A' S' kp => ?_))) | (with_reducible refine And.intro ?_ ?_; · omega) | simp -dsimp -implicitDefEqProofs (disch := omega) only [↓vcOps_sp 56, ↓vcOps_sp 59, VCA, Nat.reduceEqDiff, Nat.reduceLT, ↓reduceIte, okParts, forall_eq, exists_eq_left, exists_eq_left', E3, E4, E5, E7, E8, E9, E10, E11, E12, E13, E14, E15, g3, eDoc_len, eDoc_take, eEdit_len, eEdit_take])
            obtain ⟨f3, p3⟩ := kp r3 _ g3 na
            repeat' (first | ((with_reducible refine Br.dec (fun _ => ?_) (fun _ => ?_)) <;> try (exfalso; omega)) | ((with_reducible refine Br.eq (fun _ => ?_) (fun _ => ?_)) <;> try (exfalso; omega)) | ((with_reducible refine Br.ne (fun _ => ?_) (fun _ => ?_)) <;> try (exfalso; omega)) | ((with_reducible refine brNdec (fun _ => ?_) (fun _ => ?_)) <;> try (exfalso; omega)) | ((with_reducible refine brNeq (fun _ => ?_) (fun _ => ?_)) <;> try (exfalso; omega)) | with_reducible refine Br.intro (fun _ => ?_) (fun _ => ?_) | (with_reducible refine And.intro ?_ ?_; · omega) | simp -dsimp -implicitDefEqProofs (disch := omega) only [VCA, f3])
            all_goals first
              | (exfalso; omega)
              | exact ⟨_, by omega, k + 1, a', by omega, rfl, by rw [bs]; rfl, rfl, by omega, rfl, fin a' h3 A', S', p3, wl2⟩
              | trace_state
      · rw [decide_eq_false T] at hTe bs
        rw [if_neg T] at ws
        have bs' : bothM D e f (k + 1) = bothM D e f k := by rw [bs]; simp
        repeat' (first | ((with_reducible refine Br.dec (fun _ => ?_) (fun _ => ?_)) <;> try (exfalso; omega)) | ((with_reducible refine Br.eq (fun _ => ?_) (fun _ => ?_)) <;> try (exfalso; omega)) | ((with_reducible refine Br.ne (fun _ => ?_) (fun _ => ?_)) <;> try (exfalso; omega)) | ((with_reducible refine brNdec (fun _ => ?_) (fun _ => ?_)) <;> try (exfalso; omega)) | ((with_reducible refine brNeq (fun _ => ?_) (fun _ => ?_)) <;> try (exfalso; omega)) | with_reducible refine Br.intro (fun _ => ?_) (fun _ => ?_) | (with_reducible apply pcallE.of; · exact hTe) | (with_reducible refine And.intro ?_ ?_; · omega) | simp -dsimp -implicitDefEqProofs (disch := omega) only [VCA, Nat.reduceEqDiff, Nat.reduceLT, ↓reduceIte, exists_eq_left', E3, E4, E5, E7, E8, E9, E10, E11, E12, E13, E14, E15, g3, eDoc_len, eDoc_take, eEdit_len, eEdit_take])
        all_goals first
          | (exfalso; omega)
          | exact ⟨_, by omega, k + 1, a, by omega, rfl, by rw [bs'], rfl, by omega, rfl, by rw [ws]; exact A, S, na, by rw [ws]; omega⟩
          | trace_state
    · obtain rfl : k = D.nodes.length + 1 := by omega
      rw [hcB] at E13
      rw [hcT] at A
      have hSa : DCalls (Pg G) 34 [sl eInt (touchL D e), a] h' (fun r h2 => r = .bool (touchL D e == touchL D e) ∧ h2 = h') := DCalls.bor (sameN_ok (G := G) (touchL D e) (touchL D e) (by omega) (by omega)) (.bool _) (.cons (.refl _) (.cons (A.vwH fun q hq => by obtain ⟨x, _, rfl⟩ := List.mem_map.1 hq; rfl) .nil))
      have bb : (clashB D e f == clashB D e f) = true := by simp
      have b2 : (applyE D f == applyE D f) = true := by simp
      rw [show (touchL D e == touchL D e) = true by simp] at hSa
      generalize clashB D e f = cb at *
      repeat' (first | ((with_reducible refine Br.dec (fun _ => ?_) (fun _ => ?_)) <;> try (exfalso; omega)) | ((with_reducible refine Br.eq (fun _ => ?_) (fun _ => ?_)) <;> try (exfalso; omega)) | ((with_reducible refine Br.ne (fun _ => ?_) (fun _ => ?_)) <;> try (exfalso; omega)) | ((with_reducible refine brNdec (fun _ => ?_) (fun _ => ?_)) <;> try (exfalso; omega)) | ((with_reducible refine brNeq (fun _ => ?_) (fun _ => ?_)) <;> try (exfalso; omega)) | with_reducible refine Br.intro (fun _ => ?_) (fun _ => ?_) | (with_reducible apply pcallE.of; · exact hB) | ((refine DCalls.of hSa ?_; rintro _ _ ⟨rfl, rfl⟩)) | (with_reducible refine And.intro ?_ ?_; · omega) | simp -dsimp -implicitDefEqProofs (disch := omega) only [↓vcOps_sp 67, ↓vcOps_sp 72, ↓vcOps_sp 77, ↓vcOps_sp 82, VCA, Nat.reduceEqDiff, ↓reduceIte, exists_eq_right, E7, E8, E9, E10, E11, E12, E13, E14, bb, b2])
      all_goals first | exact S | exact ⟨S, by simp⟩ | (exfalso; rename_i q; exact q rfl) | trace_state
  · have cE : clashE D e f = applyE D e := by unfold clashE; rw [if_pos c1]
    have cB : clashB D e f = false := by unfold clashB; rw [cE, if_neg c1]
    rw [if_neg c1] at h1
    rw [cE, cB] at h2
    have b1 : (applyE D e == 0) = false := by simpa using c1
    have b2 : (applyE D e == applyE D e) = true := by simp
    have hS0 : PCalls (Pg G) 34 [.emp, .emp] (.bool true) := (sameN_ok (G := G) [] [] (by simp) (by simp)).wk (.cons .emp (.cons .emp .nil))
    refine dcalls_of_vc Tryz.func7 hn7 hc7 (by rw [Tryz.ntmps7]; simp) (by rw [Tryz.ntmps7]; decide) ?_
    simp -dsimp -implicitDefEqProofs (disch := omega) only [VCA, Nat.reduceEqDiff, Nat.reduceLT, ↓reduceIte, exists_eq_left', c7, eDoc_len, eDoc_take, eEdit_len]
    intro r3 hr3
    repeat' (first | ((with_reducible refine Br.dec (fun _ => ?_) (fun _ => ?_)) <;> try (exfalso; omega)) | ((with_reducible refine Br.eq (fun _ => ?_) (fun _ => ?_)) <;> try (exfalso; omega)) | ((with_reducible refine Br.ne (fun _ => ?_) (fun _ => ?_)) <;> try (exfalso; omega)) | ((with_reducible refine brNdec (fun _ => ?_) (fun _ => ?_)) <;> try (exfalso; omega)) | ((with_reducible refine brNeq (fun _ => ?_) (fun _ => ?_)) <;> try (exfalso; omega)) | with_reducible refine Br.intro (fun _ => ?_) (fun _ => ?_) | (with_reducible apply pcallE.of; · exact hF) | (with_reducible apply pcallE.of; · exact h1) | (with_reducible apply pcallE.of; · exact h2) | (with_reducible apply pcallE.of; · exact h3) | (with_reducible apply pcallE.of; · exact hB) | ((refine DCalls.of (hS0 _) ?_; rintro _ _ ⟨rfl, rfl⟩)) | (with_reducible refine And.intro ?_ ?_; · omega) | simp -dsimp -implicitDefEqProofs (disch := omega) only [↓vcOps_sp 67, ↓vcOps_sp 72, ↓vcOps_sp 77, ↓vcOps_sp 82, VCA, Nat.reduceEqDiff, Nat.reduceAdd, Nat.reduceLT, ↓reduceIte, setAt, exists_eq_right_right, exists_eq_right, exists_eq_left', b1, b2, eDoc_len, eDoc_take, eDoc_drop, eEdit_len, eEdit_take])
    all_goals first | exact (Sub.refl h).upd hr3 | exact ⟨(Sub.refl h).upd hr3, by simp⟩ | (exfalso; rename_i q; exact q rfl) | trace_state
end Go.Proofs.K
end
