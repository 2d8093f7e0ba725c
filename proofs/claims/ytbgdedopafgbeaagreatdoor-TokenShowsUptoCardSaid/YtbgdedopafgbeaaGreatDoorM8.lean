/- Texts of this claim, one behind the other. -/
import Derived.Test.YtbgdedopafgbeaaGreatDoorM7
import Derived.Test.YtbgdedopafgbeaaGreatDoorM4
set_option maxHeartbeats 4000000
set_option maxRecDepth 100000
section
set_option linter.unusedSimpArgs false
set_option linter.unusedVariables false
namespace Go.Proofs.K
open Go Go.Sim Go.Proofs
variable {G : JU}
theorem Bl.oth {h0 h : Q2} {rb r sz : Nat} {ty : Nat} {s : List UInt8} {es : List (List AVal)} (B : Bl h0 rb s h) (hr : h r = some ⟨.t ty, sz, es⟩) (hne : Tu ≠ ty) (h0r : h0 r = none) (hrb : r ≠ rb) (o : Option AObj) : Bl h0 rb s (upd h r o) := by
  obtain ⟨hn, p, buf, hp, hnb, A, S⟩ := B
  exact ⟨hn, p, buf, hp, hnb, A.keepA (JV A hr hne) o, S.upd (by rw [Q9 _ _ hrb]; exact h0r)⟩
theorem Bl.fresh {h0 h : Q2} {rb r : Nat} {s : List UInt8} (B : Bl h0 rb s h) (hr : h r = none) (o : Option AObj) : Bl h0 rb s (upd h r o) := by
  obtain ⟨hn, p, buf, hp, hnb, A, S⟩ := B
  exact ⟨hn, p, buf, hp, hnb, A.keepA (accT_off A hr) o, S.upd (S.none hr)⟩
theorem Bl.rb_at {h0 h : Q2} {rb : Nat} {s : List UInt8} (B : Bl h0 rb s h) : ∃ p buf, h rb = some ⟨Tb, 2, [[p, buf]]⟩ := by
  obtain ⟨hn, p, buf, hp, hnb, A, S⟩ := B
  exact ⟨p, buf, sub_is S⟩
theorem Bl.incl {h0 h : Q2} {rb r sz : Nat} {ty : Nat} {s : List UInt8} {es : List (List AVal)} (B : Bl h0 rb s h) (hr : h r = some ⟨.t ty, sz, es⟩) (hne : Tu ≠ ty) (hrb : r ≠ rb) : Bl (upd h0 r (some ⟨.t ty, sz, es⟩)) rb s h := by
  obtain ⟨hn, p, buf, hp, hnb, A, S⟩ := B
  have hro := JV A hr hne
  have hc : ∀ z : AObj, upd (upd h0 r (some ⟨.t ty, sz, es⟩)) rb (some z) = upd (upd h0 rb (some z)) r (some ⟨.t ty, sz, es⟩) := fun z => by
    funext t; unfold Sim.upd; by_cases e1 : t = rb <;> by_cases e2 : t = r <;> simp_all
  refine ⟨by rw [Q9 _ _ hrb.symm]; exact hn, p, buf, hp, hnb, ?_, ?_⟩
  · rw [hc]
    rcases A with q | ⟨t, q1, q2, q3⟩
    · exact .inl q
    · have hne2 : t ≠ r := fun e => hro (by rw [q3, e]; rfl)
      exact .inr ⟨t, by rw [Q9 _ _ hne2]; exact q1, q2, q3⟩
  · rw [hc]
    intro t z ht
    by_cases e : t = r
    · subst e; rw [Z1] at ht; cases ht; exact hr
    · rw [Q9 _ _ e] at ht; exact S t z ht
theorem Bl.less {h0 h : Q2} {rb : Nat} {s : List UInt8} {r : Nat} {o : AObj} (B : Bl (upd h0 r (some o)) rb s h) (hr : h0 r = none) : Bl h0 rb s h := by
  obtain ⟨h1, p, buf, hp, hb, A, S⟩ := B
  have hrb : rb ≠ r := fun e => by rw [e, Z1] at h1; cases h1
  rw [Q9 _ _ hrb] at h1
  have lo : ∀ z t, upd (upd h0 r (some o)) rb (some z) t = none -> upd h0 rb (some z) t = none := fun z t ht => by
    unfold Sim.upd at ht ⊢
    split at ht
    · cases ht
    · split at ht
      · cases ht
      · rename_i q1 q2; rw [if_neg q1]; exact ht
  refine ⟨h1, p, buf, hp, hb, ?_, fun t z ht => S t z ?_⟩
  · rcases A with q | ⟨t, q1, q2, q3⟩
    · exact .inl q
    · exact .inr ⟨t, lo _ _ q1, q2, q3⟩
  · unfold Sim.upd at ht ⊢
    split at ht
    · rename_i q; rw [if_pos q]; exact ht
    · rename_i q
      rw [if_neg q, if_neg (fun e => by subst e; rw [hr] at ht; cases ht)]; exact ht
theorem Bl.has {h0 h : Q2} {rb : Nat} {s : List UInt8} {r : Nat} {o : AObj} (B : Bl (upd h0 r (some o)) rb s h) : h r = some o := B.sub r o (Z1 _ _ _)
theorem Bl.grow {h0 h h' : Q2} {rb : Nat} {s : List UInt8} (B : Bl h0 rb s h) (hs : Sub h h') : Bl h0 rb s h' := by
  obtain ⟨hn, p, buf, hp, hnb, A, S⟩ := B
  exact ⟨hn, p, buf, hp, hnb, A.re fun r o q0 q1 => ⟨q0, hs r o q1⟩, fun r o q => hs r o (S r o q)⟩
def c27 : SFun := ⟨.seq (.reg [o 2 (.mv (.c (.int .i64 0)))]) (.seq (.reg [o 3 (.mv (.t 0)), o 4 (.fldA 0 (.t 3)), o 5 (.fldA 1 (.t 4)), o 6 (.ld 1 false (.t 5)), o 7 (.len (.t 6)), o 2 (.mv (.t 7))]) .ret), [.tmp 2]⟩
theorem hc27 : Y5 Tryz.prog {} Tryz.f27 = some c27 := by kernel_rfl
theorem lenB_ok {h0 h : Q2} {rb : Nat} {s : List UInt8} (B : Bl h0 rb s h) : DCalls (Pg G) 27 [.vp rb 0] h fun a h' => a = Q3 s.length /\ h' = h := by
  obtain ⟨hn, p, buf, hp, hnb, A, S⟩ := B
  have hl : aLen buf = Q3 s.length /\ okLen buf = True := by
    rcases A with ⟨he, rfl⟩ | ⟨r, h1, h2, rfl⟩
    · have : s = [] := by simpa [Z2] using he
      subst this; exact ⟨rfl, rfl⟩
    · refine ⟨?_, rfl⟩
      show Q3 ((Z2 s).length : Int) = _
      rw [show (Z2 s).length = s.length by simp [Z2]]
  refine Q1 Tryz.func27 (by kernel_rfl) hc27 (by rw [Tryz.ntmps27]; simp) (by rw [Tryz.ntmps27]; decide) ?_
  simp -dsimp -implicitDefEqProofs (disch := omega) only [VCA, Nat.reduceAdd, Nat.reduceLT, ↓reduceIte, reduceCtorEq, exists_eq_right, exists_eq_left', c27, sub_is S, hl.1, hl.2]
  first | exact Sub.refl _ | exact ⟨Sub.refl _, rfl⟩ | trace_state
structure ToksSm (l : List HTok) : Prop where
  len : l.length <= 20
  tok : ∀ t ∈ l, TokSm t
theorem shownS_len {p : Bool} {t : HTok} (sm : TokSm t) : (shownS p t).length <= 20000000000000 := by
  have hn := sm.name
  have ht := sm.text
  have hs : (startM t).length <= 16000000000000 := by
    have : ∀ k, k <= t.attrs.length -> ((t.attrs.take k).flatMap escA).length <= k * 10600000 := fun k => by
      induction k with
      | zero => intro _; simp
      | succ k ih =>
        intro hk
        rw [flat_take escA (by omega), List.length_append]
        have h1 := ih (by omega)
        obtain ⟨q1, q2⟩ := sm.att _ (W6 (l := t.attrs) (k := k) (by omega))
        have := escA_len q1 q2
        omega
    have h1 := this _ (Nat.le_refl _)
    rw [List.take_length] at h1
    have h2 := sm.attrs
    unfold startM
    simp only [List.length_append, List.length_cons, List.length_nil]
    split <;> simp only [List.length_cons, List.length_nil] <;> omega
  have he := VT false _ t.text (Nat.le_refl _)
  unfold shownS
  (repeat' split) <;> first | omega | (simp only [List.length_append, List.length_cons, List.length_nil]; omega)
def c11 : SFun := ⟨.seq (.reg [o 2 (.mv (.c (.str []))), o 3 (.mv (.c (.int .i64 0)))]) (.seq (.reg [o 4 (.new 57 3 [.str [], .int .i64 0, .bool false])]) (.seq (.reg [o 5 (.new 61 2 [.prim (Value.pointer none), .emp])]) (.seq (.seq (.reg [o 9 (.mv (.t 0)), o 10 (.len (.t 9)), o 11 (.mv (.c (.int .i64 0)))]) (.block 0 (.loop (.seq (.reg [o 12 (.bin .lss (.t 11) (.t 10))]) (.seq (.cond (.t 12) .skip (.exit 0)) (.seq (.block 1 (.seq (.reg [o 13 (.idxA 7 (.t 9) (.t 11)), o 14 (.ld 7 true (.t 13)), o 7 (.new 43 7 [.int .i64 0, .str [], .emp, .str [], .bool false, .int .i64 0, .int .i64 0]), ⟨none, .st 7 (.t 7) (.t 14), none⟩]) (.seq (.reg [o 15 (.ld 7 true (.t 7)), o 16 (.pcall 23 [.t 15]), o 8 (.mv (.t 16))]) (.seq (.seq (.reg [o 17 (.mv (.t 8)), o 18 (.bin .eql (.t 17) (.c (.int .i64 0))), o 19 (.mv (.t 18)), ⟨some 20, .ld 7 true (.t 7), some (19, true)⟩, ⟨some 21, .call (.c (.fn 24 [] [])) [.t 4, .t 20], some (19, true)⟩, ⟨some 22, .un .not (.t 21), some (19, true)⟩, o 23 (.pick (.t 19) (.t 22) (.c (.bool false)))]) (.cond (.t 23) (.reg [o 8 (.mv (.c (.int .i64 9)))]) .skip)) (.seq (.seq (.reg [o 24 (.mv (.t 8)), o 25 (.bin .neq (.t 24) (.c (.int .i64 0)))]) (.cond (.t 25) (.seq (.reg [o 26 (.mv (.t 8)), o 2 (.mv (.c (.str []))), o 3 (.mv (.t 26))]) .ret) .skip)) (.seq (.reg [o 27 (.ld 7 true (.t 7)), o 28 (.call (.c (.fn 26 [] [])) [.t 4, .t 27]), o 29 (.call (.c (.fn 25 [] [])) [.t 5, .t 28])]) (.seq (.reg [o 30 (.call (.c (.fn 27 [] [])) [.t 5]), o 31 (.bin .gtr (.t 30) (.c (.int .i64 4000)))]) (.cond (.t 31) (.seq (.reg [o 2 (.mv (.c (.str []))), o 3 (.mv (.c (.int .i64 2)))]) .ret) .skip)))))))) (.reg [o 32 (.bin .add (.t 11) (.c (.int .i64 1))), o 11 (.mv (.t 32))]))))))) (.seq (.reg [o 33 (.call (.c (.fn 28 [] [])) [.t 5]), o 2 (.mv (.t 33)), o 3 (.mv (.c (.int .i64 0)))]) .ret)))), [.tmp 2, .tmp 3]⟩
theorem hc11 : Y5 Tryz.prog {pure := [23]} Tryz.f11 = some c11 := by kernel_rfl
theorem tokShow_ok (hG : MaxOK G) (hE : EqF G) {l : List HTok} (sm : ToksSm l) : PCalls (Pg G) 11 [sl J6 l] (.tup [.str (KJ l l.length 0 []).1, Q3 (KJ l l.length 0 []).2]) := fun h => by
  unfold sl
  have hlen := sm.len
  have ll : (l.map J6).length = l.length := List.length_map ..
  refine Q1 Tryz.func11 (by kernel_rfl) hc11 (by rw [Tryz.ntmps11]; simp) (by rw [Tryz.ntmps11]; decide) ?_
  simp -dsimp -implicitDefEqProofs (disch := omega) only [VCA, ↓U9, ↓reduceIte, reduceCtorEq, ne_eq, c11]
  intro r4 hr4 r5 hr5
  have n5 : h r5 = none := hr5.2
  have m45 : r4 ≠ r5 := fun q => hr5.1 q.symm
  have B0 : Bl h r5 [] (upd (upd h r4 (some (shO [] 0 false))) r5 (some ⟨Tb, 2, [[.prim (.pointer none), .emp]]⟩)) :=
    (Bl.new (upd h r4 (some (shO [] 0 false))) r5 (by rw [Q9 _ _ m45.symm]; exact n5)).less hr4
  repeat' (first | ((with_reducible refine brC (fun _ => ?_) fun _ => ?_) <;> try (exfalso; omega)) | (with_reducible refine And.intro ?_ ?_; · omega) | simp -dsimp -implicitDefEqProofs (disch := omega) only [↓Q0 19, ↓Q5 19, VCA, pg_gl, ↓U9, Nat.reduceEqDiff, Nat.reduceBEq, Nat.reduceAdd, Nat.reduceSub, Nat.reduceMul, Nat.reduceLT, Nat.reduceLeDiff, ↓reduceIte, reduceCtorEq, Y8, Q7, SOp.rd, SI.rd, SX.rd, rdL, rdO, rdP, J4, X6, Y3, X7, Y6, Z3, implies_true, forall_const, forall_eq, ne_eq, exists_eq_right_right, exists_eq_right, exists_eq_left, exists_eq_left', J1, Z6, WJ, J8, ll])
  refine LoopVC.intro (fun m e h' => ∃ (i f : Nat) (out raw : List UInt8) (st : Int) (tx : Bool), i <= l.length /\ m = l.length - i /\ e 4 = .vp r4 0 /\ e 5 = .vp r5 0 /\ e 9 = .slc (l.map J6) /\ e 10 = Q3 l.length /\ e 11 = Q3 i /\ h' r4 = some (shO raw st tx) /\ Bl h r5 out h' /\
      ShI l i raw st tx /\ raw.length <= 1500000 /\ out.length <= 4000 /\ l.length = f + i /\ KJ l f i out = KJ l l.length 0 []) l.length
    (by exact ⟨0, l.length, [], [], 0, false, by omega, by omega, rfl, rfl, rfl, rfl, rfl, by rw [Q9 _ _ m45, Z1]; rfl, B0, .begin l, by simp, by simp, rfl, rfl⟩) ?_
  rintro m e h' ⟨i, f, out, raw, st, tx, hi, rfl, e4, e5, e9, e10, e11, z4, B, I, hrl, hol, hf, hsh⟩
  by_cases hlt : i < l.length
  · have hd : decide ((i : Int) < (l.length : Int)) = true := decide_eq_true (by omega)
    obtain ⟨f, rfl⟩ : ∃ g, f = g + 1 := ⟨f - 1, by omega⟩
    rw [KJ, if_pos hlt] at hsh
    have hmem := W6 hlt
    have hfits := I.fits
    have hnext := I.next
    have herr : shErr l i = if UZ (nth l i) ≠ 0 then UZ (nth l i) else if badM (wasT l i) (KW l i) (txtM l i) (nth l i) = true then 9 else 0 := rfl
    have hone : shOne l i = shownS (X2 (KW l i) == 1) (nth l i) := rfl
    obtain ⟨x, hx⟩ : ∃ x, nth l i = x := ⟨_, rfl⟩
    rw [hx] at hmem hfits hnext herr hone
    have smx := sm.tok x hmem
    have cR := tokRight_ok (G := G) hG x smx
    obtain ⟨fe, hfe⟩ : ∃ v, UZ x = v := ⟨_, rfl⟩
    rw [hfe] at cR herr hfits hnext
    unfold J6 at cR
    repeat' (first | ((with_reducible refine brC (fun _ => ?_) fun _ => ?_) <;> try (exfalso; omega)) | (with_reducible refine And.intro ?_ ?_; · omega) | simp -dsimp -implicitDefEqProofs (disch := omega) only [VCA, Nat.reduceEqDiff, Nat.reduceAdd, Nat.reduceLT, ↓reduceIte, Z3, exists_eq_left', e9, e10, e11, hd, hx, J6])
    intro r7 hr7
    have m74 : ¬ r4 = r7 := fun q => by rw [<- q, z4] at hr7; cases hr7
    have m75 : ¬ r5 = r7 := fun q => by
      obtain ⟨p, b, hb⟩ := B.rb_at
      rw [<- q, hb] at hr7; cases hr7
    have B1 := B.fresh hr7 (some ⟨Tt, 7, [[Q3 x.kind, .str x.name, sl Z6 x.attrs, .str x.text, .bool x.self, Q3 x.frm, Q3 x.til]]⟩)
    have z41 : upd h' r7 (some ⟨Tt, 7, [[Q3 x.kind, .str x.name, sl Z6 x.attrs, .str x.text, .bool x.self, Q3 x.frm, Q3 x.til]]⟩) r4 = some (shO raw st tx) := by rw [Q9 _ _ m74]; exact z4
    have z71 : upd h' r7 (some ⟨Tt, 7, [[Q3 x.kind, .str x.name, sl Z6 x.attrs, .str x.text, .bool x.self, Q3 x.frm, Q3 x.til]]⟩) r7 = some ⟨Tt, 7, [[Q3 x.kind, .str x.name, sl Z6 x.attrs, .str x.text, .bool x.self, Q3 x.frm, Q3 x.til]]⟩ := Z1 _ _ _
    obtain ⟨h1, hh1⟩ : ∃ h1, upd h' r7 (some ⟨Tt, 7, [[Q3 x.kind, .str x.name, sl Z6 x.attrs, .str x.text, .bool x.self, Q3 x.frm, Q3 x.til]]⟩) = h1 := ⟨_, rfl⟩
    rw [hh1] at B1 z41 z71
    by_cases hfe0 : fe = 0
    · have bf : (fe == 0) = true := by simpa using hfe0
      have cF := tokFits_ok (G := G) hE x z41 smx (fun q => by
        rcases I.cs with ⟨c, _⟩ | ⟨_, _, c, _⟩ | ⟨c, _⟩
        · omega
        · exact c
        · omega) hrl
      obtain ⟨fs, hfs⟩ : ∃ b, fitsS raw st tx x = b := ⟨_, rfl⟩
      rw [hfs] at cF
      have hbad := hfits hfe0
      rw [hfs] at hbad
      subst hfe0
      rw [if_neg (by simp)] at herr
      have k0 : ((0 : Int) == 0) = true := rfl
      have k0' : ((0 : Int) != 0) = false := rfl
      have k9 : ((9 : Int) != 0) = true := rfl
      cases fs
      · have hb : badM (wasT l i) (KW l i) (txtM l i) x = true := by
          cases q : badM (wasT l i) (KW l i) (txtM l i) x with
          | true => rfl
          | false => rw [q] at hbad; cases hbad
        rw [if_pos hb] at herr
        rw [if_pos (by rw [herr]; decide), herr] at hsh
        rw [<- hsh]
        repeat' (first | ((with_reducible refine brC (fun _ => ?_) fun _ => ?_) <;> try (exfalso; omega)) | (with_reducible apply pcallE.of; · exact cR) | ((refine DCalls.of cF ?_; rintro _ h2 ⟨rfl, S12⟩)) | (with_reducible refine And.intro ?_ ?_; · omega) | simp -dsimp -implicitDefEqProofs (disch := omega) only [↓Q0 19, VCA, Nat.reduceEqDiff, Nat.reduceAdd, Nat.reduceLT, ↓reduceIte, exists_eq_right, exists_eq_left', e4, hh1, z71, k0, k9])
        exact fun r o q => S12 r o (B1.sub r o q)
      · have hb : badM (wasT l i) (KW l i) (txtM l i) x = false := by
          cases q : badM (wasT l i) (KW l i) (txtM l i) x with
          | false => rfl
          | true => rw [q] at hbad; cases hbad
        have I2 := hnext rfl hb
        rw [if_neg (by rw [hb]; simp)] at herr
        rw [if_neg (by rw [herr]; simp)] at hsh
        have hpl : (X2 (KW l i) == 1) = (st == 1 && X2 raw == 1) := by
          rcases I.cs with ⟨c1, c2, _⟩ | ⟨c1, c2, _⟩ | ⟨c1, _, _, c2, _⟩
          · rw [c1, c2]; rfl
          · rw [c1, c2]; rfl
          · rw [c1, c2]; rfl
        rw [hpl] at hone
        have hsl := shownS_len (p := (st == 1 && X2 raw == 1)) smx
        rw [<- hone] at hsl
        have hst : 0 <= st /\ st <= 2 := by
          rcases I.cs with ⟨c1, _⟩ | ⟨c1, _⟩ | ⟨c1, _⟩ <;> omega
        repeat' (first | ((with_reducible refine brC (fun _ => ?_) fun _ => ?_) <;> try (exfalso; omega)) | (with_reducible apply pcallE.of; · exact cR) | ((refine DCalls.of cF ?_; rintro _ h2 ⟨rfl, S12⟩)) | (with_reducible refine And.intro ?_ ?_; · omega) | simp -dsimp -implicitDefEqProofs (disch := omega) only [↓Q0 19, VCA, Nat.reduceEqDiff, Nat.reduceAdd, Nat.reduceLT, ↓reduceIte, exists_eq_left', e4, hh1, z71, k0, k0'])
        have z72 := S12 _ _ z71
        have z42 := S12 _ _ z41
        have B2 := B1.grow S12
        have m45' : r4 ≠ r5 := m45
        have hSh := tokShown_ok (G := G) hG x z42 smx hst.1 hst.2
        rw [<- hone] at hSh
        repeat' (first | ((with_reducible refine brC (fun _ => ?_) fun _ => ?_) <;> try (exfalso; omega)) | ((refine DCalls.of hSh ?_; rintro _ _ ⟨rfl, rfl⟩)) | (with_reducible refine And.intro ?_ ?_; · omega) | simp -dsimp -implicitDefEqProofs (disch := omega) only [VCA, Nat.reduceEqDiff, Nat.reduceAdd, Nat.reduceLT, ↓reduceIte, exists_eq_left', e5, z72])
        obtain ⟨h3, hh3⟩ : ∃ h3, upd h2 r4 (some (shO (UX raw x) (nextSt st x) (x.kind == 3))) = h3 := ⟨_, rfl⟩
        have B3 : Bl h r5 out h3 := by rw [<- hh3]; exact B2.oth z42 (by decide) hr4 m45 _
        have z43 : h3 r4 = some (shO (UX raw x) (nextSt st x) (x.kind == 3)) := by rw [<- hh3, Z1]
        rw [hh3]
        have B4 := B3.incl z43 (by decide) m45
        refine DCalls.of (writeString_ok (G := G) (shOne l i) B4 (by omega)) ?_
        rintro _ h4 ⟨rfl, B5⟩
        have z44 : h4 r4 = some (shO (UX raw x) (nextSt st x) (x.kind == 3)) := B5.has
        have B6 : Bl h r5 (out ++ shOne l i) h4 := B5.less hr4
        repeat' (first | ((with_reducible refine brC (fun _ => ?_) fun _ => ?_) <;> try (exfalso; omega)) | ((refine DCalls.of (lenB_ok (G := G) B6) ?_; rintro _ _ ⟨rfl, rfl⟩)) | (with_reducible refine And.intro ?_ ?_; · omega) | simp -dsimp -implicitDefEqProofs (disch := omega) only [VCA, Nat.reduceEqDiff, ↓reduceIte, exists_eq_right_right, e4, e5, e9, e10, e11])
        · refine ⟨B6.sub, ?_⟩
          rw [if_pos (by omega)] at hsh
          rw [<- hsh]
        · rw [if_neg (by omega)] at hsh
          exact ⟨l.length - (i + 1), by omega, i + 1, f, out ++ shOne l i, UX raw x, nextSt st x, x.kind == 3, by omega, rfl, by omega, z44, B6, I2, by unfold UX; split; exact smx.name; exact hrl, by omega, by omega, hsh⟩
    · have bf : (fe == 0) = false := by simpa using hfe0
      have bf2 : (fe != 0) = true := by simpa using hfe0
      rw [if_pos hfe0] at herr
      rw [if_pos (by rw [herr]; exact hfe0), herr] at hsh
      rw [<- hsh]
      repeat' (first | ((with_reducible refine brC (fun _ => ?_) fun _ => ?_) <;> try (exfalso; omega)) | (with_reducible apply pcallE.of; · exact cR) | (with_reducible refine And.intro ?_ ?_; · omega) | simp -dsimp -implicitDefEqProofs (disch := omega) only [↓Q0 19, VCA, Nat.reduceEqDiff, ↓reduceIte, exists_eq_right, hh1, bf, bf2])
      exact B1.sub
  · obtain rfl : i = l.length := by omega
    have hd : decide ((l.length : Int) < (l.length : Int)) = false := decide_eq_false (by omega)
    have hend : KJ l f l.length out = (out, 0) := by
      cases f with
      | zero => rfl
      | succ f => rw [KJ, if_neg (by omega)]
    rw [<- hsh, hend]
    repeat' (first | ((with_reducible refine brC (fun _ => ?_) fun _ => ?_) <;> try (exfalso; omega)) | ((refine DCalls.of (string_ok (G := G) B (by omega)) ?_; rintro _ h1 ⟨rfl, S1⟩)) | (with_reducible refine And.intro ?_ ?_; · omega) | simp -dsimp -implicitDefEqProofs (disch := omega) only [VCA, Nat.reduceEqDiff, ↓reduceIte, exists_eq_right, e5, e10, e11, hd])
    exact S1
def c54 : SFun := ⟨.seq (.reg [o 2 (.mv (.c (.bool false)))]) (.seq (.reg [o 3 (.mv (.t 0)), o 4 (.bin .neq (.t 3) (.c (.str []))), o 5 (.mv (.t 4)), ⟨some 6, .mv (.t 0), some (5, true)⟩, ⟨some 7, .idxS (.t 6) (.c (.int .i64 0)), some (5, true)⟩, ⟨some 8, .pcall 20 [.t 7], some (5, true)⟩, o 9 (.pick (.t 5) (.t 8) (.c (.bool false))), o 10 (.mv (.t 9)), ⟨some 11, .mv (.t 0), some (10, true)⟩, ⟨some 12, .pcall 39 [.t 11], some (10, true)⟩, ⟨some 13, .mv (.t 0), some (10, true)⟩, ⟨some 14, .bin .eql (.t 12) (.t 13), some (10, true)⟩, o 15 (.pick (.t 10) (.t 14) (.c (.bool false))), o 2 (.mv (.t 15))]) .ret), [.tmp 2]⟩
theorem hc54 : Y5 Tryz.prog {pure := [20, 39]} Tryz.f54 = some c54 := by kernel_rfl
theorem hn54 : (Tryz.f54.name == "runtime.NumGoroutine") = false := by kernel_rfl
theorem refRight_ok (nm : List UInt8) (hn : nm.length <= 1073741824) : PCalls (Pg G) 54 [.str nm] (.bool (KU nm)) := fun h => by
  have cN := WK (G := G) nm hn
  unfold KU
  obtain ⟨nm', hnm'⟩ : ∃ n, K3 nm = n := ⟨_, rfl⟩
  rw [hnm'] at cN ⊢
  cases hb1 : (nm != [])
  · rw [Bool.false_and]
    refine Q1 Tryz.func54 hn54 hc54 (by rw [Tryz.ntmps54]; simp) (by rw [Tryz.ntmps54]; decide) ?_
    simp -dsimp -implicitDefEqProofs (disch := omega) only [↓Q0 5, ↓Q0 10, VCA, Nat.reduceEqDiff, ↓reduceIte, reduceCtorEq, exists_eq_right, c54, hb1]
    repeat' (first | ((with_reducible refine brC (fun _ => ?_) fun _ => ?_) <;> try (exfalso; omega)) | (with_reducible refine And.intro ?_ ?_; · omega) | simp -dsimp -implicitDefEqProofs (disch := omega) only [↓Q0 5, ↓Q5 5, ↓Q0 10, ↓Q5 10, VCA, pg_gl, ↓U9, Nat.reduceEqDiff, Nat.reduceBEq, Nat.reduceAdd, Nat.reduceSub, Nat.reduceMul, Nat.reduceLT, Nat.reduceLeDiff, ↓reduceIte, reduceCtorEq, Y8, Q7, SOp.rd, SI.rd, SX.rd, rdL, rdO, rdP, J4, X6, Y3, X7, Y6, Z3, implies_true, forall_const, forall_eq, ne_eq, exists_eq_right_right, exists_eq_right, exists_eq_left, exists_eq_left', J1, Z6, WJ, J8, hb1])
    first | exact Sub.refl _ | exact ⟨Sub.refl _, rfl⟩ | trace_state
  · have hpos : 0 < nm.length := List.length_pos_iff.2 (by simpa using hb1)
    obtain ⟨b, hb⟩ : ∃ b, nm.getD 0 0 = b := ⟨_, rfl⟩
    have eb : bt nm 0 = b.toNat := by unfold bt; rw [hb]
    have cL' := UK (G := G) b
    rw [eb, Bool.true_and]
    cases hlb : U1 (b.toNat : Int) <;> rw [hlb] at cL'
    · rw [Bool.false_and]
      refine Q1 Tryz.func54 hn54 hc54 (by rw [Tryz.ntmps54]; simp) (by rw [Tryz.ntmps54]; decide) ?_
      simp -dsimp -implicitDefEqProofs (disch := omega) only [↓Q0 5, VCA, Nat.reduceEqDiff, ↓reduceIte, reduceCtorEq, c54, hb1, hb]
      repeat' (first | ((with_reducible refine brC (fun _ => ?_) fun _ => ?_) <;> try (exfalso; omega)) | (with_reducible apply pcallE.of; · exact cL') | (with_reducible refine And.intro ?_ ?_; · omega) | simp -dsimp -implicitDefEqProofs (disch := omega) only [↓Q0 10, VCA, Nat.reduceEqDiff, ↓reduceIte, exists_eq_right])
      first | exact Sub.refl _ | exact ⟨Sub.refl _, rfl⟩ | trace_state
    · rw [Bool.true_and]
      refine Q1 Tryz.func54 hn54 hc54 (by rw [Tryz.ntmps54]; simp) (by rw [Tryz.ntmps54]; decide) ?_
      simp -dsimp -implicitDefEqProofs (disch := omega) only [↓Q0 5, VCA, Nat.reduceEqDiff, ↓reduceIte, reduceCtorEq, c54, hb1, hb]
      repeat' (first | ((with_reducible refine brC (fun _ => ?_) fun _ => ?_) <;> try (exfalso; omega)) | (with_reducible apply pcallE.of; · exact cL') | (with_reducible apply pcallE.of; · exact cN) | (with_reducible refine And.intro ?_ ?_; · omega) | simp -dsimp -implicitDefEqProofs (disch := omega) only [↓Q0 10, VCA, Nat.reduceEqDiff, ↓reduceIte, reduceCtorEq, exists_eq_right])
      first | exact Sub.refl _ | exact ⟨Sub.refl _, rfl⟩ | trace_state
def c29_s7 : SCode := (.seq (.seq (.reg [o 106 (.fldA 0 (.t 1)), o 107 (.ld 1 false (.t 106)), o 108 (.bin .eql (.t 107) (.c (.int .i64 4)))]) (.cond (.t 108) (.seq (.reg [o 110 (.fldA 3 (.t 1)), o 111 (.ld 1 false (.t 110)), o 112 (.pcall 41 [.t 111, .c (.int .i64 0), .c (.str [45, 45, 62])]), o 109 (.mv (.t 112)), o 113 (.ext (.t 109) 0), o 114 (.ext (.t 109) 1), o 8 (.mv (.t 113)), o 9 (.mv (.t 114))]) (.seq (.reg [o 115 (.mv (.t 9)), o 116 (.mv (.t 115)), ⟨some 117, .fldA 3 (.t 1), some (116, false)⟩, ⟨some 118, .ld 1 false (.t 117), some (116, false)⟩, ⟨some 119, .pcall 14 [.t 118, .c (.int .i64 0), .c (.str [62])], some (116, false)⟩, o 120 (.pick (.t 116) (.c (.bool true)) (.t 119)), o 121 (.mv (.t 120)), ⟨some 122, .fldA 3 (.t 1), some (121, false)⟩, ⟨some 123, .ld 1 false (.t 122), some (121, false)⟩, ⟨some 124, .pcall 14 [.t 123, .c (.int .i64 0), .c (.str [45, 62])], some (121, false)⟩, o 125 (.pick (.t 121) (.c (.bool true)) (.t 124))]) (.cond (.t 125) (.reg [o 3 (.mv (.c (.bool false)))]) .skip))) .skip)) (.seq (.seq (.reg [o 126 (.mv (.t 3)), o 127 (.un .not (.t 126))]) (.cond (.t 127) (.seq (.reg [o 2 (.mv (.c (.int .i64 3)))]) .ret) .skip)) (.seq (.reg [o 2 (.mv (.c (.int .i64 0)))]) .ret)))
def c29_s6 : SCode := (.seq (.seq (.reg [o 4 (.mv (.c (.int .i64 0)))]) (.block 0 (.loop (.seq (.seq (.reg [o 73 (.mv (.t 4)), o 74 (.fldA 2 (.t 1)), o 75 (.ld 1 false (.t 74)), o 76 (.len (.t 75)), o 77 (.bin .lss (.t 73) (.t 76))]) (.cond (.t 77) .skip (.exit 0))) (.seq (.block 1 (.seq (.reg [o 80 (.fldA 2 (.t 1)), o 81 (.ld 1 false (.t 80)), o 82 (.mv (.t 4)), o 83 (.idxA 2 (.t 81) (.t 82)), o 84 (.fldA 0 (.t 83)), o 85 (.ld 1 false (.t 84)), o 5 (.mv (.t 85))]) (.seq (.reg [o 87 (.fldA 2 (.t 1)), o 88 (.ld 1 false (.t 87)), o 89 (.mv (.t 4)), o 90 (.slA 2 (.t 88) none (some (.t 89))), o 91 (.mv (.t 5)), o 92 (.pcall 42 [.t 90, .t 91]), o 86 (.mv (.t 92)), o 93 (.ext (.t 86) 0), o 94 (.ext (.t 86) 1), o 6 (.mv (.t 93)), o 7 (.mv (.t 94))]) (.seq (.reg [o 95 (.mv (.t 5)), o 96 (.bin .eql (.t 95) (.c (.str []))), o 97 (.mv (.t 96)), ⟨some 98, .mv (.t 5), some (97, false)⟩, ⟨some 99, .pcall 40 [.t 98], some (97, false)⟩, ⟨some 100, .mv (.t 5), some (97, false)⟩, ⟨some 101, .bin .neq (.t 99) (.t 100), some (97, false)⟩, o 102 (.pick (.t 97) (.c (.bool true)) (.t 101)), o 103 (.mv (.t 102)), ⟨some 104, .mv (.t 7), some (103, false)⟩, o 105 (.pick (.t 103) (.c (.bool true)) (.t 104))]) (.cond (.t 105) (.reg [o 3 (.mv (.c (.bool false)))]) .skip))))) (.reg [o 78 (.mv (.t 4)), o 79 (.bin .add (.t 78) (.c (.int .i64 1))), o 4 (.mv (.t 79))])))))) c29_s7)
def c29 : SFun := ⟨.seq (.reg [o 1 (.boxF 43 7 (.t 0)), o 2 (.mv (.c (.int .i64 0)))]) (.seq (.seq (.reg [o 10 (.fldA 0 (.t 1)), o 11 (.ld 1 false (.t 10)), o 12 (.pcall 53 [.t 11, .c (.int .i64 1), .c (.int .i64 5)]), o 13 (.un .not (.t 12))]) (.cond (.t 13) (.seq (.reg [o 2 (.mv (.c (.int .i64 7)))]) .ret) .skip)) (.seq (.reg [o 3 (.mv (.c (.bool true)))]) (.seq (.seq (.reg [o 14 (.fldA 0 (.t 1)), o 15 (.ld 1 false (.t 14)), o 16 (.bin .eql (.t 15) (.c (.int .i64 3))), o 17 (.mv (.t 16)), ⟨some 18, .fldA 0 (.t 1), some (17, false)⟩, ⟨some 19, .ld 1 false (.t 18), some (17, false)⟩, ⟨some 20, .bin .eql (.t 19) (.c (.int .i64 4)), some (17, false)⟩, o 21 (.pick (.t 17) (.c (.bool true)) (.t 20))]) (.cond (.t 21) (.reg [o 22 (.fldA 1 (.t 1)), o 23 (.ld 1 false (.t 22)), o 24 (.bin .eql (.t 23) (.c (.str []))), o 3 (.mv (.t 24))]) (.reg [o 25 (.fldA 3 (.t 1)), o 26 (.ld 1 false (.t 25)), o 27 (.bin .eql (.t 26) (.c (.str []))), o 3 (.mv (.t 27))]))) (.seq (.seq (.reg [o 28 (.fldA 0 (.t 1)), o 29 (.ld 1 false (.t 28)), o 30 (.bin .neq (.t 29) (.c (.int .i64 1))), o 31 (.mv (.t 30)), ⟨some 32, .fldA 2 (.t 1), some (31, true)⟩, ⟨some 33, .ld 1 false (.t 32), some (31, true)⟩, ⟨some 34, .len (.t 33), some (31, true)⟩, ⟨some 35, .bin .gtr (.t 34) (.c (.int .i64 0)), some (31, true)⟩, ⟨some 36, .mv (.t 35), some (31, true)⟩, ⟨some 37, .fldA 4 (.t 1), some (36, false)⟩, ⟨some 38, .ld 1 false (.t 37), some (36, false)⟩, ⟨some 39, .pick (.t 36) (.c (.bool true)) (.t 38), some (31, true)⟩, o 40 (.pick (.t 31) (.t 39) (.c (.bool false)))]) (.cond (.t 40) (.reg [o 3 (.mv (.c (.bool false)))]) .skip)) (.seq (.seq (.dreg [(o 41 (.fldA 0 (.t 1)), none), (o 42 (.ld 1 false (.t 41)), none), (o 43 (.bin .lss (.t 42) (.c (.int .i64 3))), none), (o 44 (.mv (.t 43)), none), (⟨some 45, .fldA 1 (.t 1), some (44, true)⟩, none), (⟨some 46, .ld 1 false (.t 45), some (44, true)⟩, none), (⟨some 47, .pcall 54 [.t 46], some (44, true)⟩, none), (⟨some 48, .un .not (.t 47), some (44, true)⟩, none), (o 49 (.pick (.t 44) (.t 48) (.c (.bool false))), none), (o 50 (.mv (.t 49)), none), (⟨some 51, .fldA 0 (.t 1), some (50, false)⟩, none), (⟨some 52, .ld 1 false (.t 51), some (50, false)⟩, none), (⟨some 53, .bin .eql (.t 52) (.c (.int .i64 5)), some (50, false)⟩, none), (⟨some 54, .mv (.t 53), some (50, false)⟩, none), (⟨some 55, .fldA 1 (.t 1), some (54, true)⟩, none), (⟨some 56, .ld 1 false (.t 55), some (54, true)⟩, none), (⟨some 57, .pcall 39 [.t 56], some (54, true)⟩, none), (⟨some 58, .fldA 1 (.t 1), some (54, true)⟩, none), (⟨some 59, .ld 1 false (.t 58), some (54, true)⟩, none), (⟨some 60, .bin .neq (.t 57) (.t 59), some (54, true)⟩, none), (⟨some 61, .pick (.t 54) (.t 60) (.c (.bool false)), some (50, false)⟩, none), (o 62 (.pick (.t 50) (.c (.bool true)) (.t 61)), none), (o 63 (.mv (.t 62)), none), (⟨some 64, .fldA 0 (.t 1), some (63, false)⟩, none), (⟨some 65, .ld 1 false (.t 64), some (63, false)⟩, none), (⟨some 66, .bin .eql (.t 65) (.c (.int .i64 3)), some (63, false)⟩, none), (⟨some 67, .mv (.t 66), some (63, false)⟩, none), (⟨some 68, .fldA 3 (.t 1), some (67, true)⟩, none), (⟨some 69, .ld 1 false (.t 68), some (67, true)⟩, none), (⟨some 70, .bin .eql (.t 69) (.c (.str [])), some (67, true)⟩, none), (⟨some 71, .pick (.t 67) (.t 70) (.c (.bool false)), some (63, false)⟩, none), (o 72 (.pick (.t 63) (.c (.bool true)) (.t 71)), none)]) (.cond (.t 72) (.reg [o 3 (.mv (.c (.bool false)))]) .skip)) c29_s6))))), [.tmp 2]⟩
theorem hc29 : Y5 Tryz.prog {pure := [53, 54, 39, 40, 42, 41, 14]} Tryz.f29 = some c29 := by kernel_rfl
theorem hn29 : (Tryz.f29.name == "runtime.NumGoroutine") = false := by kernel_rfl
def comOK (t : HTok) : Bool := !Z7 t.text 0 [62] && (!Z7 t.text 0 [45, 62] && !hasM t.text [45, 45, 62])
theorem refFits7_ok (t : HTok) (sm : TokSm t) {h : Q2} {e : Env} (o : Bool) (e1 : e 1 = .pin (J6 t)) (e3 : e 3 = .bool o) :
    vc (Pg G) c29_s7 (retK [.tmp 2] fun r h' => r = Q3 (if (o && (t.kind != 4 || comOK t)) = true then 0 else 3) /\ h' = h) e h := by
  have c1 : PCalls (Pg G) 14 [.str t.text, .int .i64 0, .str [62]] (.bool (Z7 t.text 0 [62])) := K6 (G := G) t.text [62] 0 (by omega) (by have := sm.text; omega) (by decide)
  have c2 : PCalls (Pg G) 14 [.str t.text, .int .i64 0, .str [45, 62]] (.bool (Z7 t.text 0 [45, 62])) := K6 (G := G) t.text [45, 62] 0 (by omega) (by have := sm.text; omega) (by decide)
  have c3 : PCalls (Pg G) 41 [.str t.text, .int .i64 0, .str [45, 45, 62]] (.tup [Q3 (upM t.text 0 [45, 45, 62]), .bool (decide (upM t.text 0 [45, 45, 62] < t.text.length))]) := refUp_ok (G := G) t.text [45, 45, 62] 0 (by omega) (by have := sm.text; omega) (by decide)
  obtain ⟨kd, nm, L, tx, sf, fr, ti⟩ := t
  unfold comOK hasM
  unfold J6 at e1
  simp only at c1 c2 c3 e1 ⊢
  have hb1 : ((kd != 4) = true \/ (kd != 4) = false) := by cases (kd != 4) <;> simp
  skip
  rcases hb1 with hb1 | hb1
  · have k4 : (kd == 4) = false := by simpa using hb1
    rw [hb1, Bool.true_or, Bool.and_true]
    cases o
    all_goals
      simp -dsimp -implicitDefEqProofs (disch := omega) only [VCA, Nat.reduceEqDiff, Nat.reduceAdd, Nat.reduceLeDiff, ↓reduceIte, exists_eq_right, c29_s7, e1, e3, k4]
      repeat' (first | ((with_reducible refine brC (fun _ => ?_) fun _ => ?_) <;> try (exfalso; omega)) | (with_reducible refine And.intro ?_ ?_; · omega) | simp -dsimp -implicitDefEqProofs (disch := omega) only [↓Q0 17, ↓Q5 17, ↓Q0 31, ↓Q5 31, ↓Q0 36, ↓Q5 36, ↓Q0 44, ↓Q5 44, ↓Q0 50, ↓Q5 50, ↓Q0 54, ↓Q5 54, ↓Q0 63, ↓Q5 63, ↓Q0 67, ↓Q5 67, ↓Q0 97, ↓Q5 97, ↓Q0 103, ↓Q5 103, ↓Q0 116, ↓Q5 116, ↓Q0 121, ↓Q5 121, VCA, pg_gl, ↓U9, Nat.reduceEqDiff, Nat.reduceBEq, Nat.reduceAdd, Nat.reduceSub, Nat.reduceMul, Nat.reduceLT, Nat.reduceLeDiff, ↓reduceIte, reduceCtorEq, Y8, Q7, SOp.rd, SI.rd, SX.rd, rdL, rdO, rdP, J4, X6, Y3, X7, Y6, Z3, implies_true, forall_const, forall_eq, ne_eq, exists_eq_right_right, exists_eq_right, exists_eq_left, exists_eq_left', J1, Z6, WJ, J8, e1, e3, k4])
      first | exact Sub.refl _ | exact ⟨Sub.refl _, rfl⟩ | trace_state
  · have k4 : (kd == 4) = true := by simpa using hb1
    rw [hb1, Bool.false_or]
    obtain ⟨u, hu⟩ : ∃ u, upM tx 0 [45, 45, 62] = u := ⟨_, rfl⟩
    rw [hu] at c3 ⊢
    cases b1 : Z7 tx 0 [62] <;> cases b2 : Z7 tx 0 [45, 62] <;> cases b3 : decide (u < tx.length) <;> rw [b1] at c1 <;> rw [b2] at c2 <;> rw [b3] at c3 <;> cases o
    all_goals
      simp -dsimp -implicitDefEqProofs (disch := omega) only [VCA, Nat.reduceEqDiff, Nat.reduceAdd, Nat.reduceLeDiff, ↓reduceIte, c29_s7, e1, k4]
      repeat' (first | ((with_reducible refine brC (fun _ => ?_) fun _ => ?_) <;> try (exfalso; omega)) | (with_reducible apply pcallE.of; · exact c3) | (with_reducible apply pcallE.of; · exact c1) | (with_reducible apply pcallE.of; · exact c2) | (with_reducible refine And.intro ?_ ?_; · omega) | simp -dsimp -implicitDefEqProofs (disch := omega) only [↓Q0 116, ↓Q0 121, VCA, Nat.reduceEqDiff, Nat.reduceAdd, Nat.reduceLT, Nat.reduceLeDiff, ↓reduceIte, exists_eq_right_right, exists_eq_right, e1, e3])
      first | exact Sub.refl _ | exact ⟨Sub.refl _, rfl⟩ | trace_state
theorem attr_any (l : List HAttr) (name : List UInt8) : (XU l name).2 = l.any fun y => y.name == name := by
  rw [attrOf_has]
  unfold attrAt
  exact idxM_any (fun y : HAttr => y.name == name) l
theorem refFits6_ok (t : HTok) (sm : TokSm t) {h : Q2} {e : Env} (o : Bool) (e1 : e 1 = .pin (J6 t)) (e3 : e 3 = .bool o) :
    vc (Pg G) c29_s6 (retK [.tmp 2] fun r h' => r = Q3 (if ((o && T4 t.attrs) && (t.kind != 4 || comOK t)) = true then 0 else 3) /\ h' = h) e h := by
  have hL := sm.attrs
  have hA := sm.att
  obtain ⟨L, hLe⟩ : ∃ L, t.attrs = L := ⟨_, rfl⟩
  rw [hLe] at hL hA
  have ll : (L.map Z6).length = L.length := List.length_map ..
  have e1' : e 1 = .pin [Q3 t.kind, .str t.name, sl Z6 L, .str t.text, .bool t.self, Q3 t.frm, Q3 t.til] := by rw [e1]; unfold J6; rw [hLe]
  skip
  repeat' (first | ((with_reducible refine brC (fun _ => ?_) fun _ => ?_) <;> try (exfalso; omega)) | (with_reducible refine And.intro ?_ ?_; · omega) | simp -dsimp -implicitDefEqProofs (disch := omega) only [VCA, c29_s6])
  refine LoopVC.intro (fun m e' h' => ∃ (k : Nat) (q : Bool), k <= L.length /\ m = L.length - k /\ e' 1 = .pin [Q3 t.kind, .str t.name, sl Z6 L, .str t.text, .bool t.self, Q3 t.frm, Q3 t.til] /\ e' 3 = .bool q /\ e' 4 = Q3 k /\ h' = h /\ q = (o && (List.range k).all (VK L))) L.length
    (by exact ⟨0, o, by omega, by omega, by simp [upd, e1'], by simp [upd, e3], rfl, rfl, by simp⟩) ?_
  rintro m e' h' ⟨k, q, hk, rfl, g1, g3, g4, rfl, hq⟩
  by_cases hlt : k < L.length
  · have hd : decide ((k : Int) < (L.length : Int)) = true := decide_eq_true (by omega)
    have hmem := W6 hlt
    obtain ⟨x, hx⟩ : ∃ x, nth L k = x := ⟨_, rfl⟩
    rw [hx] at hmem
    have hok := attrOK_take hlt hx
    have cN := refAttrName_ok (G := G) x.name (by have := (hA x hmem).1; omega)
    have cO : PCalls (Pg G) 42 [sl Z6 (L.take k), .str x.name] (.tup [.str (XU (L.take k) x.name).1, .bool (XU (L.take k) x.name).2]) := attrOf_ok (G := G) (L.take k) x.name (by rw [List.length_take]; omega)
    rw [attr_any] at cO
    obtain ⟨v, hv⟩ : ∃ v, (XU (L.take k) x.name).1 = v := ⟨_, rfl⟩
    rw [hv] at cO
    obtain ⟨tw, htw⟩ : ∃ b, ((L.take k).any fun y => y.name == x.name) = b := ⟨_, rfl⟩
    rw [htw] at cO hok
    obtain ⟨an, han⟩ : ∃ n, K8 x.name = n := ⟨_, rfl⟩
    rw [han] at cN hok
    have hnext : ∀ z : Bool, VK L k = z -> (q && z) = (o && (List.range (k + 1)).all (VK L)) := fun z hz => by
      rw [List.range_succ, List.all_append, hq, Bool.and_assoc]; simp [hz]
    have hne1 : (x.name != []) = !(x.name == []) := rfl
    have hne2 : (an != x.name) = !(an == x.name) := rfl
    rw [hne1] at hok
    obtain ⟨z1, hz1⟩ : ∃ b, (x.name == []) = b := ⟨_, rfl⟩
    obtain ⟨z2, hz2⟩ : ∃ b, (an == x.name) = b := ⟨_, rfl⟩
    rw [hz1, hz2] at hok
    rw [hz2] at hne2
    cases z1 <;> cases z2 <;> cases tw
    all_goals
      simp -dsimp -implicitDefEqProofs (disch := omega) only [VCA, Nat.reduceEqDiff, Nat.reduceAdd, Nat.reduceLeDiff, ↓reduceIte, Z6, g1, g4, hd, hx, Z6]
      repeat' (first | ((with_reducible refine brC (fun _ => ?_) fun _ => ?_) <;> try (exfalso; omega)) | (with_reducible apply pcallE.of; · exact cO) | (with_reducible apply pcallE.of; · exact cN) | (with_reducible refine And.intro ?_ ?_; · omega) | simp -dsimp -implicitDefEqProofs (disch := omega) only [↓Q0 97, ↓Q0 103, VCA, Nat.reduceEqDiff, Nat.reduceAdd, Nat.reduceLT, ↓reduceIte, g1, g3, g4, hz1, hne2])
      exact ⟨_, by omega, k + 1, _, by omega, rfl, rfl, by omega, by rw [<- hnext _ hok]; cases q <;> rfl⟩
  · obtain rfl : k = L.length := by omega
    have hd : decide ((L.length : Int) < (L.length : Int)) = false := decide_eq_false (by omega)
    have hq2 : q = (o && T4 t.attrs) := by rw [hLe]; exact hq
    repeat' (first | ((with_reducible refine brC (fun _ => ?_) fun _ => ?_) <;> try (exfalso; omega)) | (with_reducible refine And.intro ?_ ?_; · omega) | simp -dsimp -implicitDefEqProofs (disch := omega) only [VCA, Nat.reduceEqDiff, Nat.reduceAdd, Nat.reduceLeDiff, ↓reduceIte, g1, g4, hd])
    rw [<- hq2]
    refine refFits7_ok (G := G) t sm q ?_ ?_
    · simp only [upd]; simp; rw [g1]; unfold J6; rw [hLe]
    · simp only [upd]; simp; exact g3
theorem fit_key (t : HTok) (hk : 1 <= t.kind /\ t.kind <= 5) (o : Bool) (h : formOK t = ((o && T4 t.attrs) && (t.kind != 4 || comOK t))) : UZ t = if ((o && T4 t.attrs) && (t.kind != 4 || comOK t)) = true then 0 else 3 := by
  unfold UZ
  rw [if_neg (by omega), h]
theorem attrs_nil {l : List HAttr} (h : (l.length == 0) = true) : T4 l = true := by
  have : l = [] := List.eq_nil_of_length_eq_zero (by simpa using h)
  rw [this]; rfl
theorem refFits_ok (t : HTok) (sm : TokSm t) : PCalls (Pg G) 29 [.agg (J6 t)] (Q3 (UZ t)) := fun h => by
  have cB : PCalls (Pg G) 53 [Q3 t.kind, .int .i64 1, .int .i64 5] (.bool (decide (1 <= t.kind) && decide (t.kind <= 5))) := QV t.kind 1 5
  have cR := refRight_ok (G := G) t.name (by have := sm.name; omega)
  have cN := WK (G := G) t.name (by have := sm.name; omega)
  have n6 := fun (o : Bool) (e : Env) (e1 : e 1 = .pin (J6 t)) (e3 : e 3 = .bool o) => refFits6_ok (G := G) t sm (h := h) (e := e) o e1 e3
  by_cases hk : 1 <= t.kind /\ t.kind <= 5
  · rw [decide_eq_true hk.1, decide_eq_true hk.2] at cB
    have ha0 := attrs_nil (l := t.attrs)
    have hgt : decide (((t.attrs.length : Nat) : Int) > 0) = !(t.attrs.length == 0) := by
      rw [Bool.eq_iff_iff, decide_eq_true_iff, Bool.not_eq_true', beq_eq_false_iff_ne]; omega
    have hmn : (K3 t.name != t.name) = !(K3 t.name == t.name) := rfl
    have htx : (t.text != []) = !(t.text == []) := rfl
    have key := fit_key t hk
    unfold formOK VU at key
    rw [htx] at key
    obtain ⟨bt', hbt⟩ : ∃ b, (t.text == []) = b := ⟨_, rfl⟩
    obtain ⟨bn, hbn⟩ : ∃ b, (t.name == []) = b := ⟨_, rfl⟩
    obtain ⟨bl, hbl⟩ : ∃ b, (t.attrs.length == 0) = b := ⟨_, rfl⟩
    obtain ⟨bm, hbm⟩ : ∃ b, (K3 t.name == t.name) = b := ⟨_, rfl⟩
    obtain ⟨br, hbr⟩ : ∃ b, KU t.name = b := ⟨_, rfl⟩
    obtain ⟨A, hA⟩ : ∃ b, T4 t.attrs = b := ⟨_, rfl⟩
    obtain ⟨nmm, hnmm⟩ : ∃ n, K3 t.name = n := ⟨_, rfl⟩
    rw [hbl] at hgt ha0
    rw [hA] at ha0
    rw [hbm] at hmn
    rw [hbr] at cR
    rw [hnmm] at cN hmn
    simp only [hbt, hbn, hbl, hbm, hbr, hA] at key n6
    unfold J6 sl at n6 ⊢
    have ll : (t.attrs.map Z6).length = t.attrs.length := List.length_map ..
    have hkc : t.kind = 1 \/ t.kind = 2 \/ t.kind = 3 \/ t.kind = 4 \/ t.kind = 5 := by omega
    rcases hkc with hk' | hk' | hk' | hk' | hk'
    · have a1 : (t.kind != 1) = false := by rw [hk']; rfl
      have a3 : (t.kind == 3) = false := by rw [hk']; rfl
      have a4 : (t.kind == 4) = false := by rw [hk']; rfl
      have a5 : (t.kind == 5) = false := by rw [hk']; rfl
      have lt3 : decide (t.kind < 3) = true := decide_eq_true (by omega)
      have a4' : (t.kind != 4) = true := by rw [hk']; rfl
      cases bt' <;> cases br
      all_goals
        refine Q1 Tryz.func29 hn29 hc29 (by rw [Tryz.ntmps29]; simp) (by rw [Tryz.ntmps29]; decide) ?_
        simp -dsimp -implicitDefEqProofs (disch := omega) only [VCA, Nat.reduceEqDiff, Nat.reduceAdd, Nat.reduceLeDiff, ↓reduceIte, c29]
        repeat' (first | ((with_reducible refine brC (fun _ => ?_) fun _ => ?_) <;> try (exfalso; omega)) | (with_reducible apply pcallE.of; · exact cB) | (with_reducible apply pcallE.of; · exact cR) | (with_reducible apply pcallE.of; · exact cN) | (with_reducible refine And.intro ?_ ?_; · omega) | simp -dsimp -implicitDefEqProofs (disch := omega) only [↓Q0 17, ↓Q0 31, ↓Q0 36, ↓Q5 44, ↓Q5 50, ↓Q5 54, ↓Q5 63, ↓Q5 67, VCA, Nat.reduceEqDiff, Nat.reduceAdd, Nat.reduceLeDiff, ↓reduceIte, Y8, Q7, J1, J8, a1, a3, a4, a5, lt3, hbt])
        first
          | (rw [key false (by rw [if_pos hk', a4']; cases A <;> rfl)]; exact n6 false _ (by simp [upd]; done) rfl)
          | (rw [key true (by rw [if_pos hk', a4']; cases A <;> rfl)]; exact n6 true _ (by simp [upd]; done) rfl)
          | (rw [key false (by rw [if_pos hk', a4']; cases A <;> rfl)]; exact n6 false _ rfl rfl)
          | (rw [key true (by rw [if_pos hk', a4']; cases A <;> rfl)]; exact n6 true _ rfl rfl)
          | trace_state
    · have a1 : (t.kind != 1) = true := by rw [hk']; rfl
      have a3 : (t.kind == 3) = false := by rw [hk']; rfl
      have a4 : (t.kind == 4) = false := by rw [hk']; rfl
      have a5 : (t.kind == 5) = false := by rw [hk']; rfl
      have lt3 : decide (t.kind < 3) = true := decide_eq_true (by omega)
      have a4' : (t.kind != 4) = true := by rw [hk']; rfl
      obtain ⟨sf, hs⟩ : ∃ b, t.self = b := ⟨_, rfl⟩
      rw [hs] at key n6 ⊢
      cases bt' <;> cases br <;> cases bl <;> cases sf
      all_goals
        refine Q1 Tryz.func29 hn29 hc29 (by rw [Tryz.ntmps29]; simp) (by rw [Tryz.ntmps29]; decide) ?_
        simp -dsimp -implicitDefEqProofs (disch := omega) only [VCA, Nat.reduceEqDiff, Nat.reduceAdd, Nat.reduceLeDiff, ↓reduceIte, c29]
        repeat' (first | ((with_reducible refine brC (fun _ => ?_) fun _ => ?_) <;> try (exfalso; omega)) | (with_reducible apply pcallE.of; · exact cB) | (with_reducible apply pcallE.of; · exact cR) | (with_reducible apply pcallE.of; · exact cN) | (with_reducible refine And.intro ?_ ?_; · omega) | simp -dsimp -implicitDefEqProofs (disch := omega) only [↓Q0 17, ↓Q0 31, ↓Q0 36, ↓Q5 44, ↓Q5 50, ↓Q5 54, ↓Q5 63, ↓Q5 67, VCA, Nat.reduceEqDiff, Nat.reduceAdd, Nat.reduceLeDiff, ↓reduceIte, Y8, Q7, J1, J8, a1, a3, a4, a5, lt3, hbt, hgt, ll])
        first
          | (rw [key false (by rw [if_neg (by omega), if_pos hk', a4']; first | (rw [ha0 rfl]; rfl) | (cases A <;> rfl))]; exact n6 false _ (by simp [upd]; done) rfl)
          | (rw [key true (by rw [if_neg (by omega), if_pos hk', a4']; first | (rw [ha0 rfl]; rfl) | (cases A <;> rfl))]; exact n6 true _ (by simp [upd]; done) rfl)
          | (rw [key false (by rw [if_neg (by omega), if_pos hk', a4']; first | (rw [ha0 rfl]; rfl) | (cases A <;> rfl))]; exact n6 false _ rfl rfl)
          | (rw [key true (by rw [if_neg (by omega), if_pos hk', a4']; first | (rw [ha0 rfl]; rfl) | (cases A <;> rfl))]; exact n6 true _ rfl rfl)
          | trace_state
    · have a1 : (t.kind != 1) = true := by rw [hk']; rfl
      have a3 : (t.kind == 3) = true := by rw [hk']; rfl
      have a4 : (t.kind == 4) = false := by rw [hk']; rfl
      have a5 : (t.kind == 5) = false := by rw [hk']; rfl
      have lt3 : decide (t.kind < 3) = false := decide_eq_false (by omega)
      have a4' : (t.kind != 4) = true := by rw [hk']; rfl
      obtain ⟨sf, hs⟩ : ∃ b, t.self = b := ⟨_, rfl⟩
      rw [hs] at key n6 ⊢
      cases bt' <;> cases bn <;> cases bl <;> cases sf
      all_goals
        refine Q1 Tryz.func29 hn29 hc29 (by rw [Tryz.ntmps29]; simp) (by rw [Tryz.ntmps29]; decide) ?_
        simp -dsimp -implicitDefEqProofs (disch := omega) only [VCA, Nat.reduceEqDiff, Nat.reduceAdd, Nat.reduceLeDiff, ↓reduceIte, c29]
        repeat' (first | ((with_reducible refine brC (fun _ => ?_) fun _ => ?_) <;> try (exfalso; omega)) | (with_reducible apply pcallE.of; · exact cB) | (with_reducible apply pcallE.of; · exact cR) | (with_reducible apply pcallE.of; · exact cN) | (with_reducible refine And.intro ?_ ?_; · omega) | simp -dsimp -implicitDefEqProofs (disch := omega) only [↓Q0 17, ↓Q0 31, ↓Q0 36, ↓Q5 44, ↓Q5 50, ↓Q5 54, ↓Q5 63, ↓Q5 67, VCA, Nat.reduceEqDiff, Nat.reduceAdd, Nat.reduceLeDiff, ↓reduceIte, Y8, Q7, J1, J8, a1, a3, a5, lt3, hbt, hbn, hgt, ll])
        first
          | (rw [key false (by rw [if_neg (by omega), if_neg (by omega), if_pos hk', a4']; first | (rw [ha0 rfl]; rfl) | (cases A <;> rfl))]; exact n6 false _ (by simp [upd]; done) rfl)
          | (rw [key true (by rw [if_neg (by omega), if_neg (by omega), if_pos hk', a4']; first | (rw [ha0 rfl]; rfl) | (cases A <;> rfl))]; exact n6 true _ (by simp [upd]; done) rfl)
          | (rw [key false (by rw [if_neg (by omega), if_neg (by omega), if_pos hk', a4']; first | (rw [ha0 rfl]; rfl) | (cases A <;> rfl))]; exact n6 false _ rfl rfl)
          | (rw [key true (by rw [if_neg (by omega), if_neg (by omega), if_pos hk', a4']; first | (rw [ha0 rfl]; rfl) | (cases A <;> rfl))]; exact n6 true _ rfl rfl)
          | trace_state
    · have a1 : (t.kind != 1) = true := by rw [hk']; rfl
      have a3 : (t.kind == 3) = false := by rw [hk']; rfl
      have a4 : (t.kind == 4) = true := by rw [hk']; rfl
      have a5 : (t.kind == 5) = false := by rw [hk']; rfl
      have lt3 : decide (t.kind < 3) = false := decide_eq_false (by omega)
      have a4' : (t.kind != 4) = false := by rw [hk']; rfl
      obtain ⟨sf, hs⟩ : ∃ b, t.self = b := ⟨_, rfl⟩
      rw [hs] at key n6 ⊢
      cases bn <;> cases bl <;> cases sf
      all_goals
        refine Q1 Tryz.func29 hn29 hc29 (by rw [Tryz.ntmps29]; simp) (by rw [Tryz.ntmps29]; decide) ?_
        simp -dsimp -implicitDefEqProofs (disch := omega) only [VCA, Nat.reduceEqDiff, Nat.reduceAdd, Nat.reduceLeDiff, ↓reduceIte, c29]
        repeat' (first | ((with_reducible refine brC (fun _ => ?_) fun _ => ?_) <;> try (exfalso; omega)) | (with_reducible apply pcallE.of; · exact cB) | (with_reducible apply pcallE.of; · exact cR) | (with_reducible apply pcallE.of; · exact cN) | (with_reducible refine And.intro ?_ ?_; · omega) | simp -dsimp -implicitDefEqProofs (disch := omega) only [↓Q0 17, ↓Q0 31, ↓Q0 36, ↓Q5 44, ↓Q5 50, ↓Q5 54, ↓Q5 63, ↓Q5 67, VCA, Nat.reduceEqDiff, Nat.reduceAdd, Nat.reduceLeDiff, ↓reduceIte, Y8, Q7, J1, J8, a1, a3, a4, a5, lt3, hbn, hgt, ll])
        first
          | (rw [key false (by rw [if_neg (by omega), if_neg (by omega), if_neg (by omega), if_pos hk', a4']; unfold comOK; first | (rw [ha0 rfl]; rfl) | (cases A <;> rfl) | (rw [ha0 rfl]; simp))]; exact n6 false _ (by simp [upd]; done) rfl)
          | (rw [key true (by rw [if_neg (by omega), if_neg (by omega), if_neg (by omega), if_pos hk', a4']; unfold comOK; first | (rw [ha0 rfl]; rfl) | (cases A <;> rfl) | (rw [ha0 rfl]; simp))]; exact n6 true _ (by simp [upd]; done) rfl)
          | (rw [key false (by rw [if_neg (by omega), if_neg (by omega), if_neg (by omega), if_pos hk', a4']; unfold comOK; first | (rw [ha0 rfl]; rfl) | (cases A <;> rfl) | (rw [ha0 rfl]; simp))]; exact n6 false _ rfl rfl)
          | (rw [key true (by rw [if_neg (by omega), if_neg (by omega), if_neg (by omega), if_pos hk', a4']; unfold comOK; first | (rw [ha0 rfl]; rfl) | (cases A <;> rfl) | (rw [ha0 rfl]; simp))]; exact n6 true _ rfl rfl)
          | trace_state
    · have a1 : (t.kind != 1) = true := by rw [hk']; rfl
      have a3 : (t.kind == 3) = false := by rw [hk']; rfl
      have a4 : (t.kind == 4) = false := by rw [hk']; rfl
      have a5 : (t.kind == 5) = true := by rw [hk']; rfl
      have lt3 : decide (t.kind < 3) = false := decide_eq_false (by omega)
      have a4' : (t.kind != 4) = true := by rw [hk']; rfl
      obtain ⟨sf, hs⟩ : ∃ b, t.self = b := ⟨_, rfl⟩
      rw [hs] at key n6 ⊢
      cases bt' <;> cases bm <;> cases bl <;> cases sf
      all_goals
        refine Q1 Tryz.func29 hn29 hc29 (by rw [Tryz.ntmps29]; simp) (by rw [Tryz.ntmps29]; decide) ?_
        simp -dsimp -implicitDefEqProofs (disch := omega) only [VCA, Nat.reduceEqDiff, Nat.reduceAdd, Nat.reduceLeDiff, ↓reduceIte, c29]
        repeat' (first | ((with_reducible refine brC (fun _ => ?_) fun _ => ?_) <;> try (exfalso; omega)) | (with_reducible apply pcallE.of; · exact cB) | (with_reducible apply pcallE.of; · exact cR) | (with_reducible apply pcallE.of; · exact cN) | (with_reducible refine And.intro ?_ ?_; · omega) | simp -dsimp -implicitDefEqProofs (disch := omega) only [↓Q0 17, ↓Q0 31, ↓Q0 36, ↓Q5 44, ↓Q5 50, ↓Q5 54, ↓Q5 63, ↓Q5 67, VCA, Nat.reduceEqDiff, Nat.reduceAdd, Nat.reduceLeDiff, ↓reduceIte, Y8, Q7, J1, J8, a1, a3, a4, a5, lt3, hbt, hgt, hmn, ll])
        first
          | (rw [key false (by rw [if_neg (by omega), if_neg (by omega), if_neg (by omega), if_neg (by omega), a4']; first | (rw [ha0 rfl]; rfl) | (cases A <;> rfl))]; exact n6 false _ (by simp [upd]; done) rfl)
          | (rw [key true (by rw [if_neg (by omega), if_neg (by omega), if_neg (by omega), if_neg (by omega), a4']; first | (rw [ha0 rfl]; rfl) | (cases A <;> rfl))]; exact n6 true _ (by simp [upd]; done) rfl)
          | (rw [key false (by rw [if_neg (by omega), if_neg (by omega), if_neg (by omega), if_neg (by omega), a4']; first | (rw [ha0 rfl]; rfl) | (cases A <;> rfl))]; exact n6 false _ rfl rfl)
          | (rw [key true (by rw [if_neg (by omega), if_neg (by omega), if_neg (by omega), if_neg (by omega), a4']; first | (rw [ha0 rfl]; rfl) | (cases A <;> rfl))]; exact n6 true _ rfl rfl)
          | trace_state
  · have hf : UZ t = 7 := by unfold UZ; rw [if_pos (by omega)]
    have hb : (decide (1 <= t.kind) && decide (t.kind <= 5)) = false := by
      rw [Bool.and_eq_false_iff, decide_eq_false_iff_not, decide_eq_false_iff_not]; omega
    rw [hb] at cB
    rw [hf]
    unfold J6
    refine Q1 Tryz.func29 hn29 hc29 (by rw [Tryz.ntmps29]; simp) (by rw [Tryz.ntmps29]; decide) ?_
    simp -dsimp -implicitDefEqProofs (disch := omega) only [VCA, Nat.reduceEqDiff, Nat.reduceAdd, Nat.reduceLeDiff, ↓reduceIte, c29]
    repeat' (first | ((with_reducible refine brC (fun _ => ?_) fun _ => ?_) <;> try (exfalso; omega)) | (with_reducible apply pcallE.of; · exact cB) | (with_reducible refine And.intro ?_ ?_; · omega) | simp -dsimp -implicitDefEqProofs (disch := omega) only [VCA, ↓reduceIte, exists_eq_right])
    first | exact Sub.refl _ | exact ⟨Sub.refl _, rfl⟩ | trace_state
def c12 : SFun := ⟨.seq (.reg [o 2 (.mv (.c (.str []))), o 3 (.mv (.c (.int .i64 0)))]) (.seq (.reg [o 4 (.mv (.c (.str [])))]) (.seq (.seq (.reg [o 5 (.mv (.c (.int .i64 0)))]) (.block 0 (.loop (.seq (.seq (.reg [o 14 (.mv (.t 5)), o 15 (.mv (.t 0)), o 16 (.len (.t 15)), o 17 (.bin .lss (.t 14) (.t 16))]) (.cond (.t 17) .skip (.exit 0))) (.seq (.block 1 (.seq (.reg [o 20 (.mv (.t 0)), o 21 (.mv (.t 5)), o 22 (.idxA 7 (.t 20) (.t 21)), o 23 (.ld 7 true (.t 22)), o 24 (.pcall 29 [.t 23]), o 6 (.mv (.t 24))]) (.seq (.seq (.reg [o 25 (.mv (.t 6)), o 26 (.bin .neq (.t 25) (.c (.int .i64 0)))]) (.cond (.t 26) (.seq (.reg [o 27 (.mv (.t 6)), o 2 (.mv (.c (.str []))), o 3 (.mv (.t 27))]) .ret) .skip)) (.seq (.reg [o 28 (.mv (.t 0)), o 29 (.mv (.t 5)), o 30 (.idxA 7 (.t 28) (.t 29)), o 31 (.ld 7 true (.t 30)), o 7 (.new 43 7 [.int .i64 0, .str [], .emp, .str [], .bool false, .int .i64 0, .int .i64 0]), ⟨none, .st 7 (.t 7) (.t 31), none⟩]) (.seq (.reg [o 8 (.mv (.c (.str [])))]) (.seq (.seq (.reg [o 32 (.mv (.t 5)), o 33 (.bin .gtr (.t 32) (.c (.int .i64 0))), o 34 (.mv (.t 33)), ⟨some 35, .mv (.t 0), some (34, true)⟩, ⟨some 36, .mv (.t 5), some (34, true)⟩, ⟨some 37, .bin .sub (.t 36) (.c (.int .i64 1)), some (34, true)⟩, ⟨some 38, .idxA 7 (.t 35) (.t 37), some (34, true)⟩, ⟨some 39, .fldA 0 (.t 38), some (34, true)⟩, ⟨some 40, .ld 1 false (.t 39), some (34, true)⟩, ⟨some 41, .bin .eql (.t 40) (.c (.int .i64 1)), some (34, true)⟩, o 42 (.pick (.t 34) (.t 41) (.c (.bool false))), o 43 (.mv (.t 42)), ⟨some 44, .mv (.t 0), some (43, true)⟩, ⟨some 45, .mv (.t 5), some (43, true)⟩, ⟨some 46, .bin .sub (.t 45) (.c (.int .i64 1)), some (43, true)⟩, ⟨some 47, .idxA 7 (.t 44) (.t 46), some (43, true)⟩, ⟨some 48, .fldA 1 (.t 47), some (43, true)⟩, ⟨some 49, .ld 1 false (.t 48), some (43, true)⟩, ⟨some 50, .pcall 17 [.t 49], some (43, true)⟩, ⟨some 51, .bin .gtr (.t 50) (.c (.int .i64 0)), some (43, true)⟩, o 52 (.pick (.t 43) (.t 51) (.c (.bool false)))]) (.cond (.t 52) (.reg [o 53 (.mv (.t 0)), o 54 (.mv (.t 5)), o 55 (.bin .sub (.t 54) (.c (.int .i64 1))), o 56 (.idxA 7 (.t 53) (.t 55)), o 57 (.fldA 1 (.t 56)), o 58 (.ld 1 false (.t 57)), o 8 (.mv (.t 58))]) .skip)) (.seq (.reg [o 9 (.mv (.c (.str [])))]) (.seq (.seq (.reg [o 59 (.mv (.t 5)), o 60 (.bin .gtr (.t 59) (.c (.int .i64 1))), o 61 (.mv (.t 60)), ⟨some 62, .mv (.t 0), some (61, true)⟩, ⟨some 63, .mv (.t 5), some (61, true)⟩, ⟨some 64, .bin .sub (.t 63) (.c (.int .i64 1)), some (61, true)⟩, ⟨some 65, .idxA 7 (.t 62) (.t 64), some (61, true)⟩, ⟨some 66, .fldA 0 (.t 65), some (61, true)⟩, ⟨some 67, .ld 1 false (.t 66), some (61, true)⟩, ⟨some 68, .bin .eql (.t 67) (.c (.int .i64 3)), some (61, true)⟩, o 69 (.pick (.t 61) (.t 68) (.c (.bool false))), o 70 (.mv (.t 69)), ⟨some 71, .mv (.t 0), some (70, true)⟩, ⟨some 72, .mv (.t 5), some (70, true)⟩, ⟨some 73, .bin .sub (.t 72) (.c (.int .i64 2)), some (70, true)⟩, ⟨some 74, .idxA 7 (.t 71) (.t 73), some (70, true)⟩, ⟨some 75, .fldA 0 (.t 74), some (70, true)⟩, ⟨some 76, .ld 1 false (.t 75), some (70, true)⟩, ⟨some 77, .bin .eql (.t 76) (.c (.int .i64 1)), some (70, true)⟩, o 78 (.pick (.t 70) (.t 77) (.c (.bool false))), o 79 (.mv (.t 78)), ⟨some 80, .mv (.t 0), some (79, true)⟩, ⟨some 81, .mv (.t 5), some (79, true)⟩, ⟨some 82, .bin .sub (.t 81) (.c (.int .i64 2)), some (79, true)⟩, ⟨some 83, .idxA 7 (.t 80) (.t 82), some (79, true)⟩, ⟨some 84, .fldA 1 (.t 83), some (79, true)⟩, ⟨some 85, .ld 1 false (.t 84), some (79, true)⟩, ⟨some 86, .pcall 17 [.t 85], some (79, true)⟩, ⟨some 87, .bin .gtr (.t 86) (.c (.int .i64 0)), some (79, true)⟩, o 88 (.pick (.t 79) (.t 87) (.c (.bool false)))]) (.cond (.t 88) (.reg [o 89 (.mv (.t 0)), o 90 (.mv (.t 5)), o 91 (.bin .sub (.t 90) (.c (.int .i64 2))), o 92 (.idxA 7 (.t 89) (.t 91)), o 93 (.fldA 1 (.t 92)), o 94 (.ld 1 false (.t 93)), o 9 (.mv (.t 94))]) .skip)) (.seq (.reg [o 95 (.fldA 0 (.t 7)), o 96 (.ld 1 false (.t 95)), o 97 (.bin .eql (.t 96) (.c (.int .i64 2))), o 98 (.mv (.t 97)), ⟨some 99, .fldA 1 (.t 7), some (98, true)⟩, ⟨some 100, .ld 1 false (.t 99), some (98, true)⟩, ⟨some 101, .mv (.t 8), some (98, true)⟩, ⟨some 102, .bin .eql (.t 100) (.t 101), some (98, true)⟩, ⟨some 103, .mv (.t 102), some (98, true)⟩, ⟨some 104, .fldA 1 (.t 7), some (103, false)⟩, ⟨some 105, .ld 1 false (.t 104), some (103, false)⟩, ⟨some 106, .mv (.t 9), some (103, false)⟩, ⟨some 107, .bin .eql (.t 105) (.t 106), some (103, false)⟩, ⟨some 108, .pick (.t 103) (.c (.bool true)) (.t 107), some (98, true)⟩, o 109 (.pick (.t 98) (.t 108) (.c (.bool false))), o 10 (.mv (.t 109))]) (.seq (.seq (.reg [o 110 (.fldA 0 (.t 7)), o 111 (.ld 1 false (.t 110)), o 112 (.bin .eql (.t 111) (.c (.int .i64 3))), o 113 (.mv (.t 112)), ⟨some 114, .mv (.t 5), some (113, true)⟩, ⟨some 115, .bin .gtr (.t 114) (.c (.int .i64 0)), some (113, true)⟩, o 116 (.pick (.t 113) (.t 115) (.c (.bool false))), o 117 (.mv (.t 116)), ⟨some 118, .mv (.t 0), some (117, true)⟩, ⟨some 119, .mv (.t 5), some (117, true)⟩, ⟨some 120, .bin .sub (.t 119) (.c (.int .i64 1)), some (117, true)⟩, ⟨some 121, .idxA 7 (.t 118) (.t 120), some (117, true)⟩, ⟨some 122, .fldA 0 (.t 121), some (117, true)⟩, ⟨some 123, .ld 1 false (.t 122), some (117, true)⟩, ⟨some 124, .bin .eql (.t 123) (.c (.int .i64 3)), some (117, true)⟩, o 125 (.pick (.t 117) (.t 124) (.c (.bool false))), o 126 (.mv (.t 125)), ⟨some 127, .mv (.t 9), some (126, false)⟩, ⟨some 128, .bin .neq (.t 127) (.c (.str [])), some (126, false)⟩, ⟨some 129, .mv (.t 128), some (126, false)⟩, ⟨some 130, .mv (.t 10), some (129, true)⟩, ⟨some 131, .un .not (.t 130), some (129, true)⟩, ⟨some 132, .pick (.t 129) (.t 131) (.c (.bool false)), some (126, false)⟩, o 133 (.pick (.t 126) (.c (.bool true)) (.t 132)), o 134 (.mv (.t 133)), ⟨some 135, .mv (.t 8), some (134, false)⟩, ⟨some 136, .bin .neq (.t 135) (.c (.str [])), some (134, false)⟩, ⟨some 137, .mv (.t 136), some (134, false)⟩, ⟨some 138, .mv (.t 10), some (137, true)⟩, ⟨some 139, .un .not (.t 138), some (137, true)⟩, ⟨some 140, .pick (.t 137) (.t 139) (.c (.bool false)), some (134, false)⟩, ⟨some 141, .mv (.t 140), some (134, false)⟩, ⟨some 142, .fldA 0 (.t 7), some (141, true)⟩, ⟨some 143, .ld 1 false (.t 142), some (141, true)⟩, ⟨some 144, .bin .neq (.t 143) (.c (.int .i64 3)), some (141, true)⟩, ⟨some 145, .pick (.t 141) (.t 144) (.c (.bool false)), some (134, false)⟩, o 146 (.pick (.t 134) (.c (.bool true)) (.t 145))]) (.cond (.t 146) (.seq (.reg [o 2 (.mv (.c (.str []))), o 3 (.mv (.c (.int .i64 9)))]) .ret) .skip)) (.seq (.seq (.reg [o 147 (.mv (.t 8)), o 148 (.bin .neq (.t 147) (.c (.str []))), o 149 (.mv (.t 148)), ⟨some 150, .fldA 0 (.t 7), some (149, true)⟩, ⟨some 151, .ld 1 false (.t 150), some (149, true)⟩, ⟨some 152, .bin .eql (.t 151) (.c (.int .i64 3)), some (149, true)⟩, o 153 (.pick (.t 149) (.t 152) (.c (.bool false))), o 154 (.mv (.t 153)), ⟨some 155, .mv (.t 8), some (154, true)⟩, ⟨some 156, .pcall 17 [.t 155], some (154, true)⟩, ⟨some 157, .bin .eql (.t 156) (.c (.int .i64 1)), some (154, true)⟩, o 158 (.pick (.t 154) (.t 157) (.c (.bool false)))]) (.cond (.t 158) (.seq (.reg [o 160 (.mv (.t 8)), o 161 (.bin .add (.c (.str [60])) (.t 160)), o 162 (.bin .add (.t 161) (.c (.str [62]))), o 163 (.fldA 3 (.t 7)), o 164 (.ld 1 false (.t 163)), o 165 (.bin .add (.t 162) (.t 164)), o 166 (.bin .add (.t 165) (.c (.str [60, 47]))), o 167 (.mv (.t 8)), o 168 (.bin .add (.t 166) (.t 167)), o 169 (.bin .add (.t 168) (.c (.str [62]))), o 170 (.pcall 9 [.t 169]), o 159 (.mv (.t 170)), o 171 (.ext (.t 159) 0), o 172 (.ext (.t 159) 1), o 11 (.mv (.t 171)), o 12 (.mv (.t 172))]) (.seq (.dreg [(o 173 (.mv (.t 11)), none), (o 174 (.len (.t 173)), none), (o 175 (.bin .neq (.t 174) (.c (.int .i64 3))), none), (o 176 (.mv (.t 175)), none), (⟨some 177, .mv (.t 11), some (176, false)⟩, none), (⟨some 178, .idxA 7 (.t 177) (.c (.int .i64 1)), some (176, false)⟩, none), (⟨some 179, .fldA 3 (.t 178), some (176, false)⟩, none), (⟨some 180, .ld 1 false (.t 179), some (176, false)⟩, none), (⟨some 181, .fldA 3 (.t 7), some (176, false)⟩, none), (⟨some 182, .ld 1 false (.t 181), some (176, false)⟩, none), (⟨some 183, .bin .neq (.t 180) (.t 182), some (176, false)⟩, none), (o 184 (.pick (.t 176) (.c (.bool true)) (.t 183)), none)]) (.cond (.t 184) (.seq (.reg [o 2 (.mv (.c (.str []))), o 3 (.mv (.c (.int .i64 9)))]) .ret) .skip))) .skip)) (.seq (.seq (.reg [o 185 (.fldA 0 (.t 7)), o 186 (.ld 1 false (.t 185))]) (.block 2 (.seq (.reg [o 194 (.bin .eql (.t 186) (.c (.int .i64 1))), o 193 (.mv (.t 194))]) (.cond (.t 193) (.seq (.reg [o 195 (.mv (.t 4)), o 196 (.fldA 1 (.t 7)), o 197 (.ld 1 false (.t 196)), o 198 (.bin .add (.c (.str [60])) (.t 197)), o 199 (.bin .add (.t 195) (.t 198)), o 4 (.mv (.t 199))]) (.seq (.seq (.reg [o 13 (.mv (.c (.int .i64 0)))]) (.block 3 (.loop (.seq (.seq (.reg [o 200 (.mv (.t 13)), o 201 (.fldA 2 (.t 7)), o 202 (.ld 1 false (.t 201)), o 203 (.len (.t 202)), o 204 (.bin .lss (.t 200) (.t 203))]) (.cond (.t 204) .skip (.exit 3))) (.seq (.block 4 (.dreg [(o 207 (.mv (.t 4)), none), (o 208 (.fldA 2 (.t 7)), none), (o 209 (.ld 1 false (.t 208)), none), (o 210 (.mv (.t 13)), none), (o 211 (.idxA 2 (.t 209) (.t 210)), none), (o 212 (.fldA 0 (.t 211)), none), (o 213 (.ld 1 false (.t 212)), none), (o 214 (.bin .add (.c (.str [32])) (.t 213)), none), (o 215 (.bin .add (.t 214) (.c (.str [61, 34]))), none), (o 216 (.fldA 2 (.t 7)), none), (o 217 (.ld 1 false (.t 216)), none), (o 218 (.mv (.t 13)), none), (o 219 (.idxA 2 (.t 217) (.t 218)), none), (o 220 (.fldA 1 (.t 219)), none), (o 221 (.ld 1 false (.t 220)), none), (o 222 (.pcall 30 [.t 221, .c (.bool true)]), none), (o 223 (.bin .add (.t 215) (.t 222)), none), (o 224 (.bin .add (.t 223) (.c (.str [34]))), none), (o 225 (.bin .add (.t 207) (.t 224)), none), (o 4 (.mv (.t 225)), (some [213, 209, 221, 217]))])) (.reg [o 205 (.mv (.t 13)), o 206 (.bin .add (.t 205) (.c (.int .i64 1))), o 13 (.mv (.t 206))])))))) (.seq (.seq (.reg [o 226 (.fldA 4 (.t 7)), o 227 (.ld 1 false (.t 226))]) (.cond (.t 227) (.reg [o 228 (.mv (.t 4)), o 229 (.bin .add (.t 228) (.c (.str [47]))), o 4 (.mv (.t 229))]) .skip)) (.reg [o 230 (.mv (.t 4)), o 231 (.bin .add (.t 230) (.c (.str [62]))), o 4 (.mv (.t 231))])))) (.seq (.reg [o 233 (.bin .eql (.t 186) (.c (.int .i64 2))), o 232 (.mv (.t 233))]) (.cond (.t 232) (.reg [o 234 (.mv (.t 4)), o 235 (.fldA 1 (.t 7)), o 236 (.ld 1 false (.t 235)), o 237 (.bin .add (.c (.str [60, 47])) (.t 236)), o 238 (.bin .add (.t 237) (.c (.str [62]))), o 239 (.bin .add (.t 234) (.t 238)), o 4 (.mv (.t 239))]) (.seq (.reg [o 241 (.bin .eql (.t 186) (.c (.int .i64 3))), o 240 (.mv (.t 241))]) (.cond (.t 240) (.seq (.reg [o 242 (.mv (.t 8)), o 243 (.pcall 17 [.t 242]), o 244 (.bin .eql (.t 243) (.c (.int .i64 1)))]) (.cond (.t 244) (.reg [o 245 (.mv (.t 4)), o 246 (.fldA 3 (.t 7)), o 247 (.ld 1 false (.t 246)), o 248 (.bin .add (.t 245) (.t 247)), o 4 (.mv (.t 248))]) (.reg [o 249 (.mv (.t 4)), o 250 (.fldA 3 (.t 7)), o 251 (.ld 1 false (.t 250)), o 252 (.pcall 30 [.t 251, .c (.bool false)]), o 253 (.bin .add (.t 249) (.t 252)), o 4 (.mv (.t 253))]))) (.seq (.reg [o 255 (.bin .eql (.t 186) (.c (.int .i64 4))), o 254 (.mv (.t 255))]) (.cond (.t 254) (.reg [o 256 (.mv (.t 4)), o 257 (.fldA 3 (.t 7)), o 258 (.ld 1 false (.t 257)), o 259 (.bin .add (.c (.str [60, 33, 45, 45])) (.t 258)), o 260 (.bin .add (.t 259) (.c (.str [45, 45, 62]))), o 261 (.bin .add (.t 256) (.t 260)), o 4 (.mv (.t 261))]) (.reg [o 187 (.mv (.t 4)), o 188 (.fldA 1 (.t 7)), o 189 (.ld 1 false (.t 188)), o 190 (.bin .add (.c (.str [60, 33, 68, 79, 67, 84, 89, 80, 69, 32])) (.t 189)), o 191 (.bin .add (.t 190) (.c (.str [62]))), o 192 (.bin .add (.t 187) (.t 191)), o 4 (.mv (.t 192))]))))))))))) (.seq (.reg [o 262 (.mv (.t 4)), o 263 (.lenS (.t 262)), o 264 (.bin .gtr (.t 263) (.c (.int .i64 4000)))]) (.cond (.t 264) (.seq (.reg [o 2 (.mv (.c (.str []))), o 3 (.mv (.c (.int .i64 2)))]) .ret) .skip)))))))))))))) (.reg [o 18 (.mv (.t 5)), o 19 (.bin .add (.t 18) (.c (.int .i64 1))), o 5 (.mv (.t 19))])))))) (.seq (.reg [o 265 (.mv (.t 4)), o 2 (.mv (.t 265)), o 3 (.mv (.c (.int .i64 0)))]) .ret))), [.tmp 2, .tmp 3]⟩
theorem hc12 : Y5 Tryz.prog {pure := [29, 17, 9, 30]} Tryz.f12 = some c12 := by kernel_rfl
def shR : SCode := cB (cL (cR (cB (cB (cR (cL (cR (cR c12.code))))))))
def YX : SCode := cR (cR (cR (cR shR)))
def WU : SCode := cR (cR YX)
def shR7 : SCode := cR WU
def shR9 : SCode := cR (cR shR7)
def shR10 : SCode := cR shR9
def Fx (x : Nat) (e0 e : Env) : Prop := ∀ t, t <= 9 -> t ≠ x -> e t = e0 t
theorem Fx.refl (x : Nat) (e : Env) : Fx x e e := fun _ _ _ => rfl
theorem Fx.put {x : Nat} {e0 e : Env} (F : Fx x e0 e) {k : Nat} (hk : 9 < k \/ k = x) (v : AVal) : Fx x e0 (upd e k v) := fun t h1 h2 => by
  rw [Q9 _ _ (by omega)]; exact F t h1 h2
theorem beh_ok {l : List HTok} {i : Nat} {e : Env} {h : Q2} {K : SExit -> Env -> Q2 -> Prop} (hl : l.length <= 20) (hi : i < l.length) (e0 : e 0 = sl J6 l) (e5 : e 5 = Q3 i) (e8 : e 8 = .str [])
    (hK : ∀ e' : Env, Fx 8 e e' -> e' 8 = .str (KW l i) -> K .normal e' h) : vc (Pg G) (cL YX) K e h := by
  unfold KW at hK
  skip
  by_cases h0 : 0 < i
  · have hd : decide ((i : Int) > 0) = true := decide_eq_true (by omega)
    have ti : ((i : Int) - 1).toNat = i - 1 := by omega
    obtain ⟨y, hy⟩ : ∃ y, nth l (i - 1) = y := ⟨_, rfl⟩
    rw [hy] at hK
    have cW := ZX (G := G) y.name
    by_cases hk : y.kind = 1
    · have b1 : (y.kind == 1) = true := by simpa using hk
      by_cases hr : 0 < X2 y.name
      · have b2 : decide (X2 y.name > 0) = true := decide_eq_true hr
        rw [if_pos ⟨h0, hk, hr⟩] at hK
        repeat' (first | ((with_reducible refine brC (fun _ => ?_) fun _ => ?_) <;> try (exfalso; omega)) | (with_reducible apply pcallE.of; · exact cW) | (with_reducible refine And.intro ?_ ?_; · omega) | simp -dsimp -implicitDefEqProofs (disch := omega) only [↓Q0 34, ↓Q0 43, VCA, Nat.reduceEqDiff, Nat.reduceAdd, Nat.reduceLeDiff, ↓reduceIte, reduceCtorEq, YX, shR, cL, cR, cB, c12, e0, e5, hd, ti, hy, b1, b2, J6])
        exact hK _ (by repeat' (first | exact .refl _ _ | refine Fx.put ?_ (by omega) _)) (by simp [upd])
      · have b2 : decide (X2 y.name > 0) = false := decide_eq_false hr
        rw [if_neg (fun q => hr q.2.2)] at hK
        repeat' (first | ((with_reducible refine brC (fun _ => ?_) fun _ => ?_) <;> try (exfalso; omega)) | (with_reducible apply pcallE.of; · exact cW) | (with_reducible refine And.intro ?_ ?_; · omega) | simp -dsimp -implicitDefEqProofs (disch := omega) only [↓Q0 34, ↓Q0 43, VCA, Nat.reduceEqDiff, Nat.reduceAdd, Nat.reduceLeDiff, ↓reduceIte, reduceCtorEq, YX, shR, cL, cR, cB, c12, e0, e5, hd, ti, hy, b1, b2, J6])
        exact hK _ (by repeat' (first | exact .refl _ _ | refine Fx.put ?_ (by omega) _)) (by simp [upd, e8])
    · have b1 : (y.kind == 1) = false := by simpa using hk
      rw [if_neg (fun q => hk q.2.1)] at hK
      repeat' (first | ((with_reducible refine brC (fun _ => ?_) fun _ => ?_) <;> try (exfalso; omega)) | (with_reducible refine And.intro ?_ ?_; · omega) | simp -dsimp -implicitDefEqProofs (disch := omega) only [↓Q0 34, ↓Q0 43, VCA, Nat.reduceEqDiff, Nat.reduceAdd, Nat.reduceLeDiff, ↓reduceIte, reduceCtorEq, YX, shR, cL, cR, cB, c12, e0, e5, hd, ti, hy, b1, J6])
      exact hK _ (by repeat' (first | exact .refl _ _ | refine Fx.put ?_ (by omega) _)) (by simp [upd, e8])
  · have hd : decide ((i : Int) > 0) = false := decide_eq_false (by omega)
    rw [if_neg (fun q => h0 q.1)] at hK
    repeat' (first | ((with_reducible refine brC (fun _ => ?_) fun _ => ?_) <;> try (exfalso; omega)) | (with_reducible refine And.intro ?_ ?_; · omega) | simp -dsimp -implicitDefEqProofs (disch := omega) only [↓Q0 34, ↓Q0 43, VCA, Nat.reduceEqDiff, ↓reduceIte, YX, shR, cL, cR, cB, c12, e5, hd])
    exact hK _ (by repeat' (first | exact .refl _ _ | refine Fx.put ?_ (by omega) _)) (by simp [upd, e8])
theorem txt2_ok {l : List HTok} {i : Nat} {e : Env} {h : Q2} {K : SExit -> Env -> Q2 -> Prop} (hl : l.length <= 20) (hi : i < l.length) (e0 : e 0 = sl J6 l) (e5 : e 5 = Q3 i) (e9 : e 9 = .str [])
    (hK : ∀ e' : Env, Fx 9 e e' -> e' 9 = .str (txtM l i) -> K .normal e' h) : vc (Pg G) (cL WU) K e h := by
  unfold txtM at hK
  skip
  by_cases h0 : 1 < i
  · have hd : decide ((i : Int) > 1) = true := decide_eq_true (by omega)
    have ti : ((i : Int) - 1).toNat = i - 1 := by omega
    have ti2 : ((i : Int) - 2).toNat = i - 2 := by omega
    obtain ⟨y, hy⟩ : ∃ y, nth l (i - 1) = y := ⟨_, rfl⟩
    obtain ⟨z, hz⟩ : ∃ y, nth l (i - 2) = y := ⟨_, rfl⟩
    rw [hy, hz] at hK
    have cW := ZX (G := G) z.name
    by_cases hk3 : y.kind = 3
    · have b3 : (y.kind == 3) = true := by simpa using hk3
      by_cases hk : z.kind = 1
      · have b1 : (z.kind == 1) = true := by simpa using hk
        by_cases hr : 0 < X2 z.name
        · have b2 : decide (X2 z.name > 0) = true := decide_eq_true hr
          rw [if_pos ⟨h0, hk3, hk, hr⟩] at hK
          repeat' (first | ((with_reducible refine brC (fun _ => ?_) fun _ => ?_) <;> try (exfalso; omega)) | (with_reducible apply pcallE.of; · exact cW) | (with_reducible refine And.intro ?_ ?_; · omega) | simp -dsimp -implicitDefEqProofs (disch := omega) only [↓Q0 61, ↓Q0 70, ↓Q0 79, VCA, Nat.reduceEqDiff, Nat.reduceAdd, Nat.reduceLeDiff, ↓reduceIte, reduceCtorEq, WU, YX, shR, cL, cR, cB, c12, e0, e5, hd, ti, ti2, hy, hz, b1, b2, b3, J6])
          exact hK _ (by repeat' (first | exact .refl _ _ | refine Fx.put ?_ (by omega) _)) (by simp [upd])
        · have b2 : decide (X2 z.name > 0) = false := decide_eq_false hr
          rw [if_neg (fun q => hr q.2.2.2)] at hK
          repeat' (first | ((with_reducible refine brC (fun _ => ?_) fun _ => ?_) <;> try (exfalso; omega)) | (with_reducible apply pcallE.of; · exact cW) | (with_reducible refine And.intro ?_ ?_; · omega) | simp -dsimp -implicitDefEqProofs (disch := omega) only [↓Q0 61, ↓Q0 70, ↓Q0 79, VCA, Nat.reduceEqDiff, Nat.reduceAdd, Nat.reduceLeDiff, ↓reduceIte, reduceCtorEq, WU, YX, shR, cL, cR, cB, c12, e0, e5, hd, ti, ti2, hy, hz, b1, b2, b3, J6])
          exact hK _ (by repeat' (first | exact .refl _ _ | refine Fx.put ?_ (by omega) _)) (by simp [upd, e9])
      · have b1 : (z.kind == 1) = false := by simpa using hk
        rw [if_neg (fun q => hk q.2.2.1)] at hK
        repeat' (first | ((with_reducible refine brC (fun _ => ?_) fun _ => ?_) <;> try (exfalso; omega)) | (with_reducible refine And.intro ?_ ?_; · omega) | simp -dsimp -implicitDefEqProofs (disch := omega) only [↓Q0 61, ↓Q0 70, ↓Q0 79, VCA, Nat.reduceEqDiff, Nat.reduceAdd, Nat.reduceLeDiff, ↓reduceIte, reduceCtorEq, WU, YX, shR, cL, cR, cB, c12, e0, e5, hd, ti, ti2, hy, hz, b1, b3, J6])
        exact hK _ (by repeat' (first | exact .refl _ _ | refine Fx.put ?_ (by omega) _)) (by simp [upd, e9])
    · have b3 : (y.kind == 3) = false := by simpa using hk3
      rw [if_neg (fun q => hk3 q.2.1)] at hK
      repeat' (first | ((with_reducible refine brC (fun _ => ?_) fun _ => ?_) <;> try (exfalso; omega)) | (with_reducible refine And.intro ?_ ?_; · omega) | simp -dsimp -implicitDefEqProofs (disch := omega) only [↓Q0 61, ↓Q0 70, ↓Q0 79, VCA, Nat.reduceEqDiff, Nat.reduceAdd, Nat.reduceLeDiff, ↓reduceIte, reduceCtorEq, WU, YX, shR, cL, cR, cB, c12, e0, e5, hd, ti, hy, b3, J6])
      exact hK _ (by repeat' (first | exact .refl _ _ | refine Fx.put ?_ (by omega) _)) (by simp [upd, e9])
  · have hd : decide ((i : Int) > 1) = false := decide_eq_false (by omega)
    rw [if_neg (fun q => h0 q.1)] at hK
    repeat' (first | ((with_reducible refine brC (fun _ => ?_) fun _ => ?_) <;> try (exfalso; omega)) | (with_reducible refine And.intro ?_ ?_; · omega) | simp -dsimp -implicitDefEqProofs (disch := omega) only [↓Q0 61, ↓Q0 70, ↓Q0 79, VCA, Nat.reduceEqDiff, ↓reduceIte, WU, YX, shR, cL, cR, cB, c12, e5, hd])
    exact hK _ (by repeat' (first | exact .refl _ _ | refine Fx.put ?_ (by omega) _)) (by simp [upd, e9])
theorem clsR_ok {t : HTok} {b x : List UInt8} {r7 : Nat} {e : Env} {h : Q2} {K : SExit -> Env -> Q2 -> Prop} (e7 : e 7 = .vp r7 0) (e8 : e 8 = .str b) (e9 : e 9 = .str x) (z7 : h r7 = some ⟨Tt, 7, [J6 t]⟩)
    (hK : ∀ e' : Env, Fx 10 e e' -> e' 10 = .bool (clsM b x t) -> K .normal e' h) : vc (Pg G) (cL shR7) K e h := by
  unfold clsM at hK
  unfold J6 at z7
  obtain ⟨k2, hk2⟩ : ∃ v, (t.kind == 2) = v := ⟨_, rfl⟩
  obtain ⟨nb, hnb⟩ : ∃ v, (t.name == b) = v := ⟨_, rfl⟩
  obtain ⟨nx, hnx⟩ : ∃ v, (t.name == x) = v := ⟨_, rfl⟩
  rw [hk2, hnb, hnx] at hK
  skip
  cases k2 <;> cases nb <;> cases nx
  all_goals
    repeat' (first | ((with_reducible refine brC (fun _ => ?_) fun _ => ?_) <;> try (exfalso; omega)) | (with_reducible refine And.intro ?_ ?_; · omega) | simp -dsimp -implicitDefEqProofs (disch := omega) only [↓Q0 98, ↓Q0 103, VCA, Nat.reduceEqDiff, Nat.reduceAdd, Nat.reduceLT, Nat.reduceLeDiff, ↓reduceIte, exists_eq_left', shR7, WU, YX, shR, cL, cR, cB, c12, e7, e8, e9, z7, hk2, hnb, hnx])
    exact hK _ (by repeat' (first | exact .refl _ _ | refine Fx.put ?_ (by omega) _)) (by simp [upd])
def bad0 (w : Bool) (b x : List UInt8) (t : HTok) : Bool := (t.kind == 3 && w) || ((x != [] && !clsM b x t) || (b != [] && (!clsM b x t && t.kind != 3)))
theorem chk_ok {l : List HTok} {i : Nat} {t : HTok} {b x : List UInt8} {r7 : Nat} {e : Env} {h : Q2} {K : SExit -> Env -> Q2 -> Prop} (hl : l.length <= 20) (hi : i < l.length) (e0 : e 0 = sl J6 l) (e5 : e 5 = Q3 i)
    (e7 : e 7 = .vp r7 0) (e8 : e 8 = .str b) (e9 : e 9 = .str x) (e10 : e 10 = .bool (clsM b x t)) (z7 : h r7 = some ⟨Tt, 7, [J6 t]⟩)
    (hK : bad0 (wasT l i) b x t = false -> ∀ e' : Env, Fx 10 e e' -> K .normal e' h) (hR : bad0 (wasT l i) b x t = true -> ∀ e' : Env, e' 2 = .str [] -> e' 3 = .int .i64 9 -> K .ret e' h) : vc (Pg G) (cL (cR shR7)) K e h := by
  have hne : (t.kind != 3) = !(t.kind == 3) := rfl
  unfold bad0 wasT at hK hR
  rw [hne] at hK hR
  unfold J6 at z7
  obtain ⟨k3, hk3⟩ : ∃ v, (t.kind == 3) = v := ⟨_, rfl⟩
  obtain ⟨c, hc⟩ : ∃ v, clsM b x t = v := ⟨_, rfl⟩
  obtain ⟨bb, hbb⟩ : ∃ v, (b != []) = v := ⟨_, rfl⟩
  obtain ⟨bx, hbx⟩ : ∃ v, (x != []) = v := ⟨_, rfl⟩
  obtain ⟨d0, hd0⟩ : ∃ v, decide (0 < i) = v := ⟨_, rfl⟩
  have hd : decide ((i : Int) > 0) = d0 := by rw [<- hd0, Bool.eq_iff_iff, decide_eq_true_iff, decide_eq_true_iff]; omega
  obtain ⟨y, hy⟩ : ∃ y, nth l (i - 1) = y := ⟨_, rfl⟩
  obtain ⟨y3, hy3⟩ : ∃ v, (y.kind == 3) = v := ⟨_, rfl⟩
  rw [hk3] at hne
  rw [hc] at e10
  rw [hk3, hc, hbb, hbx, hd0, hy, hy3] at hK hR
  skip
  cases d0
  · cases k3 <;> cases bx <;> cases c <;> cases bb
    all_goals
      repeat' (first | ((with_reducible refine brC (fun _ => ?_) fun _ => ?_) <;> try (exfalso; omega)) | (with_reducible refine And.intro ?_ ?_; · omega) | simp -dsimp -implicitDefEqProofs (disch := omega) only [↓Q0 113, ↓Q0 117, ↓Q0 126, ↓Q0 129, ↓Q0 134, ↓Q0 137, ↓Q0 141, VCA, Nat.reduceEqDiff, Nat.reduceAdd, Nat.reduceLT, Nat.reduceLeDiff, ↓reduceIte, exists_eq_left', shR7, WU, YX, shR, cL, cR, cB, c12, e5, e7, e8, e9, e10, z7, hk3, hne, hbb, hbx, hd])
      first
        | exact hK rfl _ (by repeat' (first | exact .refl _ _ | refine Fx.put ?_ (by omega) _))
        | exact hR rfl _ (by simp [upd]) (by simp [upd])
  · have hi0 : 0 < i := by simpa using hd0
    have ti : ((i : Int) - 1).toNat = i - 1 := by omega
    cases k3 <;> cases y3 <;> cases bx <;> cases c <;> cases bb
    all_goals
      repeat' (first | ((with_reducible refine brC (fun _ => ?_) fun _ => ?_) <;> try (exfalso; omega)) | (with_reducible refine And.intro ?_ ?_; · omega) | simp -dsimp -implicitDefEqProofs (disch := omega) only [↓Q0 113, ↓Q0 117, ↓Q0 126, ↓Q0 129, ↓Q0 134, ↓Q0 137, ↓Q0 141, VCA, Nat.reduceEqDiff, Nat.reduceAdd, Nat.reduceLT, Nat.reduceLeDiff, ↓reduceIte, reduceCtorEq, exists_eq_left', shR7, WU, YX, shR, cL, cR, cB, c12, e0, e5, e7, e8, e9, e10, z7, hk3, hne, hbb, hbx, hd, ti, hy, hy3, J6])
      first
        | exact hK rfl _ (by repeat' (first | exact .refl _ _ | refine Fx.put ?_ (by omega) _))
        | exact hR rfl _ (by simp [upd]) (by simp [upd])
theorem rawCat (b tx : List UInt8) : (60 :: (b ++ [62] ++ tx ++ [60, 47] ++ b ++ [62]) : List UInt8) = W8 b tx := by
  unfold W8; simp
theorem rawR_ok {t : HTok} {b : List UInt8} {r7 : Nat} {e : Env} {h : Q2} {K : SExit -> Env -> Q2 -> Prop} (sm : TokSm t) (hb : b.length <= 1500000) (htx : t.kind = 3 -> t.text ≠ [])
    (e7 : e 7 = .vp r7 0) (e8 : e 8 = .str b) (z7 : h r7 = some ⟨Tt, 7, [J6 t]⟩)
    (hK : (b != [] && (t.kind == 3 && (X2 b == 1 && QW b t.text))) = false -> ∀ e' : Env, Fx 10 e e' -> K .normal e' h)
    (hR : (b != [] && (t.kind == 3 && (X2 b == 1 && QW b t.text))) = true -> ∀ e' : Env, e' 2 = .str [] -> e' 3 = .int .i64 9 -> K .ret e' h) : vc (Pg G) (cL shR9) K e h := by
  have cW := ZX (G := G) b
  have ht := sm.text
  unfold J6 at z7
  obtain ⟨bb, hbb⟩ : ∃ v, (b != []) = v := ⟨_, rfl⟩
  obtain ⟨k3, hk3⟩ : ∃ v, (t.kind == 3) = v := ⟨_, rfl⟩
  obtain ⟨r1, hr1⟩ : ∃ v, (X2 b == 1) = v := ⟨_, rfl⟩
  rw [hbb, hk3, hr1] at hK hR
  skip
  cases bb
  · repeat' (first | ((with_reducible refine brC (fun _ => ?_) fun _ => ?_) <;> try (exfalso; omega)) | (with_reducible refine And.intro ?_ ?_; · omega) | simp -dsimp -implicitDefEqProofs (disch := omega) only [↓Q0 149, ↓Q0 154, VCA, Nat.reduceEqDiff, ↓reduceIte, shR9, shR7, WU, YX, shR, cL, cR, cB, c12, e8, hbb])
    exact hK rfl _ (by repeat' (first | exact .refl _ _ | refine Fx.put ?_ (by omega) _))
  · cases k3
    · repeat' (first | ((with_reducible refine brC (fun _ => ?_) fun _ => ?_) <;> try (exfalso; omega)) | (with_reducible refine And.intro ?_ ?_; · omega) | simp -dsimp -implicitDefEqProofs (disch := omega) only [↓Q0 149, ↓Q0 154, VCA, Nat.reduceEqDiff, Nat.reduceAdd, Nat.reduceLT, Nat.reduceLeDiff, ↓reduceIte, exists_eq_left', shR9, shR7, WU, YX, shR, cL, cR, cB, c12, e7, e8, z7, hbb, hk3])
      exact hK rfl _ (by repeat' (first | exact .refl _ _ | refine Fx.put ?_ (by omega) _))
    · cases r1
      · repeat' (first | ((with_reducible refine brC (fun _ => ?_) fun _ => ?_) <;> try (exfalso; omega)) | (with_reducible apply pcallE.of; · exact cW) | (with_reducible refine And.intro ?_ ?_; · omega) | simp -dsimp -implicitDefEqProofs (disch := omega) only [↓Q0 149, ↓Q0 154, VCA, Nat.reduceEqDiff, Nat.reduceAdd, Nat.reduceLT, Nat.reduceLeDiff, ↓reduceIte, exists_eq_left', shR9, shR7, WU, YX, shR, cL, cR, cB, c12, e7, e8, z7, hbb, hk3, hr1])
        exact hK rfl _ (by repeat' (first | exact .refl _ _ | refine Fx.put ?_ (by omega) _))
      · have R := rawN_of (nm := b) (by simpa using hr1)
        obtain ⟨law1, law2⟩ := raw_law (tx := t.text) R (htx (by simpa using hk3))
        have hs8 : (W8 b t.text).length <= 1900000 := by
          have : b.length <= 100000 := by
            have := R.raw
            have h8 : b = [115, 99, 114, 105, 112, 116] \/ b = [115, 116, 121, 108, 101] := by
              unfold X2 at this
              split at this
              · assumption
              · split at this <;> exact absurd this (by decide)
            rcases h8 with rfl | rfl <;> decide
          unfold W8; simp only [List.length_append, List.length_cons, List.length_nil]; omega
        have cT' := refTokenRead_ok (G := G) hs8
        obtain ⟨L, hL⟩ : ∃ L, (T7 (W8 b t.text)).1 = L := ⟨_, rfl⟩
        rw [hL] at law1 law2 cT'
        have hcat := rawCat b t.text
        obtain ⟨RT, hRT⟩ : ∃ R, W8 b t.text = R := ⟨_, rfl⟩
        rw [hRT] at cT' hcat
        cases he : QW b t.text <;> rw [he] at hK hR
        · obtain ⟨p, q, r, hl3, hqt⟩ := law1 he
          have h3 : ((L.length : Int) != 3) = false := by rw [hl3]; rfl
          have hn1 : nth L 1 = q := by rw [hl3]; rfl
          have hlen : L.length = 3 := by rw [hl3]; rfl
          have hqt2 : (q.text != t.text) = false := by rw [hqt]; simp
          have t1 : (1 : Int).toNat = 1 := rfl
          repeat' (first | ((with_reducible refine brC (fun _ => ?_) fun _ => ?_) <;> try (exfalso; omega)) | (with_reducible apply pcallE.of; · exact cW) | (with_reducible apply pcallE.of; · exact cT') | (with_reducible refine And.intro ?_ ?_; · omega) | simp -dsimp -implicitDefEqProofs (disch := omega) only [↓Q0 149, ↓Q0 154, VCA, Nat.reduceEqDiff, Nat.reduceAdd, Nat.reduceLT, Nat.reduceLeDiff, ↓reduceIte, exists_eq_left', shR9, shR7, WU, YX, shR, cL, cR, cB, c12, e7, e8, z7, hbb, hk3, hr1])
          refine ⟨by simp only [List.length_append, List.length_cons, List.length_nil]; omega, by simp only [List.length_append, List.length_cons, List.length_nil]; omega, by simp only [List.length_append, List.length_cons, List.length_nil]; omega, by simp only [List.length_append, List.length_cons, List.length_nil]; omega, ?_⟩
          rw [hcat]
          repeat' (first | ((with_reducible refine brC (fun _ => ?_) fun _ => ?_) <;> try (exfalso; omega)) | (with_reducible apply pcallE.of; · exact cT') | (with_reducible refine And.intro ?_ ?_; · omega) | simp -dsimp -implicitDefEqProofs (disch := omega) only [↓Q5 176, VCA, Nat.reduceEqDiff, Nat.reduceAdd, Nat.reduceLT, Nat.reduceLeDiff, ↓reduceIte, Y8, Q7, exists_eq_left', J1, e7, z7, h3, hn1, hqt2, t1, J6])
          exact hK rfl _ (by repeat' (first | exact .refl _ _ | refine Fx.put ?_ (by omega) _))
        · by_cases h3' : L.length = 3
          · have h3 : ((L.length : Int) != 3) = false := by rw [h3']; rfl
            obtain ⟨q, hn1⟩ : ∃ q, nth L 1 = q := ⟨_, rfl⟩
            have hqt2 : (q.text != t.text) = true := by
              rcases law2 he with q' | q'
              · exact absurd h3' q'
              · rw [hn1] at q'; simpa using q'
            have t1 : (1 : Int).toNat = 1 := rfl
            repeat' (first | ((with_reducible refine brC (fun _ => ?_) fun _ => ?_) <;> try (exfalso; omega)) | (with_reducible apply pcallE.of; · exact cW) | (with_reducible apply pcallE.of; · exact cT') | (with_reducible refine And.intro ?_ ?_; · omega) | simp -dsimp -implicitDefEqProofs (disch := omega) only [↓Q0 149, ↓Q0 154, VCA, Nat.reduceEqDiff, Nat.reduceAdd, Nat.reduceLT, Nat.reduceLeDiff, ↓reduceIte, exists_eq_left', shR9, shR7, WU, YX, shR, cL, cR, cB, c12, e7, e8, z7, hbb, hk3, hr1])
            refine ⟨by simp only [List.length_append, List.length_cons, List.length_nil]; omega, by simp only [List.length_append, List.length_cons, List.length_nil]; omega, by simp only [List.length_append, List.length_cons, List.length_nil]; omega, by simp only [List.length_append, List.length_cons, List.length_nil]; omega, ?_⟩
            rw [hcat]
            repeat' (first | ((with_reducible refine brC (fun _ => ?_) fun _ => ?_) <;> try (exfalso; omega)) | (with_reducible apply pcallE.of; · exact cT') | (with_reducible refine And.intro ?_ ?_; · omega) | simp -dsimp -implicitDefEqProofs (disch := omega) only [↓Q5 176, VCA, Nat.reduceEqDiff, Nat.reduceAdd, Nat.reduceLT, Nat.reduceLeDiff, ↓reduceIte, Y8, Q7, exists_eq_left', J1, e7, z7, h3, hn1, hqt2, t1, J6])
            exact hR rfl _ (by simp [upd]) (by simp [upd])
          · have h3 : ((L.length : Int) != 3) = true := by simp; omega
            repeat' (first | ((with_reducible refine brC (fun _ => ?_) fun _ => ?_) <;> try (exfalso; omega)) | (with_reducible apply pcallE.of; · exact cW) | (with_reducible apply pcallE.of; · exact cT') | (with_reducible refine And.intro ?_ ?_; · omega) | simp -dsimp -implicitDefEqProofs (disch := omega) only [↓Q0 149, ↓Q0 154, VCA, Nat.reduceEqDiff, Nat.reduceAdd, Nat.reduceLT, Nat.reduceLeDiff, ↓reduceIte, exists_eq_left', shR9, shR7, WU, YX, shR, cL, cR, cB, c12, e7, e8, z7, hbb, hk3, hr1])
            refine ⟨by simp only [List.length_append, List.length_cons, List.length_nil]; omega, by simp only [List.length_append, List.length_cons, List.length_nil]; omega, by simp only [List.length_append, List.length_cons, List.length_nil]; omega, by simp only [List.length_append, List.length_cons, List.length_nil]; omega, ?_⟩
            rw [hcat]
            repeat' (first | ((with_reducible refine brC (fun _ => ?_) fun _ => ?_) <;> try (exfalso; omega)) | (with_reducible apply pcallE.of; · exact cT') | (with_reducible refine And.intro ?_ ?_; · omega) | simp -dsimp -implicitDefEqProofs (disch := omega) only [↓Q5 176, VCA, Nat.reduceEqDiff, Nat.reduceAdd, Nat.reduceLT, ↓reduceIte, Y8, Q7, J1, J8, h3])
            exact hR rfl _ (by simp [upd]) (by simp [upd])
theorem disp_ok {t : HTok} {b out : List UInt8} {r7 : Nat} {e : Env} {h : Q2} {K : SExit -> Env -> Q2 -> Prop} (sm : TokSm t) (hol : out.length <= 4000) (hk : 1 <= t.kind /\ t.kind <= 5)
    (e4 : e 4 = .str out) (e7 : e 7 = .vp r7 0) (e8 : e 8 = .str b) (z7 : h r7 = some ⟨Tt, 7, [J6 t]⟩)
    (hK : ∀ e' : Env, Fx 4 e e' -> e' 4 = .str (out ++ shownS (X2 b == 1) t) -> K .normal e' h) : vc (Pg G) (cL shR10) K e h := by
  have cW := ZX (G := G) b
  have ht := sm.text
  have hn := sm.name
  have hL := sm.attrs
  have hA := sm.att
  unfold J6 at z7
  unfold shownS at hK
  skip
  by_cases hk1 : t.kind = 1
  · have k1 : (t.kind == 1) = true := by simpa using hk1
    rw [if_pos hk1] at hK
    unfold startM at hK
    obtain ⟨L, hLe⟩ : ∃ L, t.attrs = L := ⟨_, rfl⟩
    rw [hLe] at hL hA z7 hK
    repeat' (first | ((with_reducible refine brC (fun _ => ?_) fun _ => ?_) <;> try (exfalso; omega)) | (with_reducible refine And.intro ?_ ?_; · omega) | simp -dsimp -implicitDefEqProofs (disch := omega) only [VCA, Nat.reduceEqDiff, Nat.reduceAdd, Nat.reduceLT, Nat.reduceLeDiff, ↓reduceIte, exists_eq_left', shR10, shR9, shR7, WU, YX, shR, cL, cR, cB, c12, e4, e7, z7, k1])
    refine LoopVC.intro (fun m e' h' => ∃ k : Nat, k <= L.length /\ m = L.length - k /\ Fx 4 e e' /\ e' 4 = .str (out ++ (60 :: t.name) ++ (L.take k).flatMap escA) /\ e' 13 = Q3 k /\ h' = h /\ ((L.take k).flatMap escA).length <= k * 10600000) L.length
      (by exact ⟨0, by omega, by omega, by repeat' (first | exact .refl _ _ | refine Fx.put ?_ (by omega) _), by simp [upd], rfl, rfl, by simp⟩) ?_
    rintro m e' h' ⟨k, hkl, rfl, F, g4, g13, rfl, hlen⟩
    have g7 : e' 7 = .vp r7 0 := (F 7 (by omega) (by omega)).trans e7
    by_cases hlt : k < L.length
    · have hd : decide ((k : Int) < (L.length : Int)) = true := decide_eq_true (by omega)
      have hft := flat_take escA hlt
      have hmem := W6 hlt
      obtain ⟨x, hx⟩ : ∃ x, nth L k = x := ⟨_, rfl⟩
      rw [hx] at hft hmem
      obtain ⟨q1, q2⟩ := hA x hmem
      have hal := escA_len q1 q2
      have cE' := refEscape_ok (G := G) x.value true (by omega)
      have hel := VT true _ x.value (Nat.le_refl _)
      repeat' (first | ((with_reducible refine brC (fun _ => ?_) fun _ => ?_) <;> try (exfalso; omega)) | (with_reducible apply pcallE.of; · exact cE') | (with_reducible refine And.intro ?_ ?_; · omega) | simp -dsimp -implicitDefEqProofs (disch := omega) only [VCA, Nat.reduceEqDiff, Nat.reduceBEq, Nat.reduceAdd, Nat.reduceLT, Nat.reduceLeDiff, ↓reduceIte, Y8, Q7, SOp.rd, SI.rd, SX.rd, implies_true, exists_eq_left', J1, Z6, g4, g7, g13, z7, hd, hx, Z6])
      refine ⟨by simp only [List.length_append, List.length_cons, List.length_nil]; omega, by simp only [List.length_append, List.length_cons, List.length_nil]; omega, by simp only [List.length_append, List.length_cons, List.length_nil]; omega, _, by omega, k + 1, by omega, rfl, by repeat' (first | exact F | exact .refl _ _ | refine Fx.put ?_ (by omega) _), ?_, by omega, ?_⟩
      · rw [hft]; simp [escA]
      · rw [hft, List.length_append]; omega
    · obtain rfl : k = L.length := by omega
      have hd : decide ((L.length : Int) < (L.length : Int)) = false := decide_eq_false (by omega)
      rw [List.take_length] at g4 hlen
      cases hs : t.self <;> rw [hs] at hK
      all_goals
        repeat' (first | ((with_reducible refine brC (fun _ => ?_) fun _ => ?_) <;> try (exfalso; omega)) | (with_reducible refine And.intro ?_ ?_; · omega) | simp -dsimp -implicitDefEqProofs (disch := omega) only [VCA, Nat.reduceEqDiff, Nat.reduceAdd, Nat.reduceLT, Nat.reduceLeDiff, ↓reduceIte, exists_eq_left', g4, g7, g13, z7, hd, hs])
        first
          | (refine ⟨by simp only [List.length_append, List.length_cons]; omega, hK _ (by repeat' (first | exact F | exact .refl _ _ | refine Fx.put ?_ (by omega) _)) ?_⟩; simp [upd])
          | (refine ⟨by simp only [List.length_append, List.length_cons]; omega, by simp only [List.length_append, List.length_cons, List.length_nil]; omega, hK _ (by repeat' (first | exact F | exact .refl _ _ | refine Fx.put ?_ (by omega) _)) ?_⟩; simp [upd])
  · have k1 : (t.kind == 1) = false := by simpa using hk1
    rw [if_neg hk1] at hK
    by_cases hk2 : t.kind = 2
    · have k2 : (t.kind == 2) = true := by simpa using hk2
      rw [if_pos hk2] at hK
      repeat' (first | ((with_reducible refine brC (fun _ => ?_) fun _ => ?_) <;> try (exfalso; omega)) | (with_reducible refine And.intro ?_ ?_; · omega) | simp -dsimp -implicitDefEqProofs (disch := omega) only [VCA, Nat.reduceEqDiff, Nat.reduceAdd, Nat.reduceLT, Nat.reduceLeDiff, ↓reduceIte, exists_eq_left', shR10, shR9, shR7, WU, YX, shR, cL, cR, cB, c12, e4, e7, z7, k1, k2])
      first
        | (refine ⟨by simp only [List.length_append, List.length_cons, List.length_nil]; omega, hK _ (by repeat' (first | exact .refl _ _ | refine Fx.put ?_ (by omega) _)) ?_⟩; simp [upd])
        | (refine ⟨by simp only [List.length_append, List.length_cons, List.length_nil]; omega, by simp only [List.length_append, List.length_cons, List.length_nil]; omega, hK _ (by repeat' (first | exact .refl _ _ | refine Fx.put ?_ (by omega) _)) ?_⟩; simp [upd])
        | (refine hK _ (by repeat' (first | exact .refl _ _ | refine Fx.put ?_ (by omega) _)) ?_; simp [upd])
        | (refine ⟨by simp only [List.length_append, List.length_cons, List.length_nil]; omega, by simp only [List.length_append, List.length_cons, List.length_nil]; omega, by simp only [List.length_append, List.length_cons, List.length_nil]; omega, hK _ (by repeat' (first | exact .refl _ _ | refine Fx.put ?_ (by omega) _)) ?_⟩; simp [upd])
        | trace_state
    · have k2 : (t.kind == 2) = false := by simpa using hk2
      rw [if_neg hk2] at hK
      by_cases hk4 : t.kind = 4
      · have k4 : (t.kind == 4) = true := by simpa using hk4
        have k3 : (t.kind == 3) = false := by rw [hk4]; rfl
        rw [if_pos hk4] at hK
        repeat' (first | ((with_reducible refine brC (fun _ => ?_) fun _ => ?_) <;> try (exfalso; omega)) | (with_reducible refine And.intro ?_ ?_; · omega) | simp -dsimp -implicitDefEqProofs (disch := omega) only [VCA, Nat.reduceEqDiff, Nat.reduceAdd, Nat.reduceLT, Nat.reduceLeDiff, ↓reduceIte, exists_eq_left', shR10, shR9, shR7, WU, YX, shR, cL, cR, cB, c12, e4, e7, z7, k1, k2, k3, k4])
        first
          | (refine ⟨by simp only [List.length_append, List.length_cons, List.length_nil]; omega, hK _ (by repeat' (first | exact .refl _ _ | refine Fx.put ?_ (by omega) _)) ?_⟩; simp [upd])
          | (refine ⟨by simp only [List.length_append, List.length_cons, List.length_nil]; omega, by simp only [List.length_append, List.length_cons, List.length_nil]; omega, hK _ (by repeat' (first | exact .refl _ _ | refine Fx.put ?_ (by omega) _)) ?_⟩; simp [upd])
          | (refine hK _ (by repeat' (first | exact .refl _ _ | refine Fx.put ?_ (by omega) _)) ?_; simp [upd])
          | (refine ⟨by simp only [List.length_append, List.length_cons, List.length_nil]; omega, by simp only [List.length_append, List.length_cons, List.length_nil]; omega, by simp only [List.length_append, List.length_cons, List.length_nil]; omega, hK _ (by repeat' (first | exact .refl _ _ | refine Fx.put ?_ (by omega) _)) ?_⟩; simp [upd])
          | trace_state
      · have k4 : (t.kind == 4) = false := by simpa using hk4
        rw [if_neg hk4] at hK
        by_cases hk5 : t.kind = 5
        · have k3 : (t.kind == 3) = false := by rw [hk5]; rfl
          rw [if_pos hk5] at hK
          repeat' (first | ((with_reducible refine brC (fun _ => ?_) fun _ => ?_) <;> try (exfalso; omega)) | (with_reducible refine And.intro ?_ ?_; · omega) | simp -dsimp -implicitDefEqProofs (disch := omega) only [VCA, Nat.reduceEqDiff, Nat.reduceAdd, Nat.reduceLT, Nat.reduceLeDiff, ↓reduceIte, exists_eq_left', shR10, shR9, shR7, WU, YX, shR, cL, cR, cB, c12, e4, e7, z7, k1, k2, k3, k4])
          first
            | (refine ⟨by simp only [List.length_append, List.length_cons, List.length_nil]; omega, hK _ (by repeat' (first | exact .refl _ _ | refine Fx.put ?_ (by omega) _)) ?_⟩; simp [upd])
            | (refine ⟨by simp only [List.length_append, List.length_cons, List.length_nil]; omega, by simp only [List.length_append, List.length_cons, List.length_nil]; omega, hK _ (by repeat' (first | exact .refl _ _ | refine Fx.put ?_ (by omega) _)) ?_⟩; simp [upd])
            | (refine hK _ (by repeat' (first | exact .refl _ _ | refine Fx.put ?_ (by omega) _)) ?_; simp [upd])
            | (refine ⟨by simp only [List.length_append, List.length_cons, List.length_nil]; omega, by simp only [List.length_append, List.length_cons, List.length_nil]; omega, by simp only [List.length_append, List.length_cons, List.length_nil]; omega, hK _ (by repeat' (first | exact .refl _ _ | refine Fx.put ?_ (by omega) _)) ?_⟩; simp [upd])
            | trace_state
        · have k3 : (t.kind == 3) = true := by rw [show t.kind = 3 by omega]; rfl
          rw [if_neg hk5] at hK
          have cE' := refEscape_ok (G := G) t.text false (by omega)
          have hel := VT false _ t.text (Nat.le_refl _)
          cases r1 : (X2 b == 1) <;> rw [r1] at hK
          all_goals
            repeat' (first | ((with_reducible refine brC (fun _ => ?_) fun _ => ?_) <;> try (exfalso; omega)) | (with_reducible apply pcallE.of; · exact cW) | (with_reducible apply pcallE.of; · exact cE') | (with_reducible refine And.intro ?_ ?_; · omega) | simp -dsimp -implicitDefEqProofs (disch := omega) only [VCA, Nat.reduceEqDiff, Nat.reduceAdd, Nat.reduceLT, Nat.reduceLeDiff, ↓reduceIte, exists_eq_left', shR10, shR9, shR7, WU, YX, shR, cL, cR, cB, c12, e4, e7, e8, z7, k1, k2, k3, r1])
            first
              | (refine ⟨by simp only [List.length_append, List.length_cons, List.length_nil]; omega, hK _ (by repeat' (first | exact .refl _ _ | refine Fx.put ?_ (by omega) _)) ?_⟩; simp [upd])
              | (refine ⟨by simp only [List.length_append, List.length_cons, List.length_nil]; omega, by simp only [List.length_append, List.length_cons, List.length_nil]; omega, hK _ (by repeat' (first | exact .refl _ _ | refine Fx.put ?_ (by omega) _)) ?_⟩; simp [upd])
              | (refine hK _ (by repeat' (first | exact .refl _ _ | refine Fx.put ?_ (by omega) _)) ?_; simp [upd])
              | (refine ⟨by simp only [List.length_append, List.length_cons, List.length_nil]; omega, by simp only [List.length_append, List.length_cons, List.length_nil]; omega, by simp only [List.length_append, List.length_cons, List.length_nil]; omega, hK _ (by repeat' (first | exact .refl _ _ | refine Fx.put ?_ (by omega) _)) ?_⟩; simp [upd])
              | trace_state
def shC : SCode := c12.code
def shB : SCode := cB (cB (cR (cL (cR (cR c12.code)))))
theorem shC_eq : c12.code = .seq (cL shC) (.seq (cL (cR shC)) (.seq (.seq (cL (cL (cR (cR shC)))) (.block 0 (.loop shB))) (cR (cR (cR shC))))) := rfl
theorem shB_eq : shB = .seq (cL shB) (.seq (.block 1 shR) (cR (cR shB))) := rfl
def w0 : SCode := cL shR
def w1 : SCode := cL (cR shR)
def w2 : SCode := cL (cR (cR shR))
def w3 : SCode := cL (cR (cR (cR shR)))
def w4 : SCode := cL YX
def w5 : SCode := cL (cR YX)
def w6 : SCode := cL WU
def w7 : SCode := cL shR7
def w8 : SCode := cL (cR shR7)
def w9 : SCode := cL shR9
def w10 : SCode := cL shR10
def w11 : SCode := cR shR10
theorem shR_eq : shR = .seq w0 (.seq w1 (.seq w2 (.seq w3 (.seq w4 (.seq w5 (.seq w6 (.seq w7 (.seq w8 (.seq w9 (.seq w10 w11)))))))))) := rfl
theorem fit_text {t : HTok} (h : UZ t = 0) (hk : t.kind = 3) : t.text ≠ [] := fun q => by
  unfold UZ at h
  split at h
  · cases h
  · split at h
    · rename_i hf
      unfold formOK at hf
      rw [if_neg (by omega), if_neg (by omega), if_pos hk, q] at hf
      have : (([] : List UInt8) != []) = false := rfl
      rw [this, Bool.and_false] at hf; cases hf
    · cases h
theorem refTokenShow_ok {l : List HTok} (sm : ToksSm l) : PCalls (Pg G) 12 [sl J6 l] (.tup [.str (KJ l l.length 0 []).1, Q3 (KJ l l.length 0 []).2]) := fun h => by
  have hlen := sm.len
  refine Q1 Tryz.func12 (by kernel_rfl) hc12 (by rw [Tryz.ntmps12]; simp) (by rw [Tryz.ntmps12]; decide) ?_
  rw [shC_eq]
  repeat' (first | ((with_reducible refine brC (fun _ => ?_) fun _ => ?_) <;> try (exfalso; omega)) | (with_reducible refine And.intro ?_ ?_; · omega) | simp -dsimp -implicitDefEqProofs (disch := omega) only [VCA, shC, cL, cR, c12])
  refine LoopVC.intro (fun m e h' => ∃ (i f : Nat) (out : List UInt8), i <= l.length /\ m = l.length - i /\ e 0 = sl J6 l /\ e 4 = .str out /\ e 5 = Q3 i /\ Sub h h' /\ out.length <= 4000 /\ l.length = f + i /\ KJ l f i out = KJ l l.length 0 []) l.length
    (by exact ⟨0, l.length, [], by omega, by omega, rfl, rfl, rfl, Sub.refl _, by simp, rfl, rfl⟩) ?_
  rintro m e h' ⟨i, f, out, hi, rfl, e0, e4, e5, S, hol, hf, hsh⟩
  rw [shB_eq]
  by_cases hlt : i < l.length
  · have hd : decide ((i : Int) < (l.length : Int)) = true := decide_eq_true (by omega)
    obtain ⟨f, rfl⟩ : ∃ g, f = g + 1 := ⟨f - 1, by omega⟩
    rw [KJ, if_pos hlt] at hsh
    have hmem := W6 hlt
    have herr : shErr l i = if UZ (nth l i) ≠ 0 then UZ (nth l i) else if badM (wasT l i) (KW l i) (txtM l i) (nth l i) = true then 9 else 0 := rfl
    have hone : shOne l i = shownS (X2 (KW l i) == 1) (nth l i) := rfl
    obtain ⟨x, hx⟩ : ∃ x, nth l i = x := ⟨_, rfl⟩
    rw [hx] at hmem herr hone
    have smx := sm.tok x hmem
    have cF := refFits_ok (G := G) x smx
    repeat' (first | ((with_reducible refine brC (fun _ => ?_) fun _ => ?_) <;> try (exfalso; omega)) | (with_reducible refine And.intro ?_ ?_; · omega) | simp -dsimp -implicitDefEqProofs (disch := omega) only [VCA, Nat.reduceEqDiff, ↓reduceIte, reduceCtorEq, shB, cL, cR, cB, c12, e0, e5, hd])
    rw [shR_eq]
    by_cases hfe0 : UZ x = 0
    · rw [hfe0] at cF
      rw [if_neg (by simp [hfe0])] at herr
      have k0 : ((0 : Int) != 0) = false := rfl
      unfold J6 at cF
      repeat' (first | ((with_reducible refine brC (fun _ => ?_) fun _ => ?_) <;> try (exfalso; omega)) | (with_reducible apply pcallE.of; · exact cF) | (with_reducible refine And.intro ?_ ?_; · omega) | simp -dsimp -implicitDefEqProofs (disch := omega) only [VCA, Nat.reduceEqDiff, Nat.reduceAdd, Nat.reduceLT, ↓reduceIte, reduceCtorEq, Z3, exists_eq_left', w0, w1, w2, w3, shR, cL, cR, cB, c12, e0, e5, hx, k0, J6])
      intro r7 hr7
      obtain ⟨h1, hh1⟩ : ∃ h1, upd h' r7 (some ⟨Tt, 7, [J6 x]⟩) = h1 := ⟨_, rfl⟩
      have S1 : Sub h h1 := by rw [<- hh1]; exact S.upd (S.none hr7)
      have z7 : h1 r7 = some ⟨Tt, 7, [J6 x]⟩ := by rw [<- hh1, Z1]
      unfold J6 at hh1
      try rw [hh1]
      refine beh_ok (G := G) (l := l) (i := i) hlen hlt ?_ ?_ ?_ ?_
      · simp [upd, e0]
      · simp [upd, e5]
      · simp [upd]
      intro e1 F1 g8
      have g0 : e1 0 = sl J6 l := (F1 0 (by omega) (by omega)).trans (by simp [upd, e0])
      have g4 : e1 4 = .str out := (F1 4 (by omega) (by omega)).trans (by simp [upd, e4])
      have g5 : e1 5 = Q3 i := (F1 5 (by omega) (by omega)).trans (by simp [upd, e5])
      have g7 : e1 7 = .vp r7 0 := (F1 7 (by omega) (by omega)).trans (by simp [upd])
      obtain ⟨B, hB⟩ : ∃ B, KW l i = B := ⟨_, rfl⟩
      obtain ⟨X, hX⟩ : ∃ X, txtM l i = X := ⟨_, rfl⟩
      rw [hB] at g8 herr hone
      rw [hX] at herr
      repeat' (first | ((with_reducible refine brC (fun _ => ?_) fun _ => ?_) <;> try (exfalso; omega)) | (with_reducible refine And.intro ?_ ?_; · omega) | simp -dsimp -implicitDefEqProofs (disch := omega) only [VCA, w5, YX, shR, cL, cR, cB, c12])
      refine txt2_ok (G := G) (l := l) (i := i) hlen hlt ?_ ?_ ?_ ?_
      · simp [upd, g0]
      · simp [upd, g5]
      · simp [upd]
      intro e2 F2 k9
      rw [hX] at k9
      have k0' : e2 0 = sl J6 l := (F2 0 (by omega) (by omega)).trans (by simp [upd, g0])
      have k4 : e2 4 = .str out := (F2 4 (by omega) (by omega)).trans (by simp [upd, g4])
      have k5 : e2 5 = Q3 i := (F2 5 (by omega) (by omega)).trans (by simp [upd, g5])
      have k7 : e2 7 = .vp r7 0 := (F2 7 (by omega) (by omega)).trans (by simp [upd, g7])
      have k8 : e2 8 = .str B := (F2 8 (by omega) (by omega)).trans (by simp [upd, g8])
      refine clsR_ok (G := G) (t := x) (b := B) (x := X) k7 k8 k9 z7 ?_
      intro e3 F3 c10
      have c0 : e3 0 = sl J6 l := (F3 0 (by omega) (by omega)).trans k0'
      have c4 : e3 4 = .str out := (F3 4 (by omega) (by omega)).trans k4
      have c5 : e3 5 = Q3 i := (F3 5 (by omega) (by omega)).trans k5
      have c7 : e3 7 = .vp r7 0 := (F3 7 (by omega) (by omega)).trans k7
      have c8 : e3 8 = .str B := (F3 8 (by omega) (by omega)).trans k8
      have c9 : e3 9 = .str X := (F3 9 (by omega) (by omega)).trans k9
      have hBl : B.length <= 1500000 := by
        rw [<- hB]; unfold KW; split
        · rename_i q
          exact (sm.tok _ (W6 (l := l) (k := i - 1) (by omega))).name
        · simp
      have hbad : badM (wasT l i) B X x = (bad0 (wasT l i) B X x || (B != [] && (x.kind == 3 && (X2 B == 1 && QW B x.text)))) := by
        unfold badM bad0; simp only [Bool.or_assoc]
      refine chk_ok (G := G) (l := l) (i := i) (t := x) (b := B) (x := X) hlen hlt c0 c5 c7 c8 c9 c10 z7 ?_ ?_
      · intro hb0 e4' F4
        have d0 : e4' 0 = sl J6 l := (F4 0 (by omega) (by omega)).trans c0
        have d4 : e4' 4 = .str out := (F4 4 (by omega) (by omega)).trans c4
        have d5 : e4' 5 = Q3 i := (F4 5 (by omega) (by omega)).trans c5
        have d7 : e4' 7 = .vp r7 0 := (F4 7 (by omega) (by omega)).trans c7
        have d8 : e4' 8 = .str B := (F4 8 (by omega) (by omega)).trans c8
        refine rawR_ok (G := G) (t := x) (b := B) smx hBl (fit_text hfe0) d7 d8 z7 ?_ ?_
        · intro hb1 e5' F5
          have q0 : e5' 0 = sl J6 l := (F5 0 (by omega) (by omega)).trans d0
          have q4 : e5' 4 = .str out := (F5 4 (by omega) (by omega)).trans d4
          have q5 : e5' 5 = Q3 i := (F5 5 (by omega) (by omega)).trans d5
          have q7 : e5' 7 = .vp r7 0 := (F5 7 (by omega) (by omega)).trans d7
          have q8 : e5' 8 = .str B := (F5 8 (by omega) (by omega)).trans d8
          rw [if_neg (by rw [hbad, hb0, hb1]; simp)] at herr
          rw [if_neg (by rw [herr]; simp)] at hsh
          refine disp_ok (G := G) (t := x) (b := B) smx hol (fit_kind hfe0) q4 q7 q8 z7 ?_
          intro e6 F6 d4'
          rw [<- hone] at d4'
          have u0 : e6 0 = sl J6 l := (F6 0 (by omega) (by omega)).trans q0
          have u5 : e6 5 = Q3 i := (F6 5 (by omega) (by omega)).trans q5
          repeat' (first | ((with_reducible refine brC (fun _ => ?_) fun _ => ?_) <;> try (exfalso; omega)) | (with_reducible refine And.intro ?_ ?_; · omega) | simp -dsimp -implicitDefEqProofs (disch := omega) only [VCA, Nat.reduceEqDiff, ↓reduceIte, reduceCtorEq, exists_eq_right_right, w11, shR10, shR9, shR7, WU, YX, shR, cL, cR, cB, c12, u0, d4', u5])
          · first
              | (rw [if_pos (by omega)] at hsh; rw [<- hsh]; done)
              | (rw [if_pos (by omega)] at hsh; rw [<- hsh]; exact S1)
              | (rw [if_pos (by omega)] at hsh; rw [<- hsh]; exact ⟨S1, rfl⟩)
          · rw [if_neg (by omega)] at hsh
            exact ⟨l.length - (i + 1), by omega, i + 1, f, out ++ shOne l i, by omega, rfl, rfl, by omega, S1, by omega, by omega, hsh⟩
        · intro hb1 e5' v2 v3
          rw [if_pos (by rw [hbad, hb1]; simp)] at herr
          rw [if_pos (by rw [herr]; decide), herr] at hsh
          rw [<- hsh]
          repeat' (first | ((with_reducible refine brC (fun _ => ?_) fun _ => ?_) <;> try (exfalso; omega)) | (with_reducible refine And.intro ?_ ?_; · omega) | simp -dsimp -implicitDefEqProofs (disch := omega) only [VCA, exists_eq_right, v2, v3])
          exact S1
      · intro hb0 e4' v2 v3
        rw [if_pos (by rw [hbad, hb0]; simp)] at herr
        rw [if_pos (by rw [herr]; decide), herr] at hsh
        rw [<- hsh]
        repeat' (first | ((with_reducible refine brC (fun _ => ?_) fun _ => ?_) <;> try (exfalso; omega)) | (with_reducible refine And.intro ?_ ?_; · omega) | simp -dsimp -implicitDefEqProofs (disch := omega) only [VCA, exists_eq_right, v2, v3])
        exact S1
    · have hne : (UZ x != 0) = true := by simpa using hfe0
      rw [if_pos hfe0] at herr
      rw [if_pos (by rw [herr]; exact hfe0), herr] at hsh
      rw [<- hsh]
      unfold J6 at cF
      repeat' (first | ((with_reducible refine brC (fun _ => ?_) fun _ => ?_) <;> try (exfalso; omega)) | (with_reducible apply pcallE.of; · exact cF) | (with_reducible refine And.intro ?_ ?_; · omega) | simp -dsimp -implicitDefEqProofs (disch := omega) only [VCA, Nat.reduceEqDiff, Nat.reduceAdd, ↓reduceIte, reduceCtorEq, exists_eq_right, w0, w1, w2, w3, shR, cL, cR, cB, c12, e0, e5, hx, hne, J6])
      first | exact S | exact ⟨S, rfl⟩ | trace_state
  · obtain rfl : i = l.length := by omega
    have hd : decide ((l.length : Int) < (l.length : Int)) = false := decide_eq_false (by omega)
    have hend : KJ l f l.length out = (out, 0) := by
      cases f with
      | zero => rfl
      | succ f => rw [KJ, if_neg (by omega)]
    rw [<- hsh, hend]
    repeat' (first | ((with_reducible refine brC (fun _ => ?_) fun _ => ?_) <;> try (exfalso; omega)) | (with_reducible refine And.intro ?_ ?_; · omega) | simp -dsimp -implicitDefEqProofs (disch := omega) only [VCA, Nat.reduceEqDiff, ↓reduceIte, reduceCtorEq, exists_eq_right, shB, cL, cR, cB, c12, e0, e4, e5, hd])
    first | exact S | exact ⟨S, rfl⟩ | trace_state
def c4 : SFun := ⟨.seq (.reg [o 2 (.mv (.c (.bool false)))]) (.seq (.reg [o 7 (.mv (.t 0)), o 8 (.mv (.t 0)), o 9 (.len (.t 8)), o 10 (.min2 (.t 9) (.c (.int .i64 20))), o 11 (.slA 7 (.t 7) none (some (.t 10))), o 0 (.mv (.t 11))]) (.seq (.reg [o 13 (.mv (.t 0)), o 14 (.pcall 11 [.t 13]), o 12 (.mv (.t 14)), o 15 (.ext (.t 12) 0), o 16 (.ext (.t 12) 1), o 3 (.mv (.t 15)), o 4 (.mv (.t 16))]) (.seq (.reg [o 18 (.mv (.t 0)), o 19 (.pcall 12 [.t 18]), o 17 (.mv (.t 19)), o 20 (.ext (.t 17) 0), o 21 (.ext (.t 17) 1), o 5 (.mv (.t 20)), o 6 (.mv (.t 21))]) (.seq (.reg [o 22 (.pcall 7 []), o 23 (.mv (.t 22)), ⟨some 24, .mv (.t 3), some (23, true)⟩, ⟨some 25, .mv (.t 5), some (23, true)⟩, ⟨some 26, .bin .eql (.t 24) (.t 25), some (23, true)⟩, o 27 (.pick (.t 23) (.t 26) (.c (.bool false))), o 28 (.mv (.t 27)), ⟨some 29, .mv (.t 4), some (28, true)⟩, ⟨some 30, .mv (.t 6), some (28, true)⟩, ⟨some 31, .bin .eql (.t 29) (.t 30), some (28, true)⟩, o 32 (.pick (.t 28) (.t 31) (.c (.bool false))), o 2 (.mv (.t 32))]) .ret)))), [.tmp 2]⟩
theorem hc4 : Y5 Tryz.prog {pure := [11, 12, 7]} Tryz.f4 = some c4 := by kernel_rfl
theorem tokenShows_ok (hG : U8 G) (hC : CaseOK G) (l : List HTok) (hl : l.length <= 1073741824) (ht : ∀ t ∈ l, TokSm t) : PCalls (Pg G) 4 [sl J6 l] (.bool true) := fun h => by
  have hE := eqF_ok (G := G) hC
  have sm : ToksSm (l.take 20) := ⟨by rw [List.length_take]; omega, fun t q => ht t (List.mem_of_mem_take q)⟩
  have h1 := tokShow_ok (G := G) hG hE sm
  have h2 := refTokenShow_ok (G := G) sm
  have h3 := tokenBegun_ok (G := G) hG
  obtain ⟨a, ha⟩ : ∃ a, (KJ (l.take 20) (l.take 20).length 0 []).1 = a := ⟨_, rfl⟩
  obtain ⟨b, hb⟩ : ∃ b, (KJ (l.take 20) (l.take 20).length 0 []).2 = b := ⟨_, rfl⟩
  rw [ha, hb] at h1 h2
  have e1 : (a == a) = true := by simp
  have e2 : (b == b) = true := by simp
  obtain ⟨L, hL⟩ : ∃ L, l.take 20 = L := ⟨_, rfl⟩
  rw [hL] at h1 h2
  have hmin : l.take (min (l.length : Int) 20).toNat = L := by
    rw [<- hL]
    by_cases q : l.length <= 20
    · rw [show (min (l.length : Int) 20).toNat = l.length by omega, List.take_length, List.take_of_length_le q]
    · rw [show (min (l.length : Int) 20).toNat = 20 by omega]
  refine Q1 Tryz.func4 (by kernel_rfl) hc4 (by rw [Tryz.ntmps4]; simp) (by rw [Tryz.ntmps4]; decide) ?_
  simp -dsimp -implicitDefEqProofs (disch := omega) only [VCA, Nat.reduceEqDiff, ↓reduceIte, reduceCtorEq, c4]
  repeat' (first | ((with_reducible refine brC (fun _ => ?_) fun _ => ?_) <;> try (exfalso; omega)) | (with_reducible apply pcallE.of; · exact h1) | (with_reducible apply pcallE.of; · exact h2) | (with_reducible apply pcallE.of; · exact h3) | (with_reducible refine And.intro ?_ ?_; · omega) | simp -dsimp -implicitDefEqProofs (disch := omega) only [↓Q0 23, ↓Q0 28, VCA, Nat.reduceEqDiff, Nat.reduceAdd, Nat.reduceLT, ↓reduceIte, reduceCtorEq, exists_eq_right, e1, e2, hmin])
  exact Sub.refl _
end Go.Proofs.K
end
