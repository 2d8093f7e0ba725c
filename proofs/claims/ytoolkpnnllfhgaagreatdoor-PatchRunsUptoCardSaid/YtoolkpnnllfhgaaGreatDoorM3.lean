/- Texts of this claim, one behind the other. -/
import Derived.Test.YtoolkpnnllfhgaaGreatDoorM2
section
set_option linter.defProp false
namespace Go.Sim
open Go
def VC1 := (And.intro (And.intro (And.intro (And.intro @vc_skip @vc_reg) (And.intro @vc_dreg @vc_seq)) (And.intro (And.intro @vc_cond @vc_block) (And.intro @vc_loop @vc_exit))) (And.intro (And.intro (And.intro @vc_range @setPs_cons) (And.intro @setPs_nil @roundK_normal)) (And.intro (And.intro @roundK_exit @roundK_ret) (And.intro @vc_ret @thenK_normal))))
def VC2 := (And.intro (And.intro (And.intro (And.intro @thenK_exit @thenK_ret) (And.intro @blockK_normal @blockK_ret)) (And.intro (And.intro @blockK_exit @vcOps_nil) (And.intro @vcOps_cons @vcD_nil))) (And.intro (And.intro (And.intro @vcD_false @vcD_true) (And.intro @vcV_none @vcV_some)) (And.intro (And.intro @gateX_bool @gateX_tup) (And.intro @Sp_bool @Sp_tup))))
def VC3 := (And.intro (And.intro (And.intro (And.intro @retK_normalS @retK_retS) (And.intro @vcI_mv @vcI_pick)) (And.intro (And.intro @vcI_bin @vcI_eqs) (And.intro @vcI_eqb @vcI_un))) (And.intro (And.intro (And.intro @vcI_cvi @vcI_idc) (And.intro @vcI_fld @vcI_fldA)) (And.intro (And.intro @vcI_idxA @vcI_idxS) (And.intro @vcI_ld @vcI_slS))))
def VC4 := (And.intro (And.intro (And.intro (And.intro @vcI_slA @vcI_slM) (And.intro @vcI_ext @vcI_bld)) (And.intro (And.intro @vcI_bldF @vcI_len) (And.intro @vcI_lenS @vcI_min2))) (And.intro (And.intro (And.intro @vcI_max2 @vcI_mkf) (And.intro @vcI_isnil @vcI_bldR)) (And.intro (And.intro @vcI_box @vcI_boxF) (And.intro @vcI_new @vcI_newnil))))
def VC5 := (And.intro (And.intro (And.intro (And.intro @vcI_st @vcI_app) (And.intro @vcI_appS @vcI_appIn)) (And.intro (And.intro @vcI_appF @vcI_frz) (And.intro @vcI_slX @vcI_mks))) (And.intro (And.intro (And.intro @vcI_copy @vcI_clear) (And.intro @vcI_b2s @vcI_usd)) (And.intro (And.intro @vcI_ustr @vcI_call) (And.intro @vcI_pcall @ev_t))))
def VC6 := (And.intro (And.intro (And.intro (And.intro @ev_c @evO_some) (And.intro @evO_none @setD_some)) (And.intro (And.intro @setD_none @upd_apply) (And.intro @keepR_nil @keepR_cons))) (And.intro (And.intro (And.intro @dropR_nil @dropR_cons) (And.intro @List.contains_cons.{0} @List.contains_nil.{0})) (And.intro (And.intro @Bool.or_false @Bool.false_or) (And.intro @Bool.or_true @Bool.true_or))))
def VC7 := (And.intro (And.intro (And.intro (And.intro @Option.getD_some.{0} @upd_upd) (And.intro @getD_map_enc @Bool.and_true)) (And.intro (And.intro @Bool.false_xor @Bool.true_xor) (And.intro @Bool.xor_false @natCast_succ_sub))) (And.intro (And.intro (And.intro @Int.toNat_natCast_add_one @List.map_cons.{0, 0}) (And.intro @List.map_nil.{0, 0} @aLen_sl)) (And.intro (And.intro @okLen_sl @okIdxA_sl) (And.intro @aIdxA_sl @aSlA_sl))))
def VC8 := (And.intro (And.intro (And.intro (And.intro @okSlA_sl @Rd_sl) (And.intro @nil_sl @wrap_i64)) (And.intro (And.intro @aBin_add @okBin_add) (And.intro @aBin_sub @okBin_sub))) (And.intro (And.intro (And.intro @aBin_mul @okBin_mul) (And.intro @aBin_quo @okBin_quo)) (And.intro (And.intro @aBin_rem @okBin_rem) (And.intro @aBin_shl @okBin_shl))))
def VC9 := (And.intro (And.intro (And.intro (And.intro @aBin_shr @okBin_shr) (And.intro @aBin_eql @okBin_eql)) (And.intro (And.intro @aBin_neq @okBin_neq) (And.intro @aBin_lss @okBin_lss))) (And.intro (And.intro (And.intro @aBin_leq @okBin_leq) (And.intro @aBin_gtr @okBin_gtr)) (And.intro (And.intro @aBin_geq @okBin_geq) (And.intro @aBin_and @okBin_and))))
def VC10 := (And.intro (And.intro (And.intro (And.intro @aBin_or @okBin_or) (And.intro @aBin_xor @okBin_xor)) (And.intro (And.intro @aBin_andNot @okBin_andNot) (And.intro @aBinS_add @okBinS_add))) (And.intro (And.intro (And.intro @aBinS_eql @okBinS_eql) (And.intro @aBinS_neq @okBinS_neq)) (And.intro (And.intro @aBinS_lss @okBinS_lss) (And.intro @aBinS_geq @okBinS_geq))))
def VC11 := (And.intro (And.intro (And.intro (And.intro @aUn_not @okUn_not) (And.intro @aUn_neg @okUn_neg)) (And.intro (And.intro @aEqb_bool @okEqb_bool) (And.intro @aEqs_agg @okEqs_agg))) (And.intro (And.intro (And.intro @aCvi_int @okCvi_int) (And.intro @aPick_bool @okPick_bool)) (And.intro (And.intro @aFld_agg @okFld_agg) (And.intro @cutV_true @cutV_false))))
def VC12 := (And.intro (And.intro (And.intro (And.intro @aFldA_pin @okFldA_pin) (And.intro @aFldA_ptr @okFldA_ptr)) (And.intro (And.intro @deVp_vp @deVp_ptr) (And.intro @deVp_pin @aFldA_vp))) (And.intro (And.intro (And.intro @okFldA_vp @okLd_vp) (And.intro @aLd_vp @nil_vp)) (And.intro (And.intro @cells_vp @isV_vp) (And.intro @stE_vp @aIdxA_osl))))
def VC13 := (And.intro (And.intro (And.intro (And.intro @okIdxA_osl @aIdxA_slc) (And.intro @okIdxA_slc @aIdxS_str)) (And.intro (And.intro @okIdxS_str @aLd_pin) (And.intro @okLd_pin @okLd_ptr))) (And.intro (And.intro (And.intro @aLd_ptr @ldO_some) (And.intro @aExt_tup @okExt_tup)) (And.intro (And.intro @aLen_osl @okLen_osl) (And.intro @aLen_slc @okLen_slc))))
def VC14 := (And.intro (And.intro (And.intro (And.intro @aLen_emp @okLen_emp) (And.intro @aLenS_str @okLenS_str)) (And.intro (And.intro @aMin_int @aMax_int) (And.intro @ok2i_int @aSlS_str))) (And.intro (And.intro (And.intro @okSlS_str @loOf_int) (And.intro @loOf_none @hiOf_int)) (And.intro (And.intro @hiOf_none @okB_int) (And.intro @okB_none @aSlA_osl))))
def VC15 := (And.intro (And.intro (And.intro (And.intro @okSlA_osl @aSlA_emp) (And.intro @okSlA_emp @okSlM_osl)) (And.intro (And.intro @nil_slc @nil_emp) (And.intro @nil_osl @nil_snil))) (And.intro (And.intro (And.intro @nil_ptr @nil_pin) (And.intro @nil_pnil @nil_fn)) (And.intro (And.intro @nil_fnil @stE_ptr) (And.intro @appE_emp @appE_osl))))
def VC16 := (And.intro (And.intro (And.intro (And.intro @appFE_emp @appFE_osl) (And.intro @frzE_emp @frzE_slc)) (And.intro (And.intro @frzE_sl @frzE_osl) (And.intro @Rd_slc @Rd_emp))) (And.intro (And.intro (And.intro @cells_agg @cells_int) (And.intro @isV_int @cells_bool)) (And.intro (And.intro @isV_bool @cells_str) (And.intro @isV_str @cells_slc))))
def VC17 := (And.intro (And.intro (And.intro (And.intro @isV_slc @cells_emp) (And.intro @isV_emp @cells_osl)) (And.intro (And.intro @isV_osl @cells_ptr) (And.intro @isV_ptr @cells_pin))) (And.intro (And.intro (And.intro @isV_pin @cells_fn) (And.intro @isV_fn @isV_agg)) (And.intro (And.intro @cells_sl @isV_sl) (And.intro @callE_fn @allOK_nil))))
def VC18 := (And.intro (And.intro (And.intro (And.intro @allOK_cons @resOK_tmp) (And.intro @resOK_cell @resV_tmp)) (And.intro (And.intro @resV_cell @retV_one) (And.intro @retV_two @retV_nil))) (And.intro (And.intro (And.intro @initE_at @initE_gl) (And.intro @Br_true @Br_false)) (And.intro (And.intro @condOn_br @Rd_oslE) (And.intro @appInE_osl @slXE_osl))))
def VC19 := (And.intro (And.intro (And.intro (And.intro @mksE_int @copyE_osl) (And.intro @clearE_osl @usdE_emp)) (And.intro (And.intro @usdE_osl @ustrE_anyp) (And.intro @ustrE_ptr @List.set_cons_zero.{0}))) (And.intro (And.intro (And.intro @List.set_cons_succ.{0} @List.set_nil.{0}) (And.intro @List.getD_cons_zero.{0} @List.getD_cons_succ.{0})) (And.intro (And.intro @List.headD_cons.{0} @List.drop_zero.{0}) (And.intro @List.drop_succ_cons.{0} @List.take_succ_cons.{0}))))
def VC20 := (And.intro (And.intro (And.intro (And.intro @List.take_zero.{0} @List.length_cons.{0}) (And.intro @List.length_nil.{0} @List.length_map.{0, 0})) (And.intro (And.intro @List.nil_append.{0} @List.cons_append.{0}) (And.intro @List.append_nil.{0} @List.mem_cons.{0}))) (And.intro (And.intro (And.intro @List.not_mem_nil.{0} @or_false) (And.intro @or_true @Int.toNat_zero)) (And.intro (And.intro @List.take_length.{0} @List.isEmpty_cons.{0}) (And.intro @List.isEmpty_nil.{0} @Nat.le_refl))))
def VC21 := (And.intro (And.intro (And.intro (And.intro @Int.toNat_natCast @true_and) (And.intro @and_true @Bool.true_eq_false)) (And.intro (And.intro @Bool.false_eq_true @Bool.not_true) (And.intro @Bool.not_false @false_implies))) (And.intro (And.intro (And.intro @true_implies @not_true_eq_false) (And.intro @not_false_eq_true @AVal.int.injEq)) (And.intro (And.intro @AVal.bool.injEq @AVal.str.injEq) (And.intro @Option.some.injEq.{0} @imp_self))))
def VC22 := (And.intro (And.intro (And.intro (And.intro @and_self @Nat.zero_add) (And.intro @Nat.add_zero @Nat.sub_zero)) (And.intro (And.intro @vcI_mkm @vcI_mup) (And.intro @vcI_lkp @mupE_mpr))) (And.intro (And.intro (And.intro @okLkp_mpr @aLkp_mpr) (And.intro @entsOf_some @isM_m)) (And.intro (And.intro @ents_m @setM_m) (And.intro @isKeyA_int @isKeyA_str))))
def VC23 := (And.intro (And.intro (And.intro @isV_mpr (And.intro @cells_mpr @aFound_int)) (And.intro @aFound_int2 (And.intro @aFound_set @all_eM))) (And.intro (And.intro @mFind_eM (And.intro @mPut_eM @all_eMs)) (And.intro @mFind_eMs (And.intro @mPut_eMs @OTy.lit))))
def VCA := (And.intro (And.intro (And.intro (And.intro VC1 VC2) (And.intro VC3 (And.intro VC4 VC5))) (And.intro (And.intro VC6 (And.intro VC7 VC8)) (And.intro VC9 (And.intro VC10 VC11)))) (And.intro (And.intro (And.intro VC12 (And.intro VC13 VC14)) (And.intro VC15 (And.intro VC16 VC17))) (And.intro (And.intro VC18 (And.intro VC19 VC20)) (And.intro VC21 (And.intro VC22 VC23)))))
end Go.Sim
end
section
namespace Go.Sim
open Go
section
variable {P : PG} {g : Ghost} {w : World} {h h0 h1 : Heap}
def Ghost.frzs (g : Ghost) (h1 : Heap) : Ghost := { g with fz := fun b => g.fz b ∨ ∃ r o, h1 r = some o ∧ g.cap r ≠ 0 ∧ g.eta r = b }
theorem GS.frzs (H : HRel h g w) (hs : Sub h1 h) : GS g w (g.frzs h1) w where
  nxt := Nat.le_refl _
  eta _ _ := rfl
  bo _ _ := rfl
  cap _ _ := rfl
  sz _ _ := rfl
  fz b hb := .inl hb
  keep _ _ := rfl
  os := rfl
  tape := rfl
  output := rfl
  size := Nat.le_refl _
  own _ _ _ := rfl
  new _ _ ho := ho
  fzn b _ hn hf := by
    rcases hf with hf | ⟨r, o, hr, hc, he⟩
    · exact hf
    · exact absurd ⟨r, (H.obj r o (hs r o hr)).lt, hc, he⟩ hn
  fzc b hf := by
    rcases hf with hf | ⟨r, o, hr, hc, he⟩
    · exact .inl hf
    · refine .inr fun ⟨ob, hob, hcl⟩ => ?_
      obtain ⟨cur, t, f, hw⟩ := H.ow b ⟨r, (H.obj r o (hs r o hr)).lt, hc, he⟩
      rw [hw] at hob
      cases hob
      simp [Obj.isCells] at hcl
theorem HRel.frzs (H : HRel h g w) (h0s : Sub h0 h) (h1s : Sub h1 h) (hd : ∀ r o, h1 r = some o → h0 r = none) : HRel h0 (g.frzs h1) w := by
  have S := GS.frzs H h1s
  refine ⟨fun r o hr => ?_, fun r r' o o' hr hr' => H.inj r r' o o' (h0s r o hr) (h0s r' o' hr'), fun b hb => ?_, fun b hb => H.ow b hb, H.mob.step S fun _ _ _ ⟨sz, cs, ht⟩ => ⟨sz, cs, h0s _ _ ht⟩⟩
  · have O := H.obj r o (h0s r o hr)
    refine ⟨O.lt, O.sz, O.pos, O.len, O.le, ?_⟩
    by_cases hc0 : g.cap r = 0
    · exact .inl hc0
    rcases O.block with hc | ⟨hlt, hnf, cur, hcur, hsz, hcell⟩
    · exact .inl hc
    · refine .inr ⟨hlt, ?_, cur, hcur, hsz, fun i j e a he ha => ?_⟩
      · rintro (hf | ⟨r', o', hr', hc', he'⟩)
        · exact hnf hf
        · have e := H.inj r' r o' o (h1s r' o' hr') (h0s r o hr) hc' hc0 he'
          subst e
          rw [hd r' o' hr'] at hr
          cases hr
      · obtain ⟨u, hu, h1', h2⟩ := hcell i j e a he ha
        exact ⟨u, hu, h1', h2.step S.toGStep⟩
  · rcases hb with hb | ⟨r, o, hr, hc, he⟩
    · exact H.fz b hb
    · rcases (H.obj r o (h1s r o hr)).block with h0 | ⟨hlt, _⟩
      · exact absurd h0 hc
      · rw [← he]; exact hlt
theorem Vw.relF (H : HRel h g w) (hs : Sub h1 h) {a b : AVal} (hv : Vw h1 a b) : ∀ {v : Value}, VRel g w v a → VRel (g.frzs h1) w v b := by
  have S := GS.frzs H hs
  induction hv with
  | refl a => intro v V; exact V.step S.toGStep
  | emp =>
    intro v V
    obtain ⟨A, rfl, _⟩ := V.emp_inv
    exact .slc0 A 0
  | agg as bs hl hh ih =>
    intro v V
    obtain ⟨vs, rfl, hvl, h1, h2⟩ := V.agg_inv
    refine .agg vs bs (hvl.trans hl) h1 fun j u b hu hb => ?_
    have hj : j < as.length := by rw [hl]; exact (List.getElem?_eq_some_iff.1 hb).1
    exact ih j _ b (List.getElem?_eq_getElem hj) hb (h2 j u _ hu (List.getElem?_eq_getElem hj))
  | slc es fs hl hle hh ih =>
    intro v V
    obtain ⟨A, c, rfl, hin⟩ := V.slc_inv
    by_cases hp : 0 < es.length
    · obtain ⟨hc, ad, sz, rfl, hsp, hf, hsz, hcell⟩ := hin hp
      rw [hl]
      refine .slc_mk (sz := sz) (by omega) (fun f hf' => ?_) hsp (.inl hf) fun i j f x hi hx => ?_
      · obtain ⟨i, hi⟩ := List.mem_iff_getElem?.1 hf'
        have hil : i < es.length := by rw [hl]; exact (List.getElem?_eq_some_iff.1 hi).1
        rw [← hle i _ f (List.getElem?_eq_getElem hil) hi]
        exact hsz _ (List.getElem_mem hil)
      · have hil : i < es.length := by rw [hl]; exact (List.getElem?_eq_some_iff.1 hi).1
        have he := List.getElem?_eq_getElem hil
        have hjl : j < es[i].length := by rw [hle i _ f he hi]; exact (List.getElem?_eq_some_iff.1 hx).1
        obtain ⟨u, hu, h1, h2⟩ := hcell i j _ _ he (List.getElem?_eq_getElem hjl)
        exact ⟨u, hu, h1, ih i j _ f _ x he hi (List.getElem?_eq_getElem hjl) hx h2⟩
    · have h0 : es.length = 0 := by omega
      have hfs : fs = [] := List.eq_nil_of_length_eq_zero (by omega)
      subst hfs
      rw [h0]
      exact .slc0 A c
  | osl r sz i n o fs hr hle hl hll hh ih =>
    intro v V
    obtain ⟨hrl, hsz, hc⟩ := V.osl_inv
    have O := H.obj r o (hs r o hr)
    by_cases hn : n = 0
    · subst hn
      have hfs : fs = [] := List.eq_nil_of_length_eq_zero hl
      subst hfs
      rcases hc with ⟨rfl, _⟩ | ⟨cap, off, rfl, _⟩
      · exact .slc0 _ _
      · exact .slc0 _ _
    · rcases hc with ⟨_, _, h0, _⟩ | ⟨cap, off, rfl, hnc, hm, hi, hoff⟩
      · exact absurd h0 hn
      · have hof := hoff (by omega)
        rcases O.block with h0 | ⟨hlt, _, cur, hcur, _, hcell⟩
        · have := O.le; omega
        · rw [← hl]
          refine .slc_mk (sz := sz) (by omega) hll rfl (.inr ⟨r, o, hr, by have := O.le; omega, rfl⟩) fun k j f x hk hx => ?_
          have hkn : k < n := by rw [← hl]; exact (List.getElem?_eq_some_iff.1 hk).1
          have hki : i + k < o.es.length := by omega
          have he := List.getElem?_eq_getElem hki
          have hjl : j < o.es[i + k].length := by
            rw [O.len _ (List.getElem_mem hki), ← O.sz, hsz, ← hll f (List.mem_of_getElem? hk)]
            exact (List.getElem?_eq_some_iff.1 hx).1
          obtain ⟨u, hu, h1, h2⟩ := hcell _ j _ _ he (List.getElem?_eq_getElem hjl)
          refine ⟨u, ?_, h1, ih k j _ f _ x he hk (List.getElem?_eq_getElem hjl) hx h2⟩
          rw [Addr.add_lit, cell_of_row w _ _ cur _ _ hcur, ← hu, hof, ← O.sz, hsz, Nat.add_mul]
          congr 1; omega
  | ptr r i j o fs hr hi hl hh ih =>
    intro v V
    obtain ⟨hrl, rfl⟩ := V.ptr_inv
    have O := H.obj r o (hs r o hr)
    have hcap : g.cap r ≠ 0 := by have := O.le; omega
    refine VRel.pin_mk rfl (.inr ⟨r, o, hr, hcap, rfl⟩) fun k b hb => ?_
    have hkl : k < ((o.es.getD i []).drop j).length := by
      have := (List.getElem?_eq_some_iff.1 hb).1
      rw [List.length_drop]
      omega
    have hka := List.getElem?_eq_getElem hkl
    obtain ⟨u, hu, h1, h2⟩ := O.cells hi j k _ hka
    exact ⟨u, hu, h1, ih k _ b hka hb h2⟩
  | vp r j b hh ih => intro v V; exact ih V.deVp
inductive VwT (h : Heap) : AVal → AVal → Prop
  | one (a b : AVal) (hv : Vw h a b) : VwT h a b
  | tup (as bs : List AVal) (hl : as.length = bs.length) (hh : ∀ (j : Nat) (a b : AVal), as[j]? = some a → bs[j]? = some b → Vw h a b) : VwT h (.tup as) (.tup bs)
theorem VwT.relF (H : HRel h g w) (hs : Sub h1 h) {a b : AVal} (hv : VwT h1 a b) {v : Value} (V : VRel g w v a) : VRel (g.frzs h1) w v b := by
  cases hv with
  | one a b hv => exact hv.relF H hs V
  | tup as bs hl hh =>
    obtain ⟨vs, rfl, hvl, h2⟩ := V.tup_inv
    refine .tup vs bs (hvl.trans hl) fun j u b hu hb => ?_
    have hj : j < as.length := by rw [hl]; exact (List.getElem?_eq_some_iff.1 hb).1
    exact (hh j _ b (List.getElem?_eq_getElem hj) hb).relF H hs (h2 j u _ hu (List.getElem?_eq_getElem hj))
theorem DCalls.outV {f : Nat} {args : List AVal} {K0 K : AVal → Heap → Prop} (hd : DCalls P f args h K0)
    (hk : ∀ a h', K0 a h' → ∃ h0 h1 b, Sub h0 h' ∧ Sub h1 h' ∧ (∀ r o, h1 r = some o → h0 r = none) ∧ VwT h1 a b ∧ K b h0) : DCalls P f args h K := by
  refine ⟨hd.1, fun g w vs H GR V => (hd.2 g w vs H GR V).mono fun e w' ⟨v', a, h', g', he, k0, H', Va, S⟩ => ?_⟩
  obtain ⟨h0, h1, b, s0, s1, hdj, hv, k⟩ := hk a h' k0
  exact ⟨v', b, h0, _, he, k, H'.frzs s0 s1 hdj, hv.relF H' s1 Va, S.trans (GS.frzs H' s1)⟩
def newH (h h' : Heap) : Heap := fun r => match h r with
  | none => h' r
  | some _ => none
theorem newH_none {h h' : Heap} {r : Nat} (hr : h r = none) : newH h h' r = h' r := by unfold newH; rw [hr]
theorem newH_sub (h h' : Heap) : Sub (newH h h') h' := fun r o hr => by
  unfold newH at hr
  cases hh : h r with
  | none => rw [hh] at hr; exact hr
  | some x => rw [hh] at hr; cases hr
theorem newH_disj (h h' : Heap) : ∀ r o, newH h h' r = some o → h r = none := fun r o hr => by
  unfold newH at hr
  cases hh : h r with
  | none => rfl
  | some x => rw [hh] at hr; cases hr
theorem PCalls.outV {f : Nat} {args : List AVal} {v : AVal} (hd : ∀ h, DCalls P f args h fun a h' => Sub h h' ∧ VwT (newH h h') a v) : PCalls P f args v := fun h =>
  (hd h).outV fun _ h' ⟨S, hv⟩ => ⟨h, newH h h', v, S, newH_sub h h', newH_disj h h', hv, rfl, rfl⟩
theorem Vw.agg' {as bs : List AVal} (hh : F2 (Vw h) as bs) : Vw h (.agg as) (.agg bs) := .agg as bs hh.len hh.get
theorem VwT.tup' {as bs : List AVal} (hh : F2 (Vw h) as bs) : VwT h (.tup as) (.tup bs) := .tup as bs hh.len hh.get
theorem Vw.osl0 {r sz n : Nat} {o : AObj} {fs : List (List AVal)} (hr : h r = some o) (hl : fs.length = n) (hle : n ≤ o.es.length) (hll : ∀ f ∈ fs, f.length = sz) (hh : F2 (F2 (Vw h)) (o.es.take n) fs) : Vw h (.osl r sz 0 n) (.slc fs) := by
  refine .osl r sz 0 n o fs hr (by omega) hl hll fun k j e f a b he hf ha hb => ?_
  rw [Nat.zero_add] at he
  have hk : k < n := by rw [← hl]; exact (List.getElem?_eq_some_iff.1 hf).1
  have he' : (o.es.take n)[k]? = some e := by rw [List.getElem?_take, if_pos hk]; exact he
  exact (hh.get k e f he' hf).get j a b ha hb
theorem F2.refl {α : Type} {R : α → α → Prop} (hr : ∀ a, R a a) : ∀ l : List α, F2 R l l
  | [] => .nil
  | a :: l => .cons (hr a) (F2.refl hr l)
end
end Go.Sim
end
section
namespace Go.Sim
open Go
theorem Dat.rel {g g' : Ghost} {w : World} (hf : ∀ b, g.fz b → g'.fz b) {a : AVal} (hd : Dat a) : ∀ {v : Value}, VRel g w v a → VRel g' w v a := by
  induction hd with
  | prim u => intro v hv; cases hv; exact .prim _
  | int k n => intro v hv; cases hv; exact .int _ _
  | bool b => intro v hv; cases hv; exact .bool _
  | str l => intro v hv; rw [hv.str_inv']; exact VRel.str' l
  | agg cs h ih =>
    intro v hv
    obtain ⟨vs, rfl, hl, h1, h2⟩ := hv.agg_inv
    exact .agg vs cs hl h1 fun j u c hu hc => ih c (List.mem_of_getElem? hc) (h2 j u c hu hc)
  | slc es h ih =>
    intro v hv
    cases hv with
    | slc0 A c => exact .slc0 A c
    | slc ad n c sz _ us hn hc hsz hs hfz h1 h2 h3 => exact .slc ad n c sz es us hn hc hsz hs (hf _ hfz) h1 h2 fun i j e x he hx => ih e (List.mem_of_getElem? he) x (List.mem_of_getElem? hx) (h3 i j e x he hx)
  | emp => intro v hv; cases hv with
    | emp0 => exact .emp0
    | empS ad hs hfz hc => exact .empS ad hs (hf _ hfz) hc
  | pin cs h ih =>
    intro v hv
    obtain ⟨ad, rfl, hs, hfz, hc⟩ := hv.pin_inv
    exact VRel.pin_mk hs (hf _ hfz) fun j b hb => by
      obtain ⟨u, h1, h2, h3⟩ := hc j b hb
      exact ⟨u, h1, h2, ih b (List.mem_of_getElem? hb) h3⟩
  | tup cs h ih =>
    intro v hv
    obtain ⟨vs, rfl, hl, h2⟩ := hv.tup_inv
    exact .tup vs cs hl fun j u c hu hc => ih c (List.mem_of_getElem? hc) (h2 j u c hu hc)
  | dead => intro v hv; exact .dead v
structure IS (P : PG) (n : Nat) (e : Env) (g : Ghost) (W : World) (a : Act) : Prop where
  E : ERel n e g W a
  D : a.defers = []
  N : g.nxt = 0
  F : ∀ b, g.fz b → b < W.heap.size
  G : GRel P.gl g W
theorem IS.H {P : PG} {n : Nat} {e : Env} {g : Ghost} {W : World} {a : Act} (s : IS P n e g W a) : HRel (fun _ => none) g W :=
  ⟨(fun r o hr => by cases hr), (fun r r' o o' hr => by cases hr), s.F, (fun b ⟨r, hr, _⟩ => by rw [s.N] at hr; omega), .none⟩
def Ghost.bare (g : Ghost) : Ghost := { g with nxt := 0 }
structure Fgt (e e' : Env) : Prop where
  lo : ∀ t, t < 1000000 → e' t = .dead ∨ (e' t = e t ∧ Dat (e t))
  hi : ∀ t, 1000000 ≤ t → e' t = e t ∧ Dat (e t)
section
variable {P : PG} {n : Nat} {ann : Ann} {W : World} {g : Ghost} {a : Act} {e : Env}
theorem IS.next {a' : Act} {W' : World} {e1 e2 : Env} {h1 : Heap} {g1 : Ghost} (s : IS P n e g W a) {ms : List Nat} (S : St ms n g W e1 h1 g1 a' W') (hd : a'.defers = []) (hf : Fgt e1 e2) : IS P n e2 g1.bare W' a' ∧ W.grownBy W' none ∧ ∀ b, g.fz b → g1.bare.fz b := by
  have hb : ∀ b, g1.fz b → g1.bare.fz b := fun b h => h
  refine ⟨⟨⟨by rw [hd]; exact DOK.nil _ _, S.E.size, S.E.bnd, fun t ht => ?_, fun b => ?_⟩, hd, rfl, fun b h => S.H.fz b h, fun b => ?_⟩, ⟨S.S.os, S.S.tape, S.S.output, S.S.size, fun k hk _ => S.S.own k hk (.inl fun ⟨r, hr, _⟩ => by rw [s.N] at hr; omega)⟩, S.S.fz⟩
  · rcases hf.lo t ht with h | ⟨h, hdat⟩
    · rw [h]; exact .dead _
    · rw [h]; exact hdat.rel hb (S.E.slot t ht)
  · obtain ⟨h, hdat⟩ := hf.hi (1000000 + b) (by omega)
    rw [h]; exact hdat.rel hb (S.E.glo b)
  · have := (s.G.step S.S.toGStep) b
    exact ⟨this.1, this.1.rel hb this.2⟩
theorem yield_op {o : Oper} {c : Call} {f : Operand} {l m : Nat} {next : Act → World → Prop} {Q : Exit → Act → World → Prop} {A B : World → Prop} (ho : o.op = .call c) (hc : c.callee = .value f) (hf : a.eval f = .func (.yield l) #[] #[])
    (hy : YieldAt (FR none) m P l (c.args.map a.eval) W fun e W' => (e = .returned (.bool true) ∧ A W') ∨ (e = .returned (.bool false) ∧ B W')) (hA : ∀ W', A W' → next (a.put o.dst (.bool true)) W') (hB : ∀ W', B W' → next (a.put o.dst (.bool false)) W') :
    o.wpIn (FR none) (m + 1) P a W next Q := by
  obtain ⟨fn, tmps, assign, body, hrun, hR⟩ := hy
  refine ⟨fun _ _ => trivial, ?_⟩
  have e : o.semAt (FR none).round a.eval = execOp a.eval o := rfl
  have hex : (execOp a.eval o).run P W = .ok (.round l fn tmps assign body) W := by
    simp only [execOp, ho, resolve, hc, hf, Deferred.ofValue, Sem.run_bind, Sem.run_pure, Result.andThen_ok, invoke]
    simpa using hrun
  rw [e, hex]
  refine ⟨(fun h => by cases h), hR.mono fun e' W' hh => ?_⟩
  rcases hh with ⟨rfl, h⟩ | ⟨rfl, h⟩
  · exact hA W' h
  · exact hB W' h
end
end Go.Sim
end
section
set_option linter.defProp false
namespace Go.Sim
open Go
theorem VRel.heap {g : Ghost} {w w' : World} (hk : ∀ b, g.fz b → w'.heap[b]? = w.heap[b]?) {v : Value} {a : AVal} (h : VRel g w v a) : VRel g w' v a := by
  have hcell : ∀ ad : Addr, g.fz ad.block → w'.cell? ad = w.cell? ad := fun ad hb => World.cell?_of_block (hk _ hb)
  induction h with
  | prim v => exact .prim v
  | int k n => exact .int k n
  | bool b => exact .bool b
  | str s => exact .str s
  | agg vs cs hl h1 _ ih => exact .agg vs cs hl h1 ih
  | slc0 A c => exact .slc0 A c
  | slc ad n c sz es us hn hc hsz hsp hf h1 h2 _ ih =>
    exact .slc ad n c sz es us hn hc hsz hsp hf (fun i j e a he ha => (hcell _ (by rw [Addr.block_add]; exact hf)).trans (h1 i j e a he ha)) h2 ih
  | emp0 => exact .emp0
  | empS ad hsp hf hc => exact .empS ad hsp hf (by rw [hk _ hf]; exact hc)
  | osl0 r sz hr hc hz => exact .osl0 r sz hr hc hz
  | osl r sz i n cap off hr hz hc hm hi ho => exact .osl r sz i n cap off hr hz hc hm hi ho
  | ptr r i j hr => exact .ptr r i j hr
  | vp r j hr hb hc => exact .vp r j hr hb hc
  | mpr r hr => exact .mpr r hr
  | anyp q => exact .anyp q
  | pin ad cs us hsp hf h1 h2 _ ih => exact .pin ad cs us hsp hf (fun j a ha => (hcell _ (by rw [Addr.block_add]; exact hf)).trans (h1 j a ha)) h2 ih
  | fn f fs cs as bs hf hc _ _ ih1 ih2 => exact .fn f fs cs as bs hf hc ih1 ih2
  | tup vs as hl _ ih => exact .tup vs as hl ih
  | dead v => exact .dead v
inductive IOp | op (s : SOp) | yld (dst : Option Nat) (f : SX) (args : List SX)
inductive ICode : Type
  | skip
  | reg (ops : List IOp)
  | seq (a b : ICode)
  | cond (x : SX) (a b : ICode)
  | block (id : Nat) (c : ICode)
  | loop (c : ICode)
  | exit (id : Nat)
  | ret
def yieldOf (o : Oper) : Option (Nat × List Operand) :=
  match o.op, o.guard with
  | .call c, none => match c.callee with
    | .value (.tmp t) => if t < 1000000 then some (t, c.args.toList) else none
    | _ => none
  | _, _ => none
def dstI (np n : Nat) : Option Nat → Bool
  | some d => decide (np ≤ d) && decide (d < n)
  | none => true
def toIOp (P : Program) (ann : Ann) (np n : Nat) (ops : Array Oper) (o : Oper) : Option IOp :=
  if dstI np n o.dst = true then
    match yieldOf o with
    | some (t, as) => (toSXs as).map fun l => .yld o.dst (.t t) l
    | none => (toSOp P ann n ops o).bind fun s => if s.si.isMup = true then none else some (.op s)
  else none
def toIOps (P : Program) (ann : Ann) (np n : Nat) (ops : Array Oper) : List Oper → Option (List IOp)
  | [] => some []
  | o :: r => (toIOp P ann np n ops o).bind fun s => (toIOps P ann np n ops r).map (s :: ·)
def toI (P : Program) (ann : Ann) (np n : Nat) : Code → Option ICode
  | .skip => some .skip
  | .region _ ops false => (toIOps P ann np n ops ops.toList).map .reg
  | .seq a b => (toI P ann np n a).bind fun x => (toI P ann np n b).map (.seq x)
  | .cond c a b => (toSX c).bind fun c => (toI P ann np n a).bind fun x => (toI P ann np n b).map (.cond c x)
  | .block id c => (toI P ann np n c).map (.block id)
  | .loop c => (toI P ann np n c).map .loop
  | .exit id => some (.exit id)
  | .ret => some .ret
  | _ => none
def toIF (P : Program) (ann : Ann) (np : Nat) (fn : Func) : Option ICode := if fn.results = #[] then fn.body.bind (toI P ann np fn.ntmps) else none
def keepS : AVal → AVal
  | .int k n => .int k n
  | .bool b => .bool b
  | .str l => .str l
  | _ => .dead
def aft (np : Nat) (e : Env) : Env := fun t => if t < np ∨ 1000000 ≤ t then e t else keepS (e t)
def aftX (e : Env) : Env := fun t => keepS (e t)
def PG.dark (P : PG) : PG := ⟨P.p, fun _ => .dead⟩
def PS (P : PG) (s : Bool) : PG := if s = true then P.dark else P
section
variable {X : Type}
def itOps (P : PG) (np : Nat) (yv : AVal) (enc : X → List AVal) (N : Nat) : List IOp → Bool → List X → Env → (Bool → List X → Env → Prop) → Prop
  | [], s, p, e, K => K s p e
  | .op o :: r, s, p, e, K => Hd (vcV (PS P s) o e (fun _ => none)) (fun v _ => itOps P np yv enc N r s p (setD e o.dst v) K) .mk
  | .yld d f as :: r, s, p, e, K => s = false ∧ p.length < N ∧ ev e f = yv ∧ ∃ x, as.map (ev e) = enc x ∧
      itOps P np yv enc N r false (p ++ [x]) (setD (aft np e) d (.bool true)) K ∧ itOps P np yv enc N r true (p ++ [x]) (setD (aftX e) d (.bool false)) K
def seqK (N : Bool → List X → Env → Prop) (Q : SExit → Bool → List X → Env → Prop) : SExit → Bool → List X → Env → Prop
  | .normal, s, p, e => N s p e
  | x, s, p, e => Q x s p e
def blkK (id : Nat) (Q : SExit → Bool → List X → Env → Prop) : SExit → Bool → List X → Env → Prop
  | .exit j, s, p, e => if j = id then Q .normal s p e else Q (.exit j) s p e
  | x, s, p, e => Q x s p e
def itLoop (body : (SExit → Bool → List X → Env → Prop) → Bool → List X → Env → Prop) (Q : SExit → Bool → List X → Env → Prop) (s : Bool) (p : List X) (e : Env) : Prop :=
  ∃ I : Nat → Bool → List X → Env → Prop, (∃ m, I m s p e) ∧ ∀ m s p e, I m s p e → body (seqK (fun s p e => ∃ m', m' < m ∧ I m' s p e) Q) s p e
def itv (P : PG) (np : Nat) (yv : AVal) (enc : X → List AVal) (N : Nat) : ICode → (SExit → Bool → List X → Env → Prop) → Bool → List X → Env → Prop
  | .skip, Q, s, p, e => Q .normal s p e
  | .reg ops, Q, s, p, e => itOps P np yv enc N ops s p e (Q .normal)
  | .seq a b, Q, s, p, e => itv P np yv enc N a (seqK (itv P np yv enc N b Q) Q) s p e
  | .cond x a b, Q, s, p, e => condOn (ev e x) (itv P np yv enc N a Q s p e) (itv P np yv enc N b Q s p e)
  | .block id c, Q, s, p, e => itv P np yv enc N c (blkK id Q) s p e
  | .loop c, Q, s, p, e => itLoop (itv P np yv enc N c) Q s p e
  | .exit id, Q, s, p, e => Q (.exit id) s p e
  | .ret, Q, s, p, e => Q .ret s p e
def endK (xs : List X) : SExit → Bool → List X → Env → Prop
  | .exit _, _, _, _ => False
  | _, s, p, _ => if s = true then p <+: xs else p = xs
end
def IOp.gd : IOp → Bool
  | .op s => s.si.gated
  | .yld .. => true
def ICode.gd : ICode → Bool
  | .reg ops => ops.all IOp.gd
  | .seq a b => a.gd && b.gd
  | .cond _ a b => a.gd && b.gd
  | .block _ c => c.gd
  | .loop c => c.gd
  | _ => true
theorem vcOp_put {ann : Ann} {ops : Array Oper} {o : Oper} {op : SOp} {P : PG} {n : Nat} {e : Env} {h : Heap} {g : Ghost} {a : Act} {w : World} (ht : toSOp P ann n ops o = some op) (hnm : op.si.isMup = false) {K : Env → Heap → Prop} (hk : vcOp P op e h K) {g0 : Ghost} {w0 : World} (GR : GRel P.gl g0 w0) (T : St [] n g0 w0 e h g a w)
    {next : Act → World → Prop} {Q : Exit → Act → World → Prop} (hn : ∀ v r w' e' h' g', (op.si.gated = true → g' = g) → (e' = setD e o.dst r ∧ K e' h') → St [] n g0 w0 e' h' g' (a.put o.dst v) w' → next (a.put o.dst v) w') :
    if Region.wanted o (yielded ops a.tmps) then o.wp P a w next Q ∨ (o.asks P a w ∧ LetsOut Q) else next (a.put o.dst undef) w := by
  unfold toSOp at ht
  simp only [Option.bind_eq_some_iff] at ht
  obtain ⟨si, hsi, ht⟩ := ht
  split at ht
  · rename_i hd
    have hd := dstOK_out hd.1
    have run : op.si = si → ∀ {K' : AVal → Heap → Prop}, si.isMup = false → vcI P si e h K' → (∀ r h', K' r h' → K (setD e o.dst r) h') → o.wp P a w next Q := by
      intro hop K' hm hv hK'
      refine vcI_sound hsi hm hv T.E T.H (GR.step T.S) fun v w' g' r h' S' H' V' k' hg => hn _ r _ _ h' g' (fun q => (hg (by rw [← hop]; exact q)).1) ⟨rfl, hK' r h' k'⟩ ⟨(T.E.step S').put hd V', H', T.S.trans S', T.M.put _ _, MO.nil⟩
    split at ht
    · rename_i hg
      cases ht
      have hw : Region.wanted o (yielded ops a.tmps) = true := by simp [Region.wanted, hg]
      rw [if_pos hw]
      exact .inl (run rfl hnm hk fun _ _ k => k)
    · rename_i j b hg
      rw [Option.bind_eq_some_iff] at ht
      obtain ⟨s, hs, ht⟩ := ht
      split at ht
      case isFalse => cases ht
      rename_i h6
      cases ht
      have skip : want (e s) b = some false → K (setD e o.dst (.tup [])) h → (if Region.wanted o (yielded ops a.tmps) then o.wp P a w next Q ∨ (o.asks P a w ∧ LetsOut Q) else next (a.put o.dst undef) w) := by
        intro het hK
        have hy := want_off hs (T.E.slot s h6) het
        rw [if_neg (by simp [Region.wanted, hg, hy])]
        exact hn _ _ _ _ h g (fun _ => rfl) ⟨rfl, hK⟩ ⟨T.E.put hd (.tup #[] [] rfl (by simp)), T.H, T.S, T.M.put _ _, MO.nil⟩
      have go : want (e s) b = some true → o.wp P a w next Q → (if Region.wanted o (yielded ops a.tmps) then o.wp P a w next Q ∨ (o.asks P a w ∧ LetsOut Q) else next (a.put o.dst undef) w) := by
        intro het hwp
        have hy := want_on hs (T.E.slot s h6) het
        rw [if_pos (by simp [Region.wanted, hg, hy])]
        exact .inl hwp
      have hk : vcG P s b si e h (fun r h' => K (setD e o.dst r) h') := hk
      unfold vcG at hk
      split at hk
      · rename_i f args
        obtain ⟨v, hk⟩ := hk
        obtain ⟨t, het, h1, h2⟩ := gateP_out hk
        rw [gateV_w het] at h2
        cases t with
        | true => exact go het (run rfl hnm (K' := fun r h' => r = v ∧ h' = h) ⟨v, h1 rfl, rfl, rfl⟩ (by rintro r h' ⟨rfl, rfl⟩; exact h2))
        | false => exact skip het h2
      · split at hk
        · rename_i hst
          obtain ⟨t, het, h1, h2⟩ := gateP_out hk
          rw [gateV_w het] at h2
          cases t with
          | true => exact go het (run rfl hnm (K' := fun r h' => r = fop si e h ∧ h' = h) (stable_vcI hst (h1 rfl) ⟨rfl, rfl⟩) (by rintro r h' ⟨rfl, rfl⟩; exact h2))
          | false => exact skip het h2
        · obtain ⟨t, het, h1, h2⟩ := gateE_out hk
          cases t with
          | true => exact go het (run rfl hnm (h1 rfl) fun _ _ k => k)
          | false => exact skip het (h2 rfl)
  · cases ht
structure IR (pu : Bool) {X : Type} (P : PG) (n np : Nat) (enc : X → List AVal) (g0 : Ghost) (w0 : World) (e0 : Env) (J Jx : List { p : X × Array Value // VRelL g0 w0 p.2 (enc p.1) } → World → Prop) (s : Bool) (p : List X) (e : Env) (a : Act) (W : World) : Prop where
  D : a.defers = []
  B : ∃ gs Ws g p', gs.nxt = 0 ∧ St [] n gs Ws e (fun _ => none) g a W ∧ GRel (PS P s).gl gs Ws ∧ p'.map (fun q => q.1.1) = p ∧ (s = true → Jx p' Ws) ∧
    (s = false → J p' Ws ∧ (∀ b, g0.fz b → gs.fz b ∧ Ws.heap[b]? = w0.heap[b]?) ∧ (∀ b, e (1000000 + b) = P.gl b) ∧ (∀ t, t < np → e t = e0 t ∧ VRel g0 w0 (a.tmps.getD t undef) (e0 t)) ∧ (pu = true → ∀ b, g.fz b → g0.fz b))
theorem VRel.prim_inv' {g : Ghost} {w : World} {u v : Value} (h : VRel g w u (.prim v)) : u = v := by cases h; rfl
theorem setD_hi {np n : Nat} (_ : np ≤ n) (hn : n ≤ 1000000) {e : Env} {dst : Option Nat} (h : ∀ d, dst = some d → d < n) {v : AVal} (b : Nat) : setD e dst v (1000000 + b) = e (1000000 + b) := by
  cases dst with
  | none => rfl
  | some d => exact upd_ne _ _ (by have := h d rfl; omega)
theorem grown_of {gs g : Ghost} {Ws W : World} (S : GS gs Ws g W) (hn : gs.nxt = 0) : Ws.grownBy W none :=
  ⟨S.os, S.tape, S.output, S.size, fun k hk _ => S.own k hk (.inl fun ⟨r, hr, _⟩ => by rw [hn] at hr; omega)⟩
theorem GRel.dark (P : PG) (g : Ghost) (w : World) : GRel (PG.dark P).gl g w := fun _ => ⟨.dead, .dead _⟩
theorem keepS_rel {g g' : Ghost} {w w' : World} {v : Value} {a : AVal} (h : VRel g w v a) : VRel g' w' v (keepS a) := by
  cases h <;> first | exact .dead _ | exact .int _ _ | exact .bool _ | exact .str _
theorem put_at {a : Act} {dst : Option Nat} {v : Value} {t : Nat} (h : ∀ d, dst = some d → d ≠ t) : (a.put dst v).tmps.getD t undef = a.tmps.getD t undef := by
  cases dst with
  | none => rfl
  | some d =>
    simp only [Act.put, Array.getD_eq_getD_getElem?, Array.getElem?_setIfInBounds]
    rw [if_neg (h d rfl)]
theorem dstI_out {np n : Nat} {d : Option Nat} (h : dstI np n d = true) : ∀ x, d = some x → np ≤ x ∧ x < n := by
  intro x hx; subst hx; simpa [dstI] using h
section
variable {pu : Bool} {X : Type} {P : PG} {ann : Ann} {n np N : Nat} {enc : X → List AVal} {g0 : Ghost} {w0 : World} {e0 : Env} {l B : Nat} {J Jx : List { p : X × Array Value // VRelL g0 w0 p.2 (enc p.1) } → World → Prop}
abbrev Kp0 (g0 : Ghost) (W W' : World) : Prop := ∀ b, g0.fz b → W'.heap[b]? = W.heap[b]?
theorem itOps_sound (hnp : np ≤ n) (G0 : GRel P.gl g0 w0) (F0 : ∀ b, g0.fz b → b < w0.heap.size) (D0 : ∀ t, t < np → Dat (e0 t)) (henc : ∀ x, ∀ y ∈ enc x, Scal y ∨ (pu = true ∧ Dat y))
    (hJ : ∀ p W W', J p W → W.grownBy W' none → J p W') (hJx : ∀ p W W', Jx p W → W.grownBy W' none → Jx p W')
    (hY : ∀ pre x W1, J pre W1 → pre.length < N → YieldAt (FR none) 0 P.p l x.1.2 W1 fun e W' => (e = .returned (.bool true) ∧ J (pre ++ [x]) W' ∧ Kp0 g0 W1 W') ∨ (e = .returned (.bool false) ∧ Jx (pre ++ [x]) W'))
    {ops : Array Oper} {K : Bool → List X → Env → Prop} {Q : Exit → Act → World → Prop} (hL : ¬ LetsOut Q) (hQ : ∀ s p e a W, K s p e → IR pu P n np enc g0 w0 e0 J Jx s p e a W → Q .normal a W) :
    ∀ (os : List Oper) (il : List IOp) (s : Bool) (p : List X) (e : Env) (a : Act) (W : World), toIOps P ann np n ops os = some il → (pu = true → il.all IOp.gd = true) → itOps P np (.prim (.func (.yield l) #[] #[])) enc N il s p e K → IR pu P n np enc g0 w0 e0 J Jx s p e a W → wpListIn (FR none) 1 P ops Q os a W
  | [], il, s, p, e, a, W, ht, hpu, hk, R => by
    simp [toIOps] at ht; subst ht
    exact hQ s p e a W hk R
  | o :: r, il, s, p, e, a, W, ht, hpu, hk, R => by
    simp only [toIOps, Option.bind_eq_some_iff, Option.map_eq_some_iff] at ht
    obtain ⟨io, hio, ir, hir, rfl⟩ := ht
    have hpr : pu = true → ir.all IOp.gd = true := fun q => by have := hpu q; simp only [List.all_cons, Bool.and_eq_true] at this; exact this.2
    have hpo : pu = true → io.gd = true := fun q => by have := hpu q; simp only [List.all_cons, Bool.and_eq_true] at this; exact this.1
    obtain ⟨hD, gs, Ws, g, p', hnx, S, GR, hp, hX, hF⟩ := R
    unfold toIOp at hio
    split at hio
    case isFalse => cases hio
    rename_i hdst
    have hdst := dstI_out hdst
    split at hio
    · rename_i t as hyo
      rw [Option.map_eq_some_iff] at hio
      obtain ⟨sl, hsl, rfl⟩ := hio
      obtain ⟨rfl, hlen, hf, x, hx, hgo, hst⟩ := hk
      obtain ⟨hJp, hfz, hgl, hpar, hgf⟩ := hF rfl
      unfold yieldOf at hyo
      split at hyo
      case h_2 => cases hyo
      rename_i c ho hg
      split at hyo
      case h_2 => cases hyo
      rename_i t' hc
      split at hyo
      case isFalse => cases hyo
      rename_i h6
      cases hyo
      have hw : Region.wanted o (yielded ops a.tmps) = true := by simp [Region.wanted, hg]
      unfold wpListIn
      rw [if_pos hw]
      have hfv : a.eval (.tmp t) = .func (.yield l) #[] #[] := by
        have h1 := ev_sound S.E (x := .tmp t) (sx := .t t) (by simp [toSX, h6])
        rw [show ev e (.t t) = _ from hf] at h1
        exact h1.prim_inv'
      have hargs := evs_rel S.E hsl
      rw [hx] at hargs
      have hWk : ∀ b, g0.fz b → W.heap[b]? = w0.heap[b]? := fun b hb => (S.S.keep b (hfz b hb).1).trans (hfz b hb).2
      have hargs0 : VRelL g0 w0 (c.args.map a.eval) (enc x) := ⟨hargs.1, fun j u y hu hy => by
        rcases henc x y (List.mem_of_getElem? hy) with hs | ⟨hp1, hd⟩
        · exact hs.any (hargs.2 j u y hu hy) g0 w0
        · exact (hd.rel (hgf hp1) (hargs.2 j u y hu hy)).heap fun b hb => (hWk b hb).symm⟩
      have hgr := grown_of S.S hnx
      have hyy := hY p' ⟨(x, c.args.map a.eval), hargs0⟩ W (hJ _ _ _ hJp hgr) (by rw [← hp] at hlen; simpa using hlen)
      refine yield_op (l := l) (m := 0) (A := fun W' => J (p' ++ [⟨(x, c.args.map a.eval), hargs0⟩]) W' ∧ Kp0 g0 W W') (B := fun W' => Jx (p' ++ [⟨(x, c.args.map a.eval), hargs0⟩]) W') ho hc hfv ?_ ?_ ?_
      · obtain ⟨fn, tm, asg, body, h1, h2⟩ := hyy
        exact ⟨fn, tm, asg, body, h1, h2.mono fun e W' hh => hh.imp (fun ⟨a, b, c⟩ => ⟨a, b, c⟩) fun h => h⟩
      · rintro W' ⟨hJ', hK'⟩
        have hk0 : ∀ b, g0.fz b → W'.heap[b]? = w0.heap[b]? := fun b hb => (hK' b hb).trans (hWk b hb)
        have hb : ∀ b, g0.fz b → g0.bare.fz b := fun b h => h
        have hsz : ∀ b, g0.fz b → b < W'.heap.size := fun b hb => by
          have h1 := F0 b hb
          have h2 := hk0 b hb
          rw [Array.getElem?_eq_getElem h1] at h2
          exact (Array.getElem?_eq_some_iff.1 h2).1
        have GR' : GRel P.gl g0.bare W' := fun b => ⟨(G0 b).1, (G0 b).1.rel hb ((G0 b).2.heap hk0)⟩
        have E1 : ERel n (aft np e) g0.bare W' a := by
          refine ⟨by rw [hD]; exact DOK.nil _ _, S.E.size, S.E.bnd, fun t ht => ?_, fun b => ?_⟩
          · unfold aft
            split
            · rename_i hh
              have ht' : t < np := by omega
              rw [(hpar t ht').1]
              exact (D0 t ht').rel hb ((hpar t ht').2.heap hk0)
            · exact keepS_rel (S.E.slot t ht)
          · unfold aft
            rw [if_pos (by omega)]
            rw [hgl b]
            exact (GR' b).2
        refine itOps_sound hnp G0 F0 D0 henc hJ hJx hY hL hQ r ir false _ _ _ W' hir hpr hgo ⟨by rw [put_defers]; exact hD, g0.bare, W', g0.bare, _, rfl, ⟨E1.put (fun d hd => (hdst d hd).2) (.bool true), ⟨(fun r o hr => by cases hr), (fun r r' o o' hr => by cases hr), hsz, (fun b ⟨r, hr, _⟩ => by cases hr), .none⟩, GS.refl _ _, (MK.put (fun _ d hd => by rw [hD] at hd; cases hd) _ _), MO.nil⟩, GR', by simp [hp], (fun h => by cases h), fun _ => ⟨hJ', fun b hb => ⟨hb, hk0 b hb⟩, fun b => (setD_hi hnp S.E.bnd (fun d hd => (hdst d hd).2) b).trans ((if_pos (by omega)).trans (hgl b)), fun t ht => ?_, fun _ b hb => hb⟩⟩
        have hne : ∀ d, o.dst = some d → d ≠ t := fun d hd => Nat.ne_of_gt (Nat.lt_of_lt_of_le ht (hdst d hd).1)
        refine ⟨?_, by rw [put_at hne]; exact (hpar t ht).2⟩
        have h1 : setD (aft np e) o.dst (.bool true) t = aft np e t := by
          cases hd : o.dst with
          | none => rfl
          | some d => exact upd_ne _ _ (fun h => hne d hd h.symm)
        rw [h1, aft, if_pos (.inl ht)]
        exact (hpar t ht).1
      · intro W' hJ'
        let g1 : Ghost := { g0 with nxt := 0, fz := fun _ => False }
        have E1 : ERel n (aftX e) g1 W' a := ⟨by rw [hD]; exact DOK.nil _ _, S.E.size, S.E.bnd, fun t ht => keepS_rel (S.E.slot t ht), fun b => keepS_rel (S.E.glo b)⟩
        exact itOps_sound hnp G0 F0 D0 henc hJ hJx hY hL hQ r ir true _ _ _ W' hir hpr hst ⟨by rw [put_defers]; exact hD, g1, W', g1, _, rfl, ⟨E1.put (fun d hd => (hdst d hd).2) (.bool false), ⟨(fun r o hr => by cases hr), (fun r r' o o' hr => by cases hr), (fun b hb => by cases hb), (fun b ⟨r, hr, _⟩ => by cases hr), .none⟩, GS.refl _ _, (MK.put (fun _ d hd => by rw [hD] at hd; cases hd) _ _), MO.nil⟩, GRel.dark P _ _, by simp [hp], fun _ => hJ', (fun h => by cases h)⟩
    · rw [Option.bind_eq_some_iff] at hio
      obtain ⟨so, hso, hio⟩ := hio
      split at hio
      · cases hio
      rename_i hnm
      have hnm : so.si.isMup = false := by simpa using hnm
      cases hio
      have hndef : ∀ c, o.op ≠ .defer c := by
        unfold toSOp at hso
        rw [Option.bind_eq_some_iff] at hso
        obtain ⟨si, hsi, _⟩ := hso
        exact toSI_defer hsi
      have hk : vcOp (PS P s) so e (fun _ => none) fun e' _ => itOps P np (.prim (.func (.yield l) #[] #[])) enc N ir s p e' K := hk
      have hPp : (PS P s).p = P.p := by unfold PS; split <;> rfl
      have key := vcOp_put (P := PS P s) (Q := Q) (o := o) (ops := ops) (ann := ann) (n := n) (by rw [hPp]; exact hso) hnm hk GR S (next := fun a' w' => wpListIn (FR none) 1 P ops Q r a' w') fun v rv w' e' h' g' hgg ⟨he', k'⟩ T' => by
        refine itOps_sound hnp G0 F0 D0 henc hJ hJx hY hL hQ r ir s p e' _ w' hir hpr k' ⟨by rw [put_defers]; exact hD, gs, Ws, g', p', hnx, ⟨T'.E, T'.H.le (fun t o h => by cases h), T'.S, T'.M, MO.nil⟩, GR, hp, hX, fun hs => ?_⟩
        obtain ⟨h1, h2, h3, h4, h5⟩ := hF hs
        refine ⟨h1, h2, fun b => by rw [he', setD_hi hnp S.E.bnd (fun d hd => (hdst d hd).2)]; exact h3 b, fun t ht => ?_, fun q b hb => h5 q b (by rw [hgg (hpo q)] at hb; exact hb)⟩
        have hne : ∀ d, o.dst = some d → d ≠ t := fun d hd => Nat.ne_of_gt (Nat.lt_of_lt_of_le ht (hdst d hd).1)
        refine ⟨?_, by rw [put_at hne]; exact (h4 t ht).2⟩
        rw [he']
        refine Eq.trans ?_ (h4 t ht).1
        cases hd : o.dst with
        | none => rfl
        | some d => exact upd_ne _ _ (fun h => hne d hd h.symm)
      rw [hPp] at key
      unfold wpListIn
      split at key
      · rename_i hw
        rw [if_pos hw]
        exact op_in hndef (key.resolve_right fun h => hL h.2)
      · rename_i hw
        rw [if_neg hw]
        exact ⟨fun _ _ => trivial, key⟩
def IQ (pu : Bool) {X : Type} (P : PG) (n np : Nat) (enc : X → List AVal) (g0 : Ghost) (w0 : World) (e0 : Env) (J Jx : List { p : X × Array Value // VRelL g0 w0 p.2 (enc p.1) } → World → Prop) (Q : SExit → Bool → List X → Env → Prop) (x : Exit) (a : Act) (W : World) : Prop :=
  ∃ x' s p e, x = exitOf x' ∧ Q x' s p e ∧ IR pu P n np enc g0 w0 e0 J Jx s p e a W
theorem IQ.in {Q : SExit → Bool → List X → Env → Prop} : ¬ LetsOut (IQ pu P n np enc g0 w0 e0 J Jx Q) := by
  rintro ⟨a, w, x', s, p, e, hx, _⟩
  cases x' <;> cases hx
theorem itv_sound (hnp : np ≤ n) (G0 : GRel P.gl g0 w0) (F0 : ∀ b, g0.fz b → b < w0.heap.size) (D0 : ∀ t, t < np → Dat (e0 t)) (henc : ∀ x, ∀ y ∈ enc x, Scal y ∨ (pu = true ∧ Dat y))
    (hJ : ∀ p W W', J p W → W.grownBy W' none → J p W') (hJx : ∀ p W W', Jx p W → W.grownBy W' none → Jx p W')
    (hY : ∀ pre x W1, J pre W1 → pre.length < N → YieldAt (FR none) 0 P.p l x.1.2 W1 fun e W' => (e = .returned (.bool true) ∧ J (pre ++ [x]) W' ∧ Kp0 g0 W1 W') ∨ (e = .returned (.bool false) ∧ Jx (pre ++ [x]) W')) :
    ∀ (c : Code) (ic : ICode), toI P ann np n c = some ic → (pu = true → ic.gd = true) → ∀ (Q : SExit → Bool → List X → Env → Prop) (s : Bool) (p : List X) (e : Env) (a : Act) (W : World), itv P np (.prim (.func (.yield l) #[] #[])) enc N ic Q s p e → IR pu P n np enc g0 w0 e0 J Jx s p e a W → c.wpIn (FR none) 1 P (IQ pu P n np enc g0 w0 e0 J Jx Q) a W := by
  intro c
  induction c with
  | skip =>
    intro ic ht hpu Q s p e a W hk R
    simp [toI] at ht; subst ht
    exact wpIn_skip ⟨.normal, s, p, e, rfl, hk, R⟩
  | region id ops draws =>
    intro ic ht hpu Q s p e a W hk R
    cases draws with
    | true => simp [toI] at ht
    | false =>
      simp only [toI, Option.map_eq_some_iff] at ht
      obtain ⟨il, hil, rfl⟩ := ht
      exact wpIn_region_list (itOps_sound hnp G0 F0 D0 henc hJ hJx hY IQ.in (K := Q .normal) (fun s p e a W hk R => ⟨.normal, s, p, e, rfl, hk, R⟩) _ _ s p e a W hil hpu hk R)
  | seq x y ihx ihy =>
    intro ic ht hpu Q s p e a W hk R
    simp only [toI, Option.bind_eq_some_iff, Option.map_eq_some_iff] at ht
    obtain ⟨ix, hix, iy, hiy, rfl⟩ := ht
    refine wpIn_seq (wpIn_mono (ihx ix hix (fun q => (Bool.and_eq_true_iff.1 (hpu q)).1) _ s p e a W hk R) ?_)
    rintro _ a' W' ⟨x', s', p', e', rfl, hq, R'⟩
    cases x' with
    | normal => exact ihy iy hiy (fun q => (Bool.and_eq_true_iff.1 (hpu q)).2) Q s' p' e' a' W' hq R'
    | exit id => exact ⟨.exit id, s', p', e', rfl, hq, R'⟩
    | ret => exact ⟨.ret, s', p', e', rfl, hq, R'⟩
  | cond c x y ihx ihy =>
    intro ic ht hpu Q s p e a W hk R
    simp only [toI, Option.bind_eq_some_iff, Option.map_eq_some_iff] at ht
    obtain ⟨sc, hsc, ix, hix, iy, hiy, rfl⟩ := ht
    obtain ⟨gs, Ws, g, p', _, S, _⟩ := R.B
    have hv := ev_sound S.E hsc
    have hk : condOn (ev e sc) (itv P np _ enc N ix Q s p e) (itv P np _ enc N iy Q s p e) := hk
    revert hk hv
    cases ev e sc <;> intro hv hk <;> try exact hk.elim
    rename_i t
    exact wpIn_cond_split hv.bool_inv (fun ht => ihx ix hix (fun q => (Bool.and_eq_true_iff.1 (hpu q)).1) Q s p e a W (hk.1 ht) R) (fun ht => ihy iy hiy (fun q => (Bool.and_eq_true_iff.1 (hpu q)).2) Q s p e a W (hk.2 ht) R)
  | block id c ih =>
    intro ic ht hpu Q s p e a W hk R
    simp only [toI, Option.map_eq_some_iff] at ht
    obtain ⟨i, hi, rfl⟩ := ht
    refine wpIn_block (wpIn_mono (ih i hi (fun q => hpu q) (blkK id Q) s p e a W hk R) ?_)
    rintro _ a' W' ⟨x', s', p', e', rfl, hq, R'⟩
    cases x' with
    | normal => exact ⟨.normal, s', p', e', rfl, hq, R'⟩
    | ret => exact ⟨.ret, s', p', e', rfl, hq, R'⟩
    | exit j =>
      simp only [blkK] at hq
      simp only [exitOf, Exit.inBlock]
      split at hq
      · rename_i hj; rw [if_pos hj]; exact ⟨.normal, s', p', e', rfl, hq, R'⟩
      · rename_i hj; rw [if_neg hj]; exact ⟨.exit j, s', p', e', rfl, hq, R'⟩
  | loop c ih =>
    intro ic ht hpu Q s p e a W hk R
    simp only [toI, Option.map_eq_some_iff] at ht
    obtain ⟨i, hi, rfl⟩ := ht
    obtain ⟨I, ⟨m0, h0⟩, hround⟩ := hk
    intro b k cs hro' hb hr
    have key : ∀ m s p e a W, I m s p e → IR pu P n np enc g0 w0 e0 J Jx s p e a W → ∃ x a' W', IQ pu P n np enc g0 w0 e0 J Jx Q x a' W' ∧ ArrivesIn (Machine.fenced P (FR none)) P (lone (b.atR a (.code c :: .inLoop c :: k)) cs W) b k cs x a' W' := by
      intro m
      induction m using Nat.strongRecOn with
      | _ m ihm =>
        intro s p e a W hI R
        obtain ⟨x, a₁, w₁, hq, harr⟩   := ih i hi (fun q => hpu q) _ s p e a W (hround m s p e hI) R b (.inLoop c :: k) cs hro' hb hr
        obtain ⟨x', s', p', e', rfl, hq, R'⟩ := hq
        cases x' with
        | normal =>
          obtain ⟨m', hlt, hI'⟩ := hq
          obtain ⟨x2, a₂, w₂, hq₂, harr₂⟩ := ihm m' hlt s' p' e' a₁ w₁ hI' R'
          exact ⟨x2, a₂, w₂, hq₂, .of_steps (StepsIn.trans harr (.one (fenced_calm hb hr rfl) stepR_inLoop)) harr₂⟩
        | exit id => exact ⟨.exit id, a₁, w₁, ⟨.exit id, s', p', e', rfl, hq, R'⟩, .pass (x := .inLoop c) rfl (fun _ _ => .inl (by simp)) harr⟩
        | ret => exact ⟨.ret, a₁, w₁, ⟨.ret, s', p', e', rfl, hq, R'⟩, .pass (x := .inLoop c) rfl (fun _ _ => .inl (by simp)) harr⟩
    obtain ⟨x, a', W', hq, harr⟩ := key m0 s p e a W h0 R
    exact ⟨x, a', W', hq, .of_steps (.one (fenced_calm hb hr rfl) stepR_loop) harr⟩
  | exit id =>
    intro ic ht hpu Q s p e a W hk R
    simp [toI] at ht; subst ht
    exact wpIn_exit ⟨.exit id, s, p, e, rfl, hk, R⟩
  | ret =>
    intro ic ht hpu Q s p e a W hk R
    simp [toI] at ht; subst ht
    exact wpIn_ret ⟨.ret, s, p, e, rfl, hk, R⟩
  | rangeFunc f ps asg body _ ihb => intro ic ht; simp [toI] at ht
  | scope => intro ic ht; simp [toI] at ht
  | label => intro ic ht; simp [toI] at ht
  | goto => intro ic ht; simp [toI] at ht
  | refuse => intro ic ht; simp [toI] at ht
end
theorem iterV_of_itv {X : Type} {P : PG} {ann : Ann} {k : Nat} {fn : Func} {ic : ICode} {cap : List AVal} {enc : X → List AVal} {xs : List X} {N : Nat} (hf : P.p.funcs[k]? = some fn) (hname : (fn.name == "runtime.NumGoroutine") = false)
    (ht : toIF P ann (cap.length + 1) fn = some ic) (hn : cap.length + 1 ≤ fn.ntmps) (hN : fn.ntmps ≤ 1000000) (hd : ∀ c ∈ cap, Dat c) (henc : ∀ x, ∀ y ∈ enc x, Scal y ∨ (ic.gd = true ∧ Dat y))
    (hk : ∀ l, itv P (cap.length + 1) (.prim (.func (.yield l) #[] #[])) enc N ic (endK xs) false [] (initE P.gl (.prim (.func (.yield l) #[] #[]) :: cap))) : IterV P k cap enc xs N := by
  unfold toIF at ht
  split at ht
  case isFalse => cases ht
  rename_i hres
  rw [Option.bind_eq_some_iff] at ht
  obtain ⟨c, hc, hic⟩ := ht
  refine ⟨⟨fn, hf, hname, by simp [hc]⟩, fun g w cs hfz GR V => ?_⟩
  intro l J Jx W hB hJ hJx hY h0
  let e0 := initE P.gl (.prim (.func (.yield l) #[] #[]) :: cap)
  have hkW : ∀ b, g.fz b → W.heap[b]? = w.heap[b]? := fun b hb => hB.block b (hfz b hb)
  have hb : ∀ b, g.fz b → g.bare.fz b := fun b h => h
  have hcs : cs.size = cap.length := V.1
  have hD0 : ∀ t, t < cap.length + 1 → Dat (e0 t) := by
    intro t ht
    show Dat (initE _ _ t)
    unfold initE
    rw [if_pos (by omega)]
    cases t with
    | zero => exact .prim _
    | succ t =>
      have : (AVal.prim (.func (.yield l) #[] #[]) :: cap).getD (t + 1) .dead = cap.getD t .dead := rfl
      rw [this, List.getD_eq_getElem?_getD, List.getElem?_eq_getElem (by omega)]
      exact hd _ (List.getElem_mem _)
  have hslot : ∀ t, t < 1000000 → VRel g w (((#[Value.func (.yield l) #[] #[]] ++ cs) ++ Array.replicate (fn.ntmps - (#[Value.func (.yield l) #[] #[]] ++ cs).size) undef).getD t undef) (e0 t) := by
    intro t h6
    show VRel g w _ (initE _ _ t)
    unfold initE
    rw [if_pos h6]
    cases t with
    | zero =>
      have h1 : ((#[Value.func (.yield l) #[] #[]] ++ cs) ++ Array.replicate (fn.ntmps - (#[Value.func (.yield l) #[] #[]] ++ cs).size) undef).getD 0 undef = .func (.yield l) #[] #[] := by
        rw [Array.getD_eq_getD_getElem?, Array.append_assoc, Array.getElem?_append_left (by simp)]
        rfl
      rw [h1]; exact .prim _
    | succ t =>
      by_cases ht : t < cap.length
      · have h1 : ((#[Value.func (.yield l) #[] #[]] ++ cs) ++ Array.replicate (fn.ntmps - (#[Value.func (.yield l) #[] #[]] ++ cs).size) undef).getD (t + 1) undef = cs[t]'(by omega) := by
          have ht' : t < cs.size := by omega
          rw [Array.getD_eq_getD_getElem?, Array.append_assoc, Array.getElem?_append_right (by simp), Array.getElem?_append_left (by simpa using ht')]
          simp [ht']
        rw [h1]
        have h2 : (AVal.prim (.func (.yield l) #[] #[]) :: cap).getD (t + 1) .dead = cap[t] := by
          show cap.getD t .dead = _
          rw [List.getD_eq_getElem?_getD, List.getElem?_eq_getElem ht]; rfl
        rw [h2]
        exact V.2 t _ _ (Array.getElem?_eq_getElem (by omega)) (List.getElem?_eq_getElem ht)
      · have h2 : (AVal.prim (.func (.yield l) #[] #[]) :: cap).getD (t + 1) .dead = .dead := by
          show cap.getD t .dead = _
          rw [List.getD_eq_getElem?_getD, List.getElem?_eq_none (by omega)]; rfl
        rw [h2]; exact .dead _
  have hslotW : ∀ t, t < 1000000 → VRel g.bare W (((#[Value.func (.yield l) #[] #[]] ++ cs) ++ Array.replicate (fn.ntmps - (#[Value.func (.yield l) #[] #[]] ++ cs).size) undef).getD t undef) (e0 t) := by
    intro t h6
    by_cases ht : t < cap.length + 1
    · exact (hD0 t ht).rel hb ((hslot t h6).heap hkW)
    · have : e0 t = .dead := by
        show initE _ _ t = _
        unfold initE
        rw [if_pos h6, List.getD_eq_getElem?_getD, List.getElem?_eq_none (by simp; omega)]; rfl
      rw [this]; exact .dead _
  have GRW : GRel P.gl g.bare W := fun b => ⟨(GR b).1, (GR b).1.rel hb ((GR b).2.heap hkW)⟩
  refine callsIn_of_wp hf hc trivial (wpIn_mono (itv_sound (pu := ic.gd) (P := P) (n := fn.ntmps) (np := cap.length + 1) (N := N) (enc := enc) (g0 := g) (w0 := w) (e0 := e0) (l := l) (J := J) (Jx := Jx) hn GR hfz hD0 henc
    (fun p W W' h hg => hJ p W W' none h hg (fun r h => by cases h)) (fun p W W' h hg => hJx p W W' none h hg (fun r h => by cases h)) (fun pre x W1 h1 h2 => hY pre x W1 h1 h2) c ic hic (fun q => q) (endK xs) false [] e0 _ W (hk l)
    ⟨rfl, g.bare, W, g.bare, [], rfl, ⟨⟨DOK.nil _ _, ?_, hN, hslotW, fun b => ?_⟩, ⟨(fun r o hr => by cases hr), (fun r r' o o' hr => by cases hr), fun b hbz => ?_, (fun b ⟨r, hr, _⟩ => by cases hr), .none⟩, GS.refl _ _, (fun _ d hd => by cases hd), MO.nil⟩, GRW, rfl, (fun h => by cases h), fun _ => ⟨h0, fun b hb => ⟨hb, hkW b hb⟩, fun b => ?_, fun t ht => ⟨rfl, hslot t (by omega)⟩, fun _ b hb => hb⟩⟩) ?_) rfl
  · simp only [Array.size_append, Array.size_replicate]
    have : (#[Value.func (.yield l) #[] #[]] : Array Value).size = 1 := rfl
    omega
  · show VRel _ _ _ (initE _ _ _)
    rw [initE, if_neg (by omega), Nat.add_sub_cancel_left]; exact (GRW b).2
  · exact Nat.lt_of_lt_of_le (hfz b hbz) hB.size
  · show initE _ _ _ = _
    rw [initE, if_neg (by omega), Nat.add_sub_cancel_left]
  · rintro x a' W' ⟨x', s, p, e, rfl, hq, hD, gs, Ws, g', p', hnx, S, _, hp, hX, hF⟩
    have hg := grown_of S.S hnx
    have fin : (if s = true then p <+: xs else p = xs) → ((∃ ys : List { p : X × Array Value // VRelL g w p.2 (enc p.1) }, ys.map (fun q => q.1.1) = xs ∧ J ys W') ∨ ∃ pre : List { p : X × Array Value // VRelL g w p.2 (enc p.1) }, pre.map (fun q => q.1.1) <+: xs ∧ Jx pre W') := by
      intro hh
      cases s with
      | true => exact .inr ⟨p', by rw [hp]; simpa using hh, hJx _ _ _ none (hX rfl) hg (fun r h => by cases h)⟩
      | false => exact .inl ⟨p', by rw [hp]; simpa using hh, hJ _ _ _ none (hF rfl).1 hg (fun r h => by cases h)⟩
    cases x' with
    | normal => exact ⟨hD, _, results_none hres _ _ _, ⟨_, rfl⟩, fin hq⟩
    | ret => exact ⟨hD, _, results_none hres _ _ _, ⟨_, rfl⟩, fin hq⟩
    | exit id => exact hq.elim
section
variable {X : Type} {P : PG} {np : Nat} {yv : AVal} {enc : X → List AVal} {N : Nat} {Q : SExit → Bool → List X → Env → Prop} {s : Bool} {p : List X} {e : Env} {K : Bool → List X → Env → Prop}
theorem itv_skip : itv P np yv enc N .skip Q s p e = Q .normal s p e := rfl
theorem itv_reg (ops : List IOp) : itv P np yv enc N (.reg ops) Q s p e = itOps P np yv enc N ops s p e (Q .normal) := rfl
theorem itv_seq (a b : ICode) : itv P np yv enc N (.seq a b) Q s p e = itv P np yv enc N a (seqK (itv P np yv enc N b Q) Q) s p e := rfl
theorem itv_cond (x : SX) (a b : ICode) : itv P np yv enc N (.cond x a b) Q s p e = condW (ev e x) (itv P np yv enc N a Q s p e) (itv P np yv enc N b Q s p e) .mk := rfl
theorem itv_block (id : Nat) (c : ICode) : itv P np yv enc N (.block id c) Q s p e = itv P np yv enc N c (blkK id Q) s p e := rfl
theorem itv_loop (c : ICode) : itv P np yv enc N (.loop c) Q s p e = itLoop (itv P np yv enc N c) Q s p e := rfl
theorem itv_exit (id : Nat) : itv P np yv enc N (.exit id) Q s p e = Q (.exit id) s p e := rfl
theorem itv_ret : itv P np yv enc N .ret Q s p e = Q .ret s p e := rfl
theorem itOps_nil : itOps P np yv enc N [] s p e K = K s p e := rfl
theorem itOps_op (o : SOp) (r : List IOp) : itOps P np yv enc N (.op o :: r) s p e K = Hd (vcV (PS P s) o e (fun _ => none)) (fun v _ => itOps P np yv enc N r s p (setD e o.dst v) K) .mk := rfl
theorem itOps_yld (d : Option Nat) (f : SX) (as : List SX) (r : List IOp) : itOps P np yv enc N (.yld d f as :: r) s p e K = (s = false ∧ p.length < N ∧ ev e f = yv ∧ ∃ x, as.map (ev e) = enc x ∧
      itOps P np yv enc N r false (p ++ [x]) (setD (aft np e) d (.bool true)) K ∧ itOps P np yv enc N r true (p ++ [x]) (setD (aftX e) d (.bool false)) K) := rfl
theorem PS_false : PS P false = P := rfl
variable {M : Bool → List X → Env → Prop}
theorem seqK_normal : seqK M Q .normal s p e = M s p e := rfl
theorem seqK_exit (id : Nat) : seqK M Q (.exit id) s p e = Q (.exit id) s p e := rfl
theorem seqK_ret : seqK M Q .ret s p e = Q .ret s p e := rfl
theorem blkK_normal (id : Nat) : blkK id Q .normal s p e = Q .normal s p e := rfl
theorem blkK_ret (id : Nat) : blkK id Q .ret s p e = Q .ret s p e := rfl
theorem blkK_exit (id j : Nat) : blkK id Q (.exit j) s p e = if j = id then Q .normal s p e else Q (.exit j) s p e := rfl
theorem endK_normal (xs : List X) : endK xs .normal s p e = if s = true then p <+: xs else p = xs := rfl
theorem endK_ret (xs : List X) : endK xs .ret s p e = if s = true then p <+: xs else p = xs := rfl
theorem itLoop.intro {b : (SExit → Bool → List X → Env → Prop) → Bool → List X → Env → Prop} (I : Nat → Bool → List X → Env → Prop) (m : Nat) (h0 : I m s p e) (hr : ∀ m s p e, I m s p e → b (seqK (fun s p e => ∃ m', m' < m ∧ I m' s p e) Q) s p e) : itLoop b Q s p e := ⟨I, ⟨m, h0⟩, hr⟩
end
theorem aft_lo {np : Nat} {e : Env} {t : Nat} (h : t < np) : aft np e t = e t := if_pos (.inl h)
theorem aft_hi {np : Nat} {e : Env} {t : Nat} (h : np ≤ t) (h6 : t < 1000000) : aft np e t = keepS (e t) := if_neg (by omega)
theorem aftX_at (e : Env) (t : Nat) : aftX e t = keepS (e t) := rfl
theorem keepS_int (k : IntKind) (n : Int) : keepS (.int k n) = .int k n := rfl
theorem keepS_bool (b : Bool) : keepS (.bool b) = .bool b := rfl
theorem keepS_str (l : List UInt8) : keepS (.str l) = .str l := rfl
def IT1 := And.intro (@itv_skip) (And.intro (@itv_reg) (And.intro (@itv_seq) (And.intro (@itv_cond) (And.intro (@itv_block) (And.intro (@itv_loop) (And.intro (@itv_exit) (And.intro (@itv_ret) (@itOps_nil))))))))
def IT2 := And.intro (@itOps_op) (And.intro (@itOps_yld) (And.intro (@PS_false) (And.intro (@seqK_normal) (And.intro (@seqK_exit) (And.intro (@seqK_ret) (And.intro (@blkK_normal) (And.intro (@blkK_ret) (@blkK_exit))))))))
def IT3 := And.intro (@endK_normal) (And.intro (@endK_ret) (And.intro (@keepS_int) (And.intro (@keepS_bool) (And.intro (@keepS_str) (@aftX_at)))))
end Go.Sim
end
