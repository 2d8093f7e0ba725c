/- Texts of this claim, one behind the other. -/
import Derived.Test.YtcbhonddhmeibaaDoorM2
section
set_option linter.defProp false
namespace Go.Sim
open Go
def VC1 := (And.intro (And.intro (And.intro (And.intro @vc_skip @vc_reg) (And.intro @vc_dreg @vc_seq)) (And.intro (And.intro @vc_cond @vc_block) (And.intro @vc_loop @vc_exit))) (And.intro (And.intro (And.intro @vc_range @setPs_cons) (And.intro @setPs_nil @roundK_normal)) (And.intro (And.intro @roundK_exit @roundK_ret) (And.intro @vc_ret @thenK_normal))))
def VC2 := (And.intro (And.intro (And.intro (And.intro @thenK_exit @thenK_ret) (And.intro @blockK_normal @blockK_ret)) (And.intro (And.intro @blockK_exit @vcOps_nil) (And.intro @vcOps_cons @vcD_nil))) (And.intro (And.intro (And.intro @vcD_false @vcD_true) (And.intro @vcV_none @vcV_some)) (And.intro (And.intro @gateX_bool @gateX_tup) (And.intro @Sp_bool @Sp_tup))))
def VC3 := (And.intro (And.intro (And.intro (And.intro @retK_normalS @retK_retS) (And.intro @vcI_mv @vcI_pick)) (And.intro (And.intro @vcI_bin @vcI_eqs) (And.intro @vcI_eqb @vcI_un))) (And.intro (And.intro (And.intro @vcI_cvi @vcI_idc) (And.intro @vcI_fld @vcI_fldA)) (And.intro (And.intro @vcI_idxA @vcI_idxS) (And.intro @vcI_ld @vcI_slS))))
def VC4 := (And.intro (And.intro (And.intro (And.intro @vcI_slA @vcI_slM) (And.intro @vcI_ext @vcI_bld)) (And.intro (And.intro @vcI_bldF @vcI_len) (And.intro @vcI_lenS @vcI_min2))) (And.intro (And.intro (And.intro @vcI_max2 @vcI_mkf) (And.intro @vcI_isnil @vcI_bldR)) (And.intro (And.intro @vcI_box @vcI_boxF) (And.intro @vcI_new @vcI_newnil))))
def VC5 := (And.intro (And.intro (And.intro (And.intro @vcI_st @vcI_app) (And.intro @vcI_appS @vcI_appIn)) (And.intro (And.intro @vcI_appF @vcI_frz) (And.intro @vcI_slX @vcI_mks))) (And.intro (And.intro (And.intro @vcI_copy @vcI_clear) (And.intro @vcI_b2s @vcI_usd)) (And.intro (And.intro @vcI_ustr @vcI_call) (And.intro @vcI_pcall @ev_t))))
def VC6 := (And.intro (And.intro (And.intro (And.intro @ev_c @evO_some) (And.intro @evO_none @setD_some)) (And.intro (And.intro @setD_none @upd_apply) (And.intro @keepR_nil @keepR_cons))) (And.intro (And.intro (And.intro @dropR_nil @dropR_cons) (And.intro @List.contains_cons.{0} @List.contains_nil.{0})) (And.intro (And.intro @Bool.or_false @Bool.false_or) (And.intro @Bool.or_true @Bool.true_or))))
def VC7 := (And.intro (And.intro (And.intro (And.intro @Option.getD_some.{0} @upd_upd) (And.intro @getD_map_enc @Bool.and_true)) (And.intro (And.intro @Bool.false_xor @Bool.true_xor) (And.intro @Bool.xor_false @natCast_succ_sub))) (And.intro (And.intro (And.intro @Int.toNat_natCast_add_one @List.map_cons.{0, 0}) (And.intro @List.map_nil.{0, 0} @aLen_sl)) (And.intro (And.intro @okLen_sl @okIdxA_sl) (And.intro @aIdxA_sl @aSlA_sl))))
def VC8 := (And.intro (And.intro (And.intro (And.intro @okSlA_sl @Rd_sl) (And.intro @nil_sl @wrap_i64)) (And.intro (And.intro @aBin_add @okBin_add) (And.intro @aBin_sub @okBin_sub))) (And.intro (And.intro (And.intro @aBin_mul @okBin_mul) (And.intro @aBin_quo @okBin_quo)) (And.intro (And.intro @aBin_rem @okBin_rem) (And.intro @aBin_shl @okBin_shl))))
def VC9 := (And.intro (And.intro (And.intro (And.intro @aBin_shr @okBin_shr) (And.intro @aBin_eql @okBin_eql)) (And.intro (And.intro @aBin_neq @okBin_neq) (And.intro @aBin_lss @okBin_lss))) (And.intro (And.intro (And.intro @aBin_leq @okBin_leq) (And.intro @aBin_gtr @okBin_gtr)) (And.intro (And.intro @aBin_geq @okBin_geq) (And.intro @aBin_and @okBin_and))))
def VC10 := (And.intro (And.intro (And.intro (And.intro @aBin_or @okBin_or) (And.intro @aBin_xor @okBin_xor)) (And.intro (And.intro @aBin_andNot @okBin_andNot) (And.intro @aBinS_add @okBinS_add))) (And.intro (And.intro (And.intro @aBinS_eql @okBinS_eql) (And.intro @aBinS_neq @okBinS_neq)) (And.intro (And.intro @aBinS_lss @okBinS_lss) (And.intro @aBinS_geq @okBinS_geq))))
def VC11 := (And.intro (And.intro (And.intro (And.intro @aUn_not @okUn_not) (And.intro @aUn_neg @okUn_neg)) (And.intro (And.intro @aEqb_bool @okEqb_bool) (And.intro @aEqs_agg @okEqs_agg))) (And.intro (And.intro (And.intro @aCvi_int @okCvi_int) (And.intro @aPick_bool @okPick_bool)) (And.intro (And.intro @aFld_agg @okFld_agg) (And.intro @cutV_true @cutV_false))))
def VC12 := (And.intro (And.intro (And.intro (And.intro @aFldA_pin @okFldA_pin) (And.intro @aFldA_ptr @okFldA_ptr)) (And.intro (And.intro @deVp_vp @deVp_ptr) (And.intro @deVp_pin @aFldA_vp))) (And.intro (And.intro (And.intro @okFldA_vp @okLd_vp) (And.intro @aLd_vp @nil_vp)) (And.intro (And.intro @cells_vp @isV_vp) (And.intro @stE_vp @aIdxA_osl))))
def VC13 := (And.intro (And.intro (And.intro (And.intro @okIdxA_osl @aIdxA_slc) (And.intro @okIdxA_slc @aIdxS_str)) (And.intro (And.intro @okIdxS_str @aLd_pin) (And.intro @okLd_pin @okLd_ptr))) (And.intro (And.intro (And.intro @aLd_ptr @ldO_some) (And.intro @aExt_tup @okExt_tup)) (And.intro (And.intro @aLen_osl @okLen_osl) (And.intro @aLen_slc @okLen_slc))))
def VC14 := (And.intro (And.intro (And.intro (And.intro @aLen_emp @okLen_emp) (And.intro @aLenS_str @okLenS_str)) (And.intro (And.intro @aMin_int @aMax_int) (And.intro @ok2i_int @aSlS_str))) (And.intro (And.intro (And.intro @okSlS_str @loOf_int) (And.intro @loOf_none @hiOf_int)) (And.intro (And.intro @hiOf_none @okB_int) (And.intro @okB_none @aSlA_osl))))
def VC15 := (And.intro (And.intro (And.intro (And.intro @okSlA_osl @aSlA_emp) (And.intro @okSlA_emp @okSlM_osl)) (And.intro (And.intro @nil_slc @nil_emp) (And.intro @nil_osl @nil_snil))) (And.intro (And.intro (And.intro @nil_ptr @nil_pin) (And.intro @nil_pnil @nil_fn)) (And.intro (And.intro @nil_fnil @stE_ptr) (And.intro @appE_emp @appE_osl))))
def VC16 := (And.intro (And.intro (And.intro (And.intro @appFE_emp @appFE_osl) (And.intro @frzE_emp @frzE_slc)) (And.intro (And.intro @frzE_sl @frzE_osl) (And.intro @Rd_slc @Rd_emp))) (And.intro (And.intro (And.intro @cells_agg @cells_int) (And.intro @isV_int @cells_bool)) (And.intro (And.intro @isV_bool @cells_str) (And.intro @isV_str @cells_slc))))
def VC17 := (And.intro (And.intro (And.intro (And.intro @isV_slc @cells_emp) (And.intro @isV_emp @cells_osl)) (And.intro (And.intro @isV_osl @cells_ptr) (And.intro @isV_ptr @cells_pin))) (And.intro (And.intro (And.intro @isV_pin @cells_fn) (And.intro @isV_fn @isV_agg)) (And.intro (And.intro @cells_sl @isV_sl) (And.intro @callE_fn @allOK_nil))))
def VC18 := (And.intro (And.intro (And.intro (And.intro @allOK_cons @resOK_tmp) (And.intro @resOK_cell @resV_tmp)) (And.intro (And.intro @resV_cell @retV_one) (And.intro @retV_two @retV_nil))) (And.intro (And.intro (And.intro @initE_at @initE_gl) (And.intro @Br_true @Br_false)) (And.intro (And.intro @condOn_br @Rd_oslE) (And.intro @appInE_osl @slXE_osl))))
def VC19 := (And.intro (And.intro (And.intro (And.intro @mksE_int @copyE_osl) (And.intro @clearE_osl @usdE_emp)) (And.intro (And.intro @usdE_osl @ustrE_anyp) (And.intro @ustrE_ptr @List.set_cons_zero.{0}))) (And.intro (And.intro (And.intro @List.set_cons_succ.{0} @List.set_nil.{0}) (And.intro @List.getD_cons_zero.{0} @List.getD_cons_succ.{0})) (And.intro (And.intro @List.headD_cons.{0} @List.drop_zero.{0}) (And.intro @List.drop_succ_cons.{0} @List.take_succ_cons.{0}))))
def VC20 := (And.intro (And.intro (And.intro (And.intro @List.take_zero.{0} @List.length_cons.{0}) (And.intro @List.length_nil.{0} @List.length_map.{0, 0})) (And.intro (And.intro @List.nil_append.{0} @List.cons_append.{0}) (And.intro @List.append_nil.{0} @List.mem_cons.{0}))) (And.intro (And.intro (And.intro @List.not_mem_nil.{0} @or_false) (And.intro @or_true @Int.toNat_zero)) (And.intro (And.intro @List.take_length.{0} @List.isEmpty_cons.{0}) (And.intro @List.isEmpty_nil.{0} @Nat.le_refl))))
def VC21 := (And.intro (And.intro (And.intro (And.intro @Int.toNat_natCast @true_and) (And.intro @and_true @Bool.true_eq_false)) (And.intro (And.intro @Bool.false_eq_true @Bool.not_true) (And.intro @Bool.not_false @false_implies))) (And.intro (And.intro (And.intro @true_implies @not_true_eq_false) (And.intro @not_false_eq_true @AVal.int.injEq)) (And.intro (And.intro @AVal.bool.injEq @AVal.str.injEq) (And.intro @Option.some.injEq.{0} @imp_self))))
def VC22 := (And.intro (And.intro (And.intro (And.intro @and_self @Nat.zero_add) (And.intro @Nat.add_zero @Nat.sub_zero)) (And.intro (And.intro @vcI_mkm @vcI_mup) (And.intro @vcI_lkp @mupE_mpr))) (And.intro (And.intro (And.intro @okLkp_mpr @aLkp_mpr) (And.intro @entsOf_some @isM_m)) (And.intro (And.intro @ents_m @setM_m) (And.intro @isKeyA_int @isKeyA_str))))
def VC23 := (And.intro (And.intro (And.intro (And.intro @isV_mpr @cells_mpr) (And.intro @aFound_int @aFound_int2)) (And.intro (And.intro @aFound_set @all_eM) (And.intro @mFind_eM @mPut_eM))) (And.intro (And.intro (And.intro @all_eMs @mFind_eMs) (And.intro @mPut_eMs @OTy.lit)) (And.intro (And.intro @vcI_s2b @s2bE_str) (And.intro @vcI_rng @rngE_str))))
def VC24 := (And.intro @vcI_nxt @nxtE_ptr)
def VCA := (And.intro (And.intro (And.intro (And.intro VC1 (And.intro VC2 VC3)) (And.intro VC4 (And.intro VC5 VC6))) (And.intro (And.intro VC7 (And.intro VC8 VC9)) (And.intro VC10 (And.intro VC11 VC12)))) (And.intro (And.intro (And.intro VC13 (And.intro VC14 VC15)) (And.intro VC16 (And.intro VC17 VC18))) (And.intro (And.intro VC19 (And.intro VC20 VC21)) (And.intro VC22 (And.intro VC23 VC24)))))
end Go.Sim
end
section
namespace Go.Sim
open Go
theorem Dat.rel {g g' : Ghost} {w : World} (hf : ∀ b, g.fz b → g'.fz b) {a : AVal} (hd : Dat a) : ∀ {v : Value}, VRel g w v a → VRel g' w v a := by
  induction hd with
  | prim u => intro v hv; cases hv; exact .prim _
  | int k n => intro v hv; cases hv; exact .int _ _
  | bool b => intro v hv; cases hv; exact .bool _
  | str l => intro v hv; rw [hv.str_inv']; exact VRel.str' l
  | agg cs h ih =>
    intro v hv
    obtain ⟨vs, rfl, hl, h1, h2⟩ := hv.agg_inv
    exact .agg vs cs hl h1 fun j u c hu hc => ih c (List.mem_of_getElem? hc) (h2 j u c hu hc)
  | slc es h ih =>
    intro v hv
    cases hv with
    | slc0 A c => exact .slc0 A c
    | slc ad n c sz _ us hn hc hsz hs hfz h1 h2 h3 => exact .slc ad n c sz es us hn hc hsz hs (hf _ hfz) h1 h2 fun i j e x he hx => ih e (List.mem_of_getElem? he) x (List.mem_of_getElem? hx) (h3 i j e x he hx)
  | emp => intro v hv; cases hv with
    | emp0 => exact .emp0
    | empS ad hs hfz hc => exact .empS ad hs (hf _ hfz) hc
  | pin cs h ih =>
    intro v hv
    obtain ⟨ad, rfl, hs, hfz, hc⟩ := hv.pin_inv
    exact VRel.pin_mk hs (hf _ hfz) fun j b hb => by
      obtain ⟨u, h1, h2, h3⟩ := hc j b hb
      exact ⟨u, h1, h2, ih b (List.mem_of_getElem? hb) h3⟩
  | tup cs h ih =>
    intro v hv
    obtain ⟨vs, rfl, hl, h2⟩ := hv.tup_inv
    exact .tup vs cs hl fun j u c hu hc => ih c (List.mem_of_getElem? hc) (h2 j u c hu hc)
  | dead => intro v hv; exact .dead v
structure IS (P : PG) (n : Nat) (e : Env) (g : Ghost) (W : World) (a : Act) : Prop where
  E : ERel n e g W a
  D : a.defers = []
  N : g.nxt = 0
  F : ∀ b, g.fz b → b < W.heap.size
  G : GRel P.gl g W
theorem IS.H {P : PG} {n : Nat} {e : Env} {g : Ghost} {W : World} {a : Act} (s : IS P n e g W a) : HRel (fun _ => none) g W :=
  ⟨(fun r o hr => by cases hr), (fun r r' o o' hr => by cases hr), s.F, (fun b ⟨r, hr, _⟩ => by rw [s.N] at hr; omega), .none⟩
def Ghost.bare (g : Ghost) : Ghost := { g with nxt := 0 }
structure Fgt (e e' : Env) : Prop where
  lo : ∀ t, t < 1000000 → e' t = .dead ∨ (e' t = e t ∧ Dat (e t))
  hi : ∀ t, 1000000 ≤ t → e' t = e t ∧ Dat (e t)
section
variable {P : PG} {n : Nat} {ann : Ann} {W : World} {g : Ghost} {a : Act} {e : Env}
theorem IS.next {a' : Act} {W' : World} {e1 e2 : Env} {h1 : Heap} {g1 : Ghost} (s : IS P n e g W a) {ms : List Nat} (S : St ms n g W e1 h1 g1 a' W') (hd : a'.defers = []) (hf : Fgt e1 e2) : IS P n e2 g1.bare W' a' ∧ W.grownBy W' none ∧ ∀ b, g.fz b → g1.bare.fz b := by
  have hb : ∀ b, g1.fz b → g1.bare.fz b := fun b h => h
  refine ⟨⟨⟨by rw [hd]; exact DOK.nil _ _, S.E.size, S.E.bnd, fun t ht => ?_, fun b => ?_⟩, hd, rfl, fun b h => S.H.fz b h, fun b => ?_⟩, ⟨S.S.os, S.S.tape, S.S.output, S.S.size, fun k hk _ => S.S.own k hk (.inl fun ⟨r, hr, _⟩ => by rw [s.N] at hr; omega)⟩, S.S.fz⟩
  · rcases hf.lo t ht with h | ⟨h, hdat⟩
    · rw [h]; exact .dead _
    · rw [h]; exact hdat.rel hb (S.E.slot t ht)
  · obtain ⟨h, hdat⟩ := hf.hi (1000000 + b) (by omega)
    rw [h]; exact hdat.rel hb (S.E.glo b)
  · have := (s.G.step S.S.toGStep) b
    exact ⟨this.1, this.1.rel hb this.2⟩
end
end Go.Sim
end
section
set_option linter.defProp false
namespace Go.Sim
open Go
theorem VRel.heap {g : Ghost} {w w' : World} (hk : ∀ b, g.fz b → w'.heap[b]? = w.heap[b]?) {v : Value} {a : AVal} (h : VRel g w v a) : VRel g w' v a := by
  have hcell : ∀ ad : Addr, g.fz ad.block → w'.cell? ad = w.cell? ad := fun ad hb => World.cell?_of_block (hk _ hb)
  induction h with
  | prim v => exact .prim v
  | int k n => exact .int k n
  | bool b => exact .bool b
  | str s => exact .str s
  | agg vs cs hl h1 _ ih => exact .agg vs cs hl h1 ih
  | slc0 A c => exact .slc0 A c
  | slc ad n c sz es us hn hc hsz hsp hf h1 h2 _ ih =>
    exact .slc ad n c sz es us hn hc hsz hsp hf (fun i j e a he ha => (hcell _ (by rw [Addr.block_add]; exact hf)).trans (h1 i j e a he ha)) h2 ih
  | emp0 => exact .emp0
  | empS ad hsp hf hc => exact .empS ad hsp hf (by rw [hk _ hf]; exact hc)
  | osl0 r sz hr hc hz => exact .osl0 r sz hr hc hz
  | osl r sz i n cap off hr hz hc hm hi ho => exact .osl r sz i n cap off hr hz hc hm hi ho
  | ptr r i j hr => exact .ptr r i j hr
  | vp r j hr hb hc => exact .vp r j hr hb hc
  | mpr r hr => exact .mpr r hr
  | anyp q => exact .anyp q
  | pin ad cs us hsp hf h1 h2 _ ih => exact .pin ad cs us hsp hf (fun j a ha => (hcell _ (by rw [Addr.block_add]; exact hf)).trans (h1 j a ha)) h2 ih
  | fn f fs cs as bs hf hc _ _ ih1 ih2 => exact .fn f fs cs as bs hf hc ih1 ih2
  | tup vs as hl _ ih => exact .tup vs as hl ih
  | dead v => exact .dead v
inductive IOp | op (s : SOp) | yld (dst : Option Nat) (f : SX) (args : List SX)
inductive ICode : Type
  | skip
  | reg (ops : List IOp)
  | seq (a b : ICode)
  | cond (x : SX) (a b : ICode)
  | block (id : Nat) (c : ICode)
  | loop (c : ICode)
  | exit (id : Nat)
  | ret
def PG.dark (P : PG) : PG := ⟨P.p, fun _ => .dead⟩
def PS (P : PG) (s : Bool) : PG := if s = true then P.dark else P
section
variable {X : Type}
def seqK (N : Bool → List X → Env → Prop) (Q : SExit → Bool → List X → Env → Prop) : SExit → Bool → List X → Env → Prop
  | .normal, s, p, e => N s p e
  | x, s, p, e => Q x s p e
def itLoop (body : (SExit → Bool → List X → Env → Prop) → Bool → List X → Env → Prop) (Q : SExit → Bool → List X → Env → Prop) (s : Bool) (p : List X) (e : Env) : Prop :=
  ∃ I : Nat → Bool → List X → Env → Prop, (∃ m, I m s p e) ∧ ∀ m s p e, I m s p e → body (seqK (fun s p e => ∃ m', m' < m ∧ I m' s p e) Q) s p e
end
structure IR (pu : Bool) {X : Type} (P : PG) (n np : Nat) (enc : X → List AVal) (g0 : Ghost) (w0 : World) (e0 : Env) (J Jx : List { p : X × Array Value // VRelL g0 w0 p.2 (enc p.1) } → World → Prop) (s : Bool) (p : List X) (e : Env) (a : Act) (W : World) : Prop where
  D : a.defers = []
  B : ∃ gs Ws g p', gs.nxt = 0 ∧ St [] n gs Ws e (fun _ => none) g a W ∧ GRel (PS P s).gl gs Ws ∧ p'.map (fun q => q.1.1) = p ∧ (s = true → Jx p' Ws) ∧
    (s = false → J p' Ws ∧ (∀ b, g0.fz b → gs.fz b ∧ Ws.heap[b]? = w0.heap[b]?) ∧ (∀ b, e (1000000 + b) = P.gl b) ∧ (∀ t, t < np → e t = e0 t ∧ VRel g0 w0 (a.tmps.getD t undef) (e0 t)) ∧ (pu = true → ∀ b, g.fz b → g0.fz b))
section
variable {pu : Bool} {X : Type} {P : PG} {ann : Ann} {n np N : Nat} {enc : X → List AVal} {g0 : Ghost} {w0 : World} {e0 : Env} {l B : Nat} {J Jx : List { p : X × Array Value // VRelL g0 w0 p.2 (enc p.1) } → World → Prop}
def IQ (pu : Bool) {X : Type} (P : PG) (n np : Nat) (enc : X → List AVal) (g0 : Ghost) (w0 : World) (e0 : Env) (J Jx : List { p : X × Array Value // VRelL g0 w0 p.2 (enc p.1) } → World → Prop) (Q : SExit → Bool → List X → Env → Prop) (x : Exit) (a : Act) (W : World) : Prop :=
  ∃ x' s p e, x = exitOf x' ∧ Q x' s p e ∧ IR pu P n np enc g0 w0 e0 J Jx s p e a W
theorem IQ.in {Q : SExit → Bool → List X → Env → Prop} : ¬ LetsOut (IQ pu P n np enc g0 w0 e0 J Jx Q) := by
  rintro ⟨a, w, x', s, p, e, hx, _⟩
  cases x' <;> cases hx
end
section
variable {X : Type} {P : PG} {np : Nat} {yv : AVal} {enc : X → List AVal} {N : Nat} {Q : SExit → Bool → List X → Env → Prop} {s : Bool} {p : List X} {e : Env} {K : Bool → List X → Env → Prop}
variable {M : Bool → List X → Env → Prop}
theorem itLoop.intro {b : (SExit → Bool → List X → Env → Prop) → Bool → List X → Env → Prop} (I : Nat → Bool → List X → Env → Prop) (m : Nat) (h0 : I m s p e) (hr : ∀ m s p e, I m s p e → b (seqK (fun s p e => ∃ m', m' < m ∧ I m' s p e) Q) s p e) : itLoop b Q s p e := ⟨I, ⟨m, h0⟩, hr⟩
end
end Go.Sim
end
section
namespace Go.Sim
open Go
section
variable {P : PG} {g : Ghost} {w : World} {h h0 h1 : Heap}
def Ghost.frzs (g : Ghost) (h1 : Heap) : Ghost := { g with fz := fun b => g.fz b ∨ ∃ r o, h1 r = some o ∧ g.cap r ≠ 0 ∧ g.eta r = b }
theorem GS.frzs (H : HRel h g w) (hs : Sub h1 h) : GS g w (g.frzs h1) w where
  nxt := Nat.le_refl _
  eta _ _ := rfl
  bo _ _ := rfl
  cap _ _ := rfl
  sz _ _ := rfl
  fz b hb := .inl hb
  keep _ _ := rfl
  os := rfl
  tape := rfl
  output := rfl
  size := Nat.le_refl _
  own _ _ _ := rfl
  new _ _ ho := ho
  fzn b _ hn hf := by
    rcases hf with hf | ⟨r, o, hr, hc, he⟩
    · exact hf
    · exact absurd ⟨r, (H.obj r o (hs r o hr)).lt, hc, he⟩ hn
  fzc b hf := by
    rcases hf with hf | ⟨r, o, hr, hc, he⟩
    · exact .inl hf
    · refine .inr fun ⟨ob, hob, hcl⟩ => ?_
      obtain ⟨cur, t, f, hw⟩ := H.ow b ⟨r, (H.obj r o (hs r o hr)).lt, hc, he⟩
      rw [hw] at hob
      cases hob
      simp [Obj.isCells] at hcl
theorem HRel.frzs (H : HRel h g w) (h0s : Sub h0 h) (h1s : Sub h1 h) (hd : ∀ r o, h1 r = some o → h0 r = none) : HRel h0 (g.frzs h1) w := by
  have S := GS.frzs H h1s
  refine ⟨fun r o hr => ?_, fun r r' o o' hr hr' => H.inj r r' o o' (h0s r o hr) (h0s r' o' hr'), fun b hb => ?_, fun b hb => H.ow b hb, H.mob.step S fun _ _ _ ⟨sz, cs, ht⟩ => ⟨sz, cs, h0s _ _ ht⟩⟩
  · have O := H.obj r o (h0s r o hr)
    refine ⟨O.lt, O.sz, O.pos, O.len, O.le, ?_⟩
    by_cases hc0 : g.cap r = 0
    · exact .inl hc0
    rcases O.block with hc | ⟨hlt, hnf, cur, hcur, hsz, hcell⟩
    · exact .inl hc
    · refine .inr ⟨hlt, ?_, cur, hcur, hsz, fun i j e a he ha => ?_⟩
      · rintro (hf | ⟨r', o', hr', hc', he'⟩)
        · exact hnf hf
        · have e := H.inj r' r o' o (h1s r' o' hr') (h0s r o hr) hc' hc0 he'
          subst e
          rw [hd r' o' hr'] at hr
          cases hr
      · obtain ⟨u, hu, h1', h2⟩ := hcell i j e a he ha
        exact ⟨u, hu, h1', h2.step S.toGStep⟩
  · rcases hb with hb | ⟨r, o, hr, hc, he⟩
    · exact H.fz b hb
    · rcases (H.obj r o (h1s r o hr)).block with h0 | ⟨hlt, _⟩
      · exact absurd h0 hc
      · rw [← he]; exact hlt
theorem Vw.relF (H : HRel h g w) (hs : Sub h1 h) {a b : AVal} (hv : Vw h1 a b) : ∀ {v : Value}, VRel g w v a → VRel (g.frzs h1) w v b := by
  have S := GS.frzs H hs
  induction hv with
  | refl a => intro v V; exact V.step S.toGStep
  | emp =>
    intro v V
    obtain ⟨A, rfl, _⟩ := V.emp_inv
    exact .slc0 A 0
  | agg as bs hl hh ih =>
    intro v V
    obtain ⟨vs, rfl, hvl, h1, h2⟩ := V.agg_inv
    refine .agg vs bs (hvl.trans hl) h1 fun j u b hu hb => ?_
    have hj : j < as.length := by rw [hl]; exact (List.getElem?_eq_some_iff.1 hb).1
    exact ih j _ b (List.getElem?_eq_getElem hj) hb (h2 j u _ hu (List.getElem?_eq_getElem hj))
  | slc es fs hl hle hh ih =>
    intro v V
    obtain ⟨A, c, rfl, hin⟩ := V.slc_inv
    by_cases hp : 0 < es.length
    · obtain ⟨hc, ad, sz, rfl, hsp, hf, hsz, hcell⟩ := hin hp
      rw [hl]
      refine .slc_mk (sz := sz) (by omega) (fun f hf' => ?_) hsp (.inl hf) fun i j f x hi hx => ?_
      · obtain ⟨i, hi⟩ := List.mem_iff_getElem?.1 hf'
        have hil : i < es.length := by rw [hl]; exact (List.getElem?_eq_some_iff.1 hi).1
        rw [← hle i _ f (List.getElem?_eq_getElem hil) hi]
        exact hsz _ (List.getElem_mem hil)
      · have hil : i < es.length := by rw [hl]; exact (List.getElem?_eq_some_iff.1 hi).1
        have he := List.getElem?_eq_getElem hil
        have hjl : j < es[i].length := by rw [hle i _ f he hi]; exact (List.getElem?_eq_some_iff.1 hx).1
        obtain ⟨u, hu, h1, h2⟩ := hcell i j _ _ he (List.getElem?_eq_getElem hjl)
        exact ⟨u, hu, h1, ih i j _ f _ x he hi (List.getElem?_eq_getElem hjl) hx h2⟩
    · have h0 : es.length = 0 := by omega
      have hfs : fs = [] := List.eq_nil_of_length_eq_zero (by omega)
      subst hfs
      rw [h0]
      exact .slc0 A c
  | osl r sz i n o fs hr hle hl hll hh ih =>
    intro v V
    obtain ⟨hrl, hsz, hc⟩ := V.osl_inv
    have O := H.obj r o (hs r o hr)
    by_cases hn : n = 0
    · subst hn
      have hfs : fs = [] := List.eq_nil_of_length_eq_zero hl
      subst hfs
      rcases hc with ⟨rfl, _⟩ | ⟨cap, off, rfl, _⟩
      · exact .slc0 _ _
      · exact .slc0 _ _
    · rcases hc with ⟨_, _, h0, _⟩ | ⟨cap, off, rfl, hnc, hm, hi, hoff⟩
      · exact absurd h0 hn
      · have hof := hoff (by omega)
        rcases O.block with h0 | ⟨hlt, _, cur, hcur, _, hcell⟩
        · have := O.le; omega
        · rw [← hl]
          refine .slc_mk (sz := sz) (by omega) hll rfl (.inr ⟨r, o, hr, by have := O.le; omega, rfl⟩) fun k j f x hk hx => ?_
          have hkn : k < n := by rw [← hl]; exact (List.getElem?_eq_some_iff.1 hk).1
          have hki : i + k < o.es.length := by omega
          have he := List.getElem?_eq_getElem hki
          have hjl : j < o.es[i + k].length := by
            rw [O.len _ (List.getElem_mem hki), ← O.sz, hsz, ← hll f (List.mem_of_getElem? hk)]
            exact (List.getElem?_eq_some_iff.1 hx).1
          obtain ⟨u, hu, h1, h2⟩ := hcell _ j _ _ he (List.getElem?_eq_getElem hjl)
          refine ⟨u, ?_, h1, ih k j _ f _ x he hk (List.getElem?_eq_getElem hjl) hx h2⟩
          rw [Addr.add_lit, hcur.cell, ← hu, hof, ← O.sz, hsz, Nat.add_mul]
          congr 1; omega
  | ptr r i j o fs hr hi hl hh ih =>
    intro v V
    obtain ⟨hrl, rfl⟩ := V.ptr_inv
    have O := H.obj r o (hs r o hr)
    have hcap : g.cap r ≠ 0 := by have := O.le; omega
    refine VRel.pin_mk rfl (.inr ⟨r, o, hr, hcap, rfl⟩) fun k b hb => ?_
    have hkl : k < ((o.es.getD i []).drop j).length := by
      have := (List.getElem?_eq_some_iff.1 hb).1
      rw [List.length_drop]
      omega
    have hka := List.getElem?_eq_getElem hkl
    obtain ⟨u, hu, h1, h2⟩ := O.cells hi j k _ hka
    exact ⟨u, hu, h1, ih k _ b hka hb h2⟩
  | vp r j b hh ih => intro v V; exact ih V.deVp
inductive VwT (h : Heap) : AVal → AVal → Prop
  | one (a b : AVal) (hv : Vw h a b) : VwT h a b
  | tup (as bs : List AVal) (hl : as.length = bs.length) (hh : ∀ (j : Nat) (a b : AVal), as[j]? = some a → bs[j]? = some b → Vw h a b) : VwT h (.tup as) (.tup bs)
theorem VwT.relF (H : HRel h g w) (hs : Sub h1 h) {a b : AVal} (hv : VwT h1 a b) {v : Value} (V : VRel g w v a) : VRel (g.frzs h1) w v b := by
  cases hv with
  | one a b hv => exact hv.relF H hs V
  | tup as bs hl hh =>
    obtain ⟨vs, rfl, hvl, h2⟩ := V.tup_inv
    refine .tup vs bs (hvl.trans hl) fun j u b hu hb => ?_
    have hj : j < as.length := by rw [hl]; exact (List.getElem?_eq_some_iff.1 hb).1
    exact (hh j _ b (List.getElem?_eq_getElem hj) hb).relF H hs (h2 j u _ hu (List.getElem?_eq_getElem hj))
theorem DCalls.outV {f : Nat} {args : List AVal} {K0 K : AVal → Heap → Prop} (hd : DCalls P f args h K0)
    (hk : ∀ a h', K0 a h' → ∃ h0 h1 b, Sub h0 h' ∧ Sub h1 h' ∧ (∀ r o, h1 r = some o → h0 r = none) ∧ VwT h1 a b ∧ K b h0) : DCalls P f args h K := by
  refine ⟨hd.1, fun g w vs H GR V => (hd.2 g w vs H GR V).mono fun e w' ⟨v', a, h', g', he, k0, H', Va, S⟩ => ?_⟩
  obtain ⟨h0, h1, b, s0, s1, hdj, hv, k⟩ := hk a h' k0
  exact ⟨v', b, h0, _, he, k, H'.frzs s0 s1 hdj, hv.relF H' s1 Va, S.trans (GS.frzs H' s1)⟩
def newH (h h' : Heap) : Heap := fun r => match h r with
  | none => h' r
  | some _ => none
theorem newH_none {h h' : Heap} {r : Nat} (hr : h r = none) : newH h h' r = h' r := by unfold newH; rw [hr]
theorem newH_sub (h h' : Heap) : Sub (newH h h') h' := fun r o hr => by
  unfold newH at hr
  cases hh : h r with
  | none => rw [hh] at hr; exact hr
  | some x => rw [hh] at hr; cases hr
theorem newH_disj (h h' : Heap) : ∀ r o, newH h h' r = some o → h r = none := fun r o hr => by
  unfold newH at hr
  cases hh : h r with
  | none => rfl
  | some x => rw [hh] at hr; cases hr
theorem PCalls.outV {f : Nat} {args : List AVal} {v : AVal} (hd : ∀ h, DCalls P f args h fun a h' => Sub h h' ∧ VwT (newH h h') a v) : PCalls P f args v := fun h =>
  (hd h).outV fun _ h' ⟨S, hv⟩ => ⟨h, newH h h', v, S, newH_sub h h', newH_disj h h', hv, rfl, rfl⟩
theorem Vw.agg' {as bs : List AVal} (hh : F2 (Vw h) as bs) : Vw h (.agg as) (.agg bs) := .agg as bs hh.len hh.get
theorem VwT.tup' {as bs : List AVal} (hh : F2 (Vw h) as bs) : VwT h (.tup as) (.tup bs) := .tup as bs hh.len hh.get
theorem Vw.osl0 {r sz n : Nat} {o : AObj} {fs : List (List AVal)} (hr : h r = some o) (hl : fs.length = n) (hle : n ≤ o.es.length) (hll : ∀ f ∈ fs, f.length = sz) (hh : F2 (F2 (Vw h)) (o.es.take n) fs) : Vw h (.osl r sz 0 n) (.slc fs) := by
  refine .osl r sz 0 n o fs hr (by omega) hl hll fun k j e f a b he hf ha hb => ?_
  rw [Nat.zero_add] at he
  have hk : k < n := by rw [← hl]; exact (List.getElem?_eq_some_iff.1 hf).1
  have he' : (o.es.take n)[k]? = some e := by rw [List.getElem?_take, if_pos hk]; exact he
  exact (hh.get k e f he' hf).get j a b ha hb
theorem F2.refl {α : Type} {R : α → α → Prop} (hr : ∀ a, R a a) : ∀ l : List α, F2 R l l
  | [] => .nil
  | a :: l => .cons (hr a) (F2.refl hr l)
end
end Go.Sim
end
